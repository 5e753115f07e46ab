/-
  Texts of this proof, one behind the other (part 7).
-/
import Derived.Test.YthkddbonmfoaaaaQ6
import Derived.Laws.OwnMore
import Derived.Still
import Derived.BigRegion
/-
  Walks: what the reference draws of teams: whatever it is.-/
namespace Go.Proofs.Ythkddbonmfoaaaa
set_option linter.unusedVariables false
set_option linter.unusedSimpArgs false
open Go.RowKit

/-- A box of a team. -/
structure BxT (w : World) (b : Nat) (s : ByteArray) (x y : Int) (u : Value) : Prop where
  c0 : w.cell? ⟨b, 0, none⟩ = some (.string s)
  c1 : w.cell? ⟨b, 1, none⟩ = some (.int .i64 x)
  c2 : w.cell? ⟨b, 2, none⟩ = some (.int .i64 y)
  c3 : w.cell? ⟨b, 3, none⟩ = some u
  fr : ∀ o, w.frozen? ⟨b, o, none⟩ = false
  lt : b < w.heap.size
section
variable {w w' : World} {b g : Nat} {s : ByteArray} {x y : Int} {u : Value}
theorem BxT.keep (h : BxT w b s x y u) (hk : w'.heap[b]? = w.heap[b]?) (hs : w.heap.size ≤ w'.heap.size) : BxT w' b s x y u :=
  ⟨(World.cell?_of_block (a := ⟨b, 0, none⟩) hk).trans h.c0, (World.cell?_of_block (a := ⟨b, 1, none⟩) hk).trans h.c1, (World.cell?_of_block (a := ⟨b, 2, none⟩) hk).trans h.c2, (World.cell?_of_block (a := ⟨b, 3, none⟩) hk).trans h.c3, fun o => (World.frozen?_of_block (a := ⟨b, o, none⟩) hk).trans (h.fr o), Nat.lt_of_lt_of_le h.lt hs⟩
theorem BxT.only (h : BxT w b s x y u) (hO : Only g (g + 1) w w') (hne : b ≠ g) : BxT w' b s x y u := h.keep (hO.block b h.lt (by omega)) hO.size
theorem BxT.below (h : BxT w b s x y u) (hb : Below w.heap.size w w') : BxT w' b s x y u := h.keep (hb.block b h.lt) hb.size
theorem BxT.alloc (h : BxT w b s x y u) (o : Obj) : BxT (w.alloc o) b s x y u := h.keep (((Below.refl _ _).alloc (Nat.le_refl _) o).block b h.lt) (by simp)
theorem BxT.new (w : World) (s : ByteArray) (x y : Int) (u : Value) (t : TypeId) : BxT (w.alloc (.cells #[.string s, .int .i64 x, .int .i64 y, u] t)) w.heap.size s x y u :=
  ⟨World.cell?_alloc_new _ _ _ _, World.cell?_alloc_new _ _ _ _, World.cell?_alloc_new _ _ _ _, World.cell?_alloc_new _ _ _ _, fun o => by simp [go_sem], by simp⟩
theorem BxT.set1 (h : BxT w b s x y u) (x' : Int) : BxT (w.setCell ⟨b, 1, none⟩ (.int .i64 x')) b s x' y u := by
  have h0 := h.c0; have h1 := h.c1; have h2 := h.c2; have h3 := h.c3
  exact ⟨by simp [go_sem, h0, h1], by simp [go_sem, h1], by simp [go_sem, h2, h1], by simp [go_sem, h3, h1], fun o => by simp [go_sem, h.fr], by simp [World.setCell]; exact h.lt⟩
theorem BxT.set2 (h : BxT w b s x y u) (y' : Int) : BxT (w.setCell ⟨b, 2, none⟩ (.int .i64 y')) b s x y' u := by
  have h0 := h.c0; have h1 := h.c1; have h2 := h.c2; have h3 := h.c3
  exact ⟨by simp [go_sem, h0, h2], by simp [go_sem, h1, h2], by simp [go_sem, h2], by simp [go_sem, h3, h2], fun o => by simp [go_sem, h.fr], by simp [World.setCell]; exact h.lt⟩
theorem BxT.set3 (h : BxT w b s x y u) (u' : Value) : BxT (w.setCell ⟨b, 3, none⟩ u') b s x y u' := by
  have h0 := h.c0; have h1 := h.c1; have h2 := h.c2; have h3 := h.c3
  exact ⟨by simp [go_sem, h0, h3], by simp [go_sem, h1, h3], by simp [go_sem, h2, h3], by simp [go_sem, h3], fun o => by simp [go_sem, h.fr], by simp [World.setCell]; exact h.lt⟩
theorem BxT.other {b' : Nat} (h : BxT w b s x y u) (hne : b ≠ b') (o : Nat) (v : Value) : BxT (w.setCell ⟨b', o, none⟩ v) b s x y u := h.keep (Deep.blk_setCell_other _ _ _ _ hne) (by simp [World.setCell])
theorem IRow.aside {lo sz n : Nat} {v : Value} (h : IRow w lo sz v n) {a : Addr} (ha : a.block < lo) (z : Value) : IRow (w.setCell a z) lo sz v n :=
  h.keep (fun q h1 _ => Deep.blk_setCell_other _ _ _ _ (by omega)) (by simp [World.setCell])
end
/-- The same, not in block b. -/
def IRn (w : World) (lo b sz : Nat) (v : Value) (n : Nat) : Prop := IRow w lo sz v n ∧ ∀ q cap, v = .slice (some ⟨q, 0, none⟩) n cap → q ≠ b
section
variable {w w' : World} {lo b sz n g : Nat} {v : Value}
theorem IRow.lt_of (h : IRow w lo sz v n) {q cap : Nat} (e : v = .slice (some ⟨q, 0, none⟩) n cap) : q < w.heap.size := by
  subst e
  rcases h with ⟨h, _⟩ | ⟨q', cap', h0, h1, h2, h3, h4, h5⟩
  · cases h
  · cases h0
    exact h3
theorem IRow.form (h : IRow w lo sz v n) : ∃ A cap, v = .slice A n cap := by
  rcases h with ⟨rfl, rfl⟩ | ⟨q', cap', h0, _⟩
  · exact ⟨_, _, rfl⟩
  · exact ⟨_, _, h0⟩
theorem IRn.of (h : IRow w lo sz v n) (hb : ∀ q cap, v = .slice (some ⟨q, 0, none⟩) n cap → q ≠ b) : IRn w lo b sz v n := ⟨h, hb⟩
theorem IRn.row (h : IRn w lo b sz v n) : IRow w lo sz v n := h.1
theorem IRn.only (h : IRn w lo b sz v n) (hO : Only g (g + 1) w w') (hg : g < lo) : IRn w' lo b sz v n := ⟨h.1.only hO hg, h.2⟩
theorem IRn.alloc (h : IRn w lo b sz v n) (o : Obj) : IRn (w.alloc o) lo b sz v n := ⟨h.1.alloc o, h.2⟩
theorem IRn.set (h : IRn w lo b sz v n) (k : Nat) (z : Value) : IRn (w.setCell ⟨b, k, none⟩ z) lo b sz v n := by
  refine ⟨?_, h.2⟩
  rcases h.1 with h1 | ⟨q, cap, h0, h1, h2, h3, h4, h5⟩
  · exact .inl h1
  · have hq := h.2 q cap h0
    have hk : (w.setCell ⟨b, k, none⟩ z).heap[q]? = w.heap[q]? := Deep.blk_setCell_other _ _ _ _ hq
    refine .inr ⟨q, cap, h0, h1, h2, by simp [World.setCell]; exact h3, fun o => (World.frozen?_of_block (a := ⟨q, o, none⟩) hk).trans (h4 o), fun o ho => ?_⟩
    obtain ⟨x, hx⟩ := h5 o ho
    exact ⟨x, (World.cell?_of_block (a := ⟨q, o, none⟩) hk).trans hx⟩
end
/-- What a drawn team is. -/
def TmPost (s : ByteArray) (g m lo : Nat) (w : World) (e : Ending) (w' : World) : Prop := ∃ (x y : Int) (u : Value) (n : Nat), e = .returned (.agg #[.string s, .int .i64 x, .int .i64 y, u]) ∧ IRow w' lo 2 u n ∧ n ≤ 21 ∧ Cu w' g m ∧ Only g (g + 1) w w'
set_option maxRecDepth 100000 in
set_option maxHeartbeats 6400000 in
theorem team_any (s : ByteArray) (g m : Nat) (w : World) (h : Cu w g m) (hm : m < 90000000) :
    Calls Try.prog 42 #[.pointer (some ⟨g, 0, none⟩), .string s] w (TmPost s g (m + 300) w.heap.size w) := by
  have hg := h.lt
  have R0 := BxT.new w ⟨#[]⟩ 0 0 (.slice none 0 0) 26
  have O0 : Only g (g + 1) w (w.alloc (.cells #[.string ⟨#[]⟩, .int .i64 0, .int .i64 0, .slice none 0 0] 26)) := (Only.refl _ _ _).alloc _
  have C0 := h.alloc (.cells #[.string ⟨#[]⟩, .int .i64 0, .int .i64 0, .slice none 0 0] 26)
  obtain ⟨rb, hrb⟩ : ∃ rb, rb = w.heap.size := ⟨_, rfl⟩
  go_enter Try.func42, Try.ntmps42
  go_wp2_with fail
  refine (among_new g _ _ _ _ _ _ C0 (by simp) (by omega) (by rfl) (by decide) (by decide) (by simp [isI])).mono ?_
  rintro e w1 ⟨v1, rfl, _, C1, o1⟩
  have R1 := R0.only o1 (by omega)
  have O1 := O0.trans o1
  clear R0 O0 o1 C0
  go_wp2_with fail
  refine (among_new g _ _ _ _ _ _ C1 (by first | (with_reducible rfl) | simp) (by omega) (by rfl) (by decide) (by decide) (by simp [isI])).mono ?_
  rintro e w2 ⟨v2, rfl, _, C2, o2⟩
  have R2 := R1.only o2 (by omega)
  have O2 := O1.trans o2
  clear R1 O1 o2 C1
  go_wp2_with fail
  refine (checks_any g _ _ C2 (by omega)).mono ?_
  rintro e w3 ⟨u3, rfl, n3, I3, hn3, C3, o3⟩
  have R3 := hide (R2.only o3 (by omega))
  have O3 := O2.trans o3
  have hlt2 := R2.lt
  have I3' := hide (IRn.of (b := w3.heap.size) (I3.mono (show w.heap.size + 1 ≤ w2.heap.size by omega)) (fun q cap e => by have := I3.lt_of e; omega))
  obtain ⟨A3, c3, rfl⟩ := I3.form
  clear R2 O2 o3 C2 I3
  go_wp2_with fail
  obtain ⟨W4, hW4⟩ : ∃ W, W = w3.alloc (.cells #[.string s, .int .i64 v1, .int .i64 v2, .slice A3 n3 c3] 26) := ⟨_, rfl⟩
  obtain ⟨bb, hbb⟩ : ∃ bb, bb = w3.heap.size := ⟨_, rfl⟩
  have T4 : Hid (BxT W4 bb s v1 v2 (.slice A3 n3 c3)) := by show BxT _ _ _ _ _ _; rw [hW4, hbb]; exact BxT.new _ _ _ _ _ _
  have R4 : Hid (BxT W4 w.heap.size ⟨#[]⟩ 0 0 (.slice none 0 0)) := by show BxT _ _ _ _ _ _; rw [hW4]; exact R3.out.alloc _
  have C4 : Cu W4 g (m + 2 + 2 + 200) := by rw [hW4]; exact C3.alloc _
  have O4 : Only g (g + 1) w W4 := by rw [hW4]; exact O3.alloc _
  have I4 : Hid (IRn W4 (w.heap.size + 1) bb 2 (.slice A3 n3 c3) n3) := by show IRn _ _ _ _ _ _; rw [hW4, hbb]; exact I3'.out.alloc _
  have hbl : w.heap.size < bb ∧ g < bb ∧ w.heap.size ≠ g := by have := R3.out.lt; have := C3.lt; omega
  rw [← hW4, ← hbb]
  clear hW4 hbb R3 O3 I3' C3
  refine (one_any g _ _ _ C4 (by omega)).mono ?_
  rintro e w5 ⟨b5, rfl, C5, o5⟩
  have T5 := hide (T4.out.only o5 (by omega))
  have R5 := hide (R4.out.only o5 (by omega))
  have I5 := hide (I4.out.only o5 (by omega))
  have O5 := O4.trans o5
  clear T4 R4 I4 O4 o5 C4
  -- TEAM
  cases b5 with
  | false =>
    go_wp2_with fail
    refine (pick_any g _ _ _ C5 (by omega)).mono ?_
    rintro e w6 ⟨v6, rfl, hv6, C6, o6⟩
    have T6 := hide (T5.out.only o6 (by omega))
    have R6 := hide (R5.out.only o6 (by omega))
    have I6 := hide (I5.out.only o6 (by omega))
    have O6 := O5.trans o6
    clear T5 R5 I5 O5 o6 C5 hv6
    by_cases e0 : v6 = 0
    · subst e0
      go_wp2_with fail
      refine (among_new g _ _ _ _ _ _ C6 (by first | (with_reducible rfl) | simp) (by omega) (by rfl) (by decide) (by decide) (by simp [isI])).mono ?_
      rintro e wz ⟨vz, rfl, _, Cz, oz⟩
      have Tz := hide (T6.out.only oz (by omega))
      have Rz := hide (R6.out.only oz (by omega))
      have TF := hide (Tz.out.set1 vz)
      have RF := hide (Rz.out.other (b' := bb) (by omega) 1 (.int .i64 vz))
      have IF := hide ((I6.out.only oz (by omega)).set 1 (.int .i64 vz))
      have CF := Cz.set (p := ⟨bb, 1, none⟩) (by show g < bb; omega) (.int .i64 vz)
      have OF := (O6.trans oz).setNew (a := ⟨bb, 1, none⟩) (by show w.heap.size ≤ bb; omega) (.int .i64 vz)
      obtain ⟨t0, t1, t2, t3, tf, tl⟩ := Tz.out
      obtain ⟨r0, r1, r2, r3, rf, rl⟩ := Rz.out
      clear Tz Rz T6 R6 I6 O6 oz Cz C6
      have qd : True := trivial

      have IG : Hid (IRow (((((wz.setCell ⟨bb, 1, none⟩ (.int .i64 vz)).setCell ⟨w.heap.size, 0, none⟩ (.string s)).setCell ⟨w.heap.size, 1, none⟩ (.int .i64 vz)).setCell ⟨w.heap.size, 2, none⟩ (.int .i64 v2)).setCell ⟨w.heap.size, 3, none⟩ (.slice A3 n3 c3)) w.heap.size 2 (.slice A3 n3 c3) n3) := ((((IF.out.row.aside (by show w.heap.size < w.heap.size + 1; omega) _).aside (by show w.heap.size < w.heap.size + 1; omega) _).aside (by show w.heap.size < w.heap.size + 1; omega) _).aside (by show w.heap.size < w.heap.size + 1; omega) _).mono (by omega)
      have CG : Hid (Cu (((((wz.setCell ⟨bb, 1, none⟩ (.int .i64 vz)).setCell ⟨w.heap.size, 0, none⟩ (.string s)).setCell ⟨w.heap.size, 1, none⟩ (.int .i64 vz)).setCell ⟨w.heap.size, 2, none⟩ (.int .i64 v2)).setCell ⟨w.heap.size, 3, none⟩ (.slice A3 n3 c3)) g (m + 300)) := ((((CF.set (by show g < w.heap.size; omega) _).set (by show g < w.heap.size; omega) _).set (by show g < w.heap.size; omega) _).set (by show g < w.heap.size; omega) _).more (by omega)
      have OG : Hid (Only g (g + 1) w (((((wz.setCell ⟨bb, 1, none⟩ (.int .i64 vz)).setCell ⟨w.heap.size, 0, none⟩ (.string s)).setCell ⟨w.heap.size, 1, none⟩ (.int .i64 vz)).setCell ⟨w.heap.size, 2, none⟩ (.int .i64 v2)).setCell ⟨w.heap.size, 3, none⟩ (.slice A3 n3 c3))) := (((OF.setNew (by show w.heap.size ≤ w.heap.size; omega) _).setNew (by show w.heap.size ≤ w.heap.size; omega) _).setNew (by show w.heap.size ≤ w.heap.size; omega) _).setNew (by show w.heap.size ≤ w.heap.size; omega) _
      clear IF CF OF TF RF
      go_wp2_with fail
      exact bodyPost_ret (v := .agg #[.string s, .int .i64 vz, .int .i64 v2, .slice A3 n3 c3]) (by simp [results, Try.results42, go_sem, *]) rfl ⟨_, _, _, _, rfl, IG.out, by omega, CG.out, OG.out⟩
    · have d0 : (v6 == 0) = false := by simp [e0]
      by_cases e1 : v6 = 1
      · subst e1
        go_wp2_with fail
        refine (among_new g _ _ _ _ _ _ C6 (by first | (with_reducible rfl) | simp) (by omega) (by rfl) (by decide) (by decide) (by simp [isI])).mono ?_
        rintro e wz ⟨vz, rfl, _, Cz, oz⟩
        have Tz := hide (T6.out.only oz (by omega))
        have Rz := hide (R6.out.only oz (by omega))
        have TF := hide (Tz.out.set2 vz)
        have RF := hide (Rz.out.other (b' := bb) (by omega) 2 (.int .i64 vz))
        have IF := hide ((I6.out.only oz (by omega)).set 2 (.int .i64 vz))
        have CF := Cz.set (p := ⟨bb, 2, none⟩) (by show g < bb; omega) (.int .i64 vz)
        have OF := (O6.trans oz).setNew (a := ⟨bb, 2, none⟩) (by show w.heap.size ≤ bb; omega) (.int .i64 vz)
        obtain ⟨t0, t1, t2, t3, tf, tl⟩ := Tz.out
        obtain ⟨r0, r1, r2, r3, rf, rl⟩ := Rz.out
        clear Tz Rz T6 R6 I6 O6 oz Cz C6
        have qd : True := trivial

        have IG : Hid (IRow (((((wz.setCell ⟨bb, 2, none⟩ (.int .i64 vz)).setCell ⟨w.heap.size, 0, none⟩ (.string s)).setCell ⟨w.heap.size, 1, none⟩ (.int .i64 v1)).setCell ⟨w.heap.size, 2, none⟩ (.int .i64 vz)).setCell ⟨w.heap.size, 3, none⟩ (.slice A3 n3 c3)) w.heap.size 2 (.slice A3 n3 c3) n3) := ((((IF.out.row.aside (by show w.heap.size < w.heap.size + 1; omega) _).aside (by show w.heap.size < w.heap.size + 1; omega) _).aside (by show w.heap.size < w.heap.size + 1; omega) _).aside (by show w.heap.size < w.heap.size + 1; omega) _).mono (by omega)
        have CG : Hid (Cu (((((wz.setCell ⟨bb, 2, none⟩ (.int .i64 vz)).setCell ⟨w.heap.size, 0, none⟩ (.string s)).setCell ⟨w.heap.size, 1, none⟩ (.int .i64 v1)).setCell ⟨w.heap.size, 2, none⟩ (.int .i64 vz)).setCell ⟨w.heap.size, 3, none⟩ (.slice A3 n3 c3)) g (m + 300)) := ((((CF.set (by show g < w.heap.size; omega) _).set (by show g < w.heap.size; omega) _).set (by show g < w.heap.size; omega) _).set (by show g < w.heap.size; omega) _).more (by omega)
        have OG : Hid (Only g (g + 1) w (((((wz.setCell ⟨bb, 2, none⟩ (.int .i64 vz)).setCell ⟨w.heap.size, 0, none⟩ (.string s)).setCell ⟨w.heap.size, 1, none⟩ (.int .i64 v1)).setCell ⟨w.heap.size, 2, none⟩ (.int .i64 vz)).setCell ⟨w.heap.size, 3, none⟩ (.slice A3 n3 c3))) := (((OF.setNew (by show w.heap.size ≤ w.heap.size; omega) _).setNew (by show w.heap.size ≤ w.heap.size; omega) _).setNew (by show w.heap.size ≤ w.heap.size; omega) _).setNew (by show w.heap.size ≤ w.heap.size; omega) _
        clear IF CF OF TF RF
        go_wp2_with fail
        exact bodyPost_ret (v := .agg #[.string s, .int .i64 v1, .int .i64 vz, .slice A3 n3 c3]) (by simp [results, Try.results42, go_sem, *]) rfl ⟨_, _, _, _, rfl, IG.out, by omega, CG.out, OG.out⟩
      · have d1 : (v6 == 1) = false := by simp [e1]
        have TF := T6
        have RF := R6
        have IF := I6
        have CF := C6
        have OF := O6
        clear T6 R6 I6 C6 O6
        obtain ⟨t0, t1, t2, t3, tf, tl⟩ := TF.out
        obtain ⟨r0, r1, r2, r3, rf, rl⟩ := RF.out
        have IG : Hid (IRow (((((w6).setCell ⟨w.heap.size, 0, none⟩ (.string s)).setCell ⟨w.heap.size, 1, none⟩ (.int .i64 v1)).setCell ⟨w.heap.size, 2, none⟩ (.int .i64 v2)).setCell ⟨w.heap.size, 3, none⟩ (.slice A3 n3 c3)) w.heap.size 2 (.slice A3 n3 c3) n3) := ((((IF.out.row.aside (by show w.heap.size < w.heap.size + 1; omega) _).aside (by show w.heap.size < w.heap.size + 1; omega) _).aside (by show w.heap.size < w.heap.size + 1; omega) _).aside (by show w.heap.size < w.heap.size + 1; omega) _).mono (by omega)
        have CG : Hid (Cu (((((w6).setCell ⟨w.heap.size, 0, none⟩ (.string s)).setCell ⟨w.heap.size, 1, none⟩ (.int .i64 v1)).setCell ⟨w.heap.size, 2, none⟩ (.int .i64 v2)).setCell ⟨w.heap.size, 3, none⟩ (.slice A3 n3 c3)) g (m + 300)) := ((((CF.set (by show g < w.heap.size; omega) _).set (by show g < w.heap.size; omega) _).set (by show g < w.heap.size; omega) _).set (by show g < w.heap.size; omega) _).more (by omega)
        have OG : Hid (Only g (g + 1) w (((((w6).setCell ⟨w.heap.size, 0, none⟩ (.string s)).setCell ⟨w.heap.size, 1, none⟩ (.int .i64 v1)).setCell ⟨w.heap.size, 2, none⟩ (.int .i64 v2)).setCell ⟨w.heap.size, 3, none⟩ (.slice A3 n3 c3))) := (((OF.setNew (by show w.heap.size ≤ w.heap.size; omega) _).setNew (by show w.heap.size ≤ w.heap.size; omega) _).setNew (by show w.heap.size ≤ w.heap.size; omega) _).setNew (by show w.heap.size ≤ w.heap.size; omega) _
        clear IF CF OF TF RF
        go_wp2_with fail
        exact bodyPost_ret (v := .agg #[.string s, .int .i64 v1, .int .i64 v2, .slice A3 n3 c3]) (by simp [results, Try.results42, go_sem, *]) rfl ⟨_, _, _, _, rfl, IG.out, by omega, CG.out, OG.out⟩
  | true =>
    go_wp2_with fail
    refine (pick_any g _ _ _ C5 (by omega)).mono ?_
    rintro e w7 ⟨v7, rfl, hv7, C7, o7⟩
    have T7 := hide (T5.out.only o7 (by omega))
    have R7 := hide (R5.out.only o7 (by omega))
    have O7 := O5.trans o7
    clear T5 R5 I5 O5 o7 C5 hv7
    go_wp2_with fail
    refine (among_new g _ _ _ _ _ _ C7 (by first | (with_reducible rfl) | simp) (by omega) (by rfl) (by decide) (by decide) (by simp [isI])).mono ?_
    rintro e w8 ⟨v8, rfl, _, C8, o8⟩
    have T8 := hide (T7.out.only o8 (by omega))
    have R8 := hide (R7.out.only o8 (by omega))
    have O8 := O7.trans o8
    clear T7 R7 O7 o8 C7
    obtain ⟨W9, hW9⟩ : ∃ W, W = (w8.setCell ⟨bb, 3, none⟩ (.slice (some ⟨w8.heap.size, 0, none⟩) 1 1)).alloc (.cells #[.int .i64 v7, .int .i64 v8] 33) := ⟨_, rfl⟩
    have T9 : Hid (BxT W9 bb s v1 v2 (.slice (some ⟨w8.heap.size, 0, none⟩) 1 1)) := by show BxT _ _ _ _ _ _; rw [hW9]; exact (T8.out.set3 _).alloc _
    have R9 : Hid (BxT W9 w.heap.size ⟨#[]⟩ 0 0 (.slice none 0 0)) := by show BxT _ _ _ _ _ _; rw [hW9]; exact (R8.out.other (by omega) _ _).alloc _
    have C9 : Cu W9 g (m + 2 + 2 + 200 + 2 + 2 + 2) := by rw [hW9]; exact (C8.set (by show g < bb; omega) _).alloc _
    have O9 : Only g (g + 1) w W9 := by rw [hW9]; exact (O8.setNew (by show w.heap.size ≤ bb; omega) _).alloc _
    have I9 : Hid (IRn W9 (w.heap.size + 1) bb 2 (.slice (some ⟨w8.heap.size, 0, none⟩) 1 1) 1) := by
      show IRn _ _ _ _ _ _
      rw [hW9]
      have hb8 := T8.out.lt
      have hsz : (w8.setCell ⟨bb, 3, none⟩ (.slice (some ⟨w8.heap.size, 0, none⟩) 1 1)).heap.size = w8.heap.size := by simp [World.setCell]
      have h := World.ownsRow_lit (base := w.heap.size + 1) (e := 33) (size := 2) (w8.setCell ⟨bb, 3, none⟩ (.slice (some ⟨w8.heap.size, 0, none⟩) 1 1)) #[.int .i64 v7, .int .i64 v8] 1 (by omega) (by unfold maxLen; omega) rfl
      rw [hsz] at h
      exact IRn.of (IRow.of_own (xs := [.int .i64 v7, .int .i64 v8]) h (fun u hu => by simp at hu; rcases hu with rfl | rfl <;> rfl)) (fun q cap e => by injection e with e1 _ _; injection e1 with e1; injection e1 with e1; omega)
    have hz9 : w8.heap.size < W9.heap.size := by rw [hW9]; simp [World.setCell]
    obtain ⟨t0, t1, t2, t3, tf, tl⟩ := T8.out
    go_wp2_with fail
    rw [← hW9]
    obtain ⟨qb, hqb⟩ : ∃ qb, qb = w8.heap.size := ⟨_, rfl⟩
    rw [← hqb] at T9 I9
    rw [← hqb]
    clear hW9 hqb t0 t1 t2 t3 tf tl T8 R8 O8 C8
    refine (pick_any g _ _ _ C9 (by omega)).mono ?_
    rintro e w10 ⟨v10, rfl, hv10, C10, o10⟩
    have T10 := hide (T9.out.only o10 (by omega))
    have R10 := hide (R9.out.only o10 (by omega))
    have I10 := hide (I9.out.only o10 (by omega))
    have O10 := O9.trans o10
    clear T9 R9 I9 O9 o10 C9 hv10
    by_cases e0 : v10 = 0
    · subst e0
      go_wp2_with fail
      refine (among_new g _ _ _ _ _ _ C10 (by first | (with_reducible rfl) | simp) (by omega) (by rfl) (by decide) (by decide) (by simp [isI])).mono ?_
      rintro e wz ⟨vz, rfl, _, Cz, oz⟩
      have Tz := hide (T10.out.only oz (by omega))
      have Rz := hide (R10.out.only oz (by omega))
      have TF := hide (Tz.out.set1 vz)
      have RF := hide (Rz.out.other (b' := bb) (by omega) 1 (.int .i64 vz))
      have IF := hide ((I10.out.only oz (by omega)).set 1 (.int .i64 vz))
      have CF := Cz.set (p := ⟨bb, 1, none⟩) (by show g < bb; omega) (.int .i64 vz)
      have OF := (O10.trans oz).setNew (a := ⟨bb, 1, none⟩) (by show w.heap.size ≤ bb; omega) (.int .i64 vz)
      obtain ⟨t0, t1, t2, t3, tf, tl⟩ := Tz.out
      obtain ⟨r0, r1, r2, r3, rf, rl⟩ := Rz.out
      clear Tz Rz T10 R10 I10 O10 oz Cz C10
      have qd : True := trivial

      have IG : Hid (IRow (((((wz.setCell ⟨bb, 1, none⟩ (.int .i64 vz)).setCell ⟨w.heap.size, 0, none⟩ (.string s)).setCell ⟨w.heap.size, 1, none⟩ (.int .i64 vz)).setCell ⟨w.heap.size, 2, none⟩ (.int .i64 v2)).setCell ⟨w.heap.size, 3, none⟩ (.slice (some ⟨qb, 0, none⟩) 1 1)) w.heap.size 2 (.slice (some ⟨qb, 0, none⟩) 1 1) 1) := ((((IF.out.row.aside (by show w.heap.size < w.heap.size + 1; omega) _).aside (by show w.heap.size < w.heap.size + 1; omega) _).aside (by show w.heap.size < w.heap.size + 1; omega) _).aside (by show w.heap.size < w.heap.size + 1; omega) _).mono (by omega)
      have CG : Hid (Cu (((((wz.setCell ⟨bb, 1, none⟩ (.int .i64 vz)).setCell ⟨w.heap.size, 0, none⟩ (.string s)).setCell ⟨w.heap.size, 1, none⟩ (.int .i64 vz)).setCell ⟨w.heap.size, 2, none⟩ (.int .i64 v2)).setCell ⟨w.heap.size, 3, none⟩ (.slice (some ⟨qb, 0, none⟩) 1 1)) g (m + 300)) := ((((CF.set (by show g < w.heap.size; omega) _).set (by show g < w.heap.size; omega) _).set (by show g < w.heap.size; omega) _).set (by show g < w.heap.size; omega) _).more (by omega)
      have OG : Hid (Only g (g + 1) w (((((wz.setCell ⟨bb, 1, none⟩ (.int .i64 vz)).setCell ⟨w.heap.size, 0, none⟩ (.string s)).setCell ⟨w.heap.size, 1, none⟩ (.int .i64 vz)).setCell ⟨w.heap.size, 2, none⟩ (.int .i64 v2)).setCell ⟨w.heap.size, 3, none⟩ (.slice (some ⟨qb, 0, none⟩) 1 1))) := (((OF.setNew (by show w.heap.size ≤ w.heap.size; omega) _).setNew (by show w.heap.size ≤ w.heap.size; omega) _).setNew (by show w.heap.size ≤ w.heap.size; omega) _).setNew (by show w.heap.size ≤ w.heap.size; omega) _
      clear IF CF OF TF RF
      go_wp2_with fail
      exact bodyPost_ret (v := .agg #[.string s, .int .i64 vz, .int .i64 v2, .slice (some ⟨qb, 0, none⟩) 1 1]) (by simp [results, Try.results42, go_sem, *]) rfl ⟨_, _, _, _, rfl, IG.out, by omega, CG.out, OG.out⟩
    · have d0 : (v10 == 0) = false := by simp [e0]
      by_cases e1 : v10 = 1
      · subst e1
        go_wp2_with fail
        refine (among_new g _ _ _ _ _ _ C10 (by first | (with_reducible rfl) | simp) (by omega) (by rfl) (by decide) (by decide) (by simp [isI])).mono ?_
        rintro e wz ⟨vz, rfl, _, Cz, oz⟩
        have Tz := hide (T10.out.only oz (by omega))
        have Rz := hide (R10.out.only oz (by omega))
        have TF := hide (Tz.out.set2 vz)
        have RF := hide (Rz.out.other (b' := bb) (by omega) 2 (.int .i64 vz))
        have IF := hide ((I10.out.only oz (by omega)).set 2 (.int .i64 vz))
        have CF := Cz.set (p := ⟨bb, 2, none⟩) (by show g < bb; omega) (.int .i64 vz)
        have OF := (O10.trans oz).setNew (a := ⟨bb, 2, none⟩) (by show w.heap.size ≤ bb; omega) (.int .i64 vz)
        obtain ⟨t0, t1, t2, t3, tf, tl⟩ := Tz.out
        obtain ⟨r0, r1, r2, r3, rf, rl⟩ := Rz.out
        clear Tz Rz T10 R10 I10 O10 oz Cz C10
        have qd : True := trivial

        have IG : Hid (IRow (((((wz.setCell ⟨bb, 2, none⟩ (.int .i64 vz)).setCell ⟨w.heap.size, 0, none⟩ (.string s)).setCell ⟨w.heap.size, 1, none⟩ (.int .i64 v1)).setCell ⟨w.heap.size, 2, none⟩ (.int .i64 vz)).setCell ⟨w.heap.size, 3, none⟩ (.slice (some ⟨qb, 0, none⟩) 1 1)) w.heap.size 2 (.slice (some ⟨qb, 0, none⟩) 1 1) 1) := ((((IF.out.row.aside (by show w.heap.size < w.heap.size + 1; omega) _).aside (by show w.heap.size < w.heap.size + 1; omega) _).aside (by show w.heap.size < w.heap.size + 1; omega) _).aside (by show w.heap.size < w.heap.size + 1; omega) _).mono (by omega)
        have CG : Hid (Cu (((((wz.setCell ⟨bb, 2, none⟩ (.int .i64 vz)).setCell ⟨w.heap.size, 0, none⟩ (.string s)).setCell ⟨w.heap.size, 1, none⟩ (.int .i64 v1)).setCell ⟨w.heap.size, 2, none⟩ (.int .i64 vz)).setCell ⟨w.heap.size, 3, none⟩ (.slice (some ⟨qb, 0, none⟩) 1 1)) g (m + 300)) := ((((CF.set (by show g < w.heap.size; omega) _).set (by show g < w.heap.size; omega) _).set (by show g < w.heap.size; omega) _).set (by show g < w.heap.size; omega) _).more (by omega)
        have OG : Hid (Only g (g + 1) w (((((wz.setCell ⟨bb, 2, none⟩ (.int .i64 vz)).setCell ⟨w.heap.size, 0, none⟩ (.string s)).setCell ⟨w.heap.size, 1, none⟩ (.int .i64 v1)).setCell ⟨w.heap.size, 2, none⟩ (.int .i64 vz)).setCell ⟨w.heap.size, 3, none⟩ (.slice (some ⟨qb, 0, none⟩) 1 1))) := (((OF.setNew (by show w.heap.size ≤ w.heap.size; omega) _).setNew (by show w.heap.size ≤ w.heap.size; omega) _).setNew (by show w.heap.size ≤ w.heap.size; omega) _).setNew (by show w.heap.size ≤ w.heap.size; omega) _
        clear IF CF OF TF RF
        go_wp2_with fail
        exact bodyPost_ret (v := .agg #[.string s, .int .i64 v1, .int .i64 vz, .slice (some ⟨qb, 0, none⟩) 1 1]) (by simp [results, Try.results42, go_sem, *]) rfl ⟨_, _, _, _, rfl, IG.out, by omega, CG.out, OG.out⟩
      · have d1 : (v10 == 1) = false := by simp [e1]
        have TF := T10
        have RF := R10
        have IF := I10
        have CF := C10
        have OF := O10
        clear T10 R10 I10 C10 O10
        obtain ⟨t0, t1, t2, t3, tf, tl⟩ := TF.out
        obtain ⟨r0, r1, r2, r3, rf, rl⟩ := RF.out
        have IG : Hid (IRow (((((w10).setCell ⟨w.heap.size, 0, none⟩ (.string s)).setCell ⟨w.heap.size, 1, none⟩ (.int .i64 v1)).setCell ⟨w.heap.size, 2, none⟩ (.int .i64 v2)).setCell ⟨w.heap.size, 3, none⟩ (.slice (some ⟨qb, 0, none⟩) 1 1)) w.heap.size 2 (.slice (some ⟨qb, 0, none⟩) 1 1) 1) := ((((IF.out.row.aside (by show w.heap.size < w.heap.size + 1; omega) _).aside (by show w.heap.size < w.heap.size + 1; omega) _).aside (by show w.heap.size < w.heap.size + 1; omega) _).aside (by show w.heap.size < w.heap.size + 1; omega) _).mono (by omega)
        have CG : Hid (Cu (((((w10).setCell ⟨w.heap.size, 0, none⟩ (.string s)).setCell ⟨w.heap.size, 1, none⟩ (.int .i64 v1)).setCell ⟨w.heap.size, 2, none⟩ (.int .i64 v2)).setCell ⟨w.heap.size, 3, none⟩ (.slice (some ⟨qb, 0, none⟩) 1 1)) g (m + 300)) := ((((CF.set (by show g < w.heap.size; omega) _).set (by show g < w.heap.size; omega) _).set (by show g < w.heap.size; omega) _).set (by show g < w.heap.size; omega) _).more (by omega)
        have OG : Hid (Only g (g + 1) w (((((w10).setCell ⟨w.heap.size, 0, none⟩ (.string s)).setCell ⟨w.heap.size, 1, none⟩ (.int .i64 v1)).setCell ⟨w.heap.size, 2, none⟩ (.int .i64 v2)).setCell ⟨w.heap.size, 3, none⟩ (.slice (some ⟨qb, 0, none⟩) 1 1))) := (((OF.setNew (by show w.heap.size ≤ w.heap.size; omega) _).setNew (by show w.heap.size ≤ w.heap.size; omega) _).setNew (by show w.heap.size ≤ w.heap.size; omega) _).setNew (by show w.heap.size ≤ w.heap.size; omega) _
        clear IF CF OF TF RF
        go_wp2_with fail
        exact bodyPost_ret (v := .agg #[.string s, .int .i64 v1, .int .i64 v2, .slice (some ⟨qb, 0, none⟩) 1 1]) (by simp [results, Try.results42, go_sem, *]) rfl ⟨_, _, _, _, rfl, IG.out, by omega, CG.out, OG.out⟩

end Go.Proofs.Ythkddbonmfoaaaa

/-
  Regions that draw their order, in which operations that only look stand beside operations that write, whose order is forced: one walk serves every order.-/
namespace Go.Proofs.Ythkddbonmfoaaaa
set_option linter.unusedVariables false
set_option linter.unusedSimpArgs false
open Go

section
variable {P : Program} {ops : Array Oper} {md : Region.Mode} {C : World → Prop} {Q : Act → World → Prop}

/-- An operation has run: a value and a world; a call that hands back a value. -/
def goesUpon (P : Program) (R : Value → World → Prop) : Result Next → Prop
  | .ok (.value u) w' => R u w'
  | .ok .skip w' => R undef w'
  | .ok (.enter f args) w' => Calls P f args w' (fun e w'' => ∃ v, e = .returned v ∧ R v w'')
  | _ => False
theorem goesUpon_mono {R R' : Value → World → Prop} (h : ∀ v w, R v w → R' v w) {r : Result Next} (hh : goesUpon P R r) : goesUpon P R' r := by
  cases r with
  | ok n w' =>
    cases n <;> simp only [goesUpon] at hh ⊢
    case value u => exact h _ _ hh
    case skip => exact h _ _ hh
    case enter f args => exact hh.mono fun e w'' ⟨v, he, hr⟩ => ⟨v, he, h _ _ hr⟩
  | halt x w' => simp only [goesUpon] at hh
def eOp (P : Program) (ops : Array Oper) (i : Nat) (K : Act → World → Prop) (a : Act) (w : World) : Prop :=
  match ops[i]? with
  | none => K a w
  | some o => if Region.wanted o (yielded ops a.tmps) = true then goesUpon P (fun v w' => K (a.put o.dst v) w') ((execOp a.eval o).run P w) else K (a.put o.dst undef) w
theorem eOp_mono {i : Nat} {K K' : Act → World → Prop} {a : Act} {w : World} (h : ∀ a w, K a w → K' a w) (hh : eOp P ops i K a w) : eOp P ops i K' a w := by
  unfold eOp at *
  split
  · exact h _ _ (by simpa [*] using hh)
  · rename_i o ho
    simp only [ho] at hh
    split
    · rename_i hw; simp only [hw, if_true] at hh; exact goesUpon_mono (fun v w hr => h _ _ hr) hh
    · rename_i hw; simp only [hw] at hh; exact h _ _ hh
theorem wpOp_of_eOp {i : Nat} {K : Act → World → Prop} {Q' : Exit → Act → World → Prop} {a : Act} {w : World} (hh : eOp P ops i K a w) : wpOp P ops Q' i K a w := by
  unfold eOp at hh
  unfold wpOp
  split
  · rename_i ho; simp only [ho] at hh; exact hh
  · rename_i o ho
    simp only [ho] at hh
    split
    · rename_i hw
      simp only [hw, if_true] at hh
      refine .inl ?_
      unfold Oper.wp
      generalize (execOp a.eval o).run P w = r at *
      cases r with
      | ok n w' =>
        cases n <;> simp only [goesUpon] at hh <;> simp only [Oper.upon]
        case value u => exact hh
        case skip => exact hh
        case enter f args => exact hh.mono fun e w'' ⟨v, he, hr⟩ => by subst he; exact hr
      | halt x w' => simp only [goesUpon] at hh
    · rename_i hw; simp only [hw] at hh; exact hh
/-- In whatever order. -/
def wpAnyM (P : Program) (md : Region.Mode) (ops : Array Oper) (C : World → Prop) (Q : Act → World → Prop) : Nat → Array Bool → Act → World → Prop
  | 0, listed, a, w => Region.ready md ops listed = [] ∧ Q a w
  | fuel + 1, listed, a, w => (Region.ready md ops listed = [] → Q a w) ∧ ∀ i ∈ Region.ready md ops listed, eOp P ops i (fun a' w' => C w' ∧ wpAnyM P md ops C Q fuel (listed.setIfInBounds i true) a' w') a w
theorem wpAny_of_M {Q' : Exit → Act → World → Prop} (hQ : ∀ a w, Q a w → Q' .normal a w) : ∀ (fuel : Nat) (listed : Array Bool) (a : Act) (w : World), wpAnyM P md ops C Q fuel listed a w → wpAny P md ops Q' fuel listed a w
  | 0, _, _, _, h => ⟨h.1, hQ _ _ h.2⟩
  | fuel + 1, _, _, _, h => ⟨fun h0 => hQ _ _ (h.1 h0), fun i hi => wpOp_of_eOp (eOp_mono (fun a' w' h' => wpAny_of_M hQ fuel _ a' w' h'.2) (h.2 i hi))⟩
/-- In every world of the class the operation yields this value and leaves the world alone. -/
def YieldsAll (P : Program) (ops : Array Oper) (C : World → Prop) (o : Oper) (v : Value) (a : Act) : Prop :=
  (Region.wanted o (yielded ops a.tmps) = true ∧ ∀ w, C w → (execOp a.eval o).run P w = .ok (.value v) w) ∨ (Region.wanted o (yielded ops a.tmps) = false ∧ v = undef)
theorem YieldsAll.of_same {o : Oper} {v : Value} {a a' : Act} (hy : YieldsAll P ops C o v a) (he : execOp a'.eval o = execOp a.eval o)
    (hw : Region.wanted o (yielded ops a'.tmps) = Region.wanted o (yielded ops a.tmps)) : YieldsAll P ops C o v a' := by
  unfold YieldsAll at *
  rw [he, hw]
  exact hy
theorem YieldsAll.eOp {i : Nat} {o : Oper} {v : Value} {a : Act} {w : World} (hi : ops[i]? = some o) (hy : YieldsAll P ops C o v a) (hC : C w) {K : Act → World → Prop} (h : K (a.put o.dst v) w) : eOp P ops i K a w := by
  unfold Go.Proofs.Ythkddbonmfoaaaa.eOp
  simp only [hi]
  rcases hy with ⟨hw, hv⟩ | ⟨hw, rfl⟩
  · simp only [hw, if_true, hv w hC, goesUpon]; exact h
  · simp only [hw, Bool.false_eq_true, if_false]; exact h
theorem eOp_put {j : Nat} {oi oj : Oper} {v : Value} (hj : ops[j]? = some oj) (hap : oi.apart ops oj = true)
    (hsi : ∀ cs b, oi.op ≠ .select cs b) (hsj : ∀ cs b, oj.op ≠ .select cs b) {K : Act → World → Prop} {a : Act} {w : World}
    (hy : YieldsAll P ops C oi v a) (h : eOp P ops j K (a.put oi.dst v) w) :
    eOp P ops j (fun a' w' => YieldsAll P ops C oi v a' ∧ K (a'.put oi.dst v) w') a w := by
  obtain ⟨h1, h2, h3⟩ := Oper.apart_spec hap
  have keep : ∀ (a : Act), YieldsAll P ops C oi v a → ∀ u, YieldsAll P ops C oi v (a.put oj.dst u) := fun a hy u =>
    hy.of_same (execOp_put oi hsi a oj.dst u h3) (wanted_put oi a oj.dst u h3)
  unfold eOp at *
  simp only [hj] at *
  rw [wanted_put oj a oi.dst v h1] at h
  split
  · rename_i hw
    simp only [hw, if_true] at h
    rw [execOp_put oj hsj a oi.dst v h1] at h
    refine goesUpon_mono (fun u w' hk => ⟨keep a hy u, ?_⟩) h
    rw [← Act.put_comm a v u h2]
    exact hk
  · rename_i hw
    simp only [hw] at h
    exact ⟨keep a hy _, by rw [← Act.put_comm a v undef h2]; exact h⟩
/-- An operation that only looks may be taken first. -/
theorem wpAnyM_first {i : Nat} {oi : Oper} {v : Value} (hi : ops[i]? = some oi) (hsel : ∀ (j : Nat) (o : Oper) cs b, ops[j]? = some o → o.op ≠ .select cs b) :
    ∀ (fuel : Nat) (listed : Array Bool) (a : Act) (w : World), C w →
      (∀ j oj, ops[j]? = some oj → j ≠ i → listed.getD j true = false → (∀ e ∈ oj.after, Region.binds md e = true → e.on ≠ i) → oi.apart ops oj = true) →
      i ∈ Region.ready md ops listed → YieldsAll P ops C oi v a →
      wpAnyM P md ops C Q fuel (listed.setIfInBounds i true) (a.put oi.dst v) w → wpAnyM P md ops C Q (fuel + 1) listed a w := by
  intro fuel
  induction fuel with
  | zero =>
    intro listed a w hC hfree hr hy H
    refine ⟨fun h => (by rw [h] at hr; cases hr), fun j hj => ?_⟩
    by_cases hji : j = i
    · subst hji; exact hy.eOp hi hC ⟨hC, H⟩
    · have := ready_mono hj hji
      rw [H.1] at this
      cases this
  | succ fuel ih =>
    intro listed a w hC hfree hr hy H
    refine ⟨fun h => (by rw [h] at hr; cases hr), fun j hj => ?_⟩
    by_cases hji : j = i
    · subst hji; exact hy.eOp hi hC ⟨hC, H⟩
    · have h1 := H.2 j (ready_mono hj hji)
      obtain ⟨hjun, oj, hoj, hall⟩ := mem_ready.1 hj
      have hnot : ∀ e ∈ oj.after, Region.binds md e = true → e.on ≠ i := fun e he hb heq => by
        have h1 := hall e he hb
        have h0 := (mem_ready.1 hr).1
        rw [heq] at h1
        rcases Nat.lt_or_ge i listed.size with h' | h'
        · simp [h'] at h0 h1; rw [h0] at h1; cases h1
        · simp [Array.getElem?_eq_none h'] at h1
      have h2 := eOp_put hoj (hfree j oj hoj hji hjun hnot) (fun cs b => hsel i oi cs b hi) (fun cs b => hsel j oj cs b hoj) hy h1
      have hfree' : ∀ k ok, ops[k]? = some ok → k ≠ i → (listed.setIfInBounds j true).getD k true = false →
          (∀ e ∈ ok.after, Region.binds md e = true → e.on ≠ i) → oi.apart ops ok = true := fun k ok hk hki hun hno => by
        refine hfree k ok hk hki ?_ hno
        by_cases hjk : j = k
        · subst hjk; exact hjun
        · rw [getD_set_ne true hjk] at hun; exact hun
      refine eOp_mono (fun a' w' h3 => ⟨h3.2.1, ih (listed.setIfInBounds j true) a' w' h3.2.1 hfree' (ready_mono hr (Ne.symm hji)) h3.1 ?_⟩) h2
      rw [Array.setIfInBounds_comm _ _ hji]
      exact h3.2.2
/-- The order that is walked: what only looks first; what writes when nothing else may come up. -/
def mixFrom (md : Region.Mode) (ops : Array Oper) : List (Nat × Bool) → Array Bool → Bool
  | [], listed => (Region.ready md ops listed).isEmpty
  | (k, b) :: r, listed => (if b then (Region.ready md ops listed).contains k && Region.free md ops listed k else Region.ready md ops listed == [k]) && mixFrom md ops r (listed.setIfInBounds k true)
def wpMix (P : Program) (ops : Array Oper) (C : World → Prop) (Q : Act → World → Prop) : List (Nat × Bool) → Act → World → Prop
  | [], a, w => Q a w
  | (k, true) :: r, a, w => ∃ o v, ops[k]? = some o ∧ YieldsAll P ops C o v a ∧ wpMix P ops C Q r (a.put o.dst v) w
  | (k, false) :: r, a, w => eOp P ops k (fun a' w' => C w' ∧ wpMix P ops C Q r a' w') a w
theorem wpAnyM_mix (hs : Region.noSelect ops = true) : ∀ (r : List (Nat × Bool)) (listed : Array Bool) (a : Act) (w : World), C w → mixFrom md ops r listed = true → wpMix P ops C Q r a w → wpAnyM P md ops C Q r.length listed a w
  | [], _, _, _, _, hB, h => ⟨by simpa [mixFrom] using hB, h⟩
  | (k, true) :: r, listed, a, w, hC, hB, h => by
    simp only [mixFrom, if_true, Bool.and_eq_true] at hB
    obtain ⟨⟨hr, hf⟩, hB'⟩ := hB
    obtain ⟨o, v, ho, hy, hK⟩ := h
    exact wpAnyM_first ho (Region.noSelect_spec hs) r.length listed a w hC (Region.free_spec ho hf) (by simpa using hr) hy (wpAnyM_mix hs r _ _ _ hC hB' hK)
  | (k, false) :: r, listed, a, w, hC, hB, h => by
    simp only [mixFrom, Bool.false_eq_true, if_false, Bool.and_eq_true, beq_iff_eq] at hB
    obtain ⟨hr, hB'⟩ := hB
    refine ⟨fun h0 => (by rw [hr] at h0; cases h0), fun i hi => ?_⟩
    rw [hr] at hi
    obtain rfl : i = k := by simpa using hi
    exact eOp_mono (fun a' w' h' => ⟨h'.1, wpAnyM_mix hs r _ a' w' h'.1 hB' h'.2⟩) h
theorem wp_region_mix {id : Nat} {Q : Exit → Act → World → Prop} {a : Act} {w : World} {l : List Oper} (r : List (Nat × Bool)) (C : World → Prop) (hm : P.follows .mixedOrders = true) (hs : Region.noSelect l.toArray = true) (hl : r.length = l.toArray.size)
    (hB : mixFrom .any l.toArray r (Array.replicate l.toArray.size false) = true) (hC : C { w with drawn := w.drawn + 1 })
    (h : wpMix P l.toArray C (fun a' w' => Q .normal a' w') r a { w with drawn := w.drawn + 1 }) : (Code.region id l.toArray true).wp P Q a w := by
  refine wp_region_any hm (wpAny_of_M (C := C) (Q := fun a' w' => Q .normal a' w') (fun _ _ h => h) _ _ _ _ ?_)
  rw [← hl]
  exact wpAnyM_mix hs r _ a _ hC (by rw [hl]; exact hB) h
theorem mix_look {k : Nat} {r : List (Nat × Bool)} {a : Act} {w : World} (o : Oper) (v : Value) (hk : ops[k]? = some o) (hw : Region.wanted o (yielded ops a.tmps) = true) (hv : ∀ w, C w → (execOp a.eval o).run P w = .ok (.value v) w)
    (h : wpMix P ops C Q r (a.put o.dst v) w) : wpMix P ops C Q ((k, true) :: r) a w := ⟨o, v, hk, .inl ⟨hw, hv⟩, h⟩
theorem mix_skip {k : Nat} {r : List (Nat × Bool)} {a : Act} {w : World} (o : Oper) (hk : ops[k]? = some o) (hw : Region.wanted o (yielded ops a.tmps) = false)
    (h : wpMix P ops C Q r (a.put o.dst undef) w) : wpMix P ops C Q ((k, true) :: r) a w := ⟨o, undef, hk, .inr ⟨hw, rfl⟩, h⟩
theorem mix_value {k : Nat} {r : List (Nat × Bool)} {a : Act} {w : World} (o : Oper) (v : Value) (w' : World) (hk : ops[k]? = some o) (hw : Region.wanted o (yielded ops a.tmps) = true) (hv : (execOp a.eval o).run P w = .ok (.value v) w') (hC : C w')
    (h : wpMix P ops C Q r (a.put o.dst v) w') : wpMix P ops C Q ((k, false) :: r) a w := by
  show eOp P ops k _ a w
  unfold eOp
  simp only [hk, hw, if_true, hv, goesUpon]
  exact ⟨hC, h⟩
theorem mix_call {k : Nat} {r : List (Nat × Bool)} {a : Act} {w : World} (o : Oper) (f : FuncId) (args : Array Value) (hk : ops[k]? = some o) (hw : Region.wanted o (yielded ops a.tmps) = true) (hv : (execOp a.eval o).run P w = .ok (.enter f args) w)
    (h : Calls P f args w fun e w'' => ∃ v, e = .returned v ∧ C w'' ∧ wpMix P ops C Q r (a.put o.dst v) w'') : wpMix P ops C Q ((k, false) :: r) a w := by
  show eOp P ops k _ a w
  unfold eOp
  simp only [hk, hw, if_true, hv, goesUpon]
  exact h
theorem wpMix_nil {a : Act} {w : World} (h : Q a w) : wpMix P ops C Q [] a w := h
theorem run_op_append {o : Oper} {a : Act} {w w' : World} {v u v' : Value} (s x : Operand) (t : TypeId) (ho : o.op = .call { callee := .builtin .append, args := #[s, x], argTypes := #[t, t] }) (hs : a.eval s = v) (hx : a.eval x = u)
    (hr : (Builtin.append_ #[t, t] o.type #[v, u]).run P w = .ok v' w') : (execOp a.eval o).run P w = .ok (.value v') w' := by
  unfold execOp
  simp only [ho, resolve, invoke, builtin, Sem.run_bind, Sem.run_pure, Result.andThen_ok, List.map_toArray, List.map_cons, List.map_nil, hs, hx, hr]
end

end Go.Proofs.Ythkddbonmfoaaaa

/-
  Walks: drawn arguments of the laws on one team.-/
namespace Go.Proofs.Ythkddbonmfoaaaa
set_option linter.unusedVariables false
set_option linter.unusedSimpArgs false
open Go.RowKit Go.Deep

/-- A slice that is read, wherever it lies. -/
def SlH (w : World) (sz : Nat) (v : Value) (n : Nat) (c : Nat → Nat → Value) : Prop := ∃ hi, hi ≤ w.heap.size ∧ Sl w 0 hi sz v n c
section
variable {w w' : World} {sz n : Nat} {v : Value} {c : Nat → Nat → Value}
theorem SlH.below (h : SlH w sz v n c) (hb : Below w.heap.size w w') : SlH w' sz v n c := by
  obtain ⟨hi, h1, h2⟩ := h
  exact ⟨hi, Nat.le_trans h1 hb.size, h2.below hb h1⟩
theorem SlH.form (h : SlH w sz v n c) : ∃ A cap, v = .slice A n cap ∧ n ≤ cap := by
  obtain ⟨hi, _, h2⟩ := h
  obtain ⟨A, cap, e, hcap, _⟩ := h2.open_
  exact ⟨A, cap, e, hcap⟩
end
/-- A drawn team comes back. -/
def DtPost (w : World) (e : Ending) (w' : World) : Prop := ∃ (T : Tm) (vc : Value), e = .returned (.agg #[.string T.s, .int .i64 T.v, .int .i64 T.y, vc]) ∧ Sl w' w.heap.size w'.heap.size 2 vc T.n (iiC T.m T.b) ∧ T.fits ∧ Below w.heap.size w w'
/-- A drawn team and a number. -/
def DtkPost (w : World) (e : Ending) (w' : World) : Prop := ∃ (T : Tm) (vc : Value) (k : Int), e = .returned (.tuple #[.agg #[.string T.s, .int .i64 T.v, .int .i64 T.y, vc], .int .i64 k]) ∧ Sl w' w.heap.size w'.heap.size 2 vc T.n (iiC T.m T.b) ∧ T.fits ∧ Below w.heap.size w w'
/-- The cells of a box of the caller, written over, do not touch a slice that lies above. -/
theorem sl_over {w w' : World} {lo n b : Nat} {vc : Value} {f k : Nat → Int} (h : Sl w lo w.heap.size 2 vc n (iiC f k)) (hk : ∀ q, q ≠ b → w'.heap[q]? = w.heap[q]?) (hb : b < lo) (hs : w.heap.size ≤ w'.heap.size) : Sl w' lo w'.heap.size 2 vc n (iiC f k) :=
  (h.keep fun q h1 _ => hk q (by omega)).mono (Nat.le_refl _) hs
theorem four_set (w : World) (b : Nat) (a0 a1 a2 a3 : Value) : (∀ q, q ≠ b → ((((w.setCell ⟨b, 0, none⟩ a0).setCell ⟨b, 1, none⟩ a1).setCell ⟨b, 2, none⟩ a2).setCell ⟨b, 3, none⟩ a3).heap[q]? = w.heap[q]?) ∧ ((((w.setCell ⟨b, 0, none⟩ a0).setCell ⟨b, 1, none⟩ a1).setCell ⟨b, 2, none⟩ a2).setCell ⟨b, 3, none⟩ a3).heap.size = w.heap.size :=
  ⟨fun q hq => (blk_setCell_other _ _ _ _ (by exact hq)).trans ((blk_setCell_other _ _ _ _ (by exact hq)).trans ((blk_setCell_other _ _ _ _ (by exact hq)).trans (blk_setCell_other _ _ _ _ (by exact hq)))), by simp [World.setCell]⟩
theorem four_below {w0 w : World} {b B : Nat} (h : Below B w0 w) (hb : B ≤ b) (a0 a1 a2 a3 : Value) : Below B w0 ((((w.setCell ⟨b, 0, none⟩ a0).setCell ⟨b, 1, none⟩ a1).setCell ⟨b, 2, none⟩ a2).setCell ⟨b, 3, none⟩ a3) :=
  (((h.setCell hb _).setCell hb _).setCell hb _).setCell hb _
set_option maxRecDepth 100000 in
set_option maxHeartbeats 3200000 in
theorem DrawIsTeam_any (v : Value) (w : World) (h : Code w v) : Calls Try.prog 21 #[v] w (DtPost w) := by
  obtain ⟨A, n, cap, rfl⟩ := h.form
  have hC0 : Cu ((w.alloc (.cells #[.string ⟨#[]⟩, .int .i64 0, .int .i64 0, .slice none 0 0] 26)).alloc (.cells #[.slice A n cap, .int .i64 0, .int .u64 0] 58)) (w.heap.size + 1) 0 := by
    have := Cu.start (h.below ((Below.refl _ _).alloc (Nat.le_refl _) (.cells #[.string ⟨#[]⟩, .int .i64 0, .int .i64 0, .slice none 0 0] 26)) (Nat.le_refl _)) 58
    simpa using this
  have R0 : BxT ((w.alloc (.cells #[.string ⟨#[]⟩, .int .i64 0, .int .i64 0, .slice none 0 0] 26)).alloc (.cells #[.slice A n cap, .int .i64 0, .int .u64 0] 58)) w.heap.size ⟨#[]⟩ 0 0 (.slice none 0 0) := (BxT.new w _ _ _ _ _).alloc _
  have O0 : Only (w.heap.size + 1) (w.heap.size + 1 + 1) w ((w.alloc (.cells #[.string ⟨#[]⟩, .int .i64 0, .int .i64 0, .slice none 0 0] 26)).alloc (.cells #[.slice A n cap, .int .i64 0, .int .u64 0] 58)) := ((Only.refl _ _ w).alloc _).alloc _
  go_enter Try.func21, Try.ntmps21
  go_wp2_with fail
  refine (of_new _ _ _ _ _ _ _ hC0 (by simp) (by omega) (by rfl) (by decide) (by decide) (by simp [isS])).mono ?_
  rintro e w1 ⟨s, rfl, hs, hC1, hO1⟩
  have hss : s.size ≤ 1 := by simp at hs; rcases hs with rfl | rfl | rfl <;> decide
  have R1 := R0.only hO1 (by omega)
  have O1 := O0.trans hO1
  clear R0 O0 hO1 hC0 hs
  go_wp2_with fail
  refine (team_any s _ _ _ hC1 (by omega)).mono ?_
  rintro e w2 ⟨x, y, u, n2, rfl, I2, hn2, hC2, hO2⟩
  have R2 := R1.only hO2 (by omega)
  have O2 := O1.trans hO2
  have hz1 := O1.size
  have hl1 := R1.lt
  obtain ⟨f, k, hsl⟩ := I2.sl2
  obtain ⟨A2, c2, rfl⟩ := I2.form
  have hb2 : Below w.heap.size w w2 := O2.below (by omega) (Nat.le_refl _)
  obtain ⟨r0, r1, r2, r3, rf, rl⟩ := R2
  have hov := four_set w2 w.heap.size (.string s) (.int .i64 x) (.int .i64 y) (.slice A2 n2 c2)
  have HF : Hid (Sl ((((w2.setCell ⟨w.heap.size, 0, none⟩ (.string s)).setCell ⟨w.heap.size, 1, none⟩ (.int .i64 x)).setCell ⟨w.heap.size, 2, none⟩ (.int .i64 y)).setCell ⟨w.heap.size, 3, none⟩ (.slice A2 n2 c2)) w.heap.size (((((w2.setCell ⟨w.heap.size, 0, none⟩ (.string s)).setCell ⟨w.heap.size, 1, none⟩ (.int .i64 x)).setCell ⟨w.heap.size, 2, none⟩ (.int .i64 y)).setCell ⟨w.heap.size, 3, none⟩ (.slice A2 n2 c2))).heap.size 2 (.slice A2 n2 c2) n2 (iiC f k)) := (sl_over hsl hov.1 (by omega) (by rw [hov.2]; exact Nat.le_refl _)).mono (by omega) (Nat.le_refl _)
  have HB : Hid (Below w.heap.size w ((((w2.setCell ⟨w.heap.size, 0, none⟩ (.string s)).setCell ⟨w.heap.size, 1, none⟩ (.int .i64 x)).setCell ⟨w.heap.size, 2, none⟩ (.int .i64 y)).setCell ⟨w.heap.size, 3, none⟩ (.slice A2 n2 c2))) := four_below hb2 (Nat.le_refl _) _ _ _ _
  clear R1 O1 O2 hO2 hC1 hC2 I2 hsl hov hb2
  go_wp2_with fail
  exact bodyPost_ret (v := .agg #[.string s, .int .i64 x, .int .i64 y, .slice A2 n2 c2]) (by simp [results, Try.results21, go_sem, *]) rfl ⟨⟨s, x, y, n2, f, k⟩, .slice A2 n2 c2, rfl, HF.out, ⟨by unfold maxLen; show s.size ≤ _; omega, by show n2 ≤ 1048576; omega⟩, HB.out⟩
set_option maxRecDepth 100000 in
set_option maxHeartbeats 3200000 in
theorem DrawTurnMinute_any (v : Value) (w : World) (h : Code w v) : Calls Try.prog 5 #[v] w (DtPost w) := by
  have R0 := BxT.new w ⟨#[]⟩ 0 0 (.slice none 0 0) 26
  go_enter Try.func5, Try.ntmps5
  go_wp2_with fail
  refine (DrawIsTeam_any v _ (h.below ((Below.refl _ _).alloc (Nat.le_refl _) _) (Nat.le_refl _))).mono ?_
  rintro e w1 ⟨⟨s, x, y, n2, f, k⟩, vc, rfl, hsl, hf, hb1⟩
  obtain ⟨A2, c2, rfl, _, _⟩ := id hsl.open_
  have R1 := R0.below hb1
  have hb : Below w.heap.size w w1 := ((Below.refl w.heap.size w).alloc (Nat.le_refl _) _).trans (hb1.mono (by simp))
  obtain ⟨r0, r1, r2, r3, rf, rl⟩ := R1
  have hov := four_set w1 w.heap.size (.string s) (.int .i64 x) (.int .i64 y) (.slice A2 n2 c2)
  have HF : Hid (Sl ((((w1.setCell ⟨w.heap.size, 0, none⟩ (.string s)).setCell ⟨w.heap.size, 1, none⟩ (.int .i64 x)).setCell ⟨w.heap.size, 2, none⟩ (.int .i64 y)).setCell ⟨w.heap.size, 3, none⟩ (.slice A2 n2 c2)) w.heap.size (((((w1.setCell ⟨w.heap.size, 0, none⟩ (.string s)).setCell ⟨w.heap.size, 1, none⟩ (.int .i64 x)).setCell ⟨w.heap.size, 2, none⟩ (.int .i64 y)).setCell ⟨w.heap.size, 3, none⟩ (.slice A2 n2 c2))).heap.size 2 (.slice A2 n2 c2) n2 (iiC f k)) := (sl_over hsl hov.1 (by simp) (by rw [hov.2]; exact Nat.le_refl _)).mono (by simp) (Nat.le_refl _)
  have HB : Hid (Below w.heap.size w ((((w1.setCell ⟨w.heap.size, 0, none⟩ (.string s)).setCell ⟨w.heap.size, 1, none⟩ (.int .i64 x)).setCell ⟨w.heap.size, 2, none⟩ (.int .i64 y)).setCell ⟨w.heap.size, 3, none⟩ (.slice A2 n2 c2))) := four_below hb (Nat.le_refl _) _ _ _ _
  have HT := hide hf
  clear R0 hsl hov hb hb1 hf
  go_wp2_with fail
  exact bodyPost_ret (v := .agg #[.string s, .int .i64 x, .int .i64 y, .slice A2 n2 c2]) (by simp [results, Try.results5, go_sem, *]) rfl ⟨⟨s, x, y, n2, f, k⟩, .slice A2 n2 c2, rfl, HF.out, HT.out, HB.out⟩
set_option maxRecDepth 100000 in
set_option maxHeartbeats 3200000 in
theorem boardMinute_any (g m : Nat) (w : World) (h : Cu w g m) (hm : m < 100000000) :
    Calls Try.prog 45 #[.pointer (some ⟨g, 0, none⟩)] w fun e w' => ∃ v : Int, e = .returned (.int .i64 v) ∧ Cu w' g (m + 10) ∧ Only g (g + 1) w w' := by
  go_enter Try.func45, Try.ntmps45
  go_wp2_with fail
  refine (pick_any g _ _ _ h (by omega)).mono ?_
  rintro e w1 ⟨v1, rfl, _, C1, o1⟩
  go_wp2_with fail
  refine (among_new g _ _ _ _ _ _ C1 (by first | (with_reducible rfl) | simp) (by omega) (by rfl) (by decide) (by decide) (by simp [isI])).mono ?_
  rintro e w2 ⟨v2, rfl, _, C2, o2⟩
  go_wp2_with fail
  refine (among_new g _ _ _ _ _ _ C2 (by first | (with_reducible rfl) | simp) (by omega) (by rfl) (by decide) (by decide) (by simp [isI])).mono ?_
  rintro e w3 ⟨v3, rfl, _, C3, o3⟩
  go_wp2_with fail
  go_ret
  exact ⟨v3, rfl, C3.more (by omega), (o1.trans o2).trans o3⟩

end Go.Proofs.Ythkddbonmfoaaaa

/-
  One word for regions that draw their order: a store.-/
namespace Go.Proofs.Ythkddbonmfoaaaa
set_option linter.unusedVariables false
set_option linter.unusedSimpArgs false
open Go.RowKit

theorem mix_store {P : Program} {ops : Array Oper} {C : World → Prop} {Q : Act → World → Prop} {k : Nat} {r : List (Nat × Bool)} {a : Act} {w : World} (o : Oper) (w' : World) (hk : ops[k]? = some o) (hw : Region.wanted o (yielded ops a.tmps) = true) (hv : (execOp a.eval o).run P w = .ok .skip w') (hC : C w')
    (h : wpMix P ops C Q r (a.put o.dst undef) w') : wpMix P ops C Q ((k, false) :: r) a w := by
  show eOp P ops k _ a w
  unfold eOp
  simp only [hk, hw, if_true, hv, goesUpon]
  exact ⟨hC, h⟩

end Go.Proofs.Ythkddbonmfoaaaa
