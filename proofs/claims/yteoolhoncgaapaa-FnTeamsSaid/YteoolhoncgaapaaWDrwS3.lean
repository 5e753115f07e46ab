/-
  Walks: drawn teams' cylinders and rates.
-/
import Derived.Test.YteoolhoncgaapaaWDrwS2
namespace Go.Proofs.Yteoolhoncgaapaa
set_option linter.unusedVariables false
set_option linter.unusedSimpArgs false
open Go.RowKit

/-- Two rows lie in blocks apart. -/
def Ap (v u : Value) : Prop := ∀ q, v.ownBlock = some q → u.ownBlock ≠ some q
theorem Ap.symm {v u : Value} (h : Ap v u) : Ap u v := fun q h1 h2 => h q h2 h1
theorem app_two {W W2 : World} {base E sz E' sz' n m n' s : Nat} {v u v' : Value} {xs ys xs' : List Value} (hR : W.ownsRow base E' sz' u m ys) (hA : Ap v u) (hv : W.ownsRow base E sz v n xs)
    (h : (v'.ownBlock = v.ownBlock ∧ W2.ownsRow base E sz v' n' xs' ∧ W.grownBy W2 v.ownBlock) ∨ (W2.ownsRow s E sz v' n' xs' ∧ W.grownBy W2 none)) (hs : s = W.heap.size) (hbase : base ≤ W.heap.size) :
    W2.ownsRow base E sz v' n' xs' ∧ W2.ownsRow base E' sz' u m ys ∧ Ap v' u ∧ ∃ row, W.grownBy W2 row ∧ ∀ q, row = some q → base ≤ q := by
  subst hs
  have keep : ∀ row, W.grownBy W2 row → (∀ q, u.ownBlock = some q → row ≠ some q) → W2.ownsRow base E' sz' u m ys := fun row hg hne => by
    obtain ⟨hl, h1⟩ := id hR
    refine ⟨hl, ?_⟩
    rcases h1 with h1 | ⟨q, cap, cur, rfl, hq, hh, r⟩
    · exact .inl h1
    · exact .inr ⟨q, cap, cur, rfl, hq, by rw [hg.block q (hR.lt q rfl).2 (fun e => hne q rfl e.symm)]; exact hh, r⟩
  rcases h with ⟨e, h1, hg⟩ | ⟨h1, hg⟩
  · exact ⟨h1, keep _ hg (fun q hq e2 => hA q e2 hq), fun q hq => hA q (e ▸ hq), _, hg, fun q hq => (hv.lt q hq).1⟩
  · refine ⟨h1.mono hbase, keep _ hg (fun q _ e2 => by cases e2), fun q hq hu => ?_, none, hg, fun q hq => by cases hq⟩
    have := (h1.lt q hq).1
    have := (hR.lt q hu).2
    omega
theorem sl_only {w w' : World} {lo hi sz n g : Nat} {v : Value} {c : Nat → Nat → Value} (h : Sl w lo hi sz v n c) (hO : Only g (g + 1) w w') (hg : g < lo) (hhi : hi ≤ w.heap.size) : Sl w' lo hi sz v n c := by
  obtain ⟨A, cap, rfl, hcap, hA⟩ := h.open_
  refine ⟨A, cap, rfl, hcap, fun hn => ?_⟩
  obtain ⟨b, off, e, h1, h2, h3⟩ := hA hn
  exact ⟨b, off, e, h1, h2, fun i j hi hj => (hO.cell (p := ⟨b, off + i * sz + j, none⟩) (by show b < _; omega) (by show b < g ∨ g + 1 ≤ b; omega)).trans (h3 i j hi hj)⟩
def TtPost (w : World) (e : Ending) (w' : World) : Prop := ∃ (u r : Value) (a s : Int), e = .returned (.tuple #[u, r, .int .i64 a, .int .i64 s]) ∧ ∃ (n n' hi hi' : Nat) (f k x : Nat → Int), Sl w' w.heap.size hi 2 u n (iiC f k) ∧ Sl w' w.heap.size hi' 1 r n' (iC x) ∧ n ≤ 5 ∧ n' ≤ 5 ∧ hi ≤ w'.heap.size ∧ hi' ≤ w'.heap.size ∧ Below w.heap.size w w'
theorem Sl.lower {w : World} {lo lo' hi sz n : Nat} {v : Value} {c : Nat → Nat → Value} (h : Sl w lo hi sz v n c) (hl : lo' ≤ lo) : Sl w lo' hi sz v n c := by
  obtain ⟨A, cap, rfl, hcap, hA⟩ := h.open_
  refine ⟨A, cap, rfl, hcap, fun hn => ?_⟩
  obtain ⟨b, off, e, h1, h2, h3⟩ := hA hn
  exact ⟨b, off, e, by omega, h2, h3⟩
theorem tt_post {w w' : World} {lo lo' hi hi' n n' : Nat} {u r : Value} {a s : Int} {f k x : Nat → Int} (h : Sl w' lo hi 2 u n (iiC f k)) (h' : Sl w' lo' hi' 1 r n' (iC x)) (hn : n ≤ 5) (hn' : n' ≤ 5) (hh : hi ≤ w'.heap.size) (hh' : hi' ≤ w'.heap.size) (hb : Below w.heap.size w w') (hlo : w.heap.size ≤ lo := by omega) (hlo' : w.heap.size ≤ lo' := by omega) : TtPost w (.returned (.tuple #[u, r, .int .i64 a, .int .i64 s])) w' :=
  ⟨_, _, _, _, rfl, _, _, _, _, _, _, _, h.lower hlo, h'.lower hlo', hn, hn', hh, hh', hb⟩
set_option maxRecDepth 100000 in
set_option maxHeartbeats 6400000 in
theorem DrawTeamTurn_any (v : Value) (w : World) (h : Code w v) :
    Calls Try.prog 27 #[v] w (TtPost w) := by
  obtain ⟨A, n, cap, rfl⟩ := h.form
  obtain ⟨i0, hi0, iz0, iz1, iz2⟩ := info_parts infoCyl
  obtain ⟨j0, hj0, jz0, jz1, jz2⟩ := info_parts infoInt
  have hC0 : Cu (w.alloc (.cells #[.slice A n cap, .int .i64 0, .int .u64 0] 75)) w.heap.size 0 := Cu.start h _
  have O0 : Only w.heap.size (w.heap.size + 1) w (w.alloc (.cells #[.slice A n cap, .int .i64 0, .int .u64 0] 75)) := (Only.refl _ _ w).alloc _
  go_enter Try.func27, Try.ntmps27
  go_wp2_with fail
  refine (among_new _ _ _ _ _ _ _ hC0 (by first | (with_reducible rfl) | simp) (by omega) (by rfl) (by decide) (by decide) (by simp [isI])).mono ?_
  rintro e w1 ⟨v1, rfl, hM1, hC1, hO1⟩
  have hz1 := hO1.size
  (try (simp at hz1))
  go_wp2_with fail
  refine (among_new _ _ _ _ _ _ _ hC1 (by first | (with_reducible rfl) | simp) (by omega) (by rfl) (by decide) (by decide) (by simp [isI])).mono ?_
  rintro e w2 ⟨v2, rfl, hM2, hC2, hO2⟩
  have hz2 := hO2.size
  (try (simp at hz2))
  have O2 := (O0.trans hO1).trans hO2
  simp at hM1 hM2
  obtain ⟨N, hN, hN0, hN5⟩ : ∃ N : Int, N = v2 ∧ 1 ≤ N ∧ N ≤ 5 := ⟨v2, rfl, by omega, by omega⟩
  subst hN
  have hlg : w.heap.size < w2.heap.size := hC2.lt
  have hC3 : Cu w2 w.heap.size 10 := hC2.more (by omega)
  clear O0 hC0 hC1 hC2 hO1 hO2 hM1 hM2
  go_wp2_with fail
  go_loopg [8, 9] 25 (fun gn lv rv wr => ∃ (k : Nat) (B : Option Addr) (cp : Nat) (xs : List Value) (B' : Option Addr) (cp' : Nat) (ys : List Value), (k : Int) ≤ N ∧ N.toNat - k < gn ∧ lv = .slice B k cp ∧ rv = .slice B' k cp' ∧ Hid (wr.ownsRow w2.heap.size 26 2 (.slice B k cp) k xs) ∧ Hid (∀ u ∈ xs, isI u = true) ∧ Hid (wr.ownsRow w2.heap.size 3 1 (.slice B' k cp') k ys) ∧ Hid (∀ u ∈ ys, isI u = true) ∧ Hid (Ap (.slice B k cp) (.slice B' k cp')) ∧ Cu wr w.heap.size (10 + 40 * k) ∧ Only w.heap.size (w.heap.size + 1) w wr ∧ w2.heap.size ≤ wr.heap.size)
  case atStart => exact ⟨0, none, 0, [], none, 0, [], by omega, by omega, rfl, rfl, World.ownsRow_nil _ _ _ _, fun u hu => by simp at hu, World.ownsRow_nil _ _ _ _, fun u hu => by simp at hu, (fun q hq => by cases hq), hC3, O2, Nat.le_refl _⟩
  case round =>
    obtain ⟨k, B, cp, xs, B', cp', ys, hk, hgn, rfl, rfl, hown, hxs, hrow, hys, hap, hCr, hOr, hwr⟩ := hrel
    have hzr := hOr.size
    by_cases hkn : (k : Int) < N
    · go_wp2_with fail
      refine (cylinder_any _ _ _ hCr (by omega)).mono ?_
      rintro e w4 ⟨cx, cy, rfl, hC4, hO4⟩
      have hown4 := row_only hown.out hO4 (by omega)
      have hrow4 := hide (row_only hrow.out hO4 (by omega))
      have O4 := hOr.trans hO4
      have hz4 := hO4.size
      clear hown hrow hOr hO4 hCr
      go_wp2_with (at_builtin; refine wpList_append_two _ rfl _ _ 30 rfl w2.heap.size 26 i0 (.agg #[.int .i64 0, .int .i64 0]) 2 16 Try.underlying30 hi0 iz0 iz1 iz2 rfl (by decide) _ _ _ rfl (hown4.alloc _) ⟨w4.heap.size, 0, none⟩ 1 1 [.int .i64 cx, .int .i64 cy] rfl rfl ?_ ?_ (by decide) ?_ ?_ ?_)
      · intro i u hu
        match i, hu with
        | 0, hu => simp at hu; subst hu; simp [go_sem, Addr.add]
        | 1, hu => simp at hu; subst hu; simp [go_sem, Addr.add]
      · intro u hu
        simp at hu
        rcases hu with rfl | rfl <;> rfl
      · unfold maxLen; omega
      · omega
      intro v' w5 hor
      obtain ⟨hown5, hrow5, hap5, row, hg5, hr5⟩ := app_two (hrow4.out.alloc _) hap.out (hown4.alloc _) hor (by simp) (by simp; omega)
      have O5 : Only w.heap.size (w.heap.size + 1) w w5 := (O4.alloc _).grown hg5 (fun q hq => by have := hr5 q hq; omega)
      have hC5 : Cu w5 w.heap.size _ := (hC4.alloc _).grown hg5 (fun q hq => by have := hr5 q hq; omega)
      have hz5 := hg5.size
      simp at hz5
      obtain ⟨B2, cp2, rfl⟩ := row_form hown5
      have hxs2 : Hid (∀ u ∈ xs ++ [.int .i64 cx, .int .i64 cy], isI u = true) := fun u hu => by
        rcases List.mem_append.1 hu with h1 | h1
        · exact hxs.out u h1
        · simp at h1
          rcases h1 with rfl | rfl <;> rfl
      have HO5 := hide hown5
      have HR5 := hide hrow5
      have HA5 := hide hap5
      clear hown4 hrow4 hap hor hown5 hrow5 hap5 hg5 hr5 hxs O4 hC4
      go_wp2_with fail
      refine (rateOf_any _ _ _ hC5 (by omega)).mono ?_
      rintro e w6 ⟨rr, rfl, hC6, hO6⟩
      have hown6 := hide (row_only HO5.out hO6 (by omega))
      have hrow6 := row_only HR5.out hO6 (by omega)
      have O6 := O5.trans hO6
      have hz6 := hO6.size
      clear HO5 HR5 O5 hO6 hC5
      go_wp2_with (at_builtin; refine wpList_append_two _ rfl _ _ 48 rfl w2.heap.size 3 j0 (.int .i64 0) 1 8 Try.underlying48 hj0 jz0 jz1 jz2 rfl (by decide) _ _ _ rfl (hrow6.alloc _) ⟨w6.heap.size, 0, none⟩ 1 1 [.int .i64 rr] rfl rfl ?_ ?_ (by decide) ?_ ?_ ?_)
      · intro i u hu
        match i, hu with
        | 0, hu => simp at hu; subst hu; simp [go_sem, Addr.add]
      · intro u hu
        simp at hu
        subst hu
        rfl
      · unfold maxLen; omega
      · omega
      intro v'' w7 hor
      obtain ⟨hrow7, hown7, hap7, row, hg7, hr7⟩ := app_two (hown6.out.alloc _) HA5.out.symm (hrow6.alloc _) hor (by simp) (by simp; omega)
      have O7 : Only w.heap.size (w.heap.size + 1) w w7 := (O6.alloc _).grown hg7 (fun q hq => by have := hr7 q hq; omega)
      have hC7 : Cu w7 w.heap.size _ := (hC6.alloc _).grown hg7 (fun q hq => by have := hr7 q hq; omega)
      have hz7 := hg7.size
      simp at hz7
      obtain ⟨B3, cp3, rfl⟩ := row_form hrow7
      have hys2 : Hid (∀ u ∈ ys ++ [.int .i64 rr], isI u = true) := fun u hu => by
        rcases List.mem_append.1 hu with h1 | h1
        · exact hys.out u h1
        · simp at h1
          subst h1
          rfl
      have HO7 := hide hown7
      have HR7 := hide hrow7
      have HA7 := hide hap7.symm
      clear hown6 hrow6 HA5 hor hown7 hrow7 hap7 hg7 hr7 hys O6 hC6
      go_wp2_with fail
      go_roundg (N.toNat - k)
      case measure => omega
      case rel => exact ⟨k + 1, B2, cp2, _, B3, cp3, _, by omega, by omega, rfl, rfl, HO7, hxs2, HR7, hys2, HA7, hC7.more (by omega), O7, by omega⟩
    · obtain ⟨fv, fb, hL⟩ := (IRow.of_own hown.out hxs.out).sl2
      have hRR := IRow.of_own hrow.out hys.out
      have HL := hide hL
      clear hown hrow hxs hys hap hL
      go_wp2_with fail
      refine (one_any _ _ _ _ hCr (by omega)).mono ?_
      rintro e w4 ⟨b4, rfl, hC4, hO4⟩
      have hz4 := hO4.size
      have HL4 := hide (sl_only HL.out hO4 (by omega) (Nat.le_refl _))
      have hR4 := hRR.only hO4 (by omega)
      have O4 := hOr.trans hO4
      clear HL hRR hOr hO4 hCr
      cases b4 with
      | false =>
        obtain ⟨fr, hS⟩ := hR4.sl1
        have HS4 := hide hS
        clear hS hR4
        go_wp2_with fail
        refine (wayOf_any _ _ _ hC4 (by omega)).mono ?_
        rintro e w5 ⟨wa, rfl, hC5, hO5⟩
        have hz5 := hO5.size
        have HL5 := hide (sl_only HL4.out hO5 (by omega) (by omega))
        have HS5 := hide (sl_only HS4.out hO5 (by omega) (by omega))
        have O5 := O4.trans hO5
        clear HL4 HS4 O4 hO5 hC4
        go_wp2_with fail
        refine (reserveOf_any _ _ _ hC5 (by omega)).mono ?_
        rintro e w6 ⟨rs, rfl, hC6, hO6⟩
        have hz6 := hO6.size
        have HL6 := hide (sl_only HL5.out hO6 (by omega) (by omega))
        have HS6 := hide (sl_only HS5.out hO6 (by omega) (by omega))
        have O6 := O5.trans hO6
        clear HL5 HS5 O5 hO6 hC5
        have hb : Below w.heap.size w w6 := O6.below (by omega) (Nat.le_refl _)
        clear O6 hC6
        go_wp2_with fail
        exact bodyPost_ret (v := .tuple #[.slice B k cp, .slice B' k cp', .int .i64 wa, .int .i64 rs]) (by simp [results, Try.results27, go_sem, *]) rfl (tt_post HL6.out HS6.out (by omega) (by omega) (by omega) (by omega) hb)
      | true =>
        rcases id hR4 with ⟨_, h0⟩ | ⟨q, cq, h0, hq1, hq2, hq3, hq4, hq5⟩
        · omega
        cases h0
        obtain ⟨k, rfl⟩ : ∃ k1, k = k1 + 1 := ⟨k - 1, by omega⟩
        obtain ⟨fr, hS⟩ := hR4.sl1
        by_cases h1 : cp' = 1
        · subst h1
          obtain rfl : k = 0 := by omega
          have HS4 : Hid (Sl w4 w2.heap.size w4.heap.size 1 (.slice (some ⟨q, 0, none⟩) 0 0) 0 (iC fr)) := ⟨_, _, rfl, Nat.le_refl _, fun hn => absurd hn (Nat.lt_irrefl _)⟩
          clear hS hR4 hq3 hq4 hq5
          go_wp2_with fail
          refine (wayOf_any _ _ _ hC4 (by omega)).mono ?_
          rintro e w5 ⟨wa, rfl, hC5, hO5⟩
          have hz5 := hO5.size
          have HL5 := hide (sl_only HL4.out hO5 (by omega) (by omega))
          have HS5 := hide (sl_only HS4.out hO5 (by omega) (by omega))
          have O5 := O4.trans hO5
          clear HL4 HS4 O4 hO5 hC4
          go_wp2_with fail
          refine (reserveOf_any _ _ _ hC5 (by omega)).mono ?_
          rintro e w6 ⟨rs, rfl, hC6, hO6⟩
          have hz6 := hO6.size
          have HL6 := hide (sl_only HL5.out hO6 (by omega) (by omega))
          have HS6 := hide (sl_only HS5.out hO6 (by omega) (by omega))
          have O6 := O5.trans hO6
          clear HL5 HS5 O5 hO6 hC5
          have hb : Below w.heap.size w w6 := O6.below (by omega) (Nat.le_refl _)
          clear O6 hC6
          go_wp2_with fail
          exact bodyPost_ret (v := .tuple #[.slice B (0 + 1) cp, (.slice (some ⟨q, 0, none⟩) 0 0), .int .i64 wa, .int .i64 rs]) (by simp [results, Try.results27, go_sem, *]) rfl (tt_post HL6.out HS6.out (by omega) (by omega) (by omega) (by omega) hb)
        · have HS4 : Hid (Sl w4 w2.heap.size w4.heap.size 1 (.slice (some ⟨q, 1, none⟩) k (cp' - 1)) k (iC fun i => fr (i + 1))) := ⟨_, _, rfl, by omega, fun hn => ⟨q, 1, rfl, hq2, hq3, fun i j hi hj => by
            obtain ⟨A1, cap1, e1, _, hA1⟩ := hS.open_
            cases e1
            obtain ⟨b1, o1, e2, _, _, h3⟩ := hA1 (by omega)
            cases e2
            have := h3 (i + 1) j (by omega) hj
            rw [show 0 + (i + 1) * 1 + j = 1 + i * 1 + j by omega] at this
            exact this⟩⟩
          clear hS hR4 hq3 hq4 hq5
          go_wp2_with fail
          refine (wayOf_any _ _ _ hC4 (by omega)).mono ?_
          rintro e w5 ⟨wa, rfl, hC5, hO5⟩
          have hz5 := hO5.size
          have HL5 := hide (sl_only HL4.out hO5 (by omega) (by omega))
          have HS5 := hide (sl_only HS4.out hO5 (by omega) (by omega))
          have O5 := O4.trans hO5
          clear HL4 HS4 O4 hO5 hC4
          go_wp2_with fail
          refine (reserveOf_any _ _ _ hC5 (by omega)).mono ?_
          rintro e w6 ⟨rs, rfl, hC6, hO6⟩
          have hz6 := hO6.size
          have HL6 := hide (sl_only HL5.out hO6 (by omega) (by omega))
          have HS6 := hide (sl_only HS5.out hO6 (by omega) (by omega))
          have O6 := O5.trans hO6
          clear HL5 HS5 O5 hO6 hC5
          have hb : Below w.heap.size w w6 := O6.below (by omega) (Nat.le_refl _)
          clear O6 hC6
          go_wp2_with fail
          exact bodyPost_ret (v := .tuple #[.slice B (k + 1) cp, (.slice (some ⟨q, 1, none⟩) k (cp' - 1)), .int .i64 wa, .int .i64 rs]) (by simp [results, Try.results27, go_sem, *]) rfl (tt_post HL6.out HS6.out (by omega) (by omega) (by omega) (by omega) hb)

end Go.Proofs.Yteoolhoncgaapaa
