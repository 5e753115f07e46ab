/-
  Texts of this proof, one behind the other (part 7).
-/
import Derived.Test.YtnmmkechkcfjnaaGreatDoorQ6
import Derived.Deep.LoopGhost
import Derived.Lib.SlicesCompact
/-
  Walks: what the reference draws of periods: a list of them (printed by gen_drwp2.py). Whatever it is.-/
namespace Go.Proofs.YtnmmkechkcfjnaaGreatDoor
set_option linter.unusedVariables false
set_option linter.unusedSimpArgs false
open Go.RowKit

theorem grownO {lo hi : Nat} {w w1 w2 : World} {row : Option Nat} (h : Only lo hi w w1) (hg : w1.grownBy w2 row) (hr : ∀ q, row = some q → w.heap.size ≤ q) : Only lo hi w w2 :=
  ⟨hg.os.trans h.os, hg.tape.trans h.tape, hg.output.trans h.output, Nat.le_trans h.size hg.size, fun k h1 h2 => (hg.block k (Nat.lt_of_lt_of_le h1 h.size) (fun e => by have := hr k e.symm; omega)).trans (h.block k h1 h2)⟩
theorem grownC {w w' : World} {g m : Nat} {row : Option Nat} (h : Cu w g m) (hg : w.grownBy w' row) (hr : ∀ q, row = some q → g < q) : Cu w' g m := by
  obtain ⟨a, ha, A, L, cap, f, s, h0, h1, h2, h3, h4, h5, h6, h7, h8⟩ := h
  have hgb : w'.heap[g]? = w.heap[g]? := hg.block g h8 (fun e => by have := hr g e.symm; omega)
  refine ⟨a, ha, A, L, cap, f, s, (World.cell?_of_block (a := ⟨g, 0, none⟩) hgb).trans h0, (World.cell?_of_block (a := ⟨g, 1, none⟩) hgb).trans h1, (World.cell?_of_block (a := ⟨g, 2, none⟩) hgb).trans h2, fun o => (World.frozen?_of_block (a := ⟨g, o, none⟩) hgb).trans (h3 o), h4, h5, h6, fun hL => ?_, Nat.lt_of_lt_of_le h8 hg.size⟩
  obtain ⟨b, off, e, hne, hlt, hc⟩ := h7 hL
  have hb : w'.heap[b]? = w.heap[b]? := hg.block b hlt (fun e => by have := hr b e.symm; omega)
  exact ⟨b, off, e, hne, Nat.lt_of_lt_of_le hlt hg.size, fun i hi => (World.cell?_of_block (a := ⟨b, off + i, none⟩) hb).trans (hc i hi)⟩
theorem rowO {w w' : World} {lo g n E sz : Nat} {v : Value} {xs : List Value} (h : w.ownsRow lo E sz v n xs) (hO : Only g (g + 1) w w') (hg : g < lo) : w'.ownsRow lo E sz v n xs := by
  obtain ⟨hl, h1⟩ := id h
  refine ⟨hl, ?_⟩
  rcases h1 with h1 | ⟨q, cap, cur, rfl, hq, hh, r⟩
  · exact .inl h1
  · exact .inr ⟨q, cap, cur, rfl, hq, by rw [hO.block q (h.lt q rfl).2 (by omega)]; exact hh, r⟩
theorem rowS {w : World} {lo n E sz p : Nat} {v : Value} {xs : List Value} (h : w.ownsRow lo E sz v n xs) (hp : ∀ q, v.ownBlock = some q → q ≠ p) (o : Nat) (u : Value) : (w.setCell ⟨p, o, none⟩ u).ownsRow lo E sz v n xs := by
  obtain ⟨hl, h1⟩ := id h
  refine ⟨hl, ?_⟩
  rcases h1 with h1 | ⟨q, cap, cur, rfl, hq, hh, r⟩
  · exact .inl h1
  · exact .inr ⟨q, cap, cur, rfl, hq, by rw [Deep.blk_setCell_other _ _ _ _ (hp q rfl)]; exact hh, r⟩
theorem rowL_one (c : Nat → ByteArray) (a b : Nat → Int) (k : Nat) (s : ByteArray) (x y : Int) : rowL (siiC c a b) 3 k ++ [.string s, .int .i64 x, .int .i64 y] = rowL (siiC (adS c k s) (adI a k x) (adI b k y)) 3 (k + 1) := by
  have e : ([.string s, .int .i64 x, .int .i64 y] : List Value) = rowL (siiC (fun _ => s) (fun _ => x) (fun _ => y)) 3 1 := by rfl
  rw [e, rowL_app]
  refine rowL_congr fun i j hi hj => ?_
  rcases Nat.lt_or_ge i k with h | h
  · simp [h, siiC, adS, adI]
  · obtain rfl : i = k := by omega
    simp [siiC, adS, adI]
theorem row_blk {w : World} {lo n E sz cap lb lf : Nat} {xs : List Value} (h : w.ownsRow lo E sz (.slice (some ⟨lb, lf, none⟩) n cap) n xs) : (Value.slice (some ⟨lb, lf, none⟩) n cap).ownBlock = some lb := by
  rcases h.2 with ⟨h0, _⟩ | ⟨q, cp, cur, h0, _⟩
  · cases h0
  · cases h0; rfl
/-- What a drawn list of periods is. -/
def PsPost (g m : Nat) (w : World) (e : Ending) (w' : World) : Prop := ∃ (v : Value) (n : Nat) (c : Nat → ByteArray) (a b : Nat → Int), e = .returned v ∧ n ≤ 13 ∧ (∀ i, i < n → (c i).size ≤ 7) ∧ Sl w' w.heap.size w'.heap.size 3 v n (siiC c a b) ∧ Cu w' g m ∧ Only g (g + 1) w w'
set_option maxRecDepth 100000 in
set_option maxHeartbeats 6400000 in
theorem periods_any (g m : Nat) (w : World) (h : Cu w g m) (hm : m < 80000000) :
    Calls Tryz.prog 43 #[.pointer (some ⟨g, 0, none⟩)] w (PsPost g (m + 1000) w) := by
  have hg := h.lt
  obtain ⟨i0, hi0, iz0, iz1, iz2⟩ := info_parts infoPer
  go_enter Tryz.func43, Tryz.ntmps43
  go_wp2_with fail
  refine (pick_any g _ _ _ h (by omega)).mono ?_
  rintro e w1 ⟨v1, rfl, hv1, C1, O1⟩
  obtain ⟨N0, rfl⟩ : ∃ N : Nat, v1 = N := ⟨v1.toNat, by omega⟩
  have hN0 : N0 ≤ 8 := by omega
  have hz1 := O1.size
  clear hv1
  go_wp2_with fail
  go_loopg [3, 4] 10 (fun gn lv nv wr => ∃ (k : Nat) (A : Option Addr) (cp : Nat) (c : Nat → ByteArray) (a b : Nat → Int) (N : Nat), k + N ≤ 8 ∧ N ≤ 8 ∧ N < gn ∧ lv = .slice A k cp ∧ nv = .int .i64 N ∧ Hid (wr.ownsRow w.heap.size 38 3 (.slice A k cp) k (rowL (siiC c a b) 3 k)) ∧ Hid (∀ i, i < k → (c i).size ≤ 7) ∧ Cu wr g (m + 2 + 50 * (8 - N)) ∧ Only g (g + 1) w wr)
  case atStart => exact ⟨0, none, 0, fun _ => ⟨#[]⟩, fun _ => 0, fun _ => 0, N0, by omega, by omega, by omega, rfl, rfl, World.ownsRow_nil _ _ _ _, (fun i hi => absurd hi (Nat.not_lt_zero _)), C1.more (by omega), O1⟩
  case round =>
    clear C1 O1
    obtain ⟨k, A, cp, c, a, b, N, hkN, hN8, hgn, rfl, rfl, hown, hcs, Cr, Or⟩ := hrel
    have hzr := Or.size
    rcases Nat.eq_zero_or_pos N with hN | hN
    · obtain rfl : N = 0 := hN
      clear hgn
      go_wp2_with fail
      refine (pick_any g _ _ _ Cr (by omega)).mono ?_
      rintro e w2 ⟨v2, rfl, hv2, C2, o2⟩
      have hown2 := hide (rowO hown.out o2 (by omega))
      have O2 := Or.trans o2
      have hz2 := O2.size
      clear hown Cr Or o2 hv2
      by_cases e0 : v2 = 0
      · subst e0
        go_wp2_with fail
        refine (period_any g _ _ C2 (by omega)).mono ?_
        rintro e w3 ⟨s, x, y, rfl, hs, C3, o3⟩
        have hown3 := hide (rowO hown2.out o3 (by omega))
        have O3 := O2.trans o3
        have hz3 := O3.size
        clear hown2 C2 O2 o3
        go_wp2_with (at_builtin; refine wpList_append_own _ rfl _ _ 27 rfl w.heap.size 38 i0 (.agg #[.string ⟨#[]⟩, .int .i64 0, .int .i64 0]) 3 32 Tryz.underlying27 hi0 iz0 iz1 iz2 rfl (by decide) _ _ _ rfl (hown3.out.alloc _) ⟨w3.heap.size, 0, none⟩ 1 1 [.string s, .int .i64 x, .int .i64 y] rfl rfl ?_ ?_ ?_ ?_ ?_ ?_)
        · intro i u hu
          match i, hu with
          | 0, hu => simp at hu; subst hu; simp [go_sem, Addr.add]
          | 1, hu => simp at hu; subst hu; simp [go_sem, Addr.add]
          | 2, hu => simp at hu; subst hu; simp [go_sem, Addr.add]
        · intro u hu
          simp at hu
          rcases hu with rfl | rfl | rfl <;> rfl
        · unfold maxLen; omega
        · omega
        · simp; omega
        intro v' w4 hown4 hg4 _
        have O4 : Only g (g + 1) w w4 := grownO (O3.alloc _) hg4 (fun q hq => (hown3.out.lt q hq).1)
        have C4 : Cu w4 g (m + 1000) := (grownC (C3.alloc _) hg4 (fun q hq => by have := (hown3.out.lt q hq).1; omega)).more (by omega)
        rw [rowL_one] at hown4
        have HS4 := hide ((own_row hown4).sl)
        have hcs4 : Hid (∀ i, i < k + 1 → (adS c k s i).size ≤ 7) := fun i hi => by
          unfold adS
          split
          · exact hcs.out i (by omega)
          · split
            · exact hs
            · exact hcs.out (i - 1) (by omega)
        clear hown3 C3 O3 hown4 hg4
        go_wp2_with fail
        go_ret
        exact ⟨_, k + 1, _, _, _, rfl, by omega, hcs4.out, HS4.out, C4, O4⟩
      · have d0 : (v2 == 0) = false := by simp [e0]
        by_cases e1 : v2 = 1
        · subst e1
          clear hown2 hcs
          go_wp2_with fail
          refine (pick_any g _ _ _ C2 (by omega)).mono ?_
          rintro e w3 ⟨v3, rfl, hv3, C3, o3⟩
          obtain ⟨M, hM⟩ : ∃ M : Nat, (M : Int) = 12 + v3 := ⟨(12 + v3).toNat, by omega⟩
          have zM : IntKind.i64.wrap (12 + v3) = (M : Int) := by rw [IntWalk.i64_in _ (by omega)]; exact hM.symm
          have hMb : 12 ≤ M ∧ M ≤ 13 := by omega
          have O3 := O2.trans o3
          have hz3 := O3.size
          clear C2 O2 o3 hM hv3
          go_wp2_with fail
          go_loopg [3] 20 (fun gn lv wr => ∃ (j : Nat) (A : Option Addr) (cp : Nat), j ≤ M ∧ M - j < gn ∧ lv = .slice A j cp ∧ Hid (wr.ownsRow w.heap.size 38 3 (.slice A j cp) j (rowL (siiC (fun _ => ⟨#[97]⟩) (fun i => 10 * (i : Int)) (fun i => 10 * (i : Int) + 10)) 3 j)) ∧ Cu wr g (m + 800) ∧ Only g (g + 1) w wr)
          case atStart => exact ⟨0, none, 0, by omega, by omega, rfl, World.ownsRow_nil _ _ _ _, C3.more (by omega), O3⟩
          case round =>
            clear C3 O3
            obtain ⟨j, A, cp, hj, hgn, rfl, hown, Cr, Or⟩ := hrel
            have hzr := Or.size
            by_cases hjm : j < M
            · have z1 : IntKind.i64.wrap (10 * (j : Int)) = 10 * (j : Int) := IntWalk.i64_in _ (by omega)
              have z2 : IntKind.i64.wrap (10 * (j : Int) + 10) = 10 * (j : Int) + 10 := IntWalk.i64_in _ (by omega)
              go_wp2_with (at_builtin; refine wpList_append_own _ rfl _ _ 27 rfl w.heap.size 38 i0 (.agg #[.string ⟨#[]⟩, .int .i64 0, .int .i64 0]) 3 32 Tryz.underlying27 hi0 iz0 iz1 iz2 rfl (by decide) _ _ _ rfl (hown.out.alloc _) ⟨wr.heap.size, 0, none⟩ 1 1 [.string ⟨#[97]⟩, .int .i64 (10 * (j : Int)), .int .i64 (10 * (j : Int) + 10)] rfl rfl ?_ ?_ ?_ ?_ ?_ ?_)
              · intro i u hu
                match i, hu with
                | 0, hu => simp at hu; subst hu; simp [go_sem, Addr.add]
                | 1, hu => simp at hu; subst hu; simp [go_sem, Addr.add]
                | 2, hu => simp at hu; subst hu; simp [go_sem, Addr.add]
              · intro u hu
                simp at hu
                rcases hu with rfl | rfl | rfl <;> rfl
              · unfold maxLen; omega
              · omega
              · simp; omega
              intro v' w4 hown4 hg4 _
              have O4 : Only g (g + 1) w w4 := grownO (Or.alloc _) hg4 (fun q hq => (hown.out.lt q hq).1)
              have C4 : Cu w4 g (m + 800) := grownC (Cr.alloc _) hg4 (fun q hq => by have := (hown.out.lt q hq).1; omega)
              rw [rowL_one] at hown4
              have hr4 : w4.ownsRow w.heap.size 38 3 v' (j + 1) (rowL (siiC (fun _ => ⟨#[97]⟩) (fun i => 10 * (i : Int)) (fun i => 10 * (i : Int) + 10)) 3 (j + 1)) := by
                rw [rowL_congr (c' := siiC (adS (fun _ => ⟨#[97]⟩) j ⟨#[97]⟩) (adI (fun i => 10 * (i : Int)) j (10 * (j : Int))) (adI (fun i => 10 * (i : Int) + 10) j (10 * (j : Int) + 10)))]
                · exact hown4
                · intro i l hi _
                  rcases Nat.lt_or_ge i j with h1 | h1
                  · simp [h1, siiC, adS, adI]
                  · obtain rfl : i = j := by omega
                    simp [siiC, adS, adI]
              obtain ⟨A4, c4, rfl⟩ := row_form hr4
              have HR4 := hide hr4
              clear hown Cr Or hown4 hg4 hr4 z1 z2
              go_wp2_with fail
              go_roundg (M - j)
              case measure => omega
              case rel => exact ⟨j + 1, A4, c4, by omega, by omega, rfl, HR4, C4, O4⟩
            · have HS := hide ((own_row hown.out).sl)
              clear hown
              go_wp2_with fail
              go_ret
              exact ⟨_, j, _, _, _, rfl, by omega, (fun i hi => by show ByteArray.size ⟨#[97]⟩ ≤ 7; decide), HS.out, Cr.more (by omega), Or⟩
        · have d1 : (v2 == 1) = false := by simp [e1]
          have HS := hide ((own_row hown2.out).sl)
          clear hown2
          go_wp2_with fail
          go_ret
          exact ⟨_, k, _, _, _, rfl, by omega, hcs.out, HS.out, C2.more (by omega), O2⟩
    · have hNi : (0 : Int) < (N : Int) := by omega
      have zN : IntKind.i64.wrap ((N : Int) - 1) = (N : Int) - 1 := IntWalk.i64_in _ (by omega)
      go_wp2_with fail
      refine (period_any g _ _ Cr (by omega)).mono ?_
      rintro e w2 ⟨s, x, y, rfl, hs, C2, o2⟩
      have hown2 := hide (rowO hown.out o2 (by omega))
      have O2 := Or.trans o2
      have hz2 := O2.size
      clear hown Cr Or o2
      obtain ⟨W3, hW3⟩ : ∃ W, W = w2.alloc (.cells #[.string s, .int .i64 x, .int .i64 y] 38) := ⟨_, rfl⟩
      obtain ⟨pb, hpb⟩ : ∃ z, z = w2.heap.size := ⟨_, rfl⟩
      have P3 : Hid (BxP W3 pb s x y) := by show BxP _ _ _ _ _; rw [hW3, hpb]; exact BxP.new _ _ _ _ _
      have hown3 : Hid (W3.ownsRow w.heap.size 38 3 (.slice A k cp) k (rowL (siiC c a b) 3 k)) := by show World.ownsRow _ _ _ _ _ _ _; rw [hW3]; exact hown2.out.alloc _
      have C3 : Cu W3 g (m + 2 + 50 * (8 - N) + 30) := by rw [hW3]; exact C2.alloc _
      have O3 : Only g (g + 1) w W3 := by rw [hW3]; exact O2.alloc _
      have hgp : g < pb ∧ w.heap.size ≤ pb := by omega
      have hpr : Hid (∀ q, (Value.slice A k cp).ownBlock = some q → q ≠ pb) := fun q hq => by have := (hown2.out.lt q hq).2; omega
      rcases Nat.eq_zero_or_pos k with hk | hk
      · have hk1 : ¬ 0 < k := by omega
        have dk : decide (0 < k) = false := by simp [hk]
        have dk' : decide ((0 : Int) < (k : Int)) = false := by simp [hk]
        clear hk hk1
        go_wp2_with fail
        rw [← hW3]
        clear hW3 hpb hown2 C2 O2
        refine (AddPeriod_specR c a b k s x y w.heap.size _ _ _ ((own_row hown3.out).sl) (Nat.le_refl _) ⟨by omega, fun i hi => by have := hcs.out i hi; unfold maxLen; omega⟩ (by have := hs; unfold maxLen; omega)).mono ?_
        rintro e w9 ⟨v9, rfl, ho9, hb9⟩
        have C9 := C3.below hb9 (Nat.le_refl _)
        have O9 := O3.then_below hb9
        have hz9 := hb9.size
        cases h9 : adOk c a b k s x y with
        | false =>
          have hown9 := hide (row_below hown3.out hb9 (Nat.le_refl _))
          clear hown3 C3 O3 ho9 hb9 h9
          go_wp2_with fail
          go_roundg N
          case measure => omega
          case rel => exact ⟨k, A, cp, c, a, b, N - 1, by omega, by omega, by omega, rfl, by go_num, hown9, hcs, C9.more (by omega), O9⟩
        | true =>
          have hK := adK_le c a k s x
          rw [adN, if_pos h9] at ho9
          have hcs9 : Hid (∀ i, i < k + 1 → (adS c (adK c a k s x) s i).size ≤ 7) := fun i hi => by
            unfold adS
            split
            · exact hcs.out i (by omega)
            · split
              · exact hs
              · exact hcs.out (i - 1) (by omega)
          have hown9 := (ho9.mono (show w.heap.size ≤ _ by have := O3.size; omega) (Nat.le_refl _)).row
          obtain ⟨A9, c9, rfl⟩ := row_form hown9
          have HO9 := hide hown9
          clear hown3 C3 O3 ho9 hb9 h9 hown9
          go_wp2_with fail
          go_roundg N
          case measure => omega
          case rel => exact ⟨k + 1, A9, c9, _, _, _, N - 1, by omega, by omega, by omega, rfl, by go_num, HO9, hcs9, C9.more (by omega), O9⟩
      · have dk : decide (0 < k) = true := by simp [hk]
        have dk' : decide ((0 : Int) < (k : Int)) = true := by simp [hk]
        go_wp2_with fail
        rw [← hW3]
        rw [← hpb]
        clear hW3 hpb hown2 C2 O2
        refine (one_any g _ _ _ C3 (by omega)).mono ?_
        rintro e w4 ⟨b4, rfl, C4, o4⟩
        have P4 := hide (P3.out.only o4 (by omega))
        have hown4 := hide (rowO hown3.out o4 (by omega))
        have O4 := O3.trans o4
        clear P3 hown3 C3 O3 o4
        cases b4 with
        | false =>
          obtain ⟨p0, p1, p2, pf, pl⟩ := P4.out
          go_wp2_with fail
          clear p0 p1 p2 pf pl P4
          refine (AddPeriod_specR c a b k s x y w.heap.size _ _ _ ((own_row hown4.out).sl) (Nat.le_refl _) ⟨by omega, fun i hi => by have := hcs.out i hi; unfold maxLen; omega⟩ (by have := hs; unfold maxLen; omega)).mono ?_
          rintro e w9 ⟨v9, rfl, ho9, hb9⟩
          have C9 := C4.below hb9 (Nat.le_refl _)
          have O9 := O4.then_below hb9
          have hz9 := hb9.size
          cases h9 : adOk c a b k s x y with
          | false =>
            have hown9 := hide (row_below hown4.out hb9 (Nat.le_refl _))
            clear hown4 C4 O4 ho9 hb9 h9
            go_wp2_with fail
            go_roundg N
            case measure => omega
            case rel => exact ⟨k, A, cp, c, a, b, N - 1, by omega, by omega, by omega, rfl, by go_num, hown9, hcs, C9.more (by omega), O9⟩
          | true =>
            have hK := adK_le c a k s x
            rw [adN, if_pos h9] at ho9
            have hcs9 : Hid (∀ i, i < k + 1 → (adS c (adK c a k s x) s i).size ≤ 7) := fun i hi => by
              unfold adS
              split
              · exact hcs.out i (by omega)
              · split
                · exact hs
                · exact hcs.out (i - 1) (by omega)
            have hown9 := (ho9.mono (show w.heap.size ≤ _ by have := O4.size; omega) (Nat.le_refl _)).row
            obtain ⟨A9, c9, rfl⟩ := row_form hown9
            have HO9 := hide hown9
            clear hown4 C4 O4 ho9 hb9 h9 hown9
            go_wp2_with fail
            go_roundg N
            case measure => omega
            case rel => exact ⟨k + 1, A9, c9, _, _, _, N - 1, by omega, by omega, by omega, rfl, by go_num, HO9, hcs9, C9.more (by omega), O9⟩
        | true =>
          obtain ⟨p0, p1, p2, pf, pl⟩ := P4.out
          have hsl := (own_row hown4.out).sl
          obtain ⟨A5, cp5, e5, _, hA5⟩ := Sl.open_ hsl
          injection e5 with e51 e52 e53
          subst e51 e53
          obtain ⟨lb, lf, rfl, hl1, hl2, hl3⟩ := hA5 hk
          have q0 : w4.cell? ⟨lb, lf + (k - 1) * 3, none⟩ = some (.string (c (k - 1))) := by simpa [siiC] using hl3 (k - 1) 0 (by omega) (by omega)
          have q2 : w4.cell? ⟨lb, lf + (k - 1) * 3 + 2, none⟩ = some (.int .i64 (b (k - 1))) := by simpa [siiC] using hl3 (k - 1) 2 (by omega) (by omega)
          have hlp : lb ≠ pb := hpr.out lb (row_blk hown4.out)
          have hlp' : pb ≠ lb := Ne.symm hlp
          have z1 : IntKind.i64.wrap ((k : Int) - 1) = (k : Int) - 1 := IntWalk.i64_in _ (by omega)
          have z2 : ((k : Int) - 1).toNat = k - 1 := by omega
          have hsk : (c (k - 1)).size ≤ 7 := hcs.out (k - 1) (by omega)
          obtain ⟨s5, hs5⟩ : ∃ z, c (k - 1) = z := ⟨_, rfl⟩
          obtain ⟨x5, hx5⟩ : ∃ z, b (k - 1) = z := ⟨_, rfl⟩
          rw [hs5] at q0 hsk
          rw [hx5] at q2
          obtain ⟨y5, hy5⟩ : ∃ z, IntKind.i64.wrap (x5 + 30) = z := ⟨_, rfl⟩
          obtain ⟨W5, hW5⟩ : ∃ W, W = ((w4.setCell ⟨pb, 0, none⟩ (.string s5)).setCell ⟨pb, 1, none⟩ (.int .i64 x5)).setCell ⟨pb, 2, none⟩ (.int .i64 y5) := ⟨_, rfl⟩
          have hown5 : Hid (W5.ownsRow w.heap.size 38 3 (.slice (some ⟨lb, lf, none⟩) k cp) k (rowL (siiC c a b) 3 k)) := by show World.ownsRow _ _ _ _ _ _ _; rw [hW5]; exact rowS (rowS (rowS hown4.out hpr.out _ _) hpr.out _ _) hpr.out _ _
          have C5 : Cu W5 g (m + 2 + 50 * (8 - N) + 32) := by rw [hW5]; exact ((C4.set (by show g < pb; omega) _).set (by show g < pb; omega) _).set (by show g < pb; omega) _
          have O5 : Only g (g + 1) w W5 := by rw [hW5]; exact ((O4.setNew (by show w.heap.size ≤ pb; omega) _).setNew (by show w.heap.size ≤ pb; omega) _).setNew (by show w.heap.size ≤ pb; omega) _
          have HW5 := hide hW5
          clear hA5 hl3 hsl hs5 hx5 hW5 hpr
          go_wp2_with fail
          rw [← HW5.out]
          clear p0 p1 p2 pf pl P4 hown4 C4 O4 q0 q2 HW5 z1 z2 hy5
          refine (AddPeriod_specR c a b k s5 x5 y5 w.heap.size _ _ _ ((own_row hown5.out).sl) (Nat.le_refl _) ⟨by omega, fun i hi => by have := hcs.out i hi; unfold maxLen; omega⟩ (by have := hsk; unfold maxLen; omega)).mono ?_
          rintro e w9 ⟨v9, rfl, ho9, hb9⟩
          have C9 := C5.below hb9 (Nat.le_refl _)
          have O9 := O5.then_below hb9
          have hz9 := hb9.size
          cases h9 : adOk c a b k s5 x5 y5 with
          | false =>
            have hown9 := hide (row_below hown5.out hb9 (Nat.le_refl _))
            clear hown5 C5 O5 ho9 hb9 h9
            go_wp2_with fail
            go_roundg N
            case measure => omega
            case rel => exact ⟨k, _, cp, c, a, b, N - 1, by omega, by omega, by omega, rfl, by go_num, hown9, hcs, C9.more (by omega), O9⟩
          | true =>
            have hK := adK_le c a k s5 x5
            rw [adN, if_pos h9] at ho9
            have hcs9 : Hid (∀ i, i < k + 1 → (adS c (adK c a k s5 x5) s5 i).size ≤ 7) := fun i hi => by
              unfold adS
              split
              · exact hcs.out i (by omega)
              · split
                · exact hsk
                · exact hcs.out (i - 1) (by omega)
            have hown9 := (ho9.mono (show w.heap.size ≤ _ by have := O5.size; omega) (Nat.le_refl _)).row
            obtain ⟨A9, c9, rfl⟩ := row_form hown9
            have HO9 := hide hown9
            clear hown5 C5 O5 ho9 hb9 h9 hown9
            go_wp2_with fail
            go_roundg N
            case measure => omega
            case rel => exact ⟨k + 1, A9, c9, _, _, _, N - 1, by omega, by omega, by omega, rfl, by go_num, HO9, hcs9, C9.more (by omega), O9⟩

end Go.Proofs.YtnmmkechkcfjnaaGreatDoor

/-
  Walks: what the reference draws of periods with what is asked of them (printed by gen_drwp3.py). Whatever it is.-/
namespace Go.Proofs.YtnmmkechkcfjnaaGreatDoor
set_option linter.unusedVariables false
set_option linter.unusedSimpArgs false
open Go.RowKit

theorem slO {w w' : World} {lo hi sz n g : Nat} {v : Value} {c : Nat → Nat → Value} (h : Sl w lo hi sz v n c) (hO : Only g (g + 1) w w') (hg : g < lo) (hs : hi ≤ w.heap.size) : Sl w' lo hi sz v n c :=
  h.keep fun q h1 h2 => hO.block q (by omega) (by omega)
set_option maxRecDepth 100000 in
set_option maxHeartbeats 1600000 in
theorem reliefMinute_any (g m : Nat) (w : World) (h : Cu w g m) (hm : m < 95000000) :
    Calls Tryz.prog 59 #[.pointer (some ⟨g, 0, none⟩)] w fun e w' => ∃ v : Int, e = .returned (.int .i64 v) ∧ Cu w' g (m + 6) ∧ Only g (g + 1) w w' := by
  have hg := h.lt
  go_enter Tryz.func59, Tryz.ntmps59
  go_wp2_with fail
  refine (pick_any g _ _ _ h (by omega)).mono ?_
  rintro e w1 ⟨v1, rfl, hv1, C1, o1⟩
  have z1 : IntKind.i64.wrap (10 * v1) = 10 * v1 := IntWalk.i64_in _ (by omega)
  go_wp2_with fail
  refine (among_new g _ _ _ _ _ _ C1 (by first | (with_reducible rfl) | simp) (by omega) (by rfl) (by decide) (by decide) (by simp [isI])).mono ?_
  rintro e w2 ⟨v2, rfl, _, C2, o2⟩
  go_wp2_with fail
  refine (among_new g _ _ _ _ _ _ C2 (by first | (with_reducible rfl) | simp) (by omega) (by rfl) (by decide) (by decide) (by simp [isI])).mono ?_
  rintro e w3 ⟨v3, rfl, _, C3, o3⟩
  go_wp2_with fail
  go_ret
  exact ⟨_, rfl, C3.more (by omega), ((o1.trans o2).trans o3)⟩
set_option maxRecDepth 100000 in
set_option maxHeartbeats 1600000 in
theorem mostMinutes_any (g m : Nat) (w : World) (h : Cu w g m) (hm : m < 95000000) :
    Calls Tryz.prog 64 #[.pointer (some ⟨g, 0, none⟩)] w fun e w' => ∃ v : Int, e = .returned (.int .i64 v) ∧ Cu w' g (m + 6) ∧ Only g (g + 1) w w' := by
  have hg := h.lt
  go_enter Tryz.func64, Tryz.ntmps64
  go_wp2_with fail
  refine (among_new g _ _ _ _ _ _ h (by first | (with_reducible rfl) | simp) (by omega) (by rfl) (by decide) (by decide) (by simp [isI])).mono ?_
  rintro e w1 ⟨v1, rfl, _, C1, o1⟩
  go_wp2_with fail
  refine (among_new g _ _ _ _ _ _ C1 (by first | (with_reducible rfl) | simp) (by omega) (by rfl) (by decide) (by decide) (by simp [isI])).mono ?_
  rintro e w2 ⟨v2, rfl, _, C2, o2⟩
  go_wp2_with fail
  go_ret
  exact ⟨_, rfl, C2.more (by omega), (o1.trans o2)⟩
set_option maxRecDepth 100000 in
set_option maxHeartbeats 1600000 in
theorem leastMinutes_any (g m : Nat) (w : World) (h : Cu w g m) (hm : m < 95000000) :
    Calls Tryz.prog 65 #[.pointer (some ⟨g, 0, none⟩)] w fun e w' => ∃ v : Int, e = .returned (.int .i64 v) ∧ Cu w' g (m + 6) ∧ Only g (g + 1) w w' := by
  have hg := h.lt
  go_enter Tryz.func65, Tryz.ntmps65
  go_wp2_with fail
  refine (among_new g _ _ _ _ _ _ h (by first | (with_reducible rfl) | simp) (by omega) (by rfl) (by decide) (by decide) (by simp [isI])).mono ?_
  rintro e w1 ⟨v1, rfl, _, C1, o1⟩
  go_wp2_with fail
  refine (among_new g _ _ _ _ _ _ C1 (by first | (with_reducible rfl) | simp) (by omega) (by rfl) (by decide) (by decide) (by simp [isI])).mono ?_
  rintro e w2 ⟨v2, rfl, _, C2, o2⟩
  go_wp2_with fail
  go_ret
  exact ⟨_, rfl, C2.more (by omega), (o1.trans o2)⟩
/-- What DrawWorkedBy hands back. -/
def WorkedByPost (w : World) (e : Ending) (w' : World) : Prop := ∃ (u : Value) (n : Nat) (c : Nat → ByteArray) (a b : Nat → Int) (s0 : ByteArray) (x1 : Int), e = .returned (.tuple #[u, .string s0, .int .i64 x1]) ∧ n ≤ 13 ∧ (∀ i, i < n → (c i).size ≤ 7) ∧ s0.size ≤ 7 ∧ Sl w' w.heap.size w'.heap.size 3 u n (siiC c a b) ∧ Below w.heap.size w w'
/-- What DrawIsDue hands back. -/
def IsDuePost (w : World) (e : Ending) (w' : World) : Prop := ∃ (u : Value) (n : Nat) (c : Nat → ByteArray) (a b : Nat → Int) (s0 : ByteArray) (x1 : Int) (x2 : Int), e = .returned (.tuple #[u, .string s0, .int .i64 x1, .int .i64 x2]) ∧ n ≤ 13 ∧ (∀ i, i < n → (c i).size ≤ 7) ∧ s0.size ≤ 7 ∧ Sl w' w.heap.size w'.heap.size 3 u n (siiC c a b) ∧ Below w.heap.size w w'
/-- What DrawLongSpells hands back. -/
def LongSpellsPost (w : World) (e : Ending) (w' : World) : Prop := ∃ (u : Value) (n : Nat) (c : Nat → ByteArray) (a b : Nat → Int) (x0 : Int), e = .returned (.tuple #[u, .int .i64 x0]) ∧ n ≤ 13 ∧ (∀ i, i < n → (c i).size ≤ 7) ∧ Sl w' w.heap.size w'.heap.size 3 u n (siiC c a b) ∧ Below w.heap.size w w'
/-- What DrawShortRests hands back. -/
def ShortRestsPost (w : World) (e : Ending) (w' : World) : Prop := ∃ (u : Value) (n : Nat) (c : Nat → ByteArray) (a b : Nat → Int) (x0 : Int), e = .returned (.tuple #[u, .int .i64 x0]) ∧ n ≤ 13 ∧ (∀ i, i < n → (c i).size ≤ 7) ∧ Sl w' w.heap.size w'.heap.size 3 u n (siiC c a b) ∧ Below w.heap.size w w'
/-- What DrawNextRelief hands back. -/
def NextReliefPost (w : World) (e : Ending) (w' : World) : Prop := ∃ (u : Value) (n : Nat) (c : Nat → ByteArray) (a b : Nat → Int) (s0 : ByteArray) (x1 : Int), e = .returned (.tuple #[u, .string s0, .int .i64 x1]) ∧ n ≤ 13 ∧ (∀ i, i < n → (c i).size ≤ 7) ∧ s0.size ≤ 7 ∧ Sl w' w.heap.size w'.heap.size 3 u n (siiC c a b) ∧ Below w.heap.size w w'

end Go.Proofs.YtnmmkechkcfjnaaGreatDoor

/-
  Plain words: a list of texts put in their order one by one; the same, sorted and without doubles.-/
namespace Go.Proofs.YtnmmkechkcfjnaaGreatDoor
set_option linter.unusedVariables false
set_option linter.unusedSimpArgs false

theorem bl_lt : ∀ {a b : List UInt8}, a < b ↔ Op.bytesLess a b = true
  | [], [] => by simp [Op.bytesLess]
  | [], _ :: _ => by simp [Op.bytesLess]
  | _ :: _, [] => by simp [Op.bytesLess]
  | a :: x, b :: y => by
    rw [List.cons_lt_cons_iff, bl_lt]
    simp [Op.bytesLess]
abbrev BL (a b : List UInt8) : Prop := Op.bytesLess a b = true
theorem bl_no {a : List UInt8} : ¬ BL a a := by
  intro h
  rw [BL, bl_irrefl] at h
  cases h
/-- Strictly rising. -/
def SS (l : List (List UInt8)) : Prop := l.Pairwise BL
theorem ss_unique : ∀ {l l' : List (List UInt8)}, SS l → SS l' → (∀ x, x ∈ l ↔ x ∈ l') → l = l'
  | [], [], _, _, _ => rfl
  | [], b :: l', _, _, h => by have := (h b).2 (by simp); simp at this
  | a :: l, [], _, _, h => by have := (h a).1 (by simp); simp at this
  | a :: l, b :: l', h1, h2, h => by
    rw [SS, List.pairwise_cons] at h1 h2
    have e : a = b := by
      have x1 := (h a).1 (by simp)
      have x2 := (h b).2 (by simp)
      rw [List.mem_cons] at x1 x2
      rcases x1 with x1 | x1
      · exact x1
      rcases x2 with x2 | x2
      · exact x2.symm
      exact absurd (bl_trans (h2.1 a x1) (h1.1 b x2)) bl_no
    subst e
    congr 1
    refine ss_unique h1.2 h2.2 fun x => ⟨fun hx => ?_, fun hx => ?_⟩
    · have h3 := (h x).1 (by simp [hx])
      rw [List.mem_cons] at h3
      rcases h3 with h3 | h3
      · subst h3; exact absurd (h1.1 _ hx) bl_no
      · exact h3
    · have h3 := (h x).2 (by simp [hx])
      rw [List.mem_cons] at h3
      rcases h3 with h3 | h3
      · subst h3; exact absurd (h2.1 _ hx) bl_no
      · exact h3
/-- One more in its place. -/
def putL (s : List UInt8) : List (List UInt8) → List (List UInt8)
  | [] => [s]
  | x :: l => if Op.bytesLess x s = true then x :: putL s l else if x = s then x :: l else s :: x :: l
theorem putL_mem (s : List UInt8) : ∀ (l : List (List UInt8)) (x : List UInt8), x ∈ putL s l ↔ x = s ∨ x ∈ l
  | [], x => by simp [putL]
  | y :: l, x => by
    rw [putL]
    split
    · rw [List.mem_cons, putL_mem s l x, List.mem_cons]
      constructor
      · rintro (h | h | h) <;> simp [h]
      · rintro (h | h | h) <;> simp [h]
    · split
      · rename_i h
        subst h
        rw [List.mem_cons]
        constructor
        · intro h; exact .inr h
        · rintro (h | h)
          · exact .inl h
          · exact h
      · rw [List.mem_cons]
theorem putL_ss (s : List UInt8) : ∀ {l : List (List UInt8)}, SS l → SS (putL s l)
  | [], _ => by simp [SS, putL]
  | y :: l, h => by
    have h0 := h
    rw [SS, List.pairwise_cons] at h0
    rw [putL]
    split
    · rename_i hy
      rw [SS, List.pairwise_cons]
      refine ⟨fun x hx => ?_, putL_ss s h0.2⟩
      rcases (putL_mem s l x).1 hx with rfl | hx
      · exact hy
      · exact h0.1 x hx
    · split
      · exact h
      · rename_i h1 h2
        have h3 : BL s y := by
          rcases bl_tri y s with h | h | h
          · exact absurd h h1
          · exact absurd h h2
          · exact h
        rw [SS, List.pairwise_cons]
        refine ⟨fun x hx => ?_, h⟩
        rw [List.mem_cons] at hx
        rcases hx with rfl | hx
        · exact h3
        · exact bl_trans h3 (h0.1 x hx)
theorem putL_len (s : List UInt8) : ∀ l : List (List UInt8), (putL s l).length ≤ l.length + 1
  | [] => by simp [putL]
  | y :: l => by
    have := putL_len s l
    rw [putL]
    split
    · simp; omega
    · split <;> simp
/-- Where the place is: what is before it stays. -/
theorem putL_split (s : List UInt8) : ∀ {a b : List (List UInt8)}, (∀ x ∈ a, BL x s) → (∀ y ∈ b.head?, ¬ BL y s) → putL s (a ++ b) = if b.head? = some s then a ++ b else a ++ (s :: b)
  | [], [], _, _ => by simp [putL]
  | [], y :: b, _, h => by
    have h1 : ¬ BL y s := h y (by simp)
    rw [List.nil_append, putL, if_neg h1]
    simp
  | x :: a, b, h, h' => by
    have h1 : BL x s := h x (by simp)
    rw [List.cons_append, putL, if_pos h1, putL_split s (fun z hz => h z (by simp [hz])) h']
    split <;> rfl
def putAll (L : List (List UInt8)) : List (List UInt8) := L.foldl (fun l s => putL s l) []
theorem putAll_snoc (L : List (List UInt8)) (s : List UInt8) : putAll (L ++ [s]) = putL s (putAll L) := by simp [putAll]
theorem foldl_put : ∀ (L l : List (List UInt8)), SS l → SS (L.foldl (fun l s => putL s l) l) ∧ ∀ x, x ∈ L.foldl (fun l s => putL s l) l ↔ x ∈ L ∨ x ∈ l
  | [], l, h => ⟨h, fun x => by simp⟩
  | s :: L, l, h => by
    obtain ⟨h1, h2⟩ := foldl_put L (putL s l) (putL_ss s h)
    refine ⟨h1, fun x => ?_⟩
    rw [List.foldl_cons, h2, putL_mem, List.mem_cons]
    constructor
    · rintro (h | h | h) <;> simp [h]
    · rintro ((h | h) | h) <;> simp [h]
theorem putAll_ss (L : List (List UInt8)) : SS (putAll L) := (foldl_put L [] (by simp [SS])).1
theorem putAll_mem (L : List (List UInt8)) (x : List UInt8) : x ∈ putAll L ↔ x ∈ L :=
  (foldl_put L [] (by simp [SS])).2 x |>.trans (by simp)
theorem putAll_len : ∀ L l : List (List UInt8), (L.foldl (fun l s => putL s l) l).length ≤ L.length + l.length
  | [], l => by simp
  | s :: L, l => by
    have h1 := putAll_len L (putL s l)
    have h2 := putL_len s l
    simp only [List.foldl_cons, List.length_cons]
    omega
theorem cu_facts (d : Array (List UInt8)) (hs : ∀ i j, i < j → j < d.size → ¬ BL d[j]! d[i]!) : ∀ m, m ≤ d.size → SS (Lib.compactUpTo d m) ∧ ∀ x, x ∈ Lib.compactUpTo d m ↔ ∃ j, j < m ∧ x = d[j]!
  | 0, _ => by simp [Lib.compactUpTo, SS]
  | m + 1, hm => by
    obtain ⟨h1, h2⟩ := cu_facts d hs m (by omega)
    rw [Lib.compactUpTo_succ]
    cases hk : Lib.keeps d m with
    | true =>
      simp only [if_true]
      refine ⟨?_, fun x => ?_⟩
      · rw [SS, List.pairwise_append]
        refine ⟨h1, by simp, fun a ha b hb => ?_⟩
        rw [List.mem_singleton] at hb
        subst hb
        obtain ⟨j, hj, rfl⟩ := (h2 a).1 ha
        rcases bl_tri d[j]! d[m]! with h | h | h
        · exact h
        · exfalso
          simp only [Lib.keeps, decide_eq_true_eq] at hk
          rcases hk with hk | hk
          · omega
          · rcases Nat.lt_or_ge j (m - 1) with h3 | h3
            · have a1 := hs j (m - 1) h3 (by omega)
              have a2 := hs (m - 1) m (by omega) (by omega)
              rw [h] at a1
              rcases bl_tri d[m]! d[m - 1]! with h4 | h4 | h4
              · exact a2 h4
              · exact hk h4
              · exact a1 h4
            · obtain rfl : j = m - 1 := by omega
              exact hk h.symm
        · exact absurd h (hs j m hj (by omega))
      · rw [List.mem_append, h2, List.mem_singleton]
        constructor
        · rintro (⟨j, hj, rfl⟩ | rfl)
          · exact ⟨j, by omega, rfl⟩
          · exact ⟨m, by omega, rfl⟩
        · rintro ⟨j, hj, rfl⟩
          rcases Nat.lt_or_ge j m with h | h
          · exact .inl ⟨j, h, rfl⟩
          · obtain rfl : j = m := by omega
            exact .inr rfl
    | false =>
      simp only [Bool.false_eq_true, if_false, List.append_nil]
      refine ⟨h1, fun x => ?_⟩
      rw [h2]
      simp only [Lib.keeps, decide_eq_false_iff_not, not_or, Classical.not_not] at hk
      constructor
      · rintro ⟨j, hj, rfl⟩
        exact ⟨j, by omega, rfl⟩
      · rintro ⟨j, hj, rfl⟩
        rcases Nat.lt_or_ge j m with h | h
        · exact ⟨j, h, rfl⟩
        · obtain rfl : j = m := by omega
          exact ⟨j - 1, by omega, hk.2⟩
theorem sort_put (L : List (List UInt8)) : Lib.compact (L.mergeSort fun x y => decide (x ≤ y)) = putAll L := by
  have hle : ∀ x y : List UInt8, decide (x ≤ y) = true ↔ ¬ BL y x := fun x y => by
    rw [decide_eq_true_eq, BL, ← bl_lt]
    exact List.not_lt.symm
  have hp : (L.mergeSort fun x y => decide (x ≤ y)).Pairwise fun x y => decide (x ≤ y) = true := by
    refine List.pairwise_mergeSort (fun a b c h1 h2 => ?_) (fun a b => ?_) L
    · rw [hle] at *
      intro h3
      rcases bl_tri b a with h | h | h
      · exact h1 h
      · subst h; exact h2 h3
      · exact h2 (bl_trans h3 h)
    · rw [Bool.or_eq_true, hle, hle]
      rcases bl_tri a b with h | h | h
      · exact .inl fun h' => bl_no (bl_trans h h')
      · subst h; exact .inl bl_no
      · exact .inr fun h' => bl_no (bl_trans h h')
  obtain ⟨M, hM⟩ : ∃ M, (L.mergeSort fun x y => decide (x ≤ y)) = M := ⟨_, rfl⟩
  have hmem : ∀ x, x ∈ M ↔ x ∈ L := fun x => by rw [← hM]; exact List.mem_mergeSort
  rw [hM] at hp ⊢
  obtain ⟨h1, h2⟩ := cu_facts M.toArray (fun i j hij hj => by
    have hj' : j < M.length := by simpa using hj
    have := List.pairwise_iff_getElem.1 hp i j (by omega) hj' hij
    rw [hle] at this
    simpa [hj', show i < M.length by omega] using this) M.length (by simp)
  refine ss_unique h1 (putAll_ss L) fun x => ?_
  rw [putAll_mem, ← hmem]
  refine (h2 x).trans ?_
  constructor
  · rintro ⟨j, hj, rfl⟩
    simp [hj]
  · intro hx
    obtain ⟨j, hj, rfl⟩ := List.mem_iff_getElem.1 hx
    exact ⟨j, hj, by simp [hj]⟩

end Go.Proofs.YtnmmkechkcfjnaaGreatDoor
