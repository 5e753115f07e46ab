/-
  Texts of this proof, one behind the other (part 8).
-/
import Derived.Test.YtpckhpkbdanjoaaDoorQ7
import Derived.Ground.NamesProg
import Derived.Shelf.Lay
import Derived.Shelf.Strings.Search3
/-
  Walks: the reference's draw of a floor and starts (printed by gen_drwk.py).-/
namespace Go.Proofs.YtpckhpkbdanjoaaDoor
set_option linter.unusedVariables false
set_option linter.unusedSimpArgs false
open Go.RowKit

/-- A floor and a list of starts are drawn. -/
def DsRes (w : World) (e : Ending) (w' : World) : Prop := ∃ (u : Value) (n : Nat) (F : Nat → ByteArray) (t : Value) (m : Nat) (f k : Nat → Int), e = .returned (.tuple #[u, t]) ∧ m ≤ 9 ∧ Sl w' w.heap.size w'.heap.size 2 t m (iiC f k) ∧ Sl w' w.heap.size w'.heap.size 1 u n (sC F) ∧ ffits F n ∧ Below w.heap.size w w'
set_option maxRecDepth 100000 in
set_option maxHeartbeats 6400000 in
theorem DrawShareOut_R (v : Value) (w : World) (h : Code w v) : Calls Tryd.prog 48 #[v] w (DsRes w) := by
  obtain ⟨A, n, cap, rfl⟩ := h.form
  have C0 : Cu (w.alloc (.cells #[.slice A n cap, .int .i64 0, .int .u64 0] 90)) (w.heap.size) 0 := by
    have := Cu.start h 90
    simpa using this
  have O0 : Only (w.heap.size) (w.heap.size + 1) w (w.alloc (.cells #[.slice A n cap, .int .i64 0, .int .u64 0] 90)) := (Only.refl _ _ w).alloc _
  obtain ⟨i0, hi0, iz0, iz1, iz2⟩ := info_parts infoCellJ
  go_enter Tryd.func48, Tryd.ntmps48
  go_wp2_with fail
  refine (floor_any _ _ _ C0 (by omega)).mono ?_
  rintro e w1 ⟨u, rfl, n', hs1, hn', C1, hO1⟩
  obtain ⟨F, hF1, hFs⟩ := hs1.sl
  have hff : ffits F n' := ⟨by omega, fun i hi => by have := hFs i hi; unfold maxLen; omega⟩
  clear hs1
  have hz1 := hO1.size
  simp at hz1
  have O1 := O0.trans hO1
  clear O0 C0 hO1
  obtain ⟨hi, hhi⟩ : ∃ hi, hi = w1.heap.size := ⟨_, rfl⟩
  have HF1 : Hid (Sl w1 (w.heap.size + 1) hi 1 u n' (sC F)) := by rw [hhi]; exact hF1.mono (by simp) (Nat.le_refl _)
  have hhi1 : hi ≤ w1.heap.size := by omega
  have hlo1 : w.heap.size + 1 ≤ hi := by omega
  clear hF1 hhi
  obtain ⟨Au, cu, rfl, _, _⟩ := id HF1.out.open_
  go_wp2_with fail
  refine (pick_any _ _ _ _ C1 (by omega)).mono ?_
  rintro e w2 ⟨v2, rfl, hv2, C2, hO2⟩
  have HF2 : Hid (Sl w2 (w.heap.size + 1) hi 1 (.slice Au n' cu) n' (sC F)) := HF1.out.onlyF hO2 (by omega) (by omega)
  have O2 := O1.trans hO2
  have hz2 := hO2.size
  clear  O1 C1 HF1 hO2
  go_wp2_with fail
  refine (one_any _ _ _ _ C2 (by omega)).mono ?_
  rintro e w3 ⟨b3, rfl, C3, hO3⟩
  have HF3 : Hid (Sl w3 (w.heap.size + 1) hi 1 (.slice Au n' cu) n' (sC F)) := HF2.out.onlyF hO3 (by omega) (by omega)
  have O3 := O2.trans hO3
  have hz3 := hO3.size
  clear  O2 C2 HF2 hO3
  cases b3 with
  | true =>
    go_wp2_with fail
    refine (among_new _ _ _ _ _ _ _ C3 (by first | (with_reducible rfl) | simp) (by omega) (by rfl) (by decide) (by decide) (by simp [isI])).mono ?_
    rintro e w4 ⟨v4, rfl, hM4, C4, hO4⟩
    simp at hM4
    have HF4 : Hid (Sl w4 (w.heap.size + 1) hi 1 (.slice Au n' cu) n' (sC F)) := HF3.out.onlyF hO4 (by omega) (by omega)
    have O4 := O3.trans hO4
    have hz4 := hO4.size
    clear  O3 C3 HF3 hO4
    obtain ⟨bs, hbs⟩ : ∃ z, z = w4.heap.size := ⟨_, rfl⟩
    have hbs2 : bs ≤ w4.heap.size := by omega
    have hbs3 : hi ≤ bs := by omega
    have hbs4 : w.heap.size < bs := by omega
    clear hbs
    have hnn : 0 ≤ v4 ∧ v4 ≤ 9 := by omega
    go_wp2_with fail
    go_loopg [6, 8] 42 (fun gn lv tv wr => ∃ (k : Nat) (B : Option Addr) (cp : Nat) (xs : List Value) (t : Nat), (k : Int) ≤ v4 ∧ t ≤ 40 ∧ 40 - t < gn ∧ lv = .slice B k cp ∧ tv = .int .i64 t ∧ Hid (wr.ownsRow bs 38 2 (.slice B k cp) k xs) ∧ Hid (∀ u ∈ xs, isI u = true) ∧ Cu wr (w.heap.size) (1000 + 300 * t) ∧ Only (w.heap.size) (w.heap.size + 1) w wr ∧ Hid (Sl wr (w.heap.size + 1) hi 1 (.slice Au n' cu) n' (sC F)) ∧ bs ≤ wr.heap.size)
    case atStart => exact ⟨0, none, 0, [], 0, by omega, by omega, by omega, rfl, rfl, World.ownsRow_nil _ _ _ _, fun u hu => by simp at hu, C4.more (by omega), O4, HF4.out, by omega⟩
    case round =>
      clear C4 O4 HF4
      obtain ⟨k, B, cp, xs, t, hk, ht, hgn, rfl, rfl, hown50, hxs, C50, O50, HF50, hbr⟩ := hrel
      have hz50 := O50.size
      by_cases hgo : (k : Int) < v4 ∧ t < 40
      · obtain ⟨hkn, ht40⟩ := hgo
        go_wp2_with fail
        refine (cellOf_any F n' (w.heap.size + 1) hi _ _ _ _ C50 (by omega) HF50.out (by omega) (by omega) hff).mono ?_
        rintro e w51 ⟨x, y, rfl, C51, hO51⟩
        have hown51 := hide (row_only hown50.out hO51 (by omega))
        have HF51 : Hid (Sl w51 (w.heap.size + 1) hi 1 (.slice Au n' cu) n' (sC F)) := HF50.out.onlyF hO51 (by omega) (by omega)
        have O51 := O50.trans hO51
        have hz51 := hO51.size
        clear  O50 C50 HF50 hO51
        clear hown50
        go_wp2_with fail
        obtain ⟨b9, hb9⟩ : ∃ z, z = w51.heap.size := ⟨_, rfl⟩
        obtain ⟨w52, hw⟩ : ∃ W, W = w51.alloc (.cells #[.int .i64 x, .int .i64 y] 38) := ⟨_, rfl⟩
        have S52 : BxI w52 b9 x y := by rw [hw, hb9]; exact BxI.new _ _ _ _
        have hb52 : Below w51.heap.size w51 w52 := by rw [hw]; exact (Below.refl _ _).alloc (Nat.le_refl _) _
        have hg52 : w.heap.size < b9 ∧ hi ≤ b9 := by omega
        rw [← hw, ← hb9]
        have hown52 := hide (row_keepJ hown51.out fun q h1 h2 => hb52.block q h2)
        clear hw hb9 hown51
        have HF52 : Hid (Sl w52 (w.heap.size + 1) hi 1 (.slice Au n' cu) n' (sC F)) := HF51.out.below hb52 (by omega)
        have O52 := O51.then_below hb52
        have C52 := C51.below hb52 (Nat.le_refl _)
        have hz52 := hb52.size
        clear  O51 C51 HF51 hb52
        go_loopg [10, 41] (k + 1) (fun gn2 sv iv wq => ∃ (j : Nat) (b : Bool), j ≤ k ∧ k - j < gn2 ∧ sv = .bool b ∧ iv = .int .i64 j ∧ Hid (wq.ownsRow bs 38 2 (.slice B k cp) k xs) ∧ BxI wq b9 x y ∧ Cu wq (w.heap.size) (1000 + 300 * t + 200) ∧ Only (w.heap.size) (w.heap.size + 1) w wq ∧ Hid (Sl wq (w.heap.size + 1) hi 1 (.slice Au n' cu) n' (sC F)) ∧ bs ≤ wq.heap.size)
        case atStart => exact ⟨0, false, by omega, by omega, rfl, rfl, hown52.out, S52, C52, O52, HF52.out, by omega⟩
        case round =>
          clear hown52 S52 C52 O52 HF52
          obtain ⟨j, b, hj, hgn2, rfl, rfl, hown53, S53, C53, O53, HF53, hbq⟩ := hrel
          have hz53 := O53.size
          have hS53 := S53.lt
          by_cases hjk : j < k
          · have hR : IRow wr bs 2 (.slice B k cp) k := IRow.of_own hown53.out hxs.out
            rcases hR with ⟨_, h0⟩ | ⟨q, cq, h0, hq1, hq2, hq3, hq4, hq5⟩
            · omega
            cases h0
            obtain ⟨x1, hx1⟩ := hq5 (j * 2) (by omega)
            obtain ⟨y1, hy1⟩ := hq5 (j * 2 + 1) (by omega)
            clear hq5
            obtain ⟨p0, p1, pf, pl⟩ := id S53
            have hbb : Below wr.heap.size wr (wr.alloc (.cells #[.int .i64 x1, .int .i64 y1] 38)) := (Below.refl _ _).alloc (Nat.le_refl _) _
            have hown54 := hide (row_keepJ hown53.out fun q h1 h2 => hbb.block q h2)
            have S54 := S53.alloc (.cells #[.int .i64 x1, .int .i64 y1] 38)
            have C54 := C53.alloc (.cells #[.int .i64 x1, .int .i64 y1] 38)
            have O54 := O53.alloc (.cells #[.int .i64 x1, .int .i64 y1] 38)
            have HF54 : Hid (Sl (wr.alloc (.cells #[.int .i64 x1, .int .i64 y1] 38)) (w.heap.size + 1) hi 1 (.slice Au n' cu) n' (sC F)) := HF53.out.below hbb (by omega)
            have hz54 : bs ≤ (wr.alloc (.cells #[.int .i64 x1, .int .i64 y1] 38)).heap.size := Nat.le_trans hbq hbb.size
            clear hown53 S53 C53 O53 HF53 hbb
            cases b with
            | true =>
              go_wp2_with fail
              go_roundg (k - j)
              case measure => omega
              case rel => exact ⟨j + 1, true, by omega, by omega, rfl, by go_num, hown54.out, S54, C54, O54, HF54.out, hz54⟩
            | false =>
              by_cases ex : x1 = x
              · subst ex
                by_cases ey : y1 = y
                · subst ey
                  go_wp2_with fail
                  go_roundg (k - j)
                  case measure => omega
                  case rel => exact ⟨j + 1, true, by omega, by omega, by simp, by go_num, hown54.out, S54, C54, O54, HF54.out, hz54⟩
                · have dy : (y1 == y) = false := by simp [ey]
                  go_wp2_with fail
                  go_roundg (k - j)
                  case measure => omega
                  case rel => exact ⟨j + 1, false, by omega, by omega, by simp [ey], by go_num, hown54.out, S54, C54, O54, HF54.out, hz54⟩
              · have dx : (x1 == x) = false := by simp [ex]
                go_wp2_with fail
                go_roundg (k - j)
                case measure => omega
                case rel => exact ⟨j + 1, false, by omega, by omega, by simp [ex], by go_num, hown54.out, S54, C54, O54, HF54.out, hz54⟩
          · have ejk : j = k := by omega
            clear ejk
            cases b with
            | false =>
              obtain ⟨p0, p1, pf, pl⟩ := id S53
              go_wp2_with (at_builtin; refine wpList_append_own _ rfl _ _ 26 rfl bs 38 i0 (.agg #[.int .i64 0, .int .i64 0]) 2 16 Tryd.underlying26 hi0 iz0 iz1 iz2 rfl (by decide) _ _ _ rfl (hown53.out.alloc _) ⟨wr.heap.size, 0, none⟩ 1 1 [.int .i64 x, .int .i64 y] rfl rfl (by
                  intro i u hu
                  match i, hu with
                  | 0, hu => simp at hu; subst hu; simp [go_sem, Addr.add]
                  | 1, hu => simp at hu; subst hu; simp [go_sem, Addr.add]) (by
                  intro u hu
                  simp at hu
                  rcases hu with rfl | rfl <;> rfl) (by unfold maxLen; omega) (by omega) (by simp; omega) ?_)
              clear p0 p1 pf pl
              intro v' w70 hown2 hg2 _
              have hO70 : Only (w.heap.size) (w.heap.size + 1) w w70 := (O53.alloc _).grown hg2 (fun q hq => by have := (hown53.out.lt q hq).1; omega)
              have hC70 : Cu w70 (w.heap.size) (1000 + 300 * t + 250) := (C53.alloc _).grown hg2 (fun q hq => by have := (hown53.out.lt q hq).1; omega) |>.more (by omega)
              have hF70 : Hid (Sl w70 (w.heap.size + 1) hi 1 (.slice Au n' cu) n' (sC F)) := HF53.out.keep fun q h1 h2 => ((hg2.block q (by simp; omega) (fun e => by have := (hown53.out.lt q e.symm).1; omega))).trans (((Below.refl _ _).alloc (Nat.le_refl _) _).block q (by omega))
              have hz70 : wr.heap.size ≤ w70.heap.size := Nat.le_trans (by simp) hg2.size
              obtain ⟨B2, cp2, rfl⟩ := row_form hown2
              have hxs2 : Hid (∀ u ∈ xs ++ [.int .i64 x, .int .i64 y], isI u = true) := fun u hu => by
                rcases List.mem_append.1 hu with h1 | h1
                · exact hxs.out u h1
                · simp at h1
                  rcases h1 with rfl | rfl <;> rfl
              have hown3 := hide hown2
              clear hown53 hown2 hg2 hxs C53 O53 S53 HF53
              go_wp2_with fail
              go_roundg (40 - t)
              case measure => omega
              case rel => exact ⟨k + 1, B2, cp2, _, t + 1, by omega, by omega, by omega, rfl, by go_num, hown3.out, hxs2, hC70.more (by omega), hO70, hF70, by omega⟩
            | true =>
              go_wp2_with fail
              refine (one_any _ _ _ _ C53 (by omega)).mono ?_
              rintro e w55 ⟨b55, rfl, C55, hO55⟩
              have hown55 := hide (row_only hown53.out hO55 (by omega))
              have S55 := S53.only hO55 (by omega)
              have HF55 : Hid (Sl w55 (w.heap.size + 1) hi 1 (.slice Au n' cu) n' (sC F)) := HF53.out.onlyF hO55 (by omega) (by omega)
              have O55 := O53.trans hO55
              have hz55 := hO55.size
              clear S53 O53 C53 HF53 hO55
              clear hown53
              cases b55 with
              | true =>
                obtain ⟨p0, p1, pf, pl⟩ := id S55
                go_wp2_with (at_builtin; refine wpList_append_own _ rfl _ _ 26 rfl bs 38 i0 (.agg #[.int .i64 0, .int .i64 0]) 2 16 Tryd.underlying26 hi0 iz0 iz1 iz2 rfl (by decide) _ _ _ rfl (hown55.out.alloc _) ⟨w55.heap.size, 0, none⟩ 1 1 [.int .i64 x, .int .i64 y] rfl rfl (by
                    intro i u hu
                    match i, hu with
                    | 0, hu => simp at hu; subst hu; simp [go_sem, Addr.add]
                    | 1, hu => simp at hu; subst hu; simp [go_sem, Addr.add]) (by
                    intro u hu
                    simp at hu
                    rcases hu with rfl | rfl <;> rfl) (by unfold maxLen; omega) (by omega) (by simp; omega) ?_)
                clear p0 p1 pf pl
                intro v' w70 hown2 hg2 _
                have hO70 : Only (w.heap.size) (w.heap.size + 1) w w70 := (O55.alloc _).grown hg2 (fun q hq => by have := (hown55.out.lt q hq).1; omega)
                have hC70 : Cu w70 (w.heap.size) (1000 + 300 * t + 250) := (C55.alloc _).grown hg2 (fun q hq => by have := (hown55.out.lt q hq).1; omega) |>.more (by omega)
                have hF70 : Hid (Sl w70 (w.heap.size + 1) hi 1 (.slice Au n' cu) n' (sC F)) := HF55.out.keep fun q h1 h2 => ((hg2.block q (by simp; omega) (fun e => by have := (hown55.out.lt q e.symm).1; omega))).trans (((Below.refl _ _).alloc (Nat.le_refl _) _).block q (by omega))
                have hz70 : w55.heap.size ≤ w70.heap.size := Nat.le_trans (by simp) hg2.size
                obtain ⟨B2, cp2, rfl⟩ := row_form hown2
                have hxs2 : Hid (∀ u ∈ xs ++ [.int .i64 x, .int .i64 y], isI u = true) := fun u hu => by
                  rcases List.mem_append.1 hu with h1 | h1
                  · exact hxs.out u h1
                  · simp at h1
                    rcases h1 with rfl | rfl <;> rfl
                have hown3 := hide hown2
                clear hown55 hown2 hg2 hxs C55 O55 S55 HF55
                go_wp2_with fail
                go_roundg (40 - t)
                case measure => omega
                case rel => exact ⟨k + 1, B2, cp2, _, t + 1, by omega, by omega, by omega, rfl, by go_num, hown3.out, hxs2, hC70.more (by omega), hO70, hF70, by omega⟩
              | false =>
                go_wp2_with fail
                go_roundg (40 - t)
                case measure => omega
                case rel => exact ⟨k, B, cp, xs, t + 1, by omega, by omega, by omega, rfl, by go_num, hown55.out, hxs, C55.more (by omega), O55, HF55.out, by omega⟩
      · have hR : IRow wr bs 2 (.slice B k cp) k := IRow.of_own hown50.out hxs.out
        obtain ⟨f, kk, hsl⟩ := hR.sl2
        have HSL := hide hsl
        have hb : Below w.heap.size w wr := O50.below (Nat.le_refl _) (Nat.le_refl _)
        clear hR hsl hown50 hxs O50 C50
        by_cases hkn : (k : Int) < v4
        · have ht40 : ¬ t < 40 := fun h => hgo ⟨hkn, h⟩
          clear hgo
          go_wp2_with fail
          go_ret2
          exact ⟨_, n', F, _, k, f, kk, rfl, by omega, HSL.out.mono (by omega) (Nat.le_refl _), HF50.out.mono (by omega) (by omega), hff, hb⟩
        · clear hgo
          go_wp2_with fail
          go_ret2
          exact ⟨_, n', F, _, k, f, kk, rfl, by omega, HSL.out.mono (by omega) (Nat.le_refl _), HF50.out.mono (by omega) (by omega), hff, hb⟩
  | false =>
    obtain ⟨bs, hbs⟩ : ∃ z, z = w3.heap.size := ⟨_, rfl⟩
    have hbs2 : bs ≤ w3.heap.size := by omega
    have hbs3 : hi ≤ bs := by omega
    have hbs4 : w.heap.size < bs := by omega
    clear hbs
    have hnn : 0 ≤ (1 + v2) ∧ (1 + v2) ≤ 9 := by omega
    go_wp2_with fail
    go_loopg [6, 8] 42 (fun gn lv tv wr => ∃ (k : Nat) (B : Option Addr) (cp : Nat) (xs : List Value) (t : Nat), (k : Int) ≤ (1 + v2) ∧ t ≤ 40 ∧ 40 - t < gn ∧ lv = .slice B k cp ∧ tv = .int .i64 t ∧ Hid (wr.ownsRow bs 38 2 (.slice B k cp) k xs) ∧ Hid (∀ u ∈ xs, isI u = true) ∧ Cu wr (w.heap.size) (1000 + 300 * t) ∧ Only (w.heap.size) (w.heap.size + 1) w wr ∧ Hid (Sl wr (w.heap.size + 1) hi 1 (.slice Au n' cu) n' (sC F)) ∧ bs ≤ wr.heap.size)
    case atStart => exact ⟨0, none, 0, [], 0, by omega, by omega, by omega, rfl, rfl, World.ownsRow_nil _ _ _ _, fun u hu => by simp at hu, C3.more (by omega), O3, HF3.out, by omega⟩
    case round =>
      clear C3 O3 HF3
      obtain ⟨k, B, cp, xs, t, hk, ht, hgn, rfl, rfl, hown50, hxs, C50, O50, HF50, hbr⟩ := hrel
      have hz50 := O50.size
      by_cases hgo : (k : Int) < (1 + v2) ∧ t < 40
      · obtain ⟨hkn, ht40⟩ := hgo
        go_wp2_with fail
        refine (cellOf_any F n' (w.heap.size + 1) hi _ _ _ _ C50 (by omega) HF50.out (by omega) (by omega) hff).mono ?_
        rintro e w51 ⟨x, y, rfl, C51, hO51⟩
        have hown51 := hide (row_only hown50.out hO51 (by omega))
        have HF51 : Hid (Sl w51 (w.heap.size + 1) hi 1 (.slice Au n' cu) n' (sC F)) := HF50.out.onlyF hO51 (by omega) (by omega)
        have O51 := O50.trans hO51
        have hz51 := hO51.size
        clear  O50 C50 HF50 hO51
        clear hown50
        go_wp2_with fail
        obtain ⟨b9, hb9⟩ : ∃ z, z = w51.heap.size := ⟨_, rfl⟩
        obtain ⟨w52, hw⟩ : ∃ W, W = w51.alloc (.cells #[.int .i64 x, .int .i64 y] 38) := ⟨_, rfl⟩
        have S52 : BxI w52 b9 x y := by rw [hw, hb9]; exact BxI.new _ _ _ _
        have hb52 : Below w51.heap.size w51 w52 := by rw [hw]; exact (Below.refl _ _).alloc (Nat.le_refl _) _
        have hg52 : w.heap.size < b9 ∧ hi ≤ b9 := by omega
        rw [← hw, ← hb9]
        have hown52 := hide (row_keepJ hown51.out fun q h1 h2 => hb52.block q h2)
        clear hw hb9 hown51
        have HF52 : Hid (Sl w52 (w.heap.size + 1) hi 1 (.slice Au n' cu) n' (sC F)) := HF51.out.below hb52 (by omega)
        have O52 := O51.then_below hb52
        have C52 := C51.below hb52 (Nat.le_refl _)
        have hz52 := hb52.size
        clear  O51 C51 HF51 hb52
        go_loopg [10, 41] (k + 1) (fun gn2 sv iv wq => ∃ (j : Nat) (b : Bool), j ≤ k ∧ k - j < gn2 ∧ sv = .bool b ∧ iv = .int .i64 j ∧ Hid (wq.ownsRow bs 38 2 (.slice B k cp) k xs) ∧ BxI wq b9 x y ∧ Cu wq (w.heap.size) (1000 + 300 * t + 200) ∧ Only (w.heap.size) (w.heap.size + 1) w wq ∧ Hid (Sl wq (w.heap.size + 1) hi 1 (.slice Au n' cu) n' (sC F)) ∧ bs ≤ wq.heap.size)
        case atStart => exact ⟨0, false, by omega, by omega, rfl, rfl, hown52.out, S52, C52, O52, HF52.out, by omega⟩
        case round =>
          clear hown52 S52 C52 O52 HF52
          obtain ⟨j, b, hj, hgn2, rfl, rfl, hown53, S53, C53, O53, HF53, hbq⟩ := hrel
          have hz53 := O53.size
          have hS53 := S53.lt
          by_cases hjk : j < k
          · have hR : IRow wr bs 2 (.slice B k cp) k := IRow.of_own hown53.out hxs.out
            rcases hR with ⟨_, h0⟩ | ⟨q, cq, h0, hq1, hq2, hq3, hq4, hq5⟩
            · omega
            cases h0
            obtain ⟨x1, hx1⟩ := hq5 (j * 2) (by omega)
            obtain ⟨y1, hy1⟩ := hq5 (j * 2 + 1) (by omega)
            clear hq5
            obtain ⟨p0, p1, pf, pl⟩ := id S53
            have hbb : Below wr.heap.size wr (wr.alloc (.cells #[.int .i64 x1, .int .i64 y1] 38)) := (Below.refl _ _).alloc (Nat.le_refl _) _
            have hown54 := hide (row_keepJ hown53.out fun q h1 h2 => hbb.block q h2)
            have S54 := S53.alloc (.cells #[.int .i64 x1, .int .i64 y1] 38)
            have C54 := C53.alloc (.cells #[.int .i64 x1, .int .i64 y1] 38)
            have O54 := O53.alloc (.cells #[.int .i64 x1, .int .i64 y1] 38)
            have HF54 : Hid (Sl (wr.alloc (.cells #[.int .i64 x1, .int .i64 y1] 38)) (w.heap.size + 1) hi 1 (.slice Au n' cu) n' (sC F)) := HF53.out.below hbb (by omega)
            have hz54 : bs ≤ (wr.alloc (.cells #[.int .i64 x1, .int .i64 y1] 38)).heap.size := Nat.le_trans hbq hbb.size
            clear hown53 S53 C53 O53 HF53 hbb
            cases b with
            | true =>
              go_wp2_with fail
              go_roundg (k - j)
              case measure => omega
              case rel => exact ⟨j + 1, true, by omega, by omega, rfl, by go_num, hown54.out, S54, C54, O54, HF54.out, hz54⟩
            | false =>
              by_cases ex : x1 = x
              · subst ex
                by_cases ey : y1 = y
                · subst ey
                  go_wp2_with fail
                  go_roundg (k - j)
                  case measure => omega
                  case rel => exact ⟨j + 1, true, by omega, by omega, by simp, by go_num, hown54.out, S54, C54, O54, HF54.out, hz54⟩
                · have dy : (y1 == y) = false := by simp [ey]
                  go_wp2_with fail
                  go_roundg (k - j)
                  case measure => omega
                  case rel => exact ⟨j + 1, false, by omega, by omega, by simp [ey], by go_num, hown54.out, S54, C54, O54, HF54.out, hz54⟩
              · have dx : (x1 == x) = false := by simp [ex]
                go_wp2_with fail
                go_roundg (k - j)
                case measure => omega
                case rel => exact ⟨j + 1, false, by omega, by omega, by simp [ex], by go_num, hown54.out, S54, C54, O54, HF54.out, hz54⟩
          · have ejk : j = k := by omega
            clear ejk
            cases b with
            | false =>
              obtain ⟨p0, p1, pf, pl⟩ := id S53
              go_wp2_with (at_builtin; refine wpList_append_own _ rfl _ _ 26 rfl bs 38 i0 (.agg #[.int .i64 0, .int .i64 0]) 2 16 Tryd.underlying26 hi0 iz0 iz1 iz2 rfl (by decide) _ _ _ rfl (hown53.out.alloc _) ⟨wr.heap.size, 0, none⟩ 1 1 [.int .i64 x, .int .i64 y] rfl rfl (by
                  intro i u hu
                  match i, hu with
                  | 0, hu => simp at hu; subst hu; simp [go_sem, Addr.add]
                  | 1, hu => simp at hu; subst hu; simp [go_sem, Addr.add]) (by
                  intro u hu
                  simp at hu
                  rcases hu with rfl | rfl <;> rfl) (by unfold maxLen; omega) (by omega) (by simp; omega) ?_)
              clear p0 p1 pf pl
              intro v' w70 hown2 hg2 _
              have hO70 : Only (w.heap.size) (w.heap.size + 1) w w70 := (O53.alloc _).grown hg2 (fun q hq => by have := (hown53.out.lt q hq).1; omega)
              have hC70 : Cu w70 (w.heap.size) (1000 + 300 * t + 250) := (C53.alloc _).grown hg2 (fun q hq => by have := (hown53.out.lt q hq).1; omega) |>.more (by omega)
              have hF70 : Hid (Sl w70 (w.heap.size + 1) hi 1 (.slice Au n' cu) n' (sC F)) := HF53.out.keep fun q h1 h2 => ((hg2.block q (by simp; omega) (fun e => by have := (hown53.out.lt q e.symm).1; omega))).trans (((Below.refl _ _).alloc (Nat.le_refl _) _).block q (by omega))
              have hz70 : wr.heap.size ≤ w70.heap.size := Nat.le_trans (by simp) hg2.size
              obtain ⟨B2, cp2, rfl⟩ := row_form hown2
              have hxs2 : Hid (∀ u ∈ xs ++ [.int .i64 x, .int .i64 y], isI u = true) := fun u hu => by
                rcases List.mem_append.1 hu with h1 | h1
                · exact hxs.out u h1
                · simp at h1
                  rcases h1 with rfl | rfl <;> rfl
              have hown3 := hide hown2
              clear hown53 hown2 hg2 hxs C53 O53 S53 HF53
              go_wp2_with fail
              go_roundg (40 - t)
              case measure => omega
              case rel => exact ⟨k + 1, B2, cp2, _, t + 1, by omega, by omega, by omega, rfl, by go_num, hown3.out, hxs2, hC70.more (by omega), hO70, hF70, by omega⟩
            | true =>
              go_wp2_with fail
              refine (one_any _ _ _ _ C53 (by omega)).mono ?_
              rintro e w55 ⟨b55, rfl, C55, hO55⟩
              have hown55 := hide (row_only hown53.out hO55 (by omega))
              have S55 := S53.only hO55 (by omega)
              have HF55 : Hid (Sl w55 (w.heap.size + 1) hi 1 (.slice Au n' cu) n' (sC F)) := HF53.out.onlyF hO55 (by omega) (by omega)
              have O55 := O53.trans hO55
              have hz55 := hO55.size
              clear S53 O53 C53 HF53 hO55
              clear hown53
              cases b55 with
              | true =>
                obtain ⟨p0, p1, pf, pl⟩ := id S55
                go_wp2_with (at_builtin; refine wpList_append_own _ rfl _ _ 26 rfl bs 38 i0 (.agg #[.int .i64 0, .int .i64 0]) 2 16 Tryd.underlying26 hi0 iz0 iz1 iz2 rfl (by decide) _ _ _ rfl (hown55.out.alloc _) ⟨w55.heap.size, 0, none⟩ 1 1 [.int .i64 x, .int .i64 y] rfl rfl (by
                    intro i u hu
                    match i, hu with
                    | 0, hu => simp at hu; subst hu; simp [go_sem, Addr.add]
                    | 1, hu => simp at hu; subst hu; simp [go_sem, Addr.add]) (by
                    intro u hu
                    simp at hu
                    rcases hu with rfl | rfl <;> rfl) (by unfold maxLen; omega) (by omega) (by simp; omega) ?_)
                clear p0 p1 pf pl
                intro v' w70 hown2 hg2 _
                have hO70 : Only (w.heap.size) (w.heap.size + 1) w w70 := (O55.alloc _).grown hg2 (fun q hq => by have := (hown55.out.lt q hq).1; omega)
                have hC70 : Cu w70 (w.heap.size) (1000 + 300 * t + 250) := (C55.alloc _).grown hg2 (fun q hq => by have := (hown55.out.lt q hq).1; omega) |>.more (by omega)
                have hF70 : Hid (Sl w70 (w.heap.size + 1) hi 1 (.slice Au n' cu) n' (sC F)) := HF55.out.keep fun q h1 h2 => ((hg2.block q (by simp; omega) (fun e => by have := (hown55.out.lt q e.symm).1; omega))).trans (((Below.refl _ _).alloc (Nat.le_refl _) _).block q (by omega))
                have hz70 : w55.heap.size ≤ w70.heap.size := Nat.le_trans (by simp) hg2.size
                obtain ⟨B2, cp2, rfl⟩ := row_form hown2
                have hxs2 : Hid (∀ u ∈ xs ++ [.int .i64 x, .int .i64 y], isI u = true) := fun u hu => by
                  rcases List.mem_append.1 hu with h1 | h1
                  · exact hxs.out u h1
                  · simp at h1
                    rcases h1 with rfl | rfl <;> rfl
                have hown3 := hide hown2
                clear hown55 hown2 hg2 hxs C55 O55 S55 HF55
                go_wp2_with fail
                go_roundg (40 - t)
                case measure => omega
                case rel => exact ⟨k + 1, B2, cp2, _, t + 1, by omega, by omega, by omega, rfl, by go_num, hown3.out, hxs2, hC70.more (by omega), hO70, hF70, by omega⟩
              | false =>
                go_wp2_with fail
                go_roundg (40 - t)
                case measure => omega
                case rel => exact ⟨k, B, cp, xs, t + 1, by omega, by omega, by omega, rfl, by go_num, hown55.out, hxs, C55.more (by omega), O55, HF55.out, by omega⟩
      · have hR : IRow wr bs 2 (.slice B k cp) k := IRow.of_own hown50.out hxs.out
        obtain ⟨f, kk, hsl⟩ := hR.sl2
        have HSL := hide hsl
        have hb : Below w.heap.size w wr := O50.below (Nat.le_refl _) (Nat.le_refl _)
        clear hR hsl hown50 hxs O50 C50
        by_cases hkn : (k : Int) < (1 + v2)
        · have ht40 : ¬ t < 40 := fun h => hgo ⟨hkn, h⟩
          clear hgo
          go_wp2_with fail
          go_ret2
          exact ⟨_, n', F, _, k, f, kk, rfl, by omega, HSL.out.mono (by omega) (Nat.le_refl _), HF50.out.mono (by omega) (by omega), hff, hb⟩
        · clear hgo
          go_wp2_with fail
          go_ret2
          exact ⟨_, n', F, _, k, f, kk, rfl, by omega, HSL.out.mono (by omega) (Nat.le_refl _), HF50.out.mono (by omega) (by omega), hff, hb⟩
theorem DrawShareOut_any (v : Value) (w : World) (h : Code w v) :
    Calls Tryd.prog 48 #[v] w fun e w' => ∃ (u : Value) (n : Nat) (F : Nat → ByteArray) (t : Value) (m : Nat) (f k : Nat → Int), e = .returned (.tuple #[u, t]) ∧ m ≤ 9 ∧ Sl w' w.heap.size w'.heap.size 2 t m (iiC f k) ∧ Sl w' w.heap.size w'.heap.size 1 u n (sC F) ∧ ffits F n ∧ Below w.heap.size w w' :=
  DrawShareOut_R v w h

end Go.Proofs.YtpckhpkbdanjoaaDoor

/-
  Plain words: the way back: from a cell to the nearest neighbours of the other one, east before north before south before west. No program in sight.-/
namespace Go.Proofs.YtpckhpkbdanjoaaDoor
set_option linter.unusedVariables false
set_option linter.unusedSimpArgs false

/-- The order in which directions are tried. -/
def ordD (j : Nat) : Nat := if j = 0 then 1 else if j = 1 then 0 else j
theorem ordD_lt {j : Nat} (h : j < 4) : ordD j < 4 := by unfold ordD; split <;> (try split) <;> omega
theorem ordD_ordD (j : Nat) : ordD (ordD j) = j := by unfold ordD; split <;> (try split) <;> (try split) <;> omega
/-- The number of steps left from p. -/
def lfF (F : Nat → ByteArray) (n : Nat) (b p : Int × Int) : Int := stF F n b (ixF F p)
/-- The j-th direction leads one step nearer. -/
def wbT (F : Nat → ByteArray) (n : Nat) (b p : Int × Int) (j : Nat) : Bool := opP F n (stp p (ordD j)) && decide (lfF F n b (stp p (ordD j)) = lfF F n b p - 1)
def wbJ (F : Nat → ByteArray) (n : Nat) (b p : Int × Int) : Nat := if wbT F n b p 0 = true then 0 else if wbT F n b p 1 = true then 1 else if wbT F n b p 2 = true then 2 else 3
def ltrB (d : Nat) : ByteArray := if d = 0 then ⟨#[110]⟩ else if d = 1 then ⟨#[101]⟩ else if d = 2 then ⟨#[115]⟩ else ⟨#[119]⟩
theorem ltrB_size (d : Nat) : (ltrB d).size = 1 := by unfold ltrB; split <;> (try split) <;> (try split) <;> rfl
/-- What is behind s when the way goes on from p, so many steps. -/
def wbG (F : Nat → ByteArray) (n : Nat) (b : Int × Int) : Nat → Int × Int → ByteArray → ByteArray
  | 0, _, s => s
  | k + 1, p, s => wbG F n b k (stp p (ordD (wbJ F n b p))) (s ++ ltrB (ordD (wbJ F n b p)))
section
variable {F : Nat → ByteArray} {n : Nat} {b p : Int × Int} {j k : Nat}
theorem wbJ_at (h : wbT F n b p j = true) (hj : j < 4) (hlt : ∀ i, i < j → wbT F n b p i = false) : wbJ F n b p = j := by
  have h4 : j = 0 ∨ j = 1 ∨ j = 2 ∨ j = 3 := by omega
  rcases h4 with rfl | rfl | rfl | rfl
  · simp [wbJ, h]
  · simp [wbJ, h, hlt 0 (by omega)]
  · simp [wbJ, h, hlt 0 (by omega), hlt 1 (by omega)]
  · simp [wbJ, hlt 0 (by omega), hlt 1 (by omega), hlt 2 (by omega)]
theorem wb_some (hb : opP F n b = true) (hp : opP F n p = true) (h : lfF F n b p = (k + 1 : Nat)) (hlt : ∀ i, i < 4 → wbT F n b p i = false) : False := by
  have h' : stF F n b (ixF F p) = (k + 1 : Nat) := h
  rcases stF_near hb hp (by rw [h']; omega) with rfl | ⟨_, d, hd, ho, hs⟩
  · rw [stF_zero hb] at h'
    omega
  · have h1 := hlt (ordD d) (ordD_lt hd)
    rw [wbT, ordD_ordD, ho] at h1
    have h2 : lfF F n b (stp p d) = lfF F n b p - 1 := by show stF F n b _ = stF F n b _ - 1; omega
    rw [decide_eq_true h2] at h1
    exact absurd h1 (by decide)
theorem wb_same (hb : opP F n b = true) (hp : opP F n p = true) (h : 0 ≤ lfF F n b p) : p = b ↔ lfF F n b p = 0 := by
  constructor
  · rintro rfl
    exact stF_zero hb
  · intro h0
    rcases stF_near hb hp h with e | ⟨h1, _⟩
    · exact e
    · have : stF F n b (ixF F p) = 0 := h0
      omega
theorem wbG_step {s : ByteArray} (h : wbT F n b p j = true) (hj : j < 4) (hlt : ∀ i, i < j → wbT F n b p i = false) : wbG F n b (k + 1) p s = wbG F n b k (stp p (ordD j)) (s ++ ltrB (ordD j)) := by
  rw [wbG, wbJ_at h hj hlt]
theorem wb_parts (h : wbT F n b p j = true) : opP F n (stp p (ordD j)) = true ∧ lfF F n b (stp p (ordD j)) = lfF F n b p - 1 := by
  simp only [wbT, Bool.and_eq_true, decide_eq_true_eq] at h
  exact h
theorem lf_bd (hb : opP F n b = true) (p : Int × Int) : -1 ≤ lfF F n b p ∧ lfF F n b p < (n * (F 0).size : Nat) := stF_bd hb _
end

end Go.Proofs.YtpckhpkbdanjoaaDoor

/-
  Walks: StepsFrom: the program's and the reference's.-/
namespace Go.Proofs.YtpckhpkbdanjoaaDoor
set_option linter.unusedVariables false
set_option linter.unusedSimpArgs false
open Go.RowKit

def sfOk (F : Nat → ByteArray) (n : Nat) (r c : Int) : Bool := flB F n && opB F n r c
def sfN (F : Nat → ByteArray) (n : Nat) (r c : Int) : Nat := if sfOk F n r c = true then n * (F 0).size else 0
def sfO (F : Nat → ByteArray) (n : Nat) (r c : Int) : Nat → Int := stF F n (r, c)
theorem fl_area {F : Nat → ByteArray} {n : Nat} (h : flB F n = true) : 1 ≤ n * (F 0).size ∧ n * (F 0).size ≤ 144 := by
  obtain ⟨g1, g2, g3, g4, _⟩ := flB_facts h
  have h5 : n * (F 0).size ≤ 12 * 12 := Nat.mul_le_mul g2 g4
  have h6 : 1 * 1 ≤ n * (F 0).size := Nat.mul_le_mul g1 g3
  omega
theorem sfN_le {F : Nat → ByteArray} {n : Nat} {r c : Int} : sfN F n r c ≤ 1048576 := by
  unfold sfN
  split
  · rename_i h
    simp only [sfOk, Bool.and_eq_true] at h
    have := fl_area h.1
    omega
  · omega
/-- What the call hands back. -/
def SfRes (F : Nat → ByteArray) (n : Nat) (r c : Int) (w : World) (e : Ending) (w' : World) : Prop := ∃ v', e = .returned (.tuple #[v', .bool (sfOk F n r c)]) ∧ Own w' w.heap.size w'.heap.size 3 1 v' (sfN F n r c) (sfN F n r c) (iC (sfO F n r c)) ∧ Below w.heap.size w w'
theorem sf_nil {F : Nat → ByteArray} {n : Nat} {r c : Int} {w w' : World} (h : sfOk F n r c = false) (hb : Below w.heap.size w w') : SfRes F n r c w (.returned (.tuple #[.slice none 0 0, .bool (sfOk F n r c)])) w' :=
  ⟨_, rfl, by rw [sfN, h]; exact Own.nil_ _ _ _ _ _ _, hb⟩
/-- The row of numbers, as the laws want it. -/
theorem st_row {w' : World} {g N co lo : Nat} {o : Nat → Int} (h : OwnL w' g (g + 1) 3 1 (.slice (some ⟨g, 0, none⟩) N co) N N (fun i => .int .i64 (o i))) (hN : 0 < N) (hl : lo ≤ g) : Own w' lo w'.heap.size 3 1 (.slice (some ⟨g, 0, none⟩) N co) N N (iC o) := by
  have h1 : OwnL w' g (g + 1) 3 1 (.slice (some ⟨g, 0, none⟩) N co) N (N * 1) (fun i => iC o (i / 1) (i % 1)) := by
    rw [Nat.mul_one]
    exact h.congr fun i _ => by simp [iC]
  exact (own_row (h1.rowL hN (by omega))).mono hl (Nat.le_refl _)
theorem sf_row {F : Nat → ByteArray} {n : Nat} {r c : Int} {w w' : World} {g co : Nat} (h : sfOk F n r c = true) (ho : OwnL w' g (g + 1) 3 1 (.slice (some ⟨g, 0, none⟩) (n * (F 0).size) co) (n * (F 0).size) (n * (F 0).size) (fun i => .int .i64 (stF F n (r, c) i))) (hl : w.heap.size ≤ g) (hb : Below w.heap.size w w') :
    SfRes F n r c w (.returned (.tuple #[.slice (some ⟨g, 0, none⟩) (n * (F 0).size) co, .bool (sfOk F n r c)])) w' := by
  have hN : sfN F n r c = n * (F 0).size := by rw [sfN, if_pos h]
  refine ⟨_, rfl, ?_, hb⟩
  rw [hN]
  have hf : flB F n = true := by simp only [sfOk, Bool.and_eq_true] at h; exact h.1
  have := fl_area hf
  exact st_row ho (by omega) hl
set_option maxRecDepth 100000 in
set_option maxHeartbeats 1600000 in
theorem seAsked_any (F : Nat → ByteArray) (n : Nat) (r c : Int) (lo hi : Nat) (v : Value) (w : World) (hv : Sl w lo hi 1 v n (sC F)) (hhi : hi ≤ w.heap.size) (hf : ffits F n) :
    Calls Tryd.prog 63 #[v, .agg #[.int .i64 r, .int .i64 c]] w fun e w' => e = .returned (.bool (sfOk F n r c)) ∧ Below w.heap.size w w' := by
  obtain ⟨A, cap, rfl, hcap, hA⟩ := hv.open_
  cases e1 : flB F n with
  | false =>
    have HX : Hid (sfOk F n r c = false) := by show _ = _; rw [sfOk, e1]; rfl
    go_enter Tryd.func63, Tryd.ntmps63
    go_wp2_with fail
    refine (seGood_any F n lo hi _ _ (hv.below (B := w.heap.size) (by repeat (first | (with_reducible exact Below.refl _ _) | (with_reducible refine below_ov ?_ ?_) | (with_reducible refine Below.setCell ?_ ?_ _) | (with_reducible refine Below.alloc ?_ ?_ _) | (with_reducible refine Below.drew ?_) | (with_reducible refine below_drewN ?_ _) | (refine Below.trans ?_ (Below.mono ‹Below _ _ _› (by first | omega | (simp; done) | (simp; omega)))) | exact Below.refl _ _ | omega | (focus (simp; done)) | (focus (simp; omega)))) hhi) (by first | omega | (simp; done) | (simp; omega)) hf).mono ?_
    rintro e w1 ⟨rfl, hb1⟩
    have hz1 := hb1.size
    rw [e1]
    go_wp2_with fail
    go_ret
    rw [HX.out]
    exact ⟨rfl, (by repeat (first | (with_reducible exact Below.refl _ _) | (with_reducible refine below_ov ?_ ?_) | (with_reducible refine Below.setCell ?_ ?_ _) | (with_reducible refine Below.alloc ?_ ?_ _) | (with_reducible refine Below.drew ?_) | (with_reducible refine below_drewN ?_ _) | (refine Below.trans ?_ (Below.mono ‹Below _ _ _› (by first | omega | (simp; done) | (simp; omega)))) | exact Below.refl _ _ | omega | (focus (simp; done)) | (focus (simp; omega))))⟩
  | true =>
    have HX : Hid (sfOk F n r c = opB F n r c) := by show _ = _; rw [sfOk, e1]; rfl
    have HG := hide e1
    go_enter Tryd.func63, Tryd.ntmps63
    go_wp2_with fail
    refine (seGood_any F n lo hi _ _ (hv.below (B := w.heap.size) (by repeat (first | (with_reducible exact Below.refl _ _) | (with_reducible refine below_ov ?_ ?_) | (with_reducible refine Below.setCell ?_ ?_ _) | (with_reducible refine Below.alloc ?_ ?_ _) | (with_reducible refine Below.drew ?_) | (with_reducible refine below_drewN ?_ _) | (refine Below.trans ?_ (Below.mono ‹Below _ _ _› (by first | omega | (simp; done) | (simp; omega)))) | exact Below.refl _ _ | omega | (focus (simp; done)) | (focus (simp; omega)))) hhi) (by first | omega | (simp; done) | (simp; omega)) hf).mono ?_
    rintro e w1 ⟨rfl, hb1⟩
    have hz1 := hb1.size
    (try (simp at hz1))
    rw [e1]
    clear e1
    have px0 := (hb1.cell (p := ⟨w.heap.size, 0, none⟩) (by simp)).trans (World.cell?_alloc_new _ _ _ _)
    have px1 := (hb1.cell (p := ⟨w.heap.size, 1, none⟩) (by simp)).trans (World.cell?_alloc_new _ _ _ _)
    simp at px0 px1
    have lp : w.heap.size < w1.heap.size := by omega
    go_wp2_with fail
    refine (seOpen_any F n r c lo hi _ _ (hv.below (B := w.heap.size) (by repeat (first | (with_reducible exact Below.refl _ _) | (with_reducible refine below_ov ?_ ?_) | (with_reducible refine Below.setCell ?_ ?_ _) | (with_reducible refine Below.alloc ?_ ?_ _) | (with_reducible refine Below.drew ?_) | (with_reducible refine below_drewN ?_ _) | (refine Below.trans ?_ (Below.mono ‹Below _ _ _› (by first | omega | (simp; done) | (simp; omega)))) | exact Below.refl _ _ | omega | (focus (simp; done)) | (focus (simp; omega)))) hhi) (by first | omega | (simp; done) | (simp; omega)) HG.out).mono ?_
    rintro e w2 ⟨rfl, hb2⟩
    have hz2 := hb2.size
    go_wp2_with fail
    go_ret
    rw [HX.out]
    exact ⟨rfl, (by repeat (first | (with_reducible exact Below.refl _ _) | (with_reducible refine below_ov ?_ ?_) | (with_reducible refine Below.setCell ?_ ?_ _) | (with_reducible refine Below.alloc ?_ ?_ _) | (with_reducible refine Below.drew ?_) | (with_reducible refine below_drewN ?_ _) | (refine Below.trans ?_ (Below.mono ‹Below _ _ _› (by first | omega | (simp; done) | (simp; omega)))) | exact Below.refl _ _ | omega | (focus (simp; done)) | (focus (simp; omega))))⟩
set_option maxRecDepth 100000 in
set_option maxHeartbeats 1600000 in
theorem StepsFrom_impl (F : Nat → ByteArray) (n : Nat) (r c : Int) (lo hi : Nat) (v : Value) (w : World) (hv : Sl w lo hi 1 v n (sC F)) (hhi : hi ≤ w.heap.size) (hf : ffits F n) :
    Calls Tryd.prog 31 #[v, .agg #[.int .i64 r, .int .i64 c]] w (SfRes F n r c w) := by
  obtain ⟨A, cap, rfl, hcap, hA⟩ := hv.open_
  cases e1 : flB F n with
  | false =>
    have HX : Hid (sfOk F n r c = false) := by show _ = _; rw [sfOk, e1]; rfl
    go_enter Tryd.func31, Tryd.ntmps31
    go_wp2_with fail
    refine (isFloor_any F n lo hi _ _ (hv.below (B := w.heap.size) (by repeat (first | (with_reducible exact Below.refl _ _) | (with_reducible refine below_ov ?_ ?_) | (with_reducible refine Below.setCell ?_ ?_ _) | (with_reducible refine Below.alloc ?_ ?_ _) | (with_reducible refine Below.drew ?_) | (with_reducible refine below_drewN ?_ _) | (refine Below.trans ?_ (Below.mono ‹Below _ _ _› (by first | omega | (simp; done) | (simp; omega)))) | exact Below.refl _ _ | omega | (focus (simp; done)) | (focus (simp; omega)))) hhi) (by first | omega | (simp; done) | (simp; omega)) hf).mono ?_
    rintro e w1 ⟨rfl, hb1⟩
    have hz1 := hb1.size
    rw [e1]
    go_wp2_with fail
    go_ret2
    have h := sf_nil HX.out (w' := w1) (w := w) (by repeat (first | (with_reducible exact Below.refl _ _) | (with_reducible refine below_ov ?_ ?_) | (with_reducible refine Below.setCell ?_ ?_ _) | (with_reducible refine Below.alloc ?_ ?_ _) | (with_reducible refine Below.drew ?_) | (with_reducible refine below_drewN ?_ _) | (refine Below.trans ?_ (Below.mono ‹Below _ _ _› (by first | omega | (simp; done) | (simp; omega)))) | exact Below.refl _ _ | omega | (focus (simp; done)) | (focus (simp; omega))))
    rw [HX.out] at h
    exact h
  | true =>
    have HG := hide e1
    go_enter Tryd.func31, Tryd.ntmps31
    go_wp2_with fail
    refine (isFloor_any F n lo hi _ _ (hv.below (B := w.heap.size) (by repeat (first | (with_reducible exact Below.refl _ _) | (with_reducible refine below_ov ?_ ?_) | (with_reducible refine Below.setCell ?_ ?_ _) | (with_reducible refine Below.alloc ?_ ?_ _) | (with_reducible refine Below.drew ?_) | (with_reducible refine below_drewN ?_ _) | (refine Below.trans ?_ (Below.mono ‹Below _ _ _› (by first | omega | (simp; done) | (simp; omega)))) | exact Below.refl _ _ | omega | (focus (simp; done)) | (focus (simp; omega)))) hhi) (by first | omega | (simp; done) | (simp; omega)) hf).mono ?_
    rintro e w1 ⟨rfl, hb1⟩
    have hz1 := hb1.size
    (try (simp at hz1))
    rw [e1]
    clear e1
    have HPX : Hid (∀ W, Below w1.heap.size w1 W → W.cell? ⟨w.heap.size, 0, none⟩ = some (.int .i64 r) ∧ W.cell? ⟨w.heap.size, 1, none⟩ = some (.int .i64 c)) := fun W hW =>
      ⟨(hW.cell (p := ⟨w.heap.size, 0, none⟩) (by show w.heap.size < _; omega)).trans ((hb1.cell (p := ⟨w.heap.size, 0, none⟩) (by simp)).trans (World.cell?_alloc_new _ _ _ _)), (hW.cell (p := ⟨w.heap.size, 1, none⟩) (by show w.heap.size < _; omega)).trans ((hb1.cell (p := ⟨w.heap.size, 1, none⟩) (by simp)).trans (World.cell?_alloc_new _ _ _ _))⟩
    have lp : w.heap.size < w1.heap.size := by omega
    obtain ⟨px0, px1⟩ := HPX.out _ (Below.refl _ _)
    cases e2 : opB F n r c with
    | false =>
      have HX : Hid (sfOk F n r c = false) := by show _ = _; rw [sfOk, HG.out, e2]; rfl
      go_wp2_with fail
      refine (isOpen_any F n r c lo hi _ _ (hv.below (B := w.heap.size) (by repeat (first | (with_reducible exact Below.refl _ _) | (with_reducible refine below_ov ?_ ?_) | (with_reducible refine Below.setCell ?_ ?_ _) | (with_reducible refine Below.alloc ?_ ?_ _) | (with_reducible refine Below.drew ?_) | (with_reducible refine below_drewN ?_ _) | (refine Below.trans ?_ (Below.mono ‹Below _ _ _› (by first | omega | (simp; done) | (simp; omega)))) | exact Below.refl _ _ | omega | (focus (simp; done)) | (focus (simp; omega)))) hhi) (by first | omega | (simp; done) | (simp; omega)) HG.out).mono ?_
      rintro e w2 ⟨rfl, hb2⟩
      have hz2 := hb2.size
      rw [e2]
      go_wp2_with fail
      go_ret2
      have h := sf_nil HX.out (w' := w2) (w := w) (by repeat (first | (with_reducible exact Below.refl _ _) | (with_reducible refine below_ov ?_ ?_) | (with_reducible refine Below.setCell ?_ ?_ _) | (with_reducible refine Below.alloc ?_ ?_ _) | (with_reducible refine Below.drew ?_) | (with_reducible refine below_drewN ?_ _) | (refine Below.trans ?_ (Below.mono ‹Below _ _ _› (by first | omega | (simp; done) | (simp; omega)))) | exact Below.refl _ _ | omega | (focus (simp; done)) | (focus (simp; omega))))
      rw [HX.out] at h
      exact h
    | true =>
      have HX : Hid (sfOk F n r c = true) := by show _ = _; rw [sfOk, HG.out, e2]; rfl
      have HO := hide e2
      go_wp2_with fail
      refine (isOpen_any F n r c lo hi _ _ (hv.below (B := w.heap.size) (by repeat (first | (with_reducible exact Below.refl _ _) | (with_reducible refine below_ov ?_ ?_) | (with_reducible refine Below.setCell ?_ ?_ _) | (with_reducible refine Below.alloc ?_ ?_ _) | (with_reducible refine Below.drew ?_) | (with_reducible refine below_drewN ?_ _) | (refine Below.trans ?_ (Below.mono ‹Below _ _ _› (by first | omega | (simp; done) | (simp; omega)))) | exact Below.refl _ _ | omega | (focus (simp; done)) | (focus (simp; omega)))) hhi) (by first | omega | (simp; done) | (simp; omega)) HG.out).mono ?_
      rintro e w2 ⟨rfl, hb2⟩
      have hz2 := hb2.size
      rw [e2]
      clear e2 px0 px1
      obtain ⟨px0, px1⟩ := HPX.out _ hb2
      have lp2 : w.heap.size < w2.heap.size := by omega
      go_wp2_with fail
      refine (stepsFrom_any F n r c lo hi _ _ (hv.below (B := w.heap.size) (by repeat (first | (with_reducible exact Below.refl _ _) | (with_reducible refine below_ov ?_ ?_) | (with_reducible refine Below.setCell ?_ ?_ _) | (with_reducible refine Below.alloc ?_ ?_ _) | (with_reducible refine Below.drew ?_) | (with_reducible refine below_drewN ?_ _) | (refine Below.trans ?_ (Below.mono ‹Below _ _ _› (by first | omega | (simp; done) | (simp; omega)))) | exact Below.refl _ _ | omega | (focus (simp; done)) | (focus (simp; omega)))) hhi) (by first | omega | (simp; done) | (simp; omega)) HG.out HO.out).mono ?_
      rintro e w3 ⟨g, rfl, ho, hg1, hg2, hb3⟩
      have hz3 := hb3.size
      have hbw : Below w.heap.size w w3 := (by repeat (first | (with_reducible exact Below.refl _ _) | (with_reducible refine below_ov ?_ ?_) | (with_reducible refine Below.setCell ?_ ?_ _) | (with_reducible refine Below.alloc ?_ ?_ _) | (with_reducible refine Below.drew ?_) | (with_reducible refine below_drewN ?_ _) | (refine Below.trans ?_ (Below.mono ‹Below _ _ _› (by first | omega | (simp; done) | (simp; omega)))) | exact Below.refl _ _ | omega | (focus (simp; done)) | (focus (simp; omega))))
      go_wp2_with fail
      go_ret2
      have h := sf_row HX.out ho (w := w) (by omega) hbw
      rw [HX.out] at h
      exact h
set_option maxRecDepth 100000 in
set_option maxHeartbeats 1600000 in
theorem StepsFrom_spec (F : Nat → ByteArray) (n : Nat) (r c : Int) (lo hi : Nat) (v : Value) (w : World) (hv : Sl w lo hi 1 v n (sC F)) (hhi : hi ≤ w.heap.size) (hf : ffits F n) :
    Calls Tryd.prog 32 #[v, .agg #[.int .i64 r, .int .i64 c]] w (SfRes F n r c w) := by
  obtain ⟨A, cap, rfl, hcap, hA⟩ := hv.open_
  cases e1 : sfOk F n r c with
  | false =>
    have HX := hide e1
    go_enter Tryd.func32, Tryd.ntmps32
    go_wp2_with fail
    refine (seAsked_any F n r c lo hi _ _ (hv.below (B := w.heap.size) (by repeat (first | (with_reducible exact Below.refl _ _) | (with_reducible refine below_ov ?_ ?_) | (with_reducible refine Below.setCell ?_ ?_ _) | (with_reducible refine Below.alloc ?_ ?_ _) | (with_reducible refine Below.drew ?_) | (with_reducible refine below_drewN ?_ _) | (refine Below.trans ?_ (Below.mono ‹Below _ _ _› (by first | omega | (simp; done) | (simp; omega)))) | exact Below.refl _ _ | omega | (focus (simp; done)) | (focus (simp; omega)))) hhi) (by first | omega | (simp; done) | (simp; omega)) hf).mono ?_
    rintro e w1 ⟨rfl, hb1⟩
    have hz1 := hb1.size
    rw [e1]
    go_wp2_with fail
    go_ret2
    have h := sf_nil HX.out (w' := w1) (w := w) (by repeat (first | (with_reducible exact Below.refl _ _) | (with_reducible refine below_ov ?_ ?_) | (with_reducible refine Below.setCell ?_ ?_ _) | (with_reducible refine Below.alloc ?_ ?_ _) | (with_reducible refine Below.drew ?_) | (with_reducible refine below_drewN ?_ _) | (refine Below.trans ?_ (Below.mono ‹Below _ _ _› (by first | omega | (simp; done) | (simp; omega)))) | exact Below.refl _ _ | omega | (focus (simp; done)) | (focus (simp; omega))))
    rw [HX.out] at h
    exact h
  | true =>
    have HX := hide e1
    have HGO : Hid (flB F n = true ∧ opB F n r c = true) := by
      show _ ∧ _
      simpa only [sfOk, Bool.and_eq_true] using e1
    go_enter Tryd.func32, Tryd.ntmps32
    go_wp2_with fail
    refine (seAsked_any F n r c lo hi _ _ (hv.below (B := w.heap.size) (by repeat (first | (with_reducible exact Below.refl _ _) | (with_reducible refine below_ov ?_ ?_) | (with_reducible refine Below.setCell ?_ ?_ _) | (with_reducible refine Below.alloc ?_ ?_ _) | (with_reducible refine Below.drew ?_) | (with_reducible refine below_drewN ?_ _) | (refine Below.trans ?_ (Below.mono ‹Below _ _ _› (by first | omega | (simp; done) | (simp; omega)))) | exact Below.refl _ _ | omega | (focus (simp; done)) | (focus (simp; omega)))) hhi) (by first | omega | (simp; done) | (simp; omega)) hf).mono ?_
    rintro e w1 ⟨rfl, hb1⟩
    have hz1 := hb1.size
    (try (simp at hz1))
    rw [e1]
    clear e1
    have px0 := (hb1.cell (p := ⟨w.heap.size, 0, none⟩) (by simp)).trans (World.cell?_alloc_new _ _ _ _)
    have px1 := (hb1.cell (p := ⟨w.heap.size, 1, none⟩) (by simp)).trans (World.cell?_alloc_new _ _ _ _)
    simp at px0 px1
    have lp : w.heap.size < w1.heap.size := by omega
    go_wp2_with fail
    refine (seSteps_any F n r c lo hi _ _ (hv.below (B := w.heap.size) (by repeat (first | (with_reducible exact Below.refl _ _) | (with_reducible refine below_ov ?_ ?_) | (with_reducible refine Below.setCell ?_ ?_ _) | (with_reducible refine Below.alloc ?_ ?_ _) | (with_reducible refine Below.drew ?_) | (with_reducible refine below_drewN ?_ _) | (refine Below.trans ?_ (Below.mono ‹Below _ _ _› (by first | omega | (simp; done) | (simp; omega)))) | exact Below.refl _ _ | omega | (focus (simp; done)) | (focus (simp; omega)))) hhi) (by first | omega | (simp; done) | (simp; omega)) HGO.out.1 HGO.out.2).mono ?_
    rintro e w3 ⟨g, co, rfl, ho, hg1, hg2, hb3⟩
    have hz3 := hb3.size
    have hbw : Below w.heap.size w w3 := (by repeat (first | (with_reducible exact Below.refl _ _) | (with_reducible refine below_ov ?_ ?_) | (with_reducible refine Below.setCell ?_ ?_ _) | (with_reducible refine Below.alloc ?_ ?_ _) | (with_reducible refine Below.drew ?_) | (with_reducible refine below_drewN ?_ _) | (refine Below.trans ?_ (Below.mono ‹Below _ _ _› (by first | omega | (simp; done) | (simp; omega)))) | exact Below.refl _ _ | omega | (focus (simp; done)) | (focus (simp; omega))))
    go_wp2_with fail
    go_ret2
    have h := sf_row HX.out ho (w := w) (by omega) hbw
    rw [HX.out] at h
    exact h

end Go.Proofs.YtpckhpkbdanjoaaDoor

/-
  Walks: a way is followed: the program's and the reference's.-/
namespace Go.Proofs
open Go.RowKit Go.Shelf
shelf_lay Lays.n144 Nm 144 at Tryd as YtpckhpkbdanjoaaDoor.laysContains
end Go.Proofs
namespace Go.Proofs.YtpckhpkbdanjoaaDoor
set_option linter.unusedVariables false
set_option linter.unusedSimpArgs false
open Go.RowKit Go.Shelf

/-- The direction of a letter, or -1. -/
def ltr (b : Int) : Int := if b = 110 then 0 else if b = 101 then 1 else if b = 115 then 2 else if b = 119 then 3 else -1
theorem ltr_dL {d : Nat} (hd : d < 4) : ltr (dL d) = d := by
  have h4 : d = 0 ∨ d = 1 ∨ d = 2 ∨ d = 3 := by omega
  rcases h4 with rfl | rfl | rfl | rfl <;> rfl
theorem ltr_cases (b : Int) : ltr b = -1 ∧ b ≠ 110 ∧ b ≠ 101 ∧ b ≠ 115 ∧ b ≠ 119 ∨ ∃ d, d < 4 ∧ b = dL d ∧ ltr b = d := by
  by_cases h0 : b = 110
  · exact .inr ⟨0, by omega, h0, by rw [h0]; rfl⟩
  by_cases h1 : b = 101
  · exact .inr ⟨1, by omega, h1, by rw [h1]; rfl⟩
  by_cases h2 : b = 115
  · exact .inr ⟨2, by omega, h2, by rw [h2]; rfl⟩
  by_cases h3 : b = 119
  · exact .inr ⟨3, by omega, h3, by rw [h3]; rfl⟩
  exact .inl ⟨by simp [ltr, h0, h1, h2, h3], h0, h1, h2, h3⟩
/-- Where the first letters lead, if they lead anywhere. -/
def fwA (F : Nat → ByteArray) (n : Nat) (a : Int × Int) (s : ByteArray) : Nat → Option (Int × Int)
  | 0 => some a
  | k + 1 => match fwA F n a s k with
    | none => none
    | some p => if 0 ≤ ltr (byteAt s k) ∧ opP F n (stp p (ltr (byteAt s k)).toNat) = true then some (stp p (ltr (byteAt s k)).toNat) else none
def fwOk (F : Nat → ByteArray) (n : Nat) (r c : Int) (s : ByteArray) : Bool := sfOk F n r c && (decide (s.size ≤ 200) && (fwA F n (r, c) s s.size).isSome)
def fwP (F : Nat → ByteArray) (n : Nat) (r c : Int) (s : ByteArray) : Int × Int := if fwOk F n r c s = true then (fwA F n (r, c) s s.size).getD (0, 0) else (0, 0)
theorem fwA_none {F : Nat → ByteArray} {n : Nat} {a : Int × Int} {s : ByteArray} {k : Nat} (h : fwA F n a s k = none) : ∀ {m : Nat}, k ≤ m → fwA F n a s m = none
  | 0, hm => by
    obtain rfl : k = 0 := by omega
    cases h
  | m + 1, hm => by
    rcases Nat.lt_or_ge k (m + 1) with h1 | h1
    · rw [fwA, fwA_none h (show k ≤ m by omega)]
    · obtain rfl : k = m + 1 := by omega
      exact h
theorem fwA_step {F : Nat → ByteArray} {n : Nat} {a p : Int × Int} {s : ByteArray} {k d : Nat} (h : fwA F n a s k = some p) (hd : ltr (byteAt s k) = d) (ho : opP F n (stp p d) = true) : fwA F n a s (k + 1) = some (stp p d) := by
  rw [fwA, h]
  simp only [hd, Int.toNat_natCast, ho, and_true]
  rw [if_pos (by omega)]
theorem fwA_wall {F : Nat → ByteArray} {n : Nat} {a p : Int × Int} {s : ByteArray} {k d : Nat} (h : fwA F n a s k = some p) (hd : ltr (byteAt s k) = d) (ho : opP F n (stp p d) = false) : fwA F n a s (k + 1) = none := by
  rw [fwA, h]
  simp only [hd, Int.toNat_natCast, ho]
  rw [if_neg (by simp)]
theorem fwA_bad {F : Nat → ByteArray} {n : Nat} {a p : Int × Int} {s : ByteArray} {k : Nat} (h : fwA F n a s k = some p) (hd : ltr (byteAt s k) = -1) : fwA F n a s (k + 1) = none := by
  rw [fwA, h]
  simp only [hd]
  rw [if_neg (by omega)]
theorem fwA_open {F : Nat → ByteArray} {n : Nat} {a p : Int × Int} {s : ByteArray} (ha : opP F n a = true) : ∀ {k : Nat}, fwA F n a s k = some p → opP F n p = true
  | 0, h => by
    injection h with h
    rw [← h]; exact ha
  | k + 1, h => by
    rw [fwA] at h
    cases e : fwA F n a s k with
    | none => rw [e] at h; cases h
    | some q =>
      rw [e] at h
      simp only at h
      split at h
      · rename_i h1
        injection h with h
        rw [← h]; exact h1.2
      · cases h
theorem fw_no {F : Nat → ByteArray} {n : Nat} {r c : Int} {s : ByteArray} {k : Nat} (h : fwA F n (r, c) s k = none) (hk : k ≤ s.size) : fwOk F n r c s = false := by
  rw [fwOk, fwA_none h hk]
  simp
theorem dLs_get {d : Nat} (h : d < (⟨#[110, 101, 115, 119]⟩ : ByteArray).size) : (((⟨#[110, 101, 115, 119]⟩ : ByteArray)[d]).toNat : Int) = dL d := by
  have h4 : d = 0 ∨ d = 1 ∨ d = 2 ∨ d = 3 := by have : d < 4 := h; omega
  rcases h4 with rfl | rfl | rfl | rfl <;> rfl
set_option maxHeartbeats 1600000 in
theorem seLetter_any (b : Int) (w : World) :
    Calls Tryd.prog 84 #[.int .u8 b] w fun e w' => e = .returned (.int .i64 (ltr b)) ∧ w = w' := by
  go_enter Tryd.func84, Tryd.ntmps84
  go_wp2_with fail
  go_loop [3] (fun dv => ∃ d : Nat, d ≤ 4 ∧ dv = .int .i64 d ∧ Hid (∀ e, e < d → b ≠ dL e)) (fun dv => 4 - (intOf dv).toNat)
  case atStart => exact ⟨0, by omega, rfl, fun e he => by omega⟩
  case round =>
    obtain ⟨d, hd, rfl, he⟩ := hrel
    by_cases hd4 : d < 4
    · have hsz : d < (⟨#[110, 101, 115, 119]⟩ : ByteArray).size := hd4
      have hge := dLs_get hsz
      by_cases hb : b = dL d
      · have hq : (b == (((⟨#[110, 101, 115, 119]⟩ : ByteArray)[d]).toNat : Int)) = true := by rw [hge, hb]; simp
        have HX : Hid (ltr b = d) := by show _ = _; rw [hb]; exact ltr_dL hd4
        clear hb hge
        go_wp2_with fail
        go_ret
        exact ⟨ret_int HX.out.symm, rfl⟩
      · have hq : (b == (((⟨#[110, 101, 115, 119]⟩ : ByteArray)[d]).toNat : Int)) = false := by rw [hge]; simpa using hb
        have HX : Hid (∀ e, e < d + 1 → b ≠ dL e) := fun e h => by
          rcases Nat.lt_or_ge e d with h1 | h1
          · exact he.out e h1
          · obtain rfl : e = d := by omega
            exact hb
        clear hb hge
        go_wp2_with fail
        go_round
        case rel => exact ⟨d + 1, by omega, by go_num, HX.out⟩
        case measure => simp [intOf]; omega
    · obtain rfl : d = 4 := by omega
      have HX : Hid (ltr b = -1) := by
        show _ = _
        rcases ltr_cases b with h | ⟨d, hd, hb, _⟩
        · exact h.1
        · exact absurd hb (he.out d hd)
      go_wp2_with fail
      go_ret
      exact ⟨ret_int HX.out.symm, rfl⟩
theorem extract_one (s : ByteArray) {i : Nat} (hi : i < s.size) : s.extract i (i + 1) = ⟨#[s[i]]⟩ := by
  apply WideShapes.bytes_inj
  rw [ByteArray.data_extract, Array.toList_extract]
  simp only [List.extract_eq_take_drop]
  rw [List.take_drop]
  have h : s.data.toList[i]? = some s[i] := by rw [List.getElem?_eq_getElem (by simpa using hi)]; rfl
  apply List.ext_getElem?
  intro j
  simp only [List.getElem?_drop, List.getElem?_take]
  match j with
  | 0 => simp [h]
  | j + 1 => simp
theorem Contains_d (s : ByteArray) (i : Nat) (hi : i < s.size) (w : World) :
    Calls Tryd.prog 83 #[.string ⟨#[110, 101, 115, 119]⟩, .string (s.extract i (i + 1))] w fun e w' => e = .returned (.bool (decide (0 ≤ ltr (byteAt s i)))) ∧ w = w' := by
  have hcon := Any.strings_Contains_one YtpckhpkbdanjoaaDoor.laysContains ⟨#[110, 101, 115, 119]⟩ s[i] w
  change Calls Tryd.prog 83 _ _ (fun e w' => _) at hcon
  rw [extract_one s hi]
  refine hcon.mono fun e w' ⟨he, hw⟩ => ⟨?_, hw.symm⟩
  rw [he]
  congr 2
  rw [← byteAt_eq hi]
  generalize s[i] = b
  have key : ∀ n : Fin 256, decide (0 ≤ Lib.indexByte [110, 101, 115, 119] (UInt8.ofNat n.val)) = decide (0 ≤ ltr (n.val : Int)) := by decide +kernel
  have h := key ⟨b.toNat, b.toNat_lt⟩
  simp only [UInt8.ofNat_toNat] at h
  exact h

end Go.Proofs.YtpckhpkbdanjoaaDoor
