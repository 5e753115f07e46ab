/-
  Texts of this proof, one behind the other (part 2).
-/
import Derived.Test.YtpckhpkbdanjoaaDoorQ1
import Derived.Deep.LoopGhost
import Derived.Ground.NamesProg
import Derived.Shelf.Lay
import Derived.Shelf.Strings.SlTrimAscii
/-
  Lists of the places that pass a test; rows of the call's own that hold them.-/
namespace Go.Proofs.YtpckhpkbdanjoaaDoor
set_option linter.unusedVariables false
set_option linter.unusedSimpArgs false
open Go.RowKit

/-- The first n that are so. -/
def flt (p : Nat → Bool) : Nat → List Nat
  | 0 => []
  | k + 1 => flt p k ++ if p k = true then [k] else []
theorem flt_len (p : Nat → Bool) : ∀ n, (flt p n).length ≤ n
  | 0 => by simp [flt]
  | k + 1 => by
    have := flt_len p k
    rw [flt, List.length_append]
    split <;> simp <;> omega
theorem flt_yes {p : Nat → Bool} {k : Nat} (h : p k = true) : flt p (k + 1) = flt p k ++ [k] := by rw [flt, if_pos h]
theorem flt_no {p : Nat → Bool} {k : Nat} (h : p k = false) : flt p (k + 1) = flt p k := by rw [flt, h]; simp
def fltV (p : Nat → Bool) (n : Nat) : List Value := (flt p n).map fun (i : Nat) => .int .i64 (i : Int)
def fltI (p : Nat → Bool) (n : Nat) (i : Nat) : Int := ((flt p n).getD i 0 : Nat)
theorem fltV_len (p : Nat → Bool) (n : Nat) : (fltV p n).length = (flt p n).length := by simp [fltV]
/-- A row that holds them. -/
theorem own_flt {w : World} {lo E : Nat} {v : Value} {p : Nat → Bool} {n : Nat} (h : w.ownsRow lo E 1 v (flt p n).length (fltV p n)) : Own w lo w.heap.size E 1 v (flt p n).length (flt p n).length (iC (fltI p n)) := by
  refine ⟨_, h, fun g hg => (h.lt g hg).2, fun i j hi hj => ?_⟩
  obtain rfl : j = 0 := by omega
  simp only [fltV, iC, fltI, Nat.mul_one, Nat.add_zero, List.getElem?_map]
  rw [List.getElem?_eq_getElem hi]
  simp [List.getD, List.getElem?_eq_getElem hi]
theorem row_below {w w' : World} {lo E sz n B : Nat} {v : Value} {xs : List Value} (h : w.ownsRow lo E sz v n xs) (hb : Below B w w') (hB : w.heap.size ≤ B) : w'.ownsRow lo E sz v n xs := by
  obtain ⟨hl, h1⟩ := id h
  refine ⟨hl, ?_⟩
  rcases h1 with h1 | ⟨g, cap, cur, rfl, hg, hh, r⟩
  · exact .inl h1
  · exact .inr ⟨g, cap, cur, rfl, hg, by rw [hb.block g (Nat.lt_of_lt_of_le (h.lt g rfl).2 hB)]; exact hh, r⟩
theorem row_form {w : World} {lo E sz n : Nat} {v : Value} {xs : List Value} (h : w.ownsRow lo E sz v n xs) : ∃ A cap, v = .slice A n cap := by
  rcases h.2 with ⟨h1, h2⟩ | ⟨g, cap, cur, h1, _⟩
  · exact ⟨none, 0, by rw [h1, h2]⟩
  · exact ⟨_, cap, h1⟩
/-- The texts of those places. -/
def fltT (f : Nat → ByteArray) (p : Nat → Bool) (n : Nat) : List Value := (flt p n).map fun (i : Nat) => .string (f i)
def fltS (f : Nat → ByteArray) (p : Nat → Bool) (n : Nat) (i : Nat) : ByteArray := f ((flt p n).getD i 0)
theorem own_fltS {w : World} {lo E : Nat} {v : Value} {f : Nat → ByteArray} {p : Nat → Bool} {n : Nat} (h : w.ownsRow lo E 1 v (flt p n).length (fltT f p n)) : Own w lo w.heap.size E 1 v (flt p n).length (flt p n).length (sC (fltS f p n)) := by
  refine ⟨_, h, fun g hg => (h.lt g hg).2, fun i j hi hj => ?_⟩
  obtain rfl : j = 0 := by omega
  simp only [fltT, sC, fltS, Nat.mul_one, Nat.add_zero, List.getElem?_map]
  rw [List.getElem?_eq_getElem hi]
  simp [List.getD, List.getElem?_eq_getElem hi]

end Go.Proofs.YtpckhpkbdanjoaaDoor

/-
  Walks: what the reference draws of floors: whatever it is (printed by gen_drwf.py).-/
namespace Go.Proofs.YtpckhpkbdanjoaaDoor
set_option linter.unusedVariables false
set_option linter.unusedSimpArgs false
open Go.RowKit

theorem Only.grown {lo hi : Nat} {w w1 w2 : World} {row : Option Nat} (h : Only lo hi w w1) (hg : w1.grownBy w2 row) (hr : ∀ q, row = some q → w.heap.size ≤ q) : Only lo hi w w2 :=
  ⟨hg.os.trans h.os, hg.tape.trans h.tape, hg.output.trans h.output, Nat.le_trans h.size hg.size, fun k h1 h2 => (hg.block k (Nat.lt_of_lt_of_le h1 h.size) (fun e => by have := hr k e.symm; omega)).trans (h.block k h1 h2)⟩
theorem Cu.grown {w w' : World} {g m : Nat} {row : Option Nat} (h : Cu w g m) (hg : w.grownBy w' row) (hr : ∀ q, row = some q → g < q) : Cu w' g m := by
  obtain ⟨a, ha, A, L, cap, f, s, h0, h1, h2, h3, h4, h5, h6, h7, h8⟩ := h
  have hgb : w'.heap[g]? = w.heap[g]? := hg.block g h8 (fun e => by have := hr g e.symm; omega)
  refine ⟨a, ha, A, L, cap, f, s, (World.cell?_of_block (a := ⟨g, 0, none⟩) hgb).trans h0, (World.cell?_of_block (a := ⟨g, 1, none⟩) hgb).trans h1, (World.cell?_of_block (a := ⟨g, 2, none⟩) hgb).trans h2, fun o => (World.frozen?_of_block (a := ⟨g, o, none⟩) hgb).trans (h3 o), h4, h5, h6, fun hL => ?_, Nat.lt_of_lt_of_le h8 hg.size⟩
  obtain ⟨b, off, e, hne, hlt, hc⟩ := h7 hL
  have hb : w'.heap[b]? = w.heap[b]? := hg.block b hlt (fun e => by have := hr b e.symm; omega)
  exact ⟨b, off, e, hne, Nat.lt_of_lt_of_le hlt hg.size, fun i hi => (World.cell?_of_block (a := ⟨b, off + i, none⟩) hb).trans (hc i hi)⟩
/-- A text of at most 14 bytes. -/
def isT (v : Value) : Prop := ∃ x : ByteArray, v = .string x ∧ x.size ≤ 13
/-- A row of texts of the call's own. -/
def SRow (w : World) (lo b : Nat) (v : Value) (n : Nat) : Prop :=
  (v = .slice none 0 0 ∧ n = 0) ∨ ∃ q cap, v = .slice (some ⟨q, 0, none⟩) n cap ∧ n ≤ cap ∧ lo ≤ q ∧ q < w.heap.size ∧ (∀ o, w.frozen? ⟨q, o, none⟩ = false) ∧ ∀ o, o < n → ∃ x : ByteArray, w.cell? ⟨q, o, none⟩ = some (.string x) ∧ x.size ≤ b
section
variable {w w' : World} {lo b n g E sz : Nat} {v : Value} {xs : List Value}
theorem row_only (h : w.ownsRow lo E sz v n xs) (hO : Only g (g + 1) w w') (hg : g < lo) : w'.ownsRow lo E sz v n xs := by
  obtain ⟨hl, h1⟩ := id h
  refine ⟨hl, ?_⟩
  rcases h1 with h1 | ⟨q, cap, cur, rfl, hq, hh, r⟩
  · exact .inl h1
  · exact .inr ⟨q, cap, cur, rfl, hq, by rw [hO.block q (h.lt q rfl).2 (by omega)]; exact hh, r⟩
theorem SRow.of_own (h : w.ownsRow lo E 1 v n xs) (hx : ∀ u ∈ xs, isT u) : SRow w lo 13 v n := by
  rcases h.2 with ⟨h0, h1⟩ | ⟨q, cap, cur, rfl, hq, hh, hnc, _⟩
  · exact .inl ⟨h0, h1⟩
  · refine .inr ⟨q, cap, rfl, hnc, hq, (h.lt q rfl).2, fun o => h.frozenAt o, fun o ho => ?_⟩
    have h2 := h.cellAt o (by omega)
    have h3 : o < xs.length := by rw [h.1]; omega
    rw [List.getElem?_eq_getElem h3] at h2
    obtain ⟨x, hx', hs⟩ := hx _ (List.getElem_mem h3)
    exact ⟨x, by rw [h2, hx'], by omega⟩
theorem SRow.keep (h : SRow w lo b v n) (hk : ∀ q, lo ≤ q → q < w.heap.size → w'.heap[q]? = w.heap[q]?) (hs : w.heap.size ≤ w'.heap.size) : SRow w' lo b v n := by
  rcases h with h | ⟨q, cap, h0, h1, h2, h3, h4, h5⟩
  · exact .inl h
  · refine .inr ⟨q, cap, h0, h1, h2, by omega, fun o => (World.frozen?_of_block (a := ⟨q, o, none⟩) (hk q h2 h3)).trans (h4 o), fun o ho => ?_⟩
    obtain ⟨x, hx, hs⟩ := h5 o ho
    exact ⟨x, (World.cell?_of_block (a := ⟨q, o, none⟩) (hk q h2 h3)).trans hx, hs⟩
theorem SRow.more {b' : Nat} (h : SRow w lo b v n) (hb : b ≤ b') : SRow w lo b' v n := by
  rcases h with h | ⟨q, cap, h0, h1, h2, h3, h4, h5⟩
  · exact .inl h
  · refine .inr ⟨q, cap, h0, h1, h2, h3, h4, fun o ho => ?_⟩
    obtain ⟨x, hx, hs⟩ := h5 o ho
    exact ⟨x, hx, by omega⟩
theorem SRow.only (h : SRow w lo b v n) (hO : Only g (g + 1) w w') (hg : g < lo) : SRow w' lo b v n := h.keep (fun q h1 h2 => hO.block q h2 (by omega)) hO.size
theorem SRow.alloc (h : SRow w lo b v n) (o : Obj) : SRow (w.alloc o) lo b v n := h.keep (fun q _ h2 => ((Below.refl _ _).alloc (Nat.le_refl _) o).block q h2) (by simp)
theorem SRow.below (h : SRow w lo b v n) (hb : Below w.heap.size w w') : SRow w' lo b v n := h.keep (fun q _ h2 => hb.block q h2) hb.size
theorem SRow.set {q cap o : Nat} (h : SRow w lo b (.slice (some ⟨q, 0, none⟩) n cap) n) (x : ByteArray) (hx : x.size ≤ b) : SRow (w.setCell ⟨q, o, none⟩ (.string x)) lo b (.slice (some ⟨q, 0, none⟩) n cap) n := by
  rcases h with ⟨h, _⟩ | ⟨q', cap', h0, h1, h2, h3, h4, h5⟩
  · cases h
  · cases h0
    refine .inr ⟨q, cap, rfl, h1, h2, by simp [World.setCell]; exact h3, fun o' => by simp [go_sem, h4], fun o' ho => ?_⟩
    obtain ⟨y, hy, hs⟩ := h5 o' ho
    by_cases e : o' = o
    · subst e
      exact ⟨x, by simp [go_sem, hy], hx⟩
    · exact ⟨y, (World.cell?_setCell_other w ⟨q, o, none⟩ ⟨q, o', none⟩ _ (fun h => e (by cases h; rfl))).trans hy, hs⟩
/-- A text that lies in a cell. -/
noncomputable def atS (w : World) (q o : Nat) : ByteArray := match w.cell? ⟨q, o, none⟩ with
  | some (.string x) => x
  | _ => ⟨#[]⟩
theorem atS_eq {q o : Nat} (h : ∃ x : ByteArray, w.cell? ⟨q, o, none⟩ = some (.string x) ∧ x.size ≤ b) : w.cell? ⟨q, o, none⟩ = some (.string (atS w q o)) ∧ (atS w q o).size ≤ b := by
  obtain ⟨x, hx, hs⟩ := h
  have e : atS w q o = x := by rw [atS, hx]
  rw [e]
  exact ⟨hx, hs⟩
theorem SRow.sl (h : SRow w lo b v n) : ∃ F : Nat → ByteArray, Sl w lo w.heap.size 1 v n (sC F) ∧ ∀ i, i < n → (F i).size ≤ b := by
  rcases h with ⟨rfl, rfl⟩ | ⟨q, cap, rfl, h1, h2, h3, h4, h5⟩
  · exact ⟨fun _ => ⟨#[]⟩, Sl.nil_, fun i hi => absurd hi (Nat.not_lt_zero _)⟩
  · refine ⟨fun i => atS w q i, ⟨_, _, rfl, h1, fun hn => ⟨q, 0, rfl, h2, h3, fun i j hi hj => ?_⟩⟩, fun i hi => (atS_eq (h5 i hi)).2⟩
    obtain rfl : j = 0 := by omega
    simp only [Nat.mul_one, Nat.add_zero, Nat.zero_add]
    exact (atS_eq (h5 i hi)).1
end
theorem infoStrF : (Tryd.prog.info? 9).map (fun i => (i.zero, i.size, i.bytes)) = some (some (.string ⟨#[]⟩), 1, 16) := by kernel_rfl
set_option maxRecDepth 100000 in
set_option maxHeartbeats 6400000 in
theorem floor_any (g m : Nat) (w : World) (h : Cu w g m) (hm : m < 100000000) :
    Calls Tryd.prog 73 #[.pointer (some ⟨g, 0, none⟩)] w fun e w' => ∃ v : Value, e = .returned v ∧ ∃ n : Nat, SRow w' w.heap.size 14 v n ∧ n ≤ 13 ∧ Cu w' g (m + 500) ∧ Only g (g + 1) w w' := by
  have hg := h.lt
  obtain ⟨i0, hi0, iz0, iz1, iz2⟩ := info_parts infoStrF
  go_enter Tryd.func73, Tryd.ntmps73
  go_wp2_with fail
  refine (pick_any g _ _ _ (by repeat (first | (with_reducible refine Cu.alloc ?_ _) | (with_reducible refine Cu.drewN ?_ _) | (with_reducible refine Cu.drew ?_) | (with_reducible assumption))) (by omega)).mono ?_
  rintro e w1 ⟨v1, rfl, hv1, hC1, hO1⟩
  have hz1 := hO1.size
  (try (simp at hz1))
  go_wp2_with fail
  refine (pick_any g _ _ _ (by repeat (first | (with_reducible refine Cu.alloc ?_ _) | (with_reducible refine Cu.drewN ?_ _) | (with_reducible refine Cu.drew ?_) | (with_reducible assumption))) (by omega)).mono ?_
  rintro e w2 ⟨v2, rfl, hv2, hC2, hO2⟩
  have hz2 := hO2.size
  (try (simp at hz2))
  go_wp2_with fail
  refine (one_any g _ _ _ (by repeat (first | (with_reducible refine Cu.alloc ?_ _) | (with_reducible refine Cu.drewN ?_ _) | (with_reducible refine Cu.drew ?_) | (with_reducible assumption))) (by omega)).mono ?_
  rintro e w3 ⟨b3, rfl, hC3, hO3⟩
  have hz3 := hO3.size
  (try (simp at hz3))
  cases b3 with
  | true =>
    go_wp2_with fail
    refine (among_new g _ _ _ _ _ _ (by repeat (first | (with_reducible refine Cu.alloc ?_ _) | (with_reducible refine Cu.drewN ?_ _) | (with_reducible refine Cu.drew ?_) | (with_reducible assumption))) (by first | (with_reducible rfl) | simp) (by omega) (by rfl) (by decide) (by decide) (by simp [isI])).mono ?_
    rintro e w4 ⟨v4, rfl, hM4, hC4, hO4⟩
    have hz4 := hO4.size
    (try (simp at hz4))
    simp at hM4
    go_wp2_with fail
    refine (among_new g _ _ _ _ _ _ (by repeat (first | (with_reducible refine Cu.alloc ?_ _) | (with_reducible refine Cu.drewN ?_ _) | (with_reducible refine Cu.drew ?_) | (with_reducible assumption))) (by first | (with_reducible rfl) | simp) (by omega) (by rfl) (by decide) (by decide) (by simp [isI])).mono ?_
    rintro e w5 ⟨v55, rfl, hM55, hC5, hO5⟩
    have hz5 := hO5.size
    (try (simp at hz5))
    simp at hM55
    obtain ⟨hh, ehh⟩ : ∃ hh : Int, hh = v4 := ⟨_, rfl⟩
    obtain ⟨wd, ewd⟩ : ∃ wd : Int, wd = v55 := ⟨_, rfl⟩
    have hh1 : 1 ≤ hh ∧ hh ≤ 13 := by omega
    have wd1 : 1 ≤ wd ∧ wd ≤ 13 := by omega
    rw [← ehh, ← ewd]
    have OA : Only g (g + 1) w w5 := (((hO1.trans hO2).trans hO3).trans hO4).trans hO5
    have CA : Cu w5 g (m + 12 + 30 * 0) := hC5.more (by omega)
    clear ehh ewd hM4 hM55 hO1 hO2 hO3 hO4 hO5 hC1 hC2 hC3 hC4 hC5 hv1 hv2
    go_wp2_with fail
    go_loopg [5] 15 (fun gn lv wr => ∃ (k : Nat) (B : Option Addr) (cp : Nat) (xs : List Value), (k : Int) ≤ hh ∧ hh.toNat - k < gn ∧ lv = .slice B k cp ∧ Hid (wr.ownsRow w.heap.size 9 1 (.slice B k cp) k xs) ∧ Hid (∀ u ∈ xs, isT u) ∧ Cu wr g (m + 12 + 30 * k) ∧ Only g (g + 1) w wr)
    case atStart => exact ⟨0, none, 0, [], by omega, by omega, rfl, World.ownsRow_nil _ _ _ _, fun u hu => by simp at hu, CA, OA⟩
    case round =>
      obtain ⟨k, B, cp, xs, hk, hgn, rfl, hown, hxs, hCr, hOr⟩ := hrel
      have hzr := hOr.size
      by_cases hkn : (k : Int) < hh
      · go_wp2_with fail
        go_loopg [6] 15 (fun gn2 sv wq => ∃ x : ByteArray, sv = .string x ∧ (x.size : Int) ≤ wd ∧ wd.toNat - x.size < gn2 ∧ Hid (wq.ownsRow w.heap.size 9 1 (.slice B k cp) k xs) ∧ Cu wq g (m + 12 + 30 * k + 2 * x.size) ∧ Only g (g + 1) w wq)
        case atStart => exact ⟨⟨#[]⟩, rfl, by simp [ByteArray.size]; omega, by simp [ByteArray.size]; omega, hown.out, hCr.more (by omega), hOr⟩
        case round =>
          clear hown hCr hOr
          obtain ⟨x, rfl, hx, hgn2, hown, hCr, hOr⟩ := hrel
          have hzq := hOr.size
          by_cases hxn : (x.size : Int) < wd
          · go_wp2_with fail
            refine (of_new g _ _ _ _ _ _ (by repeat (first | (with_reducible refine Cu.alloc ?_ _) | (with_reducible refine Cu.drewN ?_ _) | (with_reducible refine Cu.drew ?_) | (with_reducible assumption))) (by first | (with_reducible rfl) | simp) (by omega) (by rfl) (by decide) (by decide) (by simp [isS])).mono ?_
            rintro e w5 ⟨v5, rfl, hM5, hC5, hO5⟩
            have hz5 := hO5.size
            (try (simp at hz5))
            simp at hM5
            have hs5 : v5.size = 1 := by rcases hM5 with rfl | rfl <;> rfl
            have hsx : (x ++ v5).size = x.size + 1 := by rw [ByteArray.size_append, hs5]
            have hown5 := hide (row_only (hown.out) hO5 (by omega))
            have O5 := hOr.trans hO5
            clear hown hOr hO5 hM5 hCr
            go_wp2_with fail
            go_roundg (wd.toNat - x.size)
            case measure => omega
            case rel => exact ⟨x ++ v5, rfl, by omega, by omega, hown5.out, hC5.more (by omega), O5⟩
          · have hx13 : x.size ≤ 13 := by omega
            go_wp2_with (at_builtin; refine wpList_append_own _ rfl _ _ 22 rfl w.heap.size 9 i0 (.string ⟨#[]⟩) 1 16 Tryd.underlying22 hi0 iz0 iz1 iz2 rfl (by decide) _ _ _ rfl (hown.out.alloc _) ⟨wr.heap.size, 0, none⟩ 1 1 [.string x] rfl rfl (by
              intro i u hu
              match i, hu with
              | 0, hu => simp at hu; subst hu; simp [go_sem, Addr.add]) (by intro u hu; simp at hu; subst hu; rfl) (by unfold maxLen; omega) (by omega) (by simp; omega) ?_)
            intro v' w6 hown2 hg2 _
            have hO6 : Only g (g + 1) w w6 := (hOr.alloc _).grown hg2 (fun q hq => (hown.out.lt q hq).1)
            have hC6 : Cu w6 g (m + 12 + 30 * k + 2 * x.size) := (hCr.alloc _).grown hg2 (fun q hq => by have := (hown.out.lt q hq).1; omega)
            obtain ⟨B2, cp2, rfl⟩ := row_form hown2
            have hxs2 : Hid (∀ u ∈ xs ++ [.string x], isT u) := fun u hu => by
              rcases List.mem_append.1 hu with h1 | h1
              · exact hxs.out u h1
              · simp at h1
                exact ⟨x, h1, by omega⟩
            have hown3 := hide hown2
            clear hown hown2 hg2 hxs hCr hOr
            go_wp2_with fail
            go_roundg (hh.toNat - k)
            case measure => omega
            case rel => exact ⟨k + 1, B2, cp2, _, by omega, by omega, rfl, hown3.out, hxs2, hC6.more (by omega), hO6⟩
      · have ek : (k : Int) = hh := by omega
        have hR : SRow wr w.heap.size 13 (.slice B k cp) k := SRow.of_own hown.out hxs.out
        clear hown hxs
        have hRr := hide hR
        clear hR
        go_wp2_with fail
        refine (pick_any g _ _ _ (by repeat (first | (with_reducible refine Cu.alloc ?_ _) | (with_reducible refine Cu.drewN ?_ _) | (with_reducible refine Cu.drew ?_) | (with_reducible assumption))) (by omega)).mono ?_
        rintro e w7 ⟨v7, rfl, hv7, hC7, hO7⟩
        have hz7 := hO7.size
        (try (simp at hz7))
        have hR7 := hide (hRr.out.only hO7 (by omega))
        have O7 := hOr.trans hO7
        clear hRr hO7 hOr hv7
        by_cases e0 : v7 = 0
        · subst e0
          go_wp2_with fail
          refine (pick_any g _ _ _ (by repeat (first | (with_reducible refine Cu.alloc ?_ _) | (with_reducible refine Cu.drewN ?_ _) | (with_reducible refine Cu.drew ?_) | (with_reducible assumption))) (by omega)).mono ?_
          rintro e w8 ⟨v8, rfl, hv8, hC8, hO8⟩
          have hz8 := hO8.size
          (try (simp at hz8))
          obtain ⟨kk, rfl⟩ : ∃ kk : Nat, v8 = kk := ⟨v8.toNat, by omega⟩
          have hkk : kk < k := by omega
          have hR8 := hide (hR7.out.only hO8 (by omega))
          have O8 := O7.trans hO8
          clear hR7 hO8 O7 hC7
          rcases id hR8.out with ⟨_, h0⟩ | ⟨q, cq, h0, hq1, hq2, hq3, hq4, hq5⟩
          · omega
          cases h0
          obtain ⟨y, hy, hys⟩ := hq5 kk hkk
          have hy13 : y.size ≤ 13 := hys
          clear hq5
          have hR9 : Hid (SRow w8 w.heap.size 14 (.slice (some ⟨q, 0, none⟩) k cp) k) := hR8.out.more (by omega)
          clear hR8
          go_wp2_with fail
          go_ret
          exact ⟨_, rfl, k, (SRow.set hR9.out (y ++ ⟨#[46]⟩) (by rw [ByteArray.size_append]; show y.size + 1 ≤ 14; omega)), by omega, (hC8.set (p := ⟨q, kk, none⟩) (by show g < q; omega) _).more (by omega), O8.setNew (a := ⟨q, kk, none⟩) (by show w.heap.size ≤ q; omega) _⟩
        · have d0 : (v7 == 0) = false := by simp [e0]
          by_cases e1 : v7 = 1
          · subst e1
            go_wp2_with fail
            refine (pick_any g _ _ _ (by repeat (first | (with_reducible refine Cu.alloc ?_ _) | (with_reducible refine Cu.drewN ?_ _) | (with_reducible refine Cu.drew ?_) | (with_reducible assumption))) (by omega)).mono ?_
            rintro e w8 ⟨v8, rfl, hv8, hC8, hO8⟩
            have hz8 := hO8.size
            (try (simp at hz8))
            obtain ⟨kk, rfl⟩ : ∃ kk : Nat, v8 = kk := ⟨v8.toNat, by omega⟩
            have hkk : kk < k := by omega
            have hR8 := hide (hR7.out.only hO8 (by omega))
            have O8 := O7.trans hO8
            clear hR7 hO8 O7 hC7
            go_wp2_with fail
            refine (of_new g _ _ _ _ _ _ (by repeat (first | (with_reducible refine Cu.alloc ?_ _) | (with_reducible refine Cu.drewN ?_ _) | (with_reducible refine Cu.drew ?_) | (with_reducible assumption))) (by first | (with_reducible rfl) | simp) (by omega) (by rfl) (by decide) (by decide) (by simp [isS])).mono ?_
            rintro e w9 ⟨v9, rfl, hM9, hC9, hO9⟩
            have hz9 := hO9.size
            (try (simp at hz9))
            simp at hM9
            have hs9 : v9.size ≤ 14 := by rcases hM9 with rfl | rfl | rfl <;> decide
            have hR9 := hide (hR8.out.only hO9 (by omega))
            have O9 := O8.trans hO9
            clear hR8 hO9 O8 hC8 hM9
            rcases id hR9.out with ⟨_, h0⟩ | ⟨q, cq, h0, hq1, hq2, hq3, hq4, hq5⟩
            · omega
            cases h0
            obtain ⟨y, hy, hys⟩ := hq5 kk hkk
            clear hq5 hys
            go_wp2_with fail
            go_ret
            exact ⟨_, rfl, k, (SRow.set (hR9.out.more (by omega)) v9 hs9), by omega, (hC9.set (p := ⟨q, kk, none⟩) (by show g < q; omega) _).more (by omega), O9.setNew (a := ⟨q, kk, none⟩) (by show w.heap.size ≤ q; omega) _⟩
          · have d1 : (v7 == 1) = false := by simp [e1]
            by_cases e2 : v7 = 2
            · subst e2
              go_wp2_with fail
              go_ret
              exact ⟨_, rfl, 0, .inl ⟨rfl, rfl⟩, by omega, hC7.more (by omega), O7⟩
            · have d2 : (v7 == 2) = false := by simp [e2]
              go_wp2_with fail
              go_ret
              exact ⟨_, rfl, k, hR7.out.more (by omega), by omega, hC7.more (by omega), O7⟩
  | false =>
    obtain ⟨hh, ehh⟩ : ∃ hh : Int, hh = 1 + v1 := ⟨_, rfl⟩
    obtain ⟨wd, ewd⟩ : ∃ wd : Int, wd = 1 + v2 := ⟨_, rfl⟩
    have hh1 : 1 ≤ hh ∧ hh ≤ 13 := by omega
    have wd1 : 1 ≤ wd ∧ wd ≤ 13 := by omega
    rw [← ehh, ← ewd]
    have OA : Only g (g + 1) w w3 := (hO1.trans hO2).trans hO3
    have CA : Cu w3 g (m + 12 + 30 * 0) := hC3.more (by omega)
    clear ehh ewd hO1 hO2 hO3 hC1 hC2 hC3 hv1 hv2
    go_wp2_with fail
    go_loopg [5] 15 (fun gn lv wr => ∃ (k : Nat) (B : Option Addr) (cp : Nat) (xs : List Value), (k : Int) ≤ hh ∧ hh.toNat - k < gn ∧ lv = .slice B k cp ∧ Hid (wr.ownsRow w.heap.size 9 1 (.slice B k cp) k xs) ∧ Hid (∀ u ∈ xs, isT u) ∧ Cu wr g (m + 12 + 30 * k) ∧ Only g (g + 1) w wr)
    case atStart => exact ⟨0, none, 0, [], by omega, by omega, rfl, World.ownsRow_nil _ _ _ _, fun u hu => by simp at hu, CA, OA⟩
    case round =>
      obtain ⟨k, B, cp, xs, hk, hgn, rfl, hown, hxs, hCr, hOr⟩ := hrel
      have hzr := hOr.size
      by_cases hkn : (k : Int) < hh
      · go_wp2_with fail
        go_loopg [6] 15 (fun gn2 sv wq => ∃ x : ByteArray, sv = .string x ∧ (x.size : Int) ≤ wd ∧ wd.toNat - x.size < gn2 ∧ Hid (wq.ownsRow w.heap.size 9 1 (.slice B k cp) k xs) ∧ Cu wq g (m + 12 + 30 * k + 2 * x.size) ∧ Only g (g + 1) w wq)
        case atStart => exact ⟨⟨#[]⟩, rfl, by simp [ByteArray.size]; omega, by simp [ByteArray.size]; omega, hown.out, hCr.more (by omega), hOr⟩
        case round =>
          clear hown hCr hOr
          obtain ⟨x, rfl, hx, hgn2, hown, hCr, hOr⟩ := hrel
          have hzq := hOr.size
          by_cases hxn : (x.size : Int) < wd
          · go_wp2_with fail
            refine (of_new g _ _ _ _ _ _ (by repeat (first | (with_reducible refine Cu.alloc ?_ _) | (with_reducible refine Cu.drewN ?_ _) | (with_reducible refine Cu.drew ?_) | (with_reducible assumption))) (by first | (with_reducible rfl) | simp) (by omega) (by rfl) (by decide) (by decide) (by simp [isS])).mono ?_
            rintro e w5 ⟨v5, rfl, hM5, hC5, hO5⟩
            have hz5 := hO5.size
            (try (simp at hz5))
            simp at hM5
            have hs5 : v5.size = 1 := by rcases hM5 with rfl | rfl <;> rfl
            have hsx : (x ++ v5).size = x.size + 1 := by rw [ByteArray.size_append, hs5]
            have hown5 := hide (row_only (hown.out) hO5 (by omega))
            have O5 := hOr.trans hO5
            clear hown hOr hO5 hM5 hCr
            go_wp2_with fail
            go_roundg (wd.toNat - x.size)
            case measure => omega
            case rel => exact ⟨x ++ v5, rfl, by omega, by omega, hown5.out, hC5.more (by omega), O5⟩
          · have hx13 : x.size ≤ 13 := by omega
            go_wp2_with (at_builtin; refine wpList_append_own _ rfl _ _ 22 rfl w.heap.size 9 i0 (.string ⟨#[]⟩) 1 16 Tryd.underlying22 hi0 iz0 iz1 iz2 rfl (by decide) _ _ _ rfl (hown.out.alloc _) ⟨wr.heap.size, 0, none⟩ 1 1 [.string x] rfl rfl (by
              intro i u hu
              match i, hu with
              | 0, hu => simp at hu; subst hu; simp [go_sem, Addr.add]) (by intro u hu; simp at hu; subst hu; rfl) (by unfold maxLen; omega) (by omega) (by simp; omega) ?_)
            intro v' w6 hown2 hg2 _
            have hO6 : Only g (g + 1) w w6 := (hOr.alloc _).grown hg2 (fun q hq => (hown.out.lt q hq).1)
            have hC6 : Cu w6 g (m + 12 + 30 * k + 2 * x.size) := (hCr.alloc _).grown hg2 (fun q hq => by have := (hown.out.lt q hq).1; omega)
            obtain ⟨B2, cp2, rfl⟩ := row_form hown2
            have hxs2 : Hid (∀ u ∈ xs ++ [.string x], isT u) := fun u hu => by
              rcases List.mem_append.1 hu with h1 | h1
              · exact hxs.out u h1
              · simp at h1
                exact ⟨x, h1, by omega⟩
            have hown3 := hide hown2
            clear hown hown2 hg2 hxs hCr hOr
            go_wp2_with fail
            go_roundg (hh.toNat - k)
            case measure => omega
            case rel => exact ⟨k + 1, B2, cp2, _, by omega, by omega, rfl, hown3.out, hxs2, hC6.more (by omega), hO6⟩
      · have ek : (k : Int) = hh := by omega
        have hR : SRow wr w.heap.size 13 (.slice B k cp) k := SRow.of_own hown.out hxs.out
        clear hown hxs
        have hRr := hide hR
        clear hR
        go_wp2_with fail
        refine (pick_any g _ _ _ (by repeat (first | (with_reducible refine Cu.alloc ?_ _) | (with_reducible refine Cu.drewN ?_ _) | (with_reducible refine Cu.drew ?_) | (with_reducible assumption))) (by omega)).mono ?_
        rintro e w7 ⟨v7, rfl, hv7, hC7, hO7⟩
        have hz7 := hO7.size
        (try (simp at hz7))
        have hR7 := hide (hRr.out.only hO7 (by omega))
        have O7 := hOr.trans hO7
        clear hRr hO7 hOr hv7
        by_cases e0 : v7 = 0
        · subst e0
          go_wp2_with fail
          refine (pick_any g _ _ _ (by repeat (first | (with_reducible refine Cu.alloc ?_ _) | (with_reducible refine Cu.drewN ?_ _) | (with_reducible refine Cu.drew ?_) | (with_reducible assumption))) (by omega)).mono ?_
          rintro e w8 ⟨v8, rfl, hv8, hC8, hO8⟩
          have hz8 := hO8.size
          (try (simp at hz8))
          obtain ⟨kk, rfl⟩ : ∃ kk : Nat, v8 = kk := ⟨v8.toNat, by omega⟩
          have hkk : kk < k := by omega
          have hR8 := hide (hR7.out.only hO8 (by omega))
          have O8 := O7.trans hO8
          clear hR7 hO8 O7 hC7
          rcases id hR8.out with ⟨_, h0⟩ | ⟨q, cq, h0, hq1, hq2, hq3, hq4, hq5⟩
          · omega
          cases h0
          obtain ⟨y, hy, hys⟩ := hq5 kk hkk
          have hy13 : y.size ≤ 13 := hys
          clear hq5
          have hR9 : Hid (SRow w8 w.heap.size 14 (.slice (some ⟨q, 0, none⟩) k cp) k) := hR8.out.more (by omega)
          clear hR8
          go_wp2_with fail
          go_ret
          exact ⟨_, rfl, k, (SRow.set hR9.out (y ++ ⟨#[46]⟩) (by rw [ByteArray.size_append]; show y.size + 1 ≤ 14; omega)), by omega, (hC8.set (p := ⟨q, kk, none⟩) (by show g < q; omega) _).more (by omega), O8.setNew (a := ⟨q, kk, none⟩) (by show w.heap.size ≤ q; omega) _⟩
        · have d0 : (v7 == 0) = false := by simp [e0]
          by_cases e1 : v7 = 1
          · subst e1
            go_wp2_with fail
            refine (pick_any g _ _ _ (by repeat (first | (with_reducible refine Cu.alloc ?_ _) | (with_reducible refine Cu.drewN ?_ _) | (with_reducible refine Cu.drew ?_) | (with_reducible assumption))) (by omega)).mono ?_
            rintro e w8 ⟨v8, rfl, hv8, hC8, hO8⟩
            have hz8 := hO8.size
            (try (simp at hz8))
            obtain ⟨kk, rfl⟩ : ∃ kk : Nat, v8 = kk := ⟨v8.toNat, by omega⟩
            have hkk : kk < k := by omega
            have hR8 := hide (hR7.out.only hO8 (by omega))
            have O8 := O7.trans hO8
            clear hR7 hO8 O7 hC7
            go_wp2_with fail
            refine (of_new g _ _ _ _ _ _ (by repeat (first | (with_reducible refine Cu.alloc ?_ _) | (with_reducible refine Cu.drewN ?_ _) | (with_reducible refine Cu.drew ?_) | (with_reducible assumption))) (by first | (with_reducible rfl) | simp) (by omega) (by rfl) (by decide) (by decide) (by simp [isS])).mono ?_
            rintro e w9 ⟨v9, rfl, hM9, hC9, hO9⟩
            have hz9 := hO9.size
            (try (simp at hz9))
            simp at hM9
            have hs9 : v9.size ≤ 14 := by rcases hM9 with rfl | rfl | rfl <;> decide
            have hR9 := hide (hR8.out.only hO9 (by omega))
            have O9 := O8.trans hO9
            clear hR8 hO9 O8 hC8 hM9
            rcases id hR9.out with ⟨_, h0⟩ | ⟨q, cq, h0, hq1, hq2, hq3, hq4, hq5⟩
            · omega
            cases h0
            obtain ⟨y, hy, hys⟩ := hq5 kk hkk
            clear hq5 hys
            go_wp2_with fail
            go_ret
            exact ⟨_, rfl, k, (SRow.set (hR9.out.more (by omega)) v9 hs9), by omega, (hC9.set (p := ⟨q, kk, none⟩) (by show g < q; omega) _).more (by omega), O9.setNew (a := ⟨q, kk, none⟩) (by show w.heap.size ≤ q; omega) _⟩
          · have d1 : (v7 == 1) = false := by simp [e1]
            by_cases e2 : v7 = 2
            · subst e2
              go_wp2_with fail
              go_ret
              exact ⟨_, rfl, 0, .inl ⟨rfl, rfl⟩, by omega, hC7.more (by omega), O7⟩
            · have d2 : (v7 == 2) = false := by simp [e2]
              go_wp2_with fail
              go_ret
              exact ⟨_, rfl, k, hR7.out.more (by omega), by omega, hC7.more (by omega), O7⟩

end Go.Proofs.YtpckhpkbdanjoaaDoor

/-
  Plain laws on cylinders: litres, pressures after use, leading runs. No program in sight.-/
namespace Go.Proofs.YtpckhpkbdanjoaaDoor
set_option linter.unusedVariables false
set_option linter.unusedSimpArgs false

def inB (n a b : Int) : Bool := decide (a ≤ n) && decide (n ≤ b)
theorem inB_iff {n a b : Int} : inB n a b = true ↔ a ≤ n ∧ n ≤ b := by simp [inB]
theorem inB_no {n a b : Int} : inB n a b = false ↔ n < a ∨ b < n := by simp [inB]; omega

def cylB (v b : Int) : Bool := inB v 10 3000 && inB b 0 330
theorem cylB_iff {v b : Int} : cylB v b = true ↔ (10 ≤ v ∧ v ≤ 3000) ∧ 0 ≤ b ∧ b ≤ 330 := by simp [cylB, inB_iff]

/-- The pressure that counts. -/
def eff (b : Int) : Int := if 200 < b then 200 + 9 * (b - 200) / 10 else b
def lit (v b : Int) : Int := v * eff b / 10
theorem eff_mono {a b : Int} (h : a ≤ b) : eff a ≤ eff b := by unfold eff; split <;> split <;> omega
theorem eff_bd {b : Int} (h0 : 0 ≤ b) (h1 : b ≤ 330) : 0 ≤ eff b ∧ eff b ≤ 317 := by unfold eff; split <;> omega
theorem lit_mono {v a b : Int} (hv : 0 ≤ v) (h : a ≤ b) : lit v a ≤ lit v b := by
  unfold lit
  have := Int.mul_le_mul_of_nonneg_left (eff_mono h) hv
  omega
theorem lit_zero (v : Int) : lit v 0 = 0 := by simp [lit, eff]
theorem mul_bd {v e : Int} (hv : 0 ≤ v) (hv' : v ≤ 3000) (he : 0 ≤ e) (he' : e ≤ 317) : 0 ≤ v * e ∧ v * e ≤ 951000 := by
  refine ⟨Int.mul_nonneg hv he, ?_⟩
  have h1 := Int.mul_le_mul_of_nonneg_left he' hv
  have h2 := Int.mul_le_mul_of_nonneg_right hv' (show (0 : Int) ≤ 317 by omega)
  omega
theorem lit_bd {v b : Int} (hv : 0 ≤ v) (hv' : v ≤ 3000) (h0 : 0 ≤ b) (h1 : b ≤ 330) : 0 ≤ lit v b ∧ lit v b ≤ 95100 := by
  have he := eff_bd h0 h1
  have := mul_bd hv hv' he.1 he.2
  unfold lit
  omega

/-- The greatest pressure, at most n, with at most 'left' litres. -/
def down (v left : Int) : Nat → Nat
  | 0 => 0
  | n + 1 => if left < lit v ((n : Int) + 1) then down v left n else n + 1
theorem down_le (v left : Int) (n : Nat) : down v left n ≤ n := by
  induction n with
  | zero => simp [down]
  | succ n ih => unfold down; split <;> omega
theorem down_lit {v left : Int} (h : 0 ≤ left) (n : Nat) : lit v (down v left n : Nat) ≤ left := by
  induction n with
  | zero => simp [down, lit_zero]; exact h
  | succ n ih =>
    unfold down
    split
    · exact ih
    · rename_i hh; push_cast; omega
theorem down_max {v left : Int} : ∀ {n m : Nat}, m ≤ n → lit v (m : Nat) ≤ left → m ≤ down v left n
  | 0, m, hm, _ => by omega
  | n + 1, m, hm, hl => by
    unfold down
    split
    · rename_i hh
      rcases Nat.lt_or_ge m (n + 1) with h | h
      · exact down_max (by omega) hl
      · obtain rfl : m = n + 1 := by omega
        push_cast at hl
        omega
    · exact hm
theorem down_step {v left : Int} {n m : Nat} (hm : m ≤ n) (h : ∀ j : Nat, m < j → j ≤ n → left < lit v (j : Nat)) (hl : m = 0 ∨ lit v (m : Nat) ≤ left) : down v left n = m := by
  induction n with
  | zero => simp [down]; omega
  | succ n ih =>
    unfold down
    rcases Nat.lt_or_ge m (n + 1) with hlt | hge
    · have h1 := h (n + 1) hlt (Nat.le_refl _)
      push_cast at h1
      rw [if_pos h1]
      exact ih (by omega) fun j h2 h3 => h j h2 (by omega)
    · obtain rfl : m = n + 1 := by omega
      rcases hl with hl | hl
      · omega
      · push_cast at hl
        rw [if_neg (by omega)]
theorem down_anti {v l1 l2 : Int} (hl0 : 0 ≤ l2) (h : l2 ≤ l1) (n : Nat) : down v l2 n ≤ down v l1 n :=
  down_max (down_le _ _ _) (by have := down_lit (v := v) hl0 n; omega)
theorem down_self {v : Int} (n : Nat) : down v (lit v (n : Nat)) n = n :=
  down_step (Nat.le_refl _) (fun j h1 h2 => by omega) (.inr (Int.le_refl _))
/-- From above: the least of b and the greatest pressure at all. -/
theorem down_min {v left : Int} (hv : 0 ≤ v) (h0 : 0 ≤ left) {n N : Nat} (hn : n ≤ N) : min n (down v left N) = down v left n := by
  have h1 := down_le v left n
  have h2 : down v left n ≤ down v left N := down_max (by omega) (down_lit h0 n)
  have h3 : min n (down v left N) ≤ down v left n := by
    refine down_max (Nat.min_le_left _ _) ?_
    have h4 := down_lit (v := v) h0 N
    have h5 : lit v ((min n (down v left N) : Nat) : Int) ≤ lit v ((down v left N : Nat) : Int) := lit_mono hv (by omega)
    omega
  omega

/-- What is left after 'used' litres, if there are so many. -/
def aftOk (v b used : Int) : Bool := decide (used ≤ lit v b)
def aftN (v b used : Int) : Int := if used ≤ lit v b then (down v (lit v b - used) b.toNat : Nat) else 0
theorem aftN_bd {v b used : Int} (h0 : 0 ≤ b) : 0 ≤ aftN v b used ∧ aftN v b used ≤ b := by
  unfold aftN
  have := down_le v (lit v b - used) b.toNat
  split <;> omega
theorem aftN_lit {v b used : Int} (h : used ≤ lit v b) : lit v (aftN v b used) ≤ lit v b - used := by
  unfold aftN
  rw [if_pos h]
  exact down_lit (by omega) _
theorem aftN_anti {v b u1 u2 : Int} (h : u1 ≤ u2) (h2 : u2 ≤ lit v b) : aftN v b u2 ≤ aftN v b u1 := by
  unfold aftN
  rw [if_pos h2, if_pos (by omega)]
  have := down_anti (v := v) (l1 := lit v b - u1) (l2 := lit v b - u2) (by omega) (by omega) b.toNat
  omega
theorem aftN_zero {v b : Int} (h0 : 0 ≤ b) (hl : 0 ≤ lit v b) : aftN v b 0 = b := by
  unfold aftN
  rw [if_pos hl]
  have hb : ((b.toNat : Nat) : Int) = b := Int.toNat_of_nonneg h0
  have := down_self (v := v) b.toNat
  rw [hb] at this
  rw [show lit v b - 0 = lit v b by omega, this, hb]

/-- How many of the first N are so, up to the first that is not. -/
def lead (g : Nat → Bool) : Nat → Nat
  | 0 => 0
  | n + 1 => if g 0 then lead (fun k => g (k + 1)) n + 1 else 0
theorem lead_eq {g : Nat → Bool} : ∀ {N k : Nat}, k ≤ N → (∀ j, j < k → g j = true) → (k = N ∨ g k = false) → lead g N = k := by
  intro N
  induction N generalizing g with
  | zero => intro k hk _ _; simp [lead]; omega
  | succ N ih =>
    intro k hk hj he
    unfold lead
    match k with
    | 0 =>
      rcases he with he | he
      · omega
      · simp [he]
    | k + 1 =>
      rw [if_pos (hj 0 (by omega))]
      rw [ih (g := fun k => g (k + 1)) (k := k) (by omega) (fun j h => hj (j + 1) (by omega)) (by
        rcases he with he | he
        · left; omega
        · right; exact he)]
theorem lead_spec (g : Nat → Bool) : ∀ (N : Nat), lead g N ≤ N ∧ (∀ j, j < lead g N → g j = true) ∧ (lead g N = N ∨ g (lead g N) = false) := by
  intro N
  induction N generalizing g with
  | zero => simp [lead]
  | succ N ih =>
    obtain ⟨h1, h2, h3⟩ := ih (fun k => g (k + 1))
    unfold lead
    by_cases hg : g 0 = true
    · rw [if_pos hg]
      refine ⟨by omega, fun j hj => ?_, ?_⟩
      · match j with
        | 0 => exact hg
        | j + 1 => exact h2 j (by omega)
      · rcases h3 with h3 | h3
        · left; omega
        · right; exact h3
    · rw [if_neg hg]
      refine ⟨by omega, fun j hj => by omega, .inr (by simpa using hg)⟩

/-- After n minutes more than 'first' at least 'bar' is left. -/
def okAt (v b rate first bar : Int) (n : Nat) : Bool := aftOk v b (rate * (first + n)) && decide (bar ≤ aftN v b (rate * (first + n)))
theorem okAt_mono {v b rate first bar : Int} (hr : 0 ≤ rate) {m n : Nat} (h : m ≤ n) (hn : okAt v b rate first bar n = true) : okAt v b rate first bar m = true := by
  simp only [okAt, aftOk, Bool.and_eq_true, decide_eq_true_eq] at hn ⊢
  have h1 : rate * (first + m) ≤ rate * (first + n) := Int.mul_le_mul_of_nonneg_left (by omega) hr
  have := aftN_anti h1 hn.1
  omega
/-- The greatest number of minutes, up to 600, or -1. -/
def timeF (v b rate first bar : Int) : Int := (lead (okAt v b rate first bar) 601 : Nat) - 1
theorem timeF_bd (v b rate first bar : Int) : -1 ≤ timeF v b rate first bar ∧ timeF v b rate first bar ≤ 600 := by
  unfold timeF
  have := (lead_spec (okAt v b rate first bar) 601).1
  omega
theorem timeF_of {v b rate first bar : Int} {k : Nat} (hk : k ≤ 601) (h : ∀ j, j < k → okAt v b rate first bar j = true) (he : k = 601 ∨ okAt v b rate first bar k = false) : timeF v b rate first bar = (k : Int) - 1 := by
  unfold timeF
  rw [lead_eq hk h he]

/-- A rate between two checks, rounded up. -/
def upF (a b : Int) : Int := (a + b - 1) / b
theorem upF_bd {a d : Int} (ha : 0 ≤ a) (ha' : a ≤ 95100) (hd : 1 ≤ d) : 0 ≤ upF a d ∧ upF a d ≤ 95100 := by
  unfold upF
  refine ⟨Int.ediv_nonneg (by omega) (by omega), ?_⟩
  have h1 : (a + d - 1) / d < 95101 := by
    rw [Int.ediv_lt_iff_lt_mul (by omega)]
    have h2 : 95101 * 1 ≤ 95101 * d := Int.mul_le_mul_of_nonneg_left hd (by omega)
    have h3 : 95101 * d = 95100 * d + d := by omega
    have h4 : 95100 * 1 ≤ 95100 * d := Int.mul_le_mul_of_nonneg_left hd (by omega)
    omega
  omega

end Go.Proofs.YtpckhpkbdanjoaaDoor

/-
  Plain laws on lists given by an index: the first that is so, how many are so. No program in sight.-/
namespace Go.Proofs.YtpckhpkbdanjoaaDoor
set_option linter.unusedVariables false
set_option linter.unusedSimpArgs false

/-- The first of n that is so, or -1. -/
def fstI (p : Nat → Bool) (n : Nat) : Int := if lead (fun i => !p i) n < n then (lead (fun i => !p i) n : Nat) else -1
theorem fstI_at {p : Nat → Bool} {n k : Nat} (hk : k < n) (hj : ∀ j, j < k → p j = false) (h : p k = true) : fstI p n = k := by
  have := lead_eq (g := fun i => !p i) (N := n) (k := k) (by omega) (fun j hj' => by simp [hj j hj']) (.inr (by simp [h]))
  rw [fstI, this, if_pos hk]
theorem fstI_none {p : Nat → Bool} {n : Nat} (hj : ∀ j, j < n → p j = false) : fstI p n = -1 := by
  have := lead_eq (g := fun i => !p i) (N := n) (k := n) (by omega) (fun j hj' => by simp [hj j hj']) (.inl rfl)
  rw [fstI, this, if_neg (by omega)]
theorem fstI_neg {p : Nat → Bool} {n : Nat} : decide (0 ≤ fstI p n) = !allB (fun i => !p i) n := by
  obtain ⟨h1, h2, h3⟩ := lead_spec (fun i => !p i) n
  unfold fstI
  split
  · rename_i h
    have h4 : (fun i => !p i) (lead (fun i => !p i) n) = false := by
      rcases h3 with h3 | h3
      · omega
      · exact h3
    rw [allB_false h h4]
    simp
  · rename_i h
    rw [allB_iff.2 fun i hi => h2 i (by omega)]
    simp

theorem fstI_bd (p : Nat → Bool) (n : Nat) : -1 ≤ fstI p n ∧ fstI p n < n ∨ n = 0 ∧ fstI p n = -1 := by
  unfold fstI
  split <;> omega
/-- Either none is so, or the first is known. -/
theorem fstI_cases (p : Nat → Bool) (n : Nat) : (fstI p n = -1 ∧ ∀ j, j < n → p j = false) ∨ ∃ k, k < n ∧ fstI p n = k ∧ p k = true ∧ ∀ j, j < k → p j = false := by
  obtain ⟨h1, h2, h3⟩ := lead_spec (fun i => !p i) n
  unfold fstI
  split
  · rename_i h
    right
    refine ⟨_, h, rfl, ?_, fun j hj => by simpa using h2 j hj⟩
    rcases h3 with h3 | h3
    · omega
    · simpa using h3
  · rename_i h
    left
    exact ⟨rfl, fun j hj => by simpa using h2 j (by omega)⟩
def cntF (p : Nat → Bool) : Nat → Nat
  | 0 => 0
  | n + 1 => cntF p n + if p n = true then 1 else 0
theorem cntF_le (p : Nat → Bool) (n : Nat) : cntF p n ≤ n := by
  induction n with
  | zero => simp [cntF]
  | succ n ih => unfold cntF; split <;> omega
theorem cntF_mono (p : Nat → Bool) {m n : Nat} (h : m ≤ n) : cntF p m ≤ cntF p n := by
  induction n with
  | zero => have : m = 0 := by omega
            subst this; exact Nat.le_refl _
  | succ n ih =>
    rcases Nat.lt_or_ge m (n + 1) with h1 | h1
    · have h2 := ih (by omega)
      have h3 : cntF p (n + 1) = cntF p n + if p n = true then 1 else 0 := rfl
      omega
    · have : m = n + 1 := by omega
      subst this; exact Nat.le_refl _

end Go.Proofs.YtpckhpkbdanjoaaDoor

/-
  Walks: the smallest functions: bounds, the lesser, the greater, a quotient rounded up.-/
namespace Go.Proofs.YtpckhpkbdanjoaaDoor
set_option linter.unusedVariables false
set_option linter.unusedSimpArgs false
open Go.RowKit

set_option maxHeartbeats 400000 in
theorem inside_any (n a b : Int) (w : World) :
    Calls Tryd.prog 68 #[.int .i64 n, .int .i64 a, .int .i64 b] w fun e w' => e = .returned (.bool (inB n a b)) ∧ w = w' := by
  go_enter Tryd.func68, Tryd.ntmps68
  go_wp2
  all_goals (go_ret; rename_i h)
  · exact ⟨ret_bool (by simp [inB, h]), rfl⟩
  · exact ⟨ret_bool (by simp [inB]; omega), rfl⟩
set_option maxHeartbeats 400000 in
theorem l1In_any (n a b : Int) (w : World) :
    Calls Tryd.prog 66 #[.int .i64 n, .int .i64 a, .int .i64 b] w fun e w' => e = .returned (.bool (inB n a b)) ∧ w = w' := by
  go_enter Tryd.func66, Tryd.ntmps66
  go_wp2
  all_goals (go_ret; rename_i h)
  · exact ⟨ret_bool (by simp [inB, h]), rfl⟩
  · exact ⟨ret_bool (by simp [inB]; omega), rfl⟩

end Go.Proofs.YtpckhpkbdanjoaaDoor

/-
  Walks: names.-/
namespace Go.Proofs.YtpckhpkbdanjoaaDoor
set_option linter.unusedVariables false
set_option linter.unusedSimpArgs false
open Go.RowKit

def byteAt (s : ByteArray) (i : Nat) : Int := if h : i < s.size then (s[i].toNat : Int) else 0
def lowB (c : Int) : Bool := decide (97 ≤ c) && decide (c ≤ 122)
def digB (c : Int) : Bool := decide (48 ≤ c) && decide (c ≤ 57)
def nm1 (s : ByteArray) (i : Nat) : Bool := lowB (byteAt s i) || (digB (byteAt s i) && !decide (i = 0))
def nameB (s : ByteArray) : Bool := allB (nm1 s) s.size && inB s.size 1 6
theorem byteAt_eq {s : ByteArray} {i : Nat} (h : i < s.size) : (s[i].toNat : Int) = byteAt s i := by simp [byteAt, h]
theorem nameB_no {s : ByteArray} {k : Nat} (hk : k < s.size) (h : nm1 s k = false) : nameB s = false := by rw [nameB, allB_false hk h]; rfl

/-- Where a byte lies among digits and letters. -/
theorem byte_cases (c : Int) : (c < 48) ∨ (48 ≤ c ∧ c ≤ 57) ∨ (57 < c ∧ c < 97) ∨ (97 ≤ c ∧ c ≤ 122) ∨ 122 < c := by omega
theorem nm1_no1 {s : ByteArray} {i : Nat} (h : byteAt s i < 48) : nm1 s i = false := by simp [nm1, lowB, digB]; omega
theorem nm1_no2 {s : ByteArray} {i : Nat} (h : 57 < byteAt s i) (h' : byteAt s i < 97) : nm1 s i = false := by simp [nm1, lowB, digB]; omega
theorem nm1_no3 {s : ByteArray} {i : Nat} (h : 122 < byteAt s i) : nm1 s i = false := by simp [nm1, lowB, digB]; omega
theorem nm1_low {s : ByteArray} {i : Nat} (h : 97 ≤ byteAt s i) (h' : byteAt s i ≤ 122) : nm1 s i = true := by simp [nm1, lowB, digB]; omega
theorem nm1_dig {s : ByteArray} {i : Nat} (h : 48 ≤ byteAt s i) (h' : byteAt s i ≤ 57) (h0 : 0 < i) : nm1 s i = true := by simp [nm1, lowB, digB]; omega
theorem nm1_dig0 {s : ByteArray} {i : Nat} (h : 48 ≤ byteAt s i) (h' : byteAt s i ≤ 57) (h0 : i = 0) : nm1 s i = false := by subst h0; simp [nm1, lowB, digB]; omega


end Go.Proofs.YtpckhpkbdanjoaaDoor

/-
  Plain words for floors: rows of open cells and walls; cells, steps. No program in sight.-/
namespace Go.Proofs.YtpckhpkbdanjoaaDoor
set_option linter.unusedVariables false
set_option linter.unusedSimpArgs false

/-- How great the argument is. -/
def ffits (F : Nat → ByteArray) (n : Nat) : Prop := n ≤ 1048576 ∧ ∀ i, i < n → (F i).size ≤ maxLen
/-- An open cell or a wall. -/
def cel (s : ByteArray) (i : Nat) : Bool := decide (byteAt s i = 46) || decide (byteAt s i = 35)
def rowB (F : Nat → ByteArray) (r : Nat) : Bool := decide ((F r).size = (F 0).size) && allB (cel (F r)) (F r).size
def flB (F : Nat → ByteArray) (n : Nat) : Bool := inB n 1 12 && inB (F 0).size 1 12 && allB (rowB F) n
/-- A cell of the floor that is open. -/
def opB (F : Nat → ByteArray) (n : Nat) (r c : Int) : Bool := inB r 0 ((n : Int) - 1) && inB c 0 (((F 0).size : Int) - 1) && decide (byteAt (F r.toNat) c.toNat = 46)
theorem cel_no {s : ByteArray} {i : Nat} (h : byteAt s i ≠ 46) (h' : byteAt s i ≠ 35) : cel s i = false := by simp [cel, h, h']
theorem cel_iff {s : ByteArray} {i : Nat} : cel s i = true ↔ byteAt s i = 46 ∨ byteAt s i = 35 := by simp [cel]
theorem flB_no {F : Nat → ByteArray} {n k : Nat} (hk : k < n) (h : rowB F k = false) : flB F n = false := by rw [flB, allB_false hk h]; simp
theorem flB_facts {F : Nat → ByteArray} {n : Nat} (h : flB F n = true) : 1 ≤ n ∧ n ≤ 12 ∧ 1 ≤ (F 0).size ∧ (F 0).size ≤ 12 ∧ (∀ i, i < n → (F i).size = (F 0).size) ∧ ∀ i j, i < n → j < (F 0).size → byteAt (F i) j = 46 ∨ byteAt (F i) j = 35 := by
  simp only [flB, Bool.and_eq_true, inB_iff, allB_iff] at h
  obtain ⟨⟨h1, h2⟩, h3⟩ := h
  have h4 : ∀ i, i < n → (F i).size = (F 0).size ∧ ∀ j, j < (F i).size → cel (F i) j = true := fun i hi => by
    have := h3 i hi
    simpa only [rowB, Bool.and_eq_true, decide_eq_true_eq, allB_iff] using this
  exact ⟨by omega, by omega, by omega, by omega, fun i hi => (h4 i hi).1, fun i j hi hj => cel_iff.1 ((h4 i hi).2 j (by rw [(h4 i hi).1]; exact hj))⟩
theorem opB_iff {F : Nat → ByteArray} {n : Nat} {r c : Int} : opB F n r c = true ↔ (0 ≤ r ∧ r < n) ∧ (0 ≤ c ∧ c < (F 0).size) ∧ byteAt (F r.toNat) c.toNat = 46 := by
  simp only [opB, Bool.and_eq_true, inB_iff, decide_eq_true_eq, and_assoc]
  constructor
  · rintro ⟨h1, h2, h3, h4, h5⟩; exact ⟨h1, by omega, h3, by omega, h5⟩
  · rintro ⟨h1, h2, h3, h4, h5⟩; exact ⟨h1, by omega, h3, by omega, h5⟩
theorem opB_nat {F : Nat → ByteArray} {n : Nat} {r c : Int} (h : opB F n r c = true) : ∃ i j : Nat, r = i ∧ c = j ∧ i < n ∧ j < (F 0).size ∧ byteAt (F i) j = 46 := by
  obtain ⟨h1, h2, h3⟩ := opB_iff.1 h
  exact ⟨r.toNat, c.toNat, by omega, by omega, by omega, by omega, h3⟩
/-- A step in a direction: 0 up, 1 right, 2 down, 3 left. -/
def dR (d : Nat) : Int := if d = 0 then -1 else if d = 2 then 1 else 0
def dC (d : Nat) : Int := if d = 1 then 1 else if d = 3 then -1 else 0
def stp (p : Int × Int) (d : Nat) : Int × Int := (p.1 + dR d, p.2 + dC d)
def opP (F : Nat → ByteArray) (n : Nat) (p : Int × Int) : Bool := opB F n p.1 p.2
/-- The number of a cell in order. -/
def ixF (F : Nat → ByteArray) (p : Int × Int) : Nat := (p.1 * ((F 0).size : Int) + p.2).toNat
theorem opP_bd {F : Nat → ByteArray} {n : Nat} {p : Int × Int} (h : opP F n p = true) : 0 ≤ p.1 ∧ p.1 < n ∧ 0 ≤ p.2 ∧ p.2 < (F 0).size := by
  obtain ⟨h1, h2, _⟩ := opB_iff.1 h
  exact ⟨h1.1, h1.2, h2.1, h2.2⟩
theorem dR_bd (d : Nat) : -1 ≤ dR d ∧ dR d ≤ 1 := by unfold dR; split <;> (try split) <;> omega
theorem dC_bd (d : Nat) : -1 ≤ dC d ∧ dC d ≤ 1 := by unfold dC; split <;> (try split) <;> omega
theorem ix_lt' {W n : Nat} {r c : Int} (h1 : 0 ≤ r) (h2 : r < n) (h3 : 0 ≤ c) (h4 : c < W) : 0 ≤ r * W + c ∧ r * W + c < ((n * W : Nat) : Int) := by
  have a1 : 0 ≤ r * (W : Int) := Int.mul_nonneg h1 (by omega)
  have a2 : (r + 1) * (W : Int) ≤ (n : Int) * W := Int.mul_le_mul_of_nonneg_right (by omega) (by omega)
  rw [Int.add_mul, Int.one_mul] at a2
  rw [Int.natCast_mul]
  omega
theorem ix_lt {F : Nat → ByteArray} {n : Nat} {p : Int × Int} (h : opP F n p = true) : ixF F p < n * (F 0).size := by
  obtain ⟨h1, h2, h3, h4⟩ := opP_bd h
  have := ix_lt' h1 h2 h3 h4
  unfold ixF
  omega
theorem ix_cast {F : Nat → ByteArray} {n : Nat} {p : Int × Int} (h : opP F n p = true) : p.1 * ((F 0).size : Int) + p.2 = (ixF F p : Int) := by
  obtain ⟨h1, h2, h3, h4⟩ := opP_bd h
  have := ix_lt' h1 h2 h3 h4
  unfold ixF
  omega
/-- Numbers tell cells. -/
theorem ix_inj' {W : Int} {r c r' c' : Int} (h3 : 0 ≤ c) (h4 : c < W) (h3' : 0 ≤ c') (h4' : c' < W) (e : r * W + c = r' * W + c') : r = r' ∧ c = c' := by
  have hr : r = r' := by
    rcases Int.lt_trichotomy r r' with h | h | h
    · have := Int.mul_le_mul_of_nonneg_right (show r + 1 ≤ r' by omega) (show 0 ≤ W by omega)
      rw [Int.add_mul, Int.one_mul] at this
      omega
    · exact h
    · have := Int.mul_le_mul_of_nonneg_right (show r' + 1 ≤ r by omega) (show 0 ≤ W by omega)
      rw [Int.add_mul, Int.one_mul] at this
      omega
  subst hr
  exact ⟨rfl, by omega⟩
theorem ix_inj {F : Nat → ByteArray} {n : Nat} {p p' : Int × Int} (h : opP F n p = true) (h' : opP F n p' = true) (e : ixF F p = ixF F p') : p = p' := by
  have e1 := ix_cast h
  have e2 := ix_cast h'
  obtain ⟨a1, a2, a3, a4⟩ := opP_bd h
  obtain ⟨b1, b2, b3, b4⟩ := opP_bd h'
  have := ix_inj' (W := (F 0).size) a3 a4 b3 b4 (by rw [e1, e2, e])
  exact Prod.ext this.1 this.2

end Go.Proofs.YtpckhpkbdanjoaaDoor

/-
  The library's Trim at a cutset of ASCII bytes, by the kit's contract; what is left of a row of open cells and walls.-/
namespace Go.Proofs
open Go.RowKit Go.Shelf
shelf_lay Lays.n160 Nm 160 at Tryd as YtpckhpkbdanjoaaDoor.laysTrim
end Go.Proofs
namespace Go.Proofs.YtpckhpkbdanjoaaDoor
set_option linter.unusedVariables false
set_option linter.unusedSimpArgs false
open Go.RowKit Go.Shelf Go.Lib

theorem dw_nil {α : Type} (p : α → Bool) : ∀ l : List α, l.dropWhile p = [] ↔ ∀ b ∈ l, p b = true
  | [] => by simp
  | a :: l => by
    have ih := dw_nil p l
    rw [List.dropWhile_cons]
    cases h : p a with
    | true => simp only [if_true, ih, List.mem_cons, forall_eq_or_imp, h, true_and]
    | false => simp [h]
theorem dw_head {α : Type} (p : α → Bool) : ∀ (l : List α) {x : α} {r : List α}, l.dropWhile p = x :: r → p x = false
  | [], _, _, h => by simp at h
  | a :: l, x, r, h => by
    rw [List.dropWhile_cons] at h
    cases e : p a with
    | true => rw [e] at h; exact dw_head p l h
    | false =>
      rw [e] at h
      simp at h
      rw [← h.1]
      exact e
theorem trimS_nil (l cs : List UInt8) : (Lib.trimS l cs).isEmpty = l.all (cs.contains ·) := by
  have key : Lib.trimS l cs = [] ↔ ∀ b ∈ l, cs.contains b = true := by
    unfold Lib.trimS Lib.trimLeftS Lib.trimRightS
    constructor
    · intro h
      have h1 : ∀ b ∈ l.reverse.dropWhile (cs.contains ·), cs.contains b = true := fun b hb => by
        have := (dw_nil _ _).1 h b (List.mem_reverse.2 hb)
        exact this
      have h2 : l.reverse.dropWhile (cs.contains ·) = [] := by
        cases e : l.reverse.dropWhile (cs.contains ·) with
        | nil => rfl
        | cons x r =>
          have h3 := h1 x (by rw [e]; exact List.mem_cons_self)
          have h4 := dw_head _ _ e
          rw [h3] at h4
          cases h4
      intro b hb
      exact (dw_nil _ _).1 h2 b (List.mem_reverse.2 hb)
    · intro h
      have h2 : l.reverse.dropWhile (cs.contains ·) = [] := (dw_nil _ _).2 fun b hb => h b (List.mem_reverse.1 hb)
      rw [h2]
      rfl
  rw [Bool.eq_iff_iff, List.isEmpty_iff, key, List.all_eq_true]
theorem cel_all (s : ByteArray) : s.data.toList.all (fun b => [46, 35].contains b) = allB (cel s) s.size := by
  rw [Bool.eq_iff_iff, List.all_eq_true, allB_iff]
  have hg : ∀ i (h : i < s.size), s.data.toList[i]? = some s[i] := fun i h => by
    rw [List.getElem?_eq_getElem (by simpa using h)]; rfl
  have h1 : ∀ b : UInt8, [46, 35].contains b = true ↔ (b.toNat : Int) = 46 ∨ (b.toNat : Int) = 35 := fun b => by
    simp only [List.contains_cons, List.contains_nil, Bool.or_false, Bool.or_eq_true, beq_iff_eq]
    rw [← UInt8.toNat_inj, ← UInt8.toNat_inj]
    show b.toNat = 46 ∨ b.toNat = 35 ↔ _
    omega
  constructor
  · intro h i hi
    have h2 := h _ (List.mem_of_getElem? (hg i hi))
    rw [cel_iff, ← byteAt_eq hi]
    exact (h1 _).1 h2
  · intro h b hb
    obtain ⟨i, hi, rfl⟩ := List.mem_iff_getElem.1 hb
    have hi' : i < s.size := by simpa using hi
    have h2 := h i hi'
    rw [cel_iff, ← byteAt_eq hi'] at h2
    exact (h1 _).2 h2
theorem Trim_any (s : ByteArray) (w : World) (hs : s.size ≤ maxLen) :
    Calls Tryd.prog 92 #[.string s, .string ⟨#[46, 35]⟩] w fun e w' => (∃ t : ByteArray, e = .returned (.string t) ∧ t.toList.isEmpty = allB (cel s) s.size) ∧ Below w.heap.size w w' := by
  have hcon := Any.strings_Trim_laid YtpckhpkbdanjoaaDoor.laysTrim (by kernel_rfl) s ⟨#[46, 35]⟩ w hs (by decide) (ascii_of_all (by decide))
  change Calls Tryd.prog 92 _ _ (fun e w' => e = .returned (.string ⟨(Lib.trimS s.data.toList [46, 35]).toArray⟩) ∧ Below w.heap.size w w') at hcon
  refine hcon.mono fun e w' ⟨he, hb⟩ => ⟨⟨_, he, ?_⟩, hb⟩
  rw [← cel_all, ← trimS_nil, ByteArray.toList_eq]

end Go.Proofs.YtpckhpkbdanjoaaDoor
