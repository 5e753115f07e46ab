/-
  Texts of this proof, one behind the other (part 5).
-/
import Derived.Test.YtpckhpkbdanjoaaDoorQ4
import Derived.Deep.Onto
import Derived.Deep.LoopGhost
import Derived.Deep.DeepAppendRoom
import Derived.Lib.SliceRun
import Derived.Deep.RegionLaw
import Derived.Lib.AppendZeros
import Derived.Lib.AppendZerosOnto
import Derived.Lib.Overlaps
import Derived.Laws.Externs
import Derived.Laws.NewBlocks
import Derived.Ground.NamesProg
import Derived.Shelf.Lay
import Derived.Shelf.Bits.Mul64
/-
  Walks: the reference puts a number into an increasing list.-/
namespace Go.Proofs.YtpckhpkbdanjoaaDoor
set_option linter.unusedVariables false
set_option linter.unusedSimpArgs false
open Go.RowKit

theorem infoIntP : (Tryd.prog.info? 3).map (fun i => (i.zero, i.size, i.bytes)) = some (some (.int .i64 0), 1, 8) := by kernel_rfl
/-- A row of the call's own that holds the places that pass a test. -/
def PRowI (w : World) (base : Nat) (v : Value) (P : Nat → Bool) (N : Nat) : Prop := w.ownsRow base 3 1 v (flt P N).length (fltV P N)
theorem fltV_or {p : Nat → Bool} {x n : Nat} (h : p x = false) (hx : x < n) : fltV (orP p x) n = fltV p x ++ [.int .i64 (x : Nat)] ++ (fltR p x n).map (fun (i : Nat) => Value.int .i64 (i : Int)) ∧ (flt (orP p x) n).length = (flt p x).length + 1 + (fltR p x n).length := by
  rw [fltV, flt_or h hx]
  constructor
  · simp [fltV]
  · simp; omega
theorem fltV_cell {P : Nat → Bool} {N j y : Nat} (h : (flt P N)[j]? = some y) : (fltV P N)[j]? = some (.int .i64 (y : Int)) := by
  rw [fltV, List.getElem?_map, h]
  rfl
theorem fltV_split (p : Nat → Bool) {x n : Nat} (h : x ≤ n) : fltV p n = fltV p x ++ (fltR p x n).map (fun (i : Nat) => Value.int .i64 (i : Int)) ∧ (flt p n).length = (flt p x).length + (fltR p x n).length := by
  rw [fltV, flt_split p x n h]
  exact ⟨by simp [fltV], by simp⟩
set_option maxRecDepth 100000 in
set_option maxHeartbeats 3200000 in
theorem l1Put_some (P : Nat → Bool) (N x base n g cap : Nat) (w : World) (hn : (flt P N).length = n) (hv : PRowI w base (.slice (some ⟨g, 0, none⟩) n cap) P N) (hx : x < N) (hN : N ≤ 1000) (hb0 : base ≤ w.heap.size) :
    Calls Tryd.prog 90 #[.slice (some ⟨g, 0, none⟩) n cap, .int .i64 x] w fun e w' => ∃ v', e = .returned v' ∧ PRowI w' base v' (orP P x) N ∧ Below w.heap.size w w' := by
  obtain ⟨ii, hii, iz0, iz1, iz2⟩ := info_parts infoIntP
  obtain ⟨K, hK⟩ : ∃ K, (flt P x).length = K := ⟨_, rfl⟩
  have hKn : K ≤ n := by rw [← hK, ← hn, flt_split P x N (by omega)]; simp
  have hn1000 : n ≤ 1000 := by have := flt_len P N; omega
  have hnc : n ≤ cap ∧ cap ≤ maxLen := by
    rcases hv.2 with ⟨h0, _⟩ | ⟨g', cap', cur, h0, _, _, h1, h2, _⟩
    · cases h0
    · cases h0; exact ⟨by rw [← hn]; exact h1, h2⟩
  obtain ⟨hcap, hcm⟩ := hnc
  unfold maxLen at hcm
  have hgl : g < w.heap.size := (hv.lt g rfl).2
  have HC : Hid (∀ (j : Nat) u, (fltV P N)[j]? = some u → w.cell? ⟨g, j, none⟩ = some u) := fun j u hu => by
    have := hv.cells rfl j u hu
    rwa [Addr.add_lit, Nat.zero_add] at this
  have HLo : Hid (∀ j, j < K → ∃ y : Nat, w.cell? ⟨g, j, none⟩ = some (.int .i64 y) ∧ y < x) := fun j hj => by
    obtain ⟨y, h1, h2⟩ := flt_below (p := P) (x := x) (n := N) (j := j) (by omega) (by omega)
    exact ⟨y, HC.out j _ (fltV_cell h1), h2⟩
  have HUp : Hid (K < n → ∃ y : Nat, w.cell? ⟨g, K, none⟩ = some (.int .i64 y) ∧ x ≤ y ∧ (y = x ↔ P x = true)) := fun h => by
    have h1 : K < (flt P N).length := by omega
    have h2 := List.getElem?_eq_getElem h1
    refine ⟨(flt P N)[K], HC.out K _ (fltV_cell h2), flt_above (x := x) (by omega) (by omega) h2, ?_⟩
    have h3 := flt_head (p := P) (x := x) (n := N) hx
    rw [hK, h2] at h3
    simpa using h3
  have HEnd : Hid (K = n → P x = false) := fun h => by
    cases hp : P x with
    | false => rfl
    | true =>
      have h3 := (flt_head (p := P) (x := x) (n := N) hx).2 hp
      rw [hK, List.getElem?_eq_none (by omega)] at h3
      cases h3
  have HN := hide hn
  have HV := hide hv
  have HK := hide hK
  clear hv hn hK
  go_enter Tryd.func90, Tryd.ntmps90
  go_wp2_with fail
  go_loopg [5] (K + 1) (fun gn i wr => ∃ k : Nat, k ≤ K ∧ K - k < gn ∧ i = .int .i64 k ∧ Below w.heap.size w wr)
  case atStart => exact ⟨0, by omega, by omega, rfl, Below.refl _ _⟩
  case round =>
    obtain ⟨k, hk, hgn, rfl, hb⟩ := hrel
    have hzr := hb.size
    have l0 : g < wr.heap.size := by omega
    by_cases hkK : k < K
    · obtain ⟨y, hy, hyx⟩ := HLo.out k hkK
      have c0 : wr.cell? ⟨g, k, none⟩ = some (.int .i64 (y : Nat)) := (hb.cell (p := ⟨g, k, none⟩) hgl).trans hy
      have d1 : decide ((k : Int) < (n : Int)) = true := decide_eq_true (by omega)
      have d1' : decide (k < n) = true := decide_eq_true (by omega)
      have d2 : decide ((y : Int) < (x : Int)) = true := decide_eq_true (by omega)
      have d2' : decide (y < x) = true := decide_eq_true (by omega)
      clear hy
      go_wp2_with fail
      go_roundg (K - k)
      case measure => omega
      case rel => exact ⟨k + 1, by omega, by omega, by go_num, hb⟩
    · obtain rfl : k = K := by omega
      cases hp : P x with
      | true =>
        have hkn : k < n := by
          rcases Nat.lt_or_ge k n with h | h
          · exact h
          · have := HEnd.out (by omega)
            rw [hp] at this
            cases this
        obtain ⟨y, hy, _, hyx⟩ := HUp.out hkn
        have e := hyx.2 hp
        rw [e] at hy
        have c0 : wr.cell? ⟨g, k, none⟩ = some (.int .i64 (x : Nat)) := (hb.cell (p := ⟨g, k, none⟩) hgl).trans hy
        have d1 : decide ((k : Int) < (n : Int)) = true := decide_eq_true (by omega)
        have d1' : decide (k < n) = true := decide_eq_true hkn
        have HE : Hid (PRowI wr base (.slice (some ⟨g, 0, none⟩) n cap) (orP P x) N) := by
          show PRowI _ _ _ _ _
          rw [PRowI, fltV, orP_same hp]
          exact row_below HV.out hb (Nat.le_refl _)
        clear hy hyx e
        go_wp2_with fail
        go_ret
        exact ⟨_, rfl, HE.out, hb⟩
      | false =>
        have HO := hide (fltV_or hp hx)
        have hrs := (fltV_split P (Nat.le_of_lt hx)).2
        by_cases hkn : k < n
        · obtain ⟨y, hy, hy1, hy2⟩ := HUp.out hkn
          have hyx : x < y := by
            rcases Nat.lt_or_ge x y with h | h
            · exact h
            · have := hy2.1 (by omega)
              rw [hp] at this
              cases this
          have c0 : wr.cell? ⟨g, k, none⟩ = some (.int .i64 (y : Nat)) := (hb.cell (p := ⟨g, k, none⟩) hgl).trans hy
          have d1 : decide ((k : Int) < (n : Int)) = true := decide_eq_true (by omega)
          have d1' : decide (k < n) = true := decide_eq_true hkn
          have d2 : decide ((y : Int) < (x : Int)) = false := decide_eq_false (by omega)
          have d2' : decide (y < x) = false := decide_eq_false (by omega)
          have d3 : ((y : Int) == (x : Int)) = false := by simp; omega
          have d3' : (y == x) = false := by simp; omega
          have hck : ¬ cap = k := by omega
          clear hy hy1 hy2
          have r1 : (wr.alloc (.cells #[] 3)).ownsRow wr.heap.size 3 1 (.slice (some ⟨wr.heap.size, 0, none⟩) 0 0) 0 [] := by simpa using World.ownsRow_made wr (base := wr.heap.size) (e := 3) (size := 1) #[] 0 (by simp) (Nat.zero_le _) rfl
          go_wp2_with (at_builtin; refine wpList_append_own _ rfl _ _ 48 rfl wr.heap.size 3 ii (.int .i64 0) 1 8 Tryd.underlying48 hii iz0 iz1 iz2 rfl (by decide) _ 0 [] rfl r1 ⟨g, 0, none⟩ k cap (fltV P x) rfl ?_ ?_ ?_ ?_ ?_ ?_ ?_)
          · simp [fltV, HK.out]
          · intro j u hu
            rw [Addr.add_lit, Nat.zero_add]
            refine (World.cell?_alloc_lt _ _ _ l0).trans ((hb.cell (p := ⟨g, j, none⟩) hgl).trans (HC.out j u ?_))
            rw [(fltV_split P (Nat.le_of_lt hx)).1, List.getElem?_append_left]
            · exact hu
            · exact (List.getElem?_eq_some_iff.1 hu).1
          · intro u hu
            obtain ⟨i, _, rfl⟩ := List.mem_map.1 hu
            rfl
          · unfold maxLen; omega
          · omega
          · simp
          intro v2 w2 hown2 hg2 _
          have hb2 : Below wr.heap.size wr w2 := ((Below.refl wr.heap.size wr).alloc (Nat.le_refl _) _).grown hg2 (by simp) (fun q hq => (r1.lt q hq).1)
          have hz2 := hb2.size
          obtain ⟨B2, c2, rfl⟩ := row_form hown2
          go_wp2_with (at_builtin; refine wpList_append_own _ rfl _ _ 48 rfl wr.heap.size 3 ii (.int .i64 0) 1 8 Tryd.underlying48 hii iz0 iz1 iz2 rfl (by decide) _ k (fltV P x) rfl (hown2.alloc _) ⟨w2.heap.size, 0, none⟩ 1 1 [.int .i64 (x : Nat)] rfl rfl ?_ ?_ ?_ ?_ ?_ ?_)
          · intro i u hu
            match i, hu with
            | 0, hu => simp at hu; subst hu; simp [go_sem, Addr.add]
          · intro u hu; simp at hu; subst hu; rfl
          · unfold maxLen; omega
          · omega
          · simp; omega
          intro v3 w3 hown3 hg3 _
          have hb3 : Below wr.heap.size wr w3 := (hb2.alloc hz2 _).grown hg3 (by simp; omega) (fun q hq => (hown2.lt q hq).1)
          have hz3 := hb3.size
          obtain ⟨B3, c3, rfl⟩ := row_form hown3
          have hsl : ∀ W, (Instr.slice 48 (.slice (some ⟨g, 0, none⟩) n cap) (some (.int .i64 (k : Nat))) none none).run Tryd.prog W = .ok (.slice (some ⟨g, k, none⟩) (n - k) (cap - k)) W := fun W => by
            simp [go_sem, Tryd.underlying48, hck]
            omega
          go_wp2_with (at_builtin; refine wpList_append_own _ rfl _ _ 48 rfl wr.heap.size 3 ii (.int .i64 0) 1 8 Tryd.underlying48 hii iz0 iz1 iz2 rfl (by decide) _ _ _ rfl hown3 ⟨g, k, none⟩ _ _ ((fltR P x N).map (fun (i : Nat) => Value.int .i64 (i : Int))) rfl ?_ ?_ ?_ ?_ ?_ ?_ ?_)
          · simp
            have := HN.out
            have := HK.out
            omega
          · intro j u hu
            rw [Addr.add_lit]
            refine (hb3.cell (p := ⟨g, k + j, none⟩) l0).trans ((hb.cell (p := ⟨g, k + j, none⟩) hgl).trans (HC.out (k + j) u ?_))
            rw [(fltV_split P (Nat.le_of_lt hx)).1, List.getElem?_append_right (by simp [fltV, HK.out])]
            have e : (fltV P x).length = k := by simp [fltV, HK.out]
            rw [e, Nat.add_sub_cancel_left]
            exact hu
          · intro u hu
            obtain ⟨i, _, rfl⟩ := List.mem_map.1 hu
            rfl
          · unfold maxLen; omega
          · omega
          · omega
          intro v4 w4 hown4 hg4 _
          have hb4 : Below wr.heap.size wr w4 := hb3.grown hg4 hz3 (fun q hq => (hown3.lt q hq).1)
          have HF : Hid (PRowI w4 base v4 (orP P x) N) := by
            show PRowI _ _ _ _ _
            have e : (flt (orP P x) N).length = k + 1 + (n - k) := by
              rw [HO.out.2, HK.out]
              have := HN.out
              have := HK.out
              omega
            rw [PRowI, e, HO.out.1]
            have h5 := hown4.mono (show base ≤ wr.heap.size by omega)
            simpa using h5
          have hbw : Below w.heap.size w w4 := hb.trans (hb4.mono hzr)
          clear hown2 hown3 hown4 hg2 hg3 hg4
          go_wp2_with fail
          go_ret
          exact ⟨_, rfl, HF.out, hbw⟩
        · have HKN : Hid (n = k) := by show _ = _; omega
          have d1 : decide ((k : Int) < (n : Int)) = false := decide_eq_false (by omega)
          have d1' : decide (k < n) = false := decide_eq_false hkn
          have hkn2 : k ≤ n := hKn
          by_cases hck : cap = k
          · obtain rfl : k = cap := hck.symm
            clear hck
            have r1 : (wr.alloc (.cells #[] 3)).ownsRow wr.heap.size 3 1 (.slice (some ⟨wr.heap.size, 0, none⟩) 0 0) 0 [] := by simpa using World.ownsRow_made wr (base := wr.heap.size) (e := 3) (size := 1) #[] 0 (by simp) (Nat.zero_le _) rfl
            go_wp2_with (at_builtin; refine wpList_append_own _ rfl _ _ 48 rfl wr.heap.size 3 ii (.int .i64 0) 1 8 Tryd.underlying48 hii iz0 iz1 iz2 rfl (by decide) _ 0 [] rfl r1 ⟨g, 0, none⟩ k k (fltV P x) rfl ?_ ?_ ?_ ?_ ?_ ?_ ?_)
            · simp [fltV, HK.out]
            · intro j u hu
              rw [Addr.add_lit, Nat.zero_add]
              refine (World.cell?_alloc_lt _ _ _ l0).trans ((hb.cell (p := ⟨g, j, none⟩) hgl).trans (HC.out j u ?_))
              rw [(fltV_split P (Nat.le_of_lt hx)).1, List.getElem?_append_left]
              · exact hu
              · exact (List.getElem?_eq_some_iff.1 hu).1
            · intro u hu
              obtain ⟨i, _, rfl⟩ := List.mem_map.1 hu
              rfl
            · unfold maxLen; omega
            · omega
            · simp
            intro v2 w2 hown2 hg2 _
            have hb2 : Below wr.heap.size wr w2 := ((Below.refl wr.heap.size wr).alloc (Nat.le_refl _) _).grown hg2 (by simp) (fun q hq => (r1.lt q hq).1)
            have hz2 := hb2.size
            obtain ⟨B2, c2, rfl⟩ := row_form hown2
            go_wp2_with (at_builtin; refine wpList_append_own _ rfl _ _ 48 rfl wr.heap.size 3 ii (.int .i64 0) 1 8 Tryd.underlying48 hii iz0 iz1 iz2 rfl (by decide) _ k (fltV P x) rfl (hown2.alloc _) ⟨w2.heap.size, 0, none⟩ 1 1 [.int .i64 (x : Nat)] rfl rfl ?_ ?_ ?_ ?_ ?_ ?_)
            · intro i u hu
              match i, hu with
              | 0, hu => simp at hu; subst hu; simp [go_sem, Addr.add]
            · intro u hu; simp at hu; subst hu; rfl
            · unfold maxLen; omega
            · omega
            · simp; omega
            intro v3 w3 hown3 hg3 _
            have hb3 : Below wr.heap.size wr w3 := (hb2.alloc hz2 _).grown hg3 (by simp; omega) (fun q hq => (hown2.lt q hq).1)
            have hz3 := hb3.size
            obtain ⟨B3, c3, rfl⟩ := row_form hown3
            have hsl : ∀ W, (Instr.slice 48 (.slice (some ⟨g, 0, none⟩) n k) (some (.int .i64 (k : Nat))) none none).run Tryd.prog W = .ok (.slice (some ⟨g, 0, none⟩) (n - k) 0) W := fun W => by
              simp [go_sem, Tryd.underlying48]
              omega
            go_wp2_with (at_builtin; refine wpList_append_own _ rfl _ _ 48 rfl wr.heap.size 3 ii (.int .i64 0) 1 8 Tryd.underlying48 hii iz0 iz1 iz2 rfl (by decide) _ _ _ rfl hown3 ⟨g, 0, none⟩ _ _ ((fltR P x N).map (fun (i : Nat) => Value.int .i64 (i : Int))) rfl ?_ ?_ ?_ ?_ ?_ ?_ ?_)
            · have := HN.out
              have := HK.out
              have := HKN.out
              have e : (fltR P x N).length = 0 := by omega
              simp [List.eq_nil_of_length_eq_zero e]
            · intro j u hu
              have h0 := (List.getElem?_eq_some_iff.1 hu).1
              simp at h0
              have := HN.out
              have := HK.out
              have := HKN.out
              omega
            · intro u hu
              obtain ⟨i, _, rfl⟩ := List.mem_map.1 hu
              rfl
            · unfold maxLen; omega
            · omega
            · omega
            intro v4 w4 hown4 hg4 _
            have hb4 : Below wr.heap.size wr w4 := hb3.grown hg4 hz3 (fun q hq => (hown3.lt q hq).1)
            have HF : Hid (PRowI w4 base v4 (orP P x) N) := by
              show PRowI _ _ _ _ _
              have e : (flt (orP P x) N).length = k + 1 + (n - k) := by
                rw [HO.out.2, HK.out]
                have := HN.out
                have := HK.out
                omega
              rw [PRowI, e, HO.out.1]
              have h5 := hown4.mono (show base ≤ wr.heap.size by omega)
              rw [show k + 1 + (n - k) = k + 1 by have := HKN.out; omega]
              simpa using h5
            have hbw : Below w.heap.size w w4 := hb.trans (hb4.mono hzr)
            clear hown2 hown3 hown4 hg2 hg3 hg4
            go_wp2_with fail
            go_ret
            exact ⟨_, rfl, HF.out, hbw⟩
          · skip
            have r1 : (wr.alloc (.cells #[] 3)).ownsRow wr.heap.size 3 1 (.slice (some ⟨wr.heap.size, 0, none⟩) 0 0) 0 [] := by simpa using World.ownsRow_made wr (base := wr.heap.size) (e := 3) (size := 1) #[] 0 (by simp) (Nat.zero_le _) rfl
            go_wp2_with (at_builtin; refine wpList_append_own _ rfl _ _ 48 rfl wr.heap.size 3 ii (.int .i64 0) 1 8 Tryd.underlying48 hii iz0 iz1 iz2 rfl (by decide) _ 0 [] rfl r1 ⟨g, 0, none⟩ k cap (fltV P x) rfl ?_ ?_ ?_ ?_ ?_ ?_ ?_)
            · simp [fltV, HK.out]
            · intro j u hu
              rw [Addr.add_lit, Nat.zero_add]
              refine (World.cell?_alloc_lt _ _ _ l0).trans ((hb.cell (p := ⟨g, j, none⟩) hgl).trans (HC.out j u ?_))
              rw [(fltV_split P (Nat.le_of_lt hx)).1, List.getElem?_append_left]
              · exact hu
              · exact (List.getElem?_eq_some_iff.1 hu).1
            · intro u hu
              obtain ⟨i, _, rfl⟩ := List.mem_map.1 hu
              rfl
            · unfold maxLen; omega
            · omega
            · simp
            intro v2 w2 hown2 hg2 _
            have hb2 : Below wr.heap.size wr w2 := ((Below.refl wr.heap.size wr).alloc (Nat.le_refl _) _).grown hg2 (by simp) (fun q hq => (r1.lt q hq).1)
            have hz2 := hb2.size
            obtain ⟨B2, c2, rfl⟩ := row_form hown2
            go_wp2_with (at_builtin; refine wpList_append_own _ rfl _ _ 48 rfl wr.heap.size 3 ii (.int .i64 0) 1 8 Tryd.underlying48 hii iz0 iz1 iz2 rfl (by decide) _ k (fltV P x) rfl (hown2.alloc _) ⟨w2.heap.size, 0, none⟩ 1 1 [.int .i64 (x : Nat)] rfl rfl ?_ ?_ ?_ ?_ ?_ ?_)
            · intro i u hu
              match i, hu with
              | 0, hu => simp at hu; subst hu; simp [go_sem, Addr.add]
            · intro u hu; simp at hu; subst hu; rfl
            · unfold maxLen; omega
            · omega
            · simp; omega
            intro v3 w3 hown3 hg3 _
            have hb3 : Below wr.heap.size wr w3 := (hb2.alloc hz2 _).grown hg3 (by simp; omega) (fun q hq => (hown2.lt q hq).1)
            have hz3 := hb3.size
            obtain ⟨B3, c3, rfl⟩ := row_form hown3
            have hsl : ∀ W, (Instr.slice 48 (.slice (some ⟨g, 0, none⟩) n cap) (some (.int .i64 (k : Nat))) none none).run Tryd.prog W = .ok (.slice (some ⟨g, k, none⟩) (n - k) (cap - k)) W := fun W => by
              simp [go_sem, Tryd.underlying48, hck]
              omega
            go_wp2_with (at_builtin; refine wpList_append_own _ rfl _ _ 48 rfl wr.heap.size 3 ii (.int .i64 0) 1 8 Tryd.underlying48 hii iz0 iz1 iz2 rfl (by decide) _ _ _ rfl hown3 ⟨g, k, none⟩ _ _ ((fltR P x N).map (fun (i : Nat) => Value.int .i64 (i : Int))) rfl ?_ ?_ ?_ ?_ ?_ ?_ ?_)
            · simp
              have := HN.out
              have := HK.out
              omega
            · intro j u hu
              rw [Addr.add_lit]
              refine (hb3.cell (p := ⟨g, k + j, none⟩) l0).trans ((hb.cell (p := ⟨g, k + j, none⟩) hgl).trans (HC.out (k + j) u ?_))
              rw [(fltV_split P (Nat.le_of_lt hx)).1, List.getElem?_append_right (by simp [fltV, HK.out])]
              have e : (fltV P x).length = k := by simp [fltV, HK.out]
              rw [e, Nat.add_sub_cancel_left]
              exact hu
            · intro u hu
              obtain ⟨i, _, rfl⟩ := List.mem_map.1 hu
              rfl
            · unfold maxLen; omega
            · omega
            · omega
            intro v4 w4 hown4 hg4 _
            have hb4 : Below wr.heap.size wr w4 := hb3.grown hg4 hz3 (fun q hq => (hown3.lt q hq).1)
            have HF : Hid (PRowI w4 base v4 (orP P x) N) := by
              show PRowI _ _ _ _ _
              have e : (flt (orP P x) N).length = k + 1 + (n - k) := by
                rw [HO.out.2, HK.out]
                have := HN.out
                have := HK.out
                omega
              rw [PRowI, e, HO.out.1]
              have h5 := hown4.mono (show base ≤ wr.heap.size by omega)
              simpa using h5
            have hbw : Below w.heap.size w w4 := hb.trans (hb4.mono hzr)
            clear hown2 hown3 hown4 hg2 hg3 hg4
            go_wp2_with fail
            go_ret
            exact ⟨_, rfl, HF.out, hbw⟩

end Go.Proofs.YtpckhpkbdanjoaaDoor

/-
  An append of one row of the call's own onto another.-/
namespace Go.Proofs.YtpckhpkbdanjoaaDoor
set_option linter.unusedVariables false
set_option linter.unusedSimpArgs false
open Go.RowKit

theorem run_append_rows {P : Program} (w : World) (base base2 : Nat) (t ty e : TypeId) (i : TypeInfo) (z : Value) (size bytes : Nat) (ht : P.underlying t = some (.slice e)) (hi : P.info? e = some i) (hz : i.zero = some z)
    (hsize : i.size = size) (hby : i.bytes = bytes) (hzs : z.cells.size = size) (hsz : 0 < size)
    (v u : Value) (n m : Nat) (xs ys : List Value) (hown : w.ownsRow base e size v n xs) (hown2 : w.ownsRow base2 e size u m ys) (h1 : ∀ u ∈ ys, u.oneCell' = true)
    (h63 : n + m ≤ maxLen) (hbytes : (n + m) * bytes ≤ 140737488355328) (hbase : base ≤ w.heap.size) :
    ∃ v' w', (Builtin.append_ #[t, t] ty #[v, u]).run P w = .ok v' w' ∧ w'.ownsRow base e size v' (n + m) (xs ++ ys) ∧ w.grownBy w' v.ownBlock := by
  rcases hown2.2 with ⟨rfl, rfl⟩ | ⟨g, cap, cur, rfl, hbg, hg, hnc, hcm, hcs, htake⟩
  · have hy : ys = [] := List.eq_nil_of_length_eq_zero (by simpa using hown2.1)
    subst hy
    refine ⟨v, w, ?_, by simpa using hown, ⟨rfl, rfl, rfl, Nat.le_refl _, fun _ _ _ => rfl⟩⟩
    rcases hown.2 with ⟨rfl, rfl⟩ | ⟨g, cap, cur, rfl, hbg, hg, hnc, hcm, hcs, htake⟩
    · simp [Builtin.append_, run_underlying ht, sizeOf, typeInfo, hi, Builtin.lenOf, Builtin.firstCells, loadCells, loadCellsFrom]
    · simp [Builtin.append_, run_underlying ht, sizeOf, typeInfo, hi, Builtin.lenOf, Builtin.firstCells, loadCells, loadCellsFrom, storeCells, hnc]
  · obtain ⟨v', w', r1, r2, r3, _⟩ := run_append_own (P := P) w base t ty e i z size bytes ht hi hz hsize hby hzs hsz v n xs hown ⟨g, 0, none⟩ m cap ys hown2.1 (hown2.cells rfl) h1 h63 hbytes hbase
    exact ⟨v', w', r1, r2, r3⟩

end Go.Proofs.YtpckhpkbdanjoaaDoor

/-
  Walks: the reference puts a number into an increasing list, the list that is nil.-/
namespace Go.Proofs.YtpckhpkbdanjoaaDoor
set_option linter.unusedVariables false
set_option linter.unusedSimpArgs false
open Go.RowKit

theorem wpList_append_rows {P : Program} {ops : Array Oper} {rest : List Oper} {o : Oper} {a : Act} {w : World} {Q : Exit → Act → World → Prop} (hgd : o.guard = none) (s x : Operand) (t : TypeId)
    (ho : o.op = .call { callee := .builtin .append, args := #[s, x], argTypes := #[t, t] })
    (base base2 : Nat) (e : TypeId) (i : TypeInfo) (z : Value) (size bytes : Nat) (ht : P.underlying t = some (.slice e)) (hi : P.info? e = some i) (hz : i.zero = some z)
    (hsize : i.size = size) (hby : i.bytes = bytes) (hzs : z.cells.size = size) (hsz : 0 < size)
    (v u : Value) (n m : Nat) (xs ys : List Value) (hs : a.eval s = v) (hx : a.eval x = u) (hown : w.ownsRow base e size v n xs) (hown2 : w.ownsRow base2 e size u m ys) (h1 : ∀ u ∈ ys, u.oneCell' = true)
    (h63 : n + m ≤ maxLen) (hbytes : (n + m) * bytes ≤ 140737488355328) (hbase : base ≤ w.heap.size)
    (h : ∀ v' w', w'.ownsRow base e size v' (n + m) (xs ++ ys) → w.grownBy w' v.ownBlock → wpList P ops Q rest (a.put o.dst v') w') :
    wpList P ops Q (o :: rest) a w := by
  refine wpList_plain hgd fun K hK => ?_
  obtain ⟨v', w', hr, h2, h3⟩ := run_append_rows (P := P) w base base2 t o.type e i z size bytes ht hi hz hsize hby hzs hsz v u n m xs ys hown hown2 h1 h63 hbytes hbase
  unfold Oper.wp execOp
  simp only [ho, resolve, invoke, builtin, Sem.run_bind, Sem.run_pure, Result.andThen_ok, List.map_toArray, List.map_cons, List.map_nil, hs, hx, hr]
  exact hK _ _ (h v' w' h2 h3)

set_option maxRecDepth 100000 in
set_option maxHeartbeats 3200000 in
theorem l1Put_nil (P : Nat → Bool) (N x base : Nat) (w : World) (hn : (flt P N).length = 0) (hx : x < N) (hN : N ≤ 1000) (hb0 : base ≤ w.heap.size) :
    Calls Tryd.prog 90 #[.slice none 0 0, .int .i64 x] w fun e w' => ∃ v', e = .returned v' ∧ PRowI w' base v' (orP P x) N ∧ Below w.heap.size w w' := by
  obtain ⟨ii, hii, iz0, iz1, iz2⟩ := info_parts infoIntP
  have hp : P x = false := by
    cases h : P x with
    | false => rfl
    | true =>
      have h3 := (flt_head (p := P) (x := x) (n := N) hx).2 h
      rw [List.getElem?_eq_none (by omega)] at h3
      cases h3
  have HO := hide (fltV_or hp hx)
  have hrs := (fltV_split P (Nat.le_of_lt hx)).2
  have hl1 : (flt P x).length = 0 := by omega
  have hl2 : (fltR P x N).length = 0 := by omega
  have HE : Hid (fltV (orP P x) N = [.int .i64 (x : Nat)] ∧ (flt (orP P x) N).length = 1) := by
    refine ⟨?_, ?_⟩
    · rw [HO.out.1, fltV, List.eq_nil_of_length_eq_zero hl1, List.eq_nil_of_length_eq_zero hl2]; rfl
    · rw [HO.out.2, hl1, hl2]
  go_enter Tryd.func90, Tryd.ntmps90
  go_wp2_with fail
  go_loopg [5] 1 (fun gn i wr => 0 < gn ∧ i = .int .i64 0 ∧ Below w.heap.size w wr)
  case atStart => exact ⟨by omega, rfl, Below.refl _ _⟩
  case round =>
    obtain ⟨hgn, rfl, hb⟩ := hrel
    have hzr := hb.size
    have r1 : (wr.alloc (.cells #[] 3)).ownsRow wr.heap.size 3 1 (.slice (some ⟨wr.heap.size, 0, none⟩) 0 0) 0 [] := by simpa using World.ownsRow_made wr (base := wr.heap.size) (e := 3) (size := 1) #[] 0 (by simp) (Nat.zero_le _) rfl
    go_wp2_with (at_builtin; refine wpList_append_rows rfl _ _ 48 rfl wr.heap.size wr.heap.size 3 ii (.int .i64 0) 1 8 Tryd.underlying48 hii iz0 iz1 iz2 rfl (by decide) _ _ 0 0 [] [] rfl rfl r1 (World.ownsRow_nil _ _ _ _) ?_ ?_ ?_ ?_ ?_)
    · simp
    · unfold maxLen; omega
    · omega
    · simp
    intro v2 w2 hown2 hg2
    have hb2 : Below wr.heap.size wr w2 := ((Below.refl wr.heap.size wr).alloc (Nat.le_refl _) _).grown hg2 (by simp) (fun q hq => (r1.lt q hq).1)
    have hz2 := hb2.size
    obtain ⟨B2, c2, rfl⟩ := row_form hown2
    go_wp2_with (at_builtin; refine wpList_append_own _ rfl _ _ 48 rfl wr.heap.size 3 ii (.int .i64 0) 1 8 Tryd.underlying48 hii iz0 iz1 iz2 rfl (by decide) _ _ [] rfl (hown2.alloc _) ⟨w2.heap.size, 0, none⟩ 1 1 [.int .i64 (x : Nat)] rfl rfl ?_ ?_ ?_ ?_ ?_ ?_)
    · intro i u hu
      match i, hu with
      | 0, hu => simp at hu; subst hu; simp [go_sem, Addr.add]
    · intro u hu; simp at hu; subst hu; rfl
    · unfold maxLen; omega
    · omega
    · simp; omega
    intro v3 w3 hown3 hg3 _
    have hb3 : Below wr.heap.size wr w3 := (hb2.alloc hz2 _).grown hg3 (by simp; omega) (fun q hq => (hown2.lt q hq).1)
    have hz3 := hb3.size
    obtain ⟨B3, c3, rfl⟩ := row_form hown3
    have hsl : ∀ W, (Instr.slice 48 (.slice none 0 0) (some (.int .i64 0)) none none).run Tryd.prog W = .ok (.slice none 0 0) W := fun W => by
      simp [go_sem, Tryd.underlying48]
    go_wp2_with (at_builtin; refine wpList_append_rows rfl _ _ 48 rfl wr.heap.size wr.heap.size 3 ii (.int .i64 0) 1 8 Tryd.underlying48 hii iz0 iz1 iz2 rfl (by decide) _ _ _ 0 _ [] rfl rfl hown3 (World.ownsRow_nil _ _ _ _) ?_ ?_ ?_ ?_ ?_)
    · simp
    · unfold maxLen; omega
    · omega
    · omega
    intro v4 w4 hown4 hg4
    have hb4 : Below wr.heap.size wr w4 := hb3.grown hg4 hz3 (fun q hq => (hown3.lt q hq).1)
    have HF : Hid (PRowI w4 base v4 (orP P x) N) := by
      show PRowI _ _ _ _ _
      rw [PRowI, HE.out.1, HE.out.2]
      have h5 := hown4.mono (show base ≤ wr.heap.size by omega)
      simpa using h5
    have hbw : Below w.heap.size w w4 := hb.trans (hb4.mono hzr)
    clear hown2 hown3 hown4 hg2 hg3 hg4
    go_wp2_with fail
    go_ret
    exact ⟨_, rfl, HF.out, hbw⟩
theorem l1Put_any (P : Nat → Bool) (N x base : Nat) (v : Value) (w : World) (hv : PRowI w base v P N) (hx : x < N) (hN : N ≤ 1000) (hb0 : base ≤ w.heap.size) :
    Calls Tryd.prog 90 #[v, .int .i64 x] w fun e w' => ∃ v', e = .returned v' ∧ PRowI w' base v' (orP P x) N ∧ Below w.heap.size w w' := by
  rcases hv.2 with ⟨h0, h1⟩ | ⟨g, cap, cur, h0, _⟩
  · subst h0
    exact l1Put_nil P N x base w h1 hx hN hb0
  · subst h0
    exact l1Put_some P N x base _ g cap w rfl hv hx hN hb0

end Go.Proofs.YtpckhpkbdanjoaaDoor

/-
  Plain words: the way back: from a cell to the nearest neighbours of the other one, east before north before south before west. No program in sight.-/
namespace Go.Proofs.YtpckhpkbdanjoaaDoor
set_option linter.unusedVariables false
set_option linter.unusedSimpArgs false

/-- The order in which directions are tried. -/
def ordD (j : Nat) : Nat := if j = 0 then 1 else if j = 1 then 0 else j
theorem ordD_lt {j : Nat} (h : j < 4) : ordD j < 4 := by unfold ordD; split <;> (try split) <;> omega
theorem ordD_ordD (j : Nat) : ordD (ordD j) = j := by unfold ordD; split <;> (try split) <;> (try split) <;> omega
/-- The number of steps left from p. -/
def lfF (F : Nat → ByteArray) (n : Nat) (b p : Int × Int) : Int := stF F n b (ixF F p)
/-- The j-th direction leads one step nearer. -/
def wbT (F : Nat → ByteArray) (n : Nat) (b p : Int × Int) (j : Nat) : Bool := opP F n (stp p (ordD j)) && decide (lfF F n b (stp p (ordD j)) = lfF F n b p - 1)
def wbJ (F : Nat → ByteArray) (n : Nat) (b p : Int × Int) : Nat := if wbT F n b p 0 = true then 0 else if wbT F n b p 1 = true then 1 else if wbT F n b p 2 = true then 2 else 3
def ltrB (d : Nat) : ByteArray := if d = 0 then ⟨#[110]⟩ else if d = 1 then ⟨#[101]⟩ else if d = 2 then ⟨#[115]⟩ else ⟨#[119]⟩
theorem ltrB_size (d : Nat) : (ltrB d).size = 1 := by unfold ltrB; split <;> (try split) <;> (try split) <;> rfl
/-- What is behind s when the way goes on from p, so many steps. -/
def wbG (F : Nat → ByteArray) (n : Nat) (b : Int × Int) : Nat → Int × Int → ByteArray → ByteArray
  | 0, _, s => s
  | k + 1, p, s => wbG F n b k (stp p (ordD (wbJ F n b p))) (s ++ ltrB (ordD (wbJ F n b p)))
section
variable {F : Nat → ByteArray} {n : Nat} {b p : Int × Int} {j k : Nat}
theorem wbJ_at (h : wbT F n b p j = true) (hj : j < 4) (hlt : ∀ i, i < j → wbT F n b p i = false) : wbJ F n b p = j := by
  have h4 : j = 0 ∨ j = 1 ∨ j = 2 ∨ j = 3 := by omega
  rcases h4 with rfl | rfl | rfl | rfl
  · simp [wbJ, h]
  · simp [wbJ, h, hlt 0 (by omega)]
  · simp [wbJ, h, hlt 0 (by omega), hlt 1 (by omega)]
  · simp [wbJ, hlt 0 (by omega), hlt 1 (by omega), hlt 2 (by omega)]
theorem wb_some (hb : opP F n b = true) (hp : opP F n p = true) (h : lfF F n b p = (k + 1 : Nat)) (hlt : ∀ i, i < 4 → wbT F n b p i = false) : False := by
  have h' : stF F n b (ixF F p) = (k + 1 : Nat) := h
  rcases stF_near hb hp (by rw [h']; omega) with rfl | ⟨_, d, hd, ho, hs⟩
  · rw [stF_zero hb] at h'
    omega
  · have h1 := hlt (ordD d) (ordD_lt hd)
    rw [wbT, ordD_ordD, ho] at h1
    have h2 : lfF F n b (stp p d) = lfF F n b p - 1 := by show stF F n b _ = stF F n b _ - 1; omega
    rw [decide_eq_true h2] at h1
    exact absurd h1 (by decide)
theorem wb_same (hb : opP F n b = true) (hp : opP F n p = true) (h : 0 ≤ lfF F n b p) : p = b ↔ lfF F n b p = 0 := by
  constructor
  · rintro rfl
    exact stF_zero hb
  · intro h0
    rcases stF_near hb hp h with e | ⟨h1, _⟩
    · exact e
    · have : stF F n b (ixF F p) = 0 := h0
      omega
theorem wbG_step {s : ByteArray} (h : wbT F n b p j = true) (hj : j < 4) (hlt : ∀ i, i < j → wbT F n b p i = false) : wbG F n b (k + 1) p s = wbG F n b k (stp p (ordD j)) (s ++ ltrB (ordD j)) := by
  rw [wbG, wbJ_at h hj hlt]
theorem wb_parts (h : wbT F n b p j = true) : opP F n (stp p (ordD j)) = true ∧ lfF F n b (stp p (ordD j)) = lfF F n b p - 1 := by
  simp only [wbT, Bool.and_eq_true, decide_eq_true_eq] at h
  exact h
theorem lf_bd (hb : opP F n b = true) (p : Int × Int) : -1 ≤ lfF F n b p ∧ lfF F n b p < (n * (F 0).size : Nat) := stF_bd hb _
end

end Go.Proofs.YtpckhpkbdanjoaaDoor

/-
  General words on rows of the call's own: cells set in a row, a row that is one longer, an element put between (taken together by gen_ins3.py).-/
namespace Go.Proofs.YtpckhpkbdanjoaaDoor
set_option linter.unusedVariables false
set_option linter.unusedSimpArgs false
open Go.RowKit

section
variable {w w' w'' : World} {lo hi lo' hi' E sz n m K cap g : Nat} {v u : Value} {cc cc' : Nat → Value} {c : Nat → Nat → Value} {xs : List Value}
theorem OwnL.set (h : OwnL w lo hi E sz (.slice (some ⟨g, 0, none⟩) n cap) n K cc) {o : Nat} (ho : o < n * sz) (u : Value) : OwnL (w.setCell ⟨g, o, none⟩ u) lo hi E sz (.slice (some ⟨g, 0, none⟩) n cap) n K (fun p => if p = o then u else cc p) := by
  rcases h with ⟨rfl, _⟩ | ⟨g', cap', xs, h0, a1, a2, a3, a4, a5⟩
  · omega
  · injection h0 with e1 e2 e3
    injection e1 with e1
    injection e1 with e1
    subst e1 e3
    refine .inr ⟨g, cap, _, rfl, a1, a2, a3, (a4.stored o u).1, fun p hp hp' => ?_⟩
    have hl := a4.1
    by_cases h1 : p = o
    · subst h1
      simp only [if_true]
      exact List.getElem?_set_self (by omega)
    · simp only [h1, if_false]
      rw [List.getElem?_set_ne (by omega)]
      exact a5 p hp hp'
theorem Own.lf (h : Own w lo hi E sz v n n c) (hsz : 0 < sz) : OwnL w lo hi E sz v n (n * sz) (fun o => c (o / sz) (o % sz)) := by
  obtain ⟨xs, ⟨hl, h1⟩, h2, h3⟩ := h
  rcases h1 with ⟨rfl, rfl⟩ | ⟨g, cap, cur, rfl, hg, hh, hnc, r⟩
  · exact .inl ⟨rfl, none, 0, rfl⟩
  · refine .inr ⟨g, cap, xs, rfl, hg, h2 g rfl, hnc, ⟨hl, .inr ⟨g, cap, cur, rfl, hg, hh, hnc, r⟩⟩, fun o h _ => ?_⟩
    have h5 := h3 (o / sz) (o % sz) ((Nat.div_lt_iff_lt_mul hsz).2 h) (Nat.mod_lt _ hsz)
    rw [Nat.div_add_mod'] at h5
    exact h5
theorem OwnL.keep1 (h : OwnL w g (g + 1) E sz v n K cc) (hk : w'.heap[g]? = w.heap[g]?) : OwnL w' g (g + 1) E sz v n K cc := h.keep fun b h1 h2 => by
  obtain rfl : b = g := by omega
  exact hk
theorem OwnL.setCells : ∀ {vs : List Value} {w : World} {o : Nat} {cc : Nat → Value}, OwnL w lo hi E sz (.slice (some ⟨g, 0, none⟩) n cap) n K cc → o + vs.length ≤ n * sz →
    OwnL (w.setCells g o vs) lo hi E sz (.slice (some ⟨g, 0, none⟩) n cap) n K (fun p => if o ≤ p ∧ p < o + vs.length then vs.getD (p - o) (.bool false) else cc p)
  | [], w, o, cc, h, _ => h.congr fun p _ => by
    have : ¬ (o ≤ p ∧ p < o + 0) := by omega
    show _ = if o ≤ p ∧ p < o + 0 then _ else _
    rw [if_neg this]
  | v :: r, w, o, cc, h, hl => by
    simp only [List.length_cons] at hl
    refine (OwnL.setCells (vs := r) (h.set (o := o) (by omega) v) (by omega)).congr fun p _ => ?_
    simp only [List.length_cons]
    rcases Nat.lt_trichotomy p o with h1 | h1 | h1
    · have a1 : ¬ (o + 1 ≤ p ∧ p < o + 1 + r.length) := by omega
      have a2 : ¬ (o ≤ p ∧ p < o + (r.length + 1)) := by omega
      have a3 : ¬ p = o := by omega
      simp only [a1, a2, a3, if_false]
    · subst h1
      have a1 : ¬ (p + 1 ≤ p ∧ p < p + 1 + r.length) := by omega
      have a2 : p ≤ p ∧ p < p + (r.length + 1) := by omega
      simp only [a1, a2, if_false, if_true, Nat.sub_self]
      simp
    · by_cases h2 : p < o + 1 + r.length
      · have a1 : o + 1 ≤ p ∧ p < o + 1 + r.length := by omega
        have a2 : o ≤ p ∧ p < o + (r.length + 1) := by omega
        simp only [a1, a2, if_true, and_self]
        obtain ⟨q, rfl⟩ : ∃ q, p = o + 1 + q := ⟨p - (o + 1), by omega⟩
        rw [show o + 1 + q - (o + 1) = q by omega, show o + 1 + q - o = q + 1 by omega]
        simp
      · have a1 : ¬ (o + 1 ≤ p ∧ p < o + 1 + r.length) := by omega
        have a2 : ¬ (o ≤ p ∧ p < o + (r.length + 1)) := by omega
        have a3 : ¬ p = o := by omega
        simp only [a1, a2, a3, if_false]
theorem OwnL.cap_le (h : OwnL w lo hi E sz (.slice (some ⟨g, 0, none⟩) n cap) n K cc) (hn : 0 < n) : n ≤ cap ∧ cap ≤ maxLen := by
  rcases h with ⟨h0, _⟩ | ⟨g', cap', xs, h0, a1, a2, a3, ⟨hl, a4⟩, a5⟩
  · omega
  · injection h0 with e1 e2 e3
    subst e3
    rcases a4 with ⟨a4, _⟩ | ⟨x, y, cur, he, hb, hh, hnc, hcm, hcs, ht⟩
    · cases a4
    · injection he with _ _ e3
      subst e3
      exact ⟨a3, hcm⟩
theorem Only.setCells {g : Nat} : ∀ {vs : List Value} {w' : World} {o : Nat}, Only g (g + 1) w w' → Only g (g + 1) w (w'.setCells g o vs)
  | [], _, _, h => h
  | v :: r, w', o, h => Only.setCells (vs := r) (h.setCell (a := ⟨g, o, none⟩) (Nat.le_refl _) (Nat.lt_succ_self _) v)
theorem OwnL.rowL (h : OwnL w lo hi E sz v n (n * sz) (fun o => c (o / sz) (o % sz))) (hn : 0 < n) (hsz : 0 < sz) : w.ownsRow lo E sz v n (rowL c sz n) := by
  rcases h with ⟨h0, _⟩ | ⟨g, cap, xs, rfl, h1, h2, h3, h4, h5⟩
  · omega
  · have : xs = Go.Proofs.YtpckhpkbdanjoaaDoor.rowL c sz n := by
      apply List.ext_getElem?
      intro o
      rcases Nat.lt_or_ge o (n * sz) with ho | ho
      · rw [h5 o ho ho]
        have e2 := rowL_get c sz ((Nat.div_lt_iff_lt_mul hsz).2 ho) (Nat.mod_lt o hsz)
        rw [Nat.div_add_mod'] at e2
        exact e2.symm
      · rw [List.getElem?_eq_none (by rw [h4.1]; omega), List.getElem?_eq_none (by rw [rowL_len]; omega)]
    rw [← this]
    exact h4
theorem row_at (h : w.ownsRow lo E sz v n (rowL c sz n)) (hsz : 0 < sz) (hg : v.ownBlock = some g) : OwnL w g (g + 1) E sz v n (n * sz) (fun o => c (o / sz) (o % sz)) := by
  have h1 := (own_row h).lf hsz
  rcases h1 with h1 | ⟨g', cap, ys, rfl, a1, a2, a3, ⟨a4, a5⟩, a6⟩
  · exact .inl h1
  · injection hg with hg
    have hg : g' = g := hg
    subst hg
    rcases a5 with ⟨a5, _⟩ | ⟨x, y, cur, he, hb, hh, r⟩
    · cases a5
    · injection he with e1 e2 e3
      injection e1 with e1
      injection e1 with e1
      subst e1 e3
      exact .inr ⟨g', cap, ys, rfl, Nat.le_refl _, Nat.lt_succ_self _, a3, ⟨a4, .inr ⟨g', cap, cur, rfl, Nat.le_refl _, hh, r⟩⟩, a6⟩
theorem OwnL.ext1 (h : OwnL w lo hi E sz (.slice (some ⟨g, 0, none⟩) n cap) n K cc) (hn : 0 < n) (hc : n + 1 ≤ cap) : ∃ cc', OwnL w lo hi E sz (.slice (some ⟨g, 0, none⟩) (n + 1) cap) (n + 1) ((n + 1) * sz) cc' ∧ ∀ o, o < K → o < n * sz → cc' o = cc o := by
  rcases h with ⟨h0, _⟩ | ⟨g', cap', xs, h0, a1, a2, a3, ⟨hl, a4⟩, a5⟩
  · omega
  · injection h0 with e1 e2 e3
    injection e1 with e1
    injection e1 with e1
    subst e1 e3
    rcases a4 with ⟨a4, _⟩ | ⟨x, y, cur, he, hb, hh, hnc, hcm, hcs, ht⟩
    · cases a4
    · injection he with e1 _ e3
      injection e1 with e1
      injection e1 with e1
      subst e1 e3
      have hle : (n + 1) * sz ≤ cap * sz := Nat.mul_le_mul_right sz hc
      have hns : n * sz ≤ (n + 1) * sz := Nat.mul_le_mul_right sz (Nat.le_succ n)
      have hlen : (cur.toList.take ((n + 1) * sz)).length = (n + 1) * sz := by rw [List.length_take, Array.length_toList, hcs]; omega
      refine ⟨fun o => (cur.toList.take ((n + 1) * sz)).getD o (.bool false), .inr ⟨g, cap, cur.toList.take ((n + 1) * sz), rfl, a1, a2, hc, ⟨hlen, .inr ⟨g, cap, cur, rfl, hb, hh, hc, hcm, hcs, rfl⟩⟩, fun o ho _ => ?_⟩, fun o ho ho' => ?_⟩
      · simp [List.getD, List.getElem?_eq_getElem (show o < (cur.toList.take ((n + 1) * sz)).length by omega)]
      · have h1 := a5 o ho ho'
        rw [← ht, List.getElem?_take, if_pos ho'] at h1
        show (cur.toList.take ((n + 1) * sz)).getD o (.bool false) = cc o
        rw [List.getD, List.getElem?_take, if_pos (by omega), h1]
        rfl
end
theorem setCells_size (b : Nat) : ∀ (vs : List Value) (o : Nat) (w : World), (w.setCells b o vs).heap.size = w.heap.size
  | [], _, _ => rfl
  | v :: r, o, w => by rw [World.setCells, setCells_size b r]; simp [World.setCell]
theorem setCells_other (b : Nat) {k : Nat} (hk : k ≠ b) : ∀ (vs : List Value) (o : Nat) (w : World), (w.setCells b o vs).heap[k]? = w.heap[k]?
  | [], _, _ => rfl
  | v :: r, o, w => by rw [World.setCells, setCells_other b hk r]; exact Deep.blk_setCell_other _ _ _ _ hk
theorem run_copy_wide {P : Program} (w : World) (dT sT ty elem : TypeId) (b o dLen dCap : Nat) (a : Addr) (sLen sCap sz : Nat) (cs : List Value)
    (hu : P.underlying dT = some (.slice elem)) (hs : (P.info? elem).map (·.size) = some sz) (hn : cs.length = Nat.min sLen dLen * sz)
    (hsrc : ∀ j v, cs[j]? = some v → w.cell? (a.add j) = some v) (hc : ∀ j, j < cs.length → (w.cell? ⟨b, o + j, none⟩).isSome = true) (hf : ∀ j, j < cs.length → w.frozen? ⟨b, o + j, none⟩ = false) (h1 : ∀ v ∈ cs, v.oneCell' = true) :
    (Builtin.copy_ #[dT, sT] ty #[.slice (some ⟨b, o, none⟩) dLen dCap, .slice (some a) sLen sCap]).run P w = .ok (goInt (Nat.min sLen dLen)) (w.setCells b o cs) := by
  have hl := run_loadCells_list (P := P) w a cs hsrc
  have hst := run_storeCells_cells (P := P) b o cs 0 w (by simpa using hc) (by simpa using hf) h1
  rw [hn] at hl
  cases hq : P.info? elem with
  | none => simp [hq] at hs
  | some i =>
    have hi : i.size = sz := by simpa [hq] using hs
    simp [Builtin.copy_, run_underlying hu, Builtin.lenOf, Builtin.firstCells, sizeOf, typeInfo, hq, hi, hl, hst]
theorem wpList_copy_at {P : Program} (w : World) {ops : Array Oper} {rest : List Oper} {o : Oper} {a : Act} {Q : Exit → Act → World → Prop} (hgd : o.guard = none) (d s : Operand) (t t' : TypeId)
    (ho : o.op = .call { callee := .builtin .copy, args := #[d, s], argTypes := #[t, t'] }) (v u : Value) (hd : a.eval d = v) (hs : a.eval s = u) {v' : Value} {w' : World}
    (hr : (Builtin.copy_ #[t, t'] o.type #[v, u]).run P w = .ok v' w') (h : wpList P ops Q rest (a.put o.dst v') w') : wpList P ops Q (o :: rest) a w :=
  wpList_plain hgd fun _ hK => by
    unfold Oper.wp execOp
    simp only [ho, resolve, invoke, builtin, Sem.run_bind, Sem.run_pure, Result.andThen_ok, List.map_toArray, List.map_cons, List.map_nil, hd, hs, hr]
    exact hK _ _ h
theorem step_copy_at {P : Program} {ops : Array Oper} {o : Oper} {a : Act} {w : World} {K : Act → World → Prop} {Q : Exit → Act → World → Prop} {E : Prop}
    (hg : o.guard = none) (d x : Operand) (dT sT : TypeId) (hop : o.op = Op.call { callee := Callee.builtin Builtin.copy, args := #[d, x], argTypes := #[dT, sT] })
    (v u : Value) (hd : a.eval d = v) (hx : a.eval x = u) {v' : Value} {w' : World} (hr : (Builtin.copy_ #[dT, sT] o.type #[v, u]).run P w = .ok v' w') (hK : K (a.put o.dst v') w') :
    if Region.wanted o (yielded ops a.tmps) = true then Oper.wp P o a w K Q else E := by
  have hw : Region.wanted o (yielded ops a.tmps) = true := by simp [Region.wanted, hg]
  rw [if_pos hw]
  unfold Oper.wp
  simp [execOp, hop, resolve, invoke, builtin, hd, hx, hr, Result.andThen]
  exact hK
def insC (k : Nat) (c : Nat → Nat → Value) (x : Nat → Value) (i j : Nat) : Value := if i < k then c i j else if i = k then x j else c (i - 1) j

end Go.Proofs.YtpckhpkbdanjoaaDoor

/-
  Walks: the library's Repeat at one integer: a row of so many.-/
namespace Go.Proofs
open Go.RowKit Go.Shelf
shelf_lay Lays.n212 Nm 212 at Tryd as YtpckhpkbdanjoaaDoor.laysMul
end Go.Proofs
namespace Go.Proofs.YtpckhpkbdanjoaaDoor
set_option linter.unusedVariables false
set_option linter.unusedSimpArgs false
open Go.RowKit Go.Shelf

section
variable {w : World} {lo hi E sz n K cap g : Nat} {cc : Nat → Value}
/-- The cells behind those that are known are filled. -/
theorem OwnL.fill : ∀ {vs : List Value} {w : World} {K : Nat}, OwnL w lo hi E sz (.slice (some ⟨g, 0, none⟩) n cap) n K cc → K + vs.length ≤ n * sz → (∀ i u, vs[i]? = some u → u = cc (K + i)) →
    OwnL (w.setCells g K vs) lo hi E sz (.slice (some ⟨g, 0, none⟩) n cap) n (K + vs.length) cc
  | [], w, K, h, _, _ => h
  | v :: r, w, K, h, hl, hv => by
    simp only [List.length_cons] at hl
    obtain rfl := hv 0 v rfl
    have h1 := OwnL.fill (vs := r) (h.store (by omega)) (by omega) (fun i u hu => by
      have := hv (i + 1) u (by simpa using hu)
      rw [this]; congr 1; omega)
    rw [List.length_cons, show K + (r.length + 1) = K + 1 + r.length by omega]
    exact h1
end
theorem infoI1 : (Tryd.prog.info? 3).map (fun i => (i.zero, i.size, i.bytes)) = some (some (.int .i64 0), 1, 8) := by kernel_rfl
theorem infoI1s : (Tryd.prog.info? 3).map (·.size) = some 1 := by
  obtain ⟨ii, hii, _, iz1, _⟩ := info_parts infoI1
  rw [hii]; simp [iz1]
theorem Mul_any (K : Nat) (w : World) (hK : K ≤ 1000) :
    Calls Tryd.prog 111 #[.int .u64 1, .int .u64 K] w fun e w' => e = .returned (.tuple #[.int .u64 0, .int .u64 K]) ∧ w = w' := by
  have hcon := Any.bits_Mul YtpckhpkbdanjoaaDoor.laysMul 1 K (by omega) (by omega) w
  change Calls Tryd.prog 111 _ _ (fun e w' => _) at hcon
  refine hcon.mono fun e w' ⟨he, hw⟩ => ⟨?_, hw.symm⟩
  rw [he, Nat.one_mul, Nat.div_eq_of_lt (by omega), Nat.mod_eq_of_lt (by omega)]
  rfl
set_option maxRecDepth 100000 in
set_option maxHeartbeats 1600000 in
theorem Repeat_any (K vb : Nat) (w : World) (hvb : w.heap[vb]? = some (.cells #[.int .i64 (-1)] 3 (0, 0))) (hK : 1 ≤ K) (hK' : K ≤ 1000) :
    Calls Tryd.prog 96 #[.slice (some ⟨vb, 0, none⟩) 1 1, .int .i64 K] w fun e w' => ∃ g, e = .returned (.slice (some ⟨g, 0, none⟩) K K) ∧ OwnL w' g (g + 1) 3 1 (.slice (some ⟨g, 0, none⟩) K K) K K (fun _ => .int .i64 (-1)) ∧ w.heap.size ≤ g ∧ g < w'.heap.size ∧ Below w.heap.size w w' := by
  obtain ⟨ii, hii, iz0, iz1, iz2⟩ := info_parts infoI1
  have hvl : vb < w.heap.size := (Array.getElem?_eq_some_iff.1 hvb).1
  have u1 : IntKind.u64.wrap 1 = 1 := rfl
  have u2 : IntKind.u64.wrap (K : Int) = (K : Int) := by rw [IntKind.wrap_u64]; omega
  have u3 : IntKind.i64.wrap (K : Int) = (K : Int) := IntWalk.i64_in _ (by omega)
  go_enter Tryd.func96, Tryd.ntmps96
  go_wp2_with (first | (go_at_call 111; refine (Mul_any _ _ hK').mono ?_; rintro e w' ⟨rfl, rfl⟩) | (at_make; refine wpList_make_full _ rfl (.tmp 29) (.tmp 29) 48 rfl w.heap.size 3 ii _ 1 Tryd.underlying48 hii iz0 iz1 .i64 .i64 K K K rfl rfl rfl rfl (by rw [iz2]; omega) (by unfold maxLen; omega) (Nat.le_refl _) ?_))
  intro w1 hown1 hg1
  have hlt1 : w.heap.size < w1.heap.size := (hown1.lt _ rfl).2
  have hb1 : Below w.heap.size w w1 := (Below.refl _ _).grown hg1 (Nat.le_refl _) (fun k h => by cases h)
  have ho1 : Own w1 w.heap.size (w.heap.size + 1) 3 1 (.slice (some ⟨w.heap.size, 0, none⟩) K K) K 0 (iC (fun _ => 0)) := ⟨_, hown1, fun g hg => by cases hg; exact Nat.lt_succ_self _, fun i j h => absurd h (by omega)⟩
  have hl1 := ho1.l (fun _ => .int .i64 (-1))
  have hvb1 : w1.cell? ⟨vb, 0, none⟩ = some (.int .i64 (-1)) := by
    rw [hb1.cell (p := ⟨vb, 0, none⟩) hvl]
    simp [World.cell?, hvb]
  obtain ⟨W2, hW2⟩ : ∃ W2, W2 = w1.setCells w.heap.size 0 [.int .i64 (-1)] := ⟨_, rfl⟩
  have hl2 : OwnL W2 w.heap.size (w.heap.size + 1) 3 1 (.slice (some ⟨w.heap.size, 0, none⟩) K K) K 1 (fun _ => .int .i64 (-1)) := by
    rw [hW2]
    exact hl1.fill (vs := [.int .i64 (-1)]) (by simp; omega) (fun i u hu => by
      match i, hu with
      | 0, hu => simpa using hu.symm)
  have hcp1 : ∀ ty, (Builtin.copy_ #[48, 48] ty #[.slice (some ⟨w.heap.size, 0, none⟩) K K, .slice (some ⟨vb, 0, none⟩) 1 1]).run Tryd.prog w1 = .ok (.int .i64 1) W2 := fun ty => by
    have e : Nat.min 1 K = 1 := by show min 1 K = 1; omega
    have h := run_copy_wide w1 48 48 ty 3 w.heap.size 0 K K ⟨vb, 0, none⟩ 1 1 1 [.int .i64 (-1)] Tryd.underlying48 infoI1s (by rw [e]; rfl) (fun j v hj => by
      match j, hj with
      | 0, hj => simp at hj; subst hj; rw [Addr.add_lit]; exact hvb1) (fun j hj => by
      obtain ⟨⟨u, a⟩, b, _⟩ := hl1.cell (by omega) (o := j) (by simp at hj; omega)
      rw [Nat.zero_add, a]; rfl) (fun j hj => by
      obtain ⟨⟨u, a⟩, b, _⟩ := hl1.cell (by omega) (o := j) (by simp at hj; omega)
      rw [Nat.zero_add]; exact b) (fun v hv => by simp at hv; subst hv; rfl)
    rw [h, e, hW2]
    rfl
  have hb2 : Below w.heap.size w W2 := by
    rw [hW2]
    exact hb1.trans ((Only.setCells (Only.refl w.heap.size (w.heap.size + 1) w1)).below (Nat.le_refl _) (by omega))
  have hz2 : w.heap.size < W2.heap.size := by rw [hW2, setCells_size]; exact hlt1
  have HL2 := hide hl2
  clear hown1 hg1 ho1 hl1 hvb1 hl2 hW2
  have dk : decide (1 < K) = decide (1 < K) := rfl
  clear dk
  go_wp2_with fail
  clear hcp1
  go_loopg [8] (K - 1) (fun gn q wr => Hid (∀ m : Nat, q = .int .i64 m → K - m ≤ gn) ∧  ∃ m : Nat, 1 ≤ m ∧ m ≤ K ∧ q = .int .i64 m ∧ Hid (OwnL wr w.heap.size (w.heap.size + 1) 3 1 (.slice (some ⟨w.heap.size, 0, none⟩) K K) K m (fun _ => .int .i64 (-1))) ∧ Below w.heap.size w wr ∧ w.heap.size < wr.heap.size)
  case atStart => exact ⟨fun m hm => by injection hm with _ e; omega, 1, by omega, hK, rfl, HL2.out, hb2, hz2⟩
  case round =>
    obtain ⟨hgk, m, hm1, hm, rfl, ho, hb, hlt⟩ := hrel
    have hgm := hgk.out m rfl
    clear hgk
    by_cases hmn : m < K
    · obtain ⟨c, hc⟩ : ∃ c, c = Nat.min m (K - m) := ⟨_, rfl⟩
      have hc1 : 1 ≤ c ∧ c ≤ m ∧ c ≤ K - m := by have e : c = min m (K - m) := hc; omega
      have hcp : ∀ ty dl dc sl sc, dl = K - m → sl = m → (Builtin.copy_ #[48, 48] ty #[.slice (some ⟨w.heap.size, m, none⟩) dl dc, .slice (some ⟨w.heap.size, 0, none⟩) sl sc]).run Tryd.prog wr.drew = .ok (.int .i64 c) (wr.drew.setCells w.heap.size m (List.replicate c (.int .i64 (-1)))) := fun ty dl dc sl sc e1 e2 => by
        subst e1 e2
        have h := run_copy_wide wr.drew 48 48 ty 3 w.heap.size sl (K - sl) dc ⟨w.heap.size, 0, none⟩ sl sc 1 (List.replicate c (.int .i64 (-1))) Tryd.underlying48 infoI1s (by rw [← hc]; simp) (fun j v hj => by
          have hj1 : j < c := by have := (List.getElem?_eq_some_iff.1 hj).1; simpa using this
          rw [List.getElem?_replicate, if_pos hj1] at hj
          rw [Addr.add_lit, Nat.zero_add, ← Option.some.inj hj]
          exact (ho.out.cell (by omega) (o := j) (by omega)).2.2 (by omega)) (fun j hj => by
          simp at hj
          obtain ⟨⟨u, a⟩, b, _⟩ := ho.out.cell (by omega) (o := sl + j) (by omega)
          show (World.cell? wr _).isSome = true
          rw [a]; rfl) (fun j hj => by
          simp at hj
          exact (ho.out.cell (by omega) (o := sl + j) (by omega)).2.1) (fun v hv => by rw [List.eq_of_mem_replicate hv]; rfl)
        rw [h, ← hc]
        rfl
      have HO2 : Hid (OwnL (wr.drew.setCells w.heap.size m (List.replicate c (.int .i64 (-1)))) w.heap.size (w.heap.size + 1) 3 1 (.slice (some ⟨w.heap.size, 0, none⟩) K K) K (m + c) (fun _ => .int .i64 (-1))) := by
        have h := (ho.out.keep1 (w' := wr.drew) rfl).fill (vs := List.replicate c (.int .i64 (-1))) (by simp; omega) (fun i u hu => by
          exact List.eq_of_mem_replicate (List.mem_of_getElem? hu))
        rw [List.length_replicate] at h
        exact h
      have HB : Hid (Below w.heap.size w (wr.drew.setCells w.heap.size m (List.replicate c (.int .i64 (-1))))) := (Below.drew hb).trans ((Only.setCells (Only.refl w.heap.size (w.heap.size + 1) wr.drew)).below (Nat.le_refl _) (by show _ ≤ wr.heap.size; omega))
      have HZ : Hid (w.heap.size < (wr.drew.setCells w.heap.size m (List.replicate c (.int .i64 (-1)))).heap.size) := by
        show _ < _
        rw [setCells_size]; exact hlt
      obtain ⟨W3, hW3⟩ : ∃ W3, W3 = wr.drew.setCells w.heap.size m (List.replicate c (.int .i64 (-1))) := ⟨_, rfl⟩
      rw [← hW3] at HO2 HB HZ
      have l1 : ¬ K = m := by omega
      have z1 : IntKind.i64.wrap ((m : Int) + (c : Int)) = (m : Int) + (c : Int) := IntWalk.i64_in _ (by omega)
      clear hc ho
      go_wp2_with fail
      go_region_law (refine step_copy_at rfl _ _ 48 48 rfl (.slice (some ⟨w.heap.size, m, none⟩) (K - m) (K - m)) (.slice (some ⟨w.heap.size, 0, none⟩) m K) (by simp [Act.eval, Act.put]) (by simp [Act.eval, Act.put]) (hcp _ _ _ _ _ rfl rfl) ?_)
      rw [← hW3]
      go_wp2_with fail
      go_roundg (K - (m + c))
      case measure => omega
      case rel => exact ⟨fun q hq => by injection hq with _ e; omega, m + c, by omega, by omega, by go_num, HO2.out, HB.out, HZ.out⟩
    · obtain rfl : m = K := by omega
      go_wp2_with fail
      go_ret
      exact ⟨_, rfl, ho.out, Nat.le_refl _, hlt, hb⟩

end Go.Proofs.YtpckhpkbdanjoaaDoor

/-
  Words for a queue: a slice somewhere in a block of the call's own, with all its spare cells.-/
namespace Go.Proofs.YtpckhpkbdanjoaaDoor
set_option linter.unusedVariables false
set_option linter.unusedSimpArgs false
open Go.RowKit

structure Tl (w : World) (q sz off n cap : Nat) (c : Nat → Nat → Value) : Prop where
  lt : q < w.heap.size
  le : n ≤ cap
  mx : cap ≤ maxLen
  fr : ∀ o, w.frozen? ⟨q, o, none⟩ = false
  sp : ∀ j, j < cap * sz → (w.cell? ⟨q, off + j, none⟩).isSome = true
  at_ : ∀ i j, i < n → j < sz → w.cell? ⟨q, off + i * sz + j, none⟩ = some (c i j)
section
variable {w w' : World} {q sz off n cap E base : Nat} {c c' : Nat → Nat → Value} {xs : List Value}
theorem Tl.keep (h : Tl w q sz off n cap c) (hk : w'.heap[q]? = w.heap[q]?) (hs : q < w'.heap.size) : Tl w' q sz off n cap c :=
  ⟨hs, h.le, h.mx, fun o => (World.frozen?_of_block (a := ⟨q, o, none⟩) hk).trans (h.fr o), fun j hj => by
    rw [World.cell?_of_block (a := ⟨q, off + j, none⟩) hk]; exact h.sp j hj, fun i j hi hj => (World.cell?_of_block (a := ⟨q, off + i * sz + j, none⟩) hk).trans (h.at_ i j hi hj)⟩
theorem Tl.below {B : Nat} (h : Tl w q sz off n cap c) (hb : Below B w w') (hB : q < B) : Tl w' q sz off n cap c :=
  h.keep (hb.block q hB) (Nat.lt_of_lt_of_le h.lt hb.size)
theorem Tl.congr (h : Tl w q sz off n cap c) (hc : ∀ i j, i < n → j < sz → c i j = c' i j) : Tl w q sz off n cap c' :=
  ⟨h.lt, h.le, h.mx, h.fr, h.sp, fun i j hi hj => (h.at_ i j hi hj).trans (by rw [hc i j hi hj])⟩
/-- Without its first element. -/
theorem Tl.tail (h : Tl w q sz off (n + 1) cap c) : Tl w q sz (if cap = 1 then off else off + sz) n (cap - 1) (fun i => c (i + 1)) := by
  have hle := h.le
  refine ⟨h.lt, by omega, by have := h.mx; omega, h.fr, fun j hj => ?_, fun i j hi hj => ?_⟩
  · by_cases h1 : cap = 1
    · subst h1; simp at hj
    · rw [if_neg h1]
      obtain ⟨k, rfl⟩ : ∃ k, cap = k + 1 := ⟨cap - 1, by omega⟩
      have h2 : (k + 1) * sz = k * sz + sz := Nat.succ_mul k sz
      rw [Nat.add_sub_cancel] at hj
      have := h.sp (sz + j) (by omega)
      rw [show off + sz + j = off + (sz + j) by omega]
      exact this
  · have h1 : ¬ cap = 1 := by omega
    rw [if_neg h1]
    have := h.at_ (i + 1) j (by omega) hj
    rw [Nat.succ_mul] at this
    rw [show off + sz + i * sz + j = off + (i * sz + sz) + j by omega]
    exact this
theorem Tl.of_row (h : w.ownsRow base E sz (.slice (some ⟨q, 0, none⟩) n cap) n xs) (hx : ∀ i j, i < n → j < sz → xs[i * sz + j]? = some (c i j)) : Tl w q sz 0 n cap c := by
  rcases id h.2 with ⟨h1, _⟩ | ⟨g, cp, cur, he, hg, hh, hnc, hcm, hcs, ht⟩
  · cases h1
  · injection he with e1 _ e3
    injection e1 with e1
    injection e1 with e1
    subst e1 e3
    refine ⟨(h.lt q rfl).2, hnc, hcm, fun o => h.frozenAt o, fun j hj => ?_, fun i j hi hj => ?_⟩
    · simp only [World.cell?, hh, Nat.zero_add]
      rw [Array.getElem?_eq_getElem (by omega)]
      rfl
    · rw [Nat.zero_add, h.cellAt _ (lin_lt hi hj)]
      exact hx i j hi hj
/-- One element more. -/
theorem run_append_tl {P : Program} (t ty e : TypeId) (i : TypeInfo) (z : Value) (size bytes : Nat) (ht : P.underlying t = some (.slice e)) (hi : P.info? e = some i) (hz : i.zero = some z)
    (hsize : i.size = size) (hby : i.bytes = bytes) (hzs : z.cells.size = size) (hsz : 0 < size) (h : Tl w q size off n cap c)
    (ad : Addr) (k : Nat) (hnews : ∀ j u, ((List.range size).map (c' n))[j]? = some u → w.cell? (ad.add j) = some u) (h1 : ∀ j, j < size → (c' n j).oneCell' = true) (hc : ∀ i j, i < n → j < size → c i j = c' i j)
    (h63 : n + 1 ≤ maxLen) (hbytes : (n + 1) * bytes ≤ 140737488355328) :
    ∃ q' off' cap' w', (Builtin.append_ #[t, t] ty #[.slice (some ⟨q, off, none⟩) n cap, .slice (some ad) 1 k]).run P w = .ok (.slice (some ⟨q', off', none⟩) (n + 1) cap') w' ∧ Tl w' q' size off' (n + 1) cap' c' ∧ w.grownBy w' (some q) ∧ (q' = q ∨ w.heap.size ≤ q') := by
  have hl : ((List.range size).map (c' n)).length = size := by simp
  have hnl : ((List.range size).map (c' n)).length = 1 * size := by rw [hl, Nat.one_mul]
  have hone : ∀ u ∈ (List.range size).map (c' n), u.oneCell' = true := fun u hu => by
    obtain ⟨j, hj, rfl⟩ := List.mem_map.1 hu
    exact h1 j (List.mem_range.1 hj)
  have hget : ∀ j, j < size → ((List.range size).map (c' n))[j]? = some (c' n j) := fun j hj => by
    rw [List.getElem?_map, List.getElem?_range hj]; rfl
  by_cases hr : n + 1 ≤ cap
  · have hrc : (n + 1) * size ≤ cap * size := Nat.mul_le_mul_right _ hr
    rw [Nat.succ_mul] at hrc
    have hsome : ∀ j, j < ((List.range size).map (c' n)).length → (w.cell? ⟨q, off + n * size + j, none⟩).isSome = true := fun j hj => by
      rw [hl] at hj
      rw [show off + n * size + j = off + (n * size + j) by omega]
      exact h.sp _ (by omega)
    have hrun := run_append_room_cells (P := P) w t ty e i ht hi q off n cap ad 1 k ((List.range size).map (c' n)) (by rw [hsize]; exact hnl) hnews hone hr (by rw [hsize]; exact hsome) (fun j _ => h.fr _)
    rw [hsize] at hrun
    refine ⟨q, off, cap, _, hrun, ⟨by rw [setCells_size]; exact h.lt, hr, h.mx, fun o => (World.frozen?_setCells q _ _ _ _).trans (h.fr o), fun j hj => ?_, fun a b ha hb => ?_⟩, ⟨?_, ?_, ?_, by rw [setCells_size]; exact Nat.le_refl _, fun b _ hb => setCells_other q (fun e => hb (by rw [e])) _ _ _⟩, .inl rfl⟩
    · by_cases hin : n * size ≤ j ∧ j < n * size + size
      · have := World.cell?_setCells_in q ((List.range size).map (c' n)) (off + n * size) w hsome (j - n * size) (by rw [hl]; omega)
        rw [show off + n * size + (j - n * size) = off + j by omega] at this
        rw [this]; rfl
      · rw [World.cell?_setCells_out q _ _ _ _ (fun _ _ => by show off + j < off + n * size ∨ off + n * size + _ ≤ off + j; rw [hl]; omega)]
        exact h.sp j hj
    · rcases Nat.lt_or_ge a n with h2 | h2
      · have h3 := lin_lt h2 hb
        rw [World.cell?_setCells_out q _ _ _ _ (fun _ _ => .inl (by show off + a * size + b < off + n * size; omega)), h.at_ a b h2 hb, hc a b h2 hb]
      · obtain rfl : a = n := by omega
        have := World.cell?_setCells_in q ((List.range size).map (c' a)) (off + a * size) w hsome b (by rw [hl]; exact hb)
        rw [this]
        have h4 := hget b hb
        rw [List.getElem?_eq_getElem (by rw [hl]; exact hb)] at h4
        exact h4
    · exact (Only.setCells (Only.refl q (q + 1) w)).os
    · exact (Only.setCells (Only.refl q (q + 1) w)).tape
    · exact (Only.setCells (Only.refl q (q + 1) w)).output
  · have hol : (rowL c size n).length = n * size := rowL_len _ _ _
    obtain ⟨v', w', hrun, r1, r2⟩ := run_append_arg_grows (P := P) w t ty e i z size bytes ht hi hz hsize hby hzs hsz ⟨q, off, none⟩ n cap (rowL c size n) hol (fun j u hu => by
      have ho : j < n * size := by have := (List.getElem?_eq_some_iff.1 hu).1; omega
      have a1 : j / size < n := (Nat.div_lt_iff_lt_mul hsz).2 ho
      have a2 := Nat.mod_lt j hsz
      have e3 := rowL_get c size a1 a2
      rw [Nat.div_add_mod'] at e3
      rw [hu] at e3
      have e4 := h.at_ _ _ a1 a2
      rw [Nat.add_assoc, Nat.div_add_mod'] at e4
      rw [Addr.add_lit, e4, e3]) ad 1 k ((List.range size).map (c' n)) hnl hnews (by omega) h63 hbytes
    have hrow : rowL c size n ++ (List.range size).map (c' n) = rowL c' size (n + 1) := by rw [rowL, rowL_congr hc]
    rw [hrow] at r1
    rcases id r1.2 with ⟨_, h0⟩ | ⟨g, cp, cur, rfl, hg, hh, hnc, hcm, hcs, htk⟩
    · omega
    · exact ⟨g, 0, cp, w', hrun, Tl.of_row r1 (fun i j hi hj => rowL_get c' size hi hj), ⟨r2.os, r2.tape, r2.output, r2.size, fun b hb _ => r2.block b hb (fun e => by cases e)⟩, .inr hg⟩
end

end Go.Proofs.YtpckhpkbdanjoaaDoor
