/-
  Walks: the reference puts a number into an increasing list.
-/
import Derived.Test.YtpckhpkbdanjoaaDoorPPutI
import Derived.Test.YtpckhpkbdanjoaaDoorPRow
import Derived.Deep.Onto
import Derived.Deep.LoopGhost
namespace Go.Proofs.YtpckhpkbdanjoaaDoor
set_option linter.unusedVariables false
set_option linter.unusedSimpArgs false
open Go.RowKit

theorem infoIntP : (Tryd.prog.info? 3).map (fun i => (i.zero, i.size, i.bytes)) = some (some (.int .i64 0), 1, 8) := by kernel_rfl
/-- A row of the call's own that holds the places that pass a test. -/
def PRowI (w : World) (base : Nat) (v : Value) (P : Nat → Bool) (N : Nat) : Prop := w.ownsRow base 3 1 v (flt P N).length (fltV P N)
theorem fltV_or {p : Nat → Bool} {x n : Nat} (h : p x = false) (hx : x < n) : fltV (orP p x) n = fltV p x ++ [.int .i64 (x : Nat)] ++ (fltR p x n).map (fun (i : Nat) => Value.int .i64 (i : Int)) ∧ (flt (orP p x) n).length = (flt p x).length + 1 + (fltR p x n).length := by
  rw [fltV, flt_or h hx]
  constructor
  · simp [fltV]
  · simp; omega
theorem fltV_cell {P : Nat → Bool} {N j y : Nat} (h : (flt P N)[j]? = some y) : (fltV P N)[j]? = some (.int .i64 (y : Int)) := by
  rw [fltV, List.getElem?_map, h]
  rfl
theorem fltV_split (p : Nat → Bool) {x n : Nat} (h : x ≤ n) : fltV p n = fltV p x ++ (fltR p x n).map (fun (i : Nat) => Value.int .i64 (i : Int)) ∧ (flt p n).length = (flt p x).length + (fltR p x n).length := by
  rw [fltV, flt_split p x n h]
  exact ⟨by simp [fltV], by simp⟩
set_option maxRecDepth 100000 in
set_option maxHeartbeats 3200000 in
theorem l1Put_some (P : Nat → Bool) (N x base n g cap : Nat) (w : World) (hn : (flt P N).length = n) (hv : PRowI w base (.slice (some ⟨g, 0, none⟩) n cap) P N) (hx : x < N) (hN : N ≤ 1000) (hb0 : base ≤ w.heap.size) :
    Calls Tryd.prog 90 #[.slice (some ⟨g, 0, none⟩) n cap, .int .i64 x] w fun e w' => ∃ v', e = .returned v' ∧ PRowI w' base v' (orP P x) N ∧ Below w.heap.size w w' := by
  obtain ⟨ii, hii, iz0, iz1, iz2⟩ := info_parts infoIntP
  obtain ⟨K, hK⟩ : ∃ K, (flt P x).length = K := ⟨_, rfl⟩
  have hKn : K ≤ n := by rw [← hK, ← hn, flt_split P x N (by omega)]; simp
  have hn1000 : n ≤ 1000 := by have := flt_len P N; omega
  have hnc : n ≤ cap ∧ cap ≤ maxLen := by
    rcases hv.2 with ⟨h0, _⟩ | ⟨g', cap', cur, h0, _, _, h1, h2, _⟩
    · cases h0
    · cases h0; exact ⟨by rw [← hn]; exact h1, h2⟩
  obtain ⟨hcap, hcm⟩ := hnc
  unfold maxLen at hcm
  have hgl : g < w.heap.size := (hv.lt g rfl).2
  have HC : Hid (∀ (j : Nat) u, (fltV P N)[j]? = some u → w.cell? ⟨g, j, none⟩ = some u) := fun j u hu => by
    have := hv.cells rfl j u hu
    rwa [Addr.add_lit, Nat.zero_add] at this
  have HLo : Hid (∀ j, j < K → ∃ y : Nat, w.cell? ⟨g, j, none⟩ = some (.int .i64 y) ∧ y < x) := fun j hj => by
    obtain ⟨y, h1, h2⟩ := flt_below (p := P) (x := x) (n := N) (j := j) (by omega) (by omega)
    exact ⟨y, HC.out j _ (fltV_cell h1), h2⟩
  have HUp : Hid (K < n → ∃ y : Nat, w.cell? ⟨g, K, none⟩ = some (.int .i64 y) ∧ x ≤ y ∧ (y = x ↔ P x = true)) := fun h => by
    have h1 : K < (flt P N).length := by omega
    have h2 := List.getElem?_eq_getElem h1
    refine ⟨(flt P N)[K], HC.out K _ (fltV_cell h2), flt_above (x := x) (by omega) (by omega) h2, ?_⟩
    have h3 := flt_head (p := P) (x := x) (n := N) hx
    rw [hK, h2] at h3
    simpa using h3
  have HEnd : Hid (K = n → P x = false) := fun h => by
    cases hp : P x with
    | false => rfl
    | true =>
      have h3 := (flt_head (p := P) (x := x) (n := N) hx).2 hp
      rw [hK, List.getElem?_eq_none (by omega)] at h3
      cases h3
  have HN := hide hn
  have HV := hide hv
  have HK := hide hK
  clear hv hn hK
  go_enter Tryd.func90, Tryd.ntmps90
  go_wp2_with fail
  go_loopg [5] (K + 1) (fun gn i wr => ∃ k : Nat, k ≤ K ∧ K - k < gn ∧ i = .int .i64 k ∧ Below w.heap.size w wr)
  case atStart => exact ⟨0, by omega, by omega, rfl, Below.refl _ _⟩
  case round =>
    obtain ⟨k, hk, hgn, rfl, hb⟩ := hrel
    have hzr := hb.size
    have l0 : g < wr.heap.size := by omega
    by_cases hkK : k < K
    · obtain ⟨y, hy, hyx⟩ := HLo.out k hkK
      have c0 : wr.cell? ⟨g, k, none⟩ = some (.int .i64 (y : Nat)) := (hb.cell (p := ⟨g, k, none⟩) hgl).trans hy
      have d1 : decide ((k : Int) < (n : Int)) = true := decide_eq_true (by omega)
      have d1' : decide (k < n) = true := decide_eq_true (by omega)
      have d2 : decide ((y : Int) < (x : Int)) = true := decide_eq_true (by omega)
      have d2' : decide (y < x) = true := decide_eq_true (by omega)
      clear hy
      go_wp2_with fail
      go_roundg (K - k)
      case measure => omega
      case rel => exact ⟨k + 1, by omega, by omega, by go_num, hb⟩
    · obtain rfl : k = K := by omega
      cases hp : P x with
      | true =>
        have hkn : k < n := by
          rcases Nat.lt_or_ge k n with h | h
          · exact h
          · have := HEnd.out (by omega)
            rw [hp] at this
            cases this
        obtain ⟨y, hy, _, hyx⟩ := HUp.out hkn
        have e := hyx.2 hp
        rw [e] at hy
        have c0 : wr.cell? ⟨g, k, none⟩ = some (.int .i64 (x : Nat)) := (hb.cell (p := ⟨g, k, none⟩) hgl).trans hy
        have d1 : decide ((k : Int) < (n : Int)) = true := decide_eq_true (by omega)
        have d1' : decide (k < n) = true := decide_eq_true hkn
        have HE : Hid (PRowI wr base (.slice (some ⟨g, 0, none⟩) n cap) (orP P x) N) := by
          show PRowI _ _ _ _ _
          rw [PRowI, fltV, orP_same hp]
          exact row_below HV.out hb (Nat.le_refl _)
        clear hy hyx e
        go_wp2_with fail
        go_ret
        exact ⟨_, rfl, HE.out, hb⟩
      | false =>
        have HO := hide (fltV_or hp hx)
        have hrs := (fltV_split P (Nat.le_of_lt hx)).2
        by_cases hkn : k < n
        · obtain ⟨y, hy, hy1, hy2⟩ := HUp.out hkn
          have hyx : x < y := by
            rcases Nat.lt_or_ge x y with h | h
            · exact h
            · have := hy2.1 (by omega)
              rw [hp] at this
              cases this
          have c0 : wr.cell? ⟨g, k, none⟩ = some (.int .i64 (y : Nat)) := (hb.cell (p := ⟨g, k, none⟩) hgl).trans hy
          have d1 : decide ((k : Int) < (n : Int)) = true := decide_eq_true (by omega)
          have d1' : decide (k < n) = true := decide_eq_true hkn
          have d2 : decide ((y : Int) < (x : Int)) = false := decide_eq_false (by omega)
          have d2' : decide (y < x) = false := decide_eq_false (by omega)
          have d3 : ((y : Int) == (x : Int)) = false := by simp; omega
          have d3' : (y == x) = false := by simp; omega
          have hck : ¬ cap = k := by omega
          clear hy hy1 hy2
          have r1 : (wr.alloc (.cells #[] 3)).ownsRow wr.heap.size 3 1 (.slice (some ⟨wr.heap.size, 0, none⟩) 0 0) 0 [] := by simpa using World.ownsRow_made wr (base := wr.heap.size) (e := 3) (size := 1) #[] 0 (by simp) (Nat.zero_le _) rfl
          go_wp2_with (at_builtin; refine wpList_append_own _ rfl _ _ 48 rfl wr.heap.size 3 ii (.int .i64 0) 1 8 Tryd.underlying48 hii iz0 iz1 iz2 rfl (by decide) _ 0 [] rfl r1 ⟨g, 0, none⟩ k cap (fltV P x) rfl ?_ ?_ ?_ ?_ ?_ ?_ ?_)
          · simp [fltV, HK.out]
          · intro j u hu
            rw [Addr.add_lit, Nat.zero_add]
            refine (World.cell?_alloc_lt _ _ _ l0).trans ((hb.cell (p := ⟨g, j, none⟩) hgl).trans (HC.out j u ?_))
            rw [(fltV_split P (Nat.le_of_lt hx)).1, List.getElem?_append_left]
            · exact hu
            · exact (List.getElem?_eq_some_iff.1 hu).1
          · intro u hu
            obtain ⟨i, _, rfl⟩ := List.mem_map.1 hu
            rfl
          · unfold maxLen; omega
          · omega
          · simp
          intro v2 w2 hown2 hg2 _
          have hb2 : Below wr.heap.size wr w2 := ((Below.refl wr.heap.size wr).alloc (Nat.le_refl _) _).grown hg2 (by simp) (fun q hq => (r1.lt q hq).1)
          have hz2 := hb2.size
          obtain ⟨B2, c2, rfl⟩ := row_form hown2
          go_wp2_with (at_builtin; refine wpList_append_own _ rfl _ _ 48 rfl wr.heap.size 3 ii (.int .i64 0) 1 8 Tryd.underlying48 hii iz0 iz1 iz2 rfl (by decide) _ k (fltV P x) rfl (hown2.alloc _) ⟨w2.heap.size, 0, none⟩ 1 1 [.int .i64 (x : Nat)] rfl rfl ?_ ?_ ?_ ?_ ?_ ?_)
          · intro i u hu
            match i, hu with
            | 0, hu => simp at hu; subst hu; simp [go_sem, Addr.add]
          · intro u hu; simp at hu; subst hu; rfl
          · unfold maxLen; omega
          · omega
          · simp; omega
          intro v3 w3 hown3 hg3 _
          have hb3 : Below wr.heap.size wr w3 := (hb2.alloc hz2 _).grown hg3 (by simp; omega) (fun q hq => (hown2.lt q hq).1)
          have hz3 := hb3.size
          obtain ⟨B3, c3, rfl⟩ := row_form hown3
          have hsl : ∀ W, (Instr.slice 48 (.slice (some ⟨g, 0, none⟩) n cap) (some (.int .i64 (k : Nat))) none none).run Tryd.prog W = .ok (.slice (some ⟨g, k, none⟩) (n - k) (cap - k)) W := fun W => by
            simp [go_sem, Tryd.underlying48, hck]
            omega
          go_wp2_with (at_builtin; refine wpList_append_own _ rfl _ _ 48 rfl wr.heap.size 3 ii (.int .i64 0) 1 8 Tryd.underlying48 hii iz0 iz1 iz2 rfl (by decide) _ _ _ rfl hown3 ⟨g, k, none⟩ _ _ ((fltR P x N).map (fun (i : Nat) => Value.int .i64 (i : Int))) rfl ?_ ?_ ?_ ?_ ?_ ?_ ?_)
          · simp
            have := HN.out
            have := HK.out
            omega
          · intro j u hu
            rw [Addr.add_lit]
            refine (hb3.cell (p := ⟨g, k + j, none⟩) l0).trans ((hb.cell (p := ⟨g, k + j, none⟩) hgl).trans (HC.out (k + j) u ?_))
            rw [(fltV_split P (Nat.le_of_lt hx)).1, List.getElem?_append_right (by simp [fltV, HK.out])]
            have e : (fltV P x).length = k := by simp [fltV, HK.out]
            rw [e, Nat.add_sub_cancel_left]
            exact hu
          · intro u hu
            obtain ⟨i, _, rfl⟩ := List.mem_map.1 hu
            rfl
          · unfold maxLen; omega
          · omega
          · omega
          intro v4 w4 hown4 hg4 _
          have hb4 : Below wr.heap.size wr w4 := hb3.grown hg4 hz3 (fun q hq => (hown3.lt q hq).1)
          have HF : Hid (PRowI w4 base v4 (orP P x) N) := by
            show PRowI _ _ _ _ _
            have e : (flt (orP P x) N).length = k + 1 + (n - k) := by
              rw [HO.out.2, HK.out]
              have := HN.out
              have := HK.out
              omega
            rw [PRowI, e, HO.out.1]
            have h5 := hown4.mono (show base ≤ wr.heap.size by omega)
            simpa using h5
          have hbw : Below w.heap.size w w4 := hb.trans (hb4.mono hzr)
          clear hown2 hown3 hown4 hg2 hg3 hg4
          go_wp2_with fail
          go_ret
          exact ⟨_, rfl, HF.out, hbw⟩
        · have HKN : Hid (n = k) := by show _ = _; omega
          have d1 : decide ((k : Int) < (n : Int)) = false := decide_eq_false (by omega)
          have d1' : decide (k < n) = false := decide_eq_false hkn
          have hkn2 : k ≤ n := hKn
          by_cases hck : cap = k
          · obtain rfl : k = cap := hck.symm
            clear hck
            have r1 : (wr.alloc (.cells #[] 3)).ownsRow wr.heap.size 3 1 (.slice (some ⟨wr.heap.size, 0, none⟩) 0 0) 0 [] := by simpa using World.ownsRow_made wr (base := wr.heap.size) (e := 3) (size := 1) #[] 0 (by simp) (Nat.zero_le _) rfl
            go_wp2_with (at_builtin; refine wpList_append_own _ rfl _ _ 48 rfl wr.heap.size 3 ii (.int .i64 0) 1 8 Tryd.underlying48 hii iz0 iz1 iz2 rfl (by decide) _ 0 [] rfl r1 ⟨g, 0, none⟩ k k (fltV P x) rfl ?_ ?_ ?_ ?_ ?_ ?_ ?_)
            · simp [fltV, HK.out]
            · intro j u hu
              rw [Addr.add_lit, Nat.zero_add]
              refine (World.cell?_alloc_lt _ _ _ l0).trans ((hb.cell (p := ⟨g, j, none⟩) hgl).trans (HC.out j u ?_))
              rw [(fltV_split P (Nat.le_of_lt hx)).1, List.getElem?_append_left]
              · exact hu
              · exact (List.getElem?_eq_some_iff.1 hu).1
            · intro u hu
              obtain ⟨i, _, rfl⟩ := List.mem_map.1 hu
              rfl
            · unfold maxLen; omega
            · omega
            · simp
            intro v2 w2 hown2 hg2 _
            have hb2 : Below wr.heap.size wr w2 := ((Below.refl wr.heap.size wr).alloc (Nat.le_refl _) _).grown hg2 (by simp) (fun q hq => (r1.lt q hq).1)
            have hz2 := hb2.size
            obtain ⟨B2, c2, rfl⟩ := row_form hown2
            go_wp2_with (at_builtin; refine wpList_append_own _ rfl _ _ 48 rfl wr.heap.size 3 ii (.int .i64 0) 1 8 Tryd.underlying48 hii iz0 iz1 iz2 rfl (by decide) _ k (fltV P x) rfl (hown2.alloc _) ⟨w2.heap.size, 0, none⟩ 1 1 [.int .i64 (x : Nat)] rfl rfl ?_ ?_ ?_ ?_ ?_ ?_)
            · intro i u hu
              match i, hu with
              | 0, hu => simp at hu; subst hu; simp [go_sem, Addr.add]
            · intro u hu; simp at hu; subst hu; rfl
            · unfold maxLen; omega
            · omega
            · simp; omega
            intro v3 w3 hown3 hg3 _
            have hb3 : Below wr.heap.size wr w3 := (hb2.alloc hz2 _).grown hg3 (by simp; omega) (fun q hq => (hown2.lt q hq).1)
            have hz3 := hb3.size
            obtain ⟨B3, c3, rfl⟩ := row_form hown3
            have hsl : ∀ W, (Instr.slice 48 (.slice (some ⟨g, 0, none⟩) n k) (some (.int .i64 (k : Nat))) none none).run Tryd.prog W = .ok (.slice (some ⟨g, 0, none⟩) (n - k) 0) W := fun W => by
              simp [go_sem, Tryd.underlying48]
              omega
            go_wp2_with (at_builtin; refine wpList_append_own _ rfl _ _ 48 rfl wr.heap.size 3 ii (.int .i64 0) 1 8 Tryd.underlying48 hii iz0 iz1 iz2 rfl (by decide) _ _ _ rfl hown3 ⟨g, 0, none⟩ _ _ ((fltR P x N).map (fun (i : Nat) => Value.int .i64 (i : Int))) rfl ?_ ?_ ?_ ?_ ?_ ?_ ?_)
            · have := HN.out
              have := HK.out
              have := HKN.out
              have e : (fltR P x N).length = 0 := by omega
              simp [List.eq_nil_of_length_eq_zero e]
            · intro j u hu
              have h0 := (List.getElem?_eq_some_iff.1 hu).1
              simp at h0
              have := HN.out
              have := HK.out
              have := HKN.out
              omega
            · intro u hu
              obtain ⟨i, _, rfl⟩ := List.mem_map.1 hu
              rfl
            · unfold maxLen; omega
            · omega
            · omega
            intro v4 w4 hown4 hg4 _
            have hb4 : Below wr.heap.size wr w4 := hb3.grown hg4 hz3 (fun q hq => (hown3.lt q hq).1)
            have HF : Hid (PRowI w4 base v4 (orP P x) N) := by
              show PRowI _ _ _ _ _
              have e : (flt (orP P x) N).length = k + 1 + (n - k) := by
                rw [HO.out.2, HK.out]
                have := HN.out
                have := HK.out
                omega
              rw [PRowI, e, HO.out.1]
              have h5 := hown4.mono (show base ≤ wr.heap.size by omega)
              rw [show k + 1 + (n - k) = k + 1 by have := HKN.out; omega]
              simpa using h5
            have hbw : Below w.heap.size w w4 := hb.trans (hb4.mono hzr)
            clear hown2 hown3 hown4 hg2 hg3 hg4
            go_wp2_with fail
            go_ret
            exact ⟨_, rfl, HF.out, hbw⟩
          · skip
            have r1 : (wr.alloc (.cells #[] 3)).ownsRow wr.heap.size 3 1 (.slice (some ⟨wr.heap.size, 0, none⟩) 0 0) 0 [] := by simpa using World.ownsRow_made wr (base := wr.heap.size) (e := 3) (size := 1) #[] 0 (by simp) (Nat.zero_le _) rfl
            go_wp2_with (at_builtin; refine wpList_append_own _ rfl _ _ 48 rfl wr.heap.size 3 ii (.int .i64 0) 1 8 Tryd.underlying48 hii iz0 iz1 iz2 rfl (by decide) _ 0 [] rfl r1 ⟨g, 0, none⟩ k cap (fltV P x) rfl ?_ ?_ ?_ ?_ ?_ ?_ ?_)
            · simp [fltV, HK.out]
            · intro j u hu
              rw [Addr.add_lit, Nat.zero_add]
              refine (World.cell?_alloc_lt _ _ _ l0).trans ((hb.cell (p := ⟨g, j, none⟩) hgl).trans (HC.out j u ?_))
              rw [(fltV_split P (Nat.le_of_lt hx)).1, List.getElem?_append_left]
              · exact hu
              · exact (List.getElem?_eq_some_iff.1 hu).1
            · intro u hu
              obtain ⟨i, _, rfl⟩ := List.mem_map.1 hu
              rfl
            · unfold maxLen; omega
            · omega
            · simp
            intro v2 w2 hown2 hg2 _
            have hb2 : Below wr.heap.size wr w2 := ((Below.refl wr.heap.size wr).alloc (Nat.le_refl _) _).grown hg2 (by simp) (fun q hq => (r1.lt q hq).1)
            have hz2 := hb2.size
            obtain ⟨B2, c2, rfl⟩ := row_form hown2
            go_wp2_with (at_builtin; refine wpList_append_own _ rfl _ _ 48 rfl wr.heap.size 3 ii (.int .i64 0) 1 8 Tryd.underlying48 hii iz0 iz1 iz2 rfl (by decide) _ k (fltV P x) rfl (hown2.alloc _) ⟨w2.heap.size, 0, none⟩ 1 1 [.int .i64 (x : Nat)] rfl rfl ?_ ?_ ?_ ?_ ?_ ?_)
            · intro i u hu
              match i, hu with
              | 0, hu => simp at hu; subst hu; simp [go_sem, Addr.add]
            · intro u hu; simp at hu; subst hu; rfl
            · unfold maxLen; omega
            · omega
            · simp; omega
            intro v3 w3 hown3 hg3 _
            have hb3 : Below wr.heap.size wr w3 := (hb2.alloc hz2 _).grown hg3 (by simp; omega) (fun q hq => (hown2.lt q hq).1)
            have hz3 := hb3.size
            obtain ⟨B3, c3, rfl⟩ := row_form hown3
            have hsl : ∀ W, (Instr.slice 48 (.slice (some ⟨g, 0, none⟩) n cap) (some (.int .i64 (k : Nat))) none none).run Tryd.prog W = .ok (.slice (some ⟨g, k, none⟩) (n - k) (cap - k)) W := fun W => by
              simp [go_sem, Tryd.underlying48, hck]
              omega
            go_wp2_with (at_builtin; refine wpList_append_own _ rfl _ _ 48 rfl wr.heap.size 3 ii (.int .i64 0) 1 8 Tryd.underlying48 hii iz0 iz1 iz2 rfl (by decide) _ _ _ rfl hown3 ⟨g, k, none⟩ _ _ ((fltR P x N).map (fun (i : Nat) => Value.int .i64 (i : Int))) rfl ?_ ?_ ?_ ?_ ?_ ?_ ?_)
            · simp
              have := HN.out
              have := HK.out
              omega
            · intro j u hu
              rw [Addr.add_lit]
              refine (hb3.cell (p := ⟨g, k + j, none⟩) l0).trans ((hb.cell (p := ⟨g, k + j, none⟩) hgl).trans (HC.out (k + j) u ?_))
              rw [(fltV_split P (Nat.le_of_lt hx)).1, List.getElem?_append_right (by simp [fltV, HK.out])]
              have e : (fltV P x).length = k := by simp [fltV, HK.out]
              rw [e, Nat.add_sub_cancel_left]
              exact hu
            · intro u hu
              obtain ⟨i, _, rfl⟩ := List.mem_map.1 hu
              rfl
            · unfold maxLen; omega
            · omega
            · omega
            intro v4 w4 hown4 hg4 _
            have hb4 : Below wr.heap.size wr w4 := hb3.grown hg4 hz3 (fun q hq => (hown3.lt q hq).1)
            have HF : Hid (PRowI w4 base v4 (orP P x) N) := by
              show PRowI _ _ _ _ _
              have e : (flt (orP P x) N).length = k + 1 + (n - k) := by
                rw [HO.out.2, HK.out]
                have := HN.out
                have := HK.out
                omega
              rw [PRowI, e, HO.out.1]
              have h5 := hown4.mono (show base ≤ wr.heap.size by omega)
              simpa using h5
            have hbw : Below w.heap.size w w4 := hb.trans (hb4.mono hzr)
            clear hown2 hown3 hown4 hg2 hg3 hg4
            go_wp2_with fail
            go_ret
            exact ⟨_, rfl, HF.out, hbw⟩

end Go.Proofs.YtpckhpkbdanjoaaDoor
