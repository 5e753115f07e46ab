/-
  Texts of this proof, one behind the other (part 8).
-/
import Derived.Test.YtnmmkechkcfjnaaGreatDoorQ7
import Derived.Sort.EncStr
import Derived.Deep.Onto
import Derived.Deep.DeepAppendRoom
/-
  Walks: the reference puts a text in its place.-/
namespace Go.Proofs.YtnmmkechkcfjnaaGreatDoor
set_option linter.unusedVariables false
set_option linter.unusedSimpArgs false
open Go.RowKit Go.Sort

theorem infoStrP : (Tryz.prog.info? 9).map (fun i => (i.zero, i.size, i.bytes)) = some (some (.string ⟨#[]⟩), 1, 16) := by kernel_rfl
/-- A row of the call's own that holds texts. -/
def TRow (w : World) (base : Nat) (v : Value) (l : List (List UInt8)) : Prop := w.ownsRow base 9 1 v l.length (l.map encStr)
def tl (l : List (List UInt8)) (i : Nat) : ByteArray := ⟨(l.getD i []).toArray⟩
theorem tl_list (l : List (List UInt8)) (i : Nat) : (tl l i).toList = l.getD i [] := by rw [ByteArray.toList_eq]; simp [tl]
theorem TRow.own {w : World} {base : Nat} {v : Value} {l : List (List UInt8)} (h : TRow w base v l) : Own w base w.heap.size 9 1 v l.length l.length (sC (tl l)) := by
  refine ⟨_, h, fun g hg => (h.lt g hg).2, fun i j hi hj => ?_⟩
  obtain rfl : j = 0 := by omega
  simp [tl, sC, hi]
theorem enc_one {l : List (List UInt8)} : ∀ u ∈ l.map encStr, u.oneCell' = true := by
  intro u hu
  obtain ⟨x, _, rfl⟩ := List.mem_map.1 hu
  rfl
theorem put_at {l : List (List UInt8)} {s : ByteArray} {k : Nat} (hk : k ≤ l.length) (h1 : ∀ j, j < k → Op.bytesLess (tl l j).toList s.toList = true) (h2 : k = l.length ∨ Op.bytesLess (tl l k).toList s.toList = false) :
    putL s.toList l = if (k < l.length ∧ tl l k = s) then l else l.take k ++ (s.toList :: l.drop k) := by
  have e := putL_split s.toList (a := l.take k) (b := l.drop k) (fun x hx => by
    obtain ⟨j, hj, rfl⟩ := List.mem_iff_getElem.1 hx
    have hj' : j < k := by simp at hj; omega
    have := h1 j hj'
    rw [tl_list] at this
    have hjl : j < l.length := by omega
    simpa [hjl] using this) (fun y hy => by
    rcases h2 with h2 | h2
    · subst h2; simp at hy
    · rcases Nat.lt_or_ge k l.length with h3 | h3
      · rw [tl_list] at h2
        rw [List.head?_drop] at hy
        simp [h3] at hy h2
        subst hy
        rw [BL, h2]
        simp
      · rw [List.drop_eq_nil_of_le h3] at hy; simp at hy)
  rw [List.take_append_drop] at e
  rw [e]
  by_cases h3 : k < l.length
  · rw [List.head?_drop]
    have : (l[k]? = some s.toList) ↔ (k < l.length ∧ tl l k = s) := by
      constructor
      · intro h4
        refine ⟨h3, toList_inj ?_⟩
        rw [tl_list]
        simp [h3] at h4 ⊢
        exact h4
      · rintro ⟨_, h4⟩
        rw [← h4, tl_list]
        simp [h3]
    simp only [this]
  · rw [List.drop_eq_nil_of_le (by omega)]
    simp [h3]
theorem put_fin {l : List (List UInt8)} {s : ByteArray} {k n base : Nat} {w wr : World} (hn : l.length = n) (hkn : k ≤ n) (hE : putL s.toList l = l.take k ++ (s.toList :: l.drop k)) (hb : Below w.heap.size w wr) (hb0 : base ≤ w.heap.size) (A : Option Addr) (c : Nat) (W : World)
    (h : W.ownsRow wr.heap.size 9 1 (.slice A (k + 1 + (n - k)) c) (k + 1 + (n - k)) ((l.take k).map encStr ++ [.string s] ++ (l.drop k).map encStr)) (hW : Below wr.heap.size wr.drew W) :
    ∃ v', Ending.returned (.slice A (k + 1 + (n - k)) c) = .returned v' ∧ TRow W base v' (putL s.toList l) ∧ Below w.heap.size w W := by
  have hs : Value.string s = encStr s.toList := by
    show Value.string s = .string ⟨s.toList.toArray⟩
    rw [ByteArray.toList_eq]
  have hz := hb.size
  refine ⟨_, rfl, ?_, (Below.drew hb).trans (hW.mono hz)⟩
  have e1 : (putL s.toList l).length = k + 1 + (n - k) := by rw [hE]; simp; omega
  have e2 : (putL s.toList l).map encStr = (l.take k).map encStr ++ [.string s] ++ (l.drop k).map encStr := by rw [hE, hs]; simp
  rw [TRow, e1, e2]
  exact h.mono (by omega)
set_option maxRecDepth 100000 in
set_option maxHeartbeats 6400000 in
theorem rfPut_some (l : List (List UInt8)) (s : ByteArray) (base n g cap : Nat) (w : World) (hn : l.length = n) (hv : TRow w base (.slice (some ⟨g, 0, none⟩) n cap) l) (hb0 : base ≤ w.heap.size) (hl : n ≤ 64) :
    Calls Tryz.prog 57 #[.slice (some ⟨g, 0, none⟩) n cap, .string s] w fun e w' => ∃ v', e = .returned v' ∧ TRow w' base v' (putL s.toList l) ∧ Below w.heap.size w w' := by
  obtain ⟨ii, hii, iz0, iz1, iz2⟩ := info_parts infoStrP
  have hnc : n ≤ cap ∧ cap ≤ maxLen := by
    rcases hv.2 with ⟨h0, _⟩ | ⟨g', cap', cur, h0, _, _, h1, h2, _⟩
    · cases h0
    · cases h0; exact ⟨by rw [← hn]; exact h1, h2⟩
  obtain ⟨hcap, hcm⟩ := hnc
  unfold maxLen at hcm
  have hgl : g < w.heap.size := (hv.lt g rfl).2
  have HC : Hid (∀ (j : Nat) u, (l.map encStr)[j]? = some u → w.cell? ⟨g, j, none⟩ = some u) := fun j u hu => by
    have := hv.cells rfl j u hu
    rwa [Addr.add_lit, Nat.zero_add] at this
  have HN := hide hn
  have HV := hide hv
  have hcl : ∀ j, j < n → w.cell? ⟨g, j, none⟩ = some (.string (tl l j)) := fun j hj => by
    exact HC.out j (.string (tl l j)) (by rw [List.getElem?_map]; simp [tl, HN.out, hj])
  have HL := hide hcl
  clear hv hn hcl
  go_enter Tryz.func57, Tryz.ntmps57
  go_wp2_with fail
  go_loopw [5] (fun i wr => ∃ k : Nat, k ≤ n ∧ i = .int .i64 k ∧ Hid (∀ j, j < k → Op.bytesLess (tl l j).toList s.toList = true) ∧ Below w.heap.size w wr) (fun i _ => n - (intOf i).toNat)
  case atStart => exact ⟨0, by omega, rfl, fun j hj => by omega, Below.refl _ _⟩
  case round =>
    obtain ⟨k, hk, rfl, hj, hb⟩ := hrel
    have hzr := hb.size
    have l0 : g < wr.heap.size := by omega
    have hct : Hid (∀ W, Below wr.heap.size wr.drew W → ∀ j u, ((l.take k).map encStr)[j]? = some u → W.cell? ((⟨g, 0, none⟩ : Addr).add j) = some u) := fun W hW j u hu => by
      rw [Addr.add_lit, Nat.zero_add]
      refine (hW.cell (p := ⟨g, j, none⟩) l0).trans ((hb.cell (p := ⟨g, j, none⟩) hgl).trans (HC.out j u ?_))
      rw [List.getElem?_map] at hu ⊢
      rcases Nat.lt_or_ge j k with h | h
      · rwa [List.getElem?_take_of_lt h] at hu
      · rw [List.getElem?_eq_none (by simp; omega)] at hu; cases hu
    have hcd : Hid (∀ W, Below wr.heap.size wr.drew W → ∀ j u, ((l.drop k).map encStr)[j]? = some u → W.cell? ((⟨g, k, none⟩ : Addr).add j) = some u) := fun W hW j u hu => by
      rw [Addr.add_lit]
      refine (hW.cell (p := ⟨g, k + j, none⟩) l0).trans ((hb.cell (p := ⟨g, k + j, none⟩) hgl).trans (HC.out (k + j) u ?_))
      rw [List.getElem?_map] at hu ⊢
      rwa [List.getElem?_drop] at hu
    by_cases hkn : k < n
    · have c0 : wr.cell? ⟨g, k, none⟩ = some (.string (tl l k)) := (hb.cell (p := ⟨g, k, none⟩) hgl).trans (HL.out k hkn)
      cases e1 : Op.bytesLess (tl l k).toList s.toList with
      | true =>
        clear hct hcd
        go_wp2_with fail
        go_roundw
        case rel => exact ⟨k + 1, by omega, by go_num, fun j hj' => by
          rcases Nat.lt_or_ge j k with h | h
          · exact hj.out j h
          · obtain rfl : j = k := by omega
            exact e1, (by repeat (first | (with_reducible exact Below.refl _ _) | (with_reducible refine below_ov ?_ ?_) | (with_reducible refine Below.setCell ?_ ?_ _) | (with_reducible refine Below.alloc ?_ ?_ _) | (with_reducible refine Below.drew ?_) | (with_reducible refine below_drewN ?_ _) | (refine Below.trans ?_ (Below.mono ‹Below _ _ _› (by first | omega | (simp; done) | (simp; omega)))) | exact Below.refl _ _ | omega | (focus (simp; done)) | (focus (simp; omega))))⟩
        case measure => simp [intOf]; omega
      | false =>
        have hput := hide (put_at (l := l) (s := s) (k := k) (by rw [HN.out]; omega) hj.out (.inr e1))
        cases e2 : ((tl l k).toList == s.toList) with
        | true =>
          have HE : Hid (putL s.toList l = l) := by
            show _ = _
            rw [hput.out, if_pos ⟨by rw [HN.out]; omega, by rw [str_beq] at e2; exact of_decide_eq_true e2⟩]
          clear hct hcd
          go_wp2_with fail
          go_ret
          refine ⟨_, rfl, ?_, hb⟩
          rw [HE.out]
          exact row_below HV.out hb (Nat.le_refl _)
        | false =>
          have HE : Hid (putL s.toList l = l.take k ++ (s.toList :: l.drop k)) := by
            show _ = _
            rw [hput.out, if_neg (fun h => by rw [str_beq] at e2; exact of_decide_eq_false e2 h.2)]
          have HFIN := hide (put_fin (base := base) HN.out hk HE.out hb hb0)
          have hck : ¬ cap = k := by omega
          go_wp2_with fail
          refine wp_region_tree (.step 1 true (.step 2 true (.step 3 true (.step 5 true (.step 8 true (.step 9 true (.step 10 true (.fork 0 (.fork 4 (.step 6 false (.step 7 false (.step 11 false (.step 12 true .nil)))) 6 (.step 4 false (.step 7 false (.step 11 false (.step 12 true .nil))))) 6 (.step 0 false (.step 4 false (.step 7 false (.step 11 false (.step 12 true .nil))))))))))))) (fun w' => Below wr.heap.size wr.drew w') (by kernel_rfl) (by kernel_rfl) (by kernel_rfl) (by kernel_rfl) (Below.refl _ _) ?_
          refine tree_look _ _ rfl rfl (fun w' _ => BigFrame.run_move _ rfl w') ?_
          go_simp
          refine tree_look _ _ rfl rfl (fun w' _ => BigFrame.run_move _ rfl w') ?_
          go_simp
          refine tree_look _ (.slice (some ⟨g, 0, none⟩) k cap) rfl rfl (fun w' _ => (by go_simp; try (intro h; omega))) ?_
          go_simp
          refine tree_look _ _ rfl rfl (fun w' _ => BigFrame.run_move _ rfl w') ?_
          go_simp
          refine tree_look _ _ rfl rfl (fun w' _ => BigFrame.run_move _ rfl w') ?_
          go_simp
          refine tree_look _ _ rfl rfl (fun w' _ => BigFrame.run_move _ rfl w') ?_
          go_simp
          refine tree_look _ (.slice (some ⟨g, k, none⟩) (n - k) (cap - k)) rfl rfl (fun w' _ => (by go_simp)) ?_
          go_simp
          refine wpMT_fork ?_ ?_
          · have r1 : (wr.drew.alloc (.cells #[] 9)).ownsRow wr.heap.size 9 1 (.slice (some ⟨wr.heap.size, 0, none⟩) 0 0) 0 [] := by simpa using World.ownsRow_made wr.drew (base := wr.heap.size) (e := 9) (size := 1) #[] 0 (by simp) (Nat.zero_le _) rfl
            refine tree_value _ (.slice (some ⟨wr.heap.size, 0, none⟩) 0 0) (wr.drew.alloc (.cells #[] 9)) rfl rfl (by go_simp) ((Below.refl wr.heap.size wr.drew).alloc (by simp) _) ?_
            go_simp
            have hb1 : Below wr.heap.size wr.drew (wr.drew.alloc (.cells #[] 9)) := ((Below.refl wr.heap.size wr.drew).alloc (by simp) _)
            refine wpMT_fork ?_ ?_
            · obtain ⟨v2, w2, q2, r2, g2, _⟩ := run_append_own (P := Tryz.prog) (wr.drew.alloc (.cells #[] 9)) wr.heap.size 24 24 9 ii (.string ⟨#[]⟩) 1 16 Tryz.underlying24 hii iz0 iz1 iz2 rfl (by decide) _ _ _ r1 ⟨g, 0, none⟩ k cap ((l.take k).map encStr) (by simp [HN.out]; try omega) (hct.out (wr.drew.alloc (.cells #[] 9)) hb1) enc_one (by unfold maxLen; omega) (by omega) (by have := hb1.size; simp at this ⊢; try omega)
              have hb2 : Below wr.heap.size wr.drew w2 := hb1.grown g2 (by have := hb1.size; simp at this ⊢; try omega) (fun x hx => (r1.lt x hx).1)
              refine tree_value _ v2 w2 rfl rfl (run_op_append _ _ 24 rfl rfl rfl q2) hb2 ?_
              obtain ⟨A2, c2, rfl⟩ := row_form r2
              go_simp
              simp only [Nat.zero_add, List.nil_append] at r2
              refine wpMT_eff ?_
              refine tree_value _ (.slice (some ⟨w2.heap.size, 0, none⟩) 1 1) (w2.alloc (.cells #[.string s] 9)) rfl rfl (by go_simp) (hb2.alloc (by have := hb2.size; simp at this ⊢; try omega) _) ?_
              go_simp
              have hb3 : Below wr.heap.size wr.drew (w2.alloc (.cells #[.string s] 9)) := hb2.alloc (by have := hb2.size; simp at this ⊢; try omega) _
              have d3 : (w2.alloc (.cells #[.string s] 9)).cell? ⟨w2.heap.size, 0, none⟩ = some (.string s) := by simp [go_sem]
              have r3 := r2.alloc (.cells #[.string s] 9)
              refine wpMT_eff ?_
              obtain ⟨v4, w4, q4, r4, g4, _⟩ := run_append_own (P := Tryz.prog) (w2.alloc (.cells #[.string s] 9)) wr.heap.size 24 24 9 ii (.string ⟨#[]⟩) 1 16 Tryz.underlying24 hii iz0 iz1 iz2 rfl (by decide) _ _ _ r3 ⟨w2.heap.size, 0, none⟩ 1 1 [.string s] rfl (by intro j u hu; match j, hu with | 0, hu => (simp at hu; subst hu; exact d3)) (by intro u hu; simp at hu; subst hu; rfl) (by unfold maxLen; omega) (by omega) (by have := hb3.size; simp at this ⊢; try omega)
              have hb4 : Below wr.heap.size wr.drew w4 := hb3.grown g4 (by have := hb3.size; simp at this ⊢; try omega) (fun x hx => (r3.lt x hx).1)
              refine tree_value _ v4 w4 rfl rfl (run_op_append _ _ 24 rfl rfl rfl q4) hb4 ?_
              obtain ⟨A4, c4, rfl⟩ := row_form r4
              go_simp
              refine wpMT_eff ?_
              obtain ⟨v5, w5, q5, r5, g5, _⟩ := run_append_own (P := Tryz.prog) w4 wr.heap.size 24 24 9 ii (.string ⟨#[]⟩) 1 16 Tryz.underlying24 hii iz0 iz1 iz2 rfl (by decide) _ _ _ r4 ⟨g, k, none⟩ (n - k) (cap - k) ((l.drop k).map encStr) (by simp [HN.out]; try omega) (hcd.out w4 hb4) enc_one (by unfold maxLen; omega) (by omega) (by have := hb4.size; simp at this ⊢; try omega)
              have hb5 : Below wr.heap.size wr.drew w5 := hb4.grown g5 (by have := hb4.size; simp at this ⊢; try omega) (fun x hx => (r4.lt x hx).1)
              refine tree_value _ v5 w5 rfl rfl (run_op_append _ _ 24 rfl rfl rfl q5) hb5 ?_
              obtain ⟨A5, c5, rfl⟩ := row_form r5
              go_simp
              refine tree_look _ _ rfl rfl (fun w' _ => BigFrame.run_assign _ rfl w') ?_
              go_simp
              refine wpMT_nil ?_
              go_wp2_with fail
              go_ret
              exact HFIN.out _ _ _ r5 hb5
            · refine tree_value _ (.slice (some ⟨wr.heap.size + 1, 0, none⟩) 1 1) ((wr.drew.alloc (.cells #[] 9)).alloc (.cells #[.string s] 9)) rfl rfl (by go_simp) (hb1.alloc (by have := hb1.size; simp at this ⊢; try omega) _) ?_
              go_simp
              have hb2 : Below wr.heap.size wr.drew ((wr.drew.alloc (.cells #[] 9)).alloc (.cells #[.string s] 9)) := hb1.alloc (by have := hb1.size; simp at this ⊢; try omega) _
              have d2 : ((wr.drew.alloc (.cells #[] 9)).alloc (.cells #[.string s] 9)).cell? ⟨wr.heap.size + 1, 0, none⟩ = some (.string s) := by simp [go_sem]
              have r2 := r1.alloc (.cells #[.string s] 9)
              refine wpMT_eff ?_
              obtain ⟨v3, w3, q3, r3, g3, _⟩ := run_append_own (P := Tryz.prog) ((wr.drew.alloc (.cells #[] 9)).alloc (.cells #[.string s] 9)) wr.heap.size 24 24 9 ii (.string ⟨#[]⟩) 1 16 Tryz.underlying24 hii iz0 iz1 iz2 rfl (by decide) _ _ _ r2 ⟨g, 0, none⟩ k cap ((l.take k).map encStr) (by simp [HN.out]; try omega) (hct.out ((wr.drew.alloc (.cells #[] 9)).alloc (.cells #[.string s] 9)) hb2) enc_one (by unfold maxLen; omega) (by omega) (by have := hb2.size; simp at this ⊢; try omega)
              have hb3 : Below wr.heap.size wr.drew w3 := hb2.grown g3 (by have := hb2.size; simp at this ⊢; try omega) (fun x hx => (r2.lt x hx).1)
              refine tree_value _ v3 w3 rfl rfl (run_op_append _ _ 24 rfl rfl rfl q3) hb3 ?_
              obtain ⟨A3, c3, rfl⟩ := row_form r3
              go_simp
              have d3 := g3.cell d2 (by simp [Value.ownBlock]; try omega)
              simp only [Nat.zero_add, List.nil_append] at r3
              refine wpMT_eff ?_
              obtain ⟨v4, w4, q4, r4, g4, _⟩ := run_append_own (P := Tryz.prog) w3 wr.heap.size 24 24 9 ii (.string ⟨#[]⟩) 1 16 Tryz.underlying24 hii iz0 iz1 iz2 rfl (by decide) _ _ _ r3 ⟨wr.heap.size + 1, 0, none⟩ 1 1 [.string s] rfl (by intro j u hu; match j, hu with | 0, hu => (simp at hu; subst hu; exact d3)) (by intro u hu; simp at hu; subst hu; rfl) (by unfold maxLen; omega) (by omega) (by have := hb3.size; simp at this ⊢; try omega)
              have hb4 : Below wr.heap.size wr.drew w4 := hb3.grown g4 (by have := hb3.size; simp at this ⊢; try omega) (fun x hx => (r3.lt x hx).1)
              refine tree_value _ v4 w4 rfl rfl (run_op_append _ _ 24 rfl rfl rfl q4) hb4 ?_
              obtain ⟨A4, c4, rfl⟩ := row_form r4
              go_simp
              refine wpMT_eff ?_
              obtain ⟨v5, w5, q5, r5, g5, _⟩ := run_append_own (P := Tryz.prog) w4 wr.heap.size 24 24 9 ii (.string ⟨#[]⟩) 1 16 Tryz.underlying24 hii iz0 iz1 iz2 rfl (by decide) _ _ _ r4 ⟨g, k, none⟩ (n - k) (cap - k) ((l.drop k).map encStr) (by simp [HN.out]; try omega) (hcd.out w4 hb4) enc_one (by unfold maxLen; omega) (by omega) (by have := hb4.size; simp at this ⊢; try omega)
              have hb5 : Below wr.heap.size wr.drew w5 := hb4.grown g5 (by have := hb4.size; simp at this ⊢; try omega) (fun x hx => (r4.lt x hx).1)
              refine tree_value _ v5 w5 rfl rfl (run_op_append _ _ 24 rfl rfl rfl q5) hb5 ?_
              obtain ⟨A5, c5, rfl⟩ := row_form r5
              go_simp
              refine tree_look _ _ rfl rfl (fun w' _ => BigFrame.run_assign _ rfl w') ?_
              go_simp
              refine wpMT_nil ?_
              go_wp2_with fail
              go_ret
              exact HFIN.out _ _ _ r5 hb5
          · refine tree_value _ (.slice (some ⟨wr.heap.size, 0, none⟩) 1 1) (wr.drew.alloc (.cells #[.string s] 9)) rfl rfl (by go_simp) ((Below.refl wr.heap.size wr.drew).alloc (by have := (Below.refl wr.heap.size wr.drew).size; simp at this ⊢; try omega) _) ?_
            go_simp
            have hb1 : Below wr.heap.size wr.drew (wr.drew.alloc (.cells #[.string s] 9)) := (Below.refl wr.heap.size wr.drew).alloc (by have := (Below.refl wr.heap.size wr.drew).size; simp at this ⊢; try omega) _
            have d1 : (wr.drew.alloc (.cells #[.string s] 9)).cell? ⟨wr.heap.size, 0, none⟩ = some (.string s) := by simp [go_sem]
            refine wpMT_eff ?_
            have r2 : ((wr.drew.alloc (.cells #[.string s] 9)).alloc (.cells #[] 9)).ownsRow wr.heap.size 9 1 (.slice (some ⟨wr.heap.size + 1, 0, none⟩) 0 0) 0 [] := by simpa using World.ownsRow_made (wr.drew.alloc (.cells #[.string s] 9)) (base := wr.heap.size) (e := 9) (size := 1) #[] 0 (by simp) (Nat.zero_le _) rfl
            refine tree_value _ (.slice (some ⟨wr.heap.size + 1, 0, none⟩) 0 0) ((wr.drew.alloc (.cells #[.string s] 9)).alloc (.cells #[] 9)) rfl rfl (by go_simp) (hb1.alloc (by simp) _) ?_
            go_simp
            have hb2 : Below wr.heap.size wr.drew ((wr.drew.alloc (.cells #[.string s] 9)).alloc (.cells #[] 9)) := (hb1.alloc (by simp) _)
            have d2 := (World.cell?_alloc_lt (w := (wr.drew.alloc (.cells #[.string s] 9))) (.cells #[] 9) ⟨wr.heap.size, 0, none⟩ (by simp)).trans d1
            refine wpMT_eff ?_
            obtain ⟨v3, w3, q3, r3, g3, _⟩ := run_append_own (P := Tryz.prog) ((wr.drew.alloc (.cells #[.string s] 9)).alloc (.cells #[] 9)) wr.heap.size 24 24 9 ii (.string ⟨#[]⟩) 1 16 Tryz.underlying24 hii iz0 iz1 iz2 rfl (by decide) _ _ _ r2 ⟨g, 0, none⟩ k cap ((l.take k).map encStr) (by simp [HN.out]; try omega) (hct.out ((wr.drew.alloc (.cells #[.string s] 9)).alloc (.cells #[] 9)) hb2) enc_one (by unfold maxLen; omega) (by omega) (by have := hb2.size; simp at this ⊢; try omega)
            have hb3 : Below wr.heap.size wr.drew w3 := hb2.grown g3 (by have := hb2.size; simp at this ⊢; try omega) (fun x hx => (r2.lt x hx).1)
            refine tree_value _ v3 w3 rfl rfl (run_op_append _ _ 24 rfl rfl rfl q3) hb3 ?_
            obtain ⟨A3, c3, rfl⟩ := row_form r3
            go_simp
            have d3 := g3.cell d2 (by simp [Value.ownBlock]; try omega)
            simp only [Nat.zero_add, List.nil_append] at r3
            refine wpMT_eff ?_
            obtain ⟨v4, w4, q4, r4, g4, _⟩ := run_append_own (P := Tryz.prog) w3 wr.heap.size 24 24 9 ii (.string ⟨#[]⟩) 1 16 Tryz.underlying24 hii iz0 iz1 iz2 rfl (by decide) _ _ _ r3 ⟨wr.heap.size, 0, none⟩ 1 1 [.string s] rfl (by intro j u hu; match j, hu with | 0, hu => (simp at hu; subst hu; exact d3)) (by intro u hu; simp at hu; subst hu; rfl) (by unfold maxLen; omega) (by omega) (by have := hb3.size; simp at this ⊢; try omega)
            have hb4 : Below wr.heap.size wr.drew w4 := hb3.grown g4 (by have := hb3.size; simp at this ⊢; try omega) (fun x hx => (r3.lt x hx).1)
            refine tree_value _ v4 w4 rfl rfl (run_op_append _ _ 24 rfl rfl rfl q4) hb4 ?_
            obtain ⟨A4, c4, rfl⟩ := row_form r4
            go_simp
            refine wpMT_eff ?_
            obtain ⟨v5, w5, q5, r5, g5, _⟩ := run_append_own (P := Tryz.prog) w4 wr.heap.size 24 24 9 ii (.string ⟨#[]⟩) 1 16 Tryz.underlying24 hii iz0 iz1 iz2 rfl (by decide) _ _ _ r4 ⟨g, k, none⟩ (n - k) (cap - k) ((l.drop k).map encStr) (by simp [HN.out]; try omega) (hcd.out w4 hb4) enc_one (by unfold maxLen; omega) (by omega) (by have := hb4.size; simp at this ⊢; try omega)
            have hb5 : Below wr.heap.size wr.drew w5 := hb4.grown g5 (by have := hb4.size; simp at this ⊢; try omega) (fun x hx => (r4.lt x hx).1)
            refine tree_value _ v5 w5 rfl rfl (run_op_append _ _ 24 rfl rfl rfl q5) hb5 ?_
            obtain ⟨A5, c5, rfl⟩ := row_form r5
            go_simp
            refine tree_look _ _ rfl rfl (fun w' _ => BigFrame.run_assign _ rfl w') ?_
            go_simp
            refine wpMT_nil ?_
            go_wp2_with fail
            go_ret
            exact HFIN.out _ _ _ r5 hb5
    · obtain rfl : k = n := by omega
      have hput := hide (put_at (l := l) (s := s) (k := k) (by rw [HN.out]; omega) hj.out (.inl HN.out.symm))
      have HE : Hid (putL s.toList l = l.take k ++ (s.toList :: l.drop k)) := by
        show _ = _
        rw [hput.out, if_neg (fun h => by have := h.1; rw [HN.out] at this; omega)]
      have hfin := put_fin (base := base) HN.out hk HE.out hb hb0
      simp only [Nat.sub_self, Nat.add_zero] at hfin
      have HFIN := hide hfin
      clear hfin
      by_cases hck : cap = k
      · subst hck
        go_wp2_with fail
        have hce : ∀ W, Below wr.heap.size wr.drew W → ∀ j u, ((l.drop cap).map encStr)[j]? = some u → W.cell? ((⟨g, 0, none⟩ : Addr).add j) = some u := fun W hW j u hu => by rw [List.getElem?_eq_none (by simp [HN.out])] at hu; cases hu
        refine wp_region_tree (.step 1 true (.step 2 true (.step 3 true (.step 5 true (.step 8 true (.step 9 true (.step 10 true (.fork 0 (.fork 4 (.step 6 false (.step 7 false (.step 11 false (.step 12 true .nil)))) 6 (.step 4 false (.step 7 false (.step 11 false (.step 12 true .nil))))) 6 (.step 0 false (.step 4 false (.step 7 false (.step 11 false (.step 12 true .nil))))))))))))) (fun w' => Below wr.heap.size wr.drew w') (by kernel_rfl) (by kernel_rfl) (by kernel_rfl) (by kernel_rfl) (Below.refl _ _) ?_
        refine tree_look _ _ rfl rfl (fun w' _ => BigFrame.run_move _ rfl w') ?_
        go_simp
        refine tree_look _ _ rfl rfl (fun w' _ => BigFrame.run_move _ rfl w') ?_
        go_simp
        refine tree_look _ (.slice (some ⟨g, 0, none⟩) cap cap) rfl rfl (fun w' _ => (by go_simp; try (intro h; omega))) ?_
        go_simp
        refine tree_look _ _ rfl rfl (fun w' _ => BigFrame.run_move _ rfl w') ?_
        go_simp
        refine tree_look _ _ rfl rfl (fun w' _ => BigFrame.run_move _ rfl w') ?_
        go_simp
        refine tree_look _ _ rfl rfl (fun w' _ => BigFrame.run_move _ rfl w') ?_
        go_simp
        refine tree_look _ (.slice (some ⟨g, 0, none⟩) 0 0) rfl rfl (fun w' _ => (by go_simp)) ?_
        go_simp
        refine wpMT_fork ?_ ?_
        · have r1 : (wr.drew.alloc (.cells #[] 9)).ownsRow wr.heap.size 9 1 (.slice (some ⟨wr.heap.size, 0, none⟩) 0 0) 0 [] := by simpa using World.ownsRow_made wr.drew (base := wr.heap.size) (e := 9) (size := 1) #[] 0 (by simp) (Nat.zero_le _) rfl
          refine tree_value _ (.slice (some ⟨wr.heap.size, 0, none⟩) 0 0) (wr.drew.alloc (.cells #[] 9)) rfl rfl (by go_simp) ((Below.refl wr.heap.size wr.drew).alloc (by simp) _) ?_
          go_simp
          have hb1 : Below wr.heap.size wr.drew (wr.drew.alloc (.cells #[] 9)) := ((Below.refl wr.heap.size wr.drew).alloc (by simp) _)
          refine wpMT_fork ?_ ?_
          · obtain ⟨v2, w2, q2, r2, g2, _⟩ := run_append_own (P := Tryz.prog) (wr.drew.alloc (.cells #[] 9)) wr.heap.size 24 24 9 ii (.string ⟨#[]⟩) 1 16 Tryz.underlying24 hii iz0 iz1 iz2 rfl (by decide) _ _ _ r1 ⟨g, 0, none⟩ cap cap ((l.take cap).map encStr) (by simp [HN.out]; try omega) (hct.out (wr.drew.alloc (.cells #[] 9)) hb1) enc_one (by unfold maxLen; omega) (by omega) (by have := hb1.size; simp at this ⊢; try omega)
            have hb2 : Below wr.heap.size wr.drew w2 := hb1.grown g2 (by have := hb1.size; simp at this ⊢; try omega) (fun x hx => (r1.lt x hx).1)
            refine tree_value _ v2 w2 rfl rfl (run_op_append _ _ 24 rfl rfl rfl q2) hb2 ?_
            obtain ⟨A2, c2, rfl⟩ := row_form r2
            go_simp
            simp only [Nat.zero_add, List.nil_append] at r2
            refine wpMT_eff ?_
            refine tree_value _ (.slice (some ⟨w2.heap.size, 0, none⟩) 1 1) (w2.alloc (.cells #[.string s] 9)) rfl rfl (by go_simp) (hb2.alloc (by have := hb2.size; simp at this ⊢; try omega) _) ?_
            go_simp
            have hb3 : Below wr.heap.size wr.drew (w2.alloc (.cells #[.string s] 9)) := hb2.alloc (by have := hb2.size; simp at this ⊢; try omega) _
            have d3 : (w2.alloc (.cells #[.string s] 9)).cell? ⟨w2.heap.size, 0, none⟩ = some (.string s) := by simp [go_sem]
            have r3 := r2.alloc (.cells #[.string s] 9)
            refine wpMT_eff ?_
            obtain ⟨v4, w4, q4, r4, g4, _⟩ := run_append_own (P := Tryz.prog) (w2.alloc (.cells #[.string s] 9)) wr.heap.size 24 24 9 ii (.string ⟨#[]⟩) 1 16 Tryz.underlying24 hii iz0 iz1 iz2 rfl (by decide) _ _ _ r3 ⟨w2.heap.size, 0, none⟩ 1 1 [.string s] rfl (by intro j u hu; match j, hu with | 0, hu => (simp at hu; subst hu; exact d3)) (by intro u hu; simp at hu; subst hu; rfl) (by unfold maxLen; omega) (by omega) (by have := hb3.size; simp at this ⊢; try omega)
            have hb4 : Below wr.heap.size wr.drew w4 := hb3.grown g4 (by have := hb3.size; simp at this ⊢; try omega) (fun x hx => (r3.lt x hx).1)
            refine tree_value _ v4 w4 rfl rfl (run_op_append _ _ 24 rfl rfl rfl q4) hb4 ?_
            obtain ⟨A4, c4, rfl⟩ := row_form r4
            go_simp
            refine wpMT_eff ?_
            obtain ⟨v5, w5, q5, r5, g5, _⟩ := run_append_own (P := Tryz.prog) w4 wr.heap.size 24 24 9 ii (.string ⟨#[]⟩) 1 16 Tryz.underlying24 hii iz0 iz1 iz2 rfl (by decide) _ _ _ r4 ⟨g, 0, none⟩ 0 0 ((l.drop cap).map encStr) (by simp [HN.out]; try omega) (hce w4 hb4) enc_one (by unfold maxLen; omega) (by omega) (by have := hb4.size; simp at this ⊢; try omega)
            have hb5 : Below wr.heap.size wr.drew w5 := hb4.grown g5 (by have := hb4.size; simp at this ⊢; try omega) (fun x hx => (r4.lt x hx).1)
            refine tree_value _ v5 w5 rfl rfl (run_op_append _ _ 24 rfl rfl rfl q5) hb5 ?_
            obtain ⟨A5, c5, rfl⟩ := row_form r5
            go_simp
            refine tree_look _ _ rfl rfl (fun w' _ => BigFrame.run_assign _ rfl w') ?_
            go_simp
            refine wpMT_nil ?_
            go_wp2_with fail
            go_ret
            simp only [Nat.add_zero] at r5
            exact HFIN.out _ _ _ r5 hb5
          · refine tree_value _ (.slice (some ⟨wr.heap.size + 1, 0, none⟩) 1 1) ((wr.drew.alloc (.cells #[] 9)).alloc (.cells #[.string s] 9)) rfl rfl (by go_simp) (hb1.alloc (by have := hb1.size; simp at this ⊢; try omega) _) ?_
            go_simp
            have hb2 : Below wr.heap.size wr.drew ((wr.drew.alloc (.cells #[] 9)).alloc (.cells #[.string s] 9)) := hb1.alloc (by have := hb1.size; simp at this ⊢; try omega) _
            have d2 : ((wr.drew.alloc (.cells #[] 9)).alloc (.cells #[.string s] 9)).cell? ⟨wr.heap.size + 1, 0, none⟩ = some (.string s) := by simp [go_sem]
            have r2 := r1.alloc (.cells #[.string s] 9)
            refine wpMT_eff ?_
            obtain ⟨v3, w3, q3, r3, g3, _⟩ := run_append_own (P := Tryz.prog) ((wr.drew.alloc (.cells #[] 9)).alloc (.cells #[.string s] 9)) wr.heap.size 24 24 9 ii (.string ⟨#[]⟩) 1 16 Tryz.underlying24 hii iz0 iz1 iz2 rfl (by decide) _ _ _ r2 ⟨g, 0, none⟩ cap cap ((l.take cap).map encStr) (by simp [HN.out]; try omega) (hct.out ((wr.drew.alloc (.cells #[] 9)).alloc (.cells #[.string s] 9)) hb2) enc_one (by unfold maxLen; omega) (by omega) (by have := hb2.size; simp at this ⊢; try omega)
            have hb3 : Below wr.heap.size wr.drew w3 := hb2.grown g3 (by have := hb2.size; simp at this ⊢; try omega) (fun x hx => (r2.lt x hx).1)
            refine tree_value _ v3 w3 rfl rfl (run_op_append _ _ 24 rfl rfl rfl q3) hb3 ?_
            obtain ⟨A3, c3, rfl⟩ := row_form r3
            go_simp
            have d3 := g3.cell d2 (by simp [Value.ownBlock]; try omega)
            simp only [Nat.zero_add, List.nil_append] at r3
            refine wpMT_eff ?_
            obtain ⟨v4, w4, q4, r4, g4, _⟩ := run_append_own (P := Tryz.prog) w3 wr.heap.size 24 24 9 ii (.string ⟨#[]⟩) 1 16 Tryz.underlying24 hii iz0 iz1 iz2 rfl (by decide) _ _ _ r3 ⟨wr.heap.size + 1, 0, none⟩ 1 1 [.string s] rfl (by intro j u hu; match j, hu with | 0, hu => (simp at hu; subst hu; exact d3)) (by intro u hu; simp at hu; subst hu; rfl) (by unfold maxLen; omega) (by omega) (by have := hb3.size; simp at this ⊢; try omega)
            have hb4 : Below wr.heap.size wr.drew w4 := hb3.grown g4 (by have := hb3.size; simp at this ⊢; try omega) (fun x hx => (r3.lt x hx).1)
            refine tree_value _ v4 w4 rfl rfl (run_op_append _ _ 24 rfl rfl rfl q4) hb4 ?_
            obtain ⟨A4, c4, rfl⟩ := row_form r4
            go_simp
            refine wpMT_eff ?_
            obtain ⟨v5, w5, q5, r5, g5, _⟩ := run_append_own (P := Tryz.prog) w4 wr.heap.size 24 24 9 ii (.string ⟨#[]⟩) 1 16 Tryz.underlying24 hii iz0 iz1 iz2 rfl (by decide) _ _ _ r4 ⟨g, 0, none⟩ 0 0 ((l.drop cap).map encStr) (by simp [HN.out]; try omega) (hce w4 hb4) enc_one (by unfold maxLen; omega) (by omega) (by have := hb4.size; simp at this ⊢; try omega)
            have hb5 : Below wr.heap.size wr.drew w5 := hb4.grown g5 (by have := hb4.size; simp at this ⊢; try omega) (fun x hx => (r4.lt x hx).1)
            refine tree_value _ v5 w5 rfl rfl (run_op_append _ _ 24 rfl rfl rfl q5) hb5 ?_
            obtain ⟨A5, c5, rfl⟩ := row_form r5
            go_simp
            refine tree_look _ _ rfl rfl (fun w' _ => BigFrame.run_assign _ rfl w') ?_
            go_simp
            refine wpMT_nil ?_
            go_wp2_with fail
            go_ret
            simp only [Nat.add_zero] at r5
            exact HFIN.out _ _ _ r5 hb5
        · refine tree_value _ (.slice (some ⟨wr.heap.size, 0, none⟩) 1 1) (wr.drew.alloc (.cells #[.string s] 9)) rfl rfl (by go_simp) ((Below.refl wr.heap.size wr.drew).alloc (by have := (Below.refl wr.heap.size wr.drew).size; simp at this ⊢; try omega) _) ?_
          go_simp
          have hb1 : Below wr.heap.size wr.drew (wr.drew.alloc (.cells #[.string s] 9)) := (Below.refl wr.heap.size wr.drew).alloc (by have := (Below.refl wr.heap.size wr.drew).size; simp at this ⊢; try omega) _
          have d1 : (wr.drew.alloc (.cells #[.string s] 9)).cell? ⟨wr.heap.size, 0, none⟩ = some (.string s) := by simp [go_sem]
          refine wpMT_eff ?_
          have r2 : ((wr.drew.alloc (.cells #[.string s] 9)).alloc (.cells #[] 9)).ownsRow wr.heap.size 9 1 (.slice (some ⟨wr.heap.size + 1, 0, none⟩) 0 0) 0 [] := by simpa using World.ownsRow_made (wr.drew.alloc (.cells #[.string s] 9)) (base := wr.heap.size) (e := 9) (size := 1) #[] 0 (by simp) (Nat.zero_le _) rfl
          refine tree_value _ (.slice (some ⟨wr.heap.size + 1, 0, none⟩) 0 0) ((wr.drew.alloc (.cells #[.string s] 9)).alloc (.cells #[] 9)) rfl rfl (by go_simp) (hb1.alloc (by simp) _) ?_
          go_simp
          have hb2 : Below wr.heap.size wr.drew ((wr.drew.alloc (.cells #[.string s] 9)).alloc (.cells #[] 9)) := (hb1.alloc (by simp) _)
          have d2 := (World.cell?_alloc_lt (w := (wr.drew.alloc (.cells #[.string s] 9))) (.cells #[] 9) ⟨wr.heap.size, 0, none⟩ (by simp)).trans d1
          refine wpMT_eff ?_
          obtain ⟨v3, w3, q3, r3, g3, _⟩ := run_append_own (P := Tryz.prog) ((wr.drew.alloc (.cells #[.string s] 9)).alloc (.cells #[] 9)) wr.heap.size 24 24 9 ii (.string ⟨#[]⟩) 1 16 Tryz.underlying24 hii iz0 iz1 iz2 rfl (by decide) _ _ _ r2 ⟨g, 0, none⟩ cap cap ((l.take cap).map encStr) (by simp [HN.out]; try omega) (hct.out ((wr.drew.alloc (.cells #[.string s] 9)).alloc (.cells #[] 9)) hb2) enc_one (by unfold maxLen; omega) (by omega) (by have := hb2.size; simp at this ⊢; try omega)
          have hb3 : Below wr.heap.size wr.drew w3 := hb2.grown g3 (by have := hb2.size; simp at this ⊢; try omega) (fun x hx => (r2.lt x hx).1)
          refine tree_value _ v3 w3 rfl rfl (run_op_append _ _ 24 rfl rfl rfl q3) hb3 ?_
          obtain ⟨A3, c3, rfl⟩ := row_form r3
          go_simp
          have d3 := g3.cell d2 (by simp [Value.ownBlock]; try omega)
          simp only [Nat.zero_add, List.nil_append] at r3
          refine wpMT_eff ?_
          obtain ⟨v4, w4, q4, r4, g4, _⟩ := run_append_own (P := Tryz.prog) w3 wr.heap.size 24 24 9 ii (.string ⟨#[]⟩) 1 16 Tryz.underlying24 hii iz0 iz1 iz2 rfl (by decide) _ _ _ r3 ⟨wr.heap.size, 0, none⟩ 1 1 [.string s] rfl (by intro j u hu; match j, hu with | 0, hu => (simp at hu; subst hu; exact d3)) (by intro u hu; simp at hu; subst hu; rfl) (by unfold maxLen; omega) (by omega) (by have := hb3.size; simp at this ⊢; try omega)
          have hb4 : Below wr.heap.size wr.drew w4 := hb3.grown g4 (by have := hb3.size; simp at this ⊢; try omega) (fun x hx => (r3.lt x hx).1)
          refine tree_value _ v4 w4 rfl rfl (run_op_append _ _ 24 rfl rfl rfl q4) hb4 ?_
          obtain ⟨A4, c4, rfl⟩ := row_form r4
          go_simp
          refine wpMT_eff ?_
          obtain ⟨v5, w5, q5, r5, g5, _⟩ := run_append_own (P := Tryz.prog) w4 wr.heap.size 24 24 9 ii (.string ⟨#[]⟩) 1 16 Tryz.underlying24 hii iz0 iz1 iz2 rfl (by decide) _ _ _ r4 ⟨g, 0, none⟩ 0 0 ((l.drop cap).map encStr) (by simp [HN.out]; try omega) (hce w4 hb4) enc_one (by unfold maxLen; omega) (by omega) (by have := hb4.size; simp at this ⊢; try omega)
          have hb5 : Below wr.heap.size wr.drew w5 := hb4.grown g5 (by have := hb4.size; simp at this ⊢; try omega) (fun x hx => (r4.lt x hx).1)
          refine tree_value _ v5 w5 rfl rfl (run_op_append _ _ 24 rfl rfl rfl q5) hb5 ?_
          obtain ⟨A5, c5, rfl⟩ := row_form r5
          go_simp
          refine tree_look _ _ rfl rfl (fun w' _ => BigFrame.run_assign _ rfl w') ?_
          go_simp
          refine wpMT_nil ?_
          go_wp2_with fail
          go_ret
          simp only [Nat.add_zero] at r5
          exact HFIN.out _ _ _ r5 hb5
      · go_wp2_with fail
        refine wp_region_tree (.step 1 true (.step 2 true (.step 3 true (.step 5 true (.step 8 true (.step 9 true (.step 10 true (.fork 0 (.fork 4 (.step 6 false (.step 7 false (.step 11 false (.step 12 true .nil)))) 6 (.step 4 false (.step 7 false (.step 11 false (.step 12 true .nil))))) 6 (.step 0 false (.step 4 false (.step 7 false (.step 11 false (.step 12 true .nil))))))))))))) (fun w' => Below wr.heap.size wr.drew w') (by kernel_rfl) (by kernel_rfl) (by kernel_rfl) (by kernel_rfl) (Below.refl _ _) ?_
        refine tree_look _ _ rfl rfl (fun w' _ => BigFrame.run_move _ rfl w') ?_
        go_simp
        refine tree_look _ _ rfl rfl (fun w' _ => BigFrame.run_move _ rfl w') ?_
        go_simp
        refine tree_look _ (.slice (some ⟨g, 0, none⟩) k cap) rfl rfl (fun w' _ => (by go_simp; try (intro h; omega))) ?_
        go_simp
        refine tree_look _ _ rfl rfl (fun w' _ => BigFrame.run_move _ rfl w') ?_
        go_simp
        refine tree_look _ _ rfl rfl (fun w' _ => BigFrame.run_move _ rfl w') ?_
        go_simp
        refine tree_look _ _ rfl rfl (fun w' _ => BigFrame.run_move _ rfl w') ?_
        go_simp
        refine tree_look _ (.slice (some ⟨g, k, none⟩) 0 (cap - k)) rfl rfl (fun w' _ => (by go_simp)) ?_
        go_simp
        refine wpMT_fork ?_ ?_
        · have r1 : (wr.drew.alloc (.cells #[] 9)).ownsRow wr.heap.size 9 1 (.slice (some ⟨wr.heap.size, 0, none⟩) 0 0) 0 [] := by simpa using World.ownsRow_made wr.drew (base := wr.heap.size) (e := 9) (size := 1) #[] 0 (by simp) (Nat.zero_le _) rfl
          refine tree_value _ (.slice (some ⟨wr.heap.size, 0, none⟩) 0 0) (wr.drew.alloc (.cells #[] 9)) rfl rfl (by go_simp) ((Below.refl wr.heap.size wr.drew).alloc (by simp) _) ?_
          go_simp
          have hb1 : Below wr.heap.size wr.drew (wr.drew.alloc (.cells #[] 9)) := ((Below.refl wr.heap.size wr.drew).alloc (by simp) _)
          refine wpMT_fork ?_ ?_
          · obtain ⟨v2, w2, q2, r2, g2, _⟩ := run_append_own (P := Tryz.prog) (wr.drew.alloc (.cells #[] 9)) wr.heap.size 24 24 9 ii (.string ⟨#[]⟩) 1 16 Tryz.underlying24 hii iz0 iz1 iz2 rfl (by decide) _ _ _ r1 ⟨g, 0, none⟩ k cap ((l.take k).map encStr) (by simp [HN.out]; try omega) (hct.out (wr.drew.alloc (.cells #[] 9)) hb1) enc_one (by unfold maxLen; omega) (by omega) (by have := hb1.size; simp at this ⊢; try omega)
            have hb2 : Below wr.heap.size wr.drew w2 := hb1.grown g2 (by have := hb1.size; simp at this ⊢; try omega) (fun x hx => (r1.lt x hx).1)
            refine tree_value _ v2 w2 rfl rfl (run_op_append _ _ 24 rfl rfl rfl q2) hb2 ?_
            obtain ⟨A2, c2, rfl⟩ := row_form r2
            go_simp
            simp only [Nat.zero_add, List.nil_append] at r2
            refine wpMT_eff ?_
            refine tree_value _ (.slice (some ⟨w2.heap.size, 0, none⟩) 1 1) (w2.alloc (.cells #[.string s] 9)) rfl rfl (by go_simp) (hb2.alloc (by have := hb2.size; simp at this ⊢; try omega) _) ?_
            go_simp
            have hb3 : Below wr.heap.size wr.drew (w2.alloc (.cells #[.string s] 9)) := hb2.alloc (by have := hb2.size; simp at this ⊢; try omega) _
            have d3 : (w2.alloc (.cells #[.string s] 9)).cell? ⟨w2.heap.size, 0, none⟩ = some (.string s) := by simp [go_sem]
            have r3 := r2.alloc (.cells #[.string s] 9)
            refine wpMT_eff ?_
            obtain ⟨v4, w4, q4, r4, g4, _⟩ := run_append_own (P := Tryz.prog) (w2.alloc (.cells #[.string s] 9)) wr.heap.size 24 24 9 ii (.string ⟨#[]⟩) 1 16 Tryz.underlying24 hii iz0 iz1 iz2 rfl (by decide) _ _ _ r3 ⟨w2.heap.size, 0, none⟩ 1 1 [.string s] rfl (by intro j u hu; match j, hu with | 0, hu => (simp at hu; subst hu; exact d3)) (by intro u hu; simp at hu; subst hu; rfl) (by unfold maxLen; omega) (by omega) (by have := hb3.size; simp at this ⊢; try omega)
            have hb4 : Below wr.heap.size wr.drew w4 := hb3.grown g4 (by have := hb3.size; simp at this ⊢; try omega) (fun x hx => (r3.lt x hx).1)
            refine tree_value _ v4 w4 rfl rfl (run_op_append _ _ 24 rfl rfl rfl q4) hb4 ?_
            obtain ⟨A4, c4, rfl⟩ := row_form r4
            go_simp
            refine wpMT_eff ?_
            obtain ⟨v5, w5, q5, r5, g5, _⟩ := run_append_own (P := Tryz.prog) w4 wr.heap.size 24 24 9 ii (.string ⟨#[]⟩) 1 16 Tryz.underlying24 hii iz0 iz1 iz2 rfl (by decide) _ _ _ r4 ⟨g, k, none⟩ 0 (cap - k) ((l.drop k).map encStr) (by simp [HN.out]; try omega) (hcd.out w4 hb4) enc_one (by unfold maxLen; omega) (by omega) (by have := hb4.size; simp at this ⊢; try omega)
            have hb5 : Below wr.heap.size wr.drew w5 := hb4.grown g5 (by have := hb4.size; simp at this ⊢; try omega) (fun x hx => (r4.lt x hx).1)
            refine tree_value _ v5 w5 rfl rfl (run_op_append _ _ 24 rfl rfl rfl q5) hb5 ?_
            obtain ⟨A5, c5, rfl⟩ := row_form r5
            go_simp
            refine tree_look _ _ rfl rfl (fun w' _ => BigFrame.run_assign _ rfl w') ?_
            go_simp
            refine wpMT_nil ?_
            go_wp2_with fail
            go_ret
            simp only [Nat.add_zero] at r5
            exact HFIN.out _ _ _ r5 hb5
          · refine tree_value _ (.slice (some ⟨wr.heap.size + 1, 0, none⟩) 1 1) ((wr.drew.alloc (.cells #[] 9)).alloc (.cells #[.string s] 9)) rfl rfl (by go_simp) (hb1.alloc (by have := hb1.size; simp at this ⊢; try omega) _) ?_
            go_simp
            have hb2 : Below wr.heap.size wr.drew ((wr.drew.alloc (.cells #[] 9)).alloc (.cells #[.string s] 9)) := hb1.alloc (by have := hb1.size; simp at this ⊢; try omega) _
            have d2 : ((wr.drew.alloc (.cells #[] 9)).alloc (.cells #[.string s] 9)).cell? ⟨wr.heap.size + 1, 0, none⟩ = some (.string s) := by simp [go_sem]
            have r2 := r1.alloc (.cells #[.string s] 9)
            refine wpMT_eff ?_
            obtain ⟨v3, w3, q3, r3, g3, _⟩ := run_append_own (P := Tryz.prog) ((wr.drew.alloc (.cells #[] 9)).alloc (.cells #[.string s] 9)) wr.heap.size 24 24 9 ii (.string ⟨#[]⟩) 1 16 Tryz.underlying24 hii iz0 iz1 iz2 rfl (by decide) _ _ _ r2 ⟨g, 0, none⟩ k cap ((l.take k).map encStr) (by simp [HN.out]; try omega) (hct.out ((wr.drew.alloc (.cells #[] 9)).alloc (.cells #[.string s] 9)) hb2) enc_one (by unfold maxLen; omega) (by omega) (by have := hb2.size; simp at this ⊢; try omega)
            have hb3 : Below wr.heap.size wr.drew w3 := hb2.grown g3 (by have := hb2.size; simp at this ⊢; try omega) (fun x hx => (r2.lt x hx).1)
            refine tree_value _ v3 w3 rfl rfl (run_op_append _ _ 24 rfl rfl rfl q3) hb3 ?_
            obtain ⟨A3, c3, rfl⟩ := row_form r3
            go_simp
            have d3 := g3.cell d2 (by simp [Value.ownBlock]; try omega)
            simp only [Nat.zero_add, List.nil_append] at r3
            refine wpMT_eff ?_
            obtain ⟨v4, w4, q4, r4, g4, _⟩ := run_append_own (P := Tryz.prog) w3 wr.heap.size 24 24 9 ii (.string ⟨#[]⟩) 1 16 Tryz.underlying24 hii iz0 iz1 iz2 rfl (by decide) _ _ _ r3 ⟨wr.heap.size + 1, 0, none⟩ 1 1 [.string s] rfl (by intro j u hu; match j, hu with | 0, hu => (simp at hu; subst hu; exact d3)) (by intro u hu; simp at hu; subst hu; rfl) (by unfold maxLen; omega) (by omega) (by have := hb3.size; simp at this ⊢; try omega)
            have hb4 : Below wr.heap.size wr.drew w4 := hb3.grown g4 (by have := hb3.size; simp at this ⊢; try omega) (fun x hx => (r3.lt x hx).1)
            refine tree_value _ v4 w4 rfl rfl (run_op_append _ _ 24 rfl rfl rfl q4) hb4 ?_
            obtain ⟨A4, c4, rfl⟩ := row_form r4
            go_simp
            refine wpMT_eff ?_
            obtain ⟨v5, w5, q5, r5, g5, _⟩ := run_append_own (P := Tryz.prog) w4 wr.heap.size 24 24 9 ii (.string ⟨#[]⟩) 1 16 Tryz.underlying24 hii iz0 iz1 iz2 rfl (by decide) _ _ _ r4 ⟨g, k, none⟩ 0 (cap - k) ((l.drop k).map encStr) (by simp [HN.out]; try omega) (hcd.out w4 hb4) enc_one (by unfold maxLen; omega) (by omega) (by have := hb4.size; simp at this ⊢; try omega)
            have hb5 : Below wr.heap.size wr.drew w5 := hb4.grown g5 (by have := hb4.size; simp at this ⊢; try omega) (fun x hx => (r4.lt x hx).1)
            refine tree_value _ v5 w5 rfl rfl (run_op_append _ _ 24 rfl rfl rfl q5) hb5 ?_
            obtain ⟨A5, c5, rfl⟩ := row_form r5
            go_simp
            refine tree_look _ _ rfl rfl (fun w' _ => BigFrame.run_assign _ rfl w') ?_
            go_simp
            refine wpMT_nil ?_
            go_wp2_with fail
            go_ret
            simp only [Nat.add_zero] at r5
            exact HFIN.out _ _ _ r5 hb5
        · refine tree_value _ (.slice (some ⟨wr.heap.size, 0, none⟩) 1 1) (wr.drew.alloc (.cells #[.string s] 9)) rfl rfl (by go_simp) ((Below.refl wr.heap.size wr.drew).alloc (by have := (Below.refl wr.heap.size wr.drew).size; simp at this ⊢; try omega) _) ?_
          go_simp
          have hb1 : Below wr.heap.size wr.drew (wr.drew.alloc (.cells #[.string s] 9)) := (Below.refl wr.heap.size wr.drew).alloc (by have := (Below.refl wr.heap.size wr.drew).size; simp at this ⊢; try omega) _
          have d1 : (wr.drew.alloc (.cells #[.string s] 9)).cell? ⟨wr.heap.size, 0, none⟩ = some (.string s) := by simp [go_sem]
          refine wpMT_eff ?_
          have r2 : ((wr.drew.alloc (.cells #[.string s] 9)).alloc (.cells #[] 9)).ownsRow wr.heap.size 9 1 (.slice (some ⟨wr.heap.size + 1, 0, none⟩) 0 0) 0 [] := by simpa using World.ownsRow_made (wr.drew.alloc (.cells #[.string s] 9)) (base := wr.heap.size) (e := 9) (size := 1) #[] 0 (by simp) (Nat.zero_le _) rfl
          refine tree_value _ (.slice (some ⟨wr.heap.size + 1, 0, none⟩) 0 0) ((wr.drew.alloc (.cells #[.string s] 9)).alloc (.cells #[] 9)) rfl rfl (by go_simp) (hb1.alloc (by simp) _) ?_
          go_simp
          have hb2 : Below wr.heap.size wr.drew ((wr.drew.alloc (.cells #[.string s] 9)).alloc (.cells #[] 9)) := (hb1.alloc (by simp) _)
          have d2 := (World.cell?_alloc_lt (w := (wr.drew.alloc (.cells #[.string s] 9))) (.cells #[] 9) ⟨wr.heap.size, 0, none⟩ (by simp)).trans d1
          refine wpMT_eff ?_
          obtain ⟨v3, w3, q3, r3, g3, _⟩ := run_append_own (P := Tryz.prog) ((wr.drew.alloc (.cells #[.string s] 9)).alloc (.cells #[] 9)) wr.heap.size 24 24 9 ii (.string ⟨#[]⟩) 1 16 Tryz.underlying24 hii iz0 iz1 iz2 rfl (by decide) _ _ _ r2 ⟨g, 0, none⟩ k cap ((l.take k).map encStr) (by simp [HN.out]; try omega) (hct.out ((wr.drew.alloc (.cells #[.string s] 9)).alloc (.cells #[] 9)) hb2) enc_one (by unfold maxLen; omega) (by omega) (by have := hb2.size; simp at this ⊢; try omega)
          have hb3 : Below wr.heap.size wr.drew w3 := hb2.grown g3 (by have := hb2.size; simp at this ⊢; try omega) (fun x hx => (r2.lt x hx).1)
          refine tree_value _ v3 w3 rfl rfl (run_op_append _ _ 24 rfl rfl rfl q3) hb3 ?_
          obtain ⟨A3, c3, rfl⟩ := row_form r3
          go_simp
          have d3 := g3.cell d2 (by simp [Value.ownBlock]; try omega)
          simp only [Nat.zero_add, List.nil_append] at r3
          refine wpMT_eff ?_
          obtain ⟨v4, w4, q4, r4, g4, _⟩ := run_append_own (P := Tryz.prog) w3 wr.heap.size 24 24 9 ii (.string ⟨#[]⟩) 1 16 Tryz.underlying24 hii iz0 iz1 iz2 rfl (by decide) _ _ _ r3 ⟨wr.heap.size, 0, none⟩ 1 1 [.string s] rfl (by intro j u hu; match j, hu with | 0, hu => (simp at hu; subst hu; exact d3)) (by intro u hu; simp at hu; subst hu; rfl) (by unfold maxLen; omega) (by omega) (by have := hb3.size; simp at this ⊢; try omega)
          have hb4 : Below wr.heap.size wr.drew w4 := hb3.grown g4 (by have := hb3.size; simp at this ⊢; try omega) (fun x hx => (r3.lt x hx).1)
          refine tree_value _ v4 w4 rfl rfl (run_op_append _ _ 24 rfl rfl rfl q4) hb4 ?_
          obtain ⟨A4, c4, rfl⟩ := row_form r4
          go_simp
          refine wpMT_eff ?_
          obtain ⟨v5, w5, q5, r5, g5, _⟩ := run_append_own (P := Tryz.prog) w4 wr.heap.size 24 24 9 ii (.string ⟨#[]⟩) 1 16 Tryz.underlying24 hii iz0 iz1 iz2 rfl (by decide) _ _ _ r4 ⟨g, k, none⟩ 0 (cap - k) ((l.drop k).map encStr) (by simp [HN.out]; try omega) (hcd.out w4 hb4) enc_one (by unfold maxLen; omega) (by omega) (by have := hb4.size; simp at this ⊢; try omega)
          have hb5 : Below wr.heap.size wr.drew w5 := hb4.grown g5 (by have := hb4.size; simp at this ⊢; try omega) (fun x hx => (r4.lt x hx).1)
          refine tree_value _ v5 w5 rfl rfl (run_op_append _ _ 24 rfl rfl rfl q5) hb5 ?_
          obtain ⟨A5, c5, rfl⟩ := row_form r5
          go_simp
          refine tree_look _ _ rfl rfl (fun w' _ => BigFrame.run_assign _ rfl w') ?_
          go_simp
          refine wpMT_nil ?_
          go_wp2_with fail
          go_ret
          simp only [Nat.add_zero] at r5
          exact HFIN.out _ _ _ r5 hb5

end Go.Proofs.YtnmmkechkcfjnaaGreatDoor

/-
  An append of one row of the call's own onto another.-/
namespace Go.Proofs.YtnmmkechkcfjnaaGreatDoor
set_option linter.unusedVariables false
set_option linter.unusedSimpArgs false
open Go.RowKit

theorem run_append_rows {P : Program} (w : World) (base base2 : Nat) (t ty e : TypeId) (i : TypeInfo) (z : Value) (size bytes : Nat) (ht : P.underlying t = some (.slice e)) (hi : P.info? e = some i) (hz : i.zero = some z)
    (hsize : i.size = size) (hby : i.bytes = bytes) (hzs : z.cells.size = size) (hsz : 0 < size)
    (v u : Value) (n m : Nat) (xs ys : List Value) (hown : w.ownsRow base e size v n xs) (hown2 : w.ownsRow base2 e size u m ys) (h1 : ∀ u ∈ ys, u.oneCell' = true)
    (h63 : n + m ≤ maxLen) (hbytes : (n + m) * bytes ≤ 140737488355328) (hbase : base ≤ w.heap.size) :
    ∃ v' w', (Builtin.append_ #[t, t] ty #[v, u]).run P w = .ok v' w' ∧ w'.ownsRow base e size v' (n + m) (xs ++ ys) ∧ w.grownBy w' v.ownBlock := by
  rcases hown2.2 with ⟨rfl, rfl⟩ | ⟨g, cap, cur, rfl, hbg, hg, hnc, hcm, hcs, htake⟩
  · have hy : ys = [] := List.eq_nil_of_length_eq_zero (by simpa using hown2.1)
    subst hy
    refine ⟨v, w, ?_, by simpa using hown, ⟨rfl, rfl, rfl, Nat.le_refl _, fun _ _ _ => rfl⟩⟩
    rcases hown.2 with ⟨rfl, rfl⟩ | ⟨g, cap, cur, rfl, hbg, hg, hnc, hcm, hcs, htake⟩
    · simp [Builtin.append_, run_underlying ht, sizeOf, typeInfo, hi, Builtin.lenOf, Builtin.firstCells, loadCells, loadCellsFrom]
    · simp [Builtin.append_, run_underlying ht, sizeOf, typeInfo, hi, Builtin.lenOf, Builtin.firstCells, loadCells, loadCellsFrom, storeCells, hnc]
  · obtain ⟨v', w', r1, r2, r3, _⟩ := run_append_own (P := P) w base t ty e i z size bytes ht hi hz hsize hby hzs hsz v n xs hown ⟨g, 0, none⟩ m cap ys hown2.1 (hown2.cells rfl) h1 h63 hbytes hbase
    exact ⟨v', w', r1, r2, r3⟩

end Go.Proofs.YtnmmkechkcfjnaaGreatDoor
