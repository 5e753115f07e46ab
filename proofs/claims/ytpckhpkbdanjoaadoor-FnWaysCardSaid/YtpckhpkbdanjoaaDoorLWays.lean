/-
  FnWays: the law returns true at every input. No condition.
-/
import Derived.Test.YtpckhpkbdanjoaaDoorQ13
import Derived.Test.YtpckhpkbdanjoaaDoorTie
import Derived.Lay
import Derived.LaidMore
import Derived.SevenTiedAt
import Derived.Stop.Joined
import Derived.Deep.Cut
import Derived.Deep.CutRange
namespace Go.Proofs.YtpckhpkbdanjoaaDoor
set_option linter.unusedVariables false
set_option linter.unusedSimpArgs false
open Go.ChangeShapes Go.WideShapes Go.ChangeAt Go.RowKit Go.Joins Go.Deep

set_option maxRecDepth 100000 in
set_option maxHeartbeats 12800000 in
theorem FnWays_walk (A : Option Addr) (n cap : Nat) (B : Option Addr) (mm capB : Nat) (w : World) (hc : Code w (.slice A n cap)) (hm : Code w (.slice B mm capB)) :
    Calls Tryd.prog 7 #[.slice A n cap, .slice B mm capB] w fun e w' => e = .returned (.bool true) ∧ Below w.heap.size w w' := by
  go_enter Tryd.func7, Tryd.ntmps7
  go_wp2_with fail
  · go_ret
    exact ⟨rfl, Below.refl _ _⟩
  have HB_0 : Hid (BelW w w) := Below.refl _ _
  have C1_0 := hide hm
  refine (DrawWayBack_any _ _ hc).mono ?_
  rintro e v1 ⟨u, n1, F, r, c, x, y, rfl, hs, hff, hb⟩
  have HB_2 := hide (HB_0.out.bel hb)
  clear HB_0
  have C1_2 := hide (C1_0.out.bel hb)
  clear C1_0
  obtain ⟨Au, cu, rfl, _, _⟩ := id hs.open_
  have FL_s : Hid (SlW v1 1 (.slice Au n1 cu) n1 (sC F)) := SlW.of hs (Nat.le_refl _)
  have HFF := hide hff
  clear hs hb hff
  go_wp2_with fail
  obtain ⟨v3, hW⟩ : ∃ W, W = v1.alloc (.cells #[.int .i64 r, .int .i64 c] 38) := ⟨_, rfl⟩
  obtain ⟨ab, hab⟩ : ∃ z, z = v1.heap.size := ⟨_, rfl⟩
  have HN : Hid (BxI v3 ab r c) := by show BxI _ _ _ _; rw [hW, hab]; exact BxI.new _ _ _ _
  have hb : Below v1.heap.size v1 v3 := by rw [hW]; exact (Below.refl _ _).alloc (Nat.le_refl _) _
  have hs2 : v3.heap.size = ab + 1 := by rw [hW, hab]; simp
  rw [← hW, ← hab]
  clear hW
  clear hab
  have HB_4 := hide (HB_2.out.bel hb)
  clear HB_2
  have C1_4 := hide (C1_2.out.bel hb)
  clear C1_2
  have FL_4 := hide (FL_s.out.bel hb)
  clear FL_s
  clear hb
  have Ha_4 := HN
  clear HN
  obtain ⟨v5, hW⟩ : ∃ W, W = v3.alloc (.cells #[.int .i64 x, .int .i64 y] 38) := ⟨_, rfl⟩
  obtain ⟨bb, hbb⟩ : ∃ z, z = ab + 1 := ⟨_, rfl⟩
  have HN : Hid (BxI v5 bb x y) := by show BxI _ _ _ _; rw [hW, hbb, ← hs2]; exact BxI.new _ _ _ _
  have hb : Below v3.heap.size v3 v5 := by rw [hW]; exact (Below.refl _ _).alloc (Nat.le_refl _) _
  rw [← hW, ← hbb]
  clear hW hs2 hbb
  have HB_6 := hide (HB_4.out.bel hb)
  clear HB_4
  have C1_6 := hide (C1_4.out.bel hb)
  clear C1_4
  have FL_6 := hide (FL_4.out.bel hb)
  clear FL_4
  have a_6 := hide (Ha_4.out.bel hb)
  clear Ha_4
  clear hb
  have Hb_6 := HN
  clear HN
  obtain ⟨ok, hok⟩ : ∃ z, wbOk F n1 r c x y = z := ⟨_, rfl⟩
  obtain ⟨ws, hws⟩ : ∃ z, wbS F n1 r c x y = z := ⟨_, rfl⟩
  have HOK := hide hok
  have HWS := hide hws
  clear hok hws
  obtain ⟨on, hon⟩ : ∃ z, sfOk F n1 r c = z := ⟨_, rfl⟩
  have HON := hide hon
  obtain ⟨N, hN⟩ : ∃ z, sfN F n1 r c = z := ⟨_, rfl⟩
  have HNN := hide hN
  obtain ⟨O, hO⟩ : ∃ z, sfO F n1 r c = z := ⟨_, rfl⟩
  have HOO := hide hO
  clear hon hN hO
  obtain ⟨⟨p1, p2⟩, hpp⟩ : ∃ z, faP F n1 r c = z := ⟨_, rfl⟩
  have HPP := hide hpp
  obtain ⟨pm, hpm⟩ : ∃ z, faN F n1 r c = z := ⟨_, rfl⟩
  have HPM := hide hpm
  clear hpp hpm
  refine (WayBack_impl F n1 r c x y 0 _ _ _ FL_6.out (Nat.le_refl _) HFF.out).mono ?_
  rintro e v7 ⟨rfl, hb⟩
  rw [HOK.out, HWS.out]
  have HB_8 := hide (HB_6.out.bel hb)
  clear HB_6
  have C1_8 := hide (C1_6.out.bel hb)
  clear C1_6
  have FL_8 := hide (FL_6.out.bel hb)
  clear FL_6
  have a_8 := hide (a_6.out.bel hb)
  clear a_6
  have b_8 := hide (Hb_6.out.bel hb)
  clear Hb_6
  clear hb
  obtain ⟨a0, a1, af, al⟩ := a_8.out
  obtain ⟨b0, b1, bf, bl⟩ := b_8.out
  go_wp2_with fail
  clear a0 a1 af al b0 b1 bf bl
  refine (WayBack_spec F n1 r c x y 0 _ _ _ FL_8.out (Nat.le_refl _) HFF.out).mono ?_
  rintro e v9 ⟨rfl, hb⟩
  rw [HOK.out, HWS.out]
  have HB_10 := hide (HB_8.out.bel hb)
  clear HB_8
  have C1_10 := hide (C1_8.out.bel hb)
  clear C1_8
  have FL_10 := hide (FL_8.out.bel hb)
  clear FL_8
  have a_10 := hide (a_8.out.bel hb)
  clear a_8
  have b_10 := hide (b_8.out.bel hb)
  clear b_8
  clear hb
  obtain ⟨a0, a1, af, al⟩ := a_10.out
  go_wp2_with fail
  clear a0 a1 af al
  refine (StepsFrom_impl F n1 r c 0 _ _ _ FL_10.out (Nat.le_refl _) HFF.out).mono ?_
  rintro e v11 ⟨st, rfl, ho, hb⟩
  rw [HON.out]
  rw [HNN.out, HOO.out] at ho
  have HB_12 := hide (HB_10.out.bel hb)
  clear HB_10
  have C1_12 := hide (C1_10.out.bel hb)
  clear C1_10
  have FL_12 := hide (FL_10.out.bel hb)
  clear FL_10
  have a_12 := hide (a_10.out.bel hb)
  clear a_10
  have b_12 := hide (b_10.out.bel hb)
  clear b_10
  obtain ⟨S1, cs1, rfl, _, _⟩ := id ho.sl.open_
  have S1_s : Hid (SlW v11 1 (.slice S1 N cs1) N (iC O)) := SlW.of ho.sl (Nat.le_refl _)
  clear ho hb
  obtain ⟨a0, a1, af, al⟩ := a_12.out
  go_wp2_with fail
  clear a0 a1 af al
  refine (StepsFrom_spec F n1 r c 0 _ _ _ FL_12.out (Nat.le_refl _) HFF.out).mono ?_
  rintro e v13 ⟨st, rfl, ho, hb⟩
  rw [HON.out]
  rw [HNN.out, HOO.out] at ho
  have HB_14 := hide (HB_12.out.bel hb)
  clear HB_12
  have C1_14 := hide (C1_12.out.bel hb)
  clear C1_12
  have FL_14 := hide (FL_12.out.bel hb)
  clear FL_12
  have a_14 := hide (a_12.out.bel hb)
  clear a_12
  have b_14 := hide (b_12.out.bel hb)
  clear b_12
  have S1_14 := hide (S1_s.out.bel hb)
  clear S1_s
  obtain ⟨S2, cs2, rfl, _, _⟩ := id ho.sl.open_
  have S2_s : Hid (SlW v13 1 (.slice S2 N cs2) N (iC O)) := SlW.of ho.sl (Nat.le_refl _)
  clear ho hb
  obtain ⟨a0, a1, af, al⟩ := a_14.out
  go_wp2_with fail
  clear a0 a1 af al
  refine (FarthestCell_impl F n1 r c 0 _ _ _ FL_14.out (Nat.le_refl _) HFF.out).mono ?_
  rintro e v15 ⟨rfl, hb⟩
  rw [HPP.out, HPM.out, HON.out]
  have HB_16 := hide (HB_14.out.bel hb)
  clear HB_14
  have C1_16 := hide (C1_14.out.bel hb)
  clear C1_14
  have FL_16 := hide (FL_14.out.bel hb)
  clear FL_14
  have a_16 := hide (a_14.out.bel hb)
  clear a_14
  have b_16 := hide (b_14.out.bel hb)
  clear b_14
  have S1_16 := hide (S1_14.out.bel hb)
  clear S1_14
  have S2_16 := hide (S2_s.out.bel hb)
  clear S2_s
  clear hb
  obtain ⟨a0, a1, af, al⟩ := a_16.out
  go_wp2_with fail
  clear a0 a1 af al
  obtain ⟨v17, hW⟩ : ∃ W, W = v15.alloc (.cells #[.int .i64 p1, .int .i64 p2] 38) := ⟨_, rfl⟩
  obtain ⟨pb, hpb⟩ : ∃ z, z = v15.heap.size := ⟨_, rfl⟩
  have HN : Hid (BxI v17 pb p1 p2) := by show BxI _ _ _ _; rw [hW, hpb]; exact BxI.new _ _ _ _
  have hb : Below v15.heap.size v15 v17 := by rw [hW]; exact (Below.refl _ _).alloc (Nat.le_refl _) _
  rw [← hW, ← hpb]
  clear hW hpb
  have HB_18 := hide (HB_16.out.bel hb)
  clear HB_16
  have C1_18 := hide (C1_16.out.bel hb)
  clear C1_16
  have FL_18 := hide (FL_16.out.bel hb)
  clear FL_16
  have a_18 := hide (a_16.out.bel hb)
  clear a_16
  have b_18 := hide (b_16.out.bel hb)
  clear b_16
  have S1_18 := hide (S1_16.out.bel hb)
  clear S1_16
  have S2_18 := hide (S2_16.out.bel hb)
  clear S2_16
  clear hb
  have Hp_18 := HN
  clear HN
  refine (FarthestCell_spec F n1 r c 0 _ _ _ FL_18.out (Nat.le_refl _) HFF.out).mono ?_
  rintro e v19 ⟨rfl, hb⟩
  rw [HPP.out, HPM.out, HON.out]
  have HB_20 := hide (HB_18.out.bel hb)
  clear HB_18
  have C1_20 := hide (C1_18.out.bel hb)
  clear C1_18
  have FL_20 := hide (FL_18.out.bel hb)
  clear FL_18
  have a_20 := hide (a_18.out.bel hb)
  clear a_18
  have b_20 := hide (b_18.out.bel hb)
  clear b_18
  have S1_20 := hide (S1_18.out.bel hb)
  clear S1_18
  have S2_20 := hide (S2_18.out.bel hb)
  clear S2_18
  have p_20 := hide (Hp_18.out.bel hb)
  clear Hp_18
  clear hb
  obtain ⟨a0, a1, af, al⟩ := a_20.out
  go_wp2_with fail
  clear a0 a1 af al
  obtain ⟨v21, hW⟩ : ∃ W, W = v19.alloc (.cells #[.int .i64 p1, .int .i64 p2] 38) := ⟨_, rfl⟩
  obtain ⟨qb, hqb⟩ : ∃ z, z = v19.heap.size := ⟨_, rfl⟩
  have HN : Hid (BxI v21 qb p1 p2) := by show BxI _ _ _ _; rw [hW, hqb]; exact BxI.new _ _ _ _
  have hb : Below v19.heap.size v19 v21 := by rw [hW]; exact (Below.refl _ _).alloc (Nat.le_refl _) _
  rw [← hW, ← hqb]
  clear hW hqb
  have HB_22 := hide (HB_20.out.bel hb)
  clear HB_20
  have C1_22 := hide (C1_20.out.bel hb)
  clear C1_20
  have FL_22 := hide (FL_20.out.bel hb)
  clear FL_20
  have a_22 := hide (a_20.out.bel hb)
  clear a_20
  have b_22 := hide (b_20.out.bel hb)
  clear b_20
  have S1_22 := hide (S1_20.out.bel hb)
  clear S1_20
  have S2_22 := hide (S2_20.out.bel hb)
  clear S2_20
  have p_22 := hide (p_20.out.bel hb)
  clear p_20
  clear hb
  have Hq_22 := HN
  clear HN
  refine (DrawFollowWay_any _ _ C1_22.out).mono ?_
  rintro e v23 ⟨u2, n2, F2, x2, y2, s2, rfl, hs2z, hs, hff, hb⟩
  have HB_24 := hide (HB_22.out.bel hb)
  clear HB_22
  have C1_24 := hide (C1_22.out.bel hb)
  clear C1_22
  have FL_24 := hide (FL_22.out.bel hb)
  clear FL_22
  have a_24 := hide (a_22.out.bel hb)
  clear a_22
  have b_24 := hide (b_22.out.bel hb)
  clear b_22
  have S1_24 := hide (S1_22.out.bel hb)
  clear S1_22
  have S2_24 := hide (S2_22.out.bel hb)
  clear S2_22
  have p_24 := hide (p_22.out.bel hb)
  clear p_22
  have q_24 := hide (Hq_22.out.bel hb)
  clear Hq_22
  obtain ⟨A2, cu2, rfl, _, _⟩ := id hs.open_
  have FM_s : Hid (SlW v23 1 (.slice A2 n2 cu2) n2 (sC F2)) := SlW.of hs (Nat.le_refl _)
  have HFF2 := hide hff
  have HS2 := hide hs2z
  clear hs hb hff hs2z
  go_wp2_with fail
  obtain ⟨v25, hW⟩ : ∃ W, W = v23.alloc (.cells #[.int .i64 x2, .int .i64 y2] 38) := ⟨_, rfl⟩
  obtain ⟨db, hdb⟩ : ∃ z, z = v23.heap.size := ⟨_, rfl⟩
  have HN : Hid (BxI v25 db x2 y2) := by show BxI _ _ _ _; rw [hW, hdb]; exact BxI.new _ _ _ _
  have hb : Below v23.heap.size v23 v25 := by rw [hW]; exact (Below.refl _ _).alloc (Nat.le_refl _) _
  rw [← hW, ← hdb]
  clear hW hdb
  have HB_26 := hide (HB_24.out.bel hb)
  clear HB_24
  have C1_26 := hide (C1_24.out.bel hb)
  clear C1_24
  have FL_26 := hide (FL_24.out.bel hb)
  clear FL_24
  have a_26 := hide (a_24.out.bel hb)
  clear a_24
  have b_26 := hide (b_24.out.bel hb)
  clear b_24
  have S1_26 := hide (S1_24.out.bel hb)
  clear S1_24
  have S2_26 := hide (S2_24.out.bel hb)
  clear S2_24
  have p_26 := hide (p_24.out.bel hb)
  clear p_24
  have q_26 := hide (q_24.out.bel hb)
  clear q_24
  have FM_26 := hide (FM_s.out.bel hb)
  clear FM_s
  clear hb
  have Hd_26 := HN
  clear HN
  obtain ⟨⟨f1, f2⟩, hpp⟩ : ∃ z, fwP F2 n2 x2 y2 s2 = z := ⟨_, rfl⟩
  have HFW := hide hpp
  obtain ⟨fo, hpm⟩ : ∃ z, fwOk F2 n2 x2 y2 s2 = z := ⟨_, rfl⟩
  have HFO := hide hpm
  clear hpp hpm
  refine (FollowWay_impl F2 n2 x2 y2 s2 0 _ _ _ FM_26.out (Nat.le_refl _) HFF2.out (by have := HS2.out; unfold maxLen; omega)).mono ?_
  rintro e v27 ⟨rfl, hb⟩
  rw [HFW.out, HFO.out]
  have HB_28 := hide (HB_26.out.bel hb)
  clear HB_26
  have C1_28 := hide (C1_26.out.bel hb)
  clear C1_26
  have FL_28 := hide (FL_26.out.bel hb)
  clear FL_26
  have a_28 := hide (a_26.out.bel hb)
  clear a_26
  have b_28 := hide (b_26.out.bel hb)
  clear b_26
  have S1_28 := hide (S1_26.out.bel hb)
  clear S1_26
  have S2_28 := hide (S2_26.out.bel hb)
  clear S2_26
  have p_28 := hide (p_26.out.bel hb)
  clear p_26
  have q_28 := hide (q_26.out.bel hb)
  clear q_26
  have FM_28 := hide (FM_26.out.bel hb)
  clear FM_26
  have d_28 := hide (Hd_26.out.bel hb)
  clear Hd_26
  clear hb
  obtain ⟨d0, d1, df, dl⟩ := d_28.out
  go_wp2_with fail
  clear d0 d1 df dl
  obtain ⟨v29, hW⟩ : ∃ W, W = v27.alloc (.cells #[.int .i64 f1, .int .i64 f2] 38) := ⟨_, rfl⟩
  obtain ⟨fb, hfb⟩ : ∃ z, z = v27.heap.size := ⟨_, rfl⟩
  have HN : Hid (BxI v29 fb f1 f2) := by show BxI _ _ _ _; rw [hW, hfb]; exact BxI.new _ _ _ _
  have hb : Below v27.heap.size v27 v29 := by rw [hW]; exact (Below.refl _ _).alloc (Nat.le_refl _) _
  rw [← hW, ← hfb]
  clear hW hfb
  have HB_30 := hide (HB_28.out.bel hb)
  clear HB_28
  have C1_30 := hide (C1_28.out.bel hb)
  clear C1_28
  have FL_30 := hide (FL_28.out.bel hb)
  clear FL_28
  have a_30 := hide (a_28.out.bel hb)
  clear a_28
  have b_30 := hide (b_28.out.bel hb)
  clear b_28
  have S1_30 := hide (S1_28.out.bel hb)
  clear S1_28
  have S2_30 := hide (S2_28.out.bel hb)
  clear S2_28
  have p_30 := hide (p_28.out.bel hb)
  clear p_28
  have q_30 := hide (q_28.out.bel hb)
  clear q_28
  have FM_30 := hide (FM_28.out.bel hb)
  clear FM_28
  have d_30 := hide (d_28.out.bel hb)
  clear d_28
  clear hb
  have Hf_30 := HN
  clear HN
  refine (FollowWay_spec F2 n2 x2 y2 s2 0 _ _ _ FM_30.out (Nat.le_refl _) HFF2.out (by have := HS2.out; unfold maxLen; omega)).mono ?_
  rintro e v31 ⟨rfl, hb⟩
  rw [HFW.out, HFO.out]
  have HB_32 := hide (HB_30.out.bel hb)
  clear HB_30
  have C1_32 := hide (C1_30.out.bel hb)
  clear C1_30
  have FL_32 := hide (FL_30.out.bel hb)
  clear FL_30
  have a_32 := hide (a_30.out.bel hb)
  clear a_30
  have b_32 := hide (b_30.out.bel hb)
  clear b_30
  have S1_32 := hide (S1_30.out.bel hb)
  clear S1_30
  have S2_32 := hide (S2_30.out.bel hb)
  clear S2_30
  have p_32 := hide (p_30.out.bel hb)
  clear p_30
  have q_32 := hide (q_30.out.bel hb)
  clear q_30
  have FM_32 := hide (FM_30.out.bel hb)
  clear FM_30
  have d_32 := hide (d_30.out.bel hb)
  clear d_30
  have f_32 := hide (Hf_30.out.bel hb)
  clear Hf_30
  clear hb
  obtain ⟨d0, d1, df, dl⟩ := d_32.out
  go_wp2_with fail
  clear d0 d1 df dl
  obtain ⟨v33, hW⟩ : ∃ W, W = v31.alloc (.cells #[.int .i64 f1, .int .i64 f2] 38) := ⟨_, rfl⟩
  obtain ⟨hb, hhb⟩ : ∃ z, z = v31.heap.size := ⟨_, rfl⟩
  have HN : Hid (BxI v33 hb f1 f2) := by show BxI _ _ _ _; rw [hW, hhb]; exact BxI.new _ _ _ _
  have hb : Below v31.heap.size v31 v33 := by rw [hW]; exact (Below.refl _ _).alloc (Nat.le_refl _) _
  rw [← hW, ← hhb]
  clear hW hhb
  have HB_34 := hide (HB_32.out.bel hb)
  clear HB_32
  have C1_34 := hide (C1_32.out.bel hb)
  clear C1_32
  have FL_34 := hide (FL_32.out.bel hb)
  clear FL_32
  have a_34 := hide (a_32.out.bel hb)
  clear a_32
  have b_34 := hide (b_32.out.bel hb)
  clear b_32
  have S1_34 := hide (S1_32.out.bel hb)
  clear S1_32
  have S2_34 := hide (S2_32.out.bel hb)
  clear S2_32
  have p_34 := hide (p_32.out.bel hb)
  clear p_32
  have q_34 := hide (q_32.out.bel hb)
  clear q_32
  have FM_34 := hide (FM_32.out.bel hb)
  clear FM_32
  have d_34 := hide (d_32.out.bel hb)
  clear d_32
  have f_34 := hide (f_32.out.bel hb)
  clear f_32
  clear hb
  have Hh_34 := HN
  clear HN
  clear FM_34 d_34
  refine (DrawCountOpen_any _ _ C1_34.out).mono ?_
  rintro e v35 ⟨u3, n3, F3, rfl, hs, hff, hb⟩
  have HB_36 := hide (HB_34.out.bel hb)
  clear HB_34
  have C1_36 := hide (C1_34.out.bel hb)
  clear C1_34
  have FL_36 := hide (FL_34.out.bel hb)
  clear FL_34
  have a_36 := hide (a_34.out.bel hb)
  clear a_34
  have b_36 := hide (b_34.out.bel hb)
  clear b_34
  have S1_36 := hide (S1_34.out.bel hb)
  clear S1_34
  have S2_36 := hide (S2_34.out.bel hb)
  clear S2_34
  have p_36 := hide (p_34.out.bel hb)
  clear p_34
  have q_36 := hide (q_34.out.bel hb)
  clear q_34
  have f_36 := hide (f_34.out.bel hb)
  clear f_34
  have h_36 := hide (Hh_34.out.bel hb)
  clear Hh_34
  obtain ⟨A3, cu3, rfl, _, _⟩ := id hs.open_
  have FN_s : Hid (SlW v35 1 (.slice A3 n3 cu3) n3 (sC F3)) := SlW.of hs (Nat.le_refl _)
  have HFF3 := hide hff
  clear hs hb hff
  obtain ⟨cn, hpp⟩ : ∃ z, coR F3 n3 = z := ⟨_, rfl⟩
  have HCN := hide hpp
  obtain ⟨co, hpm⟩ : ∃ z, flB F3 n3 = z := ⟨_, rfl⟩
  have HCO := hide hpm
  clear hpp hpm
  go_wp2_with fail
  refine (CountOpen_impl F3 n3 0 _ _ _ FN_s.out (Nat.le_refl _) HFF3.out).mono ?_
  rintro e v37 ⟨rfl, hb⟩
  rw [HCN.out, HCO.out]
  have HB_38 := hide (HB_36.out.bel hb)
  clear HB_36
  have C1_38 := hide (C1_36.out.bel hb)
  clear C1_36
  have FL_38 := hide (FL_36.out.bel hb)
  clear FL_36
  have a_38 := hide (a_36.out.bel hb)
  clear a_36
  have b_38 := hide (b_36.out.bel hb)
  clear b_36
  have S1_38 := hide (S1_36.out.bel hb)
  clear S1_36
  have S2_38 := hide (S2_36.out.bel hb)
  clear S2_36
  have p_38 := hide (p_36.out.bel hb)
  clear p_36
  have q_38 := hide (q_36.out.bel hb)
  clear q_36
  have f_38 := hide (f_36.out.bel hb)
  clear f_36
  have h_38 := hide (h_36.out.bel hb)
  clear h_36
  have FN_38 := hide (FN_s.out.bel hb)
  clear FN_s
  clear hb
  go_wp2_with fail
  refine (CountOpen_spec F3 n3 0 _ _ _ FN_38.out (Nat.le_refl _) HFF3.out).mono ?_
  rintro e v39 ⟨rfl, hb⟩
  rw [HCN.out, HCO.out]
  have HB_40 := hide (HB_38.out.bel hb)
  clear HB_38
  have C1_40 := hide (C1_38.out.bel hb)
  clear C1_38
  have FL_40 := hide (FL_38.out.bel hb)
  clear FL_38
  have a_40 := hide (a_38.out.bel hb)
  clear a_38
  have b_40 := hide (b_38.out.bel hb)
  clear b_38
  have S1_40 := hide (S1_38.out.bel hb)
  clear S1_38
  have S2_40 := hide (S2_38.out.bel hb)
  clear S2_38
  have p_40 := hide (p_38.out.bel hb)
  clear p_38
  have q_40 := hide (q_38.out.bel hb)
  clear q_38
  have f_40 := hide (f_38.out.bel hb)
  clear f_38
  have h_40 := hide (h_38.out.bel hb)
  clear h_38
  have FN_40 := hide (FN_38.out.bel hb)
  clear FN_38
  clear hb
  go_wp2_with fail
  refine (DrawIsOpenCell_any _ _ C1_40.out).mono ?_
  rintro e v41 ⟨u4, n4, F4, x4, y4, rfl, hs, hff, hb⟩
  have HB_42 := hide (HB_40.out.bel hb)
  clear HB_40
  have C1_42 := hide (C1_40.out.bel hb)
  clear C1_40
  have FL_42 := hide (FL_40.out.bel hb)
  clear FL_40
  have a_42 := hide (a_40.out.bel hb)
  clear a_40
  have b_42 := hide (b_40.out.bel hb)
  clear b_40
  have S1_42 := hide (S1_40.out.bel hb)
  clear S1_40
  have S2_42 := hide (S2_40.out.bel hb)
  clear S2_40
  have p_42 := hide (p_40.out.bel hb)
  clear p_40
  have q_42 := hide (q_40.out.bel hb)
  clear q_40
  have f_42 := hide (f_40.out.bel hb)
  clear f_40
  have h_42 := hide (h_40.out.bel hb)
  clear h_40
  have FN_42 := hide (FN_40.out.bel hb)
  clear FN_40
  clear C1_42
  obtain ⟨A4, cu4, rfl, _, _⟩ := id hs.open_
  have FO_s : Hid (SlW v41 1 (.slice A4 n4 cu4) n4 (sC F4)) := SlW.of hs (Nat.le_refl _)
  have HFF4 := hide hff
  clear hs hb hff
  go_wp2_with fail
  obtain ⟨v43, hW⟩ : ∃ W, W = v41.alloc (.cells #[.int .i64 x4, .int .i64 y4] 38) := ⟨_, rfl⟩
  obtain ⟨jb, hjb⟩ : ∃ z, z = v41.heap.size := ⟨_, rfl⟩
  have HN : Hid (BxI v43 jb x4 y4) := by show BxI _ _ _ _; rw [hW, hjb]; exact BxI.new _ _ _ _
  have hb : Below v41.heap.size v41 v43 := by rw [hW]; exact (Below.refl _ _).alloc (Nat.le_refl _) _
  rw [← hW, ← hjb]
  clear hW hjb
  have HB_44 := hide (HB_42.out.bel hb)
  clear HB_42
  have FL_44 := hide (FL_42.out.bel hb)
  clear FL_42
  have a_44 := hide (a_42.out.bel hb)
  clear a_42
  have b_44 := hide (b_42.out.bel hb)
  clear b_42
  have S1_44 := hide (S1_42.out.bel hb)
  clear S1_42
  have S2_44 := hide (S2_42.out.bel hb)
  clear S2_42
  have p_44 := hide (p_42.out.bel hb)
  clear p_42
  have q_44 := hide (q_42.out.bel hb)
  clear q_42
  have f_44 := hide (f_42.out.bel hb)
  clear f_42
  have h_44 := hide (h_42.out.bel hb)
  clear h_42
  have FN_44 := hide (FN_42.out.bel hb)
  clear FN_42
  have FO_44 := hide (FO_s.out.bel hb)
  clear FO_s
  clear hb
  have Hj_44 := HN
  clear HN
  obtain ⟨io, hpp⟩ : ∃ z, ioR F4 n4 x4 y4 = z := ⟨_, rfl⟩
  have HIO := hide hpp
  obtain ⟨ip, hpm⟩ : ∃ z, flB F4 n4 = z := ⟨_, rfl⟩
  have HIP := hide hpm
  clear hpp hpm
  refine (IsOpenCell_impl F4 n4 x4 y4 0 _ _ _ FO_44.out (Nat.le_refl _) HFF4.out).mono ?_
  rintro e v45 ⟨rfl, hb⟩
  rw [HIO.out, HIP.out]
  have HB_46 := hide (HB_44.out.bel hb)
  clear HB_44
  have FL_46 := hide (FL_44.out.bel hb)
  clear FL_44
  have a_46 := hide (a_44.out.bel hb)
  clear a_44
  have b_46 := hide (b_44.out.bel hb)
  clear b_44
  have S1_46 := hide (S1_44.out.bel hb)
  clear S1_44
  have S2_46 := hide (S2_44.out.bel hb)
  clear S2_44
  have p_46 := hide (p_44.out.bel hb)
  clear p_44
  have q_46 := hide (q_44.out.bel hb)
  clear q_44
  have f_46 := hide (f_44.out.bel hb)
  clear f_44
  have h_46 := hide (h_44.out.bel hb)
  clear h_44
  have FN_46 := hide (FN_44.out.bel hb)
  clear FN_44
  have FO_46 := hide (FO_44.out.bel hb)
  clear FO_44
  have j_46 := hide (Hj_44.out.bel hb)
  clear Hj_44
  clear hb
  obtain ⟨j0, j1, jf, jl⟩ := j_46.out
  go_wp2_with fail
  clear j0 j1 jf jl
  refine (IsOpenCell_spec F4 n4 x4 y4 0 _ _ _ FO_46.out (Nat.le_refl _) HFF4.out).mono ?_
  rintro e v47 ⟨rfl, hb⟩
  rw [HIO.out, HIP.out]
  have HB_48 := hide (HB_46.out.bel hb)
  clear HB_46
  have FL_48 := hide (FL_46.out.bel hb)
  clear FL_46
  have a_48 := hide (a_46.out.bel hb)
  clear a_46
  have b_48 := hide (b_46.out.bel hb)
  clear b_46
  have S1_48 := hide (S1_46.out.bel hb)
  clear S1_46
  have S2_48 := hide (S2_46.out.bel hb)
  clear S2_46
  have p_48 := hide (p_46.out.bel hb)
  clear p_46
  have q_48 := hide (q_46.out.bel hb)
  clear q_46
  have f_48 := hide (f_46.out.bel hb)
  clear f_46
  have h_48 := hide (h_46.out.bel hb)
  clear h_46
  have FN_48 := hide (FN_46.out.bel hb)
  clear FN_46
  have FO_48 := hide (FO_46.out.bel hb)
  clear FO_46
  have j_48 := hide (j_46.out.bel hb)
  clear j_46
  clear hb
  clear FO_48 j_48
  go_upto_region 19 with fail
  go_cut [233] from 152 to 233 (fun s wx => s = .bool false ∧ Hid (BelW w wx) ∧ Hid (SlW wx 1 (.slice Au n1 cu) n1 (sC F)) ∧ Hid (BxI wx ab r c) ∧ Hid (BxI wx bb x y) ∧ Hid (SlW wx 1 (.slice S1 N cs1) N (iC O)) ∧ Hid (SlW wx 1 (.slice S2 N cs2) N (iC O)) ∧ Hid (BxI wx pb p1 p2) ∧ Hid (BxI wx qb p1 p2) ∧ Hid (BxI wx fb f1 f2) ∧ Hid (BxI wx hb f1 f2) ∧ Hid (SlW wx 1 (.slice A3 n3 cu3) n3 (sC F3)))
  case first => as_aux_lemma =>
    have HN1 : Hid (N ≤ 1048576) := by show N ≤ _; rw [← HNN.out]; exact sfN_le
    have HOI : Hid (ok = true → on = true) := fun h => by rw [← HON.out]; have h2 := HOK.out.trans h; simp only [wbOk, Bool.and_eq_true] at h2; exact h2.1.1
    go_wp2_with fail
    refine (qInts_same O N 0 _ 0 _ _ _ _ S1_48.out S2_48.out (Nat.le_refl _) (Nat.le_refl _) HN1.out).mono ?_
    rintro e v49 ⟨rfl, hb⟩
    have HB_50 := hide (HB_48.out.bel hb)
    clear HB_48
    have FL_50 := hide (FL_48.out.bel hb)
    clear FL_48
    have a_50 := hide (a_48.out.bel hb)
    clear a_48
    have b_50 := hide (b_48.out.bel hb)
    clear b_48
    have S1_50 := hide (S1_48.out.bel hb)
    clear S1_48
    have S2_50 := hide (S2_48.out.bel hb)
    clear S2_48
    have p_50 := hide (p_48.out.bel hb)
    clear p_48
    have q_50 := hide (q_48.out.bel hb)
    clear q_48
    have f_50 := hide (f_48.out.bel hb)
    clear f_48
    have h_50 := hide (h_48.out.bel hb)
    clear h_48
    have FN_50 := hide (FN_48.out.bel hb)
    clear FN_48
    clear hb
    obtain ⟨p0, p1, pf, pl⟩ := p_50.out
    obtain ⟨q0, q1, qf, ql⟩ := q_50.out
    obtain ⟨f0, f1, ff, fl⟩ := f_50.out
    obtain ⟨h0, h1, hf, hl⟩ := h_50.out
    go_wp2_with fail
    clear p0 p1 pf pl q0 q1 qf ql f0 f1 ff fl h0 h1 hf hl
    refine (IsFloor_impl F3 n3 0 _ _ _ FN_50.out (Nat.le_refl _) HFF3.out).mono ?_
    rintro e v51 ⟨rfl, hb⟩
    rw [HCO.out]
    have HB_52 := hide (HB_50.out.bel hb)
    clear HB_50
    have FL_52 := hide (FL_50.out.bel hb)
    clear FL_50
    have a_52 := hide (a_50.out.bel hb)
    clear a_50
    have b_52 := hide (b_50.out.bel hb)
    clear b_50
    have S1_52 := hide (S1_50.out.bel hb)
    clear S1_50
    have S2_52 := hide (S2_50.out.bel hb)
    clear S2_50
    have p_52 := hide (p_50.out.bel hb)
    clear p_50
    have q_52 := hide (q_50.out.bel hb)
    clear q_50
    have f_52 := hide (f_50.out.bel hb)
    clear f_50
    have h_52 := hide (h_50.out.bel hb)
    clear h_50
    have FN_52 := hide (FN_50.out.bel hb)
    clear FN_50
    clear hb
    cases ok with
    | false =>
      go_wp2_with fail
      go_meet
      case rel => exact ⟨rfl, HB_52, FL_52, a_52, b_52, S1_52, S2_52, p_52, q_52, f_52, h_52, FN_52⟩
    | true =>
      obtain rfl : on = true := HOI.out rfl
      go_wp2_with fail
      go_meet
      case rel => exact ⟨rfl, HB_52, FL_52, a_52, b_52, S1_52, S2_52, p_52, q_52, f_52, h_52, FN_52⟩
  case rest => as_aux_lemma =>
    obtain ⟨rfl, HB_49, FL_49, a_49, b_49, S1_49, S2_49, p_49, q_49, f_49, h_49, FN_49⟩ := hcut
    clear S1_49
    clear p_49
    clear f_49
    clear h_49
    clear FN_49
    go_upto_if 234 with fail
    go_cut [] from 40 to 305 (fun wx => Hid (BelW w wx) ∧ Hid (SlW wx 1 (.slice Au n1 cu) n1 (sC F)) ∧ Hid (BxI wx ab r c) ∧ Hid (BxI wx bb x y) ∧ Hid (SlW wx 1 (.slice S2 N cs2) N (iC O)) ∧ Hid (BxI wx qb p1 p2))
    case first => as_aux_lemma =>
      cases ok with
      | false =>
        go_wp2_with fail
        go_meet
        case rel => exact ⟨HB_49, FL_49, a_49, b_49, S2_49, q_49⟩
      | true =>
        have HSF : Hid (fwOk F n1 r c ws = true ∧ fwP F n1 r c ws = (x, y)) := by
          have h := way_follow HOK.out
          rw [HWS.out] at h
          exact h
        have hst := way_steps HOK.out
        have hsy := way_symm HOK.out
        rw [HWS.out] at hst hsy
        have hsm := wbS_small F n1 r c x y
        rw [HWS.out] at hsm
        have hpt := wbOk_parts HOK.out
        have hfl := flB_facts hpt.1
        have hbd := opP_bd (F := F) (n := n1) (p := (x, y)) hpt.2.2.1
        have hso : sfOk F n1 r c = true := by rw [sfOk, hpt.1, hpt.2.1]; rfl
        have hNN : N = n1 * (F 0).size := by rw [← HNN.out, sfN, if_pos hso]
        rw [HOO.out] at hst
        obtain ⟨ix, hix⟩ : ∃ z, ixF F (x, y) = z := ⟨_, rfl⟩
        rw [hix] at hst
        obtain ⟨wk, hwk⟩ : ∃ z, wbS F n1 x y r c = z := ⟨_, rfl⟩
        rw [hwk] at hsy
        have HWK := hide hwk
        have HS1 : Hid (wbOk F n1 x y r c = true) := hsy.1
        have HS2z : Hid (wk.size = ws.size) := hsy.2
        have HIX : Hid (ix < N) := by show _ < _; rw [hNN]; exact hst.2.1
        have HIO : Hid (O ix = (ws.size : Nat)) := hst.2.2
        have HIY : Hid (x * ((F 0).size : Int) + y = (ix : Int)) := hst.1
        have HN0 : Hid (0 < n1) := by show 0 < n1; omega
        have HSM : Hid (ws.size ≤ 144) := hsm
        have HXB : Hid (0 ≤ x ∧ x ≤ 12 ∧ 0 ≤ y ∧ y ≤ 12 ∧ (F 0).size ≤ 12) := by
          have h1 := hbd.1
          have h2 := hbd.2.1
          have h3 := hbd.2.2.1
          have h4 := hbd.2.2.2
          refine ⟨h1, ?_, h3, ?_, hfl.2.2.2.1⟩
          · have : x < n1 := h2
            omega
          · have : y < (F 0).size := h4
            omega
        clear hst hsy hsm hpt hfl hbd hso hNN hix hwk
        obtain ⟨a0, a1, af, al⟩ := a_49.out
        go_wp2_with fail
        clear a0 a1 af al
        refine (FollowWay_impl F n1 r c ws 0 _ _ _ FL_49.out (Nat.le_refl _) HFF.out (by have := HSM.out; unfold maxLen; omega)).mono ?_
        rintro e v50 ⟨rfl, hb⟩
        rw [HSF.out.1, HSF.out.2]
        have HB_51 := hide (HB_49.out.bel hb)
        clear HB_49
        have FL_51 := hide (FL_49.out.bel hb)
        clear FL_49
        have a_51 := hide (a_49.out.bel hb)
        clear a_49
        have b_51 := hide (b_49.out.bel hb)
        clear b_49
        have S2_51 := hide (S2_49.out.bel hb)
        clear S2_49
        have q_51 := hide (q_49.out.bel hb)
        clear q_49
        clear hb
        obtain ⟨a0, a1, af, al⟩ := a_51.out
        obtain ⟨b0, b1, bf, bl⟩ := b_51.out
        go_wp2_with fail
        clear a0 a1 af al b0 b1 bf bl
        obtain ⟨v52, hW⟩ : ∃ W, W = v50.alloc (.cells #[.int .i64 x, .int .i64 y] 38) := ⟨_, rfl⟩
        obtain ⟨kb, hkb⟩ : ∃ z, z = v50.heap.size := ⟨_, rfl⟩
        have HN : Hid (BxI v52 kb x y) := by show BxI _ _ _ _; rw [hW, hkb]; exact BxI.new _ _ _ _
        have hb : Below v50.heap.size v50 v52 := by rw [hW]; exact (Below.refl _ _).alloc (Nat.le_refl _) _
        rw [← hW, ← hkb]
        clear hW hkb
        have HB_53 := hide (HB_51.out.bel hb)
        clear HB_51
        have FL_53 := hide (FL_51.out.bel hb)
        clear FL_51
        have a_53 := hide (a_51.out.bel hb)
        clear a_51
        have b_53 := hide (b_51.out.bel hb)
        clear b_51
        have S2_53 := hide (S2_51.out.bel hb)
        clear S2_51
        have q_53 := hide (q_51.out.bel hb)
        clear q_51
        clear hb
        have Hk_53 := HN
        clear HN
        refine (WayBack_impl F n1 x y r c 0 _ _ _ FL_53.out (Nat.le_refl _) HFF.out).mono ?_
        rintro e v54 ⟨rfl, hb⟩
        rw [HS1.out, HWK.out]
        have HB_55 := hide (HB_53.out.bel hb)
        clear HB_53
        have FL_55 := hide (FL_53.out.bel hb)
        clear FL_53
        have a_55 := hide (a_53.out.bel hb)
        clear a_53
        have b_55 := hide (b_53.out.bel hb)
        clear b_53
        have S2_55 := hide (S2_53.out.bel hb)
        clear S2_53
        have q_55 := hide (q_53.out.bel hb)
        clear q_53
        have k_55 := hide (Hk_53.out.bel hb)
        clear Hk_53
        clear hb
        obtain ⟨a0, a1, af, al⟩ := a_55.out
        obtain ⟨b0, b1, bf, bl⟩ := b_55.out
        go_wp2_with fail
        clear a0 a1 af al b0 b1 bf bl
        refine (WayBack_spec F n1 x y r c 0 _ _ _ FL_55.out (Nat.le_refl _) HFF.out).mono ?_
        rintro e v56 ⟨rfl, hb⟩
        rw [HS1.out, HWK.out]
        have HB_57 := hide (HB_55.out.bel hb)
        clear HB_55
        have FL_57 := hide (FL_55.out.bel hb)
        clear FL_55
        have a_57 := hide (a_55.out.bel hb)
        clear a_55
        have b_57 := hide (b_55.out.bel hb)
        clear b_55
        have S2_57 := hide (S2_55.out.bel hb)
        clear S2_55
        have q_57 := hide (q_55.out.bel hb)
        clear q_55
        have k_57 := hide (k_55.out.bel hb)
        clear k_55
        clear hb
        obtain ⟨e0, c0, e1, _, hA0⟩ := Sl.open_ S2_57.out
        injection e1 with e2 e3 e4
        subst e2 e4
        obtain ⟨sb, so, hsb, _, pq2, pq3⟩ := hA0 (by have := HIX.out; omega)
        subst hsb
        have ds : v56.cell? ⟨sb, so + ix, none⟩ = some (.int .i64 (O ix)) := by simpa [iC] using pq3 ix 0 HIX.out (by omega)
        have ls : sb < v56.heap.size := pq2
        obtain ⟨e0', c0', e1', _, hA0'⟩ := Sl.open_ FL_57.out
        injection e1' with e2' e3' e4'
        subst e2' e4'
        obtain ⟨fbk, fo, hfb, _, pq2', pq3'⟩ := hA0' HN0.out
        subst hfb
        have df : v56.cell? ⟨fbk, fo, none⟩ = some (.string (F 0)) := by simpa [sC] using pq3' 0 0 HN0.out (by omega)
        have lf : fbk < v56.heap.size := pq2'
        clear hA0 pq3 hA0' pq3' e3 e3'
        rw [HIO.out] at ds
        obtain ⟨xb1, xb2, xb3, xb4, xb5⟩ := HXB.out
        have hle : x * ((F 0).size : Int) ≤ 12 * 12 := Int.le_trans (Int.mul_le_mul_of_nonneg_right xb2 (by omega)) (by omega)
        have hge : 0 ≤ x * ((F 0).size : Int) := Int.mul_nonneg xb1 (by omega)
        have z1 : IntKind.i64.wrap (x * ((F 0).size : Int)) = x * ((F 0).size : Int) := IntWalk.i64_in _ (by omega)
        have hiy := HIY.out
        have hixl := HIX.out
        have z2 : IntKind.i64.wrap (x * ((F 0).size : Int) + y) = (ix : Int) := by rw [IntWalk.i64_in _ (by omega)]; exact hiy
        have hsm := HSM.out
        have d200 : decide ((ws.size : Int) ≤ 200) = true := decide_eq_true (by omega)
        have d200n : decide (ws.size ≤ 200) = true := decide_eq_true (by omega)
        have hss := HS2z.out
        have hn0 := HN0.out
        clear hiy hle hge xb1 xb2 xb3 xb4 xb5
        obtain ⟨b0, b1, bf, bl⟩ := b_57.out
        obtain ⟨k0, k1, kf, kl⟩ := k_57.out
        go_wp2_with fail
        (refine wp_region_below_lit (by kernel_rfl) (by kernel_rfl) ?_; (repeat (first | go_big_quiet_step (fail) | quiet_step (fail))); refine wpQuiet_nil ?_; intro w25 hb25; have hz25 := hb25.size; (try (simp at hz25)); obtain ⟨hcw25, hfw25⟩ := bcell hb25; (try (have hy25 : w.heap.size < w25.heap.size := by omega)); (try (have hyy25 : w.heap.size + 1 < w25.heap.size := by omega)))
        go_wp2
        go_meet
        case rel =>
          have hb : Below v56.heap.size v56 w25 := (by repeat (first | (with_reducible exact Below.refl _ _) | (with_reducible refine below_ov ?_ ?_) | (with_reducible refine Below.setCell ?_ ?_ _) | (with_reducible refine Below.alloc ?_ ?_ _) | (with_reducible refine Below.drew ?_) | (with_reducible refine below_drewN ?_ _) | (refine Below.trans ?_ (Below.mono ‹Below _ _ _› (by first | omega | (simp; done) | (simp; omega)))) | exact Below.refl _ _ | omega | (focus (simp; done)) | (focus (simp; omega))))
          exact ⟨hide (HB_57.out.bel hb), hide (FL_57.out.bel hb), hide (a_57.out.bel hb), hide (b_57.out.bel hb), hide (S2_57.out.bel hb), hide (q_57.out.bel hb)⟩
    case rest => as_aux_lemma =>
      obtain ⟨HB_50, FL_50, a_50, b_50, S2_50, q_50⟩ := hcut
      go_upto_if 306 with fail
      go_cut [] from 40 to 365 (fun wx => Hid (BelW w wx) ∧ Hid (SlW wx 1 (.slice Au n1 cu) n1 (sC F)) ∧ Hid (BxI wx ab r c) ∧ Hid (BxI wx bb x y) ∧ Hid (SlW wx 1 (.slice S2 N cs2) N (iC O)) ∧ Hid (BxI wx qb p1 p2))
      case first => as_aux_lemma =>
        cases on with
        | false =>
          go_wp2_with fail
          go_meet
          case rel => exact ⟨HB_50, FL_50, a_50, b_50, S2_50, q_50⟩
        | true =>
          have hso : sfOk F n1 r c = true := HON.out
          obtain ⟨hre1, hre2⟩ := reached_ok hso
          obtain ⟨kf, hk1, hk2, hk3, hk4⟩ := far_ok hso
          have hfb := far_bd hso
          have hfl := flB_facts (sfOk_parts hso).1
          have har := fl_area (sfOk_parts hso).1
          have hNN : n1 * (F 0).size = N := by rw [← HNN.out, sfN, if_pos hso]
          have HFL : Hid (flB F n1 = true) := (sfOk_parts hso).1
          rw [HOO.out] at hre1 hre2 hk3 hk4
          rw [HPP.out] at hk2 hfb
          rw [HPM.out] at hk3 hk4
          rw [hNN] at hre1 hre2 hk1 hk4 har
          simp only at hk2 hfb
          obtain ⟨ca, hca⟩ : ∃ z, coR F n1 = z := ⟨_, rfl⟩
          rw [hca] at hre2
          have HCA := hide hca
          have HRE : Hid (1 ≤ rchF O N ∧ rchF O N ≤ ca) := ⟨hre1, hre2⟩
          have HKF : Hid (kf < N) := hk1
          have HKI : Hid (p1 * ((F 0).size : Int) + p2 = (kf : Int)) := hk2
          have HKO : Hid (O kf = pm) := hk3
          have HKL : Hid (∀ j, j < N → O j ≤ pm) := hk4
          have HFB := hide hfb
          have HN0 : Hid (0 < n1) := by show 0 < n1; omega
          have HNE : Hid (n1 * (F 0).size = N) := hNN
          have HAR : Hid (1 ≤ N ∧ N ≤ 144) := har
          clear hre1 hre2 hk1 hk2 hk3 hk4 hfb hfl har hNN hca
          go_wp2_with fail
          refine (CountOpen_spec F n1 0 _ _ _ FL_50.out (Nat.le_refl _) HFF.out).mono ?_
          rintro e v51 ⟨rfl, hb⟩
          rw [HCA.out, HFL.out]
          have HB_52 := hide (HB_50.out.bel hb)
          clear HB_50
          have FL_52 := hide (FL_50.out.bel hb)
          clear FL_50
          have a_52 := hide (a_50.out.bel hb)
          clear a_50
          have b_52 := hide (b_50.out.bel hb)
          clear b_50
          have S2_52 := hide (S2_50.out.bel hb)
          clear S2_50
          have q_52 := hide (q_50.out.bel hb)
          clear q_50
          clear hb
          go_wp2_with fail
          go_loopg [48, 314] (N + 1) (fun gn rv iv wr => ∃ k : Nat, k ≤ N ∧ N - k < gn ∧ rv = .int .i64 (rchF O k : Nat) ∧ iv = .int .i64 k ∧ Hid (Below v51.heap.size v51 wr))
          case atStart => exact ⟨0, by omega, by omega, rfl, rfl, Below.refl _ _⟩
          case round =>
            obtain ⟨k, hk, hgn, rfl, rfl, HBL⟩ := hrel
            have LHB := hide (HB_52.out.bel HBL.out)
            have LFL := hide (FL_52.out.bel HBL.out)
            have La := hide (a_52.out.bel HBL.out)
            have Lb := hide (b_52.out.bel HBL.out)
            have LS2 := hide (S2_52.out.bel HBL.out)
            have Lq := hide (q_52.out.bel HBL.out)
            have hrl := rchF_le O k
            obtain ⟨har1, har2⟩ := HAR.out
            by_cases hkn : k < N
            · skip
              have HKN : Hid (k < N) := hkn
              obtain ⟨e0, c0, e1, _, hA0⟩ := Sl.open_ LS2.out
              injection e1 with e2 e3 e4
              subst e2 e4
              obtain ⟨sb, so, hsb, _, p2', p3⟩ := hA0 (by omega)
              subst hsb
              have ds : wr.cell? ⟨sb, so + k, none⟩ = some (.int .i64 (O k)) := by simpa [iC] using p3 k 0 hkn (by omega)
              have ls : sb < wr.heap.size := p2'
              clear hA0 p3 e3
              have hkl := HKL.out k hkn
              have dk : decide (O k > pm) = false := decide_eq_false (by omega)
              have dk' : decide (pm < O k) = false := decide_eq_false (by omega)
              by_cases h0 : 0 ≤ O k
              · have d0 : decide (O k ≥ 0) = true := decide_eq_true h0
                have d0' : decide (0 ≤ O k) = true := decide_eq_true h0
                have HR1 := hide (rchF_yes h0)
                clear h0 hkl
                go_wp2_with fail
                go_roundg (N - k)
                case measure => omega
                case rel => exact ⟨k + 1, by omega, by omega, by rw [HR1.out]; try go_num, by go_num, HBL.out⟩
              · have d0 : decide (O k ≥ 0) = false := decide_eq_false h0
                have d0' : decide (0 ≤ O k) = false := decide_eq_false h0
                have HR1 := hide (rchF_no h0)
                clear h0 hkl
                go_wp2_with fail
                go_roundg (N - k)
                case measure => omega
                case rel => exact ⟨k + 1, by omega, by omega, by rw [HR1.out]; try go_num, by go_num, HBL.out⟩
            · skip
              have ekn : k = N := by omega
              subst ekn
              obtain ⟨e0, c0, e1, _, hA0⟩ := Sl.open_ LS2.out
              injection e1 with e2 e3 e4
              subst e2 e4
              obtain ⟨sb, so, hsb, _, pq2, pq3⟩ := hA0 (by have := HKF.out; omega)
              subst hsb
              have ds : wr.cell? ⟨sb, so + kf, none⟩ = some (.int .i64 (O kf)) := by simpa [iC] using pq3 kf 0 HKF.out (by omega)
              have ls : sb < wr.heap.size := pq2
              obtain ⟨e0', c0', e1', _, hA0'⟩ := Sl.open_ LFL.out
              injection e1' with e2' e3' e4'
              subst e2' e4'
              obtain ⟨fbk, fo, hfb, _, pq2', pq3'⟩ := hA0' HN0.out
              subst hfb
              have df : wr.cell? ⟨fbk, fo, none⟩ = some (.string (F 0)) := by simpa [sC] using pq3' 0 0 HN0.out (by omega)
              have lf : fbk < wr.heap.size := pq2'
              clear hA0 pq3 hA0' pq3' e3 e3'
              rw [HKO.out] at ds
              obtain ⟨⟨fb1, fb2⟩, fb3, fb4⟩ := HFB.out
              have hkq := HKI.out
              have hkf := HKF.out
              obtain ⟨hr1, hr2⟩ := HRE.out
              have z1 : IntKind.i64.wrap (p1 * ((F 0).size : Int)) = p1 * ((F 0).size : Int) := IntWalk.i64_in _ (by omega)
              have z2 : IntKind.i64.wrap (p1 * ((F 0).size : Int) + p2) = (kf : Int) := by rw [IntWalk.i64_in _ (by omega)]; exact hkq
              have hne : (n1 : Int) * ((F 0).size : Int) = (k : Int) := by rw [← HNE.out]; push_cast; rfl
              have z3 : IntKind.i64.wrap ((n1 : Int) * ((F 0).size : Int)) = (k : Int) := by rw [hne]; exact IntWalk.i64_in _ (by omega)
              have d1 : decide (((rchF O k : Nat) : Int) > (ca : Int)) = false := decide_eq_false (by omega)
              have d1' : decide (ca < rchF O k) = false := decide_eq_false (by omega)
              have d2 : decide (((rchF O k : Nat) : Int) < 1) = false := decide_eq_false (by omega)
              have d2' : decide (rchF O k < 1) = false := decide_eq_false (by omega)
              have d3 : rchF O k ≠ 0 := by omega
              have hn0 := HN0.out
              clear hkq fb1 fb2 fb3 fb4 hne
              obtain ⟨q0, q1, qf, ql⟩ := Lq.out
              go_wp2_with fail
              (refine wp_region_below_lit (by kernel_rfl) (by kernel_rfl) ?_; (repeat (first | go_big_quiet_step (fail) | quiet_step (fail))); refine wpQuiet_nil ?_; intro w38 hb38; have hz38 := hb38.size; (try (simp at hz38)); obtain ⟨hcw38, hfw38⟩ := bcell hb38; (try (have hy38 : w.heap.size < w38.heap.size := by omega)); (try (have hyy38 : w.heap.size + 1 < w38.heap.size := by omega)))
              go_wp2
              go_meet
              case rel =>
                have hb : Below v51.heap.size v51 wr := HBL.out
                have hb2 : Below wr.heap.size wr w38 := (by repeat (first | (with_reducible exact Below.refl _ _) | (with_reducible refine below_ov ?_ ?_) | (with_reducible refine Below.setCell ?_ ?_ _) | (with_reducible refine Below.alloc ?_ ?_ _) | (with_reducible refine Below.drew ?_) | (with_reducible refine below_drewN ?_ _) | (refine Below.trans ?_ (Below.mono ‹Below _ _ _› (by first | omega | (simp; done) | (simp; omega)))) | exact Below.refl _ _ | omega | (focus (simp; done)) | (focus (simp; omega))))
                exact ⟨hide (LHB.out.bel hb2), hide (LFL.out.bel hb2), hide (La.out.bel hb2), hide (Lb.out.bel hb2), hide (LS2.out.bel hb2), hide (Lq.out.bel hb2)⟩
      case rest => as_aux_lemma =>
        obtain ⟨HB_51, FL_51, a_51, b_51, S2_51, q_51⟩ := hcut
        go_wp2_with fail
        go_ret
        exact ⟨rfl, HB_51.out⟩

set_option maxRecDepth 100000 in
theorem FnWays_lifted (os : Os) (started : os.Started) (H : Type) (enc : TypeId × Value → H) :
    ReturnsInHanded {} Tryd.checked os 7 .any (fun w args => (Rows.fnWaysSpec.pre enc Tryd.prog Tryd.f7 Rows.fnWaysRow.domain false w args ∧ laidMetH Tryd.prog Rows.fnWaysRow.laid w) ∧ sizedMet enc Tryd.prog Tryd.f7 (OpenSpec.ofChange Rows.fnWaysSpec) false w args) (Rows.fnWaysSpec.post enc Tryd.prog Tryd.f7 false true false false) := by
  refine returnsInHanded_of_change_and (C := Tryd.checked) (X := fun w _ => laidMetH Tryd.prog Rows.fnWaysRow.laid w) (fun _ _ _ hh h => h.of_heap hh) Tryd.own started (by kernel_rfl) Tryd.func7
    (ChangeSpec.witness_shaped (enc := enc) (C := Tryd.checked) (os := os) (X := fun w _ => laidMetH Tryd.prog Rows.fnWaysRow.laid w) false (World.laidAll Tryd.prog os Rows.fnWaysRow.laid) #[.slice none 0 0, .slice none 0 0] 8 (World.laidAll_os _ _ _)
      (World.shaped_of_ZipB (by kernel_rfl) (by kernel_rfl)) (by kernel_rfl) (by kernel_rfl) (by kernel_rfl)
      (by rw [MakeChecks.laidMetH_plain _ _ _ (by kernel_rfl)]; exact laidMet_laidAll _ (by kernel_rfl) (by kernel_rfl))) ?_
  intro W base args ds gs before hval0 hW _ hsz hL _
  have hval : ∀ (j : Nat) t v, Tryd.f7.params[j]? = some t → args[j]? = some v → Value.okWide Tryd.prog W .any base t v := hval0
  have hW' := hW
  obtain ⟨p, q, hA0, hV, rfl, hfz, hnd⟩ := hW
  have hA : DataW.TrodAll enc Tryd.prog W 0 (fun _ => true) true Tryd.f7.params.toList args.toList ds p := hA0
  rw [Tryd.params7] at hA hval
  obtain ⟨v0, vs0, d0, ds0, p0, q0, hargs, rfl, rfl, h0, r0⟩ := trodAll_cons hA
  obtain ⟨v1, vs1, d1, ds1, p1, q1, rfl, rfl, rfl, h1, r1⟩ := trodAll_cons r0
  obtain ⟨rfl, rfl, rfl⟩ := trodAll_nil r1
  obtain rfl : args = #[v0, v1] := by cases args; simp_all
  obtain ⟨rfl, rfl⟩ := trodVars_none hV
  have hend : ∀ W', Below W.heap.size W W' → Rows.fnWaysSpec.post enc Tryd.prog Tryd.f7 false true false false W #[v0, v1] (.bool true) W' := fun W' hb =>
    law_post (T := 4) Tryd.laidOut rfl (by kernel_rfl) rfl Tryd.underlying4 hW' rfl hb
  clear hW' hA0 hval0
  obtain ⟨A, n, cap, rfl, hk0, hm0, hA0⟩ := openByte (hval 0 _ v0 rfl rfl) h0
  obtain ⟨B, mm, capB, rfl, hk1, hm1, hA1⟩ := openByte (hval 1 _ v1 rfl rfl) h1
  refine (FnWays_walk A n cap B mm capB W hA0 hA1).mono fun e W' ⟨he, hb⟩ => ?_
  subst he
  exact ⟨_, rfl, hend W' hb⟩
/-- The statement. -/
theorem FnWays_holds : Rows.FnWaysSaid :=
  OpenClaim.holds_of_wide 7 Tryd.f7 rfl rfl rfl rfl rfl rfl rfl ⟨rfl, rfl, rfl, rfl, rfl⟩ rfl rfl rfl rfl rfl (by kernel_rfl) Tryd.func7 (show joinedFacts Tryd.prog 7 Tryd.f7 Rows.fnWaysSpec Rows.fnWaysRow = true from by unfold joinedFacts; rw [Tryd.heard, Tryd.enters, Tryd.lifts, Tryd.laidOut, Tryd.rowed, Tryd.made]; kernel_rfl)
    (of_decide_eq_true (by kernel_rfl)) (by unfold Func.isWrapper; first | (rw [if_pos (by decide +kernel)]; kernel_rfl) | (rw [if_neg (by decide +kernel)]; exact ⟨rfl, rfl⟩))
    (fun os started H enc _ => FnWays_lifted os started H enc)
#print axioms FnWays_holds
/-- The tied card. -/
theorem FnWays_card : Rows.FnWaysCardSaid :=
  Claim7.holds_tied_plain_at .later [] [.data, .pinned] true (true, "9bc3415960b78502ef8bbbaf3fc61dd07d7d66dca491c55dd25d91170ccba87f") false FnWays_holds (fun _ h => by cases h) (by kernel_rfl) (fun _ h => by cases h) fnWays_row_tie rfl ⟨rfl, rfl⟩ Tryd.mainIs0 rfl
    (fun f fn hf hfn => by
      obtain rfl : f = 7 := Option.some.inj ((show Tryd.prog.funcNamed "loop.example/g01020/laws.FnWays" = some 7 by kernel_rfl).symm.trans hf) |>.symm
      obtain rfl : fn = Tryd.f7 := (Option.some.inj (Tryd.func7.symm.trans hfn)).symm
      exact ⟨Tryd.looks0, fun j t ht => by
        have hall : (Tryd.f7.params.toList.all fun u => !Tryd.prog.wantsStandIn u) = true := by kernel_rfl
        have hm : t ∈ Tryd.f7.params.toList := by simpa using Array.mem_of_getElem? ht
        exact (show Tryd.prog.wantsStandIn t = false by simpa using List.all_eq_true.1 hall t hm)⟩)
    (by kernel_rfl)
#print axioms FnWays_card
end Go.Proofs.YtpckhpkbdanjoaaDoor
