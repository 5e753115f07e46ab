/-
  FnEntryBoard: the law returns true at every input. No condition.
-/
import Derived.Test.YthkddbonmfoaaaaQ8
import Derived.Deep.Cut
import Derived.Deep.CutRange
namespace Go.Proofs.Ythkddbonmfoaaaa
set_option linter.unusedVariables false
set_option linter.unusedSimpArgs false
open Go.ChangeShapes Go.WideShapes Go.ChangeAt Go.RowKit Go.Joins Go.Deep

/-- The drawn team in its box, and the bytes that are still to be drawn from. -/
structure EnM (w0 w : World) (cm : Value) (tb : Nat) (T : Tm) (vc : Value) : Prop where
  box : BxT w tb T.s T.v T.y vc
  sl : SlH w 2 vc T.n (iiC T.m T.b)
  code : Code w cm
  bel : Below w0.heap.size w0 w
theorem EnM.below {w0 w w' : World} {cm vc : Value} {tb : Nat} {T : Tm} (h : EnM w0 w cm tb T vc) (hb : Below w.heap.size w w') : EnM w0 w' cm tb T vc :=
  ⟨h.box.below hb, h.sl.below hb, h.code.below hb (Nat.le_refl _), h.bel.trans (hb.mono h.bel.size)⟩
def EnN (w : World) (vc : Value) (T : Tm) : Prop := SlH w 2 vc T.n (iiC T.m T.b)
theorem EnN.below {w w' : World} {vc : Value} {T : Tm} (h : EnN w vc T) (hb : Below w.heap.size w w') : EnN w' vc T := SlH.below h hb
/-- The state at the minute of turning and one minute later. -/
theorem sta_at {T : Tm} {k : Int} {i : Nat} (h : turnOk T = true) (hi : i < 2) (hk : k = T.lm + tmT T + i) (h6 : k ≤ 600) : staOk T k = true ∧ ((staS T k).toList == [116, 117, 114, 110]) = decide (k > T.lm + tmT T) := by
  obtain ⟨h1, h2, _, h3, h4⟩ := turn_ok h
  have h5 := (tm_facts h1).2.2.2.2.1
  have ho : staOk T k = true := by rw [staOk, h1, inB_iff.2 ⟨by omega, h6⟩]; rfl
  refine ⟨ho, ?_⟩
  rw [staS, if_pos ho, stB, h4, h3]
  have h01 : i = 0 ∨ i = 1 := by omega
  rcases h01 with rfl | rfl
  · rw [if_neg (by simp; omega)]
    have e : decide (k > T.lm + tmT T) = false := decide_eq_false (by omega)
    rw [e]
    split
    · rw [sSoon, ByteArray.toList_eq]; rfl
    · rw [sOk, ByteArray.toList_eq]; rfl
  · rw [if_pos (by right; omega)]
    have e : decide (k > T.lm + tmT T) = true := decide_eq_true (by omega)
    rw [e, sTurn, ByteArray.toList_eq]
    rfl
theorem worst_rate {T : Tm} (h : tmB T = true) (hw : worstOk T.v T.m T.b T.n = true) : worstN T.v T.m T.b T.n ≤ tmR T := by
  have hw2 := hw
  simp only [worstOk, wrOk, Bool.and_eq_true, decide_eq_true_eq, inB_iff] at hw2
  rw [worstN, if_pos hw, tmR, if_neg (by omega)]
  omega
set_option maxHeartbeats 800000 in
theorem big_any (A : Option Addr) (n cap : Nat) (B : Option Addr) (m capB : Nat) (w : World) (hn : n ≤ 9223372036854775807) (hm : m ≤ 9223372036854775807) :
    Calls Try.prog 4 #[.slice A n cap, .slice B m capB] w fun e w' => (∃ b : Bool, e = .returned (.bool b)) ∧ w = w' := by
  by_cases h : n > 1048576
  · have d : decide ((n : Int) > 1048576) = true := decide_eq_true (by omega)
    have d' : decide (1048576 < n) = true := decide_eq_true (by omega)
    go_enter Try.func4, Try.ntmps4
    go_wp2_with fail
    go_ret
    exact ⟨⟨_, rfl⟩, rfl⟩
  · have d : decide ((n : Int) > 1048576) = false := decide_eq_false (by omega)
    have d' : decide (1048576 < n) = false := decide_eq_false (by omega)
    have z : IntKind.i64.wrap (1048576 - (n : Int)) = 1048576 - (n : Int) := IntWalk.i64_in _ (by omega)
    go_enter Try.func4, Try.ntmps4
    go_wp2_with fail
    go_ret
    exact ⟨⟨_, rfl⟩, rfl⟩
set_option maxRecDepth 100000 in
set_option maxHeartbeats 12800000 in
theorem FnEntryBoard_walk (A : Option Addr) (n cap : Nat) (B : Option Addr) (mm capB : Nat) (w : World) (hc : Code w (.slice A n cap)) (hm : Code w (.slice B mm capB)) :
    Calls Try.prog 3 #[.slice A n cap, .slice B mm capB] w fun e w' => e = .returned (.bool true) ∧ Below w.heap.size w w' := by
  go_enter Try.func3, Try.ntmps3
  go_wp2_with fail
  refine (big_any A n cap B mm capB w hc.len hm.len).mono ?_
  rintro e w0 ⟨⟨b0, rfl⟩, rfl⟩
  cases b0 with
  | true =>
    go_wp2_with fail
    go_ret
    exact ⟨rfl, Below.refl _ _⟩
  | false =>
  go_wp2_with fail
  refine (DrawTurnMinute_any _ _ hc).mono ?_
  rintro e w1 ⟨T, vc, rfl, hs1, hf1, hb1⟩
  have HF := hide hf1
  obtain ⟨vA, vC, rfl, _, _⟩ := id hs1.open_
  go_wp2_with fail
  obtain ⟨w2, hW2⟩ : ∃ W, W = w1.alloc (.cells #[.string T.s, .int .i64 T.v, .int .i64 T.y, .slice vA T.n vC] 26) := ⟨_, rfl⟩
  obtain ⟨tb, htb⟩ : ∃ z, z = w1.heap.size := ⟨_, rfl⟩
  have hb2 : Below w1.heap.size w1 w2 := by rw [hW2]; exact (Below.refl _ _).alloc (Nat.le_refl _) _
  obtain ⟨vc, hvc⟩ : ∃ z : Value, z = .slice vA T.n vC := ⟨_, rfl⟩
  have M2 : Hid (EnM w w2 (.slice B mm capB) tb T (.slice vA T.n vC)) :=
    ⟨by rw [hW2, htb]; exact BxT.new _ _ _ _ _ _, SlH.below ⟨_, Nat.le_refl _, hs1.mono (Nat.zero_le _) (Nat.le_refl _)⟩ hb2, (hm.below hb1 (Nat.le_refl _)).below hb2 (Nat.le_refl _), hb1.trans (hb2.mono hb1.size)⟩
  rw [← hW2, ← htb]
  clear hW2 htb hb2 hs1 hf1 hb1 hc hm hvc
  obtain ⟨hik, hhk, hsk⟩ := M2.out.sl
  refine (TurnMinute_impl T 0 _ _ _ hsk hhk HF.out).mono ?_
  rintro e w3 ⟨rfl, hb⟩
  have M3 := hide (M2.out.below hb)
  clear M2
  clear hb hsk hhk hik
  obtain ⟨hik, hhk, hsk⟩ := M3.out.sl
  obtain ⟨t0, t1, t2, t3, tf, tl⟩ := M3.out.box
  go_wp2_with fail
  clear t0 t1 t2 t3 tf tl
  refine (TurnMinute_spec T 0 _ _ _ hsk hhk HF.out).mono ?_
  rintro e w4 ⟨rfl, hb⟩
  have M4 := hide (M3.out.below hb)
  clear M3
  clear hb hsk hhk hik
  obtain ⟨hik, hhk, hsk⟩ := M4.out.sl
  obtain ⟨t0, t1, t2, t3, tf, tl⟩ := M4.out.box
  go_wp2_with fail
  clear t0 t1 t2 t3 tf tl
  refine (TeamRate_impl T 0 _ _ _ hsk hhk HF.out).mono ?_
  rintro e w5 ⟨rfl, hb⟩
  have M5 := hide (M4.out.below hb)
  clear M4
  clear hb hsk hhk hik
  obtain ⟨hik, hhk, hsk⟩ := M5.out.sl
  obtain ⟨t0, t1, t2, t3, tf, tl⟩ := M5.out.box
  go_wp2_with fail
  clear t0 t1 t2 t3 tf tl
  refine (TeamRate_spec T 0 _ _ _ hsk hhk HF.out).mono ?_
  rintro e w6 ⟨rfl, hb⟩
  have M6 := hide (M5.out.below hb)
  clear M5
  clear hb hsk hhk hik
  cases hone : tmB T with
  | false =>
    have hok : turnOk T = false := by rw [turnOk, hone]; rfl
    rw [hok]
    obtain ⟨hik, hhk, hsk⟩ := M6.out.sl
    obtain ⟨t0, t1, t2, t3, tf, tl⟩ := M6.out.box
    go_wp2_with fail
    clear t0 t1 t2 t3 tf tl
    refine (IsTeam_impl T 0 _ _ _ hsk hhk HF.out).mono ?_
    rintro e w7 ⟨rfl, hb⟩
    rw [hone]
    have M7 := hide (M6.out.below hb)
    clear M6
    clear hb hsk hhk hik
    clear hone hok
    obtain ⟨t0, t1, t2, t3, tf, tl⟩ := M7.out.box
    go_wp2_with fail
    clear t0 t1 t2 t3 tf tl
    refine (DrawTeamState_any _ _ M7.out.code).mono ?_
    rintro e w8 ⟨T2, vc2, at2, rfl, hs2, hf2, hb⟩
    have HF2 := hide hf2
    obtain ⟨A2, c2, rfl, _, _⟩ := id hs2.open_
    have N0 : Hid (EnN w8 (.slice A2 T2.n c2) T2) := ⟨_, Nat.le_refl _, hs2.mono (Nat.zero_le _) (Nat.le_refl _)⟩
    have C0 : Hid (Code w8 (.slice B mm capB)) := M7.out.code.below hb (Nat.le_refl _)
    have HB0 : Hid (Below w.heap.size w w8) := M7.out.bel.trans (hb.mono M7.out.bel.size)
    clear hs2 hf2 hb M7
    obtain ⟨at2v, hat2⟩ : ∃ z, z = at2 := ⟨_, rfl⟩
    clear hat2 at2v
    go_wp2_with fail
    obtain ⟨W2, hW⟩ : ∃ W, W = w8.alloc (.cells #[.string T2.s, .int .i64 T2.v, .int .i64 T2.y, .slice A2 T2.n c2] 26) := ⟨_, rfl⟩
    obtain ⟨xb2, hxb⟩ : ∃ z, z = w8.heap.size := ⟨_, rfl⟩
    have X1 : Hid (BxT W2 xb2 T2.s T2.v T2.y (.slice A2 T2.n c2)) := by show BxT _ _ _ _ _ _; rw [hW, hxb]; exact BxT.new _ _ _ _ _ _
    have hb : Below w8.heap.size w8 W2 := by rw [hW]; exact (Below.refl _ _).alloc (Nat.le_refl _) _
    rw [← hW, ← hxb]
    have N1 := hide (N0.out.below hb)
    have C1 := hide (C0.out.below hb (Nat.le_refl _))
    have HB1 : Hid (Below w.heap.size w W2) := HB0.out.trans (hb.mono HB0.out.size)
    clear hW hxb hb N0 C0 HB0
    obtain ⟨hik, hhk, hsk⟩ := N1.out
    refine (TeamState_impl T2 at2 0 _ _ _ hsk hhk HF2.out).mono ?_
    rintro e z21 ⟨rfl, hb⟩
    have X2 := hide (X1.out.below hb)
    have N2 := hide (N1.out.below hb)
    have C2 := hide (C1.out.below hb (Nat.le_refl _))
    have HB2 : Hid (Below w.heap.size w z21) := HB1.out.trans (hb.mono HB1.out.size)
    clear X1 N1 C1 HB1 hb hsk hhk hik
    have X1 := X2
    have N1 := N2
    have C1 := C2
    have HB1 := HB2
    clear X2 N2 C2 HB2
    obtain ⟨t0, t1, t2, t3, tf, tl⟩ := X1.out
    go_wp2_with fail
    clear t0 t1 t2 t3 tf tl
    obtain ⟨hik, hhk, hsk⟩ := N1.out
    refine (TeamState_spec T2 at2 0 _ _ _ hsk hhk HF2.out).mono ?_
    rintro e z22 ⟨rfl, hb⟩
    have X2 := hide (X1.out.below hb)
    have N2 := hide (N1.out.below hb)
    have C2 := hide (C1.out.below hb (Nat.le_refl _))
    have HB2 : Hid (Below w.heap.size w z22) := HB1.out.trans (hb.mono HB1.out.size)
    clear X1 N1 C1 HB1 hb hsk hhk hik
    have X1 := X2
    have N1 := N2
    have C1 := C2
    have HB1 := HB2
    clear X2 N2 C2 HB2
    clear X1 N1
    go_wp2_with fail
    refine (DrawPressureAt_any _ _ C1.out).mono ?_
    rintro e w99 ⟨T3, vc3, at3, rfl, hs3, hf3, hb⟩
    have HF3 := hide hf3
    obtain ⟨A3, c3, rfl, _, _⟩ := id hs3.open_
    have N0 : Hid (EnN w99 (.slice A3 T3.n c3) T3) := ⟨_, Nat.le_refl _, hs3.mono (Nat.zero_le _) (Nat.le_refl _)⟩
    have C0 : Hid (Code w99 (.slice B mm capB)) := C1.out.below hb (Nat.le_refl _)
    have HB0 : Hid (Below w.heap.size w w99) := HB1.out.trans (hb.mono HB1.out.size)
    clear hs3 hf3 hb C1 HB1
    go_wp2_with fail
    obtain ⟨W3, hW⟩ : ∃ W, W = w99.alloc (.cells #[.string T3.s, .int .i64 T3.v, .int .i64 T3.y, .slice A3 T3.n c3] 26) := ⟨_, rfl⟩
    obtain ⟨xb3, hxb⟩ : ∃ z, z = w99.heap.size := ⟨_, rfl⟩
    have X1 : Hid (BxT W3 xb3 T3.s T3.v T3.y (.slice A3 T3.n c3)) := by show BxT _ _ _ _ _ _; rw [hW, hxb]; exact BxT.new _ _ _ _ _ _
    have hb : Below w99.heap.size w99 W3 := by rw [hW]; exact (Below.refl _ _).alloc (Nat.le_refl _) _
    rw [← hW, ← hxb]
    have N1 := hide (N0.out.below hb)
    have C1 := hide (C0.out.below hb (Nat.le_refl _))
    have HB1 : Hid (Below w.heap.size w W3) := HB0.out.trans (hb.mono HB0.out.size)
    clear hW hxb hb N0 C0 HB0
    obtain ⟨hik, hhk, hsk⟩ := N1.out
    refine (PressureAt_impl T3 at3 0 _ _ _ hsk hhk HF3.out).mono ?_
    rintro e z31 ⟨rfl, hb⟩
    have X2 := hide (X1.out.below hb)
    have N2 := hide (N1.out.below hb)
    have C2 := hide (C1.out.below hb (Nat.le_refl _))
    have HB2 : Hid (Below w.heap.size w z31) := HB1.out.trans (hb.mono HB1.out.size)
    clear X1 N1 C1 HB1 hb hsk hhk hik
    have X1 := X2
    have N1 := N2
    have C1 := C2
    have HB1 := HB2
    clear X2 N2 C2 HB2
    obtain ⟨t0, t1, t2, t3, tf, tl⟩ := X1.out
    go_wp2_with fail
    clear t0 t1 t2 t3 tf tl
    obtain ⟨hik, hhk, hsk⟩ := N1.out
    refine (PressureAt_spec T3 at3 0 _ _ _ hsk hhk HF3.out).mono ?_
    rintro e z32 ⟨rfl, hb⟩
    have X2 := hide (X1.out.below hb)
    have N2 := hide (N1.out.below hb)
    have C2 := hide (C1.out.below hb (Nat.le_refl _))
    have HB2 : Hid (Below w.heap.size w z32) := HB1.out.trans (hb.mono HB1.out.size)
    clear X1 N1 C1 HB1 hb hsk hhk hik
    have X1 := X2
    have N1 := N2
    have C1 := C2
    have HB1 := HB2
    clear X2 N2 C2 HB2
    clear X1 N1
    go_wp2_with fail
    go_ret
    exact ⟨rfl, HB1.out⟩
  | true =>
    have HONE := hide hone
    have HR : Hid (60 ≤ tmR T ∧ tmR T ≤ 200) := tmR_bd
    have hrn : tmRateN T = tmR T := by rw [tmRateN, if_pos hone]
    rw [hrn]
    clear hrn
    have HWK : Hid (worstOk T.v T.m T.b T.n = true → worstN T.v T.m T.b T.n ≤ tmR T) := fun h => worst_rate HONE.out h
    cases hok : turnOk T with
    | false =>
      obtain ⟨hik, hhk, hsk⟩ := M6.out.sl
      obtain ⟨t0, t1, t2, t3, tf, tl⟩ := M6.out.box
      go_wp2_with fail
      clear t0 t1 t2 t3 tf tl
      refine (IsTeam_impl T 0 _ _ _ hsk hhk HF.out).mono ?_
      rintro e w7 ⟨rfl, hb⟩
      rw [hone]
      have M7 := hide (M6.out.below hb)
      clear M6
      clear hb hsk hhk hik
      clear hone hok
      obtain ⟨R, hR⟩ : ∃ z, tmR T = z := ⟨_, rfl⟩
      rw [hR] at HR HWK
      rw [hR]
      clear hR
      obtain ⟨hr60, hr200⟩ := HR.out
      have e60 : decide (R < 60) = false := decide_eq_false (by omega)
      have e200 : decide (R > 200) = false := decide_eq_false (by omega)
      have e200' : decide (200 < R) = false := decide_eq_false (by omega)
      obtain ⟨t0, t1, t2, t3, tf, tl⟩ := M7.out.box
      go_upto_if 101 with fail
      clear t0 t1 t2 t3 tf tl
      go_cut [] from 102 to 139 (fun wx => Hid (EnM w wx (.slice B mm capB) tb T (.slice vA T.n vC)))
      case first => as_aux_lemma =>
        obtain ⟨four, hfour⟩ : ∃ z, worstOk T.v T.m T.b T.n = z := ⟨_, rfl⟩
        obtain ⟨kn, hkn⟩ : ∃ z, worstN T.v T.m T.b T.n = z := ⟨_, rfl⟩
        have HW : Hid (four = true → kn ≤ R) := fun h => by rw [← hkn]; exact HWK.out (hfour.trans h)
        obtain ⟨hik, hhk, hsk⟩ := M7.out.sl
        obtain ⟨t0, t1, t2, t3, tf, tl⟩ := M7.out.box
        go_wp2_with fail
        clear t0 t1 t2 t3 tf tl
        refine (WorstRate_impl T.v T.m T.b T.n 0 _ _ _ hsk hhk (by have := HF.out.2; omega)).mono ?_
        rintro e w8 ⟨rfl, hb⟩
        rw [hfour, hkn]
        have M8 := hide (M7.out.below hb)
        clear M7
        clear hb hsk hhk hik
        obtain ⟨hik, hhk, hsk⟩ := M8.out.sl
        obtain ⟨t0, t1, t2, t3, tf, tl⟩ := M8.out.box
        go_wp2_with fail
        clear t0 t1 t2 t3 tf tl
        refine (WorstRate_spec T.v T.m T.b T.n 0 _ _ _ hsk hhk (by have := HF.out.2; omega)).mono ?_
        rintro e w9 ⟨rfl, hb⟩
        rw [hfour, hkn]
        have M9 := hide (M8.out.below hb)
        clear M8
        clear hb hsk hhk hik
        clear hfour hkn
        cases four with
        | false =>
          obtain ⟨t0, t1, t2, t3, tf, tl⟩ := M9.out.box
          go_wp2_with fail
          clear t0 t1 t2 t3 tf tl
          go_meet
          case rel => exact M9
        | true =>
          have ek : decide (R < kn) = false := decide_eq_false (by have := HW.out rfl; omega)
          obtain ⟨t0, t1, t2, t3, tf, tl⟩ := M9.out.box
          go_wp2_with fail
          clear t0 t1 t2 t3 tf tl
          go_meet
          case rel => exact M9
      case rest => as_aux_lemma =>
        have M100 := hcut
        obtain ⟨t0, t1, t2, t3, tf, tl⟩ := M100.out.box
        go_wp2_with fail
        clear t0 t1 t2 t3 tf tl
        refine (DrawTeamState_any _ _ M100.out.code).mono ?_
        rintro e w101 ⟨T2, vc2, at2, rfl, hs2, hf2, hb⟩
        have HF2 := hide hf2
        obtain ⟨A2, c2, rfl, _, _⟩ := id hs2.open_
        have N0 : Hid (EnN w101 (.slice A2 T2.n c2) T2) := ⟨_, Nat.le_refl _, hs2.mono (Nat.zero_le _) (Nat.le_refl _)⟩
        have C0 : Hid (Code w101 (.slice B mm capB)) := M100.out.code.below hb (Nat.le_refl _)
        have HB0 : Hid (Below w.heap.size w w101) := M100.out.bel.trans (hb.mono M100.out.bel.size)
        clear hs2 hf2 hb M100
        obtain ⟨at2v, hat2⟩ : ∃ z, z = at2 := ⟨_, rfl⟩
        clear hat2 at2v
        go_wp2_with fail
        obtain ⟨W2, hW⟩ : ∃ W, W = w101.alloc (.cells #[.string T2.s, .int .i64 T2.v, .int .i64 T2.y, .slice A2 T2.n c2] 26) := ⟨_, rfl⟩
        obtain ⟨xb2, hxb⟩ : ∃ z, z = w101.heap.size := ⟨_, rfl⟩
        have X1 : Hid (BxT W2 xb2 T2.s T2.v T2.y (.slice A2 T2.n c2)) := by show BxT _ _ _ _ _ _; rw [hW, hxb]; exact BxT.new _ _ _ _ _ _
        have hb : Below w101.heap.size w101 W2 := by rw [hW]; exact (Below.refl _ _).alloc (Nat.le_refl _) _
        rw [← hW, ← hxb]
        have N1 := hide (N0.out.below hb)
        have C1 := hide (C0.out.below hb (Nat.le_refl _))
        have HB1 : Hid (Below w.heap.size w W2) := HB0.out.trans (hb.mono HB0.out.size)
        clear hW hxb hb N0 C0 HB0
        obtain ⟨hik, hhk, hsk⟩ := N1.out
        refine (TeamState_impl T2 at2 0 _ _ _ hsk hhk HF2.out).mono ?_
        rintro e z21 ⟨rfl, hb⟩
        have X2 := hide (X1.out.below hb)
        have N2 := hide (N1.out.below hb)
        have C2 := hide (C1.out.below hb (Nat.le_refl _))
        have HB2 : Hid (Below w.heap.size w z21) := HB1.out.trans (hb.mono HB1.out.size)
        clear X1 N1 C1 HB1 hb hsk hhk hik
        have X1 := X2
        have N1 := N2
        have C1 := C2
        have HB1 := HB2
        clear X2 N2 C2 HB2
        obtain ⟨t0, t1, t2, t3, tf, tl⟩ := X1.out
        go_wp2_with fail
        clear t0 t1 t2 t3 tf tl
        obtain ⟨hik, hhk, hsk⟩ := N1.out
        refine (TeamState_spec T2 at2 0 _ _ _ hsk hhk HF2.out).mono ?_
        rintro e z22 ⟨rfl, hb⟩
        have X2 := hide (X1.out.below hb)
        have N2 := hide (N1.out.below hb)
        have C2 := hide (C1.out.below hb (Nat.le_refl _))
        have HB2 : Hid (Below w.heap.size w z22) := HB1.out.trans (hb.mono HB1.out.size)
        clear X1 N1 C1 HB1 hb hsk hhk hik
        have X1 := X2
        have N1 := N2
        have C1 := C2
        have HB1 := HB2
        clear X2 N2 C2 HB2
        clear X1 N1
        go_wp2_with fail
        refine (DrawPressureAt_any _ _ C1.out).mono ?_
        rintro e w99 ⟨T3, vc3, at3, rfl, hs3, hf3, hb⟩
        have HF3 := hide hf3
        obtain ⟨A3, c3, rfl, _, _⟩ := id hs3.open_
        have N0 : Hid (EnN w99 (.slice A3 T3.n c3) T3) := ⟨_, Nat.le_refl _, hs3.mono (Nat.zero_le _) (Nat.le_refl _)⟩
        have C0 : Hid (Code w99 (.slice B mm capB)) := C1.out.below hb (Nat.le_refl _)
        have HB0 : Hid (Below w.heap.size w w99) := HB1.out.trans (hb.mono HB1.out.size)
        clear hs3 hf3 hb C1 HB1
        go_wp2_with fail
        obtain ⟨W3, hW⟩ : ∃ W, W = w99.alloc (.cells #[.string T3.s, .int .i64 T3.v, .int .i64 T3.y, .slice A3 T3.n c3] 26) := ⟨_, rfl⟩
        obtain ⟨xb3, hxb⟩ : ∃ z, z = w99.heap.size := ⟨_, rfl⟩
        have X1 : Hid (BxT W3 xb3 T3.s T3.v T3.y (.slice A3 T3.n c3)) := by show BxT _ _ _ _ _ _; rw [hW, hxb]; exact BxT.new _ _ _ _ _ _
        have hb : Below w99.heap.size w99 W3 := by rw [hW]; exact (Below.refl _ _).alloc (Nat.le_refl _) _
        rw [← hW, ← hxb]
        have N1 := hide (N0.out.below hb)
        have C1 := hide (C0.out.below hb (Nat.le_refl _))
        have HB1 : Hid (Below w.heap.size w W3) := HB0.out.trans (hb.mono HB0.out.size)
        clear hW hxb hb N0 C0 HB0
        obtain ⟨hik, hhk, hsk⟩ := N1.out
        refine (PressureAt_impl T3 at3 0 _ _ _ hsk hhk HF3.out).mono ?_
        rintro e z31 ⟨rfl, hb⟩
        have X2 := hide (X1.out.below hb)
        have N2 := hide (N1.out.below hb)
        have C2 := hide (C1.out.below hb (Nat.le_refl _))
        have HB2 : Hid (Below w.heap.size w z31) := HB1.out.trans (hb.mono HB1.out.size)
        clear X1 N1 C1 HB1 hb hsk hhk hik
        have X1 := X2
        have N1 := N2
        have C1 := C2
        have HB1 := HB2
        clear X2 N2 C2 HB2
        obtain ⟨t0, t1, t2, t3, tf, tl⟩ := X1.out
        go_wp2_with fail
        clear t0 t1 t2 t3 tf tl
        obtain ⟨hik, hhk, hsk⟩ := N1.out
        refine (PressureAt_spec T3 at3 0 _ _ _ hsk hhk HF3.out).mono ?_
        rintro e z32 ⟨rfl, hb⟩
        have X2 := hide (X1.out.below hb)
        have N2 := hide (N1.out.below hb)
        have C2 := hide (C1.out.below hb (Nat.le_refl _))
        have HB2 : Hid (Below w.heap.size w z32) := HB1.out.trans (hb.mono HB1.out.size)
        clear X1 N1 C1 HB1 hb hsk hhk hik
        have X1 := X2
        have N1 := N2
        have C1 := C2
        have HB1 := HB2
        clear X2 N2 C2 HB2
        clear X1 N1
        go_wp2_with fail
        go_ret
        exact ⟨rfl, HB1.out⟩
    | true =>
      have HOK := hide hok
      obtain ⟨hik, hhk, hsk⟩ := M6.out.sl
      obtain ⟨t0, t1, t2, t3, tf, tl⟩ := M6.out.box
      go_wp2_with fail
      clear t0 t1 t2 t3 tf tl
      refine (IsTeam_impl T 0 _ _ _ hsk hhk HF.out).mono ?_
      rintro e w7 ⟨rfl, hb⟩
      rw [hone]
      have M7 := hide (M6.out.below hb)
      clear M6
      clear hb hsk hhk hik
      clear hone hok
      have HMN : Hid (turnNN T = T.lm + tmT T) := (turn_ok HOK.out).2.2.1
      rw [HMN.out]
      obtain ⟨R, hR⟩ : ∃ z, tmR T = z := ⟨_, rfl⟩
      rw [hR] at HR HWK
      rw [hR]
      have HRR := hide hR
      clear hR
      obtain ⟨lm, hlm⟩ : ∃ z, T.lm = z := ⟨_, rfl⟩
      obtain ⟨lb, hlb⟩ : ∃ z, T.lb = z := ⟨_, rfl⟩
      obtain ⟨tm, htm⟩ : ∃ z, tmT T = z := ⟨_, rfl⟩
      rw [hlm, htm]
      have HLM := hide hlm
      have HLB := hide hlb
      have HTM := hide htm
      clear hlm hlb htm
      have HN : Hid (1 ≤ T.n ∧ T.n ≤ 20) := (tm_facts HONE.out).2.2.2.1
      have HBD : Hid ((0 ≤ lm ∧ lm ≤ 600) ∧ (0 ≤ tm ∧ tm ≤ 600) ∧ 0 ≤ T.y ∧ T.y ≤ 300) := by rw [← HLM.out, ← HTM.out]; exact ⟨(tm_facts HONE.out).2.2.2.2.1, (turn_ok HOK.out).2.1, (tm_facts HONE.out).2.2.1⟩
      obtain ⟨hr60, hr200⟩ := HR.out
      have e60 : decide (R < 60) = false := decide_eq_false (by omega)
      have e200 : decide (R > 200) = false := decide_eq_false (by omega)
      have e200' : decide (200 < R) = false := decide_eq_false (by omega)
      obtain ⟨t0, t1, t2, t3, tf, tl⟩ := M7.out.box
      go_upto_if 101 with fail
      clear t0 t1 t2 t3 tf tl
      go_cut [] from 102 to 139 (fun wx => Hid (EnM w wx (.slice B mm capB) tb T (.slice vA T.n vC)))
      case first => as_aux_lemma =>
        obtain ⟨four, hfour⟩ : ∃ z, worstOk T.v T.m T.b T.n = z := ⟨_, rfl⟩
        obtain ⟨kn, hkn⟩ : ∃ z, worstN T.v T.m T.b T.n = z := ⟨_, rfl⟩
        have HW : Hid (four = true → kn ≤ R) := fun h => by rw [← hkn]; exact HWK.out (hfour.trans h)
        obtain ⟨hik, hhk, hsk⟩ := M7.out.sl
        obtain ⟨t0, t1, t2, t3, tf, tl⟩ := M7.out.box
        go_wp2_with fail
        clear t0 t1 t2 t3 tf tl
        refine (WorstRate_impl T.v T.m T.b T.n 0 _ _ _ hsk hhk (by have := HF.out.2; omega)).mono ?_
        rintro e w8 ⟨rfl, hb⟩
        rw [hfour, hkn]
        have M8 := hide (M7.out.below hb)
        clear M7
        clear hb hsk hhk hik
        obtain ⟨hik, hhk, hsk⟩ := M8.out.sl
        obtain ⟨t0, t1, t2, t3, tf, tl⟩ := M8.out.box
        go_wp2_with fail
        clear t0 t1 t2 t3 tf tl
        refine (WorstRate_spec T.v T.m T.b T.n 0 _ _ _ hsk hhk (by have := HF.out.2; omega)).mono ?_
        rintro e w9 ⟨rfl, hb⟩
        rw [hfour, hkn]
        have M9 := hide (M8.out.below hb)
        clear M8
        clear hb hsk hhk hik
        clear hfour hkn
        cases four with
        | false =>
          obtain ⟨t0, t1, t2, t3, tf, tl⟩ := M9.out.box
          go_wp2_with fail
          clear t0 t1 t2 t3 tf tl
          go_meet
          case rel => exact M9
        | true =>
          have ek : decide (R < kn) = false := decide_eq_false (by have := HW.out rfl; omega)
          obtain ⟨t0, t1, t2, t3, tf, tl⟩ := M9.out.box
          go_wp2_with fail
          clear t0 t1 t2 t3 tf tl
          go_meet
          case rel => exact M9
      case rest => as_aux_lemma =>
        have M100 := hcut
        obtain ⟨t0, t1, t2, t3, tf, tl⟩ := M100.out.box
        go_upto_if 140 with fail
        clear t0 t1 t2 t3 tf tl
        go_cut [] from 141 to 273 (fun wx => Hid (EnM w wx (.slice B mm capB) tb T (.slice vA T.n vC)))
        case first => as_aux_lemma =>
          obtain ⟨hik, hhk, hsk⟩ := M100.out.sl
          obtain ⟨A0, c0, e0, _, hA0⟩ := hsk.open_
          injection e0 with e1 e2 e3
          subst e1 e3
          obtain ⟨svb, svo, rfl, _, p2, p3⟩ := hA0 (by have := HN.out; omega)
          have d0 : wc.cell? ⟨svb, svo + (T.n - 1) * 2, none⟩ = some (.int .i64 T.lm) := p3 (T.n - 1) 0 (by have := HN.out; omega) (by omega)
          have d1 : wc.cell? ⟨svb, svo + (T.n - 1) * 2 + 1, none⟩ = some (.int .i64 T.lb) := p3 (T.n - 1) 1 (by have := HN.out; omega) (by omega)
          have lq : svb < wc.heap.size := by omega
          rw [HLM.out] at d0
          rw [HLB.out] at d1
          have n1 := HN.out.1
          have n2 := HN.out.2
          clear hA0 p3 hsk e2
          obtain ⟨t0, t1, t2, t3, tf, tl⟩ := M100.out.box
          go_upto_region 19 with fail
          clear t0 t1 t2 t3 tf tl
          obtain ⟨w101, hW⟩ : ∃ W, W = wc.alloc (.cells #[.int .i64 lm, .int .i64 lb] 33) := ⟨_, rfl⟩
          obtain ⟨qb, hqb⟩ : ∃ z, z = wc.heap.size := ⟨_, rfl⟩
          have HN : Hid (BxI w101 qb lm lb) := by show BxI _ _ _ _; rw [hW, hqb]; exact BxI.new _ _ _ _
          have hb : Below wc.heap.size wc w101 := by rw [hW]; exact (Below.refl _ _).alloc (Nat.le_refl _) _
          rw [← hW, ← hqb]
          have M101 := hide (M100.out.below hb)
          clear M100
          have Hq101 := HN
          clear HN hb hW hqb
          clear d0 d1 lq
          obtain ⟨t0, t1, t2, t3, tf, tl⟩ := M101.out.box
          obtain ⟨q0, q1, qf, ql⟩ := Hq101.out
          go_upto_region 20 with fail
          clear t0 t1 t2 t3 tf tl q0 q1 qf ql
          obtain ⟨w102, hW⟩ : ∃ W, W = w101.alloc (.cells #[.int .i64 T.v, .int .i64 lb] 35) := ⟨_, rfl⟩
          obtain ⟨cb, hcb⟩ : ∃ z, z = w101.heap.size := ⟨_, rfl⟩
          have HN : Hid (BxI w102 cb T.v lb) := by show BxI _ _ _ _; rw [hW, hcb]; exact BxI.new _ _ _ _
          have hb : Below w101.heap.size w101 w102 := by rw [hW]; exact (Below.refl _ _).alloc (Nat.le_refl _) _
          rw [← hW, ← hcb]
          have M102 := hide (M101.out.below hb)
          have Hq102 := hide (Hq101.out.keep (hb.block _ Hq101.out.lt) hb.size)
          clear Hq101
          clear M101
          have Hc102 := HN
          clear HN hb hW hcb
          obtain ⟨⟨l1, l2⟩, ⟨m1, m2⟩, y1, y2⟩ := HBD.out
          have z0 : IntKind.i64.wrap (lm + tm - lm) = tm := by rw [IntWalk.i64_in _ (by omega)]; omega
          have z0' : IntKind.i64.wrap tm = tm := IntWalk.i64_in _ (by omega)
          have z1 : IntKind.i64.wrap (tm + T.y) = tm + T.y := IntWalk.i64_in _ (by omega)
          have dt : decide (tm < 0) = false := decide_eq_false (by omega)
          have HAIR : Hid (tm + T.y ≤ 600 → barAfOk T.v lb R (tm + T.y) = true ∧ 50 ≤ barAfN T.v lb R (tm + T.y)) := by
            have h := turn_air HOK.out
            rw [HRR.out, HLB.out, HTM.out] at h
            exact h
          have HLATE : Hid (tm < 600 → barAfOk T.v lb R (tm + T.y + 1) = true → barAfN T.v lb R (tm + T.y + 1) < 50) := by
            have h := turn_late HOK.out
            rw [HRR.out, HLB.out, HTM.out] at h
            exact h
          obtain ⟨t0, t1, t2, t3, tf, tl⟩ := M102.out.box
          obtain ⟨q0, q1, qf, ql⟩ := Hq102.out
          obtain ⟨c0, c1, cf, cl⟩ := Hc102.out
          go_upto_if 164 with fail
          clear t0 t1 t2 t3 tf tl q0 q1 qf ql c0 c1 cf cl
          go_cut [] from 164 to 199 (fun wx => Hid (EnM w wx (.slice B mm capB) tb T (.slice (some ⟨svb, svo, none⟩) T.n vC)) ∧ Hid (BxI wx qb lm lb) ∧ Hid (BxI wx cb T.v lb))
          case first => as_aux_lemma =>
            by_cases h6 : tm + T.y ≤ 600
            · skip
              have d6 : decide (tm + T.y ≤ 600) = true := decide_eq_true h6
              obtain ⟨a1, a2⟩ := HAIR.out h6
              obtain ⟨bN, hbN⟩ : ∃ z, barAfN T.v lb R (tm + T.y) = z := ⟨_, rfl⟩
              rw [hbN] at a2
              have A1 := hide a1
              have HBN := hide hbN
              have e50 : decide (bN < 50) = false := decide_eq_false (by omega)
              clear a1 hbN
              obtain ⟨hik, hhk, hsk⟩ := M102.out.sl
              obtain ⟨t0, t1, t2, t3, tf, tl⟩ := M102.out.box
              obtain ⟨q0, q1, qf, ql⟩ := Hq102.out
              obtain ⟨c0, c1, cf, cl⟩ := Hc102.out
              go_wp2_with fail
              clear t0 t1 t2 t3 tf tl q0 q1 qf ql c0 c1 cf cl
              refine (BarAfter_impl T.v lb R (tm + T.y) _).mono ?_
              rintro e w103 ⟨rfl, hb⟩
              rw [A1.out, HBN.out]
              have M103 := hide (M102.out.below hb)
              have Hq103 := hide (Hq102.out.keep (hb.block _ Hq102.out.lt) hb.size)
              clear Hq102
              have Hc103 := hide (Hc102.out.keep (hb.block _ Hc102.out.lt) hb.size)
              clear Hc102
              clear M102
              clear hb hsk hhk hik
              obtain ⟨hik, hhk, hsk⟩ := M103.out.sl
              obtain ⟨t0, t1, t2, t3, tf, tl⟩ := M103.out.box
              obtain ⟨q0, q1, qf, ql⟩ := Hq103.out
              obtain ⟨c0, c1, cf, cl⟩ := Hc103.out
              go_wp2_with fail
              clear t0 t1 t2 t3 tf tl q0 q1 qf ql c0 c1 cf cl
              refine (BarAfter_spec T.v lb R (tm + T.y) _).mono ?_
              rintro e w104 ⟨rfl, hb⟩
              rw [A1.out, HBN.out]
              have M104 := hide (M103.out.below hb)
              have Hq104 := hide (Hq103.out.keep (hb.block _ Hq103.out.lt) hb.size)
              clear Hq103
              have Hc104 := hide (Hc103.out.keep (hb.block _ Hc103.out.lt) hb.size)
              clear Hc103
              clear M103
              clear hb hsk hhk hik
              obtain ⟨t0, t1, t2, t3, tf, tl⟩ := M104.out.box
              obtain ⟨q0, q1, qf, ql⟩ := Hq104.out
              obtain ⟨c0, c1, cf, cl⟩ := Hc104.out
              go_wp2_with fail
              clear t0 t1 t2 t3 tf tl q0 q1 qf ql c0 c1 cf cl
              go_meet
              case rel => exact ⟨M104, Hq104, Hc104⟩
            · have d6 : decide (tm + T.y ≤ 600) = false := decide_eq_false h6
              obtain ⟨t0, t1, t2, t3, tf, tl⟩ := M102.out.box
              obtain ⟨q0, q1, qf, ql⟩ := Hq102.out
              obtain ⟨c0, c1, cf, cl⟩ := Hc102.out
              go_wp2_with fail
              clear t0 t1 t2 t3 tf tl q0 q1 qf ql c0 c1 cf cl
              go_meet
              case rel => exact ⟨M102, Hq102, Hc102⟩
          case rest => as_aux_lemma =>
            obtain ⟨M110, Hq110, Hc110⟩ := hcut
            obtain ⟨t0, t1, t2, t3, tf, tl⟩ := M110.out.box
            obtain ⟨q0, q1, qf, ql⟩ := Hq110.out
            obtain ⟨c0, c1, cf, cl⟩ := Hc110.out
            go_upto_region 28 with fail
            clear t0 t1 t2 t3 tf tl q0 q1 qf ql c0 c1 cf cl
            go_cut [208] from 200 to 208 (fun s wx => s = .bool (decide (tm < 600) && decide (tm + T.y < 600)) ∧ Hid (EnM w wx (.slice B mm capB) tb T (.slice (some ⟨svb, svo, none⟩) T.n vC)) ∧ Hid (BxI wx qb lm lb) ∧ Hid (BxI wx cb T.v lb))
            case first => as_aux_lemma =>
              by_cases h6 : tm < 600
              · skip
                have d6 : decide (tm < 600) = true := decide_eq_true h6
                by_cases h7 : tm + T.y < 600
                · have d7 : decide (tm + T.y < 600) = true := decide_eq_true h7
                  obtain ⟨t0, t1, t2, t3, tf, tl⟩ := M110.out.box
                  obtain ⟨q0, q1, qf, ql⟩ := Hq110.out
                  obtain ⟨c0, c1, cf, cl⟩ := Hc110.out
                  go_wp2_with fail
                  clear t0 t1 t2 t3 tf tl q0 q1 qf ql c0 c1 cf cl
                  go_meet
                  case rel => exact ⟨by first | rfl | simp [d6, d7], M110, Hq110, Hc110⟩
                · have d7 : decide (tm + T.y < 600) = false := decide_eq_false h7
                  obtain ⟨t0, t1, t2, t3, tf, tl⟩ := M110.out.box
                  obtain ⟨q0, q1, qf, ql⟩ := Hq110.out
                  obtain ⟨c0, c1, cf, cl⟩ := Hc110.out
                  go_wp2_with fail
                  clear t0 t1 t2 t3 tf tl q0 q1 qf ql c0 c1 cf cl
                  go_meet
                  case rel => exact ⟨by first | rfl | simp [d6, d7], M110, Hq110, Hc110⟩
              · have d6 : decide (tm < 600) = false := decide_eq_false h6
                obtain ⟨t0, t1, t2, t3, tf, tl⟩ := M110.out.box
                obtain ⟨q0, q1, qf, ql⟩ := Hq110.out
                obtain ⟨c0, c1, cf, cl⟩ := Hc110.out
                go_wp2_with fail
                clear t0 t1 t2 t3 tf tl q0 q1 qf ql c0 c1 cf cl
                go_meet
                case rel => exact ⟨by first | rfl | simp [d6], M110, Hq110, Hc110⟩
            case rest => as_aux_lemma =>
              obtain ⟨hs208, hcut⟩ := hcut
              subst hs208
              obtain ⟨M120, Hq120, Hc120⟩ := hcut
              have HB6 : Hid ((decide (tm < 600) && decide (tm + T.y < 600)) = true → tm < 600 ∧ tm + T.y < 600) := by show _ → _; simp
              obtain ⟨b6, hb6⟩ : ∃ z, (decide (tm < 600) && decide (tm + T.y < 600)) = z := ⟨_, rfl⟩
              rw [hb6] at HB6
              rw [hb6]
              clear hb6
              obtain ⟨t0, t1, t2, t3, tf, tl⟩ := M120.out.box
              obtain ⟨q0, q1, qf, ql⟩ := Hq120.out
              obtain ⟨c0, c1, cf, cl⟩ := Hc120.out
              go_upto_if 208 with fail
              clear t0 t1 t2 t3 tf tl q0 q1 qf ql c0 c1 cf cl
              go_cut [] from 209 to 245 (fun wx => Hid (EnM w wx (.slice B mm capB) tb T (.slice (some ⟨svb, svo, none⟩) T.n vC)) ∧ Hid (BxI wx qb lm lb) ∧ Hid (BxI wx cb T.v lb))
              case first => as_aux_lemma =>
                cases b6 with
                | false =>
                  obtain ⟨t0, t1, t2, t3, tf, tl⟩ := M120.out.box
                  obtain ⟨q0, q1, qf, ql⟩ := Hq120.out
                  obtain ⟨c0, c1, cf, cl⟩ := Hc120.out
                  go_wp2_with fail
                  clear t0 t1 t2 t3 tf tl q0 q1 qf ql c0 c1 cf cl
                  go_meet
                  case rel => exact ⟨M120, Hq120, Hc120⟩
                | true =>
                  have z2 : IntKind.i64.wrap (tm + T.y + 1) = tm + T.y + 1 := IntWalk.i64_in _ (by omega)
                  have hl := HLATE.out (HB6.out rfl).1
                  obtain ⟨o5, ho5⟩ : ∃ z, barAfOk T.v lb R (tm + T.y + 1) = z := ⟨_, rfl⟩
                  obtain ⟨n5, hn5⟩ : ∃ z, barAfN T.v lb R (tm + T.y + 1) = z := ⟨_, rfl⟩
                  rw [ho5, hn5] at hl
                  have HL5 := hide hl
                  have A5 := hide ho5
                  have N5 := hide hn5
                  clear hl ho5 hn5
                  obtain ⟨hik, hhk, hsk⟩ := M120.out.sl
                  obtain ⟨t0, t1, t2, t3, tf, tl⟩ := M120.out.box
                  obtain ⟨q0, q1, qf, ql⟩ := Hq120.out
                  obtain ⟨c0, c1, cf, cl⟩ := Hc120.out
                  go_wp2_with fail
                  clear t0 t1 t2 t3 tf tl q0 q1 qf ql c0 c1 cf cl
                  refine (BarAfter_impl T.v lb R (tm + T.y + 1) _).mono ?_
                  rintro e w121 ⟨rfl, hb⟩
                  rw [A5.out, N5.out]
                  have M121 := hide (M120.out.below hb)
                  have Hq121 := hide (Hq120.out.keep (hb.block _ Hq120.out.lt) hb.size)
                  clear Hq120
                  have Hc121 := hide (Hc120.out.keep (hb.block _ Hc120.out.lt) hb.size)
                  clear Hc120
                  clear M120
                  clear hb hsk hhk hik
                  obtain ⟨hik, hhk, hsk⟩ := M121.out.sl
                  obtain ⟨t0, t1, t2, t3, tf, tl⟩ := M121.out.box
                  obtain ⟨q0, q1, qf, ql⟩ := Hq121.out
                  obtain ⟨c0, c1, cf, cl⟩ := Hc121.out
                  go_wp2_with fail
                  clear t0 t1 t2 t3 tf tl q0 q1 qf ql c0 c1 cf cl
                  refine (BarAfter_spec T.v lb R (tm + T.y + 1) _).mono ?_
                  rintro e w122 ⟨rfl, hb⟩
                  rw [A5.out, N5.out]
                  have M122 := hide (M121.out.below hb)
                  have Hq122 := hide (Hq121.out.keep (hb.block _ Hq121.out.lt) hb.size)
                  clear Hq121
                  have Hc122 := hide (Hc121.out.keep (hb.block _ Hc121.out.lt) hb.size)
                  clear Hc121
                  clear M121
                  clear hb hsk hhk hik
                  cases o5 with
                  | false =>
                    obtain ⟨t0, t1, t2, t3, tf, tl⟩ := M122.out.box
                    obtain ⟨q0, q1, qf, ql⟩ := Hq122.out
                    obtain ⟨c0, c1, cf, cl⟩ := Hc122.out
                    go_wp2_with fail
                    clear t0 t1 t2 t3 tf tl q0 q1 qf ql c0 c1 cf cl
                    go_meet
                    case rel => exact ⟨M122, Hq122, Hc122⟩
                  | true =>
                    have e5 : decide (n5 ≥ 50) = false := decide_eq_false (by have := HL5.out rfl; omega)
                    have e5' : decide (50 ≤ n5) = false := decide_eq_false (by have := HL5.out rfl; omega)
                    obtain ⟨t0, t1, t2, t3, tf, tl⟩ := M122.out.box
                    obtain ⟨q0, q1, qf, ql⟩ := Hq122.out
                    obtain ⟨c0, c1, cf, cl⟩ := Hc122.out
                    go_wp2_with fail
                    clear t0 t1 t2 t3 tf tl q0 q1 qf ql c0 c1 cf cl
                    go_meet
                    case rel => exact ⟨M122, Hq122, Hc122⟩
              case rest => as_aux_lemma =>
                obtain ⟨M130, Hq130, Hc130⟩ := hcut
                have z3 : IntKind.i64.wrap (lm + tm + 1) = lm + tm + 1 := IntWalk.i64_in _ (by omega)
                obtain ⟨t0, t1, t2, t3, tf, tl⟩ := M130.out.box
                obtain ⟨q0, q1, qf, ql⟩ := Hq130.out
                obtain ⟨c0, c1, cf, cl⟩ := Hc130.out
                go_wp2_with fail
                clear t0 t1 t2 t3 tf tl q0 q1 qf ql c0 c1 cf cl
                obtain ⟨w140, hW⟩ : ∃ W, W = wc.alloc (.cells #[.int .i64 (lm + tm), .int .i64 (lm + tm + 1)] 3) := ⟨_, rfl⟩
                obtain ⟨nb, hnb⟩ : ∃ z, z = wc.heap.size := ⟨_, rfl⟩
                have HN2 : Hid (BxI w140 nb (lm + tm) (lm + tm + 1)) := by show BxI _ _ _ _; rw [hW, hnb]; exact BxI.new _ _ _ _
                have hb : Below wc.heap.size wc w140 := by rw [hW]; exact (Below.refl _ _).alloc (Nat.le_refl _) _
                first | rw [← hW] | skip
                first | rw [← hnb] | skip
                have M140 := hide (M130.out.below hb)
                have Hq140 := hide (Hq130.out.keep (hb.block _ Hq130.out.lt) hb.size)
                clear Hq130
                have Hc140 := hide (Hc130.out.keep (hb.block _ Hc130.out.lt) hb.size)
                clear Hc130
                clear M130
                clear hb hW hnb
                go_loopg [251] 3 (fun gn iv wr => ∃ i : Nat, i ≤ 2 ∧ 2 - i < gn ∧ iv = .int .i64 i ∧ Hid (EnM w wr (.slice B mm capB) tb T (.slice (some ⟨svb, svo, none⟩) T.n vC)) ∧ Hid (BxI wr qb lm lb) ∧ Hid (BxI wr cb T.v lb) ∧ Hid (BxI wr nb (lm + tm) (lm + tm + 1)))
                case atStart => exact ⟨0, by omega, by omega, rfl, M140, Hq140, Hc140, HN2⟩
                case round =>
                  obtain ⟨i, hi, hgi, rfl, M150, Hq150, Hc150, HX150⟩ := hrel
                  by_cases hi2 : i < 2
                  · skip
                    have hci : wr.cell? ⟨nb, i, none⟩ = some (.int .i64 (lm + tm + i)) := by
                      have h2 : i = 0 ∨ i = 1 := by omega
                      rcases h2 with rfl | rfl
                      · have h := HX150.out.c0; simpa using h
                      · exact HX150.out.c1
                    have hnl := HX150.out.lt
                    obtain ⟨nn, hnn⟩ : ∃ z : Int, z = lm + tm + i := ⟨_, rfl⟩
                    rw [← hnn] at hci
                    by_cases h600 : nn > 600
                    · skip
                      have d6 : decide (nn > 600) = true := decide_eq_true h600
                      have d6' : decide (600 < nn) = true := decide_eq_true h600
                      have HNN := hide hnn
                      clear hnn
                      obtain ⟨t0, t1, t2, t3, tf, tl⟩ := M150.out.box
                      obtain ⟨q0, q1, qf, ql⟩ := Hq150.out
                      obtain ⟨c0, c1, cf, cl⟩ := Hc150.out
                      go_wp2_with fail
                      clear t0 t1 t2 t3 tf tl q0 q1 qf ql c0 c1 cf cl
                      go_roundg (2 - i)
                      case measure => omega
                      case rel => exact ⟨i + 1, by omega, by omega, by go_num, M150, Hq150, Hc150, HX150⟩
                    · skip
                      have d6 : decide (nn > 600) = false := decide_eq_false h600
                      have d6' : decide (600 < nn) = false := decide_eq_false h600
                      have HST : Hid (staOk T nn = true ∧ ((staS T nn).toList == [116, 117, 114, 110]) = decide (nn > lm + tm)) := by
                        have h := sta_at HOK.out (k := nn) (i := i) (by omega) (by rw [HLM.out, HTM.out]; exact hnn) (by omega)
                        rw [HLM.out, HTM.out] at h
                        exact h
                      have HNN := hide hnn
                      clear hnn
                      obtain ⟨hik, hhk, hsk⟩ := M150.out.sl
                      obtain ⟨t0, t1, t2, t3, tf, tl⟩ := M150.out.box
                      obtain ⟨q0, q1, qf, ql⟩ := Hq150.out
                      obtain ⟨c0, c1, cf, cl⟩ := Hc150.out
                      go_wp2_with fail
                      clear t0 t1 t2 t3 tf tl q0 q1 qf ql c0 c1 cf cl
                      refine (TeamState_impl T nn 0 _ _ _ hsk hhk HF.out).mono ?_
                      rintro e w151 ⟨rfl, hb⟩
                      rw [HST.out.1]
                      obtain ⟨sx, hsx⟩ : ∃ z, staS T nn = z := ⟨_, rfl⟩
                      rw [hsx]
                      have hq := HST.out.2
                      rw [hsx] at hq
                      clear hsx
                      have M151 := hide (M150.out.below hb)
                      have Hq151 := hide (Hq150.out.keep (hb.block _ Hq150.out.lt) hb.size)
                      clear Hq150
                      have Hc151 := hide (Hc150.out.keep (hb.block _ Hc150.out.lt) hb.size)
                      clear Hc150
                      clear M150
                      have hbx := hb
                      clear hb hsk hhk hik
                      have HX151 := hide (HX150.out.keep (hbx.block _ HX150.out.lt) hbx.size)
                      clear hbx
                      obtain ⟨t0, t1, t2, t3, tf, tl⟩ := M151.out.box
                      obtain ⟨q0, q1, qf, ql⟩ := Hq151.out
                      obtain ⟨c0, c1, cf, cl⟩ := Hc151.out
                      go_wp2_with fail
                      clear t0 t1 t2 t3 tf tl q0 q1 qf ql c0 c1 cf cl
                      go_roundg (2 - i)
                      case measure => omega
                      case rel => exact ⟨i + 1, by omega, by omega, by go_num, M151, Hq151, Hc151, HX151⟩
                  · obtain rfl : i = 2 := by omega
                    obtain ⟨t0, t1, t2, t3, tf, tl⟩ := M150.out.box
                    obtain ⟨q0, q1, qf, ql⟩ := Hq150.out
                    obtain ⟨c0, c1, cf, cl⟩ := Hc150.out
                    go_wp2_with fail
                    clear t0 t1 t2 t3 tf tl q0 q1 qf ql c0 c1 cf cl
                    go_meet
                    case rel => exact M150
        case rest => as_aux_lemma =>
          have M200 := hcut
          obtain ⟨t0, t1, t2, t3, tf, tl⟩ := M200.out.box
          go_wp2_with fail
          clear t0 t1 t2 t3 tf tl
          refine (DrawTeamState_any _ _ M200.out.code).mono ?_
          rintro e w201 ⟨T2, vc2, at2, rfl, hs2, hf2, hb⟩
          have HF2 := hide hf2
          obtain ⟨A2, c2, rfl, _, _⟩ := id hs2.open_
          have N0 : Hid (EnN w201 (.slice A2 T2.n c2) T2) := ⟨_, Nat.le_refl _, hs2.mono (Nat.zero_le _) (Nat.le_refl _)⟩
          have C0 : Hid (Code w201 (.slice B mm capB)) := M200.out.code.below hb (Nat.le_refl _)
          have HB0 : Hid (Below w.heap.size w w201) := M200.out.bel.trans (hb.mono M200.out.bel.size)
          clear hs2 hf2 hb M200
          obtain ⟨at2v, hat2⟩ : ∃ z, z = at2 := ⟨_, rfl⟩
          clear hat2 at2v
          go_wp2_with fail
          obtain ⟨W2, hW⟩ : ∃ W, W = w201.alloc (.cells #[.string T2.s, .int .i64 T2.v, .int .i64 T2.y, .slice A2 T2.n c2] 26) := ⟨_, rfl⟩
          obtain ⟨xb2, hxb⟩ : ∃ z, z = w201.heap.size := ⟨_, rfl⟩
          have X1 : Hid (BxT W2 xb2 T2.s T2.v T2.y (.slice A2 T2.n c2)) := by show BxT _ _ _ _ _ _; rw [hW, hxb]; exact BxT.new _ _ _ _ _ _
          have hb : Below w201.heap.size w201 W2 := by rw [hW]; exact (Below.refl _ _).alloc (Nat.le_refl _) _
          rw [← hW, ← hxb]
          have N1 := hide (N0.out.below hb)
          have C1 := hide (C0.out.below hb (Nat.le_refl _))
          have HB1 : Hid (Below w.heap.size w W2) := HB0.out.trans (hb.mono HB0.out.size)
          clear hW hxb hb N0 C0 HB0
          obtain ⟨hik, hhk, hsk⟩ := N1.out
          refine (TeamState_impl T2 at2 0 _ _ _ hsk hhk HF2.out).mono ?_
          rintro e z21 ⟨rfl, hb⟩
          have X2 := hide (X1.out.below hb)
          have N2 := hide (N1.out.below hb)
          have C2 := hide (C1.out.below hb (Nat.le_refl _))
          have HB2 : Hid (Below w.heap.size w z21) := HB1.out.trans (hb.mono HB1.out.size)
          clear X1 N1 C1 HB1 hb hsk hhk hik
          have X1 := X2
          have N1 := N2
          have C1 := C2
          have HB1 := HB2
          clear X2 N2 C2 HB2
          obtain ⟨t0, t1, t2, t3, tf, tl⟩ := X1.out
          go_wp2_with fail
          clear t0 t1 t2 t3 tf tl
          obtain ⟨hik, hhk, hsk⟩ := N1.out
          refine (TeamState_spec T2 at2 0 _ _ _ hsk hhk HF2.out).mono ?_
          rintro e z22 ⟨rfl, hb⟩
          have X2 := hide (X1.out.below hb)
          have N2 := hide (N1.out.below hb)
          have C2 := hide (C1.out.below hb (Nat.le_refl _))
          have HB2 : Hid (Below w.heap.size w z22) := HB1.out.trans (hb.mono HB1.out.size)
          clear X1 N1 C1 HB1 hb hsk hhk hik
          have X1 := X2
          have N1 := N2
          have C1 := C2
          have HB1 := HB2
          clear X2 N2 C2 HB2
          clear X1 N1
          go_wp2_with fail
          refine (DrawPressureAt_any _ _ C1.out).mono ?_
          rintro e w99 ⟨T3, vc3, at3, rfl, hs3, hf3, hb⟩
          have HF3 := hide hf3
          obtain ⟨A3, c3, rfl, _, _⟩ := id hs3.open_
          have N0 : Hid (EnN w99 (.slice A3 T3.n c3) T3) := ⟨_, Nat.le_refl _, hs3.mono (Nat.zero_le _) (Nat.le_refl _)⟩
          have C0 : Hid (Code w99 (.slice B mm capB)) := C1.out.below hb (Nat.le_refl _)
          have HB0 : Hid (Below w.heap.size w w99) := HB1.out.trans (hb.mono HB1.out.size)
          clear hs3 hf3 hb C1 HB1
          go_wp2_with fail
          obtain ⟨W3, hW⟩ : ∃ W, W = w99.alloc (.cells #[.string T3.s, .int .i64 T3.v, .int .i64 T3.y, .slice A3 T3.n c3] 26) := ⟨_, rfl⟩
          obtain ⟨xb3, hxb⟩ : ∃ z, z = w99.heap.size := ⟨_, rfl⟩
          have X1 : Hid (BxT W3 xb3 T3.s T3.v T3.y (.slice A3 T3.n c3)) := by show BxT _ _ _ _ _ _; rw [hW, hxb]; exact BxT.new _ _ _ _ _ _
          have hb : Below w99.heap.size w99 W3 := by rw [hW]; exact (Below.refl _ _).alloc (Nat.le_refl _) _
          rw [← hW, ← hxb]
          have N1 := hide (N0.out.below hb)
          have C1 := hide (C0.out.below hb (Nat.le_refl _))
          have HB1 : Hid (Below w.heap.size w W3) := HB0.out.trans (hb.mono HB0.out.size)
          clear hW hxb hb N0 C0 HB0
          obtain ⟨hik, hhk, hsk⟩ := N1.out
          refine (PressureAt_impl T3 at3 0 _ _ _ hsk hhk HF3.out).mono ?_
          rintro e z31 ⟨rfl, hb⟩
          have X2 := hide (X1.out.below hb)
          have N2 := hide (N1.out.below hb)
          have C2 := hide (C1.out.below hb (Nat.le_refl _))
          have HB2 : Hid (Below w.heap.size w z31) := HB1.out.trans (hb.mono HB1.out.size)
          clear X1 N1 C1 HB1 hb hsk hhk hik
          have X1 := X2
          have N1 := N2
          have C1 := C2
          have HB1 := HB2
          clear X2 N2 C2 HB2
          obtain ⟨t0, t1, t2, t3, tf, tl⟩ := X1.out
          go_wp2_with fail
          clear t0 t1 t2 t3 tf tl
          obtain ⟨hik, hhk, hsk⟩ := N1.out
          refine (PressureAt_spec T3 at3 0 _ _ _ hsk hhk HF3.out).mono ?_
          rintro e z32 ⟨rfl, hb⟩
          have X2 := hide (X1.out.below hb)
          have N2 := hide (N1.out.below hb)
          have C2 := hide (C1.out.below hb (Nat.le_refl _))
          have HB2 : Hid (Below w.heap.size w z32) := HB1.out.trans (hb.mono HB1.out.size)
          clear X1 N1 C1 HB1 hb hsk hhk hik
          have X1 := X2
          have N1 := N2
          have C1 := C2
          have HB1 := HB2
          clear X2 N2 C2 HB2
          clear X1 N1
          go_wp2_with fail
          go_ret
          exact ⟨rfl, HB1.out⟩

set_option maxRecDepth 100000 in
theorem FnEntryBoard_lifted (os : Os) (started : os.Started) (H : Type) (enc : TypeId × Value → H) :
    ReturnsInHanded {} Try.checked os 3 .any (Rows.fnEntryBoardSpec.pre6 enc Try.prog Try.f3 Rows.fnEntryBoardRow.domain false) (Rows.fnEntryBoardSpec.post enc Try.prog Try.f3 false true false false) := by
  refine returnsInHanded_of_change_sized (C := Try.checked) Try.own started (by kernel_rfl) Try.func3
    (ChangeSpec.witness6 (enc := enc) (C := Try.checked) false ⟨#[], #[.slice none 0 0, .slice none 0 0], []⟩ 8 (by kernel_rfl) (by kernel_rfl) (by kernel_rfl) (by kernel_rfl)) ?_
  intro W base args ds gs before hval0 hW _ hsz _
  have hval : ∀ (j : Nat) t v, Try.f3.params[j]? = some t → args[j]? = some v → Value.okWide Try.prog W .any base t v := hval0
  have hW' := hW
  obtain ⟨p, q, hA0, hV, rfl, hfz, hnd⟩ := hW
  have hA : DataW.TrodAll enc Try.prog W 0 (fun _ => true) true Try.f3.params.toList args.toList ds p := hA0
  rw [Try.params3] at hA hval
  obtain ⟨v0, vs0, d0, ds0, p0, q0, hargs, rfl, rfl, h0, r0⟩ := trodAll_cons hA
  obtain ⟨v1, vs1, d1, ds1, p1, q1, rfl, rfl, rfl, h1, r1⟩ := trodAll_cons r0
  obtain ⟨rfl, rfl, rfl⟩ := trodAll_nil r1
  obtain rfl : args = #[v0, v1] := by cases args; simp_all
  obtain ⟨rfl, rfl⟩ := trodVars_none hV
  have hend : ∀ W', Below W.heap.size W W' → Rows.fnEntryBoardSpec.post enc Try.prog Try.f3 false true false false W #[v0, v1] (.bool true) W' := fun W' hb =>
    law_post (T := 4) Try.laidOut rfl (by kernel_rfl) rfl Try.underlying4 hW' rfl hb
  clear hW' hA0 hval0
  obtain ⟨A, n, cap, rfl, hk0, hm0, hA0⟩ := openByte (hval 0 _ v0 rfl rfl) h0
  obtain ⟨B, mm, capB, rfl, hk1, hm1, hA1⟩ := openByte (hval 1 _ v1 rfl rfl) h1
  refine (FnEntryBoard_walk A n cap B mm capB W hA0 hA1).mono fun e W' ⟨he, hb⟩ => ?_
  subst he
  exact ⟨_, rfl, hend W' hb⟩
/-- The statement. -/
theorem FnEntryBoard_holds : Rows.FnEntryBoardSaid :=
  OpenClaim.holds_of_wide 3 Try.f3 rfl rfl rfl rfl rfl rfl rfl ⟨rfl, rfl, rfl, rfl, rfl⟩ rfl rfl rfl rfl rfl (by kernel_rfl) Try.func3 (show joinedFacts Try.prog 3 Try.f3 Rows.fnEntryBoardSpec Rows.fnEntryBoardRow = true from by unfold joinedFacts; rw [Try.heard, Try.enters, Try.lifts, Try.laidOut, Try.rowed, Try.made]; kernel_rfl)
    (of_decide_eq_true (by kernel_rfl)) (by unfold Func.isWrapper; first | (rw [if_pos (by decide +kernel)]; kernel_rfl) | (rw [if_neg (by decide +kernel)]; exact ⟨rfl, rfl⟩))
    (fun os started H enc _ => FnEntryBoard_lifted os started H enc)
#print axioms FnEntryBoard_holds

end Go.Proofs.Ythkddbonmfoaaaa
