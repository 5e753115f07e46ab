/-
  Texts of this proof, one behind the other (part 15).
-/
import Derived.Test.YthchfnkljmoenaaQ14
/-
  Walks: the crews at a minute, the crews that are due: the program's.-/
namespace Go.Proofs.Ythchfnkljmoenaa
set_option linter.unusedVariables false
set_option linter.unusedSimpArgs false
open Go.RowKit Go.Sort

theorem CA1_any (s : ByteArray) (x y m : Int) (pb : Nat) (w : World) (hm : w.cell? ⟨pb, 0, none⟩ = some (.int .i64 m)) (hl : pb < w.heap.size) (hx : 0 ≤ y ∧ y ≤ 9999) :
    Calls Try.prog 39 #[.agg #[.string s, .int .i64 x, .int .i64 y], .pointer (some ⟨pb, 0, none⟩)] w fun e w' => e = .returned (.bool (inB m x (y - 1))) ∧ Below w.heap.size w w' := by
  go_enter Try.func39, Try.ntmps39
  go_wp2_with (go_at_call 33; refine (inside_any _ _ _ _).mono ?_; rintro e w' ⟨rfl, rfl⟩)
  go_ret
  exact ⟨rfl, (by repeat (first | (with_reducible exact Below.refl _ _) | (with_reducible refine below_ov ?_ ?_) | (with_reducible refine Below.setCell ?_ ?_ _) | (with_reducible refine Below.alloc ?_ ?_ _) | (with_reducible refine Below.drew ?_) | (with_reducible refine below_drewN ?_ _) | (refine Below.trans ?_ (Below.mono ‹Below _ _ _› (by first | omega | (simp; done) | (simp; omega)))) | exact Below.refl _ _ | omega | (focus (simp; done)) | (focus (simp; omega))))⟩
theorem DC1_any (c : Nat → ByteArray) (a b : Nat → Int) (n : Nat) (s : ByteArray) (x y m q : Int) (lo hi : Nat) (v : Value) (p1 p2 p3 : Nat) (w : World) (hv : Sl w lo hi 3 v n (siiC c a b)) (hhi : hi ≤ w.heap.size) (hn : n ≤ 1048576) (hp : pdB c a b n = true) (hm : 0 ≤ m) (hm' : m ≤ 9999)
    (h1 : w.cell? ⟨p1, 0, none⟩ = some v) (h2 : w.cell? ⟨p2, 0, none⟩ = some (.int .i64 m)) (h3 : w.cell? ⟨p3, 0, none⟩ = some (.int .i64 q)) (l1 : p1 < w.heap.size) (l2 : p2 < w.heap.size) (l3 : p3 < w.heap.size) :
    Calls Try.prog 51 #[.agg #[.string s, .int .i64 x, .int .i64 y], .pointer (some ⟨p1, 0, none⟩), .pointer (some ⟨p2, 0, none⟩), .pointer (some ⟨p3, 0, none⟩)] w fun e w' => e = .returned (.bool (dueB c a b s m n q)) ∧ Below w.heap.size w w' := by
  obtain ⟨A, cap, rfl, hcap, hA⟩ := hv.open_
  have HP := hide hp
  clear hp
  go_enter Try.func51, Try.ntmps51
  go_wp2_with fail
  refine (isDue_any c a b n s m q lo hi _ _ (hv.below (B := w.heap.size) (by repeat (first | (with_reducible exact Below.refl _ _) | (with_reducible refine below_ov ?_ ?_) | (with_reducible refine Below.setCell ?_ ?_ _) | (with_reducible refine Below.alloc ?_ ?_ _) | (with_reducible refine Below.drew ?_) | (with_reducible refine below_drewN ?_ _) | (refine Below.trans ?_ (Below.mono ‹Below _ _ _› (by first | omega | (simp; done) | (simp; omega)))) | exact Below.refl _ _ | omega | (focus (simp; done)) | (focus (simp; omega)))) hhi) (by simp; omega) hn HP.out hm hm').mono ?_
  rintro e w1 ⟨rfl, hb1⟩
  have hz1 := hb1.size
  (try (simp at hz1))
  go_wp2_with fail
  go_ret
  exact ⟨rfl, (by repeat (first | (with_reducible exact Below.refl _ _) | (with_reducible refine below_ov ?_ ?_) | (with_reducible refine Below.setCell ?_ ?_ _) | (with_reducible refine Below.alloc ?_ ?_ _) | (with_reducible refine Below.drew ?_) | (with_reducible refine below_drewN ?_ _) | (refine Below.trans ?_ (Below.mono ‹Below _ _ _› (by first | omega | (simp; done) | (simp; omega)))) | exact Below.refl _ _ | omega | (focus (simp; done)) | (focus (simp; omega))))⟩
set_option maxRecDepth 100000 in
set_option maxHeartbeats 3200000 in
theorem withCrewsAt_any (c : Nat → ByteArray) (a b : Nat → Int) (n : Nat) (m : Int) (lo hi : Nat) (v : Value) (pb : Nat) (w : World) (hv : Sl w lo hi 3 v n (siiC c a b)) (hhi : hi ≤ w.heap.size) (hn : n ≤ 1048576) (hp : pdB c a b n = true) (hm : 0 ≤ m) (hm' : m ≤ 9999) (h1 : w.cell? ⟨pb, 0, none⟩ = some (.int .i64 m)) (l1 : pb < w.heap.size) :
    Calls Try.prog 38 #[v, .func (.func 39) #[] #[.pointer (some ⟨pb, 0, none⟩)]] w fun e w' => ∃ v', e = .returned v' ∧ TRow w' w.heap.size v' (putAll (sel c (caP a b m) n)) ∧ Below w.heap.size w w' := by
  obtain ⟨A, cap, rfl, hcap, hA⟩ := hv.open_
  obtain ⟨ii, hii, iz0, iz1, iz2⟩ := info_parts infoStrP
  have HP := hide hp
  have g1 := h1
  clear hp h1
  go_enter Try.func38, Try.ntmps38
  go_wp2_with fail
  go_loopw [5, 10] (fun o i wr => ∃ (k : Nat) (B : Option Addr) (cp : Nat), k ≤ n ∧ i = .int .i64 k ∧ o = .slice B (sel c (caP a b m) k).length cp ∧ Hid (TRow wr w.heap.size (.slice B (sel c (caP a b m) k).length cp) (sel c (caP a b m) k)) ∧ Below w.heap.size w wr) (fun _ i _ => n - (intOf i).toNat)
  case atStart => exact ⟨0, none, 0, by omega, rfl, rfl, World.ownsRow_nil _ _ _ _, Below.refl _ _⟩
  case round =>
    obtain ⟨k, B, cp, hk, rfl, rfl, hown, hb⟩ := hrel
    have hzr := hb.size
    have hn12 := (pd_facts HP.out).1
    have hL : (sel c (caP a b m) k).length ≤ k := sel_len
    by_cases hkn : k < n
    · obtain ⟨blk, off, rfl, h1, h2, h3⟩ := (hA.below hb (by omega)) (by omega)
      have c0 : wr.cell? ⟨blk, off + k * 3, none⟩ = some (.string (c k)) := h3 k 0 hkn (by omega)
      have c1 : wr.cell? ⟨blk, off + k * 3 + 1, none⟩ = some (.int .i64 (a k)) := h3 k 1 hkn (by omega)
      have c2 : wr.cell? ⟨blk, off + k * 3 + 2, none⟩ = some (.int .i64 (b k)) := h3 k 2 hkn (by omega)
      have l0 : blk < wr.heap.size := by omega
      clear h3 hA
      have hpk := (perB_iff.1 ((pd_facts HP.out).2 k hkn).1).2
      go_wp2_with fail
      refine (CA1_any (c k) (a k) (b k) m pb _ ((World.cell?_alloc_lt _ _ ⟨pb, 0, none⟩ (by show pb < _; omega)).trans ((hb.cell (p := ⟨pb, 0, none⟩) l1).trans g1)) (by simp; omega) (by omega)).mono ?_
      rintro e w4 ⟨rfl, hb4⟩
      have hz4 := hb4.size
      (try (simp at hz4))
      have ho4 := hide (row_below (hown.out.alloc _) hb4 (Nat.le_refl _))
      have pa := (hb4.cell (p := ⟨wr.heap.size, 0, none⟩) (by simp)).trans (World.cell?_alloc_new _ _ _ _)
      simp at pa
      have l4 : wr.heap.size < w4.heap.size := by omega
      cases e5 : inB m (a k) (b k - 1) with
      | true =>
        have hs := sel_yes (c := c) (p := caP a b m) (k := k) e5
        have HL : Hid ((sel c (caP a b m) (k + 1)).length = (sel c (caP a b m) k).length + 1) := by show _ = _; rw [hs]; simp
        have HV : Hid ((sel c (caP a b m) (k + 1)).map encStr = (sel c (caP a b m) k).map encStr ++ [.string (c k)]) := by
          show _ = _
          rw [hs]
          simp [ByteArray.toList_eq]
        clear hs
        go_wp2_with (at_builtin; refine wpList_append_own _ rfl _ _ 29 rfl w.heap.size 9 ii (.string ⟨#[]⟩) 1 16 Try.underlying29 hii iz0 iz1 iz2 rfl (by decide) _ _ _ rfl (ho4.out.alloc _) ⟨w4.heap.size, 0, none⟩ 1 1 [.string (c k)] rfl rfl (by intro i u hu; match i, hu with | 0, hu => (simp at hu; subst hu; simp [go_sem, Addr.add])) (by intro u hu; simp at hu; subst hu; rfl) (by unfold maxLen; omega) (by omega) (by simp; omega) ?_)
        intro v' w5 hown5 hg5 _
        have hb4w : Below w.heap.size w w4 := (by repeat (first | (with_reducible exact Below.refl _ _) | (with_reducible refine below_ov ?_ ?_) | (with_reducible refine Below.setCell ?_ ?_ _) | (with_reducible refine Below.alloc ?_ ?_ _) | (with_reducible refine Below.drew ?_) | (with_reducible refine below_drewN ?_ _) | (refine Below.trans ?_ (Below.mono ‹Below _ _ _› (by first | omega | (simp; done) | (simp; omega)))) | exact Below.refl _ _ | omega | (focus (simp; done)) | (focus (simp; omega))))
        have hb5 : Below w.heap.size w w5 := (hb4w.alloc (by omega) _).grown hg5 (by simp; omega) (fun g hg => (ho4.out.lt g hg).1)
        have hz5 := hb5.size
        obtain ⟨B2, cp2, rfl⟩ := row_form hown5
        have hown6 : Hid (TRow w5 w.heap.size (.slice B2 (sel c (caP a b m) (k + 1)).length cp2) (sel c (caP a b m) (k + 1))) := by
          show TRow _ _ _ _
          rw [TRow, HV.out, HL.out]
          exact hown5
        clear hown5 hg5 ho4
        go_wp2_with fail
        go_roundw
        case rel => exact ⟨k + 1, B2, cp2, by omega, by go_num, by rw [HL.out], hown6, hb5⟩
        case measure => simp [intOf]; omega
      | false =>
        have hs := sel_no (c := c) (p := caP a b m) (k := k) e5
        have HS := hide hs
        clear hs
        go_wp2_with fail
        go_roundw
        case rel => exact ⟨k + 1, B, cp, by omega, by go_num, by rw [HS.out], by rw [HS.out]; exact ho4, (by repeat (first | (with_reducible exact Below.refl _ _) | (with_reducible refine below_ov ?_ ?_) | (with_reducible refine Below.setCell ?_ ?_ _) | (with_reducible refine Below.alloc ?_ ?_ _) | (with_reducible refine Below.drew ?_) | (with_reducible refine below_drewN ?_ _) | (refine Below.trans ?_ (Below.mono ‹Below _ _ _› (by first | omega | (simp; done) | (simp; omega)))) | exact Below.refl _ _ | omega | (focus (simp; done)) | (focus (simp; omega))))⟩
        case measure => simp [intOf]; omega
    · obtain rfl : k = n := by omega
      go_wp2_with fail
      refine (sort_row hown.out (by omega)).mono ?_
      rintro e w2 ⟨rfl, ho2, hb2⟩
      have hz2 := hb2.size
      have ho2' := hide ho2
      clear ho2
      go_wp2_with fail
      refine (compact_row ho2'.out (by rw [List.length_mergeSort]; omega)).mono ?_
      rintro e w3 ⟨v3, rfl, ho3, hb3⟩
      have hz3 := hb3.size
      rw [sort_put] at ho3
      go_wp2_with fail
      go_ret
      exact ⟨_, rfl, ho3, (hb.trans hb2).trans hb3⟩
set_option maxRecDepth 100000 in
set_option maxHeartbeats 3200000 in
theorem CrewsAt_implR (c : Nat → ByteArray) (a b : Nat → Int) (n : Nat) (m : Int) (lo hi : Nat) (v : Value) (w : World) (hv : Sl w lo hi 3 v n (siiC c a b)) (hhi : hi ≤ w.heap.size) (hf : pfits c n) :
    Calls Try.prog 10 #[v, .int .i64 m] w (CrRes (caR c a b n m) (caOk c a b n m) w) := by
  obtain ⟨A, cap, rfl, hcap, hA⟩ := hv.open_
  have hn := hf.1
  cases hc1_0 : pdB c a b n with
  | false =>
    have HX : Hid (caOk c a b n m = false) := by show _ = _; simp [caOk, *]
    have HR : Hid (caR c a b n m = []) := by show _ = _; rw [caR, HX.out]; rfl
    go_enter Try.func10, Try.ntmps10
    go_wp2_with fail
    refine (arePeriods_any c a b n lo hi _ _ (hv.below (B := w.heap.size) (by repeat (first | (with_reducible exact Below.refl _ _) | (with_reducible refine below_ov ?_ ?_) | (with_reducible refine Below.setCell ?_ ?_ _) | (with_reducible refine Below.alloc ?_ ?_ _) | (with_reducible refine Below.drew ?_) | (with_reducible refine below_drewN ?_ _) | (refine Below.trans ?_ (Below.mono ‹Below _ _ _› (by first | omega | (simp; done) | (simp; omega)))) | exact Below.refl _ _ | omega | (focus (simp; done)) | (focus (simp; omega)))) hhi) (by simp; omega) hf).mono ?_
    rintro e w1 ⟨rfl, hb1⟩
    have hz1 := hb1.size
    (try (simp at hz1))
    have pa := (hb1.cell (p := ⟨w.heap.size, 0, none⟩) (by simp)).trans (World.cell?_alloc_new _ _ _ _)
    simp at pa
    go_wp2_with (first | (go_at_call 32; refine (isMinute_any _ _).mono ?_; rintro e w' ⟨rfl, rfl⟩) | (go_at_call 33; refine (inside_any _ _ _ _).mono ?_; rintro e w' ⟨rfl, rfl⟩))
    go_ret2
    rw [HX.out, HR.out]
    exact cr_nil (by repeat (first | (with_reducible exact Below.refl _ _) | (with_reducible refine below_ov ?_ ?_) | (with_reducible refine Below.setCell ?_ ?_ _) | (with_reducible refine Below.alloc ?_ ?_ _) | (with_reducible refine Below.drew ?_) | (with_reducible refine below_drewN ?_ _) | (refine Below.trans ?_ (Below.mono ‹Below _ _ _› (by first | omega | (simp; done) | (simp; omega)))) | exact Below.refl _ _ | omega | (focus (simp; done)) | (focus (simp; omega))))
  | true =>
    cases hc1_1 : inB m 0 9999 with
    | false =>
      have HX : Hid (caOk c a b n m = false) := by show _ = _; simp [caOk, *]
      have HR : Hid (caR c a b n m = []) := by show _ = _; rw [caR, HX.out]; rfl
      go_enter Try.func10, Try.ntmps10
      go_wp2_with fail
      refine (arePeriods_any c a b n lo hi _ _ (hv.below (B := w.heap.size) (by repeat (first | (with_reducible exact Below.refl _ _) | (with_reducible refine below_ov ?_ ?_) | (with_reducible refine Below.setCell ?_ ?_ _) | (with_reducible refine Below.alloc ?_ ?_ _) | (with_reducible refine Below.drew ?_) | (with_reducible refine below_drewN ?_ _) | (refine Below.trans ?_ (Below.mono ‹Below _ _ _› (by first | omega | (simp; done) | (simp; omega)))) | exact Below.refl _ _ | omega | (focus (simp; done)) | (focus (simp; omega)))) hhi) (by simp; omega) hf).mono ?_
      rintro e w1 ⟨rfl, hb1⟩
      have hz1 := hb1.size
      (try (simp at hz1))
      have pa := (hb1.cell (p := ⟨w.heap.size, 0, none⟩) (by simp)).trans (World.cell?_alloc_new _ _ _ _)
      simp at pa
      go_wp2_with (first | (go_at_call 32; refine (isMinute_any _ _).mono ?_; rintro e w' ⟨rfl, rfl⟩) | (go_at_call 33; refine (inside_any _ _ _ _).mono ?_; rintro e w' ⟨rfl, rfl⟩))
      go_ret2
      rw [HX.out, HR.out]
      exact cr_nil (by repeat (first | (with_reducible exact Below.refl _ _) | (with_reducible refine below_ov ?_ ?_) | (with_reducible refine Below.setCell ?_ ?_ _) | (with_reducible refine Below.alloc ?_ ?_ _) | (with_reducible refine Below.drew ?_) | (with_reducible refine below_drewN ?_ _) | (refine Below.trans ?_ (Below.mono ‹Below _ _ _› (by first | omega | (simp; done) | (simp; omega)))) | exact Below.refl _ _ | omega | (focus (simp; done)) | (focus (simp; omega))))
    | true =>
      obtain ⟨hc1_1l, hc1_1r⟩ := inB_iff.1 hc1_1
      have HX : Hid (caOk c a b n m = true) := by show _ = _; simp [caOk, *]
      have HP : Hid (pdB c a b n = true) := by show _ = _; assumption
      have HR : Hid (caR c a b n m = putAll (sel c (caP a b m) n)) := by show _ = _; rw [caR, if_pos HX.out]
      go_enter Try.func10, Try.ntmps10
      go_wp2_with fail
      refine (arePeriods_any c a b n lo hi _ _ (hv.below (B := w.heap.size) (by repeat (first | (with_reducible exact Below.refl _ _) | (with_reducible refine below_ov ?_ ?_) | (with_reducible refine Below.setCell ?_ ?_ _) | (with_reducible refine Below.alloc ?_ ?_ _) | (with_reducible refine Below.drew ?_) | (with_reducible refine below_drewN ?_ _) | (refine Below.trans ?_ (Below.mono ‹Below _ _ _› (by first | omega | (simp; done) | (simp; omega)))) | exact Below.refl _ _ | omega | (focus (simp; done)) | (focus (simp; omega)))) hhi) (by simp; omega) hf).mono ?_
      rintro e w1 ⟨rfl, hb1⟩
      have hz1 := hb1.size
      (try (simp at hz1))
      have pa := (hb1.cell (p := ⟨w.heap.size, 0, none⟩) (by simp)).trans (World.cell?_alloc_new _ _ _ _)
      simp at pa
      go_wp2_with (first | (go_at_call 32; refine (isMinute_any _ _).mono ?_; rintro e w' ⟨rfl, rfl⟩) | (go_at_call 33; refine (inside_any _ _ _ _).mono ?_; rintro e w' ⟨rfl, rfl⟩))
      refine (withCrewsAt_any c a b n m lo hi _ w.heap.size _ (hv.below (B := w.heap.size) (by repeat (first | (with_reducible exact Below.refl _ _) | (with_reducible refine below_ov ?_ ?_) | (with_reducible refine Below.setCell ?_ ?_ _) | (with_reducible refine Below.alloc ?_ ?_ _) | (with_reducible refine Below.drew ?_) | (with_reducible refine below_drewN ?_ _) | (refine Below.trans ?_ (Below.mono ‹Below _ _ _› (by first | omega | (simp; done) | (simp; omega)))) | exact Below.refl _ _ | omega | (focus (simp; done)) | (focus (simp; omega)))) hhi) (by omega) hn HP.out (by omega) (by omega) pa (by first | omega | (simp; done) | (simp; omega))).mono ?_
      rintro e w2 ⟨v2, rfl, ho2, hb2⟩
      have hz2 := hb2.size
      go_wp2_with fail
      go_ret2
      rw [HX.out, HR.out]
      exact ⟨_, rfl, ho2.mono (by omega), (by repeat (first | (with_reducible exact Below.refl _ _) | (with_reducible refine below_ov ?_ ?_) | (with_reducible refine Below.setCell ?_ ?_ _) | (with_reducible refine Below.alloc ?_ ?_ _) | (with_reducible refine Below.drew ?_) | (with_reducible refine below_drewN ?_ _) | (refine Below.trans ?_ (Below.mono ‹Below _ _ _› (by first | omega | (simp; done) | (simp; omega)))) | exact Below.refl _ _ | omega | (focus (simp; done)) | (focus (simp; omega))))⟩
theorem CrewsAt_impl (c : Nat → ByteArray) (a b : Nat → Int) (n : Nat) (m : Int) (lo hi : Nat) (v : Value) (w : World) (hv : Sl w lo hi 3 v n (siiC c a b)) (hhi : hi ≤ w.heap.size) (hf : pfits c n) :
    Calls Try.prog 10 #[v, .int .i64 m] w fun e w' => ∃ v', e = .returned (.tuple #[v', .bool (caOk c a b n m)]) ∧ Own w' w.heap.size w'.heap.size 9 1 v' (caN c a b n m) (caN c a b n m) (sC (caS c a b n m)) ∧ Below w.heap.size w w' :=
  (CrewsAt_implR c a b n m lo hi v w hv hhi hf).mono fun _ _ h => h.own
set_option maxRecDepth 100000 in
set_option maxHeartbeats 3200000 in
theorem withDueCrews_any (c : Nat → ByteArray) (a b : Nat → Int) (n : Nat) (m q : Int) (lo hi : Nat) (v : Value) (p1 p2 p3 : Nat) (w : World) (hv : Sl w lo hi 3 v n (siiC c a b)) (hhi : hi ≤ w.heap.size) (hn : n ≤ 1048576) (hp : pdB c a b n = true) (hm : 0 ≤ m) (hm' : m ≤ 9999) (h1 : w.cell? ⟨p1, 0, none⟩ = some v) (h2 : w.cell? ⟨p2, 0, none⟩ = some (.int .i64 m)) (h3 : w.cell? ⟨p3, 0, none⟩ = some (.int .i64 q)) (l1 : p1 < w.heap.size) (l2 : p2 < w.heap.size) (l3 : p3 < w.heap.size) :
    Calls Try.prog 38 #[v, .func (.func 51) #[] #[.pointer (some ⟨p1, 0, none⟩), .pointer (some ⟨p2, 0, none⟩), .pointer (some ⟨p3, 0, none⟩)]] w fun e w' => ∃ v', e = .returned v' ∧ TRow w' w.heap.size v' (putAll (sel c (dcP c a b n m q) n)) ∧ Below w.heap.size w w' := by
  obtain ⟨A, cap, rfl, hcap, hA⟩ := hv.open_
  obtain ⟨ii, hii, iz0, iz1, iz2⟩ := info_parts infoStrP
  have HP := hide hp
  have g1 := h1
  have g2 := h2
  have g3 := h3
  clear hp h1 h2 h3
  go_enter Try.func38, Try.ntmps38
  go_wp2_with fail
  go_loopw [5, 10] (fun o i wr => ∃ (k : Nat) (B : Option Addr) (cp : Nat), k ≤ n ∧ i = .int .i64 k ∧ o = .slice B (sel c (dcP c a b n m q) k).length cp ∧ Hid (TRow wr w.heap.size (.slice B (sel c (dcP c a b n m q) k).length cp) (sel c (dcP c a b n m q) k)) ∧ Below w.heap.size w wr) (fun _ i _ => n - (intOf i).toNat)
  case atStart => exact ⟨0, none, 0, by omega, rfl, rfl, World.ownsRow_nil _ _ _ _, Below.refl _ _⟩
  case round =>
    obtain ⟨k, B, cp, hk, rfl, rfl, hown, hb⟩ := hrel
    have hzr := hb.size
    have hn12 := (pd_facts HP.out).1
    have hL : (sel c (dcP c a b n m q) k).length ≤ k := sel_len
    by_cases hkn : k < n
    · obtain ⟨blk, off, rfl, h1, h2, h3⟩ := (hA.below hb (by omega)) (by omega)
      have c0 : wr.cell? ⟨blk, off + k * 3, none⟩ = some (.string (c k)) := h3 k 0 hkn (by omega)
      have c1 : wr.cell? ⟨blk, off + k * 3 + 1, none⟩ = some (.int .i64 (a k)) := h3 k 1 hkn (by omega)
      have c2 : wr.cell? ⟨blk, off + k * 3 + 2, none⟩ = some (.int .i64 (b k)) := h3 k 2 hkn (by omega)
      have l0 : blk < wr.heap.size := by omega
      clear h3 hA
      have hpk := (perB_iff.1 ((pd_facts HP.out).2 k hkn).1).2
      go_wp2_with fail
      refine (DC1_any c a b n (c k) (a k) (b k) m q lo hi _ p1 p2 p3 _ (hv.below (B := w.heap.size) (by repeat (first | (with_reducible exact Below.refl _ _) | (with_reducible refine below_ov ?_ ?_) | (with_reducible refine Below.setCell ?_ ?_ _) | (with_reducible refine Below.alloc ?_ ?_ _) | (with_reducible refine Below.drew ?_) | (with_reducible refine below_drewN ?_ _) | (refine Below.trans ?_ (Below.mono ‹Below _ _ _› (by first | omega | (simp; done) | (simp; omega)))) | exact Below.refl _ _ | omega | (focus (simp; done)) | (focus (simp; omega)))) hhi) (by simp; omega) hn HP.out hm hm' ((World.cell?_alloc_lt _ _ ⟨p1, 0, none⟩ (by show p1 < _; omega)).trans ((hb.cell (p := ⟨p1, 0, none⟩) l1).trans g1)) ((World.cell?_alloc_lt _ _ ⟨p2, 0, none⟩ (by show p2 < _; omega)).trans ((hb.cell (p := ⟨p2, 0, none⟩) l2).trans g2)) ((World.cell?_alloc_lt _ _ ⟨p3, 0, none⟩ (by show p3 < _; omega)).trans ((hb.cell (p := ⟨p3, 0, none⟩) l3).trans g3)) (by simp; omega) (by simp; omega) (by simp; omega)).mono ?_
      rintro e w4 ⟨rfl, hb4⟩
      have hz4 := hb4.size
      (try (simp at hz4))
      have ho4 := hide (row_below (hown.out.alloc _) hb4 (Nat.le_refl _))
      have pa := (hb4.cell (p := ⟨wr.heap.size, 0, none⟩) (by simp)).trans (World.cell?_alloc_new _ _ _ _)
      simp at pa
      have l4 : wr.heap.size < w4.heap.size := by omega
      cases e5 : dueB c a b (c k) m n q with
      | true =>
        have hs := sel_yes (c := c) (p := dcP c a b n m q) (k := k) e5
        have HL : Hid ((sel c (dcP c a b n m q) (k + 1)).length = (sel c (dcP c a b n m q) k).length + 1) := by show _ = _; rw [hs]; simp
        have HV : Hid ((sel c (dcP c a b n m q) (k + 1)).map encStr = (sel c (dcP c a b n m q) k).map encStr ++ [.string (c k)]) := by
          show _ = _
          rw [hs]
          simp [ByteArray.toList_eq]
        clear hs
        go_wp2_with (at_builtin; refine wpList_append_own _ rfl _ _ 29 rfl w.heap.size 9 ii (.string ⟨#[]⟩) 1 16 Try.underlying29 hii iz0 iz1 iz2 rfl (by decide) _ _ _ rfl (ho4.out.alloc _) ⟨w4.heap.size, 0, none⟩ 1 1 [.string (c k)] rfl rfl (by intro i u hu; match i, hu with | 0, hu => (simp at hu; subst hu; simp [go_sem, Addr.add])) (by intro u hu; simp at hu; subst hu; rfl) (by unfold maxLen; omega) (by omega) (by simp; omega) ?_)
        intro v' w5 hown5 hg5 _
        have hb4w : Below w.heap.size w w4 := (by repeat (first | (with_reducible exact Below.refl _ _) | (with_reducible refine below_ov ?_ ?_) | (with_reducible refine Below.setCell ?_ ?_ _) | (with_reducible refine Below.alloc ?_ ?_ _) | (with_reducible refine Below.drew ?_) | (with_reducible refine below_drewN ?_ _) | (refine Below.trans ?_ (Below.mono ‹Below _ _ _› (by first | omega | (simp; done) | (simp; omega)))) | exact Below.refl _ _ | omega | (focus (simp; done)) | (focus (simp; omega))))
        have hb5 : Below w.heap.size w w5 := (hb4w.alloc (by omega) _).grown hg5 (by simp; omega) (fun g hg => (ho4.out.lt g hg).1)
        have hz5 := hb5.size
        obtain ⟨B2, cp2, rfl⟩ := row_form hown5
        have hown6 : Hid (TRow w5 w.heap.size (.slice B2 (sel c (dcP c a b n m q) (k + 1)).length cp2) (sel c (dcP c a b n m q) (k + 1))) := by
          show TRow _ _ _ _
          rw [TRow, HV.out, HL.out]
          exact hown5
        clear hown5 hg5 ho4
        go_wp2_with fail
        go_roundw
        case rel => exact ⟨k + 1, B2, cp2, by omega, by go_num, by rw [HL.out], hown6, hb5⟩
        case measure => simp [intOf]; omega
      | false =>
        have hs := sel_no (c := c) (p := dcP c a b n m q) (k := k) e5
        have HS := hide hs
        clear hs
        go_wp2_with fail
        go_roundw
        case rel => exact ⟨k + 1, B, cp, by omega, by go_num, by rw [HS.out], by rw [HS.out]; exact ho4, (by repeat (first | (with_reducible exact Below.refl _ _) | (with_reducible refine below_ov ?_ ?_) | (with_reducible refine Below.setCell ?_ ?_ _) | (with_reducible refine Below.alloc ?_ ?_ _) | (with_reducible refine Below.drew ?_) | (with_reducible refine below_drewN ?_ _) | (refine Below.trans ?_ (Below.mono ‹Below _ _ _› (by first | omega | (simp; done) | (simp; omega)))) | exact Below.refl _ _ | omega | (focus (simp; done)) | (focus (simp; omega))))⟩
        case measure => simp [intOf]; omega
    · obtain rfl : k = n := by omega
      go_wp2_with fail
      refine (sort_row hown.out (by omega)).mono ?_
      rintro e w2 ⟨rfl, ho2, hb2⟩
      have hz2 := hb2.size
      have ho2' := hide ho2
      clear ho2
      go_wp2_with fail
      refine (compact_row ho2'.out (by rw [List.length_mergeSort]; omega)).mono ?_
      rintro e w3 ⟨v3, rfl, ho3, hb3⟩
      have hz3 := hb3.size
      rw [sort_put] at ho3
      go_wp2_with fail
      go_ret
      exact ⟨_, rfl, ho3, (hb.trans hb2).trans hb3⟩
set_option maxRecDepth 100000 in
set_option maxHeartbeats 3200000 in
theorem DueCrews_implR (c : Nat → ByteArray) (a b : Nat → Int) (n : Nat) (m q : Int) (lo hi : Nat) (v : Value) (w : World) (hv : Sl w lo hi 3 v n (siiC c a b)) (hhi : hi ≤ w.heap.size) (hf : pfits c n) :
    Calls Try.prog 17 #[v, .int .i64 m, .int .i64 q] w (CrRes (dcR c a b n m q) (dcOk c a b n m q) w) := by
  obtain ⟨A, cap, rfl, hcap, hA⟩ := hv.open_
  have hn := hf.1
  cases hc2_0 : pdB c a b n with
  | false =>
    have HX : Hid (dcOk c a b n m q = false) := by show _ = _; simp [dcOk, *]
    have HR : Hid (dcR c a b n m q = []) := by show _ = _; rw [dcR, HX.out]; rfl
    go_enter Try.func17, Try.ntmps17
    go_wp2_with fail
    refine (arePeriods_any c a b n lo hi _ _ (hv.below (B := w.heap.size) (by repeat (first | (with_reducible exact Below.refl _ _) | (with_reducible refine below_ov ?_ ?_) | (with_reducible refine Below.setCell ?_ ?_ _) | (with_reducible refine Below.alloc ?_ ?_ _) | (with_reducible refine Below.drew ?_) | (with_reducible refine below_drewN ?_ _) | (refine Below.trans ?_ (Below.mono ‹Below _ _ _› (by first | omega | (simp; done) | (simp; omega)))) | exact Below.refl _ _ | omega | (focus (simp; done)) | (focus (simp; omega)))) hhi) (by simp; omega) hf).mono ?_
    rintro e w1 ⟨rfl, hb1⟩
    have hz1 := hb1.size
    (try (simp at hz1))
    have pa1 := (hb1.cell (p := ⟨w.heap.size, 0, none⟩) (by simp; try omega))
    simp [go_sem] at pa1
    have pa2 := (hb1.cell (p := ⟨w.heap.size + 1, 0, none⟩) (by simp; try omega))
    simp [go_sem] at pa2
    have pa3 := (hb1.cell (p := ⟨w.heap.size + 1 + 1, 0, none⟩) (by simp; try omega))
    simp [go_sem] at pa3
    go_wp2_with (first | (go_at_call 32; refine (isMinute_any _ _).mono ?_; rintro e w' ⟨rfl, rfl⟩) | (go_at_call 33; refine (inside_any _ _ _ _).mono ?_; rintro e w' ⟨rfl, rfl⟩))
    go_ret2
    rw [HX.out, HR.out]
    exact cr_nil (by repeat (first | (with_reducible exact Below.refl _ _) | (with_reducible refine below_ov ?_ ?_) | (with_reducible refine Below.setCell ?_ ?_ _) | (with_reducible refine Below.alloc ?_ ?_ _) | (with_reducible refine Below.drew ?_) | (with_reducible refine below_drewN ?_ _) | (refine Below.trans ?_ (Below.mono ‹Below _ _ _› (by first | omega | (simp; done) | (simp; omega)))) | exact Below.refl _ _ | omega | (focus (simp; done)) | (focus (simp; omega))))
  | true =>
    cases hc2_1 : inB m 0 9999 with
    | false =>
      have HX : Hid (dcOk c a b n m q = false) := by show _ = _; simp [dcOk, *]
      have HR : Hid (dcR c a b n m q = []) := by show _ = _; rw [dcR, HX.out]; rfl
      go_enter Try.func17, Try.ntmps17
      go_wp2_with fail
      refine (arePeriods_any c a b n lo hi _ _ (hv.below (B := w.heap.size) (by repeat (first | (with_reducible exact Below.refl _ _) | (with_reducible refine below_ov ?_ ?_) | (with_reducible refine Below.setCell ?_ ?_ _) | (with_reducible refine Below.alloc ?_ ?_ _) | (with_reducible refine Below.drew ?_) | (with_reducible refine below_drewN ?_ _) | (refine Below.trans ?_ (Below.mono ‹Below _ _ _› (by first | omega | (simp; done) | (simp; omega)))) | exact Below.refl _ _ | omega | (focus (simp; done)) | (focus (simp; omega)))) hhi) (by simp; omega) hf).mono ?_
      rintro e w1 ⟨rfl, hb1⟩
      have hz1 := hb1.size
      (try (simp at hz1))
      have pa1 := (hb1.cell (p := ⟨w.heap.size, 0, none⟩) (by simp; try omega))
      simp [go_sem] at pa1
      have pa2 := (hb1.cell (p := ⟨w.heap.size + 1, 0, none⟩) (by simp; try omega))
      simp [go_sem] at pa2
      have pa3 := (hb1.cell (p := ⟨w.heap.size + 1 + 1, 0, none⟩) (by simp; try omega))
      simp [go_sem] at pa3
      go_wp2_with (first | (go_at_call 32; refine (isMinute_any _ _).mono ?_; rintro e w' ⟨rfl, rfl⟩) | (go_at_call 33; refine (inside_any _ _ _ _).mono ?_; rintro e w' ⟨rfl, rfl⟩))
      go_ret2
      rw [HX.out, HR.out]
      exact cr_nil (by repeat (first | (with_reducible exact Below.refl _ _) | (with_reducible refine below_ov ?_ ?_) | (with_reducible refine Below.setCell ?_ ?_ _) | (with_reducible refine Below.alloc ?_ ?_ _) | (with_reducible refine Below.drew ?_) | (with_reducible refine below_drewN ?_ _) | (refine Below.trans ?_ (Below.mono ‹Below _ _ _› (by first | omega | (simp; done) | (simp; omega)))) | exact Below.refl _ _ | omega | (focus (simp; done)) | (focus (simp; omega))))
    | true =>
      obtain ⟨hc2_1l, hc2_1r⟩ := inB_iff.1 hc2_1
      cases hc2_2 : inB q 1 720 with
      | false =>
        have HX : Hid (dcOk c a b n m q = false) := by show _ = _; simp [dcOk, *]
        have HR : Hid (dcR c a b n m q = []) := by show _ = _; rw [dcR, HX.out]; rfl
        go_enter Try.func17, Try.ntmps17
        go_wp2_with fail
        refine (arePeriods_any c a b n lo hi _ _ (hv.below (B := w.heap.size) (by repeat (first | (with_reducible exact Below.refl _ _) | (with_reducible refine below_ov ?_ ?_) | (with_reducible refine Below.setCell ?_ ?_ _) | (with_reducible refine Below.alloc ?_ ?_ _) | (with_reducible refine Below.drew ?_) | (with_reducible refine below_drewN ?_ _) | (refine Below.trans ?_ (Below.mono ‹Below _ _ _› (by first | omega | (simp; done) | (simp; omega)))) | exact Below.refl _ _ | omega | (focus (simp; done)) | (focus (simp; omega)))) hhi) (by simp; omega) hf).mono ?_
        rintro e w1 ⟨rfl, hb1⟩
        have hz1 := hb1.size
        (try (simp at hz1))
        have pa1 := (hb1.cell (p := ⟨w.heap.size, 0, none⟩) (by simp; try omega))
        simp [go_sem] at pa1
        have pa2 := (hb1.cell (p := ⟨w.heap.size + 1, 0, none⟩) (by simp; try omega))
        simp [go_sem] at pa2
        have pa3 := (hb1.cell (p := ⟨w.heap.size + 1 + 1, 0, none⟩) (by simp; try omega))
        simp [go_sem] at pa3
        go_wp2_with (first | (go_at_call 32; refine (isMinute_any _ _).mono ?_; rintro e w' ⟨rfl, rfl⟩) | (go_at_call 33; refine (inside_any _ _ _ _).mono ?_; rintro e w' ⟨rfl, rfl⟩))
        go_ret2
        rw [HX.out, HR.out]
        exact cr_nil (by repeat (first | (with_reducible exact Below.refl _ _) | (with_reducible refine below_ov ?_ ?_) | (with_reducible refine Below.setCell ?_ ?_ _) | (with_reducible refine Below.alloc ?_ ?_ _) | (with_reducible refine Below.drew ?_) | (with_reducible refine below_drewN ?_ _) | (refine Below.trans ?_ (Below.mono ‹Below _ _ _› (by first | omega | (simp; done) | (simp; omega)))) | exact Below.refl _ _ | omega | (focus (simp; done)) | (focus (simp; omega))))
      | true =>
        obtain ⟨hc2_2l, hc2_2r⟩ := inB_iff.1 hc2_2
        have HX : Hid (dcOk c a b n m q = true) := by show _ = _; simp [dcOk, *]
        have HP : Hid (pdB c a b n = true) := by show _ = _; assumption
        have HR : Hid (dcR c a b n m q = putAll (sel c (dcP c a b n m q) n)) := by show _ = _; rw [dcR, if_pos HX.out]
        go_enter Try.func17, Try.ntmps17
        go_wp2_with fail
        refine (arePeriods_any c a b n lo hi _ _ (hv.below (B := w.heap.size) (by repeat (first | (with_reducible exact Below.refl _ _) | (with_reducible refine below_ov ?_ ?_) | (with_reducible refine Below.setCell ?_ ?_ _) | (with_reducible refine Below.alloc ?_ ?_ _) | (with_reducible refine Below.drew ?_) | (with_reducible refine below_drewN ?_ _) | (refine Below.trans ?_ (Below.mono ‹Below _ _ _› (by first | omega | (simp; done) | (simp; omega)))) | exact Below.refl _ _ | omega | (focus (simp; done)) | (focus (simp; omega)))) hhi) (by simp; omega) hf).mono ?_
        rintro e w1 ⟨rfl, hb1⟩
        have hz1 := hb1.size
        (try (simp at hz1))
        have pa1 := (hb1.cell (p := ⟨w.heap.size, 0, none⟩) (by simp; try omega))
        simp [go_sem] at pa1
        have pa2 := (hb1.cell (p := ⟨w.heap.size + 1, 0, none⟩) (by simp; try omega))
        simp [go_sem] at pa2
        have pa3 := (hb1.cell (p := ⟨w.heap.size + 1 + 1, 0, none⟩) (by simp; try omega))
        simp [go_sem] at pa3
        go_wp2_with (first | (go_at_call 32; refine (isMinute_any _ _).mono ?_; rintro e w' ⟨rfl, rfl⟩) | (go_at_call 33; refine (inside_any _ _ _ _).mono ?_; rintro e w' ⟨rfl, rfl⟩))
        refine (withDueCrews_any c a b n m q lo hi _ w.heap.size (w.heap.size + 1) (w.heap.size + 1 + 1) _ (hv.below (B := w.heap.size) (by repeat (first | (with_reducible exact Below.refl _ _) | (with_reducible refine below_ov ?_ ?_) | (with_reducible refine Below.setCell ?_ ?_ _) | (with_reducible refine Below.alloc ?_ ?_ _) | (with_reducible refine Below.drew ?_) | (with_reducible refine below_drewN ?_ _) | (refine Below.trans ?_ (Below.mono ‹Below _ _ _› (by first | omega | (simp; done) | (simp; omega)))) | exact Below.refl _ _ | omega | (focus (simp; done)) | (focus (simp; omega)))) hhi) (by omega) hn HP.out (by omega) (by omega) pa1 pa2 pa3 (by first | omega | (simp; done) | (simp; omega)) (by first | omega | (simp; done) | (simp; omega)) (by first | omega | (simp; done) | (simp; omega))).mono ?_
        rintro e w2 ⟨v2, rfl, ho2, hb2⟩
        have hz2 := hb2.size
        go_wp2_with fail
        go_ret2
        rw [HX.out, HR.out]
        exact ⟨_, rfl, ho2.mono (by omega), (by repeat (first | (with_reducible exact Below.refl _ _) | (with_reducible refine below_ov ?_ ?_) | (with_reducible refine Below.setCell ?_ ?_ _) | (with_reducible refine Below.alloc ?_ ?_ _) | (with_reducible refine Below.drew ?_) | (with_reducible refine below_drewN ?_ _) | (refine Below.trans ?_ (Below.mono ‹Below _ _ _› (by first | omega | (simp; done) | (simp; omega)))) | exact Below.refl _ _ | omega | (focus (simp; done)) | (focus (simp; omega))))⟩
theorem DueCrews_impl (c : Nat → ByteArray) (a b : Nat → Int) (n : Nat) (m q : Int) (lo hi : Nat) (v : Value) (w : World) (hv : Sl w lo hi 3 v n (siiC c a b)) (hhi : hi ≤ w.heap.size) (hf : pfits c n) :
    Calls Try.prog 17 #[v, .int .i64 m, .int .i64 q] w fun e w' => ∃ v', e = .returned (.tuple #[v', .bool (dcOk c a b n m q)]) ∧ Own w' w.heap.size w'.heap.size 9 1 v' (dcN c a b n m q) (dcN c a b n m q) (sC (dcS c a b n m q)) ∧ Below w.heap.size w w' :=
  (DueCrews_implR c a b n m q lo hi v w hv hhi hf).mono fun _ _ h => h.own

end Go.Proofs.Ythchfnkljmoenaa
