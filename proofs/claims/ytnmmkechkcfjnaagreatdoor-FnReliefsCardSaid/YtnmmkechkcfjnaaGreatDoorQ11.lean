/-
  Texts of this proof, one behind the other (part 11).
-/
import Derived.Test.YtnmmkechkcfjnaaGreatDoorQ10
/-
  Walks for FnReliefs: the law's comparison of periods.-/
namespace Go.Proofs.YtnmmkechkcfjnaaGreatDoor
set_option linter.unusedVariables false
set_option linter.unusedSimpArgs false
open Go.RowKit

set_option maxRecDepth 100000 in
set_option maxHeartbeats 1600000 in
theorem pSamePeriods_same (F : Nat → ByteArray) (f g : Nat → Int) (N lo hi lo' hi' : Nat) (v u : Value) (w : World) (hv : Sl w lo hi 3 v N (siiC F f g)) (hu : Sl w lo' hi' 3 u N (siiC F f g)) (hhi : hi ≤ w.heap.size) (hhi' : hi' ≤ w.heap.size) (hN : N ≤ 4611686018427387904) :
    Calls Tryz.prog 10 #[v, u] w fun e w' => e = .returned (.bool true) ∧ Below w.heap.size w w' := by
  obtain ⟨A, cap, rfl, hcap, hA⟩ := hv.open_
  obtain ⟨A', cap', rfl, hcap', hA'⟩ := hu.open_
  clear hv hu
  go_enter Tryz.func10, Tryz.ntmps10
  go_wp2_with fail
  go_loopw [13] (fun i wr => ∃ k : Nat, k ≤ N ∧ i = .int .i64 k ∧ Below w.heap.size w wr) (fun i _ => N - (intOf i).toNat)
  case atStart => exact ⟨0, by omega, rfl, Below.refl _ _⟩
  case round =>
    obtain ⟨k, hk, rfl, hb⟩ := hrel
    have hzr := hb.size
    by_cases hkn : k < N
    · obtain ⟨blk, off, rfl, h1, h2, h3⟩ := (hA.below hb (by omega)) (by omega)
      obtain ⟨blk', off', rfl, h1', h2', h3'⟩ := (hA'.below hb (by omega)) (by omega)
      have c0 : wr.cell? ⟨blk, off + k * 3 , none⟩ = some (.string (F k)) := by simpa [siiC] using h3 k 0 hkn (by omega)
      have c1 : wr.cell? ⟨blk, off + k * 3 + 1, none⟩ = some (.int .i64 (f k)) := by simpa [siiC] using h3 k 1 hkn (by omega)
      have c2 : wr.cell? ⟨blk, off + k * 3 + 2, none⟩ = some (.int .i64 (g k)) := by simpa [siiC] using h3 k 2 hkn (by omega)
      have c0' : wr.cell? ⟨blk', off' + k * 3 , none⟩ = some (.string (F k)) := by simpa [siiC] using h3' k 0 hkn (by omega)
      have c1' : wr.cell? ⟨blk', off' + k * 3 + 1, none⟩ = some (.int .i64 (f k)) := by simpa [siiC] using h3' k 1 hkn (by omega)
      have c2' : wr.cell? ⟨blk', off' + k * 3 + 2, none⟩ = some (.int .i64 (g k)) := by simpa [siiC] using h3' k 2 hkn (by omega)
      clear h3 h3' hA hA'
      have l3 : blk < wr.heap.size := by omega
      have l4 : blk' < wr.heap.size := by omega
      go_wp2_with fail
      (refine wp_region_below_lit (by kernel_rfl) (by kernel_rfl) ?_; (repeat (first | go_big_quiet_step (fail) | quiet_step (fail))); refine wpQuiet_nil ?_; intro w2 hb2; have hz2 := hb2.size; (try (simp at hz2)); obtain ⟨hcw2, hfw2⟩ := bcell hb2; (try (have hy2 : w.heap.size < w2.heap.size := by omega)); (try (have hyy2 : w.heap.size + 1 < w2.heap.size := by omega)))
      go_wp2
      go_roundw
      case rel => exact ⟨k + 1, by omega, by go_num, (by repeat (first | (with_reducible exact Below.refl _ _) | (with_reducible refine below_ov ?_ ?_) | (with_reducible refine Below.setCell ?_ ?_ _) | (with_reducible refine Below.alloc ?_ ?_ _) | (with_reducible refine Below.drew ?_) | (with_reducible refine below_drewN ?_ _) | (refine Below.trans ?_ (Below.mono ‹Below _ _ _› (by first | omega | (simp; done) | (simp; omega)))) | exact Below.refl _ _ | omega | (focus (simp; done)) | (focus (simp; omega))))⟩
      case measure => simp [intOf]; omega
    · obtain rfl : k = N := by omega
      go_wp2_with fail
      go_ret
      exact ⟨rfl, hb⟩

end Go.Proofs.YtnmmkechkcfjnaaGreatDoor

/-
  Walks: what the reference draws for FnReliefs (printed by gen_drwp4.py). Whatever it is.-/
namespace Go.Proofs.YtnmmkechkcfjnaaGreatDoor
set_option linter.unusedVariables false
set_option linter.unusedSimpArgs false
open Go.RowKit

/-- What DrawCrewsAt hands back. -/
def CrewsAtPost (w : World) (e : Ending) (w' : World) : Prop := ∃ (u : Value) (n : Nat) (c : Nat → ByteArray) (a b : Nat → Int) (x0 : Int), e = .returned (.tuple #[u, .int .i64 x0]) ∧ n ≤ 13 ∧ (∀ i, i < n → (c i).size ≤ 7) ∧ Sl w' w.heap.size w'.heap.size 3 u n (siiC c a b) ∧ Below w.heap.size w w'
set_option maxRecDepth 100000 in
set_option maxHeartbeats 3200000 in
theorem DrawCrewsAt_any (v : Value) (w : World) (h : Code w v) : Calls Tryz.prog 22 #[v] w (CrewsAtPost w) := by
  obtain ⟨A, n, cap, rfl⟩ := h.form
  have C0 : Cu (w.alloc (.cells #[.slice A n cap, .int .i64 0, .int .u64 0] 55)) (w.heap.size) 0 := by
    have := Cu.start h 55
    simpa using this
  have O0 : Only (w.heap.size) (w.heap.size + 1) w (w.alloc (.cells #[.slice A n cap, .int .i64 0, .int .u64 0] 55)) := (Only.refl _ _ w).alloc _
  go_enter Tryz.func22, Tryz.ntmps22
  go_wp2_with fail
  refine (periods_any _ _ _ C0 (by omega)).mono ?_
  rintro e w1 ⟨u, n1, c, a, b, rfl, hn1, hc1, hs1, C1, o1⟩
  have hs2 := hs1.mono (show w.heap.size + 1 ≤ _ by simp) (Nat.le_refl _)
  have S1 := hide hs2
  have hz1 : w.heap.size + 1 ≤ w1.heap.size := by have := o1.size; simp at this; omega
  have O1 := O0.trans o1
  have HC := hide hc1
  obtain ⟨A1, c1, rfl, _, _⟩ := id hs2.open_
  clear C0 O0 o1 hs1 hs2 hc1
  go_wp2_with fail
  refine (reliefMinute_any _ _ _ C1 (by omega)).mono ?_
  rintro e w2 ⟨x0, rfl, C2, o2⟩
  have S2 := hide ((slO S1.out o2 (by omega) (Nat.le_refl _)).mono (Nat.le_refl _) o2.size)
  have hz2 : w.heap.size + 1 ≤ w2.heap.size := by have := o2.size; omega
  have O2 := O1.trans o2
  clear S1 O1 o2 C1
  have hb : Below w.heap.size w w2 := O2.below (Nat.le_refl _) (Nat.le_refl _)
  have SF := hide (S2.out.mono (show w.heap.size ≤ w.heap.size + 1 by omega) (Nat.le_refl _))
  clear O2 S2 C2
  go_wp2_with fail
  exact bodyPost_ret (v := .tuple #[.slice A1 n1 c1, .int .i64 x0]) (by simp [results, Tryz.results22, go_sem, *]) rfl ⟨_, _, _, _, _, _, rfl, hn1, HC.out, SF.out, hb⟩
/-- A drawn list of periods alone. -/
def PerPost (w : World) (e : Ending) (w' : World) : Prop := ∃ (u : Value) (n : Nat) (c : Nat → ByteArray) (a b : Nat → Int), e = .returned u ∧ n ≤ 13 ∧ (∀ i, i < n → (c i).size ≤ 7) ∧ Sl w' w.heap.size w'.heap.size 3 u n (siiC c a b) ∧ Below w.heap.size w w'
set_option maxRecDepth 100000 in
set_option maxHeartbeats 1600000 in
theorem DrawArePeriods_any (v : Value) (w : World) (h : Code w v) : Calls Tryz.prog 60 #[v] w (PerPost w) := by
  obtain ⟨A, n, cap, rfl⟩ := h.form
  have C0 : Cu (w.alloc (.cells #[.slice A n cap, .int .i64 0, .int .u64 0] 55)) (w.heap.size) 0 := by
    have := Cu.start h 55
    simpa using this
  have O0 : Only (w.heap.size) (w.heap.size + 1) w (w.alloc (.cells #[.slice A n cap, .int .i64 0, .int .u64 0] 55)) := (Only.refl _ _ w).alloc _
  go_enter Tryz.func60, Tryz.ntmps60
  go_wp2_with fail
  refine (periods_any _ _ _ C0 (by omega)).mono ?_
  rintro e w1 ⟨u, n1, c, a, b, rfl, hn1, hc1, hs1, C1, o1⟩
  have SF := hide (hs1.mono (show w.heap.size ≤ _ by simp) (Nat.le_refl _))
  have O1 := O0.trans o1
  have hb : Below w.heap.size w w1 := O1.below (Nat.le_refl _) (Nat.le_refl _)
  have HC := hide hc1
  clear C0 O0 o1 hs1 hc1 C1 O1
  go_wp2_with fail
  go_ret
  exact ⟨_, _, _, _, _, rfl, hn1, HC.out, SF.out, hb⟩
set_option maxRecDepth 100000 in
set_option maxHeartbeats 1600000 in
theorem DrawPeriodsText_any (v : Value) (w : World) (h : Code w v) : Calls Tryz.prog 23 #[v] w (PerPost w) := by
  go_enter Tryz.func23, Tryz.ntmps23
  go_wp2_with fail
  refine (DrawArePeriods_any v _ h).mono ?_
  rintro e w1 ⟨u, n1, c, a, b, rfl, hn1, hc1, hs1, hb⟩
  have SF := hide hs1
  have HC := hide hc1
  clear hs1 hc1
  go_wp2_with fail
  go_ret
  exact ⟨_, _, _, _, _, rfl, hn1, HC.out, SF.out, hb⟩
/-- What DrawAddPeriod hands back. -/
def AddPost (w : World) (e : Ending) (w' : World) : Prop := ∃ (u : Value) (n : Nat) (c : Nat → ByteArray) (a b : Nat → Int) (s : ByteArray) (x y : Int), e = .returned (.tuple #[u, .agg #[.string s, .int .i64 x, .int .i64 y]]) ∧ n ≤ 13 ∧ (∀ i, i < n → (c i).size ≤ 7) ∧ s.size ≤ 7 ∧ Sl w' w.heap.size w'.heap.size 3 u n (siiC c a b) ∧ Below w.heap.size w w'
set_option maxRecDepth 100000 in
set_option maxHeartbeats 3200000 in
theorem DrawAddPeriod_any (v : Value) (w : World) (h : Code w v) : Calls Tryz.prog 13 #[v] w (AddPost w) := by
  obtain ⟨A, n, cap, rfl⟩ := h.form
  have C0 : Cu ((w.alloc (.cells #[.string ⟨#[]⟩, .int .i64 0, .int .i64 0] 38)).alloc (.cells #[.slice A n cap, .int .i64 0, .int .u64 0] 55)) (w.heap.size + 1) 0 := by
    have := Cu.start (h.below ((Below.refl _ _).alloc (Nat.le_refl _) (.cells #[.string ⟨#[]⟩, .int .i64 0, .int .i64 0] 38)) (Nat.le_refl _)) 55
    simpa using this
  have R0 := hide ((BxP.new w ⟨#[]⟩ 0 0 38).alloc (.cells #[.slice A n cap, .int .i64 0, .int .u64 0] 55))
  have O0 : Only (w.heap.size + 1) (w.heap.size + 1 + 1) w ((w.alloc (.cells #[.string ⟨#[]⟩, .int .i64 0, .int .i64 0] 38)).alloc (.cells #[.slice A n cap, .int .i64 0, .int .u64 0] 55)) := ((Only.refl _ _ w).alloc _).alloc _
  go_enter Tryz.func13, Tryz.ntmps13
  go_wp2_with fail
  refine (periods_any _ _ _ C0 (by omega)).mono ?_
  rintro e w1 ⟨u, n1, c, a, b, rfl, hn1, hc1, hs1, C1, o1⟩
  have hs2 := hs1.mono (show w.heap.size + 1 + 1 ≤ _ by simp) (Nat.le_refl _)
  have S1 := hide hs2
  have hz1 : w.heap.size + 1 + 1 ≤ w1.heap.size := by have := o1.size; simp at this; omega
  have O1 := O0.trans o1
  have R1 := hide (R0.out.only o1 (by omega))
  have HC := hide hc1
  obtain ⟨A1, c1, rfl, _, _⟩ := id hs2.open_
  clear C0 O0 R0 o1 hs1 hs2 hc1
  go_wp2_with fail
  refine (period_any _ _ _ C1 (by omega)).mono ?_
  rintro e w2 ⟨s, x, y, rfl, hs, C2, o2⟩
  have S2 := hide ((slO S1.out o2 (by omega) (Nat.le_refl _)).mono (Nat.le_refl _) o2.size)
  have R2 := hide (R1.out.only o2 (by omega))
  have O2 := O1.trans o2
  have hz2 : w.heap.size + 1 + 1 ≤ w2.heap.size := by have := o2.size; omega
  clear S1 R1 O1 o2 C1 C2
  obtain ⟨r0, r1, r2, rf, rl⟩ := R2.out
  have hb2 : Below w.heap.size w w2 := O2.below (by omega) (Nat.le_refl _)
  obtain ⟨W3, hW3⟩ : ∃ W, W = ((w2.setCell ⟨w.heap.size, 0, none⟩ (.string s)).setCell ⟨w.heap.size, 1, none⟩ (.int .i64 x)).setCell ⟨w.heap.size, 2, none⟩ (.int .i64 y) := ⟨_, rfl⟩
  have hzz : W3.heap.size = w2.heap.size := by rw [hW3]; simp [World.setCell]
  have SF : Hid (Sl W3 w.heap.size W3.heap.size 3 (.slice A1 n1 c1) n1 (siiC c a b)) := by
    show Sl _ _ _ _ _ _ _
    rw [hzz]
    refine Sl.mono (S2.out.keep fun q h1 h2 => ?_) (by omega) (Nat.le_refl _)
    rw [hW3, Deep.blk_setCell_other _ _ _ _ (by show q ≠ w.heap.size; omega), Deep.blk_setCell_other _ _ _ _ (by show q ≠ w.heap.size; omega), Deep.blk_setCell_other _ _ _ _ (by show q ≠ w.heap.size; omega)]
  have hbF : Hid (Below w.heap.size w W3) := by
    show Below _ _ _
    rw [hW3]
    exact ((hb2.setCell (by show w.heap.size ≤ w.heap.size; omega) _).setCell (by show w.heap.size ≤ w.heap.size; omega) _).setCell (by show w.heap.size ≤ w.heap.size; omega) _
  rw [hW3] at SF hbF
  clear S2 R2 O2 hW3 hzz hb2
  go_wp2_with fail
  exact bodyPost_ret (v := .tuple #[.slice A1 n1 c1, .agg #[.string s, .int .i64 x, .int .i64 y]]) (by simp [results, Tryz.results13, go_sem, *]) rfl ⟨_, _, _, _, _, _, _, _, rfl, hn1, HC.out, hs, SF.out, hbF.out⟩

end Go.Proofs.YtnmmkechkcfjnaaGreatDoor

/-
  Walks: the reference's draw of a plan of reliefs (printed by gen_drwp5.py). Whatever it is.-/
namespace Go.Proofs.YtnmmkechkcfjnaaGreatDoor
set_option linter.unusedVariables false
set_option linter.unusedSimpArgs false
open Go.RowKit

theorem infoStr5 : (Tryz.prog.info? 9).map (fun i => (i.zero, i.size, i.bytes)) = some (some (.string ⟨#[]⟩), 1, 16) := by kernel_rfl
theorem rowS_one (F : Nat → ByteArray) (k : Nat) (s : ByteArray) : rowL (sC F) 1 k ++ [.string s] = rowL (sC (fun i => if i < k then F i else s)) 1 (k + 1) := by
  rw [rowL]
  congr 1
  · refine rowL_congr fun i j hi _ => ?_
    simp [sC, hi]
  · simp [List.range, List.range.loop, sC]
theorem row_fr {w : World} {lo n E sz cap lb lf : Nat} {xs : List Value} (h : w.ownsRow lo E sz (.slice (some ⟨lb, lf, none⟩) n cap) n xs) : ∀ o, w.frozen? ⟨lb, o, none⟩ = false := by
  rcases h.2 with ⟨h0, _⟩ | ⟨q, cp, cur, h0, _, hh, _⟩
  · cases h0
  · cases h0
    intro o
    simp [World.frozen?, hh]
set_option maxRecDepth 100000 in
set_option maxHeartbeats 3200000 in
theorem DrawLeastCrews_any (v : Value) (w : World) (h : Code w v) :
    Calls Tryz.prog 26 #[v] w fun e w' => (∃ p q r t : Int, e = .returned (.tuple #[.int .i64 p, .int .i64 q, .int .i64 r, .int .i64 t])) ∧ Below w.heap.size w w' := by
  obtain ⟨A, n, cap, rfl⟩ := h.form
  have C0 : Cu (w.alloc (.cells #[.slice A n cap, .int .i64 0, .int .u64 0] 55)) (w.heap.size) 0 := by
    have := Cu.start h 55
    simpa using this
  have O0 : Only (w.heap.size) (w.heap.size + 1) w (w.alloc (.cells #[.slice A n cap, .int .i64 0, .int .u64 0] 55)) := (Only.refl _ _ w).alloc _
  go_enter Tryz.func26, Tryz.ntmps26
  go_wp2_with fail
  refine (reliefMinute_any _ _ _ C0 (by omega)).mono ?_
  rintro e w1 ⟨v1, rfl, C1, o1⟩
  have O1 := O0.trans o1
  clear C0 O0 o1
  go_wp2_with fail
  refine (reliefMinute_any _ _ _ C1 (by omega)).mono ?_
  rintro e w2 ⟨v2, rfl, C2, o2⟩
  have O2 := O1.trans o2
  clear C1 O1 o2
  go_wp2_with fail
  refine (l1Most_any _ _ _).mono ?_
  rintro e w3 ⟨rfl, rfl⟩
  go_wp2_with fail
  refine (l1Least_any _ _ _).mono ?_
  rintro e w3 ⟨rfl, rfl⟩
  go_wp2_with fail
  refine (l1Most_any _ _ _).mono ?_
  rintro e w3 ⟨rfl, rfl⟩
  go_wp2_with fail
  refine (l1Least_any _ _ _).mono ?_
  rintro e w3 ⟨rfl, rfl⟩
  go_wp2_with fail
  refine (among_new _ _ _ _ _ _ _ C2 (by first | (with_reducible rfl) | simp) (by omega) (by rfl) (by decide) (by decide) (by simp [isI])).mono ?_
  rintro e w3 ⟨v3, rfl, _, C3, o3⟩
  have O3 := O2.trans o3
  clear C2 O2 o3
  go_wp2_with fail
  refine (mostMinutes_any _ _ _ C3 (by omega)).mono ?_
  rintro e w4 ⟨v4, rfl, C4, o4⟩
  have O4 := O3.trans o4
  clear C3 O3 o4
  go_wp2_with fail
  refine (leastMinutes_any _ _ _ C4 (by omega)).mono ?_
  rintro e w5 ⟨v5, rfl, C5, o5⟩
  have O5 := O4.trans o5
  have hb : Below w.heap.size w w5 := O5.below (Nat.le_refl _) (Nat.le_refl _)
  clear C4 O4 o5 C5 O5
  go_wp2_with fail
  exact bodyPost_ret (v := .tuple #[.int .i64 v1, .int .i64 v3, .int .i64 v4, .int .i64 v5]) (by simp [results, Tryz.results26, go_sem, *]) rfl ⟨⟨_, _, _, _, rfl⟩, hb⟩
/-- What DrawReliefPlan hands back. -/
def RpPost (w : World) (e : Ending) (w' : World) : Prop := ∃ (u : Value) (n : Nat) (c : Nat → ByteArray) (p q r t : Int), e = .returned (.tuple #[u, .int .i64 p, .int .i64 q, .int .i64 r, .int .i64 t]) ∧ n ≤ 9 ∧ (∀ i, i < n → (c i).size ≤ 7) ∧ Sl w' w.heap.size w'.heap.size 1 u n (sC c) ∧ Below w.heap.size w w'
set_option maxRecDepth 100000 in
set_option maxHeartbeats 6400000 in
theorem DrawReliefPlan_any (v : Value) (w : World) (h : Code w v) : Calls Tryz.prog 5 #[v] w (RpPost w) := by
  obtain ⟨i0, hi0, iz0, iz1, iz2⟩ := info_parts infoStr5
  obtain ⟨A, n, cap, rfl⟩ := h.form
  have C0 : Cu (w.alloc (.cells #[.slice A n cap, .int .i64 0, .int .u64 0] 55)) (w.heap.size) 0 := by
    have := Cu.start h 55
    simpa using this
  have O0 : Only (w.heap.size) (w.heap.size + 1) w (w.alloc (.cells #[.slice A n cap, .int .i64 0, .int .u64 0] 55)) := (Only.refl _ _ w).alloc _
  have H0 := h.below ((Below.refl _ _).alloc (Nat.le_refl _) (.cells #[.slice A n cap, .int .i64 0, .int .u64 0] 55)) (Nat.le_refl _)
  go_enter Tryz.func5, Tryz.ntmps5
  go_wp2_with fail
  refine (DrawLeastCrews_any _ _ H0).mono ?_
  rintro e w1 ⟨⟨p, q, r, t, rfl⟩, hb1⟩
  have C1 := C0.below hb1 (Nat.le_refl _)
  have O1 := O0.then_below hb1
  clear C0 O0 hb1 H0
  go_wp2_with fail
  refine (pick_any _ _ _ _ C1 (by omega)).mono ?_
  rintro e w2 ⟨v2, rfl, hv2, C2, o2⟩
  have O2 := O1.trans o2
  clear C1 O1 o2
  obtain ⟨nn, hn⟩ : ∃ z, IntKind.i64.wrap (1 + v2) = z := ⟨_, rfl⟩
  have hnn : nn ≤ 9 := by rw [← hn, IntWalk.i64_in _ (by omega)]; omega
  clear hv2
  go_wp2_with fail
  refine (one_any _ _ _ _ C2 (by omega)).mono ?_
  rintro e w3 ⟨b3, rfl, C3, o3⟩
  have O3 := O2.trans o3
  clear C2 O2 o3 hn
  cases b3 with
  | false =>
    have hzl : w.heap.size + 1 ≤ w3.heap.size := by have := C3.lt; omega
    go_wp2_with fail
    go_loopg [12] 20 (fun gn lv wr => ∃ (j : Nat) (A : Option Addr) (cp : Nat) (F : Nat → ByteArray), (j : Int) ≤ max nn 0 ∧ j ≤ 9 ∧ 9 - j < gn ∧ lv = .slice A j cp ∧ Hid (wr.ownsRow (w.heap.size + 1) 9 1 (.slice A j cp) j (rowL (sC F) 1 j)) ∧ Hid (∀ i, i < j → (F i).size ≤ 7) ∧ Cu wr (w.heap.size) 100 ∧ Only (w.heap.size) (w.heap.size + 1) w wr)
    case atStart => exact ⟨0, none, 0, fun _ => ⟨#[]⟩, by omega, by omega, by omega, rfl, World.ownsRow_nil _ _ _ _, (fun i hi => absurd hi (Nat.not_lt_zero _)), C3.more (by omega), O3⟩
    case round =>
      clear C3 O3
      obtain ⟨j, A2, cp, F, hjn, hj9, hgn, rfl, hown, hF, Cr, Or⟩ := hrel
      have hzr : w.heap.size + 1 ≤ wr.heap.size := by have := Cr.lt; omega
      by_cases hlt : (j : Int) < nn
      · have hj8 : j < 9 := by omega
        obtain ⟨s1, hs1⟩ : ∃ z, ({ data := #[97, 98, 99, 100, 101, 102, 103, 104, 105] } : ByteArray).extract j (j + 1) = z := ⟨_, rfl⟩
        have hz1 : s1.size ≤ 7 := by rw [← hs1, ByteArray.size_extract]; omega
        have z1 : IntKind.i64.wrap ((j : Int) + 1) = (j : Int) + 1 := IntWalk.i64_in _ (by omega)
        have z2 : ((j : Int) + 1).toNat = j + 1 := by omega
        go_wp2_with (at_builtin; refine wpList_append_own _ rfl _ _ 24 rfl (w.heap.size + 1) 9 i0 (.string ⟨#[]⟩) 1 16 Tryz.underlying24 hi0 iz0 iz1 iz2 rfl (by decide) _ _ _ rfl (hown.out.alloc _) ⟨wr.heap.size, 0, none⟩ 1 1 [.string s1] rfl rfl ?_ ?_ ?_ ?_ ?_ ?_)
        · intro i u hu
          match i, hu with
          | 0, hu => simp at hu; subst hu; simp [go_sem, Addr.add]
        · intro u hu
          simp at hu
          subst hu
          rfl
        · unfold maxLen; omega
        · omega
        · simp; omega
        intro v' w4 hown4 hg4 _
        have O4 : Only (w.heap.size) (w.heap.size + 1) w w4 := grownO (Or.alloc _) hg4 (fun q hq => by have := (hown.out.lt q hq).1; omega)
        have C4 : Cu w4 (w.heap.size) 100 := grownC (Cr.alloc _) hg4 (fun q hq => by have := (hown.out.lt q hq).1; omega)
        rw [rowS_one] at hown4
        obtain ⟨A4, c4, rfl⟩ := row_form hown4
        have HR4 := hide hown4
        have hF4 : Hid (∀ i, i < j + 1 → (if i < j then F i else s1).size ≤ 7) := fun i hi => by
          split
          · exact hF.out i (by assumption)
          · exact hz1
        clear hown Cr Or hown4 hg4 hs1 hF z1 z2
        go_wp2_with fail
        go_roundg (9 - j)
        case measure => omega
        case rel => exact ⟨j + 1, A4, c4, _, by omega, by omega, by omega, rfl, HR4, hF4, C4, O4⟩
      · clear hgn
        by_cases hn1 : 1 < nn
        · have hj1 : 1 < j := by omega
          go_wp2_with fail
          refine (one_any _ _ _ _ Cr (by omega)).mono ?_
          rintro e w5 ⟨b5, rfl, C5, o5⟩
          have hown5 := hide (rowO hown.out o5 (by omega))
          have O5 := Or.trans o5
          clear hown Cr Or o5
          cases b5 with
          | false =>
            have HS := hide ((own_row hown5.out).sl.mono (show w.heap.size ≤ w.heap.size + 1 by omega) (Nat.le_refl _))
            clear hown5
            have hb : Below w.heap.size w w5 := O5.below (Nat.le_refl _) (Nat.le_refl _)
            have HB := hide hb
            clear O5 C5 hb
            go_wp2_with fail
            exact bodyPost_ret (v := .tuple #[.slice A2 j cp, .int .i64 p, .int .i64 q, .int .i64 r, .int .i64 t]) (by simp [results, Tryz.results5, go_sem, *]) rfl ⟨_, _, F, _, _, _, _, rfl, by omega, hF.out, HS.out, HB.out⟩
          | true =>
            go_wp2_with fail
            refine (of_new _ _ _ _ _ _ _ C5 (by first | (with_reducible rfl) | simp) (by omega) (by rfl) (by decide) (by decide) (by simp [isS])).mono ?_
            rintro e w6 ⟨s6, rfl, hM6, C6, o6⟩
            have hs6 : s6.size ≤ 7 := small_of hM6 (by simp [isSm]; try decide)
            clear hM6
            have hown6 := hide (rowO hown5.out o6 (by omega))
            have O6 := O5.trans o6
            clear hown5 C5 O5 o6
            have hsl := (own_row hown6.out).sl
            obtain ⟨A7, c7, e7, hc7, hA7⟩ := Sl.open_ hsl
            injection e7 with e71 e72 e73
            subst e71 e73
            obtain ⟨lb, lf, rfl, hl1, hl2, hl3⟩ := hA7 (by omega)
            have hfz := row_fr hown6.out
            have q0 : w6.cell? ⟨lb, lf, none⟩ = some (.string (F 0)) := by simpa [sC] using hl3 0 0 (by omega) (by omega)
            have HSF : Hid (Sl (w6.setCell ⟨lb, lf, none⟩ (.string s6)) w.heap.size (w6.setCell ⟨lb, lf, none⟩ (.string s6)).heap.size 1 (.slice (some ⟨lb, lf, none⟩) j cp) j (sC (fun i => if i = 0 then s6 else F i))) := by
              refine ⟨_, _, rfl, hc7, fun _ => ⟨lb, lf, rfl, by omega, by simp [World.setCell]; exact hl2, fun i l hi hl => ?_⟩⟩
              obtain rfl : l = 0 := by omega
              have h3 := hl3 i 0 hi (by omega)
              rcases Nat.eq_zero_or_pos i with h0 | h0
              · subst h0
                simp [sC, go_sem, q0]
              · have hi0 : ¬ i = 0 := by omega
                simp only [Nat.mul_one, Nat.add_zero, sC, if_neg hi0] at h3 ⊢
                have hne : lf ≠ lf + i := by omega
                simp [go_sem, h3, hne, q0]
            have hF7 : Hid (∀ i, i < j → (if i = 0 then s6 else F i).size ≤ 7) := fun i hi => by
              split
              · exact hs6
              · exact hF.out i hi
            have O7 : Only (w.heap.size) (w.heap.size + 1) w (w6.setCell ⟨lb, lf, none⟩ (.string s6)) := O6.setNew (a := ⟨lb, lf, none⟩) (by show w.heap.size ≤ lb; omega) _
            have hb : Below w.heap.size w (w6.setCell ⟨lb, lf, none⟩ (.string s6)) := O7.below (Nat.le_refl _) (Nat.le_refl _)
            have HB := hide hb
            have hf0 := hfz
            clear O7 O6 hb C6 hown6 hsl hA7 hl3 hF
            go_wp2_with fail
            exact bodyPost_ret (v := .tuple #[.slice (some ⟨lb, lf, none⟩) j cp, .int .i64 p, .int .i64 q, .int .i64 r, .int .i64 t]) (by simp [results, Tryz.results5, go_sem, *]) rfl ⟨_, _, _, _, _, _, _, rfl, by omega, hF7.out, HSF.out, HB.out⟩
        · have HS := hide ((own_row hown.out).sl.mono (show w.heap.size ≤ w.heap.size + 1 by omega) (Nat.le_refl _))
          clear hown
          have hb : Below w.heap.size w wr := Or.below (Nat.le_refl _) (Nat.le_refl _)
          have HB := hide hb
          clear Or Cr hb
          go_wp2_with fail
          exact bodyPost_ret (v := .tuple #[.slice A2 j cp, .int .i64 p, .int .i64 q, .int .i64 r, .int .i64 t]) (by simp [results, Tryz.results5, go_sem, *]) rfl ⟨_, _, F, _, _, _, _, rfl, by omega, hF.out, HS.out, HB.out⟩
  | true =>
    clear hnn
    go_wp2_with fail
    refine (among_new _ _ _ _ _ _ _ C3 (by first | (with_reducible rfl) | simp) (by omega) (by rfl) (by decide) (by decide) (by simp [isI])).mono ?_
    rintro e w4 ⟨nn, rfl, hM4, C4, o4⟩
    have hnn : nn ≤ 9 := by simp at hM4; omega
    have O4 := O3.trans o4
    clear C3 O3 o4 hM4
    have hzl : w.heap.size + 1 ≤ w4.heap.size := by have := C4.lt; omega
    go_wp2_with fail
    go_loopg [12] 20 (fun gn lv wr => ∃ (j : Nat) (A : Option Addr) (cp : Nat) (F : Nat → ByteArray), (j : Int) ≤ max nn 0 ∧ j ≤ 9 ∧ 9 - j < gn ∧ lv = .slice A j cp ∧ Hid (wr.ownsRow (w.heap.size + 1) 9 1 (.slice A j cp) j (rowL (sC F) 1 j)) ∧ Hid (∀ i, i < j → (F i).size ≤ 7) ∧ Cu wr (w.heap.size) 100 ∧ Only (w.heap.size) (w.heap.size + 1) w wr)
    case atStart => exact ⟨0, none, 0, fun _ => ⟨#[]⟩, by omega, by omega, by omega, rfl, World.ownsRow_nil _ _ _ _, (fun i hi => absurd hi (Nat.not_lt_zero _)), C4.more (by omega), O4⟩
    case round =>
      clear C4 O4
      obtain ⟨j, A2, cp, F, hjn, hj9, hgn, rfl, hown, hF, Cr, Or⟩ := hrel
      have hzr : w.heap.size + 1 ≤ wr.heap.size := by have := Cr.lt; omega
      by_cases hlt : (j : Int) < nn
      · have hj8 : j < 9 := by omega
        obtain ⟨s1, hs1⟩ : ∃ z, ({ data := #[97, 98, 99, 100, 101, 102, 103, 104, 105] } : ByteArray).extract j (j + 1) = z := ⟨_, rfl⟩
        have hz1 : s1.size ≤ 7 := by rw [← hs1, ByteArray.size_extract]; omega
        have z1 : IntKind.i64.wrap ((j : Int) + 1) = (j : Int) + 1 := IntWalk.i64_in _ (by omega)
        have z2 : ((j : Int) + 1).toNat = j + 1 := by omega
        go_wp2_with (at_builtin; refine wpList_append_own _ rfl _ _ 24 rfl (w.heap.size + 1) 9 i0 (.string ⟨#[]⟩) 1 16 Tryz.underlying24 hi0 iz0 iz1 iz2 rfl (by decide) _ _ _ rfl (hown.out.alloc _) ⟨wr.heap.size, 0, none⟩ 1 1 [.string s1] rfl rfl ?_ ?_ ?_ ?_ ?_ ?_)
        · intro i u hu
          match i, hu with
          | 0, hu => simp at hu; subst hu; simp [go_sem, Addr.add]
        · intro u hu
          simp at hu
          subst hu
          rfl
        · unfold maxLen; omega
        · omega
        · simp; omega
        intro v' w4 hown4 hg4 _
        have O4 : Only (w.heap.size) (w.heap.size + 1) w w4 := grownO (Or.alloc _) hg4 (fun q hq => by have := (hown.out.lt q hq).1; omega)
        have C4 : Cu w4 (w.heap.size) 100 := grownC (Cr.alloc _) hg4 (fun q hq => by have := (hown.out.lt q hq).1; omega)
        rw [rowS_one] at hown4
        obtain ⟨A4, c4, rfl⟩ := row_form hown4
        have HR4 := hide hown4
        have hF4 : Hid (∀ i, i < j + 1 → (if i < j then F i else s1).size ≤ 7) := fun i hi => by
          split
          · exact hF.out i (by assumption)
          · exact hz1
        clear hown Cr Or hown4 hg4 hs1 hF z1 z2
        go_wp2_with fail
        go_roundg (9 - j)
        case measure => omega
        case rel => exact ⟨j + 1, A4, c4, _, by omega, by omega, by omega, rfl, HR4, hF4, C4, O4⟩
      · clear hgn
        by_cases hn1 : 1 < nn
        · have hj1 : 1 < j := by omega
          go_wp2_with fail
          refine (one_any _ _ _ _ Cr (by omega)).mono ?_
          rintro e w5 ⟨b5, rfl, C5, o5⟩
          have hown5 := hide (rowO hown.out o5 (by omega))
          have O5 := Or.trans o5
          clear hown Cr Or o5
          cases b5 with
          | false =>
            have HS := hide ((own_row hown5.out).sl.mono (show w.heap.size ≤ w.heap.size + 1 by omega) (Nat.le_refl _))
            clear hown5
            have hb : Below w.heap.size w w5 := O5.below (Nat.le_refl _) (Nat.le_refl _)
            have HB := hide hb
            clear O5 C5 hb
            go_wp2_with fail
            exact bodyPost_ret (v := .tuple #[.slice A2 j cp, .int .i64 p, .int .i64 q, .int .i64 r, .int .i64 t]) (by simp [results, Tryz.results5, go_sem, *]) rfl ⟨_, _, F, _, _, _, _, rfl, by omega, hF.out, HS.out, HB.out⟩
          | true =>
            go_wp2_with fail
            refine (of_new _ _ _ _ _ _ _ C5 (by first | (with_reducible rfl) | simp) (by omega) (by rfl) (by decide) (by decide) (by simp [isS])).mono ?_
            rintro e w6 ⟨s6, rfl, hM6, C6, o6⟩
            have hs6 : s6.size ≤ 7 := small_of hM6 (by simp [isSm]; try decide)
            clear hM6
            have hown6 := hide (rowO hown5.out o6 (by omega))
            have O6 := O5.trans o6
            clear hown5 C5 O5 o6
            have hsl := (own_row hown6.out).sl
            obtain ⟨A7, c7, e7, hc7, hA7⟩ := Sl.open_ hsl
            injection e7 with e71 e72 e73
            subst e71 e73
            obtain ⟨lb, lf, rfl, hl1, hl2, hl3⟩ := hA7 (by omega)
            have hfz := row_fr hown6.out
            have q0 : w6.cell? ⟨lb, lf, none⟩ = some (.string (F 0)) := by simpa [sC] using hl3 0 0 (by omega) (by omega)
            have HSF : Hid (Sl (w6.setCell ⟨lb, lf, none⟩ (.string s6)) w.heap.size (w6.setCell ⟨lb, lf, none⟩ (.string s6)).heap.size 1 (.slice (some ⟨lb, lf, none⟩) j cp) j (sC (fun i => if i = 0 then s6 else F i))) := by
              refine ⟨_, _, rfl, hc7, fun _ => ⟨lb, lf, rfl, by omega, by simp [World.setCell]; exact hl2, fun i l hi hl => ?_⟩⟩
              obtain rfl : l = 0 := by omega
              have h3 := hl3 i 0 hi (by omega)
              rcases Nat.eq_zero_or_pos i with h0 | h0
              · subst h0
                simp [sC, go_sem, q0]
              · have hi0 : ¬ i = 0 := by omega
                simp only [Nat.mul_one, Nat.add_zero, sC, if_neg hi0] at h3 ⊢
                have hne : lf ≠ lf + i := by omega
                simp [go_sem, h3, hne, q0]
            have hF7 : Hid (∀ i, i < j → (if i = 0 then s6 else F i).size ≤ 7) := fun i hi => by
              split
              · exact hs6
              · exact hF.out i hi
            have O7 : Only (w.heap.size) (w.heap.size + 1) w (w6.setCell ⟨lb, lf, none⟩ (.string s6)) := O6.setNew (a := ⟨lb, lf, none⟩) (by show w.heap.size ≤ lb; omega) _
            have hb : Below w.heap.size w (w6.setCell ⟨lb, lf, none⟩ (.string s6)) := O7.below (Nat.le_refl _) (Nat.le_refl _)
            have HB := hide hb
            have hf0 := hfz
            clear O7 O6 hb C6 hown6 hsl hA7 hl3 hF
            go_wp2_with fail
            exact bodyPost_ret (v := .tuple #[.slice (some ⟨lb, lf, none⟩) j cp, .int .i64 p, .int .i64 q, .int .i64 r, .int .i64 t]) (by simp [results, Tryz.results5, go_sem, *]) rfl ⟨_, _, _, _, _, _, _, rfl, by omega, hF7.out, HSF.out, HB.out⟩
        · have HS := hide ((own_row hown.out).sl.mono (show w.heap.size ≤ w.heap.size + 1 by omega) (Nat.le_refl _))
          clear hown
          have hb : Below w.heap.size w wr := Or.below (Nat.le_refl _) (Nat.le_refl _)
          have HB := hide hb
          clear Or Cr hb
          go_wp2_with fail
          exact bodyPost_ret (v := .tuple #[.slice A2 j cp, .int .i64 p, .int .i64 q, .int .i64 r, .int .i64 t]) (by simp [results, Tryz.results5, go_sem, *]) rfl ⟨_, _, F, _, _, _, _, rfl, by omega, hF.out, HS.out, HB.out⟩

end Go.Proofs.YtnmmkechkcfjnaaGreatDoor
