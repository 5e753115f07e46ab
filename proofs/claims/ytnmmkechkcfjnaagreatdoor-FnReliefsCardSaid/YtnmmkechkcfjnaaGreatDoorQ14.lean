/-
  Texts of this proof, one behind the other (part 14).
-/
import Derived.Test.YtnmmkechkcfjnaaGreatDoorQ13
import Derived.Laws.BytesArg
import Derived.Shelf.Lay
import Derived.Shelf.LaysM
import Derived.Shelf.Strconv.Itoa3
import Derived.Lib.AppendIntMem
import Derived.Lib.SmallJoins
/-
  Walks: one period more: the program's.-/
namespace Go.Proofs.YtnmmkechkcfjnaaGreatDoor
set_option linter.unusedVariables false
set_option linter.unusedSimpArgs false
open Go.RowKit

theorem adN_le12 {c : Nat → ByteArray} {a b : Nat → Int} {n : Nat} {s : ByteArray} {x y : Int} : adN c a b n s x y ≤ 1048576 := by
  unfold adN
  split
  · rename_i h
    simp only [adOk, adF, Bool.and_eq_true] at h
    have := (pd_facts h.1.1).1
    omega
  · omega
theorem cmpP_lt {s s' : ByteArray} {x x' : Int} : decide (cmpP s x s' x' < 0) = befB s x s' x' := by
  have h := cmpP_neg (s := s) (s' := s') (x := x) (x' := x')
  cases e : befB s x s' x' with
  | true => rw [e] at h; have := of_decide_eq_false h; exact decide_eq_true (by omega)
  | false => rw [e] at h; have := of_decide_eq_true h; exact decide_eq_false (by omega)
theorem comparePeriods_at {r : Int} (s : ByteArray) (x y : Int) (s' : ByteArray) (x' y' : Int) (hr : cmpP s x s' x' = r) (w : World) :
    Calls Tryz.prog 47 #[.agg #[.string s, .int .i64 x, .int .i64 y], .agg #[.string s', .int .i64 x', .int .i64 y']] w fun e w' => e = .returned (.int .i64 r) ∧ Below w.heap.size w w' := hr ▸ comparePeriods_any s x y s' x' y' w
set_option maxRecDepth 100000 in
set_option maxHeartbeats 1600000 in
theorem BinP_any (c : Nat → ByteArray) (a b : Nat → Int) (n : Nat) (s : ByteArray) (x y : Int) (lo hi : Nat) (v : Value) (w : World) (hv : Sl w lo hi 3 v n (siiC c a b)) (hhi : hi ≤ w.heap.size) (hp : pdB c a b n = true) :
    Calls Tryz.prog 46 #[v, .agg #[.string s, .int .i64 x, .int .i64 y], .func (.func 47) #[] #[]] w fun e w' => (∃ f, e = .returned (.tuple #[.int .i64 (adK c a n s x), .bool f])) ∧ Below w.heap.size w w' := by
  obtain ⟨A, cap, rfl, hcap, hA⟩ := hv.open_
  have hn6 := (pd_facts hp).1
  have HB := hide hp
  clear hp
  go_enter Tryz.func46, Tryz.ntmps46
  go_wp2_with fail
  go_loopw [9, 10] (fun p q wr => ∃ i j : Nat, i ≤ j ∧ j ≤ n ∧ p = .int .i64 i ∧ q = .int .i64 j ∧ Hid (∀ q, q < i → befB (c q) (a q) s x = true) ∧ Hid (∀ q, j ≤ q → q < n → befB (c q) (a q) s x = false) ∧ Below (w.heap.size + 1) (w.alloc (.cells #[.string s, .int .i64 x, .int .i64 y] 38)) wr) (fun a b _ => (intOf b).toNat - (intOf a).toNat)
  case atStart => exact ⟨0, n, by omega, by omega, rfl, rfl, fun q h => by omega, fun q h h' => by omega, Below.refl _ _⟩
  case round =>
    obtain ⟨i, j, hij, hjn, rfl, rfl, hl, hr, hbw⟩ := hrel
    have hzr := hbw.size
    (try (simp at hzr))
    have y0 : wr.cell? ⟨w.heap.size, 0, none⟩ = some (.string s) := (hbw.cell (p := ⟨w.heap.size, 0, none⟩) (by show w.heap.size < _; omega)).trans (World.cell?_alloc_new _ _ _ _)
    have y1 : wr.cell? ⟨w.heap.size, 1, none⟩ = some (.int .i64 x) := (hbw.cell (p := ⟨w.heap.size, 1, none⟩) (by show w.heap.size < _; omega)).trans (World.cell?_alloc_new _ _ _ _)
    have y2 : wr.cell? ⟨w.heap.size, 2, none⟩ = some (.int .i64 y) := (hbw.cell (p := ⟨w.heap.size, 2, none⟩) (by show w.heap.size < _; omega)).trans (World.cell?_alloc_new _ _ _ _)
    have ly : w.heap.size < wr.heap.size := by omega
    have hbr : Below w.heap.size w wr := ((Below.refl _ _).alloc (Nat.le_refl _) _).trans (hbw.mono (by omega))
    by_cases hlt : i < j
    · obtain ⟨h, eh⟩ : ∃ h : Nat, ((i : Int) + (j : Int)) / 2 = (h : Int) := ⟨(i + j) / 2, by omega⟩
      have h1 : i ≤ h := by omega
      have h2 : h < j := by omega
      obtain ⟨blk, off, rfl, g1, g2, g3⟩ := (hA.below hbr hhi) (by omega)
      have c0 : wr.cell? ⟨blk, off + h * 3, none⟩ = some (.string (c h)) := g3 h 0 (by omega) (by omega)
      have c1 : wr.cell? ⟨blk, off + h * 3 + 1, none⟩ = some (.int .i64 (a h)) := g3 h 1 (by omega) (by omega)
      have c2 : wr.cell? ⟨blk, off + h * 3 + 2, none⟩ = some (.int .i64 (b h)) := g3 h 2 (by omega) (by omega)
      clear g3 hA
      have l0 : blk < wr.heap.size := by omega
      obtain ⟨r, hrr⟩ : ∃ r : Int, cmpP (c h) (a h) s x = r := ⟨_, rfl⟩
      have hd := cmpP_lt (s := c h) (x := a h) (s' := s) (x' := x)
      rw [hrr] at hd
      have HC := hide hrr
      clear hrr
      cases e1 : befB (c h) (a h) s x with
      | true =>
        rw [e1] at hd
        have HL : Hid (∀ q, q < h + 1 → befB (c q) (a q) s x = true) := fun q hq => by
          rcases Nat.lt_or_ge q h with h3 | h3
          · exact befB_trans (pd_lt HB.out h3 (by omega)) e1
          · obtain rfl : q = h := by omega
            exact e1
        go_wp2_with fail
        (refine wp_region_below_lit (by kernel_rfl) (by kernel_rfl) ?_; (repeat (first | go_big_quiet_step ((go_at_call 47; exact quiet_ov (comparePeriods_at _ _ _ _ _ _ HC.out _))) | quiet_step ((go_at_call 47; exact quiet_ov (comparePeriods_at _ _ _ _ _ _ HC.out _))))); refine wpQuiet_nil ?_; intro w6 hb6; have hz6 := hb6.size; (try (simp at hz6)); obtain ⟨hcw6, hfw6⟩ := bcell hb6; (try (have hy6 : w.heap.size < w6.heap.size := by omega)); (try (have hyy6 : w.heap.size + 1 < w6.heap.size := by omega)))
        go_wp2_with fail
        go_roundw
        case rel => exact ⟨h + 1, j, by omega, by omega, by go_num, rfl, HL, hr, hbw.trans (hb6.mono (by omega))⟩
        case measure => simp [intOf]; omega
      | false =>
        rw [e1] at hd
        have HR : Hid (∀ q, h ≤ q → q < n → befB (c q) (a q) s x = false) := fun q hq hqn => by
          rcases Nat.lt_or_ge h q with h3 | h3
          · cases e2 : befB (c q) (a q) s x with
            | false => rfl
            | true => rw [← e1, befB_trans (pd_lt HB.out h3 hqn) e2]
          · obtain rfl : q = h := by omega
            exact e1
        go_wp2_with fail
        (refine wp_region_below_lit (by kernel_rfl) (by kernel_rfl) ?_; (repeat (first | go_big_quiet_step ((go_at_call 47; exact quiet_ov (comparePeriods_at _ _ _ _ _ _ HC.out _))) | quiet_step ((go_at_call 47; exact quiet_ov (comparePeriods_at _ _ _ _ _ _ HC.out _))))); refine wpQuiet_nil ?_; intro w6 hb6; have hz6 := hb6.size; (try (simp at hz6)); obtain ⟨hcw6, hfw6⟩ := bcell hb6; (try (have hy6 : w.heap.size < w6.heap.size := by omega)); (try (have hyy6 : w.heap.size + 1 < w6.heap.size := by omega)))
        go_wp2_with fail
        go_roundw
        case rel => exact ⟨i, h, by omega, by omega, rfl, by go_num, hl, HR, hbw.trans (hb6.mono (by omega))⟩
        case measure => simp [intOf]; omega
    · obtain rfl : i = j := by omega
      have HK : Hid (adK c a n s x = i) := lead_eq hjn hl.out (by
        rcases Nat.lt_or_ge i n with h3 | h3
        · exact .inr (hr.out i (Nat.le_refl _) h3)
        · exact .inl (by omega))
      by_cases hin : i < n
      · obtain ⟨blk, off, rfl, g1, g2, g3⟩ := (hA.below hbr hhi) (by omega)
        have c0 : wr.cell? ⟨blk, off + i * 3, none⟩ = some (.string (c i)) := g3 i 0 (by omega) (by omega)
        have c1 : wr.cell? ⟨blk, off + i * 3 + 1, none⟩ = some (.int .i64 (a i)) := g3 i 1 (by omega) (by omega)
        have c2 : wr.cell? ⟨blk, off + i * 3 + 2, none⟩ = some (.int .i64 (b i)) := g3 i 2 (by omega) (by omega)
        clear g3 hA
        have l0 : blk < wr.heap.size := by omega
        have d1 : decide ((i : Int) < (n : Int)) = true := decide_eq_true (by omega)
        obtain ⟨r, hrr⟩ : ∃ r : Int, cmpP (c i) (a i) s x = r := ⟨_, rfl⟩
        have HC := hide hrr
        clear hrr
        cases e2 : (r == 0) with
        | true =>
          go_wp2_with fail
          (refine wp_region_below_lit (by kernel_rfl) (by kernel_rfl) ?_; (repeat (first | go_big_quiet_step ((go_at_call 47; exact quiet_ov (comparePeriods_at _ _ _ _ _ _ HC.out _))) | quiet_step ((go_at_call 47; exact quiet_ov (comparePeriods_at _ _ _ _ _ _ HC.out _))))); refine wpQuiet_nil ?_; intro w6 hb6; have hz6 := hb6.size; (try (simp at hz6)); obtain ⟨hcw6, hfw6⟩ := bcell hb6; (try (have hy6 : w.heap.size < w6.heap.size := by omega)); (try (have hyy6 : w.heap.size + 1 < w6.heap.size := by omega)))
          go_wp2_with fail
          go_ret2
          rw [HK.out]
          exact ⟨⟨_, rfl⟩, hbr.trans (hb6.mono (by omega))⟩
        | false =>
          go_wp2_with fail
          (refine wp_region_below_lit (by kernel_rfl) (by kernel_rfl) ?_; (repeat (first | go_big_quiet_step ((go_at_call 47; exact quiet_ov (comparePeriods_at _ _ _ _ _ _ HC.out _))) | quiet_step ((go_at_call 47; exact quiet_ov (comparePeriods_at _ _ _ _ _ _ HC.out _))))); refine wpQuiet_nil ?_; intro w6 hb6; have hz6 := hb6.size; (try (simp at hz6)); obtain ⟨hcw6, hfw6⟩ := bcell hb6; (try (have hy6 : w.heap.size < w6.heap.size := by omega)); (try (have hyy6 : w.heap.size + 1 < w6.heap.size := by omega)))
          go_wp2_with fail
          go_ret2
          rw [HK.out]
          exact ⟨⟨_, rfl⟩, hbr.trans (hb6.mono (by omega))⟩
      · have d1 : decide ((i : Int) < (n : Int)) = false := decide_eq_false (by omega)
        go_wp2_with fail
        (refine wp_region_below_lit (by kernel_rfl) (by kernel_rfl) ?_; (repeat (first | go_big_quiet_step ((fail)) | quiet_step ((fail)))); refine wpQuiet_nil ?_; intro w6 hb6; have hz6 := hb6.size; (try (simp at hz6)); obtain ⟨hcw6, hfw6⟩ := bcell hb6; (try (have hy6 : w.heap.size < w6.heap.size := by omega)); (try (have hyy6 : w.heap.size + 1 < w6.heap.size := by omega)))
        go_wp2_with fail
        go_ret2
        rw [HK.out]
        exact ⟨⟨_, rfl⟩, hbr.trans (hb6.mono (by omega))⟩
/-- What Clone hands back: a row of the call's own, or an empty slice. -/
def ClP (c : Nat → ByteArray) (a b : Nat → Int) (n base : Nat) (w : World) (v : Value) : Prop := (n = 0 ∧ ∃ A, v = .slice A 0 0) ∨ (0 < n ∧ w.ownsRow base 38 3 v n (rowL (siiC c a b) 3 n))
set_option maxRecDepth 100000 in
set_option maxHeartbeats 1600000 in
theorem CloneP_any (c : Nat → ByteArray) (a b : Nat → Int) (n : Nat) (lo hi : Nat) (v : Value) (w : World) (hv : Sl w lo hi 3 v n (siiC c a b)) (hhi : hi ≤ w.heap.size) (hn : n ≤ 12) :
    Calls Tryz.prog 49 #[v] w fun e w' => ∃ v', e = .returned v' ∧ ClP c a b n w.heap.size w' v' ∧ Below w.heap.size w w' := by
  obtain ⟨A, cap, rfl, hcap, hA⟩ := hv.open_
  obtain ⟨ii, hii, iz0, iz1, iz2⟩ := info_parts infoPer
  rcases Nat.eq_zero_or_pos n with rfl | h0
  · have hq : ∀ w, Sem.run Tryz.prog (binOp .eql 27 (.slice A 0 cap) (.slice none 0 0)) w = .ok (.bool A.isNone) w := fun w => Lib.run_eql_slice_nil w _ 38 _ _ _ _ _ Tryz.underlying27
    cases A with
    | none =>
      go_enter Tryz.func49, Tryz.ntmps49
      go_wp2_with fail
      go_ret
      exact ⟨_, rfl, .inl ⟨rfl, _, rfl⟩, Below.refl _ _⟩
    | some a0 =>
      go_enter Tryz.func49, Tryz.ntmps49
      go_wp2_with fail
      go_ret
      exact ⟨_, rfl, .inl ⟨rfl, _, rfl⟩, (by repeat (first | (with_reducible exact Below.refl _ _) | (with_reducible refine below_ov ?_ ?_) | (with_reducible refine Below.setCell ?_ ?_ _) | (with_reducible refine Below.alloc ?_ ?_ _) | (with_reducible refine Below.drew ?_) | (with_reducible refine below_drewN ?_ _) | (refine Below.trans ?_ (Below.mono ‹Below _ _ _› (by first | omega | (simp; done) | (simp; omega)))) | exact Below.refl _ _ | omega | (focus (simp; done)) | (focus (simp; omega))))⟩
  · obtain ⟨blk, off, rfl, h1, h2, h3⟩ := hA h0
    have HN := hide (hv.below (B := w.heap.size) ((Below.refl _ _).alloc (Nat.le_refl _) (.cells #[] 38)) hhi).news
    have hq : ∀ w, Sem.run Tryz.prog (binOp .eql 27 (.slice (some ⟨blk, off, none⟩) n cap) (.slice none 0 0)) w = .ok (.bool false) w := fun w => Lib.run_eql_slice_nil w _ 38 _ _ _ _ _ Tryz.underlying27
    clear h3 hA
    go_enter Tryz.func49, Tryz.ntmps49
    go_wp2_with (at_builtin; refine wpList_append_grows _ rfl _ _ 27 rfl 38 ii _ 3 32 Tryz.underlying27 hii iz0 iz1 iz2 rfl (by decide) (some ⟨w.heap.size, 0, none⟩) 0 0 [] rfl (fun h => by cases h) rfl (fun _ _ j u hu => by simp at hu) ⟨blk, off, none⟩ n cap (rowL (siiC c a b) 3 n) rfl (rowL_len _ _ _) HN.out (fun u hu => per_one hu) (by omega) (by unfold maxLen; omega) (by omega) ?_)
    intro v' w1 hown hg
    (try simp only [Nat.zero_add, List.nil_append] at hown)
    obtain ⟨A1, k1, rfl⟩ := row_form hown
    have HO := hide hown
    have hb : Below w.heap.size w w1 := ((Below.refl _ _).alloc (Nat.le_refl _) _).grown hg (by simp) (fun k h => by cases h)
    clear hown hg
    go_wp2_with fail
    go_ret
    exact ⟨_, rfl, .inr ⟨h0, HO.out.mono (by simp)⟩, hb⟩
set_option maxRecDepth 100000 in
set_option maxHeartbeats 1600000 in
theorem InsertPer_zero (c : Nat → Nat → Value) (x : Nat → Value) (vb : Nat) (A : Option Addr) (w : World)
    (hvb : w.heap[vb]? = some (.cells #[x 0, x 1, x 2] 38 (0, 0))) (hx1 : ∀ j, j < 3 → (x j).oneCell' = true) :
    Calls Tryz.prog 48 #[.slice A 0 0, .int .i64 0, .slice (some ⟨vb, 0, none⟩) 1 1] w fun e w' => ∃ v', e = .returned v' ∧ w'.ownsRow w.heap.size 38 3 v' 1 (rowL (insC 0 c x) 3 1) ∧ Below w.heap.size w w' := by
  obtain ⟨ii, hii, iz0, iz1, iz2⟩ := info_parts infoPer
  have hcv : ∀ j u, [x 0, x 1, x 2][j]? = some u → w.cell? ((⟨vb, 0, none⟩ : Addr).add j) = some u := fun j u hu => by
    rw [Addr.add_lit, Nat.zero_add]
    simp only [World.cell?, hvb]
    match j, hu with
    | 0, hu => simpa using hu
    | 1, hu => simpa using hu
    | 2, hu => simpa using hu
  have HV := hide hcv
  clear hcv
  go_enter Tryz.func48, Tryz.ntmps48
  go_wp2_with (at_builtin; refine wpList_append_grows _ rfl _ _ 27 rfl 38 ii _ 3 32 Tryz.underlying27 hii iz0 iz1 iz2 rfl (by decide) A 0 0 [] rfl (fun _ => ⟨rfl, rfl⟩) rfl (fun _ _ j u hu => by simp at hu) ⟨vb, 0, none⟩ 1 1 [x 0, x 1, x 2] rfl rfl HV.out (fun u hu => x3_one hx1 hu) (by omega) (by unfold maxLen; omega) (by omega) ?_)
  intro v' w1 hown hg
  (try simp only [Nat.zero_add, List.nil_append] at hown)
  have e0 : [x 0, x 1, x 2] = rowL (insC 0 c x) 3 1 := rowL_snoc3 c x 0
  rw [e0] at hown
  obtain ⟨A1, k1, rfl⟩ := row_form hown
  have HO := hide hown
  have hb : Below w.heap.size w w1 := (Below.refl _ _).grown hg (Nat.le_refl _) (fun k h => by cases h)
  clear hown hg e0
  go_wp2_with fail
  go_ret
  exact ⟨_, rfl, HO.out, hb⟩
def xP (s : ByteArray) (x y : Int) (j : Nat) : Value := if j = 0 then .string s else if j = 1 then .int .i64 x else .int .i64 y
theorem ins_siiC (c : Nat → ByteArray) (a b : Nat → Int) (k : Nat) (s : ByteArray) (x y : Int) : insC k (siiC c a b) (xP s x y) = siiC (adS c k s) (adI a k x) (adI b k y) := by
  funext i j
  unfold insC
  split
  · rename_i h
    simp only [siiC, adS, adI, h, if_true]
  · rename_i h
    split
    · rename_i h'
      subst h'
      simp only [siiC, adS, adI, Nat.lt_irrefl, xP, if_true, if_false]
    · rename_i h'
      simp only [siiC, adS, adI, h, h', if_false]
theorem xP_one {s : ByteArray} {x y : Int} (j : Nat) (_ : j < 3) : (xP s x y j).oneCell' = true := by unfold xP; split <;> (try split) <;> rfl
theorem siiC_one {c : Nat → ByteArray} {a b : Nat → Int} (i j : Nat) : (siiC c a b i j).oneCell' = true := by unfold siiC; split <;> (try split) <;> rfl
theorem InsertPer_row (c : Nat → ByteArray) (a b : Nat → Int) (n k : Nat) (s : ByteArray) (x y : Int) (base vb : Nat) (v : Value) (w : World) (h : ClP c a b n base w v) (hn : n ≤ 12) (hk : k ≤ n) (hbase : base ≤ w.heap.size)
    (hvb : w.heap[vb]? = some (.cells #[.string s, .int .i64 x, .int .i64 y] 38 (0, 0))) (hne : ∀ g, 0 < n → v.ownBlock = some g → vb ≠ g) :
    Calls Tryz.prog 48 #[v, .int .i64 k, .slice (some ⟨vb, 0, none⟩) 1 1] w fun e w' => ∃ v', e = .returned v' ∧ w'.ownsRow base 38 3 v' (n + 1) (rowL (siiC (adS c k s) (adI a k x) (adI b k y)) 3 (n + 1)) ∧ Below base w w' := by
  rcases h with ⟨rfl, A, rfl⟩ | ⟨h0, h⟩
  · obtain rfl : k = 0 := by omega
    refine (InsertPer_zero (siiC c a b) (xP s x y) vb A w hvb xP_one).mono ?_
    rintro e w' ⟨v', rfl, h1, h2⟩
    rw [ins_siiC] at h1
    exact ⟨v', rfl, h1.mono hbase, h2.mono hbase⟩
  · refine (InsertPer_any (siiC c a b) (xP s x y) k n vb base v w h (by omega) hk hbase hvb (fun g => hne g h0) (fun i j _ _ => siiC_one i j) xP_one).mono ?_
    rintro e w' ⟨v', g', rfl, h1, h2, h3, _, h5⟩
    rw [ins_siiC] at h1
    exact ⟨v', rfl, (OwnL.rowL h1 (by omega) (by omega)).mono h2, h5⟩
theorem ClP.form {c : Nat → ByteArray} {a b : Nat → Int} {n base : Nat} {w : World} {v : Value} (h : ClP c a b n base w v) : ∃ A cap, v = .slice A n cap := by
  rcases h with ⟨rfl, A, rfl⟩ | ⟨_, h⟩
  · exact ⟨A, 0, rfl⟩
  · exact row_form h
theorem ClP.below {c : Nat → ByteArray} {a b : Nat → Int} {n base : Nat} {w w' : World} {v : Value} (h : ClP c a b n base w v) (hb : Below w.heap.size w w') : ClP c a b n base w' v :=
  h.imp id fun ⟨h0, h⟩ => ⟨h0, row_below h hb (Nat.le_refl _)⟩
theorem tree_call {P : Program} {ops : Array Oper} {C : World → Prop} {Q : Act → World → Prop} {k : Nat} {r : MT} {a : Act} {w : World} (o : Oper) (f : FuncId) (args : Array Value) (hk : ops[k]? = some o) (hw : Region.wanted o (yielded ops a.tmps) = true) (hv : (execOp a.eval o).run P w = .ok (.enter f args) w)
    (h : Calls P f args w fun e w'' => ∃ v, e = .returned v ∧ C w'' ∧ wpMT P ops C Q r (a.put o.dst v) w'') : eOp P ops k (fun a' w' => C w' ∧ wpMT P ops C Q r a' w') a w := by
  unfold eOp
  simp only [hk, hw, if_true, hv, goesUpon]
  exact h
set_option maxRecDepth 100000 in
set_option maxHeartbeats 6400000 in
theorem AddPeriod_implR (c : Nat → ByteArray) (a b : Nat → Int) (n : Nat) (s : ByteArray) (x y : Int) (lo hi : Nat) (v : Value) (w : World) (hv : Sl w lo hi 3 v n (siiC c a b)) (hhi : hi ≤ w.heap.size) (hf : pfits c n) (hs : s.size ≤ maxLen) :
    Calls Tryz.prog 14 #[v, .agg #[.string s, .int .i64 x, .int .i64 y]] w (AdRes c a b n s x y (adOk c a b n s x y) w) := by
  obtain ⟨A, cap, rfl, hcap, hA⟩ := hv.open_
  cases h1 : pdB c a b n with
  | false =>
    have HX : Hid (adOk c a b n s x y = false) := by show _ = _; simp [adOk, adF, h1]
    go_enter Tryz.func14, Tryz.ntmps14
    go_wp2_with fail
    refine (arePeriods_any c a b n lo hi _ _ (hv.below (B := w.heap.size) (by repeat (first | (with_reducible exact Below.refl _ _) | (with_reducible refine below_ov ?_ ?_) | (with_reducible refine Below.setCell ?_ ?_ _) | (with_reducible refine Below.alloc ?_ ?_ _) | (with_reducible refine Below.drew ?_) | (with_reducible refine below_drewN ?_ _) | (refine Below.trans ?_ (Below.mono ‹Below _ _ _› (by first | omega | (simp; done) | (simp; omega)))) | exact Below.refl _ _ | omega | (focus (simp; done)) | (focus (simp; omega)))) hhi) (by first | omega | (simp; done) | (simp; omega)) hf).mono ?_
    rintro e w1 ⟨rfl, hb1⟩
    have hz1 := hb1.size
    (try (simp at hz1))
    rw [h1]
    go_wp2_with fail
    go_ret2
    rw [HX.out]
    exact ad_nil HX.out (by repeat (first | (with_reducible exact Below.refl _ _) | (with_reducible refine below_ov ?_ ?_) | (with_reducible refine Below.setCell ?_ ?_ _) | (with_reducible refine Below.alloc ?_ ?_ _) | (with_reducible refine Below.drew ?_) | (with_reducible refine below_drewN ?_ _) | (refine Below.trans ?_ (Below.mono ‹Below _ _ _› (by first | omega | (simp; done) | (simp; omega)))) | exact Below.refl _ _ | omega | (focus (simp; done)) | (focus (simp; omega))))
  | true =>
  have HP := hide h1
  go_enter Tryz.func14, Tryz.ntmps14
  go_wp2_with fail
  refine (arePeriods_any c a b n lo hi _ _ (hv.below (B := w.heap.size) (by repeat (first | (with_reducible exact Below.refl _ _) | (with_reducible refine below_ov ?_ ?_) | (with_reducible refine Below.setCell ?_ ?_ _) | (with_reducible refine Below.alloc ?_ ?_ _) | (with_reducible refine Below.drew ?_) | (with_reducible refine below_drewN ?_ _) | (refine Below.trans ?_ (Below.mono ‹Below _ _ _› (by first | omega | (simp; done) | (simp; omega)))) | exact Below.refl _ _ | omega | (focus (simp; done)) | (focus (simp; omega)))) hhi) (by first | omega | (simp; done) | (simp; omega)) hf).mono ?_
  rintro e w1 ⟨rfl, hb1⟩
  have hz1 := hb1.size
  (try (simp at hz1))
  have px0 := (hb1.cell (p := ⟨w.heap.size, 0, none⟩) (by simp)).trans (World.cell?_alloc_new _ _ _ _)
  have px1 := (hb1.cell (p := ⟨w.heap.size, 1, none⟩) (by simp)).trans (World.cell?_alloc_new _ _ _ _)
  have px2 := (hb1.cell (p := ⟨w.heap.size, 2, none⟩) (by simp)).trans (World.cell?_alloc_new _ _ _ _)
  simp at px0 px1 px2
  have hb01 : Below w.heap.size w w1 := (by repeat (first | (with_reducible exact Below.refl _ _) | (with_reducible refine below_ov ?_ ?_) | (with_reducible refine Below.setCell ?_ ?_ _) | (with_reducible refine Below.alloc ?_ ?_ _) | (with_reducible refine Below.drew ?_) | (with_reducible refine below_drewN ?_ _) | (refine Below.trans ?_ (Below.mono ‹Below _ _ _› (by first | omega | (simp; done) | (simp; omega)))) | exact Below.refl _ _ | omega | (focus (simp; done)) | (focus (simp; omega))))
  have lp : w.heap.size < w1.heap.size := by omega
  rw [h1]
  clear h1
  cases h2 : perB s x y with
  | false =>
    have HX : Hid (adOk c a b n s x y = false) := by show _ = _; simp [adOk, adF, h2]
    go_wp2_with fail
    refine (isPeriod_any s x y _ hs).mono ?_
    rintro e w2 ⟨rfl, hb2⟩
    have hz2 := hb2.size
    rw [h2]
    go_wp2_with fail
    go_ret2
    rw [HX.out]
    exact ad_nil HX.out (by repeat (first | (with_reducible exact Below.refl _ _) | (with_reducible refine below_ov ?_ ?_) | (with_reducible refine Below.setCell ?_ ?_ _) | (with_reducible refine Below.alloc ?_ ?_ _) | (with_reducible refine Below.drew ?_) | (with_reducible refine below_drewN ?_ _) | (refine Below.trans ?_ (Below.mono ‹Below _ _ _› (by first | omega | (simp; done) | (simp; omega)))) | exact Below.refl _ _ | omega | (focus (simp; done)) | (focus (simp; omega))))
  | true =>
  have HQ := hide h2
  go_wp2_with fail
  refine (isPeriod_any s x y _ hs).mono ?_
  rintro e w2 ⟨rfl, hb2⟩
  have hz2 := hb2.size
  rw [h2]
  clear h2
  have hn12 := (pd_facts HP.out).1
  have HPX0 : Hid (∀ W, Below w1.heap.size w1 W → W.cell? ⟨w.heap.size, 0, none⟩ = some (.string s) ∧ W.cell? ⟨w.heap.size, 1, none⟩ = some (.int .i64 x) ∧ W.cell? ⟨w.heap.size, 2, none⟩ = some (.int .i64 y)) := fun W hW => ⟨(hW.cell (p := ⟨w.heap.size, 0, none⟩) lp).trans px0, (hW.cell (p := ⟨w.heap.size, 1, none⟩) lp).trans px1, (hW.cell (p := ⟨w.heap.size, 2, none⟩) lp).trans px2⟩
  clear px0 px1 px2
  obtain ⟨px0, px1, px2⟩ := HPX0.out w2 hb2
  have lp2 : w.heap.size < w2.heap.size := by omega
  go_wp2_with fail
  refine (BinP_any c a b n s x y lo hi _ _ (hv.below (B := w.heap.size) (by repeat (first | (with_reducible exact Below.refl _ _) | (with_reducible refine below_ov ?_ ?_) | (with_reducible refine Below.setCell ?_ ?_ _) | (with_reducible refine Below.alloc ?_ ?_ _) | (with_reducible refine Below.drew ?_) | (with_reducible refine below_drewN ?_ _) | (refine Below.trans ?_ (Below.mono ‹Below _ _ _› (by first | omega | (simp; done) | (simp; omega)))) | exact Below.refl _ _ | omega | (focus (simp; done)) | (focus (simp; omega)))) hhi) (by first | omega | (simp; done) | (simp; omega)) HP.out).mono ?_
  rintro e w4 ⟨⟨f4, rfl⟩, hb4⟩
  have hz4 := hb4.size
  clear px0 px1 px2
  obtain ⟨k, hk⟩ : ∃ k, k = adK c a n s x := ⟨_, rfl⟩
  have HK : Hid (adK c a n s x = k) := hk.symm
  have hkn : k ≤ n := by rw [hk]; exact adK_le _ _ _ _ _
  rw [HK.out]
  clear hk
  have hbw4 : Below w.heap.size w w4 := (by repeat (first | (with_reducible exact Below.refl _ _) | (with_reducible refine below_ov ?_ ?_) | (with_reducible refine Below.setCell ?_ ?_ _) | (with_reducible refine Below.alloc ?_ ?_ _) | (with_reducible refine Below.drew ?_) | (with_reducible refine below_drewN ?_ _) | (refine Below.trans ?_ (Below.mono ‹Below _ _ _› (by first | omega | (simp; done) | (simp; omega)))) | exact Below.refl _ _ | omega | (focus (simp; done)) | (focus (simp; omega))))
  have hb14 : Below w1.heap.size w1 w4 := hb2.trans (hb4.mono (by omega))
  have HPX : Hid (∀ W, Below w4.heap.size w4.drew W → W.cell? ⟨w.heap.size, 0, none⟩ = some (.string s) ∧ W.cell? ⟨w.heap.size, 1, none⟩ = some (.int .i64 x) ∧ W.cell? ⟨w.heap.size, 2, none⟩ = some (.int .i64 y)) := fun W hW => HPX0.out W (hb14.trans (((Below.drew (Below.refl w4.heap.size w4)).trans hW).mono (by omega)))
  have HFT : Hid (pfits (adS c k s) (n + 1)) := ⟨by omega, fun i hi => by
    unfold adS
    split
    · exact hf.2 i (by omega)
    · split
      · exact hs
      · exact hf.2 _ (by omega)⟩
  have hzd : w4.drew.heap.size = w4.heap.size := rfl
  go_wp2_with fail
  refine wp_region_tree (.step 0 true (.step 2 true (.step 3 true (.fork 1 (.step 4 false (.step 5 false (.step 6 true .nil))) 4 (.step 1 false (.step 5 false (.step 6 true .nil))))))) (fun w' => Below w4.heap.size w4.drew w') (by kernel_rfl) (by kernel_rfl) (by kernel_rfl) (by kernel_rfl) (Below.refl _ _) ?_
  refine tree_look _ _ rfl rfl (fun w' _ => BigFrame.run_move _ rfl w') ?_
  go_simp
  refine tree_look _ _ rfl rfl (fun w' _ => BigFrame.run_move _ rfl w') ?_
  go_simp
  refine tree_look _ (.agg #[.string s, .int .i64 x, .int .i64 y]) rfl rfl (fun w' hw' => (by obtain ⟨a0, a1, a2⟩ := HPX.out w' hw'; go_simp)) ?_
  go_simp
  refine wpMT_fork ?_ ?_
  · refine tree_call _ 49 #[.slice A n cap] rfl rfl (by go_simp) ?_
    refine (CloneP_any c a b n lo hi _ _ (hv.below (B := w.heap.size) (Below.drew hbw4) hhi) (by first | omega | (simp; done) | (simp; omega)) hn12).mono ?_
    rintro e w5 ⟨v5, rfl, hc5, hb5⟩
    have hz5 := hb5.size
    (try (simp at hz5))
    refine ⟨_, rfl, hb5, ?_⟩
    obtain ⟨A5, c5, rfl⟩ := hc5.form
    go_simp
    refine wpMT_eff (tree_value _ (.slice (some ⟨w5.heap.size, 0, none⟩) 1 1) (w5.alloc (.cells #[.string s, .int .i64 x, .int .i64 y] 38)) rfl rfl (by go_simp) (hb5.alloc (by omega) _) ?_)
    go_simp
    refine wpMT_eff (tree_call _ 48 #[.slice A5 n c5, .int .i64 k, .slice (some ⟨w5.heap.size, 0, none⟩) 1 1] rfl rfl (by go_simp) ?_)
    refine (InsertPer_row c a b n k s x y w4.heap.size w5.heap.size _ _ (hc5.below ((Below.refl _ _).alloc (Nat.le_refl _) _)) hn12 hkn (by first | omega | (simp; done) | (simp; omega)) (heap_alloc_new w5 _) (fun g h0 hg => by
      rcases hc5 with ⟨h, _⟩ | ⟨_, h⟩
      · omega
      · have := (h.lt g hg).2
        omega)).mono ?_
    rintro e w7 ⟨v7, rfl, hr7, hb7⟩
    have hC7 : Below w4.heap.size w4.drew w7 := (hb5.alloc (by omega) _).trans hb7
    refine ⟨_, rfl, hC7, ?_⟩
    have hz77 := hC7.size
    (try (simp at hz77))
    refine tree_look _ _ rfl rfl (fun w' _ => BigFrame.run_assign _ rfl w') ?_
    go_simp
    obtain ⟨A7, c7, rfl⟩ := row_form hr7
    have hbw7 : Below w.heap.size w w7 := hbw4.trans ((Below.drew (Below.refl _ _)).trans (hC7.mono (by first | omega | (simp; done) | (simp; omega))))
    have hz7 := hbw7.size
    have HR7 := hide hr7
    clear hr7
    refine wpMT_nil ?_
    go_wp2_with fail
    refine (arePeriods_any (adS c k s) (adI a k x) (adI b k y) (n + 1) w.heap.size w7.heap.size _ _ ((own_row HR7.out).mono (by first | omega | (simp; done) | (simp; omega)) (Nat.le_refl _)).sl (Nat.le_refl _) HFT.out).mono ?_
    rintro e w8 ⟨rfl, hb8⟩
    have hz8 := hb8.size
    cases h9 : pdB (adS c k s) (adI a k x) (adI b k y) (n + 1) with
    | false =>
      have HX : Hid (adOk c a b n s x y = false) := by show _ = _; rw [adOk, HK.out, h9]; simp
      go_wp2_with fail
      go_ret2
      rw [HX.out]
      exact ad_nil HX.out (hbw7.trans (hb8.mono (by omega)))
    | true =>
      have HX : Hid (adOk c a b n s x y = true) := by show _ = _; rw [adOk, HK.out, h9, adF, HP.out, HQ.out]; rfl
      go_wp2_with fail
      go_ret2
      rw [HX.out]
      exact ad_row HK.out HX.out (row_below HR7.out hb8 (Nat.le_refl _)) (by first | omega | (simp; done) | (simp; omega)) (hbw7.trans (hb8.mono (by omega)))
  · refine tree_value _ (.slice (some ⟨w4.heap.size, 0, none⟩) 1 1) (w4.drew.alloc (.cells #[.string s, .int .i64 x, .int .i64 y] 38)) rfl rfl (by go_simp) ((Below.refl _ _).alloc (by simp) _) ?_
    go_simp
    refine wpMT_eff (tree_call _ 49 #[.slice A n cap] rfl rfl (by go_simp) ?_)
    have hbw5 : Below w.heap.size w (w4.drew.alloc (.cells #[.string s, .int .i64 x, .int .i64 y] 38)) := (Below.drew hbw4).alloc (by first | omega | (simp; done) | (simp; omega)) _
    refine (CloneP_any c a b n lo hi _ _ (hv.below (B := w.heap.size) hbw5 hhi) (by first | omega | (simp; done) | (simp; omega)) hn12).mono ?_
    rintro e w5 ⟨v5, rfl, hc5, hb5⟩
    have hz5 := hb5.size
    simp at hz5
    have hC5 : Below w4.heap.size w4.drew w5 := ((Below.refl _ _).alloc (by simp) _).trans (hb5.mono (by simp))
    refine ⟨_, rfl, hC5, ?_⟩
    obtain ⟨A5, c5, rfl⟩ := hc5.form
    go_simp
    refine wpMT_eff (tree_call _ 48 #[.slice A5 n c5, .int .i64 k, .slice (some ⟨w4.heap.size, 0, none⟩) 1 1] rfl rfl (by go_simp) ?_)
    refine (InsertPer_row c a b n k s x y _ w4.heap.size _ _ hc5 hn12 hkn (by first | omega | (simp; done) | (simp; omega)) ((hb5.block _ (by simp)).trans (heap_alloc_new w4.drew _)) (fun g h0 hg => by
      rcases hc5 with ⟨h, _⟩ | ⟨_, h⟩
      · omega
      · have := (h.lt g hg).1
        simp at this
        omega)).mono ?_
    rintro e w7 ⟨v7, rfl, hr7, hb7⟩
    have hC7 : Below w4.heap.size w4.drew w7 := hC5.trans (hb7.mono (by simp))
    refine ⟨_, rfl, hC7, ?_⟩
    have hz77 := hC7.size
    (try (simp at hz77))
    refine tree_look _ _ rfl rfl (fun w' _ => BigFrame.run_assign _ rfl w') ?_
    go_simp
    obtain ⟨A7, c7, rfl⟩ := row_form hr7
    have hbw7 : Below w.heap.size w w7 := hbw4.trans ((Below.drew (Below.refl _ _)).trans (hC7.mono (by first | omega | (simp; done) | (simp; omega))))
    have hz7 := hbw7.size
    have HR7 := hide hr7
    clear hr7
    refine wpMT_nil ?_
    go_wp2_with fail
    refine (arePeriods_any (adS c k s) (adI a k x) (adI b k y) (n + 1) w.heap.size w7.heap.size _ _ ((own_row HR7.out).mono (by first | omega | (simp; done) | (simp; omega)) (Nat.le_refl _)).sl (Nat.le_refl _) HFT.out).mono ?_
    rintro e w8 ⟨rfl, hb8⟩
    have hz8 := hb8.size
    cases h9 : pdB (adS c k s) (adI a k x) (adI b k y) (n + 1) with
    | false =>
      have HX : Hid (adOk c a b n s x y = false) := by show _ = _; rw [adOk, HK.out, h9]; simp
      go_wp2_with fail
      go_ret2
      rw [HX.out]
      exact ad_nil HX.out (hbw7.trans (hb8.mono (by omega)))
    | true =>
      have HX : Hid (adOk c a b n s x y = true) := by show _ = _; rw [adOk, HK.out, h9, adF, HP.out, HQ.out]; rfl
      go_wp2_with fail
      go_ret2
      rw [HX.out]
      exact ad_row HK.out HX.out (row_below HR7.out hb8 (Nat.le_refl _)) (by first | omega | (simp; done) | (simp; omega)) (hbw7.trans (hb8.mono (by omega)))
theorem AddPeriod_impl (c : Nat → ByteArray) (a b : Nat → Int) (n : Nat) (s : ByteArray) (x y : Int) (lo hi : Nat) (v : Value) (w : World) (hv : Sl w lo hi 3 v n (siiC c a b)) (hhi : hi ≤ w.heap.size) (hf : pfits c n) (hs : s.size ≤ maxLen) :
    Calls Tryz.prog 14 #[v, .agg #[.string s, .int .i64 x, .int .i64 y]] w (AdRes c a b n s x y (adOk c a b n s x y) w) := AddPeriod_implR c a b n s x y lo hi v w hv hhi hf hs
theorem AddPeriod_spec (c : Nat → ByteArray) (a b : Nat → Int) (n : Nat) (s : ByteArray) (x y : Int) (lo hi : Nat) (v : Value) (w : World) (hv : Sl w lo hi 3 v n (siiC c a b)) (hhi : hi ≤ w.heap.size) (hf : pfits c n) (hs : s.size ≤ maxLen) :
    Calls Tryz.prog 15 #[v, .agg #[.string s, .int .i64 x, .int .i64 y]] w (AdRes c a b n s x y (adOk c a b n s x y) w) := AddPeriod_specR c a b n s x y lo hi v w hv hhi hf hs

end Go.Proofs.YtnmmkechkcfjnaaGreatDoor

/-
  One more step of a region that draws its order by a tree: a call.-/
namespace Go.Proofs.YtnmmkechkcfjnaaGreatDoor
set_option linter.unusedVariables false
set_option linter.unusedSimpArgs false
open Go Go.RowKit

theorem tree_calls {P : Program} {ops : Array Oper} {C : World → Prop} {Q : Act → World → Prop} {k : Nat} {r : MT} {a : Act} {w : World} (o : Oper) (f : FuncId) (args : Array Value) (hk : ops[k]? = some o) (hw : Region.wanted o (yielded ops a.tmps) = true) (hv : (execOp a.eval o).run P w = .ok (.enter f args) w)
    (h : Calls P f args w fun e w'' => ∃ v, e = .returned v ∧ C w'' ∧ wpMT P ops C Q r (a.put o.dst v) w'') : eOp P ops k (fun a' w' => C w' ∧ wpMT P ops C Q r a' w') a w := by
  unfold eOp
  simp only [hk, hw, if_true, hv, goesUpon]
  exact h

end Go.Proofs.YtnmmkechkcfjnaaGreatDoor

/-
  Walks: numbers in decimal: the reference's and the library's.-/
namespace Go.Proofs
open Go.RowKit Go.Shelf
shelf_lay LaysM.n171 Nm 171 at Tryz as YtnmmkechkcfjnaaGreatDoor.laysItoa
end Go.Proofs
namespace Go.Proofs.YtnmmkechkcfjnaaGreatDoor
set_option linter.unusedVariables false
set_option linter.unusedSimpArgs false
open Go.RowKit Go.Shelf

/-- A number's decimal text. -/
def dD (k : Nat) : ByteArray := ⟨(Lib.decDigits k).toArray⟩
theorem dD_small {k : Nat} (h : k < 10) : strOfNums [48 + (k : Int)] = dD k := by
  rw [dD, Lib.decDigits_one h, strOfNums]
  congr 2
theorem dD_step {k : Nat} (h : ¬ k < 10) : dD (k / 10) ++ strOfNums [48 + (k : Int) % 10] = dD k := by
  rw [dD, dD, Lib.decDigits.eq_1 k, dif_neg h]
  have e : (48 + (k : Int) % 10).toNat = 48 + k % 10 := by omega
  apply ByteArray.ext
  rw [ByteArray.data_append]
  simp [strOfNums, e]
theorem dD_size : ∀ k : Nat, (dD k).size ≤ k + 1 := by
  intro k
  induction k using Nat.strongRecOn with
  | _ k ih =>
    by_cases h : k < 10
    · rw [← dD_small h, strOfNums_size]; simp
    · rw [← dD_step h, ByteArray.size_append, strOfNums_size]
      have := ih (k / 10) (by omega)
      simp
      omega

theorem pow10_named : Tryz.prog.globalNamed "internal/strconv.uint64pow10" = some 0 := by kernel_rfl
/-- The library's table of powers. -/
def Tab (w : World) : Prop := Lib.TabIs Tryz.prog w "internal/strconv.uint64pow10" .u64 Lib.pow10Tab
theorem Tab.below {w w' : World} {B : Nat} (h : Tab w) (hb : Below B w w') (hB : w.heap.size ≤ B) : Tab w' := Joins.tab_stays pow10_named h hb hB
theorem Itoa_any (k : Nat) (w : World) (hk : k ≤ 1000000) (ht : Tab w) :
    Calls Tryz.prog 77 #[.int .i64 k] w fun e w' => e = .returned (.string (dD k)) ∧ Below w.heap.size w w' :=
  (Any.strconv_Itoa YtnmmkechkcfjnaaGreatDoor.laysItoa k (by omega) (by omega) w ht).mono fun e w' ⟨he, m, os, hw⟩ => ⟨by rw [he, Lib.itoa_nonneg]; rfl, by rw [hw]; exact Lib.below_grow _ _ (Nat.le_refl _) _ _⟩
set_option maxRecDepth 100000 in
set_option maxHeartbeats 1600000 in
theorem l1Num_any (k : Nat) : ∀ (w : World), k ≤ 1000000 →
    Calls Tryz.prog 62 #[.int .i64 k] w fun e w' => e = .returned (.string (dD k)) ∧ Below w.heap.size w w' := by
  induction k using Nat.strongRecOn with
  | _ k ih =>
    intro w hk
    have hcv : ∀ (W : World) (n : Int), (convert 22 9 (.slice (some ⟨W.heap.size, 0, none⟩) 1 1)).run Tryz.prog (W.alloc (.cells #[.int .u8 n] 5)) = .ok (.string (strOfNums [n])) (W.alloc (.cells #[.int .u8 n] 5)) := fun W n =>
      run_convert_bytes_arg _ 22 5 Tryz.underlying22 Tryz.underlying5 W.heap.size 0 1 1 [n] rfl (fun i hi => by
        obtain rfl : i = 0 := by omega
        exact World.cell?_alloc_new _ _ _ _) 9 Tryz.underlying9
    by_cases h : k < 10
    · have HD := hide (dD_small h)
      go_enter Tryz.func62, Tryz.ntmps62
      go_wp2_with fail
      go_ret
      rw [HD.out]
      exact ⟨rfl, (by repeat (first | (with_reducible exact Below.refl _ _) | (with_reducible refine below_ov ?_ ?_) | (with_reducible refine Below.setCell ?_ ?_ _) | (with_reducible refine Below.alloc ?_ ?_ _) | (with_reducible refine Below.drew ?_) | (with_reducible refine below_drewN ?_ _) | (refine Below.trans ?_ (Below.mono ‹Below _ _ _› (by first | omega | (simp; done) | (simp; omega)))) | exact Below.refl _ _ | omega | (focus (simp; done)) | (focus (simp; omega))))⟩
    · have hs1 := dD_size (k / 10)
      have hd := dD_step h
      have hsz : ¬ 9223372036854775807 < (dD (k / 10)).size + (strOfNums [48 + (k : Int) % 10]).size := by rw [strOfNums_size]; simp; omega
      have hcg : ∀ (W : World) (g : Nat), W.cell? ⟨g, 0, none⟩ = some (.int .u8 (48 + (k : Int) % 10)) → (convert 22 9 (.slice (some ⟨g, 0, none⟩) 1 1)).run Tryz.prog W = .ok (.string (strOfNums [48 + (k : Int) % 10])) W := fun W g hc =>
        run_convert_bytes_arg _ 22 5 Tryz.underlying22 Tryz.underlying5 g 0 1 1 [48 + (k : Int) % 10] rfl (fun i hi => by
          obtain rfl : i = 0 := by omega
          exact hc) 9 Tryz.underlying9
      obtain ⟨D, hD⟩ : ∃ D, D = strOfNums [48 + (k : Int) % 10] := ⟨_, rfl⟩
      rw [← hD] at hd hsz
      simp only [← hD] at hcg
      have HD := hide hd
      have HCG := hide hcg
      clear hcg hcv hD hd
      have z1 : IntKind.i64.wrap ((k : Int) / 10) = (k : Int) / 10 := IntWalk.i64_in _ (by omega)
      have z2 : (k : Int).tmod 10 = (k : Int) % 10 := Int.tmod_eq_emod_of_nonneg (by omega)
      have z3 : IntKind.i64.wrap (48 + (k : Int) % 10) = 48 + (k : Int) % 10 := IntWalk.i64_in _ (by omega)
      have z4 : IntKind.u8.wrap (48 + (k : Int) % 10) = 48 + (k : Int) % 10 := by
        have : 0 ≤ 48 + (k : Int) % 10 ∧ 48 + (k : Int) % 10 < 256 := by omega
        rw [IntKind.wrap_u8]; omega
      go_enter Tryz.func62, Tryz.ntmps62
      go_wp2_with fail
      have hb0 : Below w.heap.size w w.drew := Below.drew (Below.refl _ _)
      refine wp_region_tree (.step 0 true (.step 1 true (.step 3 true (.step 4 true (.step 5 true (.step 6 true (.fork 2 (.step 7 false (.step 8 false (.step 9 true (.step 10 true .nil)))) 7 (.fork 2 (.step 8 false (.step 9 true (.step 10 true .nil))) 8 (.step 2 false (.step 9 true (.step 10 true .nil))))))))))) (fun W => Below w.heap.size w W) (by kernel_rfl) (by kernel_rfl) (by kernel_rfl) (by kernel_rfl) hb0 ?_
      refine tree_look _ _ rfl rfl (fun w' _ => BigFrame.run_move _ rfl w') ?_
      go_simp
      refine tree_look _ (.int .i64 ((k / 10 : Nat) : Int)) rfl rfl (fun w' _ => (by go_simp)) ?_
      go_simp
      refine tree_look _ _ rfl rfl (fun w' _ => BigFrame.run_move _ rfl w') ?_
      go_simp
      refine tree_look _ (.int .i64 ((k : Int) % 10)) rfl rfl (fun w' _ => (by go_simp)) ?_
      go_simp
      refine tree_look _ (.int .i64 (48 + (k : Int) % 10)) rfl rfl (fun w' _ => (by go_simp)) ?_
      go_simp
      refine tree_look _ (.int .u8 (48 + (k : Int) % 10)) rfl rfl (fun w' _ => (by go_simp)) ?_
      go_simp
      refine wpMT_fork ?_ ?_
      · refine tree_calls _ 62 #[.int .i64 ((k / 10 : Nat) : Int)] rfl rfl (by go_simp) ?_
        refine (ih (k / 10) (by omega) _ (by omega)).mono ?_
        rintro e w1 ⟨rfl, hb1⟩
        have hz1 := hb1.size
        have hB1 : Below w.heap.size w w1 := hb0.trans (hb1.mono hb0.size)
        refine ⟨_, rfl, hB1, ?_⟩
        go_simp
        obtain ⟨w2, hw2⟩ : ∃ W, W = w1.alloc (.cells #[.int .u8 (48 + (k : Int) % 10)] 5) := ⟨_, rfl⟩
        have hB2 : Below w.heap.size w w2 := by rw [hw2]; exact hB1.alloc hB1.size _
        have hn2 : Below w1.heap.size w1 w2 := by rw [hw2]; exact (Below.refl _ _).alloc (Nat.le_refl _) _
        have HCV : Hid (w2.cell? ⟨w1.heap.size, 0, none⟩ = some (.int .u8 (48 + (k : Int) % 10))) := by show _ = _; rw [hw2]; exact World.cell?_alloc_new _ _ _ _
        have hl2 : w1.heap.size < w2.heap.size := by rw [hw2]; simp
        have HW2 := hide hw2
        clear hw2
        refine wpMT_eff (tree_value _ (.slice (some ⟨w1.heap.size, 0, none⟩) 1 1) w2 rfl rfl (by rw [HW2.out]; go_simp) hB2 ?_)
        go_simp
        refine wpMT_eff (tree_value _ (.string D) w2 rfl rfl (by have hx := HCG.out w2 _ (HCV.out); go_simp) hB2 ?_)
        go_simp
        refine tree_look _ (.string (dD (k / 10) ++ D)) rfl rfl (fun w' _ => (by go_simp)) ?_
        go_simp
        refine tree_look _ _ rfl rfl (fun w' _ => BigFrame.run_assign _ rfl w') ?_
        go_simp
        refine wpMT_nil ?_
        go_wp2_with fail
        go_ret
        rw [HD.out]
        exact ⟨rfl, hB2⟩
      · obtain ⟨w2, hw2⟩ : ∃ W, W = w.drew.alloc (.cells #[.int .u8 (48 + (k : Int) % 10)] 5) := ⟨_, rfl⟩
        have hB2 : Below w.heap.size w w2 := by rw [hw2]; exact hb0.alloc hb0.size _
        have hn2 : Below w.drew.heap.size w.drew w2 := by rw [hw2]; exact (Below.refl _ _).alloc (Nat.le_refl _) _
        have HCV : Hid (w2.cell? ⟨w.heap.size, 0, none⟩ = some (.int .u8 (48 + (k : Int) % 10))) := by show _ = _; rw [hw2]; exact World.cell?_alloc_new _ _ _ _
        have hl2 : w.drew.heap.size < w2.heap.size := by rw [hw2]; simp
        have HW2 := hide hw2
        clear hw2
        refine (tree_value _ (.slice (some ⟨w.heap.size, 0, none⟩) 1 1) w2 rfl rfl (by rw [HW2.out]; go_simp) hB2 ?_)
        go_simp
        refine wpMT_fork ?_ ?_
        · refine tree_calls _ 62 #[.int .i64 ((k / 10 : Nat) : Int)] rfl rfl (by go_simp) ?_
          refine (ih (k / 10) (by omega) _ (by omega)).mono ?_
          rintro e w1 ⟨rfl, hb1⟩
          have hz1 := hb1.size
          have hB1 : Below w.heap.size w w1 := hB2.trans (hb1.mono hB2.size)
          refine ⟨_, rfl, hB1, ?_⟩
          go_simp
          refine wpMT_eff (tree_value _ (.string D) w1 rfl rfl (by have hx := HCG.out w1 _ ((hb1.cell (p := ⟨w.heap.size, 0, none⟩) hl2).trans HCV.out); go_simp) hB1 ?_)
          go_simp
          refine tree_look _ (.string (dD (k / 10) ++ D)) rfl rfl (fun w' _ => (by go_simp)) ?_
          go_simp
          refine tree_look _ _ rfl rfl (fun w' _ => BigFrame.run_assign _ rfl w') ?_
          go_simp
          refine wpMT_nil ?_
          go_wp2_with fail
          go_ret
          rw [HD.out]
          exact ⟨rfl, hB1⟩
        · refine (tree_value _ (.string D) w2 rfl rfl (by have hx := HCG.out w2 _ (HCV.out); go_simp) hB2 ?_)
          go_simp
          refine wpMT_eff ?_
          refine tree_calls _ 62 #[.int .i64 ((k / 10 : Nat) : Int)] rfl rfl (by go_simp) ?_
          refine (ih (k / 10) (by omega) _ (by omega)).mono ?_
          rintro e w1 ⟨rfl, hb1⟩
          have hz1 := hb1.size
          have hB1 : Below w.heap.size w w1 := hB2.trans (hb1.mono hB2.size)
          refine ⟨_, rfl, hB1, ?_⟩
          go_simp
          refine tree_look _ (.string (dD (k / 10) ++ D)) rfl rfl (fun w' _ => (by go_simp)) ?_
          go_simp
          refine tree_look _ _ rfl rfl (fun w' _ => BigFrame.run_assign _ rfl w') ?_
          go_simp
          refine wpMT_nil ?_
          go_wp2_with fail
          go_ret
          rw [HD.out]
          exact ⟨rfl, hB1⟩

end Go.Proofs.YtnmmkechkcfjnaaGreatDoor
