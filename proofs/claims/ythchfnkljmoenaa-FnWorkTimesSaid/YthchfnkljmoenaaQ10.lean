/-
  Texts of this proof, one behind the other (part 10).
-/
import Derived.Test.YthchfnkljmoenaaQ9
/-
  Walks: the crews at a minute, the crews that are due: the reference's.-/
namespace Go.Proofs.Ythchfnkljmoenaa
set_option linter.unusedVariables false
set_option linter.unusedSimpArgs false
open Go.RowKit Go.Sort

def sel (c : Nat → ByteArray) (p : Nat → Bool) (k : Nat) : List (List UInt8) := (flt p k).map fun (i : Nat) => (c i).toList
theorem sel_yes {c : Nat → ByteArray} {p : Nat → Bool} {k : Nat} (h : p k = true) : sel c p (k + 1) = sel c p k ++ [(c k).toList] := by rw [sel, flt_yes h]; simp [sel]
theorem sel_no {c : Nat → ByteArray} {p : Nat → Bool} {k : Nat} (h : p k = false) : sel c p (k + 1) = sel c p k := by rw [sel, flt_no h]; rfl
theorem sel_len {c : Nat → ByteArray} {p : Nat → Bool} {k : Nat} : (sel c p k).length ≤ k := by rw [sel, List.length_map]; exact flt_len p k
theorem putAll_le {L : List (List UInt8)} : (putAll L).length ≤ L.length := by have := putAll_len L []; simpa [putAll] using this
/-- What the call hands back. -/
def CrRes (R : List (List UInt8)) (ok : Bool) (w : World) (e : Ending) (w' : World) : Prop := ∃ v', e = .returned (.tuple #[v', .bool ok]) ∧ TRow w' w.heap.size v' R ∧ Below w.heap.size w w'
theorem cr_nil {w w' : World} (hb : Below w.heap.size w w') : CrRes [] false w (.returned (.tuple #[.slice none 0 0, .bool false])) w' := ⟨_, rfl, World.ownsRow_nil _ _ _ _, hb⟩
def caP (a b : Nat → Int) (m : Int) (i : Nat) : Bool := inB m (a i) (b i - 1)
def caOk (c : Nat → ByteArray) (a b : Nat → Int) (n : Nat) (m : Int) : Bool := pdB c a b n && inB m 0 9999
def caR (c : Nat → ByteArray) (a b : Nat → Int) (n : Nat) (m : Int) : List (List UInt8) := if caOk c a b n m = true then putAll (sel c (caP a b m) n) else []
def caN (c : Nat → ByteArray) (a b : Nat → Int) (n : Nat) (m : Int) : Nat := (caR c a b n m).length
def caS (c : Nat → ByteArray) (a b : Nat → Int) (n : Nat) (m : Int) : Nat → ByteArray := tl (caR c a b n m)
def dcP (c : Nat → ByteArray) (a b : Nat → Int) (n : Nat) (m q : Int) (i : Nat) : Bool := dueB c a b (c i) m n q
def dcOk (c : Nat → ByteArray) (a b : Nat → Int) (n : Nat) (m q : Int) : Bool := pdB c a b n && inB m 0 9999 && inB q 1 720
def dcR (c : Nat → ByteArray) (a b : Nat → Int) (n : Nat) (m q : Int) : List (List UInt8) := if dcOk c a b n m q = true then putAll (sel c (dcP c a b n m q) n) else []
def dcN (c : Nat → ByteArray) (a b : Nat → Int) (n : Nat) (m q : Int) : Nat := (dcR c a b n m q).length
def dcS (c : Nat → ByteArray) (a b : Nat → Int) (n : Nat) (m q : Int) : Nat → ByteArray := tl (dcR c a b n m q)
theorem caN_le {c : Nat → ByteArray} {a b : Nat → Int} {n : Nat} {m : Int} : caN c a b n m ≤ 1048576 := by
  unfold caN caR
  split
  · rename_i h
    simp only [caOk, Bool.and_eq_true] at h
    have := (pd_facts h.1).1
    have h1 := putAll_le (L := sel c (caP a b m) n)
    have h2 := sel_len (c := c) (p := caP a b m) (k := n)
    omega
  · simp
theorem dcN_le {c : Nat → ByteArray} {a b : Nat → Int} {n : Nat} {m q : Int} : dcN c a b n m q ≤ 1048576 := by
  unfold dcN dcR
  split
  · rename_i h
    simp only [dcOk, Bool.and_eq_true] at h
    have := (pd_facts h.1.1).1
    have h1 := putAll_le (L := sel c (dcP c a b n m q) n)
    have h2 := sel_len (c := c) (p := dcP c a b n m q) (k := n)
    omega
  · simp
theorem CrRes.own {R : List (List UInt8)} {ok : Bool} {w w' : World} {e : Ending} (h : CrRes R ok w e w') : ∃ v', e = .returned (.tuple #[v', .bool ok]) ∧ Own w' w.heap.size w'.heap.size 9 1 v' R.length R.length (sC (tl R)) ∧ Below w.heap.size w w' := by
  obtain ⟨v', h1, h2, h3⟩ := h
  exact ⟨v', h1, h2.own, h3⟩
set_option maxRecDepth 100000 in
set_option maxHeartbeats 3200000 in
theorem CrewsAt_specR (c : Nat → ByteArray) (a b : Nat → Int) (n : Nat) (m : Int) (lo hi : Nat) (v : Value) (w : World) (hv : Sl w lo hi 3 v n (siiC c a b)) (hhi : hi ≤ w.heap.size) (hf : pfits c n) :
    Calls Try.prog 11 #[v, .int .i64 m] w (CrRes (caR c a b n m) (caOk c a b n m) w) := by
  obtain ⟨A, cap, rfl, hcap, hA⟩ := hv.open_
  have hn := hf.1
  cases hc1_0 : pdB c a b n with
  | false =>
    have HX : Hid (caOk c a b n m = false) := by show _ = _; simp [caOk, *]
    have HR : Hid (caR c a b n m = []) := by show _ = _; rw [caR, HX.out]; rfl
    go_enter Try.func11, Try.ntmps11
    go_wp2_with (first | (go_at_call 40; refine (rfGood_any c a b n lo hi _ _ hv hhi hf).mono ?_; rintro e w1 ⟨rfl, hb1⟩; have hz1 := hb1.size; (try (simp at hz1)); obtain ⟨hcw1, hfw1⟩ := bcell hb1; (try (have hy1 : w.heap.size < w1.heap.size := by omega)); (try (have hyy1 : w.heap.size + 1 < w1.heap.size := by omega)); (try (have hyyy1 : w.heap.size + 1 + 1 < w1.heap.size := by omega))) | (go_at_call 41; refine (rfMinute_any _ _).mono ?_; rintro e w' ⟨rfl, rfl⟩) | (go_at_call 49; refine (rfMost_any _ _).mono ?_; rintro e w' ⟨rfl, rfl⟩))
    go_ret2
    rw [HX.out, HR.out]
    exact cr_nil (by repeat (first | (with_reducible exact Below.refl _ _) | (with_reducible refine below_ov ?_ ?_) | (with_reducible refine Below.setCell ?_ ?_ _) | (with_reducible refine Below.alloc ?_ ?_ _) | (with_reducible refine Below.drew ?_) | (with_reducible refine below_drewN ?_ _) | (refine Below.trans ?_ (Below.mono ‹Below _ _ _› (by first | omega | (simp; done) | (simp; omega)))) | exact Below.refl _ _ | omega | (focus (simp; done)) | (focus (simp; omega))))
  | true =>
    cases hc1_1 : inB m 0 9999 with
    | false =>
      have HX : Hid (caOk c a b n m = false) := by show _ = _; simp [caOk, *]
      have HR : Hid (caR c a b n m = []) := by show _ = _; rw [caR, HX.out]; rfl
      go_enter Try.func11, Try.ntmps11
      go_wp2_with (first | (go_at_call 40; refine (rfGood_any c a b n lo hi _ _ hv hhi hf).mono ?_; rintro e w1 ⟨rfl, hb1⟩; have hz1 := hb1.size; (try (simp at hz1)); obtain ⟨hcw1, hfw1⟩ := bcell hb1; (try (have hy1 : w.heap.size < w1.heap.size := by omega)); (try (have hyy1 : w.heap.size + 1 < w1.heap.size := by omega)); (try (have hyyy1 : w.heap.size + 1 + 1 < w1.heap.size := by omega))) | (go_at_call 41; refine (rfMinute_any _ _).mono ?_; rintro e w' ⟨rfl, rfl⟩) | (go_at_call 49; refine (rfMost_any _ _).mono ?_; rintro e w' ⟨rfl, rfl⟩))
      go_ret2
      rw [HX.out, HR.out]
      exact cr_nil (by repeat (first | (with_reducible exact Below.refl _ _) | (with_reducible refine below_ov ?_ ?_) | (with_reducible refine Below.setCell ?_ ?_ _) | (with_reducible refine Below.alloc ?_ ?_ _) | (with_reducible refine Below.drew ?_) | (with_reducible refine below_drewN ?_ _) | (refine Below.trans ?_ (Below.mono ‹Below _ _ _› (by first | omega | (simp; done) | (simp; omega)))) | exact Below.refl _ _ | omega | (focus (simp; done)) | (focus (simp; omega))))
    | true =>
      obtain ⟨hc1_1l, hc1_1r⟩ := inB_iff.1 hc1_1
      have HX : Hid (caOk c a b n m = true) := by show _ = _; simp [caOk, *]
      have HP : Hid (pdB c a b n = true) := by show _ = _; assumption
      have HR : Hid (caR c a b n m = putAll (sel c (caP a b m) n)) := by show _ = _; rw [caR, if_pos HX.out]
      go_enter Try.func11, Try.ntmps11
      go_wp2_with (first | (go_at_call 40; refine (rfGood_any c a b n lo hi _ _ hv hhi hf).mono ?_; rintro e w1 ⟨rfl, hb1⟩; have hz1 := hb1.size; (try (simp at hz1)); obtain ⟨hcw1, hfw1⟩ := bcell hb1; (try (have hy1 : w.heap.size < w1.heap.size := by omega)); (try (have hyy1 : w.heap.size + 1 < w1.heap.size := by omega)); (try (have hyyy1 : w.heap.size + 1 + 1 < w1.heap.size := by omega))) | (go_at_call 41; refine (rfMinute_any _ _).mono ?_; rintro e w' ⟨rfl, rfl⟩) | (go_at_call 49; refine (rfMost_any _ _).mono ?_; rintro e w' ⟨rfl, rfl⟩))
      have hb0 : Below w.heap.size w w1 := (by repeat (first | (with_reducible exact Below.refl _ _) | (with_reducible refine below_ov ?_ ?_) | (with_reducible refine Below.setCell ?_ ?_ _) | (with_reducible refine Below.alloc ?_ ?_ _) | (with_reducible refine Below.drew ?_) | (with_reducible refine below_drewN ?_ _) | (refine Below.trans ?_ (Below.mono ‹Below _ _ _› (by first | omega | (simp; done) | (simp; omega)))) | exact Below.refl _ _ | omega | (focus (simp; done)) | (focus (simp; omega))))
      go_loopw [6, 19] (fun o i wr => ∃ k : Nat, k ≤ n ∧ i = .int .i64 k ∧ Hid (TRow wr w.heap.size o (putAll (sel c (caP a b m) k))) ∧ Below w.heap.size w wr) (fun _ i _ => n - (intOf i).toNat)
      case atStart => exact ⟨0, by omega, rfl, World.ownsRow_nil _ _ _ _, hb0⟩
      case round =>
        obtain ⟨k, hk, rfl, hown, hb⟩ := hrel
        have hzr := hb.size
        have hn12 := (pd_facts HP.out).1
        have hL : (putAll (sel c (caP a b m) k)).length ≤ 64 := by
          have h1 := putAll_le (L := sel c (caP a b m) k)
          have h2 := sel_len (c := c) (p := caP a b m) (k := k)
          omega
        by_cases hkn : k < n
        · obtain ⟨blk, off, rfl, h1, h2, h3⟩ := (hA.below hb (by omega)) (by omega)
          have c0 : wr.cell? ⟨blk, off + k * 3, none⟩ = some (.string (c k)) := h3 k 0 hkn (by omega)
          have c1 : wr.cell? ⟨blk, off + k * 3 + 1, none⟩ = some (.int .i64 (a k)) := h3 k 1 hkn (by omega)
          have c2 : wr.cell? ⟨blk, off + k * 3 + 2, none⟩ = some (.int .i64 (b k)) := h3 k 2 hkn (by omega)
          have l0 : blk < wr.heap.size := by omega
          clear h3 hA
          have hpk := (perB_iff.1 ((pd_facts HP.out).2 k hkn).1).2
          cases e5 : inB m (a k) (b k - 1) with
          | true =>
            have hs := sel_yes (c := c) (p := caP a b m) (k := k) e5
            have HS : Hid (putAll (sel c (caP a b m) (k + 1)) = putL (c k).toList (putAll (sel c (caP a b m) k))) := by show _ = _; rw [hs, putAll_snoc]
            go_wp2_with (go_at_call 42; refine (l1In_any _ _ _ _).mono ?_; rintro e w' ⟨rfl, rfl⟩)
            refine (rfPut_any (putAll (sel c (caP a b m) k)) (c k) w.heap.size _ _ (hown.out.alloc _) (by simp; omega) hL).mono ?_
            rintro e w5 ⟨v5, rfl, ho5, hb5⟩
            have hz5 := hb5.size
            (try (simp at hz5))
            go_wp2_with fail
            go_roundw
            case rel => exact ⟨k + 1, by omega, by go_num, by rw [HS.out]; exact ho5, (by repeat (first | (with_reducible exact Below.refl _ _) | (with_reducible refine below_ov ?_ ?_) | (with_reducible refine Below.setCell ?_ ?_ _) | (with_reducible refine Below.alloc ?_ ?_ _) | (with_reducible refine Below.drew ?_) | (with_reducible refine below_drewN ?_ _) | (refine Below.trans ?_ (Below.mono ‹Below _ _ _› (by first | omega | (simp; done) | (simp; omega)))) | exact Below.refl _ _ | omega | (focus (simp; done)) | (focus (simp; omega))))⟩
            case measure => simp [intOf]; omega
          | false =>
            have hs := sel_no (c := c) (p := caP a b m) (k := k) e5
            go_wp2_with (go_at_call 42; refine (l1In_any _ _ _ _).mono ?_; rintro e w' ⟨rfl, rfl⟩)
            go_roundw
            case rel => exact ⟨k + 1, by omega, by go_num, by rw [hs]; exact hown.out.alloc _, (by repeat (first | (with_reducible exact Below.refl _ _) | (with_reducible refine below_ov ?_ ?_) | (with_reducible refine Below.setCell ?_ ?_ _) | (with_reducible refine Below.alloc ?_ ?_ _) | (with_reducible refine Below.drew ?_) | (with_reducible refine below_drewN ?_ _) | (refine Below.trans ?_ (Below.mono ‹Below _ _ _› (by first | omega | (simp; done) | (simp; omega)))) | exact Below.refl _ _ | omega | (focus (simp; done)) | (focus (simp; omega))))⟩
            case measure => simp [intOf]; omega
        · obtain rfl : k = n := by omega
          go_wp2_with fail
          go_ret2
          rw [HX.out, HR.out]
          exact ⟨_, rfl, hown.out, hb⟩
theorem CrewsAt_spec (c : Nat → ByteArray) (a b : Nat → Int) (n : Nat) (m : Int) (lo hi : Nat) (v : Value) (w : World) (hv : Sl w lo hi 3 v n (siiC c a b)) (hhi : hi ≤ w.heap.size) (hf : pfits c n) :
    Calls Try.prog 11 #[v, .int .i64 m] w fun e w' => ∃ v', e = .returned (.tuple #[v', .bool (caOk c a b n m)]) ∧ Own w' w.heap.size w'.heap.size 9 1 v' (caN c a b n m) (caN c a b n m) (sC (caS c a b n m)) ∧ Below w.heap.size w w' :=
  (CrewsAt_specR c a b n m lo hi v w hv hhi hf).mono fun _ _ h => h.own
set_option maxRecDepth 100000 in
set_option maxHeartbeats 3200000 in
theorem DueCrews_specR (c : Nat → ByteArray) (a b : Nat → Int) (n : Nat) (m q : Int) (lo hi : Nat) (v : Value) (w : World) (hv : Sl w lo hi 3 v n (siiC c a b)) (hhi : hi ≤ w.heap.size) (hf : pfits c n) :
    Calls Try.prog 18 #[v, .int .i64 m, .int .i64 q] w (CrRes (dcR c a b n m q) (dcOk c a b n m q) w) := by
  obtain ⟨A, cap, rfl, hcap, hA⟩ := hv.open_
  have hn := hf.1
  cases hc2_0 : pdB c a b n with
  | false =>
    have HX : Hid (dcOk c a b n m q = false) := by show _ = _; simp [dcOk, *]
    have HR : Hid (dcR c a b n m q = []) := by show _ = _; rw [dcR, HX.out]; rfl
    go_enter Try.func18, Try.ntmps18
    go_wp2_with (first | (go_at_call 40; refine (rfGood_any c a b n lo hi _ _ hv hhi hf).mono ?_; rintro e w1 ⟨rfl, hb1⟩; have hz1 := hb1.size; (try (simp at hz1)); obtain ⟨hcw1, hfw1⟩ := bcell hb1; (try (have hy1 : w.heap.size < w1.heap.size := by omega)); (try (have hyy1 : w.heap.size + 1 < w1.heap.size := by omega)); (try (have hyyy1 : w.heap.size + 1 + 1 < w1.heap.size := by omega))) | (go_at_call 41; refine (rfMinute_any _ _).mono ?_; rintro e w' ⟨rfl, rfl⟩) | (go_at_call 49; refine (rfMost_any _ _).mono ?_; rintro e w' ⟨rfl, rfl⟩))
    go_ret2
    rw [HX.out, HR.out]
    exact cr_nil (by repeat (first | (with_reducible exact Below.refl _ _) | (with_reducible refine below_ov ?_ ?_) | (with_reducible refine Below.setCell ?_ ?_ _) | (with_reducible refine Below.alloc ?_ ?_ _) | (with_reducible refine Below.drew ?_) | (with_reducible refine below_drewN ?_ _) | (refine Below.trans ?_ (Below.mono ‹Below _ _ _› (by first | omega | (simp; done) | (simp; omega)))) | exact Below.refl _ _ | omega | (focus (simp; done)) | (focus (simp; omega))))
  | true =>
    cases hc2_1 : inB m 0 9999 with
    | false =>
      have HX : Hid (dcOk c a b n m q = false) := by show _ = _; simp [dcOk, *]
      have HR : Hid (dcR c a b n m q = []) := by show _ = _; rw [dcR, HX.out]; rfl
      go_enter Try.func18, Try.ntmps18
      go_wp2_with (first | (go_at_call 40; refine (rfGood_any c a b n lo hi _ _ hv hhi hf).mono ?_; rintro e w1 ⟨rfl, hb1⟩; have hz1 := hb1.size; (try (simp at hz1)); obtain ⟨hcw1, hfw1⟩ := bcell hb1; (try (have hy1 : w.heap.size < w1.heap.size := by omega)); (try (have hyy1 : w.heap.size + 1 < w1.heap.size := by omega)); (try (have hyyy1 : w.heap.size + 1 + 1 < w1.heap.size := by omega))) | (go_at_call 41; refine (rfMinute_any _ _).mono ?_; rintro e w' ⟨rfl, rfl⟩) | (go_at_call 49; refine (rfMost_any _ _).mono ?_; rintro e w' ⟨rfl, rfl⟩))
      go_ret2
      rw [HX.out, HR.out]
      exact cr_nil (by repeat (first | (with_reducible exact Below.refl _ _) | (with_reducible refine below_ov ?_ ?_) | (with_reducible refine Below.setCell ?_ ?_ _) | (with_reducible refine Below.alloc ?_ ?_ _) | (with_reducible refine Below.drew ?_) | (with_reducible refine below_drewN ?_ _) | (refine Below.trans ?_ (Below.mono ‹Below _ _ _› (by first | omega | (simp; done) | (simp; omega)))) | exact Below.refl _ _ | omega | (focus (simp; done)) | (focus (simp; omega))))
    | true =>
      obtain ⟨hc2_1l, hc2_1r⟩ := inB_iff.1 hc2_1
      cases hc2_2 : inB q 1 720 with
      | false =>
        have HX : Hid (dcOk c a b n m q = false) := by show _ = _; simp [dcOk, *]
        have HR : Hid (dcR c a b n m q = []) := by show _ = _; rw [dcR, HX.out]; rfl
        go_enter Try.func18, Try.ntmps18
        go_wp2_with (first | (go_at_call 40; refine (rfGood_any c a b n lo hi _ _ hv hhi hf).mono ?_; rintro e w1 ⟨rfl, hb1⟩; have hz1 := hb1.size; (try (simp at hz1)); obtain ⟨hcw1, hfw1⟩ := bcell hb1; (try (have hy1 : w.heap.size < w1.heap.size := by omega)); (try (have hyy1 : w.heap.size + 1 < w1.heap.size := by omega)); (try (have hyyy1 : w.heap.size + 1 + 1 < w1.heap.size := by omega))) | (go_at_call 41; refine (rfMinute_any _ _).mono ?_; rintro e w' ⟨rfl, rfl⟩) | (go_at_call 49; refine (rfMost_any _ _).mono ?_; rintro e w' ⟨rfl, rfl⟩))
        go_ret2
        rw [HX.out, HR.out]
        exact cr_nil (by repeat (first | (with_reducible exact Below.refl _ _) | (with_reducible refine below_ov ?_ ?_) | (with_reducible refine Below.setCell ?_ ?_ _) | (with_reducible refine Below.alloc ?_ ?_ _) | (with_reducible refine Below.drew ?_) | (with_reducible refine below_drewN ?_ _) | (refine Below.trans ?_ (Below.mono ‹Below _ _ _› (by first | omega | (simp; done) | (simp; omega)))) | exact Below.refl _ _ | omega | (focus (simp; done)) | (focus (simp; omega))))
      | true =>
        obtain ⟨hc2_2l, hc2_2r⟩ := inB_iff.1 hc2_2
        have HX : Hid (dcOk c a b n m q = true) := by show _ = _; simp [dcOk, *]
        have HP : Hid (pdB c a b n = true) := by show _ = _; assumption
        have HR : Hid (dcR c a b n m q = putAll (sel c (dcP c a b n m q) n)) := by show _ = _; rw [dcR, if_pos HX.out]
        go_enter Try.func18, Try.ntmps18
        go_wp2_with (first | (go_at_call 40; refine (rfGood_any c a b n lo hi _ _ hv hhi hf).mono ?_; rintro e w1 ⟨rfl, hb1⟩; have hz1 := hb1.size; (try (simp at hz1)); obtain ⟨hcw1, hfw1⟩ := bcell hb1; (try (have hy1 : w.heap.size < w1.heap.size := by omega)); (try (have hyy1 : w.heap.size + 1 < w1.heap.size := by omega)); (try (have hyyy1 : w.heap.size + 1 + 1 < w1.heap.size := by omega))) | (go_at_call 41; refine (rfMinute_any _ _).mono ?_; rintro e w' ⟨rfl, rfl⟩) | (go_at_call 49; refine (rfMost_any _ _).mono ?_; rintro e w' ⟨rfl, rfl⟩))
        have hb0 : Below w.heap.size w w1 := (by repeat (first | (with_reducible exact Below.refl _ _) | (with_reducible refine below_ov ?_ ?_) | (with_reducible refine Below.setCell ?_ ?_ _) | (with_reducible refine Below.alloc ?_ ?_ _) | (with_reducible refine Below.drew ?_) | (with_reducible refine below_drewN ?_ _) | (refine Below.trans ?_ (Below.mono ‹Below _ _ _› (by first | omega | (simp; done) | (simp; omega)))) | exact Below.refl _ _ | omega | (focus (simp; done)) | (focus (simp; omega))))
        go_loopw [8, 26] (fun o i wr => ∃ k : Nat, k ≤ n ∧ i = .int .i64 k ∧ Hid (TRow wr w.heap.size o (putAll (sel c (dcP c a b n m q) k))) ∧ Below w.heap.size w wr) (fun _ i _ => n - (intOf i).toNat)
        case atStart => exact ⟨0, by omega, rfl, World.ownsRow_nil _ _ _ _, hb0⟩
        case round =>
          obtain ⟨k, hk, rfl, hown, hb⟩ := hrel
          have hzr := hb.size
          have hn12 := (pd_facts HP.out).1
          have hL : (putAll (sel c (dcP c a b n m q) k)).length ≤ 64 := by
            have h1 := putAll_le (L := sel c (dcP c a b n m q) k)
            have h2 := sel_len (c := c) (p := dcP c a b n m q) (k := k)
            omega
          by_cases hkn : k < n
          · obtain ⟨blk, off, rfl, h1, h2, h3⟩ := (hA.below hb (by omega)) (by omega)
            have c0 : wr.cell? ⟨blk, off + k * 3, none⟩ = some (.string (c k)) := h3 k 0 hkn (by omega)
            have c1 : wr.cell? ⟨blk, off + k * 3 + 1, none⟩ = some (.int .i64 (a k)) := h3 k 1 hkn (by omega)
            have c2 : wr.cell? ⟨blk, off + k * 3 + 2, none⟩ = some (.int .i64 (b k)) := h3 k 2 hkn (by omega)
            have l0 : blk < wr.heap.size := by omega
            clear h3 hA
            have hpk := (perB_iff.1 ((pd_facts HP.out).2 k hkn).1).2
            have hP := HP.out
            go_wp2_with fail
            refine (rfDue_any c a b n (c k) m q lo hi _ _ (hv.below (B := w.heap.size) (by repeat (first | (with_reducible exact Below.refl _ _) | (with_reducible refine below_ov ?_ ?_) | (with_reducible refine Below.setCell ?_ ?_ _) | (with_reducible refine Below.alloc ?_ ?_ _) | (with_reducible refine Below.drew ?_) | (with_reducible refine below_drewN ?_ _) | (refine Below.trans ?_ (Below.mono ‹Below _ _ _› (by first | omega | (simp; done) | (simp; omega)))) | exact Below.refl _ _ | omega | (focus (simp; done)) | (focus (simp; omega)))) hhi) (by simp; omega) hn HP.out (by omega) (by omega)).mono ?_
            rintro e w4 ⟨rfl, hb4⟩
            have hz4 := hb4.size
            (try (simp at hz4))
            have ho4 := hide (row_below (hown.out.alloc _) hb4 (Nat.le_refl _))
            have pa := (hb4.cell (p := ⟨wr.heap.size, 0, none⟩) (by simp)).trans (World.cell?_alloc_new _ _ _ _)
            simp at pa
            have l4 : wr.heap.size < w4.heap.size := by omega
            cases e5 : dueB c a b (c k) m n q with
            | true =>
              have hs := sel_yes (c := c) (p := dcP c a b n m q) (k := k) e5
              have HS : Hid (putAll (sel c (dcP c a b n m q) (k + 1)) = putL (c k).toList (putAll (sel c (dcP c a b n m q) k))) := by show _ = _; rw [hs, putAll_snoc]
              go_wp2_with fail
              refine (rfPut_any (putAll (sel c (dcP c a b n m q) k)) (c k) w.heap.size _ _ ho4.out (by omega) hL).mono ?_
              rintro e w5 ⟨v5, rfl, ho5, hb5⟩
              have hz5 := hb5.size
              go_wp2_with fail
              go_roundw
              case rel => exact ⟨k + 1, by omega, by go_num, by rw [HS.out]; exact ho5, (by repeat (first | (with_reducible exact Below.refl _ _) | (with_reducible refine below_ov ?_ ?_) | (with_reducible refine Below.setCell ?_ ?_ _) | (with_reducible refine Below.alloc ?_ ?_ _) | (with_reducible refine Below.drew ?_) | (with_reducible refine below_drewN ?_ _) | (refine Below.trans ?_ (Below.mono ‹Below _ _ _› (by first | omega | (simp; done) | (simp; omega)))) | exact Below.refl _ _ | omega | (focus (simp; done)) | (focus (simp; omega))))⟩
              case measure => simp [intOf]; omega
            | false =>
              have hs := sel_no (c := c) (p := dcP c a b n m q) (k := k) e5
              go_wp2_with fail
              go_roundw
              case rel => exact ⟨k + 1, by omega, by go_num, by rw [hs]; exact ho4.out, (by repeat (first | (with_reducible exact Below.refl _ _) | (with_reducible refine below_ov ?_ ?_) | (with_reducible refine Below.setCell ?_ ?_ _) | (with_reducible refine Below.alloc ?_ ?_ _) | (with_reducible refine Below.drew ?_) | (with_reducible refine below_drewN ?_ _) | (refine Below.trans ?_ (Below.mono ‹Below _ _ _› (by first | omega | (simp; done) | (simp; omega)))) | exact Below.refl _ _ | omega | (focus (simp; done)) | (focus (simp; omega))))⟩
              case measure => simp [intOf]; omega
          · obtain rfl : k = n := by omega
            go_wp2_with fail
            go_ret2
            rw [HX.out, HR.out]
            exact ⟨_, rfl, hown.out, hb⟩
theorem DueCrews_spec (c : Nat → ByteArray) (a b : Nat → Int) (n : Nat) (m q : Int) (lo hi : Nat) (v : Value) (w : World) (hv : Sl w lo hi 3 v n (siiC c a b)) (hhi : hi ≤ w.heap.size) (hf : pfits c n) :
    Calls Try.prog 18 #[v, .int .i64 m, .int .i64 q] w fun e w' => ∃ v', e = .returned (.tuple #[v', .bool (dcOk c a b n m q)]) ∧ Own w' w.heap.size w'.heap.size 9 1 v' (dcN c a b n m q) (dcN c a b n m q) (sC (dcS c a b n m q)) ∧ Below w.heap.size w w' :=
  (DueCrews_specR c a b n m q lo hi v w hv hhi hf).mono fun _ _ h => h.own

end Go.Proofs.Ythchfnkljmoenaa
