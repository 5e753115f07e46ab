/-
  Texts of this proof, one behind the other (part 10).
-/
import Derived.Test.YtnmmkechkcfjnaaGreatDoorQ9
import Derived.OpenShut
import Derived.Carry
import Derived.SizedLaws
import Derived.Lib.SmallJoins
import Derived.Deep.Slices
import Derived.Deep.Fields
import Derived.ChangeMaps5
/-
  Walks: the indices of periods behind short rests.-/
namespace Go.Proofs.YtnmmkechkcfjnaaGreatDoor
set_option linter.unusedVariables false
set_option linter.unusedSimpArgs false
open Go.RowKit

def srP (c : Nat → ByteArray) (a b : Nat → Int) (q : Int) (i : Nat) : Bool := decide (0 ≤ befI c i) && inB (a i - b (befI c i).toNat) 1 (q - 1)
theorem infoIntN : (Tryz.prog.info? 3).map (fun i => (i.zero, i.size, i.bytes)) = some (some (.int .i64 0), 1, 8) := by kernel_rfl
def srOk (c : Nat → ByteArray) (a b : Nat → Int) (n : Nat) (q : Int) : Bool := pdB c a b n && inB q 0 720
def srQ (c : Nat → ByteArray) (a b : Nat → Int) (n : Nat) (q : Int) (i : Nat) : Bool := srOk c a b n q && srP c a b q i
theorem srQ_no {c : Nat → ByteArray} {a b : Nat → Int} {n : Nat} {q : Int} (h : srOk c a b n q = false) : ∀ k, flt (srQ c a b n q) k = []
  | 0 => rfl
  | k + 1 => by rw [flt_no (by simp [srQ, h]), srQ_no h k]
theorem srQ_at {c : Nat → ByteArray} {a b : Nat → Int} {n : Nat} {q : Int} {i : Nat} (h : srOk c a b n q = true) : srQ c a b n q i = srP c a b q i := by simp [srQ, h]
/-- What the call hands back. -/
def IdxRes (p : Nat → Bool) (n : Nat) (ok : Bool) (w : World) (e : Ending) (w' : World) : Prop := ∃ v', e = .returned (.tuple #[v', .bool ok]) ∧ Own w' w.heap.size w'.heap.size 3 1 v' (flt p n).length (flt p n).length (iC (fltI p n)) ∧ Below w.heap.size w w'
theorem idx_nil {p : Nat → Bool} {n : Nat} {w w' : World} (h : flt p n = []) (hb : Below w.heap.size w w') : IdxRes p n false w (.returned (.tuple #[.slice none 0 0, .bool false])) w' :=
  ⟨_, rfl, by rw [h]; exact Own.nil_ _ _ _ _ _ _, hb⟩
set_option maxRecDepth 100000 in
set_option maxHeartbeats 1600000 in
theorem ShortRests_impl (c : Nat → ByteArray) (a b : Nat → Int) (n : Nat) (q : Int) (lo hi : Nat) (v : Value) (w : World) (hv : Sl w lo hi 3 v n (siiC c a b)) (hhi : hi ≤ w.heap.size) (hf : pfits c n) :
    Calls Tryz.prog 11 #[v, .int .i64 q] w (IdxRes (srQ c a b n q) n (srOk c a b n q) w) := by
  obtain ⟨A, cap, rfl, hcap, hA⟩ := hv.open_
  have hn := hf.1
  obtain ⟨ii, hii, iz0, iz1, iz2⟩ := info_parts infoIntN
  cases hc2_0 : pdB c a b n with
  | false =>
    have HX : Hid (srOk c a b n q = false) := by show _ = _; simp [srOk, *]
    go_enter Tryz.func11, Tryz.ntmps11
    go_wp2_with (first | (go_at_call 41; refine (arePeriods_any c a b n lo hi _ _ hv hhi hf).mono ?_; rintro e w1 ⟨rfl, hb1⟩; have hz1 := hb1.size; (try (simp at hz1)); obtain ⟨hcw1, hfw1⟩ := bcell hb1; (try (have hy1 : w.heap.size < w1.heap.size := by omega)); (try (have hyy1 : w.heap.size + 1 < w1.heap.size := by omega)); (try (have hyyy1 : w.heap.size + 1 + 1 < w1.heap.size := by omega))) | (go_at_call 32; refine (inside_any _ _ _ _).mono ?_; rintro e w' ⟨rfl, rfl⟩))
    go_ret2
    rw [HX.out]
    exact idx_nil (srQ_no HX.out n) (by repeat (first | (with_reducible exact Below.refl _ _) | (with_reducible refine below_ov ?_ ?_) | (with_reducible refine Below.setCell ?_ ?_ _) | (with_reducible refine Below.alloc ?_ ?_ _) | (with_reducible refine Below.drew ?_) | (with_reducible refine below_drewN ?_ _) | (refine Below.trans ?_ (Below.mono ‹Below _ _ _› (by first | omega | (simp; done) | (simp; omega)))) | exact Below.refl _ _ | omega | (focus (simp; done)) | (focus (simp; omega))))
  | true =>
    cases hc2_1 : inB q 0 720 with
    | false =>
      have HX : Hid (srOk c a b n q = false) := by show _ = _; simp [srOk, *]
      go_enter Tryz.func11, Tryz.ntmps11
      go_wp2_with (first | (go_at_call 41; refine (arePeriods_any c a b n lo hi _ _ hv hhi hf).mono ?_; rintro e w1 ⟨rfl, hb1⟩; have hz1 := hb1.size; (try (simp at hz1)); obtain ⟨hcw1, hfw1⟩ := bcell hb1; (try (have hy1 : w.heap.size < w1.heap.size := by omega)); (try (have hyy1 : w.heap.size + 1 < w1.heap.size := by omega)); (try (have hyyy1 : w.heap.size + 1 + 1 < w1.heap.size := by omega))) | (go_at_call 32; refine (inside_any _ _ _ _).mono ?_; rintro e w' ⟨rfl, rfl⟩))
      go_ret2
      rw [HX.out]
      exact idx_nil (srQ_no HX.out n) (by repeat (first | (with_reducible exact Below.refl _ _) | (with_reducible refine below_ov ?_ ?_) | (with_reducible refine Below.setCell ?_ ?_ _) | (with_reducible refine Below.alloc ?_ ?_ _) | (with_reducible refine Below.drew ?_) | (with_reducible refine below_drewN ?_ _) | (refine Below.trans ?_ (Below.mono ‹Below _ _ _› (by first | omega | (simp; done) | (simp; omega)))) | exact Below.refl _ _ | omega | (focus (simp; done)) | (focus (simp; omega))))
    | true =>
      obtain ⟨hc2_1l, hc2_1r⟩ := inB_iff.1 hc2_1
      have HX : Hid (srOk c a b n q = true) := by show _ = _; simp [srOk, *]
      have HP : Hid (pdB c a b n = true) := by show _ = _; assumption
      go_enter Tryz.func11, Tryz.ntmps11
      go_wp2_with (first | (go_at_call 41; refine (arePeriods_any c a b n lo hi _ _ hv hhi hf).mono ?_; rintro e w1 ⟨rfl, hb1⟩; have hz1 := hb1.size; (try (simp at hz1)); obtain ⟨hcw1, hfw1⟩ := bcell hb1; (try (have hy1 : w.heap.size < w1.heap.size := by omega)); (try (have hyy1 : w.heap.size + 1 < w1.heap.size := by omega)); (try (have hyyy1 : w.heap.size + 1 + 1 < w1.heap.size := by omega))) | (go_at_call 32; refine (inside_any _ _ _ _).mono ?_; rintro e w' ⟨rfl, rfl⟩))
      have hb0 : Below w.heap.size w w1 := (by repeat (first | (with_reducible exact Below.refl _ _) | (with_reducible refine below_ov ?_ ?_) | (with_reducible refine Below.setCell ?_ ?_ _) | (with_reducible refine Below.alloc ?_ ?_ _) | (with_reducible refine Below.drew ?_) | (with_reducible refine below_drewN ?_ _) | (refine Below.trans ?_ (Below.mono ‹Below _ _ _› (by first | omega | (simp; done) | (simp; omega)))) | exact Below.refl _ _ | omega | (focus (simp; done)) | (focus (simp; omega))))
      go_loopw [6, 20] (fun o i wr => ∃ (k : Nat) (B : Option Addr) (cp : Nat), k ≤ n ∧ i = .int .i64 k ∧ o = .slice B (flt (srQ c a b n q) k).length cp ∧ Hid (wr.ownsRow w.heap.size 3 1 (.slice B (flt (srQ c a b n q) k).length cp) (flt (srQ c a b n q) k).length (fltV (srQ c a b n q) k)) ∧ Below w.heap.size w wr) (fun _ i _ => n - (intOf i).toNat)
      case atStart => exact ⟨0, none, 0, by omega, rfl, rfl, World.ownsRow_nil _ _ _ _, hb0⟩
      case round =>
        obtain ⟨k, B, cp, hk, rfl, rfl, hown, hb⟩ := hrel
        have hzr := hb.size
        have hfl := flt_len (srQ c a b n q) k
        by_cases hkn : k < n
        · obtain ⟨blk, off, rfl, h1, h2, h3⟩ := (hA.below hb (by omega)) (by omega)
          have c0 : wr.cell? ⟨blk, off + k * 3, none⟩ = some (.string (c k)) := h3 k 0 hkn (by omega)
          have c1 : wr.cell? ⟨blk, off + k * 3 + 1, none⟩ = some (.int .i64 (a k)) := h3 k 1 hkn (by omega)
          have c2 : wr.cell? ⟨blk, off + k * 3 + 2, none⟩ = some (.int .i64 (b k)) := h3 k 2 hkn (by omega)
          have H3 := hide h3
          have l0 : blk < wr.heap.size := by omega
          clear h3 hA
          have hpk := (perB_iff.1 ((pd_facts HP.out).2 k hkn).1).2
          have hn12 := (pd_facts HP.out).1
          have hbd : -1 ≤ befI c k ∧ befI c k < k := lstI_bd _ _
          go_wp2_with fail
          refine (periodBefore_any c a b n k lo hi _ _ (hv.below (B := w.heap.size) (by repeat (first | (with_reducible exact Below.refl _ _) | (with_reducible refine below_ov ?_ ?_) | (with_reducible refine Below.setCell ?_ ?_ _) | (with_reducible refine Below.alloc ?_ ?_ _) | (with_reducible refine Below.drew ?_) | (with_reducible refine below_drewN ?_ _) | (refine Below.trans ?_ (Below.mono ‹Below _ _ _› (by first | omega | (simp; done) | (simp; omega)))) | exact Below.refl _ _ | omega | (focus (simp; done)) | (focus (simp; omega)))) hhi) (by first | omega | (simp; done) | (simp; omega)) hn hkn).mono ?_
          rintro e w4 ⟨rfl, hb4⟩
          have hz4 := hb4.size
          (try (simp at hz4))
          have ho4 := hide (row_below ((hown.out).alloc _) hb4 (Nat.le_refl _))
          have l4 : wr.heap.size < w4.heap.size := by omega
          have l7 : blk < w4.heap.size := by omega
          have pa1 := (hb4.cell (p := ⟨wr.heap.size, 1, none⟩) (by simp)).trans (World.cell?_alloc_new _ _ _ _)
          simp at pa1
          by_cases hlt : befI c k < 0
          · have E4 : Hid (decide (0 ≤ befI c k) = false) := decide_eq_false (by omega)
            have d0 : decide (befI c k ≥ 0) = false := decide_eq_false (by omega)
            have hT : srQ c a b n q k = false := by rw [srQ_at HX.out]; simp [srP, E4.out]
            have HL : Hid ((flt (srQ c a b n q) (k + 1)) = flt (srQ c a b n q) k) := by show _ = _; rw [flt_no hT]
            have HV : Hid (fltV (srQ c a b n q) (k + 1) = fltV (srQ c a b n q) k) := by show _ = _; rw [fltV, flt_no hT]; rfl
            clear hT
            go_wp2_with fail
            go_quiet ((go_at_call 32; first | exact quiet_left (inside_any _ _ _ _) | exact quiet_add_left (inside_any _ _ _ _)))
            go_wp2_with fail
            go_roundw
            case rel => exact ⟨k + 1, B, cp, by omega, by go_num, by rw [HL.out], by rw [HL.out, HV.out]; exact ho4, (by repeat (first | (with_reducible exact Below.refl _ _) | (with_reducible refine below_ov ?_ ?_) | (with_reducible refine Below.setCell ?_ ?_ _) | (with_reducible refine Below.alloc ?_ ?_ _) | (with_reducible refine Below.drew ?_) | (with_reducible refine below_drewN ?_ _) | (refine Below.trans ?_ (Below.mono ‹Below _ _ _› (by first | omega | (simp; done) | (simp; omega)))) | exact Below.refl _ _ | omega | (focus (simp; done)) | (focus (simp; omega))))⟩
            case measure => simp [intOf]; omega
          · obtain ⟨j, hjj⟩ : ∃ j : Nat, befI c k = j := ⟨(befI c k).toNat, by omega⟩
            have hjk : j < k := (befI_facts hjj).1
            have JJ := hide hjj
            have hpj := (perB_iff.1 ((pd_facts HP.out).2 j (by omega)).1).2
            have pj : w4.cell? ⟨blk, off + j * 3 + 2, none⟩ = some (.int .i64 (b j)) := (hb4.cell (p := ⟨blk, off + j * 3 + 2, none⟩) (by simp; omega)).trans ((World.cell?_alloc_lt _ _ _ l0).trans (H3.out j 2 (by omega) (by omega)))
            have q0 : (0 : Int) ≤ (j : Int) := by omega
            have q1 : (j : Int) < (n : Int) := by omega
            rw [hjj]
            clear hjj hlt hbd
            cases e5 : inB (a k - b j) 1 (q - 1) with
            | true =>
              have E4 : Hid (0 ≤ befI c k ∧ inB (a k - b (befI c k).toNat) 1 (q - 1) = true) := ⟨by rw [JJ.out]; omega, by rw [JJ.out, Int.toNat_natCast]; exact e5⟩
              have hT : srQ c a b n q k = true := by rw [srQ_at HX.out]; simp [srP, E4.out]
              have HL : Hid ((flt (srQ c a b n q) (k + 1)).length = (flt (srQ c a b n q) k).length + 1) := by show _ = _; rw [flt_yes hT]; simp
              have HV : Hid (fltV (srQ c a b n q) (k + 1) = fltV (srQ c a b n q) k ++ [.int .i64 (k : Int)]) := by show _ = _; rw [fltV, flt_yes hT]; simp [fltV]
              clear hT
              go_wp2_with fail
              (refine wp_region_below_lit (by kernel_rfl) (by kernel_rfl) ?_; (repeat (first | go_big_quiet_step ((go_at_call 32; exact quiet_ov_same (inside_any _ _ _ _))) | quiet_step ((go_at_call 32; exact quiet_ov_same (inside_any _ _ _ _))))); refine wpQuiet_nil ?_; intro w6 hb6; have hz6 := hb6.size; (try (simp at hz6)); obtain ⟨hcw6, hfw6⟩ := bcell hb6; (try (have hy6 : w.heap.size < w6.heap.size := by omega)); (try (have hyy6 : w.heap.size + 1 < w6.heap.size := by omega)))
              have ho6 := hide (row_below ho4.out hb6 (Nat.le_refl _))
              go_wp2_with (at_builtin; refine wpList_append_own _ rfl _ _ 33 rfl w.heap.size 3 ii (.int .i64 0) 1 8 Tryz.underlying33 hii iz0 iz1 iz2 rfl (by decide) _ _ _ rfl (ho6.out.alloc _) ⟨w6.heap.size, 0, none⟩ 1 1 [.int .i64 (k : Int)] rfl rfl ?_ ?_ ?_ ?_ ?_ ?_)
              · intro i u hu
                match i, hu with
                | 0, hu => simp at hu; subst hu; simp [go_sem, Addr.add]
              · intro u hu; simp at hu; subst hu; rfl
              · unfold maxLen; omega
              · omega
              · simp; omega
              intro v' w5 hown5 hg5 _
              have hb4w : Below w.heap.size w w6 := (by repeat (first | (with_reducible exact Below.refl _ _) | (with_reducible refine below_ov ?_ ?_) | (with_reducible refine Below.setCell ?_ ?_ _) | (with_reducible refine Below.alloc ?_ ?_ _) | (with_reducible refine Below.drew ?_) | (with_reducible refine below_drewN ?_ _) | (refine Below.trans ?_ (Below.mono ‹Below _ _ _› (by first | omega | (simp; done) | (simp; omega)))) | exact Below.refl _ _ | omega | (focus (simp; done)) | (focus (simp; omega))))
              have hb5 : Below w.heap.size w w5 := (hb4w.alloc (by omega) _).grown hg5 (by simp; omega) (fun g hg => (ho6.out.lt g hg).1)
              have hz5 := hb5.size
              obtain ⟨B2, cp2, rfl⟩ := row_form hown5
              have hown6 := hide hown5
              clear hown5 hg5 ho6
              go_wp2_with fail
              go_roundw
              case rel => exact ⟨k + 1, B2, cp2, by omega, by go_num, by rw [HL.out], by rw [HL.out, HV.out]; exact hown6, hb5⟩
              case measure => simp [intOf]; omega
            | false =>
              have E4 : Hid (0 ≤ befI c k ∧ inB (a k - b (befI c k).toNat) 1 (q - 1) = false) := ⟨by rw [JJ.out]; omega, by rw [JJ.out, Int.toNat_natCast]; exact e5⟩
              have hT : srQ c a b n q k = false := by rw [srQ_at HX.out]; simp [srP, E4.out]
              have HL : Hid ((flt (srQ c a b n q) (k + 1)) = flt (srQ c a b n q) k) := by show _ = _; rw [flt_no hT]
              have HV : Hid (fltV (srQ c a b n q) (k + 1) = fltV (srQ c a b n q) k) := by show _ = _; rw [fltV, flt_no hT]; rfl
              clear hT
              go_wp2_with fail
              go_quiet ((go_at_call 32; first | exact quiet_left (inside_any _ _ _ _) | exact quiet_add_left (inside_any _ _ _ _)))
              go_wp2_with fail
              go_roundw
              case rel => exact ⟨k + 1, B, cp, by omega, by go_num, by rw [HL.out], by rw [HL.out, HV.out]; exact ho4, (by repeat (first | (with_reducible exact Below.refl _ _) | (with_reducible refine below_ov ?_ ?_) | (with_reducible refine Below.setCell ?_ ?_ _) | (with_reducible refine Below.alloc ?_ ?_ _) | (with_reducible refine Below.drew ?_) | (with_reducible refine below_drewN ?_ _) | (refine Below.trans ?_ (Below.mono ‹Below _ _ _› (by first | omega | (simp; done) | (simp; omega)))) | exact Below.refl _ _ | omega | (focus (simp; done)) | (focus (simp; omega))))⟩
              case measure => simp [intOf]; omega
        · obtain rfl : k = n := by omega
          go_wp2_with fail
          go_ret2
          rw [HX.out]
          exact ⟨_, rfl, (own_flt hown.out), hb⟩

end Go.Proofs.YtnmmkechkcfjnaaGreatDoor

/-
  Walks: the indices of the first periods of long spells.-/
namespace Go.Proofs.YtnmmkechkcfjnaaGreatDoor
set_option linter.unusedVariables false
set_option linter.unusedSimpArgs false
open Go.RowKit

/-- The end of the spell with period i, behind k more periods. -/
def enF (c : Nat → ByteArray) (a b : Nat → Int) (i : Nat) : Nat → Int
  | 0 => b i
  | k + 1 => if c (i + 1 + k) = c i ∧ a (i + 1 + k) = enF c a b i k then b (i + 1 + k) else enF c a b i k
theorem en_yes {c : Nat → ByteArray} {a b : Nat → Int} {i k : Nat} (h : c (i + 1 + k) = c i) (h' : a (i + 1 + k) = enF c a b i k) : enF c a b i (k + 1) = b (i + 1 + k) := by rw [enF, if_pos ⟨h, h'⟩]
theorem en_no {c : Nat → ByteArray} {a b : Nat → Int} {i k : Nat} (h : ¬ (c (i + 1 + k) = c i ∧ a (i + 1 + k) = enF c a b i k)) : enF c a b i (k + 1) = enF c a b i k := by rw [enF, if_neg h]
theorem en_bd {c : Nat → ByteArray} {a b : Nat → Int} {n i : Nat} (hp : pdB c a b n = true) : ∀ k, i + 1 + k ≤ n → 0 ≤ enF c a b i k ∧ enF c a b i k ≤ 9999
  | 0, h => by have := (perB_iff.1 ((pd_facts hp).2 i (by omega)).1).2; simp [enF]; omega
  | k + 1, h => by
    have ih := en_bd (i := i) hp k (by omega)
    have := (perB_iff.1 ((pd_facts hp).2 (i + 1 + k) (by omega)).1).2
    rw [enF]
    split <;> omega

def lsOk (c : Nat → ByteArray) (a b : Nat → Int) (n : Nat) (q : Int) : Bool := pdB c a b n && inB q 1 720
def lsP (c : Nat → ByteArray) (a b : Nat → Int) (n : Nat) (q : Int) (i : Nat) : Bool := (decide (befI c i < 0) || decide (b (befI c i).toNat < a i)) && decide (q < enF c a b i (n - (i + 1)) - a i)
def lsQ (c : Nat → ByteArray) (a b : Nat → Int) (n : Nat) (q : Int) (i : Nat) : Bool := lsOk c a b n q && lsP c a b n q i
theorem lsQ_no {c : Nat → ByteArray} {a b : Nat → Int} {n : Nat} {q : Int} (h : lsOk c a b n q = false) : ∀ k, flt (lsQ c a b n q) k = []
  | 0 => rfl
  | k + 1 => by rw [flt_no (by simp [lsQ, h]), lsQ_no h k]
theorem lsQ_at {c : Nat → ByteArray} {a b : Nat → Int} {n : Nat} {q : Int} {i : Nat} (h : lsOk c a b n q = true) : lsQ c a b n q i = lsP c a b n q i := by simp [lsQ, h]

end Go.Proofs.YtnmmkechkcfjnaaGreatDoor

/-
  Plain words for FnWorkTimes: rest, work, who is due and short rests fit together. No program in sight.-/
namespace Go.Proofs.YtnmmkechkcfjnaaGreatDoor
set_option linter.unusedVariables false
set_option linter.unusedSimpArgs false

theorem fst_iff {f : Nat → Bool} {m : Nat} : decide (0 ≤ fstI f m) = true ↔ ∃ t, t < m ∧ f t = true := by
  rw [decide_eq_true_eq]
  rcases fstI_cases f m with ⟨h1, h2⟩ | ⟨k, h1, h2, h3, _⟩
  · rw [h1]
    refine ⟨fun h => by omega, fun ⟨t, ht, h⟩ => ?_⟩
    rw [h2 t ht] at h
    cases h
  · rw [h2]
    exact ⟨fun _ => ⟨k, h1, h3⟩, fun _ => by omega⟩
theorem flt_mem {P : Nat → Bool} : ∀ {N k : Nat}, k ∈ flt P N ↔ k < N ∧ P k = true
  | 0, k => by simp [flt]
  | N + 1, k => by
    rw [flt, List.mem_append, flt_mem]
    by_cases h : P N = true
    · rw [if_pos h]
      simp only [List.mem_singleton]
      constructor
      · rintro (⟨h1, h2⟩ | rfl)
        · exact ⟨by omega, h2⟩
        · exact ⟨by omega, h⟩
      · rintro ⟨h1, h2⟩
        by_cases e : k = N
        · exact .inr e
        · exact .inl ⟨by omega, h2⟩
    · rw [if_neg h]
      simp only [List.not_mem_nil, or_false]
      constructor
      · rintro ⟨h1, h2⟩; exact ⟨by omega, h2⟩
      · rintro ⟨h1, h2⟩
        by_cases e : k = N
        · subst e; exact absurd h2 h
        · exact ⟨by omega, h2⟩
theorem flt_idx {P : Nat → Bool} {N i : Nat} (hi : i < (flt P N).length) : ∃ k, k < N ∧ P k = true ∧ fltI P N i = (k : Nat) := by
  have hm : (flt P N).getD i 0 ∈ flt P N := by
    simp only [List.getD]
    rw [List.getElem?_eq_getElem hi]
    exact List.getElem_mem hi
  have h := flt_mem.1 hm
  exact ⟨_, h.1, h.2, rfl⟩
/-- A text is among the first n. -/
def hasT (F : Nat → ByteArray) (s : ByteArray) (n : Nat) : Bool := decide (0 ≤ fstI (fun i => decide (F i = s)) n)
theorem hasT_list {L : List (List UInt8)} {s : ByteArray} : hasT (tl L) s L.length = true ↔ s.toList ∈ L := by
  rw [hasT, fst_iff]
  constructor
  · rintro ⟨t, ht, e⟩
    have e := of_decide_eq_true e
    rw [← e, tl_list]
    simp only [List.getD]
    rw [List.getElem?_eq_getElem ht]
    exact List.getElem_mem ht
  · intro h
    obtain ⟨t, ht, e⟩ := List.getElem_of_mem h
    refine ⟨t, ht, decide_eq_true (toList_inj ?_)⟩
    rw [tl_list]
    simp only [List.getD]
    rw [List.getElem?_eq_getElem ht]
    exact e
theorem sel_mem {c : Nat → ByteArray} {p : Nat → Bool} {k : Nat} {s : ByteArray} : s.toList ∈ sel c p k ↔ ∃ i, i < k ∧ p i = true ∧ c i = s := by
  rw [sel, List.mem_map]
  constructor
  · rintro ⟨i, hi, e⟩
    have := flt_mem.1 hi
    exact ⟨i, this.1, this.2, toList_inj e⟩
  · rintro ⟨i, h1, h2, rfl⟩
    exact ⟨i, flt_mem.2 ⟨h1, h2⟩, rfl⟩
section
variable {c : Nat → ByteArray} {a b : Nat → Int} {n : Nat} {s : ByteArray} {m q : Int}
theorem crews_has (h : caOk c a b n m = true) : hasT (caS c a b n m) s (caN c a b n m) = anyAt c a b n s m := by
  rw [Bool.eq_iff_iff, caS, caN, hasT_list, caR, if_pos h, putAll_mem, sel_mem, anyAt, fst_iff]
  constructor
  · rintro ⟨i, h1, h2, h3⟩
    refine ⟨i, h1, ?_⟩
    simp only [atI, h3, decide_true, Bool.true_and]
    exact h2
  · rintro ⟨i, h1, h2⟩
    simp only [atI, Bool.and_eq_true, decide_eq_true_eq] at h2
    exact ⟨i, h1, h2.2, h2.1⟩
theorem dues_has (h : dcOk c a b n m q = true) : hasT (dcS c a b n m q) s (dcN c a b n m q) = dueB c a b s m n q := by
  rw [Bool.eq_iff_iff, dcS, dcN, hasT_list, dcR, if_pos h, putAll_mem, sel_mem]
  constructor
  · rintro ⟨i, h1, h2, rfl⟩
    exact h2
  · intro h1
    have h2 := h1
    simp only [dueB, Bool.and_eq_true] at h1
    obtain ⟨t, ht, h3⟩ := fst_iff.1 h1.1
    simp only [atI, Bool.and_eq_true, decide_eq_true_eq] at h3
    exact ⟨t, ht, by rw [dcP, h3.1]; exact h2, h3.1⟩
theorem wk_up (hp : pdB c a b n = true) {k : Nat} (hk : k < n) : wkF c a b s m k ≤ wkF c a b s m (k + 1) := by
  have h0 := (perB_iff.1 ((pd_facts hp).2 k hk).1).2
  by_cases h : c k = s ∧ a k < m
  · rw [wk_yes h.1 h.2]; omega
  · rw [wk_no h]; omega
theorem wk_le (hp : pdB c a b n = true) {j : Nat} : ∀ {k : Nat}, j ≤ k → k ≤ n → wkF c a b s m j ≤ wkF c a b s m k
  | 0, h, _ => by
    obtain rfl : j = 0 := by omega
    exact Int.le_refl _
  | k + 1, h, hk => by
    rcases Nat.lt_or_ge k j with h1 | h1
    · obtain rfl : j = k + 1 := by omega
      exact Int.le_refl _
    · exact Int.le_trans (wk_le hp h1 (by omega)) (wk_up hp (by omega))
theorem wk_zero (hp : pdB c a b n = true) {k : Nat} (hk : k ≤ n) : 0 ≤ wkF c a b s m k := wk_le (j := 0) hp (Nat.zero_le _) hk
theorem rs_has : ∀ {k : Nat}, 0 ≤ rsF c b s m k → ∃ j, j < k ∧ c j = s ∧ b j ≤ m
  | 0, h => by simp [rsF] at h
  | k + 1, h => by
    by_cases h1 : c k = s ∧ b k ≤ m
    · exact ⟨k, by omega, h1⟩
    · rw [rs_no h1] at h
      obtain ⟨j, h2, h3⟩ := rs_has h
      exact ⟨j, by omega, h3⟩
theorem rs_ge {j : Nat} (hc : c j = s) (hb : b j ≤ m) : ∀ {k : Nat}, j < k → b j ≤ rsF c b s m k
  | k + 1, hj => by
    rcases Nat.lt_or_ge j k with h | h
    · have ih := rs_ge hc hb h
      by_cases h1 : c k = s ∧ b k ≤ m
      · rw [rs_yes h1.1 h1.2]; omega
      · rw [rs_no h1]; exact ih
    · obtain rfl : j = k := by omega
      rw [rs_yes hc hb]; omega
theorem rest_facts (h : restOk c a b n s m = true) : askP c a b n s m = true ∧ caOk c a b n m = true ∧ 0 ≤ restN c a b n s m ∧ (anyAt c a b n s m = true → restN c a b n s m = 0) ∧ (0 < restN c a b n s m → anyAt c a b n s m = false ∧ 0 < wkN c a b n s m) := by
  have hk : askP c a b n s m = true := by simp only [restOk, Bool.and_eq_true] at h; exact h.1
  obtain ⟨hp, hm, hm'⟩ := ask_facts hk
  refine ⟨hk, by simp only [caOk, Bool.and_eq_true, inB_iff]; exact ⟨hp, hm, hm'⟩, ?_⟩
  cases e : anyAt c a b n s m with
  | true =>
    rw [(rest_at hk e).1]
    exact ⟨Int.le_refl _, fun _ => rfl, fun h => by omega⟩
  | false =>
    have e2 : decide (rsF c b s m n < 0) = false := by simpa [restOk, hk, e] using h
    rw [(rest_yes hk e e2).1]
    have h0 := of_decide_eq_false e2
    have h1 := (rs_bd (c := c) (b := b) (s := s) (m := m) n).2
    refine ⟨by omega, (fun h => by cases h), fun _ => ⟨rfl, ?_⟩⟩
    obtain ⟨j, hj, h2, h3⟩ := rs_has (show 0 ≤ rsF c b s m n by omega)
    have h4 := (perB_iff.1 ((pd_facts hp).2 j hj).1).2
    have h5 := wk_le (s := s) (m := m) hp (show j + 1 ≤ n by omega) (Nat.le_refl n)
    have h6 := wk_zero (s := s) (m := m) hp (show j ≤ n by omega)
    rw [wk_yes h2 (by omega)] at h5
    rw [wkN, if_pos hk]
    omega
theorem wk_spell (hp : pdB c a b n = true) : ∀ N i, i < N → i < n → c i = s → a i ≤ m → min (b i) m - stF c a b i ≤ wkF c a b s m (i + 1)
  | N + 1, i, hN, hi, hc, ha => by
    have h0 := (perB_iff.1 ((pd_facts hp).2 i hi).1).2
    have hz := wk_zero (s := s) (m := m) hp (show i ≤ n by omega)
    have hup := wk_up (s := s) (m := m) hp hi
    have plain : stF c a b i = a i → min (b i) m - stF c a b i ≤ wkF c a b s m (i + 1) := fun e => by
      rw [e]
      by_cases h1 : a i < m
      · rw [wk_yes hc h1]; omega
      · omega
    by_cases hb0 : befI c i < 0
    · exact plain (st_none hb0)
    · obtain ⟨k, hk⟩ : ∃ k : Nat, befI c i = k := ⟨(befI c i).toNat, by omega⟩
      obtain ⟨h1, h2, _⟩ := befI_facts hk
      by_cases he : b k = a i
      · rw [st_join hk he]
        have h3 := (perB_iff.1 ((pd_facts hp).2 k (by omega)).1).2
        have ih := wk_spell hp N k (by omega) (by omega) (h2.trans hc) (by omega)
        have h4 := wk_le (s := s) (m := m) hp (show k + 1 ≤ i by omega) (show i ≤ n by omega)
        by_cases h5 : a i < m
        · rw [wk_yes hc h5]; omega
        · omega
      · exact plain (st_gap hp hi hk he)
theorem due_worked (hk : askP c a b n s m = true) (h : dueB c a b s m n q = true) : q ≤ wkN c a b n s m := by
  obtain ⟨hp, hm, hm'⟩ := ask_facts hk
  simp only [dueB, Bool.and_eq_true, decide_eq_true_eq] at h
  obtain ⟨h1, h2⟩ := h
  rcases fstI_cases (atI c a b s m) n with ⟨e, _⟩ | ⟨j, hj, e, h3, _⟩
  · omega
  · rw [e, Int.toNat_natCast] at h2
    simp only [atI, Bool.and_eq_true, decide_eq_true_eq, inB_iff] at h3
    have h4 := wk_spell (m := m) hp (j + 1) j (by omega) hj h3.1 (by omega)
    have h5 := wk_le (s := s) (m := m) hp (show j + 1 ≤ n by omega) (Nat.le_refl n)
    rw [wkN, if_pos hk]
    omega
theorem due_parts (h : dueOk c a b n s m q = true) : askP c a b n s m = true ∧ dcOk c a b n m q = true ∧ dueR c a b n s m q = dueB c a b s m n q := by
  have h2 := h
  simp only [dueOk, Bool.and_eq_true] at h
  refine ⟨h.1, ?_, by rw [dueR, h2]; rfl⟩
  have h3 := h.1
  simp only [askP, Bool.and_eq_true] at h3
  simp only [dcOk, Bool.and_eq_true]
  exact ⟨⟨h3.1.1, h3.2⟩, h.2⟩
theorem short_rest (h : srOk c a b n q = true) {i : Nat} (hi : i < n) (hs : srP c a b q i = true) : restOk c a b n (c i) (a i - 1) = true ∧ restN c a b n (c i) (a i - 1) + 1 < q := by
  have hp : pdB c a b n = true := by simp only [srOk, Bool.and_eq_true] at h; exact h.1
  simp only [srP, Bool.and_eq_true, decide_eq_true_eq, inB_iff] at hs
  obtain ⟨hs1, hs2, hs3⟩ := hs
  obtain ⟨k, hk⟩ : ∃ k : Nat, befI c i = k := ⟨(befI c i).toNat, by omega⟩
  rw [hk, Int.toNat_natCast] at hs2 hs3
  obtain ⟨h1, h2, h3⟩ := befI_facts hk
  have pi := perB_iff.1 ((pd_facts hp).2 i hi).1
  have pk := perB_iff.1 ((pd_facts hp).2 k (by omega)).1
  have hask : askP c a b n (c i) (a i - 1) = true := by
    simp only [askP, Bool.and_eq_true, inB_iff]
    exact ⟨⟨hp, pi.1⟩, by omega, by omega⟩
  have hany : anyAt c a b n (c i) (a i - 1) = false := by
    rw [Bool.eq_false_iff, ne_eq, anyAt, fst_iff]
    rintro ⟨j, hj, e⟩
    simp only [atI, Bool.and_eq_true, decide_eq_true_eq, inB_iff] at e
    obtain ⟨e1, e2, e3⟩ := e
    rcases Nat.lt_trichotomy j i with h4 | h4 | h4
    · have h5 := ((pd_facts hp).2 i hi).2.2 j h4 e1
      rcases Nat.lt_trichotomy j k with h6 | h6 | h6
      · have h7 := ((pd_facts hp).2 k (by omega)).2.2 j h6 (e1.trans h2.symm)
        have := pk.2
        omega
      · subst h6; omega
      · exact h3 j h6 h4 e1
    · subst h4; omega
    · have h5 := ((pd_facts hp).2 j hj).2.2 i h4 e1.symm
      have := pi.2
      omega
  have hr := rs_ge (c := c) (b := b) (s := c i) (m := a i - 1) (j := k) (k := n) h2 (by omega) (by omega)
  have hneg : decide (rsF c b (c i) (a i - 1) n < 0) = false := decide_eq_false (by have := pk.2; omega)
  obtain ⟨r1, r2⟩ := rest_yes hask hany hneg
  exact ⟨r2, by rw [r1]; omega⟩
end

end Go.Proofs.YtnmmkechkcfjnaaGreatDoor

/-
  The frame of a law's statement: where the call returns true and nothing below the old heap has turned, the row holds.-/
namespace Go.Proofs.YtnmmkechkcfjnaaGreatDoor
set_option linter.unusedVariables false
set_option linter.unusedSimpArgs false
open Go.ChangeShapes Go.WideShapes Go.ChangeAt Go.RowKit Go.Joins Go.Deep

theorem Tryz.own : ownKnob Tryz.prog.godebug = none := by kernel_rfl
theorem Tryz.laidOut : laidOutB Tryz.prog = true := by kernel_rfl
theorem Tryz.rowed : mapsRowed Tryz.prog = true := by kernel_rfl
theorem Tryz.whole : (Tryz.prog.stopsHeard && Tryz.prog.mayEnter && (!Tryz.prog.liftsFinal) && (Tryz.prog.make == some Make.cut)) = true := by kernel_rfl
theorem Tryz.heard : Tryz.prog.stopsHeard = true := by have h := Tryz.whole; simp only [Bool.and_eq_true] at h; exact h.1.1.1
theorem Tryz.enters : Tryz.prog.mayEnter = true := by have h := Tryz.whole; simp only [Bool.and_eq_true] at h; exact h.1.1.2
theorem Tryz.lifts : Tryz.prog.liftsFinal = false := by have h := Tryz.whole; simp only [Bool.and_eq_true, Bool.not_eq_true'] at h; exact h.1.2
theorem Tryz.made : Tryz.prog.make = some Make.cut := by have h := Tryz.whole; simp only [Bool.and_eq_true, beq_iff_eq] at h; exact h.2

section
variable {H : Type} {enc : TypeId × Value → H} {P : Program}
theorem trodAll_below (hl : laidOutB P = true) {W W' : World} (hb : Below W.heap.size W W') : ∀ {ts : List TypeId} {vs : List Value} {ds : List (DataW H)} {ps : List MemPlace},
    ts.all (fun t => P.readableRec t && decide (t < P.types.size)) = true → DataW.TrodAll enc P W 0 (fun _ => true) true ts vs ds ps → (∀ x ∈ ps, x.block < W.heap.size) →
    DataW.TrodAll enc P W' 0 (fun b => decide (b < W.heap.size)) true ts vs ds ps
  | [], [], [], _, _, h, _ => h
  | t :: ts, v :: vs, d :: ds, ps, hr, h, hlt => by
    obtain ⟨p, q, h1, h2, rfl⟩ := h
    simp only [List.all_cons, Bool.and_eq_true] at hr
    exact ⟨p, q, Below.trod hl hr.1.1 (of_decide_eq_true hr.1.2) h1 hb (fun x hx => hlt x (List.mem_append.2 (.inl hx))), trodAll_below hl hb hr.2 h2 (fun x hx => hlt x (List.mem_append.2 (.inr hx))), rfl⟩
  | [], _ :: _, _, _, _, h, _ => by cases h
  | [], [], _ :: _, _, _, h, _ => by cases h
  | _ :: _, [], _, _, _, h, _ => by cases h
  | _ :: _, _ :: _, [], _, _, h, _ => by cases h

theorem law_post {f : Func} {s : ChangeSpec} {W W' : World} {args : Array Value} {ds : List (DataW H)} {before : List MemPlace} {T : TypeId}
    (hl : laidOutB P = true) (hvars : s.vars = []) (hr : f.params.toList.all (fun t => P.readableRec t && decide (t < P.types.size)) = true)
    (hT : f.resultTypes = #[T]) (hTb : P.underlying T = some .bool)
    (hW : DataW.Whole enc P f.params.toList s.vars false W args.toList ds [] before)
    (hs : s.fn H (ds ++ []) = { results := [.lit (.bool true)], args := ds }) (hb : Below W.heap.size W W') : s.post enc P f false true false false W args (.bool true) W' := by
  have hW' := hW
  obtain ⟨p, q, hA, hV, rfl, _, _⟩ := hW
  have hlt : ∀ x ∈ p ++ q, x.block < W.heap.size := fun x hx => by simpa using hW'.lt x hx
  rw [hvars] at hV
  have hq : q = [] := by simpa [DataW.TrodVars] using hV
  subst hq
  refine ⟨ds, [], p ++ [], [], p, [], hW', ?_, ?_, ?_, ?_, fun h => by cases h⟩
  · rw [hT, hs]
    exact trodAll_mk1 (shut_bool hTb true)
  · rw [hs]
    exact trodAll_below hl hb hr hA (fun x hx => hlt x (by simpa using hx))
  · rw [hs, hvars]
    rfl
  · exact hb.frame _
end

end Go.Proofs.YtnmmkechkcfjnaaGreatDoor

/-
  Arguments that are slices, opened: the value, and the cells of its elements ('SlA').-/
namespace Go.Proofs.YtnmmkechkcfjnaaGreatDoor
set_option linter.unusedVariables false
set_option linter.unusedSimpArgs false
open Go.ChangeShapes Go.WideShapes Go.ChangeAt Go.RowKit Go.Joins Go.Deep

section
variable {H : Type} {enc : TypeId × Value → H} {P : Program} {w : World} {base : Nat} {spare : Nat → Bool} {held : Bool}
theorem cell_lt {a : Addr} {v : Value} (h : w.cell? a = some v) : a.block < w.heap.size ∧ a.spot = none := by
  unfold World.cell? at h
  split at h
  · rename_i c e f hh
    refine ⟨?_, ?_⟩
    · rcases Nat.lt_or_ge a.block w.heap.size with h1 | h1
      · exact h1
      · rw [Array.getElem?_eq_none h1] at hh; cases hh
    · split at h
      · cases h
      · rename_i hs; simpa using hs
  · cases h
/-- A slice whose elements are of whatever type of sz cells, opened at every cell. -/
theorem open_cellsT {t e : TypeId} {d : DataW H} {ps : List MemPlace} {v : Value} {sz fuel : Nat} (ht : P.underlying t = some (.slice e)) (hC : P.cellsOf e = sz) (hsz : 0 < sz)
    (hf' : DataW.trod enc P w 0 spare held fuel t [v] = some (d, ps)) :
    ∃ (A : Option Addr) (n cap : Nat) (V : Nat → Nat → Value), v = .slice A n cap ∧ n ≤ cap ∧ cap ≤ maxLen ∧ SlA w 0 w.heap.size sz A n V ∧
      ∀ i, i < n → ∃ cs' k y, cs'.length = sz ∧ (∀ j, j < sz → cs'[j]? = some (V i j)) ∧ DataW.trod enc P w 0 spare held k e cs' = some y := by
  rcases open_slice ht hf' with ⟨hcs, _⟩ | ⟨a, n, cap, m, k, D, Pl, hcs, hb, hl, hm, hmm, _, hx⟩
  · simp only [List.cons.injEq, and_true] at hcs
    subst hcs
    exact ⟨none, 0, 0, fun _ _ => .bool false, rfl, Nat.le_refl _, Nat.zero_le _, fun h => absurd h (Nat.lt_irrefl _), fun i hi => absurd hi (Nat.not_lt_zero _)⟩
  · simp only [List.cons.injEq, and_true] at hcs
    subst hcs
    have hm' : n ≤ m := by rw [hmm]; split <;> omega
    have hx' : ∀ i, i < n → ∃ cs', w.cells? 0 (a.add (i * sz)) sz = some cs' ∧ DataW.trod enc P w 0 spare held k e cs' = some (D i, Pl i) := fun i hi => by
      have := hx i (by omega)
      rwa [hC] at this
    obtain ⟨C, hCs⟩ := choose_lt (α := List Value) hx'
    refine ⟨some a, n, cap, fun i j => (C i).getD j (.bool false), rfl, hl, hm, fun hn => ?_, fun i hi => ?_⟩
    · have at_ : ∀ i j, i < n → j < sz → w.cell? (a.add (i * sz + j)) = some ((C i).getD j (.bool false)) := fun i j hi hj => by
        obtain ⟨_, hlen, hat⟩ := World.cells?_some (hCs i hi).1
        have := hat j hj
        rw [Go.Deep.add_add] at this
        rw [this, List.getD, List.getElem?_eq_getElem (by omega)]
        rfl
      have h00 := cell_lt (at_ 0 0 hn hsz)
      have hspot : a.spot = none := by
        have h1 := at_ 0 0 hn hsz
        have : a.add (0 * sz + 0) = a := by simp [Addr.add]
        rw [this] at h1
        exact (cell_lt h1).2
      have hblk : a.block < w.heap.size := by
        have h1 := at_ 0 0 hn hsz
        have : a.add (0 * sz + 0) = a := by simp [Addr.add]
        rw [this] at h1
        exact (cell_lt h1).1
      obtain ⟨b, off, sp⟩ := a
      simp only at hspot hblk
      subst hspot
      refine ⟨b, off, rfl, Nat.zero_le _, hblk, fun i j hi hj => ?_⟩
      have := at_ i j hi hj
      unfold Addr.add at this
      split at this
      · rename_i h0
        rw [show off + i * sz + j = off by omega]
        exact this
      · rw [show off + i * sz + j = off + (i * sz + j) by omega]
        exact this
    · obtain ⟨h1, h2⟩ := hCs i hi
      obtain ⟨_, hlen, _⟩ := World.cells?_some h1
      exact ⟨C i, k, _, hlen, fun j hj => by simp [List.getD, List.getElem?_eq_getElem (show j < (C i).length by omega)], h2⟩
theorem open_cells {t e : TypeId} {d : DataW H} {ps : List MemPlace} {v : Value} {r : Reach} {b0 sz : Nat} (ht : P.underlying t = some (.slice e)) (hC : P.cellsOf e = sz) (hsz : 0 < sz)
    (hv : Value.okWide P w r b0 t v) (h : DataW.Trod enc P w 0 spare held t v d ps) :
    ∃ (A : Option Addr) (n cap : Nat) (V : Nat → Nat → Value), v = .slice A n cap ∧ n ≤ cap ∧ cap ≤ maxLen ∧ SlA w 0 w.heap.size sz A n V ∧
      ∀ i, i < n → ∃ cs' k y, cs'.length = sz ∧ (∀ j, j < sz → cs'[j]? = some (V i j)) ∧ DataW.trod enc P w 0 spare held k e cs' = some y := by
  obtain ⟨A, n, cap, rfl⟩ := okWide_slice ht hv
  obtain ⟨fuel, hf⟩ := h
  exact open_cellsT ht hC hsz (show DataW.trod enc P w 0 spare held fuel t [.slice A n cap] = some (d, ps) from hf)
theorem take_one {l : List Value} {j : Nat} {v : Value} (h : l[j]? = some v) : (l.drop j).take 1 = [v] := by
  obtain ⟨hj, rfl⟩ := List.getElem?_eq_some_iff.1 h
  rw [List.drop_eq_getElem_cons hj]
  rfl
/-- One field of an element that is a struct of one-cell fields. -/
theorem field_of {e : TypeId} {fs : Array Field} {k : Nat} {cs : List Value} {y : DataW H × List MemPlace} (he : P.underlying e = some (.struct fs)) (hone : oneCellFields P fs = true) (h : DataW.trod enc P w base spare held k e cs = some y)
    {j : Nat} {f : Field} {v : Value} (hj : fs[j]? = some f) (hv : cs[j]? = some v) : ∃ n z, DataW.trod enc P w base spare held n f.type [v] = some z := by
  obtain ⟨ys, n', hn', hy, hlen, hyl, hf⟩ := DataW.trod_struct he h
  obtain ⟨ho, hk⟩ := hone_of hone j f hj
  have h1 := hf j f hj
  rw [ho, hk, take_one hv] at h1
  have hjl : j < ys.length := by rw [hyl]; exact (Array.getElem?_eq_some_iff.1 hj).1
  exact ⟨n', ys[j], by rw [h1]; exact List.getElem?_eq_getElem hjl⟩
end
theorem int_cell {H : Type} {enc : TypeId × Value → H} {P : Program} {w : World} {base : Nat} {spare : Nat → Bool} {held : Bool} {t : TypeId} {n : Nat} {v : Value} {z : DataW H × List MemPlace} (ht : P.underlying t = some (.int .i64)) (h : DataW.trod enc P w base spare held n t [v] = some z) :
    v = .int .i64 (intOf v) ∧ (Lit.int .i64 (intOf v)).wf = true := by
  obtain ⟨x, h1, _, h3⟩ := DataW.trod_int ht h
  simp only [List.cons.injEq, and_true] at h1
  subst h1
  exact ⟨rfl, h3⟩
def strOf : Value → ByteArray | .string s => s | _ => ByteArray.empty
theorem str_cell {H : Type} {enc : TypeId × Value → H} {P : Program} {w : World} {base : Nat} {spare : Nat → Bool} {held : Bool} {t : TypeId} {n : Nat} {v : Value} {z : DataW H × List MemPlace} (ht : P.underlying t = some .string) (h : DataW.trod enc P w base spare held n t [v] = some z) :
    v = .string (strOf v) ∧ (strOf v).size ≤ maxLen := by
  obtain ⟨x, h1, _, h3⟩ := DataW.trod_string ht h
  simp only [List.cons.injEq, and_true] at h1
  subst h1
  exact ⟨rfl, h3⟩
theorem SlA.congr {w : World} {lo hi sz n : Nat} {A : Option Addr} {c c' : Nat → Nat → Value} (h : SlA w lo hi sz A n c) (hc : ∀ i j, i < n → j < sz → c i j = c' i j) : SlA w lo hi sz A n c' := fun hn => by
  obtain ⟨b, off, h1, h2, h3, h4⟩ := h hn
  exact ⟨b, off, h1, h2, h3, fun i j hi hj => (h4 i j hi hj).trans (by rw [hc i j hi hj])⟩

end Go.Proofs.YtnmmkechkcfjnaaGreatDoor

/-
  An argument that is a list of bytes, opened.-/
namespace Go.Proofs.YtnmmkechkcfjnaaGreatDoor
set_option linter.unusedVariables false
set_option linter.unusedSimpArgs false
open Go.ChangeShapes Go.WideShapes Go.ChangeAt Go.RowKit Go.Joins Go.Deep

theorem byte_cell {H : Type} {enc : TypeId × Value → H} {P : Program} {w : World} {base : Nat} {spare : Nat → Bool} {held : Bool} {t : TypeId} {n : Nat} {v : Value} {z : DataW H × List MemPlace} (ht : P.underlying t = some (.int .u8)) (h : DataW.trod enc P w base spare held n t [v] = some z) :
    v = .int .u8 (intOf v) ∧ 0 ≤ intOf v ∧ intOf v ≤ 255 := by
  obtain ⟨x, h1, _, h3⟩ := DataW.trod_int ht h
  simp only [List.cons.injEq, and_true] at h1
  subst h1
  refine ⟨rfl, ?_⟩
  have h4 : (Lit.int .u8 x).wf = true := h3
  simp [Lit.wf, IntKind.min, IntKind.max, IntKind.signed, IntKind.bits] at h4
  show 0 ≤ x ∧ x ≤ 255
  omega
theorem Tryz.cells5 : Tryz.prog.cellsOf 5 = 1 := by kernel_rfl
set_option maxRecDepth 100000 in
theorem openByteT {H : Type} {enc : TypeId × Value → H} {W : World} {spare : Nat → Bool} {held : Bool} {v : Value} {d : DataW H} {ps : List MemPlace} {fuel : Nat}
    (h : DataW.trod enc Tryz.prog W 0 spare held fuel 22 [v] = some (d, ps)) :
    ∃ (A : Option Addr) (n cap : Nat), v = .slice A n cap ∧ n ≤ cap ∧ cap ≤ maxLen ∧ Code W (.slice A n cap) := by
  obtain ⟨A, n, cap, V, rfl, h1, h2, h3, h4⟩ := open_cellsT Tryz.underlying22 Tryz.cells5 (by omega) h
  have key : ∀ i, i < n → V i 0 = .int .u8 (intOf (V i 0)) ∧ 0 ≤ intOf (V i 0) ∧ intOf (V i 0) ≤ 255 := fun i hi => by
    obtain ⟨cs', k, y, hl, hc, hy⟩ := h4 i hi
    have hcs : cs' = [V i 0] := by
      match cs', hl with
      | [x], _ => have := hc 0 (by omega); simp at this; rw [this]
    rw [hcs] at hy
    exact byte_cell Tryz.underlying5 hy
  refine ⟨A, n, cap, rfl, h1, h2, ⟨n, W.heap.size, fun i => intOf (V i 0), (h3.congr (c' := bC fun i => intOf (V i 0)) fun i j hi hj => ?_).shut h1, Nat.le_refl _, by unfold maxLen at h2; omega, fun i hi => (key i hi).2⟩⟩
  obtain rfl : j = 0 := by omega
  exact (key i hi).1
set_option maxRecDepth 100000 in
theorem openByte {H : Type} {enc : TypeId × Value → H} {W : World} {spare : Nat → Bool} {held : Bool} {v : Value} {d : DataW H} {ps : List MemPlace} {r : Reach} {b0 : Nat}
    (hv : Value.okWide Tryz.prog W r b0 22 v) (h : DataW.Trod enc Tryz.prog W 0 spare held 22 v d ps) :
    ∃ (A : Option Addr) (n cap : Nat), v = .slice A n cap ∧ n ≤ cap ∧ cap ≤ maxLen ∧ Code W (.slice A n cap) := by
  obtain ⟨A, n, cap, rfl⟩ := okWide_slice Tryz.underlying22 hv
  obtain ⟨fuel, hf⟩ := h
  exact openByteT (show DataW.trod enc Tryz.prog W 0 spare held fuel 22 [.slice A n cap] = some (d, ps) from hf)

end Go.Proofs.YtnmmkechkcfjnaaGreatDoor

/-
  Walks for FnWorkTimes: the law's own comparisons; words for its facts.-/
namespace Go.Proofs.YtnmmkechkcfjnaaGreatDoor
set_option linter.unusedVariables false
set_option linter.unusedSimpArgs false
open Go.RowKit

theorem Code.bel {w w' : World} {v : Value} (h : Code w v) (hb : Below w.heap.size w w') : Code w' v := h.below hb (Nat.le_refl _)
/-- A slice that lies somewhere. -/
def SlW (w : World) (sz : Nat) (v : Value) (n : Nat) (c : Nat → Nat → Value) : Prop := Sl w 0 w.heap.size sz v n c
theorem SlW.bel {w w' : World} {sz n : Nat} {v : Value} {c : Nat → Nat → Value} (h : SlW w sz v n c) (hb : Below w.heap.size w w') : SlW w' sz v n c :=
  (Sl.below (B := w.heap.size) h hb (Nat.le_refl _)).mono (Nat.le_refl _) hb.size
theorem SlW.of {w : World} {lo hi sz n : Nat} {v : Value} {c : Nat → Nat → Value} (h : Sl w lo hi sz v n c) (hh : hi ≤ w.heap.size) : SlW w sz v n c := h.mono (Nat.zero_le _) hh
/-- What has turned since the call's start is above. -/
def BelW (w w' : World) : Prop := Below w.heap.size w w'
theorem BelW.bel {w w' w'' : World} (h : BelW w w') (hb : Below w'.heap.size w' w'') : BelW w w'' := Below.trans h (hb.mono (Below.size h))
section
variable {w : World} {A : Option Addr} {N c b o : Nat} {f g : Nat → Int} {F : Nat → ByteArray} {a d : Nat → Int}
theorem SlW.form {sz : Nat} {C : Nat → Nat → Value} (h : SlW w sz (.slice A N c) N C) (hN : 0 < N) : ∃ b o, A = some ⟨b, o, none⟩ := by
  obtain ⟨A', cap', e, _, hA⟩ := Sl.open_ h
  injection e with e1 e2 e3
  subst e1
  obtain ⟨b, o, hb, _⟩ := hA hN
  exact ⟨b, o, hb⟩
theorem SlW.at {sz : Nat} {C : Nat → Nat → Value} (h : SlW w sz (.slice (some ⟨b, o, none⟩) N c) N C) {k j : Nat} (hk : k < N) (hj : j < sz) : w.cell? ⟨b, o + k * sz + j, none⟩ = some (C k j) ∧ b < w.heap.size := by
  obtain ⟨A', cap', e, _, hA⟩ := Sl.open_ h
  injection e with e1 e2 e3
  subst e1
  obtain ⟨b', o', hb, _, h2, h3⟩ := hA (by omega)
  injection hb with hb
  injection hb with h4 h5
  subst h4 h5
  exact ⟨h3 k j hk hj, h2⟩
theorem SlW.p3 (h : SlW w 3 (.slice (some ⟨b, o, none⟩) N c) N (siiC F a d)) {k : Nat} (hk : k < N) : w.cell? ⟨b, o + k * 3, none⟩ = some (.string (F k)) ∧ w.cell? ⟨b, o + k * 3 + 1, none⟩ = some (.int .i64 (a k)) ∧ w.cell? ⟨b, o + k * 3 + 2, none⟩ = some (.int .i64 (d k)) ∧ b < w.heap.size :=
  ⟨by simpa [siiC] using (h.at hk (j := 0) (by omega)).1, by simpa [siiC] using (h.at hk (j := 1) (by omega)).1, by simpa [siiC] using (h.at hk (j := 2) (by omega)).1, (h.at hk (j := 0) (by omega)).2⟩
theorem SlW.i1 (h : SlW w 1 (.slice (some ⟨b, o, none⟩) N c) N (iC f)) {k : Nat} (hk : k < N) : w.cell? ⟨b, o + k, none⟩ = some (.int .i64 (f k)) ∧ b < w.heap.size :=
  ⟨by simpa [iC] using (h.at hk (j := 0) (by omega)).1, (h.at hk (j := 0) (by omega)).2⟩
theorem SlW.s1 (h : SlW w 1 (.slice (some ⟨b, o, none⟩) N c) N (sC F)) {k : Nat} (hk : k < N) : w.cell? ⟨b, o + k, none⟩ = some (.string (F k)) ∧ b < w.heap.size :=
  ⟨by simpa [sC] using (h.at hk (j := 0) (by omega)).1, (h.at hk (j := 0) (by omega)).2⟩
theorem SlW.s0 (h : SlW w 1 (.slice (some ⟨b, o, none⟩) N c) N (sC F)) (hk : 0 < N) : w.cell? ⟨b, o, none⟩ = some (.string (F 0)) ∧ b < w.heap.size :=
  ⟨by simpa [sC] using (h.at hk (j := 0) (by omega)).1, (h.at hk (j := 0) (by omega)).2⟩
end
set_option maxRecDepth 100000 in
set_option maxHeartbeats 1600000 in
theorem pSameTexts_same (F : Nat → ByteArray) (N lo hi lo' hi' : Nat) (v u : Value) (w : World) (hv : Sl w lo hi 1 v N (sC F)) (hu : Sl w lo' hi' 1 u N (sC F)) (hhi : hi ≤ w.heap.size) (hhi' : hi' ≤ w.heap.size) (hN : N ≤ 4611686018427387904) :
    Calls Tryz.prog 20 #[v, u] w fun e w' => e = .returned (.bool true) ∧ Below w.heap.size w w' := by
  obtain ⟨A, cap, rfl, hcap, hA⟩ := hv.open_
  obtain ⟨A', cap', rfl, hcap', hA'⟩ := hu.open_
  clear hv hu
  go_enter Tryz.func20, Tryz.ntmps20
  go_wp2_with fail
  go_loopw [13] (fun i wr => ∃ k : Nat, k ≤ N ∧ i = .int .i64 k ∧ Below w.heap.size w wr) (fun i _ => N - (intOf i).toNat)
  case atStart => exact ⟨0, by omega, rfl, Below.refl _ _⟩
  case round =>
    obtain ⟨k, hk, rfl, hb⟩ := hrel
    have hzr := hb.size
    by_cases hkn : k < N
    · obtain ⟨blk, off, rfl, h1, h2, h3⟩ := (hA.below hb (by omega)) (by omega)
      obtain ⟨blk', off', rfl, h1', h2', h3'⟩ := (hA'.below hb (by omega)) (by omega)
      have c0 : wr.cell? ⟨blk, off + k , none⟩ = some (.string (F k)) := by simpa [sC] using h3 k 0 hkn (by omega)
      have c0' : wr.cell? ⟨blk', off' + k , none⟩ = some (.string (F k)) := by simpa [sC] using h3' k 0 hkn (by omega)
      clear h3 h3' hA hA'
      have l3 : blk < wr.heap.size := by omega
      have l4 : blk' < wr.heap.size := by omega
      go_wp2_with fail
      (refine wp_region_below_lit (by kernel_rfl) (by kernel_rfl) ?_; (repeat (first | go_big_quiet_step (fail) | quiet_step (fail))); refine wpQuiet_nil ?_; intro w2 hb2; have hz2 := hb2.size; (try (simp at hz2)); obtain ⟨hcw2, hfw2⟩ := bcell hb2; (try (have hy2 : w.heap.size < w2.heap.size := by omega)); (try (have hyy2 : w.heap.size + 1 < w2.heap.size := by omega)))
      go_wp2
      go_roundw
      case rel => exact ⟨k + 1, by omega, by go_num, (by repeat (first | (with_reducible exact Below.refl _ _) | (with_reducible refine below_ov ?_ ?_) | (with_reducible refine Below.setCell ?_ ?_ _) | (with_reducible refine Below.alloc ?_ ?_ _) | (with_reducible refine Below.drew ?_) | (with_reducible refine below_drewN ?_ _) | (refine Below.trans ?_ (Below.mono ‹Below _ _ _› (by first | omega | (simp; done) | (simp; omega)))) | exact Below.refl _ _ | omega | (focus (simp; done)) | (focus (simp; omega))))⟩
      case measure => simp [intOf]; omega
    · obtain rfl : k = N := by omega
      go_wp2_with fail
      go_ret
      exact ⟨rfl, hb⟩
set_option maxRecDepth 100000 in
set_option maxHeartbeats 1600000 in
theorem pHas_any (F : Nat → ByteArray) (s : ByteArray) (N lo hi : Nat) (v : Value) (w : World) (hv : Sl w lo hi 1 v N (sC F)) (hhi : hi ≤ w.heap.size) (hN : N ≤ 1048576) :
    Calls Tryz.prog 21 #[v, .string s] w fun e w' => e = .returned (.bool (hasT F s N)) ∧ Below w.heap.size w w' := by
  obtain ⟨A, cap, rfl, hcap, hA⟩ := hv.open_
  clear hv
  go_enter Tryz.func21, Tryz.ntmps21
  go_wp2_with fail
  go_loopw [9] (fun i wr => ∃ k : Nat, k ≤ N ∧ i = .int .i64 k ∧ Hid (∀ j, j < k → decide (F j = s) = false) ∧ Below w.heap.size w wr) (fun i _ => N - (intOf i).toNat)
  case atStart => exact ⟨0, by omega, rfl, (fun j hj => absurd hj (Nat.not_lt_zero _)), Below.refl _ _⟩
  case round =>
    obtain ⟨k, hk, rfl, hno, hb⟩ := hrel
    have hzr := hb.size
    by_cases hkn : k < N
    · obtain ⟨blk, off, rfl, h1, h2, h3⟩ := (hA.below hb (by omega)) (by omega)
      have c0 : wr.cell? ⟨blk, off + k , none⟩ = some (.string (F k)) := by simpa [sC] using h3 k 0 hkn (by omega)
      have l3 : blk < wr.heap.size := by omega
      clear h3 hA
      cases hd : decide (F k = s) with
      | true =>
        have hX : Hid (hasT F s N = true) := by show _ = _; rw [hasT, fst_iff]; exact ⟨k, hkn, hd⟩
        have hq : ((F k).toList == s.toList) = true := by rw [str_beq, hd]
        clear hd
        go_wp2_with fail
        go_ret
        exact ⟨ret_bool hX.out.symm, hb⟩
      | false =>
        have hno2 : Hid (∀ j, j < k + 1 → decide (F j = s) = false) := fun j hj => by
          rcases Nat.lt_or_ge j k with h | h
          · exact hno.out j h
          · obtain rfl : j = k := by omega
            exact hd
        have hq : ((F k).toList == s.toList) = false := by rw [str_beq, hd]
        clear hd
        go_wp2_with fail
        go_roundw
        case rel => exact ⟨k + 1, by omega, by go_num, hno2, hb⟩
        case measure => simp [intOf]; omega
    · have hX : Hid (hasT F s N = false) := by
        show _ = _
        rw [Bool.eq_false_iff, ne_eq, hasT, fst_iff]
        rintro ⟨j, hj, e⟩
        rw [hno.out j (by omega)] at e
        cases e
      go_wp2_with fail
      go_ret
      exact ⟨ret_bool hX.out.symm, hb⟩

end Go.Proofs.YtnmmkechkcfjnaaGreatDoor

/-
  Plain words for FnReliefs: a plan of reliefs fills the time without short rests; a period more is worked. No program in sight.-/
namespace Go.Proofs.YtnmmkechkcfjnaaGreatDoor
set_option linter.unusedVariables false
set_option linter.unusedSimpArgs false

section
variable {c : Nat → ByteArray} {n : Nat} {p q r t : Int}
theorem pl_parts (h : plOk c n p q r t = true) : spanB p q r t = true ∧ crB c n = true ∧ n ≤ 8 ∧ lcN p q r t ≤ n ∧ upF (q - p) r ≤ 12 := by
  simp only [plOk, Bool.and_eq_true, decide_eq_true_eq] at h
  exact ⟨h.1.1.1.1, h.1.1.1.2, by omega, h.1.2, h.2⟩
theorem pl_len (h : plOk c n p q r t = true) : (plN c n p q r t : Int) = upF (q - p) r ∧ 1 ≤ plN c n p q r t ∧ plN c n p q r t ≤ 12 := by
  obtain ⟨h1, _, _, _, h5⟩ := pl_parts h
  have h2 := pl_least h1
  rw [plN, if_pos h]
  omega
theorem pl_n (h : plOk c n p q r t = true) : 1 ≤ n := by
  obtain ⟨h1, _, _, h4, _⟩ := pl_parts h
  have h2 := pl_least h1
  omega
/-- Where the k-th period begins. -/
theorem pl_in (h : plOk c n p q r t = true) {k : Nat} (hk : k < plN c n p q r t) : p + k * r < q ∧ 0 ≤ (k : Int) * r := by
  obtain ⟨h1, _⟩ := pl_parts h
  obtain ⟨_, _, _, h5, _⟩ := pl_facts (c := c) (n := n) h1
  have h2 := (pl_len h).1
  have h3 := (up_iff (x := q - p) (r := r) (k := (k : Int)) (by omega)).1 (by omega)
  have h4 : 0 ≤ (k : Int) * r := Int.mul_nonneg (by omega) (by omega)
  omega
theorem pl_end (h : plOk c n p q r t = true) : q ≤ p + (plN c n p q r t : Nat) * r := by
  obtain ⟨h1, _⟩ := pl_parts h
  obtain ⟨_, _, _, h5, _⟩ := pl_facts (c := c) (n := n) h1
  have h2 := (pl_len h).1
  have h3 := fun h' => (up_iff (x := q - p) (r := r) (k := ((plN c n p q r t : Nat) : Int)) (by omega)).2 h'
  by_cases h4 : ((plN c n p q r t : Nat) : Int) * r < q - p
  · have := h3 h4; omega
  · omega
theorem mul_up {i j : Nat} (h : i < j) {r : Int} (hr : 0 ≤ r) : (i : Int) * r + r ≤ j * r := by
  have h1 : ((i + 1 : Nat) : Int) * r ≤ (j : Int) * r := Int.mul_le_mul_of_nonneg_right (by omega) hr
  have h2 : ((i + 1 : Nat) : Int) * r = (i : Int) * r + r := by push_cast; rw [Int.add_mul, Int.one_mul]
  omega
theorem cr_lt (h : crB c n = true) {i : Nat} : ∀ {j : Nat}, i < j → j < n → ltS (c i) (c j) = true
  | j + 1, h1, h2 => by
    have h3 := allB_iff.1 h (j + 1) h2
    have h4 : ltS (c j) (c (j + 1)) = true := by simp only [crP, riP, Bool.and_eq_true] at h3; simpa using h3.2
    rcases Nat.lt_or_ge i j with h5 | h5
    · exact ltS_trans (cr_lt h h5 (by omega)) h4
    · obtain rfl : i = j := by omega
      exact h4
theorem cr_inj (h : crB c n = true) {i j : Nat} (hi : i < n) (hj : j < n) (e : c i = c j) : i = j := by
  rcases Nat.lt_trichotomy i j with h1 | h1 | h1
  · have := cr_lt h h1 hj; rw [e, ltS_irrefl] at this; cases this
  · exact h1
  · have := cr_lt h h1 hi; rw [e, ltS_irrefl] at this; cases this
theorem plan_periods (h : plOk c n p q r t = true) : pdB (plC c n) (plA p r) (plB p q r) (plN c n p q r t) = true := by
  obtain ⟨h1, h2, h3, h4, h5⟩ := pl_parts h
  obtain ⟨g1, g2, g3, g4, g5⟩ := pl_facts (c := c) (n := n) h1
  have hn := pl_n h
  have hl := pl_len h
  simp only [pdB, Bool.and_eq_true, allB_iff, decide_eq_true_eq]
  refine ⟨fun i hi => ?_, by omega⟩
  rw [prS_iff]
  obtain ⟨b1, b2⟩ := pl_in h hi
  refine ⟨?_, ?_, fun j hj _ => ?_⟩
  · rw [perB_iff]
    have hm : i % n < n := Nat.mod_lt _ (by omega)
    have hc := allB_iff.1 h2 (i % n) hm
    simp only [crP, Bool.and_eq_true] at hc
    refine ⟨hc.1, ?_, ?_, ?_⟩ <;> simp only [plA, plB] <;> omega
  · simp only [ordI, Bool.or_eq_true, decide_eq_true_eq]
    rcases Nat.eq_zero_or_pos i with h0 | h0
    · exact .inl h0
    · right
      rw [befB_iff]
      left
      have := mul_up (show i - 1 < i by omega) (show 0 ≤ r by omega)
      simp only [plA]
      omega
  · have := mul_up hj (show 0 ≤ r by omega)
    simp only [plA, plB]
    omega
theorem up_mul {x r : Int} (hr : 0 < r) : x ≤ upF x r * r := by
  have h := up_iff (x := x) (r := r) (k := upF x r) hr
  by_cases h1 : upF x r * r < x
  · have := h.2 h1; omega
  · omega
/-- No rest in the plan is short. -/
theorem plan_rests (h : plOk c n p q r t = true) : flt (srQ (plC c n) (plA p r) (plB p q r) (plN c n p q r t) t) (plN c n p q r t) = [] := by
  obtain ⟨h1, h2, h3, h4, h5⟩ := pl_parts h
  obtain ⟨g1, g2, g3, g4, g5⟩ := pl_facts (c := c) (n := n) h1
  have hn := pl_n h
  have hl := pl_len h
  rw [List.eq_nil_iff_forall_not_mem]
  intro i hi
  obtain ⟨hi1, hi2⟩ := flt_mem.1 hi
  simp only [srQ, srP, Bool.and_eq_true, decide_eq_true_eq, inB_iff] at hi2
  obtain ⟨_, e1, e2, e3⟩ := hi2
  obtain ⟨k, hk⟩ : ∃ k : Nat, befI (plC c n) i = k := ⟨(befI (plC c n) i).toNat, by omega⟩
  rw [hk, Int.toNat_natCast] at e2 e3
  obtain ⟨k1, k2, _⟩ := befI_facts hk
  have hm1 : i % n < n := Nat.mod_lt _ (by omega)
  have hm2 : k % n < n := Nat.mod_lt _ (by omega)
  have hmod : k % n = i % n := cr_inj h2 hm2 hm1 k2
  have hge : k + n ≤ i := by
    have a1 := Nat.div_add_mod i n
    have a2 := Nat.div_add_mod k n
    have a3 : k / n < i / n := by
      rcases Nat.lt_or_ge (k / n) (i / n) with h6 | h6
      · exact h6
      · have := Nat.mul_le_mul_left n h6; omega
    have a4 := Nat.mul_le_mul_left n (show k / n + 1 ≤ i / n by omega)
    rw [Nat.mul_add, Nat.mul_one] at a4
    omega
  obtain ⟨b1, b2⟩ := pl_in h hi1
  have b3 := mul_up k1 (show 0 ≤ r by omega)
  have hb : plB p q r k = p + k * r + r := by simp only [plB]; omega
  have hgap : plA p r i - plB p q r k = ((i - k - 1 : Nat) : Int) * r := by
    rw [hb]
    simp only [plA]
    have : ((i - k - 1 : Nat) : Int) = (i : Int) - k - 1 := by omega
    rw [this, Int.sub_mul, Int.sub_mul, Int.one_mul]
    omega
  rw [hgap] at e2 e3
  rcases Int.lt_or_le (n : Int) (upF t r + 1) with h6 | h6
  · unfold lcN at h4
    omega
  · have u1 := up_mul (x := t) (r := r) (by omega)
    have u2 : upF t r * r ≤ ((i - k - 1 : Nat) : Int) * r := Int.mul_le_mul_of_nonneg_right (by omega) (by omega)
    omega
/-- The chain of the plan: behind k periods. -/
def plT (p q r : Int) (k : Nat) : Int := min (p + k * r) q
theorem plT_zero (h : plOk c n p q r t = true) : plT p q r 0 = p := by
  obtain ⟨h1, _⟩ := pl_parts h
  obtain ⟨g1, g2, g3, _⟩ := pl_facts (c := c) (n := n) h1
  simp only [plT]
  omega
theorem plT_at (h : plOk c n p q r t = true) {k : Nat} (hk : k < plN c n p q r t) : plA p r k = plT p q r k ∧ plB p q r k = plT p q r (k + 1) ∧ plB p q r k - plA p r k ≤ r ∧ 0 ≤ plA p r k ∧ plA p r k ≤ 9999 ∧ 0 ≤ plB p q r k ∧ plB p q r k ≤ 9999 := by
  obtain ⟨h1, _⟩ := pl_parts h
  obtain ⟨g1, g2, g3, g4, _⟩ := pl_facts (c := c) (n := n) h1
  obtain ⟨b1, b2⟩ := pl_in h hk
  have e : ((k + 1 : Nat) : Int) * r = (k : Int) * r + r := by push_cast; rw [Int.add_mul, Int.one_mul]
  simp only [plA, plB, plT, e]
  omega
theorem plT_end (h : plOk c n p q r t = true) : plT p q r (plN c n p q r t) = q := by
  have := pl_end h
  simp only [plT]
  omega
end
section
variable {c : Nat → ByteArray} {a b : Nat → Int} {n : Nat} {s : ByteArray} {x y : Int}
theorem wk_all (hp : pdB c a b n = true) {k : Nat} (hk : k < n) : wkF c a b s 9999 (k + 1) = if c k = s then wkF c a b s 9999 k + (b k - a k) else wkF c a b s 9999 k := by
  have h0 := (perB_iff.1 ((pd_facts hp).2 k hk).1).2
  by_cases h : c k = s
  · rw [if_pos h, wk_yes h (by omega)]; omega
  · rw [if_neg h, wk_no (fun h1 => h h1.1)]
theorem add_parts (h : adOk c a b n s x y = true) : pdB c a b n = true ∧ perB s x y = true ∧ pdB (adS c (adK c a n s x) s) (adI a (adK c a n s x) x) (adI b (adK c a n s x) y) (n + 1) = true := by
  simp only [adOk, adF, Bool.and_eq_true] at h
  exact ⟨h.1.1, h.1.2, h.2⟩
theorem wk_add {K : Nat} (hK : K ≤ n) (h1 : pdB c a b n = true) (h2 : pdB (adS c K s) (adI a K x) (adI b K y) (n + 1) = true) : ∀ k, k ≤ n + 1 → wkF (adS c K s) (adI a K x) (adI b K y) s 9999 k = if k ≤ K then wkF c a b s 9999 k else wkF c a b s 9999 (k - 1) + (y - x)
  | 0, _ => by simp [wkF]
  | k + 1, hk => by
    have ih := wk_add hK h1 h2 k (by omega)
    rw [wk_all h2 (by omega), ih]
    rcases Nat.lt_trichotomy k K with h3 | h3 | h3
    · have e1 : k + 1 ≤ K := by omega
      have e2 : k ≤ K := by omega
      rw [if_pos e1, if_pos e2, wk_all h1 (by omega)]
      simp only [adS, adI, if_pos h3]
    · subst h3
      have e1 : ¬ k + 1 ≤ k := by omega
      rw [if_neg e1, if_pos (Nat.le_refl _)]
      simp [adS, adI]
    · have e1 : ¬ k + 1 ≤ K := by omega
      have e2 : ¬ k ≤ K := by omega
      have e3 : ¬ k < K := by omega
      have e4 : ¬ k = K := by omega
      obtain ⟨m, rfl⟩ : ∃ m, k = m + 1 := ⟨k - 1, by omega⟩
      rw [if_neg e1, if_neg e2]
      simp only [adS, adI, if_neg e3, if_neg e4, Nat.add_sub_cancel]
      rw [wk_all h1 (show m < n by omega)]
      split <;> omega
/-- A period more: the crew works at its start; it has worked so much more. -/
theorem add_facts (h : adOk c a b n s x y = true) :
    askP c a b n s 9999 = true ∧ caOk (adS c (adK c a n s x) s) (adI a (adK c a n s x) x) (adI b (adK c a n s x) y) (n + 1) x = true
      ∧ anyAt (adS c (adK c a n s x) s) (adI a (adK c a n s x) x) (adI b (adK c a n s x) y) (n + 1) s x = true
      ∧ askP (adS c (adK c a n s x) s) (adI a (adK c a n s x) x) (adI b (adK c a n s x) y) (n + 1) s 9999 = true
      ∧ wkN (adS c (adK c a n s x) s) (adI a (adK c a n s x) x) (adI b (adK c a n s x) y) (n + 1) s 9999 = wkN c a b n s 9999 + (y - x)
      ∧ 0 ≤ wkN c a b n s 9999 ∧ wkN c a b n s 9999 ≤ 9999 * n := by
  obtain ⟨h1, h2, h3⟩ := add_parts h
  have hK := adK_le c a n s x
  have hper := perB_iff.1 h2
  have q1 : askP c a b n s 9999 = true := by simp only [askP, Bool.and_eq_true, inB_iff]; exact ⟨⟨h1, hper.1⟩, by omega, by omega⟩
  have q2 : askP (adS c (adK c a n s x) s) (adI a (adK c a n s x) x) (adI b (adK c a n s x) y) (n + 1) s 9999 = true := by simp only [askP, Bool.and_eq_true, inB_iff]; exact ⟨⟨h3, hper.1⟩, by omega, by omega⟩
  refine ⟨q1, by simp only [caOk, Bool.and_eq_true, inB_iff]; exact ⟨h3, by omega, by omega⟩, ?_, q2, ?_, ?_⟩
  · rw [anyAt, fst_iff]
    refine ⟨adK c a n s x, by omega, ?_⟩
    simp only [atI, adS, adI, Nat.lt_irrefl, if_false, if_true, decide_true, Bool.true_and, inB_iff]
    omega
  · rw [wkN, wkN, if_pos q1, if_pos q2, wk_add hK h1 h3 (n + 1) (Nat.le_refl _), if_neg (by omega), Nat.add_sub_cancel]
  · rw [wkN, if_pos q1]
    exact wk_bd h1 (by omega) (by omega) n (Nat.le_refl _)
end

end Go.Proofs.YtnmmkechkcfjnaaGreatDoor
