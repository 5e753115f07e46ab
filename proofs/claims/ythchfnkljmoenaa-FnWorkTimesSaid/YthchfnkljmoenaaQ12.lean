/-
  Texts of this proof, one behind the other (part 12).
-/
import Derived.Test.YthchfnkljmoenaaQ11
/-
  Walks: the indices of periods behind short rests.-/
namespace Go.Proofs.Ythchfnkljmoenaa
set_option linter.unusedVariables false
set_option linter.unusedSimpArgs false
open Go.RowKit

def srP (c : Nat → ByteArray) (a b : Nat → Int) (q : Int) (i : Nat) : Bool := decide (0 ≤ befI c i) && inB (a i - b (befI c i).toNat) 1 (q - 1)
set_option maxRecDepth 100000 in
set_option maxHeartbeats 1600000 in
theorem rfPrevious_any (c : Nat → ByteArray) (a b : Nat → Int) (n i : Nat) (lo hi : Nat) (v : Value) (w : World) (hv : Sl w lo hi 3 v n (siiC c a b)) (hhi : hi ≤ w.heap.size) (hn : n ≤ 1048576) (hp : pdB c a b n = true) (hin : i < n) :
    Calls Try.prog 54 #[v, .int .i64 i] w fun e w' => e = .returned (.int .i64 (pvM c b (c i) i)) ∧ Below w.heap.size w w' := by
  obtain ⟨A, cap, rfl, hcap, hA⟩ := hv.open_
  obtain ⟨blk, off, rfl, h1, h2, h3⟩ := hA (by omega)
  have HP := hide hp
  have i0 : w.cell? ⟨blk, off + i * 3, none⟩ = some (.string (c i)) := h3 i 0 hin (by omega)
  have H3 := hide h3
  have l4 : i ≤ cap := by omega
  have l5 : (i : Int) ≤ (cap : Int) := by omega
  clear hp h3 hv hA
  go_enter Try.func54, Try.ntmps54
  go_wp2_with fail
  go_loopw [5, 12] (fun x j wr => ∃ k : Nat, k ≤ i ∧ j = .int .i64 k ∧ x = .int .i64 (pvM c b (c i) k) ∧ Below w.heap.size w wr) (fun _ j _ => i - (intOf j).toNat)
  case atStart => exact ⟨0, by omega, rfl, rfl, Below.refl _ _⟩
  case round =>
    obtain ⟨k, hk, rfl, rfl, hb⟩ := hrel
    have hzr := hb.size
    by_cases hkn : k < i
    · have j0 := (hb.cell (p := ⟨blk, off + i * 3, none⟩) (by show blk < _; omega)).trans i0
      have c0 : wr.cell? ⟨blk, off + k * 3, none⟩ = some (.string (c k)) := (hb.cell (p := ⟨blk, off + k * 3, none⟩) (by show blk < _; omega)).trans (H3.out k 0 (by omega) (by omega))
      have c1 : wr.cell? ⟨blk, off + k * 3 + 1, none⟩ = some (.int .i64 (a k)) := (hb.cell (p := ⟨blk, off + k * 3 + 1, none⟩) (by show blk < _; omega)).trans (H3.out k 1 (by omega) (by omega))
      have c2 : wr.cell? ⟨blk, off + k * 3 + 2, none⟩ = some (.int .i64 (b k)) := (hb.cell (p := ⟨blk, off + k * 3 + 2, none⟩) (by show blk < _; omega)).trans (H3.out k 2 (by omega) (by omega))
      have l0 : blk < wr.heap.size := by omega
      have q2 : (i : Int) < (n : Int) := by omega
      cases e0 : ((c k).toList == (c i).toList) with
      | false =>
        have HG : Hid (pvM c b (c i) (k + 1) = pvM c b (c i) k) := by show _ = _; rw [str_beq] at e0; rw [pvM, if_neg (of_decide_eq_false e0)]
        go_wp2_with fail
        go_quiet (fail)
        go_wp2_with fail
        go_roundw
        case rel => exact ⟨k + 1, by omega, by go_num, by rw [HG.out], (by repeat (first | (with_reducible exact Below.refl _ _) | (with_reducible refine below_ov ?_ ?_) | (with_reducible refine Below.setCell ?_ ?_ _) | (with_reducible refine Below.alloc ?_ ?_ _) | (with_reducible refine Below.drew ?_) | (with_reducible refine below_drewN ?_ _) | (refine Below.trans ?_ (Below.mono ‹Below _ _ _› (by first | omega | (simp; done) | (simp; omega)))) | exact Below.refl _ _ | omega | (focus (simp; done)) | (focus (simp; omega))))⟩
        case measure => simp [intOf]; omega
      | true =>
        have HG : Hid (pvM c b (c i) (k + 1) = max (pvM c b (c i) k) (b k)) := by show _ = _; rw [str_beq] at e0; rw [pvM, if_pos (of_decide_eq_true e0)]
        go_wp2_with fail
        go_quiet (fail)
        go_wp2_with (go_at_call 36; refine (l1Most_any _ _ _).mono ?_; rintro e w' ⟨rfl, rfl⟩)
        go_roundw
        case rel => exact ⟨k + 1, by omega, by go_num, by rw [HG.out], (by repeat (first | (with_reducible exact Below.refl _ _) | (with_reducible refine below_ov ?_ ?_) | (with_reducible refine Below.setCell ?_ ?_ _) | (with_reducible refine Below.alloc ?_ ?_ _) | (with_reducible refine Below.drew ?_) | (with_reducible refine below_drewN ?_ _) | (refine Below.trans ?_ (Below.mono ‹Below _ _ _› (by first | omega | (simp; done) | (simp; omega)))) | exact Below.refl _ _ | omega | (focus (simp; done)) | (focus (simp; omega))))⟩
        case measure => simp [intOf]; omega
    · obtain rfl : k = i := by omega
      go_wp2_with fail
      go_ret
      exact ⟨rfl, hb⟩
theorem infoIntN : (Try.prog.info? 3).map (fun i => (i.zero, i.size, i.bytes)) = some (some (.int .i64 0), 1, 8) := by kernel_rfl
def srOk (c : Nat → ByteArray) (a b : Nat → Int) (n : Nat) (q : Int) : Bool := pdB c a b n && inB q 0 720
def srQ (c : Nat → ByteArray) (a b : Nat → Int) (n : Nat) (q : Int) (i : Nat) : Bool := srOk c a b n q && srP c a b q i
theorem srQ_no {c : Nat → ByteArray} {a b : Nat → Int} {n : Nat} {q : Int} (h : srOk c a b n q = false) : ∀ k, flt (srQ c a b n q) k = []
  | 0 => rfl
  | k + 1 => by rw [flt_no (by simp [srQ, h]), srQ_no h k]
theorem srQ_at {c : Nat → ByteArray} {a b : Nat → Int} {n : Nat} {q : Int} {i : Nat} (h : srOk c a b n q = true) : srQ c a b n q i = srP c a b q i := by simp [srQ, h]
/-- What the call hands back. -/
def IdxRes (p : Nat → Bool) (n : Nat) (ok : Bool) (w : World) (e : Ending) (w' : World) : Prop := ∃ v', e = .returned (.tuple #[v', .bool ok]) ∧ Own w' w.heap.size w'.heap.size 3 1 v' (flt p n).length (flt p n).length (iC (fltI p n)) ∧ Below w.heap.size w w'
theorem idx_nil {p : Nat → Bool} {n : Nat} {w w' : World} (h : flt p n = []) (hb : Below w.heap.size w w') : IdxRes p n false w (.returned (.tuple #[.slice none 0 0, .bool false])) w' :=
  ⟨_, rfl, by rw [h]; exact Own.nil_ _ _ _ _ _ _, hb⟩
set_option maxRecDepth 100000 in
set_option maxHeartbeats 1600000 in
theorem ShortRests_spec (c : Nat → ByteArray) (a b : Nat → Int) (n : Nat) (q : Int) (lo hi : Nat) (v : Value) (w : World) (hv : Sl w lo hi 3 v n (siiC c a b)) (hhi : hi ≤ w.heap.size) (hf : pfits c n) :
    Calls Try.prog 24 #[v, .int .i64 q] w (IdxRes (srQ c a b n q) n (srOk c a b n q) w) := by
  obtain ⟨A, cap, rfl, hcap, hA⟩ := hv.open_
  have hn := hf.1
  obtain ⟨ii, hii, iz0, iz1, iz2⟩ := info_parts infoIntN
  cases hc1_0 : pdB c a b n with
  | false =>
    have HX : Hid (srOk c a b n q = false) := by show _ = _; simp [srOk, *]
    go_enter Try.func24, Try.ntmps24
    go_wp2_with (first | (go_at_call 40; refine (rfGood_any c a b n lo hi _ _ hv hhi hf).mono ?_; rintro e w1 ⟨rfl, hb1⟩; have hz1 := hb1.size; (try (simp at hz1)); obtain ⟨hcw1, hfw1⟩ := bcell hb1; (try (have hy1 : w.heap.size < w1.heap.size := by omega)); (try (have hyy1 : w.heap.size + 1 < w1.heap.size := by omega)); (try (have hyyy1 : w.heap.size + 1 + 1 < w1.heap.size := by omega))) | (go_at_call 57; refine (rfLeast_any _ _).mono ?_; rintro e w' ⟨rfl, rfl⟩))
    go_ret2
    rw [HX.out]
    exact idx_nil (srQ_no HX.out n) (by repeat (first | (with_reducible exact Below.refl _ _) | (with_reducible refine below_ov ?_ ?_) | (with_reducible refine Below.setCell ?_ ?_ _) | (with_reducible refine Below.alloc ?_ ?_ _) | (with_reducible refine Below.drew ?_) | (with_reducible refine below_drewN ?_ _) | (refine Below.trans ?_ (Below.mono ‹Below _ _ _› (by first | omega | (simp; done) | (simp; omega)))) | exact Below.refl _ _ | omega | (focus (simp; done)) | (focus (simp; omega))))
  | true =>
    cases hc1_1 : inB q 0 720 with
    | false =>
      have HX : Hid (srOk c a b n q = false) := by show _ = _; simp [srOk, *]
      go_enter Try.func24, Try.ntmps24
      go_wp2_with (first | (go_at_call 40; refine (rfGood_any c a b n lo hi _ _ hv hhi hf).mono ?_; rintro e w1 ⟨rfl, hb1⟩; have hz1 := hb1.size; (try (simp at hz1)); obtain ⟨hcw1, hfw1⟩ := bcell hb1; (try (have hy1 : w.heap.size < w1.heap.size := by omega)); (try (have hyy1 : w.heap.size + 1 < w1.heap.size := by omega)); (try (have hyyy1 : w.heap.size + 1 + 1 < w1.heap.size := by omega))) | (go_at_call 57; refine (rfLeast_any _ _).mono ?_; rintro e w' ⟨rfl, rfl⟩))
      go_ret2
      rw [HX.out]
      exact idx_nil (srQ_no HX.out n) (by repeat (first | (with_reducible exact Below.refl _ _) | (with_reducible refine below_ov ?_ ?_) | (with_reducible refine Below.setCell ?_ ?_ _) | (with_reducible refine Below.alloc ?_ ?_ _) | (with_reducible refine Below.drew ?_) | (with_reducible refine below_drewN ?_ _) | (refine Below.trans ?_ (Below.mono ‹Below _ _ _› (by first | omega | (simp; done) | (simp; omega)))) | exact Below.refl _ _ | omega | (focus (simp; done)) | (focus (simp; omega))))
    | true =>
      obtain ⟨hc1_1l, hc1_1r⟩ := inB_iff.1 hc1_1
      have HX : Hid (srOk c a b n q = true) := by show _ = _; simp [srOk, *]
      have HP : Hid (pdB c a b n = true) := by show _ = _; assumption
      go_enter Try.func24, Try.ntmps24
      go_wp2_with (first | (go_at_call 40; refine (rfGood_any c a b n lo hi _ _ hv hhi hf).mono ?_; rintro e w1 ⟨rfl, hb1⟩; have hz1 := hb1.size; (try (simp at hz1)); obtain ⟨hcw1, hfw1⟩ := bcell hb1; (try (have hy1 : w.heap.size < w1.heap.size := by omega)); (try (have hyy1 : w.heap.size + 1 < w1.heap.size := by omega)); (try (have hyyy1 : w.heap.size + 1 + 1 < w1.heap.size := by omega))) | (go_at_call 57; refine (rfLeast_any _ _).mono ?_; rintro e w' ⟨rfl, rfl⟩))
      have hb0 : Below w.heap.size w w1 := (by repeat (first | (with_reducible exact Below.refl _ _) | (with_reducible refine below_ov ?_ ?_) | (with_reducible refine Below.setCell ?_ ?_ _) | (with_reducible refine Below.alloc ?_ ?_ _) | (with_reducible refine Below.drew ?_) | (with_reducible refine below_drewN ?_ _) | (refine Below.trans ?_ (Below.mono ‹Below _ _ _› (by first | omega | (simp; done) | (simp; omega)))) | exact Below.refl _ _ | omega | (focus (simp; done)) | (focus (simp; omega))))
      go_loopw [6, 20] (fun o i wr => ∃ (k : Nat) (B : Option Addr) (cp : Nat), k ≤ n ∧ i = .int .i64 k ∧ o = .slice B (flt (srQ c a b n q) k).length cp ∧ Hid (wr.ownsRow w.heap.size 3 1 (.slice B (flt (srQ c a b n q) k).length cp) (flt (srQ c a b n q) k).length (fltV (srQ c a b n q) k)) ∧ Below w.heap.size w wr) (fun _ i _ => n - (intOf i).toNat)
      case atStart => exact ⟨0, none, 0, by omega, rfl, rfl, World.ownsRow_nil _ _ _ _, hb0⟩
      case round =>
        obtain ⟨k, B, cp, hk, rfl, rfl, hown, hb⟩ := hrel
        have hzr := hb.size
        have hfl := flt_len (srQ c a b n q) k
        by_cases hkn : k < n
        · obtain ⟨blk, off, rfl, h1, h2, h3⟩ := (hA.below hb (by omega)) (by omega)
          have c0 : wr.cell? ⟨blk, off + k * 3, none⟩ = some (.string (c k)) := h3 k 0 hkn (by omega)
          have c1 : wr.cell? ⟨blk, off + k * 3 + 1, none⟩ = some (.int .i64 (a k)) := h3 k 1 hkn (by omega)
          have c2 : wr.cell? ⟨blk, off + k * 3 + 2, none⟩ = some (.int .i64 (b k)) := h3 k 2 hkn (by omega)
          have H3 := hide h3
          have l0 : blk < wr.heap.size := by omega
          clear h3 hA
          have hpk := (perB_iff.1 ((pd_facts HP.out).2 k hkn).1).2
          have hn12 := (pd_facts HP.out).1
          have hbd : -1 ≤ befI c k ∧ befI c k < k := lstI_bd _ _
          go_wp2_with fail
          refine (rfPrevious_any c a b n k lo hi _ _ (hv.below (B := w.heap.size) (by repeat (first | (with_reducible exact Below.refl _ _) | (with_reducible refine below_ov ?_ ?_) | (with_reducible refine Below.setCell ?_ ?_ _) | (with_reducible refine Below.alloc ?_ ?_ _) | (with_reducible refine Below.drew ?_) | (with_reducible refine below_drewN ?_ _) | (refine Below.trans ?_ (Below.mono ‹Below _ _ _› (by first | omega | (simp; done) | (simp; omega)))) | exact Below.refl _ _ | omega | (focus (simp; done)) | (focus (simp; omega)))) hhi) (by first | omega | (simp; done) | (simp; omega)) hn HP.out hkn).mono ?_
          rintro e w4 ⟨rfl, hb4⟩
          have hz4 := hb4.size
          (try (simp at hz4))
          have ho4 := hide (row_below ((hown.out).alloc _) hb4 (Nat.le_refl _))
          have l4 : wr.heap.size < w4.heap.size := by omega
          have l7 : blk < w4.heap.size := by omega
          have pa1 := (hb4.cell (p := ⟨wr.heap.size, 1, none⟩) (by simp)).trans (World.cell?_alloc_new _ _ _ _)
          simp at pa1
          by_cases hlt : befI c k < 0
          · have E4 : Hid (decide (0 ≤ befI c k) = false) := decide_eq_false (by omega)
            have HPV : pvM c b (c k) k = -1 := by rw [pv_eq HP.out hkn, if_pos hlt]
            rw [HPV]
            clear HPV
            have hT : srQ c a b n q k = false := by rw [srQ_at HX.out]; simp [srP, E4.out]
            have HL : Hid ((flt (srQ c a b n q) (k + 1)) = flt (srQ c a b n q) k) := by show _ = _; rw [flt_no hT]
            have HV : Hid (fltV (srQ c a b n q) (k + 1) = fltV (srQ c a b n q) k) := by show _ = _; rw [fltV, flt_no hT]; rfl
            clear hT
            go_wp2_with fail
            go_roundw
            case rel => exact ⟨k + 1, B, cp, by omega, by go_num, by rw [HL.out], by rw [HL.out, HV.out]; exact ho4, (by repeat (first | (with_reducible exact Below.refl _ _) | (with_reducible refine below_ov ?_ ?_) | (with_reducible refine Below.setCell ?_ ?_ _) | (with_reducible refine Below.alloc ?_ ?_ _) | (with_reducible refine Below.drew ?_) | (with_reducible refine below_drewN ?_ _) | (refine Below.trans ?_ (Below.mono ‹Below _ _ _› (by first | omega | (simp; done) | (simp; omega)))) | exact Below.refl _ _ | omega | (focus (simp; done)) | (focus (simp; omega))))⟩
            case measure => simp [intOf]; omega
          · obtain ⟨j, hjj⟩ : ∃ j : Nat, befI c k = j := ⟨(befI c k).toNat, by omega⟩
            have hjk : j < k := (befI_facts hjj).1
            have JJ := hide hjj
            have hpj := (perB_iff.1 ((pd_facts HP.out).2 j (by omega)).1).2
            have pj : w4.cell? ⟨blk, off + j * 3 + 2, none⟩ = some (.int .i64 (b j)) := (hb4.cell (p := ⟨blk, off + j * 3 + 2, none⟩) (by simp; omega)).trans ((World.cell?_alloc_lt _ _ _ l0).trans (H3.out j 2 (by omega) (by omega)))
            have q0 : (0 : Int) ≤ (j : Int) := by omega
            have q1 : (j : Int) < (n : Int) := by omega
            have HPV : pvM c b (c k) k = b j := by rw [pv_eq HP.out hkn, hjj, if_neg (by omega), Int.toNat_natCast]
            rw [HPV]
            clear HPV
            have q3 : 0 ≤ b j := by omega
            clear hjj hlt hbd
            cases e5 : inB (a k - b j) 1 (q - 1) with
            | true =>
              have E4 : Hid (0 ≤ befI c k ∧ inB (a k - b (befI c k).toNat) 1 (q - 1) = true) := ⟨by rw [JJ.out]; omega, by rw [JJ.out, Int.toNat_natCast]; exact e5⟩
              have hT : srQ c a b n q k = true := by rw [srQ_at HX.out]; simp [srP, E4.out]
              have HL : Hid ((flt (srQ c a b n q) (k + 1)).length = (flt (srQ c a b n q) k).length + 1) := by show _ = _; rw [flt_yes hT]; simp
              have HV : Hid (fltV (srQ c a b n q) (k + 1) = fltV (srQ c a b n q) k ++ [.int .i64 (k : Int)]) := by show _ = _; rw [fltV, flt_yes hT]; simp [fltV]
              clear hT
              go_wp2_with (first | (go_at_call 42; refine (l1In_any _ _ _ _).mono ?_; rintro e w' ⟨rfl, rfl⟩) | (at_builtin; refine wpList_append_own _ rfl _ _ 41 rfl w.heap.size 3 ii (.int .i64 0) 1 8 Try.underlying41 hii iz0 iz1 iz2 rfl (by decide) _ _ _ rfl (ho4.out.alloc _) ⟨w4.heap.size, 0, none⟩ 1 1 [.int .i64 (k : Int)] rfl rfl ?_ ?_ ?_ ?_ ?_ ?_))
              · intro i u hu
                match i, hu with
                | 0, hu => simp at hu; subst hu; simp [go_sem, Addr.add]
              · intro u hu; simp at hu; subst hu; rfl
              · unfold maxLen; omega
              · omega
              · simp; omega
              intro v' w5 hown5 hg5 _
              have hb4w : Below w.heap.size w w4 := (by repeat (first | (with_reducible exact Below.refl _ _) | (with_reducible refine below_ov ?_ ?_) | (with_reducible refine Below.setCell ?_ ?_ _) | (with_reducible refine Below.alloc ?_ ?_ _) | (with_reducible refine Below.drew ?_) | (with_reducible refine below_drewN ?_ _) | (refine Below.trans ?_ (Below.mono ‹Below _ _ _› (by first | omega | (simp; done) | (simp; omega)))) | exact Below.refl _ _ | omega | (focus (simp; done)) | (focus (simp; omega))))
              have hb5 : Below w.heap.size w w5 := (hb4w.alloc (by omega) _).grown hg5 (by simp; omega) (fun g hg => (ho4.out.lt g hg).1)
              have hz5 := hb5.size
              obtain ⟨B2, cp2, rfl⟩ := row_form hown5
              have hown6 := hide hown5
              clear hown5 hg5 ho4
              go_wp2_with fail
              go_roundw
              case rel => exact ⟨k + 1, B2, cp2, by omega, by go_num, by rw [HL.out], by rw [HL.out, HV.out]; exact hown6, hb5⟩
              case measure => simp [intOf]; omega
            | false =>
              have E4 : Hid (0 ≤ befI c k ∧ inB (a k - b (befI c k).toNat) 1 (q - 1) = false) := ⟨by rw [JJ.out]; omega, by rw [JJ.out, Int.toNat_natCast]; exact e5⟩
              have hT : srQ c a b n q k = false := by rw [srQ_at HX.out]; simp [srP, E4.out]
              have HL : Hid ((flt (srQ c a b n q) (k + 1)) = flt (srQ c a b n q) k) := by show _ = _; rw [flt_no hT]
              have HV : Hid (fltV (srQ c a b n q) (k + 1) = fltV (srQ c a b n q) k) := by show _ = _; rw [fltV, flt_no hT]; rfl
              clear hT
              go_wp2_with (go_at_call 42; refine (l1In_any _ _ _ _).mono ?_; rintro e w' ⟨rfl, rfl⟩)
              go_roundw
              case rel => exact ⟨k + 1, B, cp, by omega, by go_num, by rw [HL.out], by rw [HL.out, HV.out]; exact ho4, (by repeat (first | (with_reducible exact Below.refl _ _) | (with_reducible refine below_ov ?_ ?_) | (with_reducible refine Below.setCell ?_ ?_ _) | (with_reducible refine Below.alloc ?_ ?_ _) | (with_reducible refine Below.drew ?_) | (with_reducible refine below_drewN ?_ _) | (refine Below.trans ?_ (Below.mono ‹Below _ _ _› (by first | omega | (simp; done) | (simp; omega)))) | exact Below.refl _ _ | omega | (focus (simp; done)) | (focus (simp; omega))))⟩
              case measure => simp [intOf]; omega
        · obtain rfl : k = n := by omega
          go_wp2_with fail
          go_ret2
          rw [HX.out]
          exact ⟨_, rfl, (own_flt hown.out), hb⟩
set_option maxRecDepth 100000 in
set_option maxHeartbeats 1600000 in
theorem ShortRests_impl (c : Nat → ByteArray) (a b : Nat → Int) (n : Nat) (q : Int) (lo hi : Nat) (v : Value) (w : World) (hv : Sl w lo hi 3 v n (siiC c a b)) (hhi : hi ≤ w.heap.size) (hf : pfits c n) :
    Calls Try.prog 23 #[v, .int .i64 q] w (IdxRes (srQ c a b n q) n (srOk c a b n q) w) := by
  obtain ⟨A, cap, rfl, hcap, hA⟩ := hv.open_
  have hn := hf.1
  obtain ⟨ii, hii, iz0, iz1, iz2⟩ := info_parts infoIntN
  cases hc2_0 : pdB c a b n with
  | false =>
    have HX : Hid (srOk c a b n q = false) := by show _ = _; simp [srOk, *]
    go_enter Try.func23, Try.ntmps23
    go_wp2_with (first | (go_at_call 30; refine (arePeriods_any c a b n lo hi _ _ hv hhi hf).mono ?_; rintro e w1 ⟨rfl, hb1⟩; have hz1 := hb1.size; (try (simp at hz1)); obtain ⟨hcw1, hfw1⟩ := bcell hb1; (try (have hy1 : w.heap.size < w1.heap.size := by omega)); (try (have hyy1 : w.heap.size + 1 < w1.heap.size := by omega)); (try (have hyyy1 : w.heap.size + 1 + 1 < w1.heap.size := by omega))) | (go_at_call 33; refine (inside_any _ _ _ _).mono ?_; rintro e w' ⟨rfl, rfl⟩))
    go_ret2
    rw [HX.out]
    exact idx_nil (srQ_no HX.out n) (by repeat (first | (with_reducible exact Below.refl _ _) | (with_reducible refine below_ov ?_ ?_) | (with_reducible refine Below.setCell ?_ ?_ _) | (with_reducible refine Below.alloc ?_ ?_ _) | (with_reducible refine Below.drew ?_) | (with_reducible refine below_drewN ?_ _) | (refine Below.trans ?_ (Below.mono ‹Below _ _ _› (by first | omega | (simp; done) | (simp; omega)))) | exact Below.refl _ _ | omega | (focus (simp; done)) | (focus (simp; omega))))
  | true =>
    cases hc2_1 : inB q 0 720 with
    | false =>
      have HX : Hid (srOk c a b n q = false) := by show _ = _; simp [srOk, *]
      go_enter Try.func23, Try.ntmps23
      go_wp2_with (first | (go_at_call 30; refine (arePeriods_any c a b n lo hi _ _ hv hhi hf).mono ?_; rintro e w1 ⟨rfl, hb1⟩; have hz1 := hb1.size; (try (simp at hz1)); obtain ⟨hcw1, hfw1⟩ := bcell hb1; (try (have hy1 : w.heap.size < w1.heap.size := by omega)); (try (have hyy1 : w.heap.size + 1 < w1.heap.size := by omega)); (try (have hyyy1 : w.heap.size + 1 + 1 < w1.heap.size := by omega))) | (go_at_call 33; refine (inside_any _ _ _ _).mono ?_; rintro e w' ⟨rfl, rfl⟩))
      go_ret2
      rw [HX.out]
      exact idx_nil (srQ_no HX.out n) (by repeat (first | (with_reducible exact Below.refl _ _) | (with_reducible refine below_ov ?_ ?_) | (with_reducible refine Below.setCell ?_ ?_ _) | (with_reducible refine Below.alloc ?_ ?_ _) | (with_reducible refine Below.drew ?_) | (with_reducible refine below_drewN ?_ _) | (refine Below.trans ?_ (Below.mono ‹Below _ _ _› (by first | omega | (simp; done) | (simp; omega)))) | exact Below.refl _ _ | omega | (focus (simp; done)) | (focus (simp; omega))))
    | true =>
      obtain ⟨hc2_1l, hc2_1r⟩ := inB_iff.1 hc2_1
      have HX : Hid (srOk c a b n q = true) := by show _ = _; simp [srOk, *]
      have HP : Hid (pdB c a b n = true) := by show _ = _; assumption
      go_enter Try.func23, Try.ntmps23
      go_wp2_with (first | (go_at_call 30; refine (arePeriods_any c a b n lo hi _ _ hv hhi hf).mono ?_; rintro e w1 ⟨rfl, hb1⟩; have hz1 := hb1.size; (try (simp at hz1)); obtain ⟨hcw1, hfw1⟩ := bcell hb1; (try (have hy1 : w.heap.size < w1.heap.size := by omega)); (try (have hyy1 : w.heap.size + 1 < w1.heap.size := by omega)); (try (have hyyy1 : w.heap.size + 1 + 1 < w1.heap.size := by omega))) | (go_at_call 33; refine (inside_any _ _ _ _).mono ?_; rintro e w' ⟨rfl, rfl⟩))
      have hb0 : Below w.heap.size w w1 := (by repeat (first | (with_reducible exact Below.refl _ _) | (with_reducible refine below_ov ?_ ?_) | (with_reducible refine Below.setCell ?_ ?_ _) | (with_reducible refine Below.alloc ?_ ?_ _) | (with_reducible refine Below.drew ?_) | (with_reducible refine below_drewN ?_ _) | (refine Below.trans ?_ (Below.mono ‹Below _ _ _› (by first | omega | (simp; done) | (simp; omega)))) | exact Below.refl _ _ | omega | (focus (simp; done)) | (focus (simp; omega))))
      go_loopw [6, 20] (fun o i wr => ∃ (k : Nat) (B : Option Addr) (cp : Nat), k ≤ n ∧ i = .int .i64 k ∧ o = .slice B (flt (srQ c a b n q) k).length cp ∧ Hid (wr.ownsRow w.heap.size 3 1 (.slice B (flt (srQ c a b n q) k).length cp) (flt (srQ c a b n q) k).length (fltV (srQ c a b n q) k)) ∧ Below w.heap.size w wr) (fun _ i _ => n - (intOf i).toNat)
      case atStart => exact ⟨0, none, 0, by omega, rfl, rfl, World.ownsRow_nil _ _ _ _, hb0⟩
      case round =>
        obtain ⟨k, B, cp, hk, rfl, rfl, hown, hb⟩ := hrel
        have hzr := hb.size
        have hfl := flt_len (srQ c a b n q) k
        by_cases hkn : k < n
        · obtain ⟨blk, off, rfl, h1, h2, h3⟩ := (hA.below hb (by omega)) (by omega)
          have c0 : wr.cell? ⟨blk, off + k * 3, none⟩ = some (.string (c k)) := h3 k 0 hkn (by omega)
          have c1 : wr.cell? ⟨blk, off + k * 3 + 1, none⟩ = some (.int .i64 (a k)) := h3 k 1 hkn (by omega)
          have c2 : wr.cell? ⟨blk, off + k * 3 + 2, none⟩ = some (.int .i64 (b k)) := h3 k 2 hkn (by omega)
          have H3 := hide h3
          have l0 : blk < wr.heap.size := by omega
          clear h3 hA
          have hpk := (perB_iff.1 ((pd_facts HP.out).2 k hkn).1).2
          have hn12 := (pd_facts HP.out).1
          have hbd : -1 ≤ befI c k ∧ befI c k < k := lstI_bd _ _
          go_wp2_with fail
          refine (periodBefore_any c a b n k lo hi _ _ (hv.below (B := w.heap.size) (by repeat (first | (with_reducible exact Below.refl _ _) | (with_reducible refine below_ov ?_ ?_) | (with_reducible refine Below.setCell ?_ ?_ _) | (with_reducible refine Below.alloc ?_ ?_ _) | (with_reducible refine Below.drew ?_) | (with_reducible refine below_drewN ?_ _) | (refine Below.trans ?_ (Below.mono ‹Below _ _ _› (by first | omega | (simp; done) | (simp; omega)))) | exact Below.refl _ _ | omega | (focus (simp; done)) | (focus (simp; omega)))) hhi) (by first | omega | (simp; done) | (simp; omega)) hn hkn).mono ?_
          rintro e w4 ⟨rfl, hb4⟩
          have hz4 := hb4.size
          (try (simp at hz4))
          have ho4 := hide (row_below ((hown.out).alloc _) hb4 (Nat.le_refl _))
          have l4 : wr.heap.size < w4.heap.size := by omega
          have l7 : blk < w4.heap.size := by omega
          have pa1 := (hb4.cell (p := ⟨wr.heap.size, 1, none⟩) (by simp)).trans (World.cell?_alloc_new _ _ _ _)
          simp at pa1
          by_cases hlt : befI c k < 0
          · have E4 : Hid (decide (0 ≤ befI c k) = false) := decide_eq_false (by omega)
            have d0 : decide (befI c k ≥ 0) = false := decide_eq_false (by omega)
            have hT : srQ c a b n q k = false := by rw [srQ_at HX.out]; simp [srP, E4.out]
            have HL : Hid ((flt (srQ c a b n q) (k + 1)) = flt (srQ c a b n q) k) := by show _ = _; rw [flt_no hT]
            have HV : Hid (fltV (srQ c a b n q) (k + 1) = fltV (srQ c a b n q) k) := by show _ = _; rw [fltV, flt_no hT]; rfl
            clear hT
            go_wp2_with fail
            go_quiet ((go_at_call 33; first | exact quiet_left (inside_any _ _ _ _) | exact quiet_add_left (inside_any _ _ _ _)))
            go_wp2_with fail
            go_roundw
            case rel => exact ⟨k + 1, B, cp, by omega, by go_num, by rw [HL.out], by rw [HL.out, HV.out]; exact ho4, (by repeat (first | (with_reducible exact Below.refl _ _) | (with_reducible refine below_ov ?_ ?_) | (with_reducible refine Below.setCell ?_ ?_ _) | (with_reducible refine Below.alloc ?_ ?_ _) | (with_reducible refine Below.drew ?_) | (with_reducible refine below_drewN ?_ _) | (refine Below.trans ?_ (Below.mono ‹Below _ _ _› (by first | omega | (simp; done) | (simp; omega)))) | exact Below.refl _ _ | omega | (focus (simp; done)) | (focus (simp; omega))))⟩
            case measure => simp [intOf]; omega
          · obtain ⟨j, hjj⟩ : ∃ j : Nat, befI c k = j := ⟨(befI c k).toNat, by omega⟩
            have hjk : j < k := (befI_facts hjj).1
            have JJ := hide hjj
            have hpj := (perB_iff.1 ((pd_facts HP.out).2 j (by omega)).1).2
            have pj : w4.cell? ⟨blk, off + j * 3 + 2, none⟩ = some (.int .i64 (b j)) := (hb4.cell (p := ⟨blk, off + j * 3 + 2, none⟩) (by simp; omega)).trans ((World.cell?_alloc_lt _ _ _ l0).trans (H3.out j 2 (by omega) (by omega)))
            have q0 : (0 : Int) ≤ (j : Int) := by omega
            have q1 : (j : Int) < (n : Int) := by omega
            rw [hjj]
            clear hjj hlt hbd
            cases e5 : inB (a k - b j) 1 (q - 1) with
            | true =>
              have E4 : Hid (0 ≤ befI c k ∧ inB (a k - b (befI c k).toNat) 1 (q - 1) = true) := ⟨by rw [JJ.out]; omega, by rw [JJ.out, Int.toNat_natCast]; exact e5⟩
              have hT : srQ c a b n q k = true := by rw [srQ_at HX.out]; simp [srP, E4.out]
              have HL : Hid ((flt (srQ c a b n q) (k + 1)).length = (flt (srQ c a b n q) k).length + 1) := by show _ = _; rw [flt_yes hT]; simp
              have HV : Hid (fltV (srQ c a b n q) (k + 1) = fltV (srQ c a b n q) k ++ [.int .i64 (k : Int)]) := by show _ = _; rw [fltV, flt_yes hT]; simp [fltV]
              clear hT
              go_wp2_with fail
              (refine wp_region_below_lit (by kernel_rfl) (by kernel_rfl) ?_; (repeat (first | go_big_quiet_step ((go_at_call 33; exact quiet_ov_same (inside_any _ _ _ _))) | quiet_step ((go_at_call 33; exact quiet_ov_same (inside_any _ _ _ _))))); refine wpQuiet_nil ?_; intro w6 hb6; have hz6 := hb6.size; (try (simp at hz6)); obtain ⟨hcw6, hfw6⟩ := bcell hb6; (try (have hy6 : w.heap.size < w6.heap.size := by omega)); (try (have hyy6 : w.heap.size + 1 < w6.heap.size := by omega)))
              have ho6 := hide (row_below ho4.out hb6 (Nat.le_refl _))
              go_wp2_with (at_builtin; refine wpList_append_own _ rfl _ _ 41 rfl w.heap.size 3 ii (.int .i64 0) 1 8 Try.underlying41 hii iz0 iz1 iz2 rfl (by decide) _ _ _ rfl (ho6.out.alloc _) ⟨w6.heap.size, 0, none⟩ 1 1 [.int .i64 (k : Int)] rfl rfl ?_ ?_ ?_ ?_ ?_ ?_)
              · intro i u hu
                match i, hu with
                | 0, hu => simp at hu; subst hu; simp [go_sem, Addr.add]
              · intro u hu; simp at hu; subst hu; rfl
              · unfold maxLen; omega
              · omega
              · simp; omega
              intro v' w5 hown5 hg5 _
              have hb4w : Below w.heap.size w w6 := (by repeat (first | (with_reducible exact Below.refl _ _) | (with_reducible refine below_ov ?_ ?_) | (with_reducible refine Below.setCell ?_ ?_ _) | (with_reducible refine Below.alloc ?_ ?_ _) | (with_reducible refine Below.drew ?_) | (with_reducible refine below_drewN ?_ _) | (refine Below.trans ?_ (Below.mono ‹Below _ _ _› (by first | omega | (simp; done) | (simp; omega)))) | exact Below.refl _ _ | omega | (focus (simp; done)) | (focus (simp; omega))))
              have hb5 : Below w.heap.size w w5 := (hb4w.alloc (by omega) _).grown hg5 (by simp; omega) (fun g hg => (ho6.out.lt g hg).1)
              have hz5 := hb5.size
              obtain ⟨B2, cp2, rfl⟩ := row_form hown5
              have hown6 := hide hown5
              clear hown5 hg5 ho6
              go_wp2_with fail
              go_roundw
              case rel => exact ⟨k + 1, B2, cp2, by omega, by go_num, by rw [HL.out], by rw [HL.out, HV.out]; exact hown6, hb5⟩
              case measure => simp [intOf]; omega
            | false =>
              have E4 : Hid (0 ≤ befI c k ∧ inB (a k - b (befI c k).toNat) 1 (q - 1) = false) := ⟨by rw [JJ.out]; omega, by rw [JJ.out, Int.toNat_natCast]; exact e5⟩
              have hT : srQ c a b n q k = false := by rw [srQ_at HX.out]; simp [srP, E4.out]
              have HL : Hid ((flt (srQ c a b n q) (k + 1)) = flt (srQ c a b n q) k) := by show _ = _; rw [flt_no hT]
              have HV : Hid (fltV (srQ c a b n q) (k + 1) = fltV (srQ c a b n q) k) := by show _ = _; rw [fltV, flt_no hT]; rfl
              clear hT
              go_wp2_with fail
              go_quiet ((go_at_call 33; first | exact quiet_left (inside_any _ _ _ _) | exact quiet_add_left (inside_any _ _ _ _)))
              go_wp2_with fail
              go_roundw
              case rel => exact ⟨k + 1, B, cp, by omega, by go_num, by rw [HL.out], by rw [HL.out, HV.out]; exact ho4, (by repeat (first | (with_reducible exact Below.refl _ _) | (with_reducible refine below_ov ?_ ?_) | (with_reducible refine Below.setCell ?_ ?_ _) | (with_reducible refine Below.alloc ?_ ?_ _) | (with_reducible refine Below.drew ?_) | (with_reducible refine below_drewN ?_ _) | (refine Below.trans ?_ (Below.mono ‹Below _ _ _› (by first | omega | (simp; done) | (simp; omega)))) | exact Below.refl _ _ | omega | (focus (simp; done)) | (focus (simp; omega))))⟩
              case measure => simp [intOf]; omega
        · obtain rfl : k = n := by omega
          go_wp2_with fail
          go_ret2
          rw [HX.out]
          exact ⟨_, rfl, (own_flt hown.out), hb⟩

end Go.Proofs.Ythchfnkljmoenaa
