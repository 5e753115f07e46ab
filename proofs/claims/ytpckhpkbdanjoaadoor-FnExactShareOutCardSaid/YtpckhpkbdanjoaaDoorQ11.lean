/-
  Texts of this proof, one behind the other (part 11).
-/
import Derived.Test.YtpckhpkbdanjoaaDoorQ10
import Derived.Test.YtpckhpkbdanjoaaDoorCards
/-
  Walks: ShareOut: the reference's.-/
namespace Go.Proofs.YtpckhpkbdanjoaaDoor
set_option linter.unusedVariables false
set_option linter.unusedSimpArgs false
open Go.RowKit

def shOk (F : Nat → ByteArray) (n : Nat) (p q : Nat → Int) (m : Nat) : Bool := flB F n && inB m 1 8 && allB (fun i => opB F n (p i) (q i) && !hasC p q (p i) (q i) i) m
def shN (F : Nat → ByteArray) (n : Nat) (p q : Nat → Int) (m : Nat) : Nat := if shOk F n p q m = true then n else 0
def shT (F : Nat → ByteArray) (n : Nat) (p q : Nat → Int) (m : Nat) : Nat → ByteArray := shR F (shS F n p q) m
theorem sh_facts {F : Nat → ByteArray} {n m : Nat} {p q : Nat → Int} (h : shOk F n p q m = true) : flB F n = true ∧ (1 ≤ m ∧ m ≤ 8) ∧ ∀ i, i < m → opB F n (p i) (q i) = true ∧ hasC p q (p i) (q i) i = false := by
  simp only [shOk, Bool.and_eq_true, inB_iff, allB_iff, Bool.not_eq_true'] at h
  exact ⟨h.1.1, by omega, h.2⟩
theorem shN_le {F : Nat → ByteArray} {n m : Nat} {p q : Nat → Int} : shN F n p q m ≤ 1048576 := by
  unfold shN
  split
  · rename_i h
    have := flB_facts (sh_facts h).1
    omega
  · omega
theorem shRows_row (F : Nat → ByteArray) (st : Nat → Nat → Int) (m : Nat) : ∀ x, shRows F st m x = rowL (sC (shR F st m)) 1 x
  | 0 => rfl
  | x + 1 => by rw [shRows_next, shRows_row F st m x, rowL]; rfl
/-- What the call hands back. -/
def ShRes (F : Nat → ByteArray) (n : Nat) (p q : Nat → Int) (m : Nat) (w : World) (e : Ending) (w' : World) : Prop := ∃ v', e = .returned (.tuple #[v', .bool (shOk F n p q m)]) ∧ Own w' w.heap.size w'.heap.size 9 1 v' (shN F n p q m) (shN F n p q m) (sC (shT F n p q m)) ∧ Below w.heap.size w w'
theorem sh_nil {F : Nat → ByteArray} {n m : Nat} {p q : Nat → Int} {w w' : World} (h : shOk F n p q m = false) (hb : Below w.heap.size w w') : ShRes F n p q m w (.returned (.tuple #[.slice none 0 0, .bool false])) w' :=
  ⟨_, by rw [h], by rw [shN, h]; exact Own.nil_ _ _ _ _ _ _, hb⟩
theorem sh_row {F : Nat → ByteArray} {n m : Nat} {p q : Nat → Int} {w w' : World} {v' : Value} {lo : Nat} (h : shOk F n p q m = true) (ho : w'.ownsRow lo 9 1 v' n (shRows F (shS F n p q) m n)) (hl : w.heap.size ≤ lo) (hb : Below w.heap.size w w') :
    ShRes F n p q m w (.returned (.tuple #[v', .bool true])) w' := by
  have hN : shN F n p q m = n := by rw [shN, if_pos h]
  rw [shRows_row] at ho
  refine ⟨_, by rw [h], ?_, hb⟩
  rw [hN]
  exact (own_row ho).mono hl (Nat.le_refl _)
theorem sh_bad {F : Nat → ByteArray} {n m i : Nat} {p q : Nat → Int} (hi : i < m) (h : (opB F n (p i) (q i) && !hasC p q (p i) (q i) i) = false) : shOk F n p q m = false := by
  rw [shOk, allB_false hi h]; simp
theorem nums_one (x : Int) : (strOfNums [x]).size = 1 := by rw [strOfNums_size]; rfl
theorem infoIntT : (Tryd.prog.info? 48).map (fun i => (i.zero, i.size, i.bytes)) = some (some (.slice none 0 0), 1, 24) := by kernel_rfl
theorem infoStrT : (Tryd.prog.info? 9).map (fun i => (i.zero, i.size, i.bytes)) = some (some (.string ⟨#[]⟩), 1, 16) := by kernel_rfl
set_option maxRecDepth 100000 in
set_option maxHeartbeats 6400000 in
theorem ShareOut_specR (F : Nat → ByteArray) (n : Nat) (p q : Nat → Int) (m lo hi : Nat) (v : Value) (lo2 hi2 : Nat) (u : Value) (w : World) (hv : Sl w lo hi 1 v n (sC F)) (hhi : hi ≤ w.heap.size) (hu : Sl w lo2 hi2 2 u m (iiC p q)) (hhi2 : hi2 ≤ w.heap.size) (hf : ffits F n) :
    Calls Tryd.prog 23 #[v, u] w (ShRes F n p q m w) := by
  obtain ⟨A, cap, rfl, hcap, hA⟩ := id hv.open_
  obtain ⟨A2, cap2, rfl, hcap2, hA2⟩ := id hu.open_
  have HV := hide hv
  clear hv hu
  cases e1 : flB F n with
  | false =>
    have HX : Hid (shOk F n p q m = false) := by show _ = _; rw [shOk, e1]; rfl
    clear hA hA2
    go_enter Tryd.func23, Tryd.ntmps23
    go_wp2_with fail
    refine (seGood_any F n lo hi _ _ (HV.out.below (B := w.heap.size) (by repeat (first | (with_reducible exact Below.refl _ _) | (with_reducible refine below_ov ?_ ?_) | (with_reducible refine Below.setCell ?_ ?_ _) | (with_reducible refine Below.alloc ?_ ?_ _) | (with_reducible refine Below.drew ?_) | (with_reducible refine below_drewN ?_ _) | (refine Below.trans ?_ (Below.mono ‹Below _ _ _› (by first | omega | (simp; done) | (simp; omega)))) | exact Below.refl _ _ | omega | (focus (simp; done)) | (focus (simp; omega)))) hhi) (by first | omega | (simp; done) | (simp; omega)) hf).mono ?_
    rintro e w1 ⟨rfl, hb1⟩
    have hz1 := hb1.size
    rw [e1]
    go_wp2_with fail
    go_ret2
    exact sh_nil HX.out (by repeat (first | (with_reducible exact Below.refl _ _) | (with_reducible refine below_ov ?_ ?_) | (with_reducible refine Below.setCell ?_ ?_ _) | (with_reducible refine Below.alloc ?_ ?_ _) | (with_reducible refine Below.drew ?_) | (with_reducible refine below_drewN ?_ _) | (refine Below.trans ?_ (Below.mono ‹Below _ _ _› (by first | omega | (simp; done) | (simp; omega)))) | exact Below.refl _ _ | omega | (focus (simp; done)) | (focus (simp; omega))))
  | true =>
  have HG := hide e1
  cases e2 : inB m 1 8 with
  | false =>
    have HX : Hid (shOk F n p q m = false) := by show _ = _; rw [shOk, e2]; simp
    clear hA hA2
    go_enter Tryd.func23, Tryd.ntmps23
    go_wp2_with fail
    refine (seGood_any F n lo hi _ _ (HV.out.below (B := w.heap.size) (by repeat (first | (with_reducible exact Below.refl _ _) | (with_reducible refine below_ov ?_ ?_) | (with_reducible refine Below.setCell ?_ ?_ _) | (with_reducible refine Below.alloc ?_ ?_ _) | (with_reducible refine Below.drew ?_) | (with_reducible refine below_drewN ?_ _) | (refine Below.trans ?_ (Below.mono ‹Below _ _ _› (by first | omega | (simp; done) | (simp; omega)))) | exact Below.refl _ _ | omega | (focus (simp; done)) | (focus (simp; omega)))) hhi) (by first | omega | (simp; done) | (simp; omega)) hf).mono ?_
    rintro e w1 ⟨rfl, hb1⟩
    have hz1 := hb1.size
    rw [e1]
    go_wp2_with (go_at_call 66; refine (l1In_any _ _ _ _).mono ?_; rintro e w' ⟨rfl, rfl⟩)
    go_ret2
    exact sh_nil HX.out (by repeat (first | (with_reducible exact Below.refl _ _) | (with_reducible refine below_ov ?_ ?_) | (with_reducible refine Below.setCell ?_ ?_ _) | (with_reducible refine Below.alloc ?_ ?_ _) | (with_reducible refine Below.drew ?_) | (with_reducible refine below_drewN ?_ _) | (refine Below.trans ?_ (Below.mono ‹Below _ _ _› (by first | omega | (simp; done) | (simp; omega)))) | exact Below.refl _ _ | omega | (focus (simp; done)) | (focus (simp; omega))))
  | true =>
  have hm18 := inB_iff.1 e2
  obtain ⟨g1, g2, g3, g4, g5, g6⟩ := flB_facts e1
  obtain ⟨blk, off, rfl, h1, h2, h3⟩ := hA (by omega)
  obtain ⟨blk2, off2, rfl, k1, k2, k3⟩ := hA2 (by omega)
  have HC : Hid (∀ x, x < n → w.cell? ⟨blk, off + x, none⟩ = some (.string (F x))) := fun x hx => by
    have := h3 x 0 hx (by omega)
    simpa [sC] using this
  have HC2 : Hid (∀ t, t < m → w.cell? ⟨blk2, off2 + t * 2, none⟩ = some (.int .i64 (p t)) ∧ w.cell? ⟨blk2, off2 + t * 2 + 1, none⟩ = some (.int .i64 (q t))) := fun t ht =>
    ⟨by simpa [iiC] using k3 t 0 ht (by omega), by simpa [iiC] using k3 t 1 ht (by omega)⟩
  have l0 : blk < w.heap.size := by omega
  have l2 : blk2 < w.heap.size := by omega
  have har := fl_area e1
  obtain ⟨N, hN⟩ : ∃ N, N = n * (F 0).size := ⟨_, rfl⟩
  obtain ⟨W, hW⟩ : ∃ W, W = (F 0).size := ⟨_, rfl⟩
  obtain ⟨st, hst⟩ : ∃ st, st = shS F n p q := ⟨_, rfl⟩
  have HST := hide hst
  have HFS : Hid (∀ x, x < n → (F x).size = W) := fun x hx => by rw [g5 x hx, hW]
  have HN := hide hN
  have HW := hide hW
  rw [← hN] at har
  rw [← hW] at g3 g4
  have HE2 := hide e2
  obtain ⟨ii, hii, iz0, iz1, iz2⟩ := info_parts infoIntT
  obtain ⟨is, his, js0, js1, js2⟩ := info_parts infoStrT
  clear hA hA2 h3 k3 g5 g6 hN hW hst
  go_enter Tryd.func23, Tryd.ntmps23
  go_wp2_with fail
  refine (seGood_any F n lo hi _ _ (HV.out.below (B := w.heap.size) (by repeat (first | (with_reducible exact Below.refl _ _) | (with_reducible refine below_ov ?_ ?_) | (with_reducible refine Below.setCell ?_ ?_ _) | (with_reducible refine Below.alloc ?_ ?_ _) | (with_reducible refine Below.drew ?_) | (with_reducible refine below_drewN ?_ _) | (refine Below.trans ?_ (Below.mono ‹Below _ _ _› (by first | omega | (simp; done) | (simp; omega)))) | exact Below.refl _ _ | omega | (focus (simp; done)) | (focus (simp; omega)))) hhi) (by first | omega | (simp; done) | (simp; omega)) hf).mono ?_
  rintro e w1 ⟨rfl, hb1⟩
  rw [e1]
  have HB1 := hide hb1
  clear hb1 e1
  go_wp2_with (go_at_call 66; refine (l1In_any _ _ _ _).mono ?_; rintro e w' ⟨rfl, rfl⟩)
  clear e2
  go_loopg [6, 31] (m + 1) (fun gn a b wr => ∃ t : Nat, t ≤ m ∧ m - t < gn ∧ b = .int .i64 t ∧ Hid (∃ β cp, ShAll wr w.heap.size a N t st β cp) ∧ Hid (Below w.heap.size w wr) ∧ Hid (∀ j, j < t → (opB F n (p j) (q j) && !hasC p q (p j) (q j) j) = true))
  case atStart => exact ⟨0, by omega, by omega, rfl, ⟨fun _ => 0, fun _ => 0, ⟨World.ownsRow_nil _ _ _ _, fun j hj => absurd hj (Nat.not_lt_zero _)⟩⟩, HB1.out, fun j hj => absurd hj (Nat.not_lt_zero _)⟩
  case round =>
    obtain ⟨t, ht, hgt, rfl, HS, HB, HJ⟩ := hrel
    have hz := HB.out.size
    by_cases htm : t < m
    · obtain ⟨β, cp, S⟩ := HS.out
      have c0 : wr.cell? ⟨blk2, off2 + t * 2, none⟩ = some (.int .i64 (p t)) := (HB.out.cell (p := ⟨blk2, off2 + t * 2, none⟩) l2).trans (HC2.out t htm).1
      have c1 : wr.cell? ⟨blk2, off2 + t * 2 + 1, none⟩ = some (.int .i64 (q t)) := (HB.out.cell (p := ⟨blk2, off2 + t * 2 + 1, none⟩) l2).trans (HC2.out t htm).2
      have l3 : blk2 < wr.heap.size := by omega
      have HS1 := hide S
      clear S HS
      go_wp2_with fail
      obtain ⟨ab, hab⟩ : ∃ ab, ab = wr.heap.size := ⟨_, rfl⟩
      obtain ⟨Wa, hWa⟩ : ∃ Wa, Wa = wr.alloc (.cells #[.int .i64 (p t), .int .i64 (q t)] 38) := ⟨_, rfl⟩
      have XA : Hid (Bx2 Wa ab (p t) (q t)) := by show Bx2 _ _ _ _; rw [hWa, hab]; exact Bx2.new _ _ _
      have ba : Below wr.heap.size wr Wa := by rw [hWa]; exact (Below.refl _ _).alloc (Nat.le_refl _) _
      have HBA : Hid (Below w.heap.size w Wa) := HB.out.trans (ba.mono hz)
      have SA := hide (HS1.out.below ba)
      rw [← hWa, ← hab]
      clear hWa hab ba HS1 c0 c1
      refine (seOpen_any F n (p t) (q t) lo hi _ _ (HV.out.below (B := w.heap.size) HBA.out hhi) (by have := HBA.out.size; omega) HG.out).mono ?_
      rintro e w2 ⟨rfl, hb2⟩
      have X2 := hide (XA.out.below hb2 XA.out.lt)
      have S2 := hide (SA.out.below hb2)
      have HB2 : Hid (Below w.heap.size w w2) := HBA.out.trans (hb2.mono HBA.out.size)
      clear XA SA hb2 HBA
      cases eo : opB F n (p t) (q t) with
      | false =>
        have HX : Hid (shOk F n p q m = false) := sh_bad htm (by rw [eo]; rfl)
        go_wp2_with fail
        go_ret2
        exact sh_nil HX.out HB2.out
      | true =>
      have HEO := hide eo
      have ht2 : t ≤ cap2 := by omega
      clear eo
      go_wp2_with fail
      go_loopg [44] (t + 1) (fun gn b wi => ∃ k : Nat, k ≤ t ∧ t - k < gn ∧ b = .int .i64 k ∧ Hid (∀ j, j < k → (decide (p j = p t) && decide (q j = q t)) = false) ∧ Hid (Below w2.heap.size w2 wi))
      case atStart => exact ⟨0, by omega, by omega, rfl, fun j hj => absurd hj (Nat.not_lt_zero _), Below.refl _ _⟩
      case round =>
        obtain ⟨k, hk, hgk, rfl, HK, HI⟩ := hrel
        have HBi : Hid (Below w.heap.size w wr) := HB2.out.trans (HI.out.mono HB2.out.size)
        have hzi := HBi.out.size
        have Xi := hide (X2.out.below HI.out X2.out.lt)
        by_cases hkt : k < t
        · have c0 : wr.cell? ⟨blk2, off2 + k * 2, none⟩ = some (.int .i64 (p k)) := (HBi.out.cell (p := ⟨blk2, off2 + k * 2, none⟩) l2).trans (HC2.out k (by omega)).1
          have c1 : wr.cell? ⟨blk2, off2 + k * 2 + 1, none⟩ = some (.int .i64 (q k)) := (HBi.out.cell (p := ⟨blk2, off2 + k * 2 + 1, none⟩) l2).trans (HC2.out k (by omega)).2
          have l4 : blk2 < wr.heap.size := by omega
          obtain ⟨x0, x1, xf, xl⟩ := Xi.out
          have hb3 : Below wr.heap.size wr (wr.alloc (.cells #[.int .i64 (p k), .int .i64 (q k)] 38)) := (Below.refl _ _).alloc (Nat.le_refl _) _
          have HI3 : Hid (Below w2.heap.size w2 (wr.alloc (.cells #[.int .i64 (p k), .int .i64 (q k)] 38))) := HI.out.trans (hb3.mono HI.out.size)
          have HB3 : Hid (Below w.heap.size w (wr.alloc (.cells #[.int .i64 (p k), .int .i64 (q k)] 38))) := HB2.out.trans (HI3.out.mono HB2.out.size)
          clear hb3
          by_cases f1 : p k = p t
          · by_cases f2 : q k = q t
            · have HX : Hid (shOk F n p q m = false) := sh_bad htm (by
                have h : hasC p q (p t) (q t) t = true := by rw [hasC, some_iff]; exact ⟨k, hkt, by simp [f1, f2]⟩
                rw [h]; simp)
              go_wp2_with fail
              go_ret2
              exact sh_nil HX.out (by rw [← f1, ← f2]; exact HB3.out)
            · have HN2 : Hid (∀ j, j < k + 1 → (decide (p j = p t) && decide (q j = q t)) = false) := upto_snocF (p := fun j => decide (p j = p t) && decide (q j = q t)) HK.out (by simp [f2])
              go_wp2_with fail
              go_roundg (t - k)
              case measure => omega
              case rel => exact ⟨k + 1, by omega, by omega, by go_num, HN2.out, (by show Below _ _ _; rw [← f1]; exact HI3.out)⟩
          · have HN2 : Hid (∀ j, j < k + 1 → (decide (p j = p t) && decide (q j = q t)) = false) := upto_snocF (p := fun j => decide (p j = p t) && decide (q j = q t)) HK.out (by simp [f1])
            go_wp2_with fail
            go_roundg (t - k)
            case measure => omega
            case rel => exact ⟨k + 1, by omega, by omega, by go_num, HN2.out, HI3.out⟩
        · obtain rfl : k = t := by omega
          have HJ2 : Hid (∀ j, j < k + 1 → (opB F n (p j) (q j) && !hasC p q (p j) (q j) j) = true) := upto_snoc (p := fun j => opB F n (p j) (q j) && !hasC p q (p j) (q j) j) HJ.out (by
            have h : hasC p q (p k) (q k) k = false := by rw [hasC, fstI_none HK.out]; rfl
            simp only [HEO.out, h]; rfl)
          have S3 := hide (S2.out.below HI.out)
          obtain ⟨x0, x1, xf, xl⟩ := Xi.out
          go_wp2_with fail
          refine (seSteps_any F n (p k) (q k) lo hi _ _ (HV.out.below (B := w.heap.size) HBi.out hhi) (by omega) HG.out HEO.out).mono ?_
          rintro e w4 ⟨g, co, rfl, ho, hg1, hg2, hb4⟩
          have S4 := hide (S3.out.below hb4)
          have HB4 : Hid (Below w.heap.size w w4) := HBi.out.trans (hb4.mono hzi)
          have ho' : OwnL w4 g (g + 1) 3 1 (.slice (some ⟨g, 0, none⟩) N co) N N (fun i => .int .i64 (st k i)) := by
            rw [HST.out, HN.out]
            exact ho
          have HO := hide ho'
          rw [← HN.out]
          clear x0 x1 xf xl hb4 ho ho' S3
          have hz4 := HB4.out.size
          go_wp2_with (at_builtin; refine wpList_append_own _ rfl _ _ 82 rfl w.heap.size 48 ii (.slice none 0 0) 1 24 Tryd.underlying82 hii iz0 iz1 iz2 rfl (by decide) _ _ _ rfl (S4.out.row.alloc _) ⟨w4.heap.size, 0, none⟩ 1 1 [.slice (some ⟨g, 0, none⟩) N co] rfl rfl ?_ ?_ ?_ ?_ ?_ ?_)
          · intro i u hu
            match i, hu with
            | 0, hu => simp at hu; subst hu; simp [go_sem, Addr.add]
          · intro u hu; simp at hu; subst hu; rfl
          · unfold maxLen; omega
          · omega
          · simp; omega
          intro v' w5 hown5 hg5 _
          have HB5 : Hid (Below w.heap.size w w5) := (HB4.out.alloc (by omega) _).grown hg5 (by simp; omega) (fun g hg => (S4.out.row.lt g hg).1)
          have HS5 : Hid (∃ β cp, ShAll w5 w.heap.size v' N (k + 1) st β cp) := S4.out.snoc (by omega) HO.out hg2 _ hown5 hg5
          clear hown5 hg5
          go_wp2_with fail
          go_roundg (m - k)
          case measure => omega
          case rel => exact ⟨k + 1, by omega, by omega, by go_num, HS5.out, HB5.out, HJ2.out⟩
    · obtain rfl : t = m := by omega
      have HX : Hid (shOk F n p q t = true) := by show _ = _; rw [shOk, HG.out, HE2.out, allB_iff.2 HJ.out]; rfl
      obtain ⟨β, cp, S⟩ := HS.out
      obtain ⟨G, capG, rfl, hGl, hGc⟩ := S.form (by omega)
      have HS1 := hide S
      clear S HS
      obtain ⟨wr0, ewr0⟩ : ∃ z : World, z = wr := ⟨_, rfl⟩
      subst ewr0
      go_wp2_with fail
      go_loopg [11, 61] (n + 1) (fun gn a b wq => ∃ x : Nat, x ≤ n ∧ n - x < gn ∧ b = .int .i64 x ∧ Hid (wq.ownsRow wr0.heap.size 9 1 a x (shRows F st t x)) ∧ Hid (Below wr0.heap.size wr0 wq))
      case atStart => exact ⟨0, by omega, by omega, rfl, World.ownsRow_nil _ _ _ _, Below.refl _ _⟩
      case round =>
        obtain ⟨x, hx, hgx, rfl, HR, HQ⟩ := hrel
        have hzq := HQ.out.size
        have HBq : Hid (Below w.heap.size w wr) := HB.out.trans (HQ.out.mono hz)
        by_cases hxn : x < n
        · have c0 : wr.cell? ⟨blk, off + x, none⟩ = some (.string (F x)) := (HBq.out.cell (p := ⟨blk, off + x, none⟩) l0).trans (HC.out x hxn)
          have l3 : blk < wr.heap.size := by have := HBq.out.size; omega
          have hFx := HFS.out x hxn
          obtain ⟨wq, ewq⟩ : ∃ z : World, z = wr := ⟨_, rfl⟩
          subst ewq
          go_wp2_with fail
          clear c0
          go_loopg [14, 15] (W + 1) (fun gn sv b wc => ∃ y : Nat, y ≤ W ∧ W - y < gn ∧ b = .int .i64 y ∧ sv = .string (strOfNums (shL F st t x y)) ∧ Hid (Below wq.heap.size wq wc))
          case atStart => exact ⟨0, by omega, by omega, rfl, rfl, Below.refl _ _⟩
          case round =>
            obtain ⟨y, hy, hgy, rfl, rfl, HQ2⟩ := hrel
            have HBc : Hid (Below wr0.heap.size wr0 wr) := HQ.out.trans (HQ2.out.mono hzq)
            have hSz : (strOfNums (shL F st t x y)).size = y := by rw [strOfNums_size, shL_len]
            have HNX : Hid (strOfNums (shL F st t x (y + 1)) = strOfNums (shL F st t x y) ++ strOfNums [shB F st t x y]) := by show _ = _; rw [shL_next, nums_app]
            obtain ⟨sv, hsv⟩ : ∃ z, z = strOfNums (shL F st t x y) := ⟨_, rfl⟩
            rw [← hsv] at hSz HNX
            rw [← hsv]
            have HSV := hide hsv
            clear hsv
            by_cases hyW : y < W
            · have dy : decide ((y : Int) < ((F x).size : Int)) = true := by rw [hFx]; exact decide_eq_true (by omega)
              have dy' : decide (y < (F x).size) = true := by rw [hFx]; exact decide_eq_true hyW
              obtain ⟨wc, ewc⟩ : ∃ z : World, z = wr := ⟨_, rfl⟩
              subst ewc
              have S2 := hide (HS1.out.below HBc.out)
              have hxW : x * W + y < N := by
                have h1 : (x + 1) * W ≤ n * W := Nat.mul_le_mul_right _ (by omega)
                have h2 : (x + 1) * W = x * W + W := Nat.succ_mul _ _
                have h3 := HN.out
                have h4 := HW.out
                rw [h4] at h1 h2 ⊢
                omega
              obtain ⟨i, hi⟩ : ∃ i, i = x * W + y := ⟨_, rfl⟩
              rw [← hi] at hxW
              have z1 : IntKind.i64.wrap ((x : Int) * (W : Int)) = (x : Int) * (W : Int) := IntWalk.i64_in _ (by
                have e : (x : Int) * (W : Int) = ((x * W : Nat) : Int) := by push_cast; rfl
                rw [e]; omega)
              have z2 : IntKind.i64.wrap ((x : Int) * (W : Int) + (y : Int)) = (i : Int) := by
                have e : (x : Int) * (W : Int) + (y : Int) = (i : Int) := by rw [hi]; push_cast; rfl
                rw [e]; exact IntWalk.i64_in _ (by omega)
              have HIW : Hid (i = x * W + y) := hi
              have HBND : Hid (∀ j, j ≤ t → -1 ≤ shJ st i j ∧ shJ st i j < j) := fun j _ => shJ_bd st i j
              clear hi
              go_wp2_with fail
              clear dy dy' z1 z2
              go_loopg [17, 80] (t + 1) (fun gn bv jv wz => ∃ j : Nat, j ≤ t ∧ t - j < gn ∧ jv = .int .i64 j ∧ bv = .int .i64 (shJ st i j) ∧ Hid (Below wc.heap.size wc wz))
              case atStart => exact ⟨0, by omega, by omega, rfl, rfl, Below.refl _ _⟩
              case round =>
                obtain ⟨j, hj, hgj, rfl, rfl, HZ⟩ := hrel
                obtain ⟨jb1, jb2⟩ := HBND.out j hj
                have hGl2 : G < wr.heap.size := by have := HBc.out.size; have := HZ.out.size; omega
                by_cases hjt : j < t
                · have S3 := hide (S2.out.below HZ.out)
                  have a0 := S3.out.at_ hjt
                  have a1 := S3.out.cell hjt hxW
                  have a2 := (S3.out.num j hjt).2
                  have HN0 : Hid (shJ st i (j + 1) = if 0 ≤ st j i ∧ (shJ st i j < 0 ∨ st j i < st (shJ st i j).toNat i) then (j : Int) else shJ st i j) := rfl
                  obtain ⟨s1, hs1⟩ : ∃ z, z = st j i := ⟨_, rfl⟩
                  rw [← hs1] at a1 HN0
                  obtain ⟨J, hJ⟩ : ∃ z, z = shJ st i j := ⟨_, rfl⟩
                  rw [← hJ] at jb1 jb2 HN0
                  rw [← hJ]
                  clear hJ hs1
                  by_cases hs0 : 0 ≤ s1
                  · have d0 : decide (s1 ≥ 0) = true := decide_eq_true hs0
                    have d0' : decide (0 ≤ s1) = true := decide_eq_true hs0
                    by_cases hJ0 : J < 0
                    · have d1 : decide (J < 0) = true := decide_eq_true hJ0
                      have HN1 : Hid (shJ st i (j + 1) = (j : Int)) := by show _ = _; rw [HN0.out, if_pos ⟨hs0, .inl hJ0⟩]
                      go_wp2_with fail
                      (refine wp_region_below_lit (by kernel_rfl) (by kernel_rfl) ?_; (repeat (first | go_big_quiet_step (fail) | quiet_step (fail))); refine wpQuiet_nil ?_; intro w2 hb2; have hz2 := hb2.size; (try (simp at hz2)); obtain ⟨hcw2, hfw2⟩ := bcell hb2; (try (have hy2 : w.heap.size < w2.heap.size := by omega)); (try (have hyy2 : w.heap.size + 1 < w2.heap.size := by omega)))
                      have HZ2 : Hid (Below wc.heap.size wc w2) := HZ.out.trans (hb2.mono HZ.out.size)
                      clear a0 a1 hcw2 hfw2 hb2
                      go_wp2_with fail
                      go_roundg (t - j)
                      case measure => omega
                      case rel => exact ⟨j + 1, by omega, by omega, by go_num, by rw [HN1.out], HZ2.out⟩
                    · have d1 : decide (J < 0) = false := decide_eq_false hJ0
                      obtain ⟨K, rfl⟩ : ∃ K : Nat, J = K := ⟨J.toNat, by omega⟩
                      have hKt : K < t := by omega
                      have b0 := S3.out.at_ hKt
                      have b1 := S3.out.cell hKt hxW
                      have b2 := (S3.out.num K hKt).2
                      have HN2 : Hid (shJ st i (j + 1) = if s1 < st K i then (j : Int) else (K : Int)) := by
                        show _ = _
                        rw [HN0.out]
                        by_cases h : s1 < st K i
                        · rw [if_pos ⟨hs0, .inr (by simpa using h)⟩, if_pos h]
                        · rw [if_neg (by rintro ⟨_, h1 | h1⟩; · exact hJ0 h1
                                         · exact h (by simpa using h1)), if_neg h]
                      obtain ⟨s2, hs2⟩ : ∃ z, z = st K i := ⟨_, rfl⟩
                      rw [← hs2] at b1 HN2
                      clear hs2
                      by_cases hlt : s1 < s2
                      · have d2 : decide (s1 < s2) = true := decide_eq_true hlt
                        have HN1 : Hid (shJ st i (j + 1) = (j : Int)) := by show _ = _; rw [HN2.out, if_pos hlt]
                        go_wp2_with fail
                        (refine wp_region_below_lit (by kernel_rfl) (by kernel_rfl) ?_; (repeat (first | go_big_quiet_step (fail) | quiet_step (fail))); refine wpQuiet_nil ?_; intro w2 hb2; have hz2 := hb2.size; (try (simp at hz2)); obtain ⟨hcw2, hfw2⟩ := bcell hb2; (try (have hy2 : w.heap.size < w2.heap.size := by omega)); (try (have hyy2 : w.heap.size + 1 < w2.heap.size := by omega)))
                        have HZ2 : Hid (Below wc.heap.size wc w2) := HZ.out.trans (hb2.mono HZ.out.size)
                        clear a0 a1 b0 b1 hcw2 hfw2 hb2
                        go_wp2_with fail
                        go_roundg (t - j)
                        case measure => omega
                        case rel => exact ⟨j + 1, by omega, by omega, by go_num, by rw [HN1.out], HZ2.out⟩
                      · have d2 : decide (s1 < s2) = false := decide_eq_false hlt
                        have HN1 : Hid (shJ st i (j + 1) = (K : Int)) := by show _ = _; rw [HN2.out, if_neg hlt]
                        go_wp2_with fail
                        (refine wp_region_below_lit (by kernel_rfl) (by kernel_rfl) ?_; (repeat (first | go_big_quiet_step (fail) | quiet_step (fail))); refine wpQuiet_nil ?_; intro w2 hb2; have hz2 := hb2.size; (try (simp at hz2)); obtain ⟨hcw2, hfw2⟩ := bcell hb2; (try (have hy2 : w.heap.size < w2.heap.size := by omega)); (try (have hyy2 : w.heap.size + 1 < w2.heap.size := by omega)))
                        have HZ2 : Hid (Below wc.heap.size wc w2) := HZ.out.trans (hb2.mono HZ.out.size)
                        clear a0 a1 b0 b1 hcw2 hfw2 hb2
                        go_wp2_with fail
                        go_roundg (t - j)
                        case measure => omega
                        case rel => exact ⟨j + 1, by omega, by omega, by go_num, by rw [HN1.out], HZ2.out⟩
                  · have d0 : decide (s1 ≥ 0) = false := decide_eq_false hs0
                    have d0' : decide (0 ≤ s1) = false := decide_eq_false hs0
                    have HN1 : Hid (shJ st i (j + 1) = J) := by show _ = _; rw [HN0.out, if_neg (fun h => hs0 h.1)]
                    go_wp2_with fail
                    (refine wp_region_below_lit (by kernel_rfl) (by kernel_rfl) ?_; (repeat (first | go_big_quiet_step (fail) | quiet_step (fail))); refine wpQuiet_nil ?_; intro w2 hb2; have hz2 := hb2.size; (try (simp at hz2)); obtain ⟨hcw2, hfw2⟩ := bcell hb2; (try (have hy2 : w.heap.size < w2.heap.size := by omega)); (try (have hyy2 : w.heap.size + 1 < w2.heap.size := by omega)))
                    have HZ2 : Hid (Below wc.heap.size wc w2) := HZ.out.trans (hb2.mono HZ.out.size)
                    clear a0 a1 hcw2 hfw2 hb2
                    go_wp2_with fail
                    go_roundg (t - j)
                    case measure => omega
                    case rel => exact ⟨j + 1, by omega, by omega, by go_num, by rw [HN1.out], HZ2.out⟩
                · obtain rfl : j = t := by omega
                  have HSB : Hid (shB F st j x y = if shJ st i j < 0 then byteAt (F x) y else 97 + shJ st i j) := by show _ = _; rw [shB, ← HW.out, ← HIW.out]
                  obtain ⟨J, hJ⟩ : ∃ z, z = shJ st i j := ⟨_, rfl⟩
                  rw [← hJ] at jb1 jb2 HSB
                  rw [← hJ]
                  clear hJ
                  have HQ3 : Hid (Below wq.heap.size wq wr) := HQ2.out.trans (HZ.out.mono HQ2.out.size)
                  by_cases hJ0 : J < 0
                  · have d0 : decide (J < 0) = true := decide_eq_true hJ0
                    have HEX : Hid (sv ++ (F x).extract y (y + 1) = strOfNums (shL F st j x (y + 1))) := by
                      show _ = _
                      rw [HNX.out, HSB.out, if_pos hJ0, one_at (by rw [hFx]; exact hyW)]
                    have hms : ¬ 9223372036854775807 < sv.size + (min (y + 1) (F x).size - y) := by omega
                    have hy1 : y + 1 ≤ (F x).size := by omega
                    go_wp2_with fail
                    go_roundg (W - y)
                    case measure => omega
                    case rel => exact ⟨y + 1, by omega, by omega, by go_num, by rw [← HEX.out], HQ3.out⟩
                  · have d0 : decide (J < 0) = false := decide_eq_false hJ0
                    obtain ⟨K, rfl⟩ : ∃ K : Nat, J = K := ⟨J.toNat, by omega⟩
                    have hK8 : K < 8 := by omega
                    have HEX : Hid (sv ++ (⟨#[97, 98, 99, 100, 101, 102, 103, 104]⟩ : ByteArray).extract K (K + 1) = strOfNums (shL F st j x (y + 1))) := by
                      show _ = _
                      rw [HNX.out, HSB.out, if_neg hJ0, abc_at hK8]
                    have hms : ¬ 9223372036854775807 < sv.size + (min (K + 1) 8 - K) := by omega
                    go_wp2_with fail
                    go_roundg (W - y)
                    case measure => omega
                    case rel => exact ⟨y + 1, by omega, by omega, by go_num, by rw [← HEX.out], HQ3.out⟩
            · obtain rfl : y = W := by omega
              have dy : decide ((y : Int) < ((F x).size : Int)) = false := by rw [hFx]; exact decide_eq_false (by omega)
              have dy' : decide (y < (F x).size) = false := by rw [hFx]; exact decide_eq_false (by omega)
              have HRR : Hid (sv = shR F st t x) := by show _ = _; rw [HSV.out, shR, ← HW.out]
              have HR2 := hide (row_below HR.out HQ2.out (Nat.le_refl _))
              have hzq2 := HBc.out.size
              go_wp2_with (at_builtin; refine wpList_append_own _ rfl _ _ 22 rfl wr0.heap.size 9 is (.string ⟨#[]⟩) 1 16 Tryd.underlying22 his js0 js1 js2 rfl (by decide) _ _ _ rfl (HR2.out.alloc _) ⟨wr.heap.size, 0, none⟩ 1 1 [.string sv] rfl rfl ?_ ?_ ?_ ?_ ?_ ?_)
              · intro i u hu
                match i, hu with
                | 0, hu => simp at hu; subst hu; simp [go_sem, Addr.add]
              · intro u hu; simp at hu; subst hu; rfl
              · unfold maxLen; omega
              · omega
              · simp; omega
              intro v' w5 hown5 hg5 _
              have HB5 : Hid (Below wr0.heap.size wr0 w5) := (HBc.out.alloc hzq2 _).grown hg5 (by simp; omega) (fun g hg => (HR2.out.lt g hg).1)
              have HR5 : Hid (w5.ownsRow wr0.heap.size 9 1 v' (x + 1) (shRows F st t (x + 1))) := by
                show World.ownsRow _ _ _ _ _ _ _
                rw [shRows_next, ← HRR.out]
                exact hown5
              clear hown5 hg5
              go_wp2_with fail
              go_roundg (n - x)
              case measure => omega
              case rel => exact ⟨x + 1, by omega, by omega, by go_num, HR5.out, HB5.out⟩
        · obtain rfl : x = n := by omega
          obtain ⟨B5, c5, rfl⟩ := row_form HR.out
          go_wp2_with fail
          go_ret2
          refine sh_row HX.out (lo := wr0.heap.size) ?_ hz HBq.out
          rw [← HST.out]
          exact HR.out
theorem ShareOut_spec (F : Nat → ByteArray) (n : Nat) (p q : Nat → Int) (m lo hi : Nat) (v : Value) (lo2 hi2 : Nat) (u : Value) (w : World) (hv : Sl w lo hi 1 v n (sC F)) (hhi : hi ≤ w.heap.size) (hu : Sl w lo2 hi2 2 u m (iiC p q)) (hhi2 : hi2 ≤ w.heap.size) (hf : ffits F n) :
    Calls Tryd.prog 23 #[v, u] w fun e w' => ∃ v', e = .returned (.tuple #[v', .bool (shOk F n p q m)]) ∧ Own w' w.heap.size w'.heap.size 9 1 v' (shN F n p q m) (shN F n p q m) (sC (shT F n p q m)) ∧ Below w.heap.size w w' :=
  ShareOut_specR F n p q m lo hi v lo2 hi2 u w hv hhi hu hhi2 hf

end Go.Proofs.YtpckhpkbdanjoaaDoor

/-
  Walks: ShareOut: the program's.-/
namespace Go.Proofs.YtpckhpkbdanjoaaDoor
set_option linter.unusedVariables false
set_option linter.unusedSimpArgs false
open Go.RowKit

set_option maxRecDepth 100000 in
set_option maxHeartbeats 6400000 in
theorem ShareOut_implR (F : Nat → ByteArray) (n : Nat) (p q : Nat → Int) (m lo hi : Nat) (v : Value) (lo2 hi2 : Nat) (u : Value) (w : World) (hv : Sl w lo hi 1 v n (sC F)) (hhi : hi ≤ w.heap.size) (hu : Sl w lo2 hi2 2 u m (iiC p q)) (hhi2 : hi2 ≤ w.heap.size) (hf : ffits F n) :
    Calls Tryd.prog 24 #[v, u] w (ShRes F n p q m w) := by
  obtain ⟨A, cap, rfl, hcap, hA⟩ := id hv.open_
  obtain ⟨A2, cap2, rfl, hcap2, hA2⟩ := id hu.open_
  have HV := hide hv
  have HU := hide hu
  clear hv hu hA
  cases e1 : flB F n with
  | false =>
    have HX : Hid (shOk F n p q m = false) := by show _ = _; rw [shOk, e1]; rfl
    clear hA2
    go_enter Tryd.func24, Tryd.ntmps24
    go_wp2_with fail
    refine (isFloor_any F n lo hi _ _ (HV.out.below (B := w.heap.size) (by repeat (first | (with_reducible exact Below.refl _ _) | (with_reducible refine below_ov ?_ ?_) | (with_reducible refine Below.setCell ?_ ?_ _) | (with_reducible refine Below.alloc ?_ ?_ _) | (with_reducible refine Below.drew ?_) | (with_reducible refine below_drewN ?_ _) | (refine Below.trans ?_ (Below.mono ‹Below _ _ _› (by first | omega | (simp; done) | (simp; omega)))) | exact Below.refl _ _ | omega | (focus (simp; done)) | (focus (simp; omega)))) hhi) (by first | omega | (simp; done) | (simp; omega)) hf).mono ?_
    rintro e w1 ⟨rfl, hb1⟩
    have hz1 := hb1.size
    rw [e1]
    go_wp2_with fail
    go_ret2
    exact sh_nil HX.out (by repeat (first | (with_reducible exact Below.refl _ _) | (with_reducible refine below_ov ?_ ?_) | (with_reducible refine Below.setCell ?_ ?_ _) | (with_reducible refine Below.alloc ?_ ?_ _) | (with_reducible refine Below.drew ?_) | (with_reducible refine below_drewN ?_ _) | (refine Below.trans ?_ (Below.mono ‹Below _ _ _› (by first | omega | (simp; done) | (simp; omega)))) | exact Below.refl _ _ | omega | (focus (simp; done)) | (focus (simp; omega))))
  | true =>
  have HG := hide e1
  cases e2 : inB m 1 8 with
  | false =>
    have HX : Hid (shOk F n p q m = false) := by show _ = _; rw [shOk, e2]; simp
    clear hA2
    go_enter Tryd.func24, Tryd.ntmps24
    go_wp2_with fail
    refine (isFloor_any F n lo hi _ _ (HV.out.below (B := w.heap.size) (by repeat (first | (with_reducible exact Below.refl _ _) | (with_reducible refine below_ov ?_ ?_) | (with_reducible refine Below.setCell ?_ ?_ _) | (with_reducible refine Below.alloc ?_ ?_ _) | (with_reducible refine Below.drew ?_) | (with_reducible refine below_drewN ?_ _) | (refine Below.trans ?_ (Below.mono ‹Below _ _ _› (by first | omega | (simp; done) | (simp; omega)))) | exact Below.refl _ _ | omega | (focus (simp; done)) | (focus (simp; omega)))) hhi) (by first | omega | (simp; done) | (simp; omega)) hf).mono ?_
    rintro e w1 ⟨rfl, hb1⟩
    have hz1 := hb1.size
    rw [e1]
    go_wp2_with (go_at_call 68; refine (inside_any _ _ _ _).mono ?_; rintro e w' ⟨rfl, rfl⟩)
    go_ret2
    exact sh_nil HX.out (by repeat (first | (with_reducible exact Below.refl _ _) | (with_reducible refine below_ov ?_ ?_) | (with_reducible refine Below.setCell ?_ ?_ _) | (with_reducible refine Below.alloc ?_ ?_ _) | (with_reducible refine Below.drew ?_) | (with_reducible refine below_drewN ?_ _) | (refine Below.trans ?_ (Below.mono ‹Below _ _ _› (by first | omega | (simp; done) | (simp; omega)))) | exact Below.refl _ _ | omega | (focus (simp; done)) | (focus (simp; omega))))
  | true =>
  have hm18 := inB_iff.1 e2
  have HE2 := hide e2
  obtain ⟨blk2, off2, rfl, k1, k2, k3⟩ := hA2 (by omega)
  have HC2 : Hid (∀ t, t < m → w.cell? ⟨blk2, off2 + t * 2, none⟩ = some (.int .i64 (p t)) ∧ w.cell? ⟨blk2, off2 + t * 2 + 1, none⟩ = some (.int .i64 (q t))) := fun t ht =>
    ⟨by simpa [iiC] using k3 t 0 ht (by omega), by simpa [iiC] using k3 t 1 ht (by omega)⟩
  have HPRE : Hid (∀ t, t ≤ m → Sl w lo2 hi2 2 (.slice (some ⟨blk2, off2, none⟩) t cap2) t (iiC p q)) := fun t ht =>
    SlA.shut (SlA.less (n := m) (fun _ => ⟨blk2, off2, rfl, k1, k2, k3⟩) ht) (by omega)
  have l2 : blk2 < w.heap.size := by omega
  clear hA2 k3
  go_enter Tryd.func24, Tryd.ntmps24
  go_wp2_with fail
  refine (isFloor_any F n lo hi _ _ (HV.out.below (B := w.heap.size) (by repeat (first | (with_reducible exact Below.refl _ _) | (with_reducible refine below_ov ?_ ?_) | (with_reducible refine Below.setCell ?_ ?_ _) | (with_reducible refine Below.alloc ?_ ?_ _) | (with_reducible refine Below.drew ?_) | (with_reducible refine below_drewN ?_ _) | (refine Below.trans ?_ (Below.mono ‹Below _ _ _› (by first | omega | (simp; done) | (simp; omega)))) | exact Below.refl _ _ | omega | (focus (simp; done)) | (focus (simp; omega)))) hhi) (by first | omega | (simp; done) | (simp; omega)) hf).mono ?_
  rintro e w1 ⟨rfl, hb1⟩
  rw [e1]
  have HB1 := hide hb1
  clear hb1 e1
  go_wp2_with (go_at_call 68; refine (inside_any _ _ _ _).mono ?_; rintro e w' ⟨rfl, rfl⟩)
  clear e2
  go_loopg [19] (m + 1) (fun gn b wr => ∃ t : Nat, t ≤ m ∧ m - t < gn ∧ b = .int .i64 t ∧ Hid (Below w.heap.size w wr) ∧ Hid (∀ j, j < t → (opB F n (p j) (q j) && !hasC p q (p j) (q j) j) = true))
  case atStart => exact ⟨0, by omega, by omega, rfl, HB1.out, fun j hj => absurd hj (Nat.not_lt_zero _)⟩
  case round =>
    obtain ⟨t, ht, hgt, rfl, HB, HJ⟩ := hrel
    have hz := HB.out.size
    by_cases htm : t < m
    · have c0 : wr.cell? ⟨blk2, off2 + t * 2, none⟩ = some (.int .i64 (p t)) := (HB.out.cell (p := ⟨blk2, off2 + t * 2, none⟩) l2).trans (HC2.out t htm).1
      have c1 : wr.cell? ⟨blk2, off2 + t * 2 + 1, none⟩ = some (.int .i64 (q t)) := (HB.out.cell (p := ⟨blk2, off2 + t * 2 + 1, none⟩) l2).trans (HC2.out t htm).2
      have l3 : blk2 < wr.heap.size := by omega
      have ht2 : t ≤ cap2 := by omega
      go_wp2_with fail
      obtain ⟨ab, hab⟩ : ∃ ab, ab = wr.heap.size := ⟨_, rfl⟩
      obtain ⟨Wa, hWa⟩ : ∃ Wa, Wa = wr.alloc (.cells #[.int .i64 (p t), .int .i64 (q t)] 38) := ⟨_, rfl⟩
      have XA : Hid (Bx2 Wa ab (p t) (q t)) := by show Bx2 _ _ _ _; rw [hWa, hab]; exact Bx2.new _ _ _
      have ba : Below wr.heap.size wr Wa := by rw [hWa]; exact (Below.refl _ _).alloc (Nat.le_refl _) _
      have HBA : Hid (Below w.heap.size w Wa) := HB.out.trans (ba.mono hz)
      rw [← hWa, ← hab]
      clear hWa hab ba c0 c1
      obtain ⟨x0, x1, xf, xl⟩ := XA.out
      have hza := HBA.out.size
      cases eo : opB F n (p t) (q t) with
      | false =>
        have HX : Hid (shOk F n p q m = false) := sh_bad htm (by rw [eo]; rfl)
        have HEO := hide eo
        (refine wp_region_below_lit (by kernel_rfl) (by kernel_rfl) ?_; (repeat (first | go_big_quiet_step ((first | (go_at_call 59; exact quiet_ov ((isOpen_any F n (p t) (q t) lo hi _ _ (HV.out.below (B := w.heap.size) (below_ov HBA.out (by omega)) hhi) (by simp [ov]; omega) HG.out))))) | quiet_step ((first | (go_at_call 59; exact quiet_ov ((isOpen_any F n (p t) (q t) lo hi _ _ (HV.out.below (B := w.heap.size) (below_ov HBA.out (by omega)) hhi) (by simp [ov]; omega) HG.out))))))); refine wpQuiet_nil ?_; intro w2 hb2; have hz2 := hb2.size; (try (simp at hz2)); obtain ⟨hcw2, hfw2⟩ := bcell hb2; (try (have hy2 : w.heap.size < w2.heap.size := by omega)); (try (have hyy2 : w.heap.size + 1 < w2.heap.size := by omega)))
        have HB2 : Hid (Below w.heap.size w w2) := HBA.out.trans (hb2.mono hza)
        clear x0 x1 xf xl hcw2 hfw2 hb2
        go_wp2_with fail
        go_ret2
        exact sh_nil HX.out HB2.out
      | true =>
        obtain ⟨tst, htst⟩ : ∃ z, hasC p q (p t) (q t) t = z := ⟨_, rfl⟩
        have HTST := hide htst
        clear htst
        (refine wp_region_below_lit (by kernel_rfl) (by kernel_rfl) ?_; (repeat (first | go_big_quiet_step ((first | (go_at_call 59; exact quiet_ov ((isOpen_any F n (p t) (q t) lo hi _ _ (HV.out.below (B := w.heap.size) (below_ov HBA.out (by omega)) hhi) (by simp [ov]; omega) HG.out))) | (go_at_call 69; exact quiet_ov ((ContainsCell_any p q t (p t) (q t) lo2 hi2 _ _ ((HPRE.out t (by omega)).below (B := w.heap.size) (below_ov HBA.out (by omega)) hhi2) (by simp [ov]; omega) (by omega)))))) | quiet_step ((first | (go_at_call 59; exact quiet_ov ((isOpen_any F n (p t) (q t) lo hi _ _ (HV.out.below (B := w.heap.size) (below_ov HBA.out (by omega)) hhi) (by simp [ov]; omega) HG.out))) | (go_at_call 69; exact quiet_ov ((ContainsCell_any p q t (p t) (q t) lo2 hi2 _ _ ((HPRE.out t (by omega)).below (B := w.heap.size) (below_ov HBA.out (by omega)) hhi2) (by simp [ov]; omega) (by omega)))))))); refine wpQuiet_nil ?_; intro w2 hb2; have hz2 := hb2.size; (try (simp at hz2)); obtain ⟨hcw2, hfw2⟩ := bcell hb2; (try (have hy2 : w.heap.size < w2.heap.size := by omega)); (try (have hyy2 : w.heap.size + 1 < w2.heap.size := by omega)))
        have HB2 : Hid (Below w.heap.size w w2) := HBA.out.trans (hb2.mono hza)
        clear x0 x1 xf xl hcw2 hfw2 hb2
        rw [HTST.out]
        cases tst with
        | true =>
          have HX : Hid (shOk F n p q m = false) := sh_bad htm (by rw [HTST.out]; simp)
          go_wp2_with fail
          go_ret2
          exact sh_nil HX.out HB2.out
        | false =>
          have HJ2 : Hid (∀ j, j < t + 1 → (opB F n (p j) (q j) && !hasC p q (p j) (q j) j) = true) := upto_snoc (p := fun j => opB F n (p j) (q j) && !hasC p q (p j) (q j) j) HJ.out (by simp [HTST.out, eo])
          clear eo
          go_wp2_with fail
          go_roundg (m - t)
          case measure => omega
          case rel => exact ⟨t + 1, by omega, by omega, by go_num, HB2.out, HJ2.out⟩
    · obtain rfl : t = m := by omega
      have HX : Hid (shOk F n p q t = true) := by show _ = _; rw [shOk, HG.out, HE2.out, allB_iff.2 HJ.out]; rfl
      have HOP : Hid (∀ j, j < t → opB F n (p j) (q j) = true) := fun j hj => ((sh_facts HX.out).2.2 j hj).1
      go_wp2_with fail
      refine (shareOut_any F n p q t lo hi lo2 hi2 _ _ _ (HV.out.below (B := w.heap.size) HB.out hhi) (by omega) (HU.out.below (B := w.heap.size) HB.out hhi2) (by omega) HG.out (by omega) (by omega) HOP.out).mono ?_
      rintro e w3 ⟨v3, rfl, hr3, hb3⟩
      have HR3 := hide hr3
      have HB3 : Hid (Below w.heap.size w w3) := HB.out.trans (hb3.mono hz)
      clear hr3 hb3
      obtain ⟨B3, c3', rfl⟩ := row_form HR3.out
      go_wp2_with fail
      go_ret2
      exact sh_row HX.out HR3.out hz HB3.out
theorem ShareOut_impl (F : Nat → ByteArray) (n : Nat) (p q : Nat → Int) (m lo hi : Nat) (v : Value) (lo2 hi2 : Nat) (u : Value) (w : World) (hv : Sl w lo hi 1 v n (sC F)) (hhi : hi ≤ w.heap.size) (hu : Sl w lo2 hi2 2 u m (iiC p q)) (hhi2 : hi2 ≤ w.heap.size) (hf : ffits F n) :
    Calls Tryd.prog 24 #[v, u] w fun e w' => ∃ v', e = .returned (.tuple #[v', .bool (shOk F n p q m)]) ∧ Own w' w.heap.size w'.heap.size 9 1 v' (shN F n p q m) (shN F n p q m) (sC (shT F n p q m)) ∧ Below w.heap.size w w' :=
  ShareOut_implR F n p q m lo hi v lo2 hi2 u w hv hhi hu hhi2 hf

end Go.Proofs.YtpckhpkbdanjoaaDoor

/-
  Closed facts on the whole program that every card of this seat asks.-/
namespace Go.Proofs.YtpckhpkbdanjoaaDoor
set_option linter.unusedVariables false
set_option linter.unusedSimpArgs false
open Go

theorem Tryd.mainIs0 : Tryd.pinned.checked.prog.mainIs = some (((true, "9bc3415960b78502ef8bbbaf3fc61dd07d7d66dca491c55dd25d91170ccba87f") : Bool × String).1, ((true, "9bc3415960b78502ef8bbbaf3fc61dd07d7d66dca491c55dd25d91170ccba87f") : Bool × String).2.toList) := by kernel_rfl
theorem Tryd.looks0 : false = Tryd.pinned.checked.prog.looks [] := by kernel_rfl

end Go.Proofs.YtpckhpkbdanjoaaDoor

/-
  How much of a budget a list of texts takes: no more than there is.-/
namespace Go.Proofs.YtpckhpkbdanjoaaDoor
set_option linter.unusedVariables false
set_option linter.unusedSimpArgs false

theorem szPF_le (c : Nat → ByteArray) (n : Nat) : szPF 1048576 c n ≤ 1048576 := by
  unfold szPF
  split
  · omega
  · have := (szP_le (left := 1048576 - n) (a := fun i => (c i).size) (by omega) n).2
    omega

end Go.Proofs.YtpckhpkbdanjoaaDoor

/-
  An argument that is a list of Cell, opened (printed by gen_data.py).-/
namespace Go.Proofs.YtpckhpkbdanjoaaDoor
set_option linter.unusedVariables false
set_option linter.unusedSimpArgs false
open Go.ChangeShapes Go.WideShapes Go.ChangeAt Go.RowKit Go.Joins Go.Deep

theorem Tryd.cells36 : Tryd.prog.cellsOf 36 = 2 := by kernel_rfl
set_option maxRecDepth 100000 in
theorem openCellT {H : Type} {enc : TypeId × Value → H} {W : World} {spare : Nat → Bool} {held : Bool} {v : Value} {d : DataW H} {ps : List MemPlace} {fuel : Nat}
    (h : DataW.trod enc Tryd.prog W 0 spare held fuel 23 [v] = some (d, ps)) :
    ∃ (A : Option Addr) (n cap : Nat) (f0 : Nat → Int) (f1 : Nat → Int), v = .slice A n cap ∧ n ≤ cap ∧ cap ≤ maxLen ∧ SlA W 0 W.heap.size 2 A n (iiC f0 f1) := by
  obtain ⟨A, n, cap, V, rfl, h1, h2, h3, h4⟩ := open_cellsT Tryd.underlying23 Tryd.cells36 (by omega) h
  refine ⟨A, n, cap, fun i => intOf (V i 0), fun i => intOf (V i 1), rfl, h1, h2, h3.congr fun i j hi hj => ?_⟩
  obtain ⟨cs', k, y, hl, hc, hy⟩ := h4 i hi
  match j, hj with
  | 0, hj =>
    obtain ⟨_, _, hz⟩ := field_of Tryd.underlying36 (by kernel_rfl) hy (j := 0) rfl (hc 0 hj)
    exact (int_cell Tryd.underlying3 hz).1
  | 1, hj =>
    obtain ⟨_, _, hz⟩ := field_of Tryd.underlying36 (by kernel_rfl) hy (j := 1) rfl (hc 1 hj)
    exact (int_cell Tryd.underlying3 hz).1
set_option maxRecDepth 100000 in
theorem openCell {H : Type} {enc : TypeId × Value → H} {W : World} {spare : Nat → Bool} {held : Bool} {v : Value} {d : DataW H} {ps : List MemPlace} {r : Reach} {b0 : Nat}
    (hv : Value.okWide Tryd.prog W r b0 23 v) (h : DataW.Trod enc Tryd.prog W 0 spare held 23 v d ps) :
    ∃ (A : Option Addr) (n cap : Nat) (f0 : Nat → Int) (f1 : Nat → Int), v = .slice A n cap ∧ n ≤ cap ∧ cap ≤ maxLen ∧ SlA W 0 W.heap.size 2 A n (iiC f0 f1) := by
  obtain ⟨A, n, cap, rfl⟩ := okWide_slice Tryd.underlying23 hv
  obtain ⟨fuel, hf⟩ := h
  exact openCellT (show DataW.trod enc Tryd.prog W 0 spare held fuel 23 [.slice A n cap] = some (d, ps) from hf)

end Go.Proofs.YtpckhpkbdanjoaaDoor

/-
  Walks: the laws' marks in a slice of Cell (printed by gen_mark.py).-/
namespace Go.Proofs.YtpckhpkbdanjoaaDoor
set_option linter.unusedVariables false
set_option linter.unusedSimpArgs false
open Go.RowKit

/-- The marks, a cell each. -/
def mkCell (q : Int) : Nat → Value := fun o => if o % 2 = 0 then .int .i64 (q + (o : Nat)) else .int .i64 (q + (o : Nat))
theorem mkCell_0 (q : Int) (k : Nat) : mkCell q (k * 2) = .int .i64 (q + (k : Int) * 2) := by
  unfold mkCell
  rw [if_pos (by omega)]
  congr 1 <;> (first | rfl | (push_cast; omega) | omega)
theorem mkCell_1 (q : Int) (k : Nat) : mkCell q (k * 2 + 1) = .int .i64 (q + (k : Int) * 2 + 1) := by
  unfold mkCell
  rw [if_neg (by omega)]
  congr 1 <;> (first | rfl | (push_cast; omega) | omega)
set_option maxRecDepth 100000 in
set_option maxHeartbeats 1600000 in
theorem markCellS_any (q : Int) (n lo hi K : Nat) (v : Value) (cc : Nat → Value) (w : World) (hv : OwnL w lo hi 38 2 v n K cc) (hhi : hi ≤ w.heap.size) (hn : n ≤ 1048576) (hq : 0 ≤ q) (hq' : q ≤ 4503599627370496) :
    Calls Tryd.prog 18 #[v, .int .i64 q] w fun e w' => e = .returned (.int .i64 (q + (n : Int) * 2)) ∧ OwnL w' lo hi 38 2 v n (n * 2) (mkCell q) ∧ Only lo hi w w' := by
  obtain ⟨A, cap, rfl, hcap, hA⟩ := hv.open_
  have hv0 := (hv.less (Nat.zero_le _)).congr (cc' := mkCell q) (fun o h => absurd h (Nat.not_lt_zero _))
  clear hv
  go_enter Tryd.func18, Tryd.ntmps18
  go_wp2_with fail
  go_loopw [1, 5] (fun c i wr => ∃ k : Nat, k ≤ n ∧ i = .int .i64 k ∧ c = .int .i64 (q + (k : Int) * 2) ∧ OwnL wr lo hi 38 2 (.slice A n cap) n (k * 2) (mkCell q) ∧ Only lo hi w wr) (fun _ i _ => n - (intOf i).toNat)
  case atStart => exact ⟨0, by omega, rfl, by simp, by simpa using hv0, Only.refl _ _ _⟩
  case round =>
    obtain ⟨k, hk, rfl, rfl, ho, hb⟩ := hrel
    have hzr := hb.size
    by_cases hkn : k < n
    · obtain ⟨g, rfl, g1, g2⟩ := hA (by omega)
      have ho0 := ho
      obtain ⟨⟨u0, hu0⟩, hf0, _⟩ := ho0.cell (by omega) (o := k * 2) (by omega)
      have hs0 := ho0.store (by omega)
      rw [mkCell_0] at hs0
      have ho1 := hs0
      obtain ⟨⟨u1, hu1⟩, hf1, _⟩ := ho1.cell (by omega) (o := k * 2 + 1) (by omega)
      have hs1 := ho1.store (by omega)
      rw [mkCell_1] at hs1
      go_wp2_with fail
      go_roundw
      case rel => exact ⟨k + 1, by omega, by go_num, by congr 1; (try push_cast); omega, by rw [show (k + 1) * 2 = k * 2 + 1 + 1 by omega]; exact hs1, ((hb.setCell g1 g2 _).setCell g1 g2 _)⟩
      case measure => simp [intOf]; omega
    · obtain rfl : k = n := by omega
      go_wp2_with fail
      go_ret
      exact ⟨rfl, ho, hb⟩

set_option maxRecDepth 100000 in
set_option maxHeartbeats 1600000 in
theorem heldCellS_same (q : Int) (n lo hi : Nat) (v : Value) (w : World) (hv : OwnL w lo hi 38 2 v n (n * 2) (mkCell q)) (hhi : hi ≤ w.heap.size) (hn : n ≤ 1048576) (hq : 0 ≤ q) (hq' : q ≤ 4503599627370496) :
    Calls Tryd.prog 19 #[v, .int .i64 q] w fun e w' => e = .returned (.int .i64 (q + (n : Int) * 2)) ∧ Below w.heap.size w w' := by
  obtain ⟨A, cap, rfl, hcap, hA⟩ := hv.open_
  go_enter Tryd.func19, Tryd.ntmps19
  go_wp2_with fail
  go_loopw [1, 5] (fun c i wr => ∃ k : Nat, k ≤ n ∧ i = .int .i64 k ∧ c = .int .i64 (q + (k : Int) * 2) ∧ Below w.heap.size w wr) (fun _ i _ => n - (intOf i).toNat)
  case atStart => exact ⟨0, by omega, rfl, by simp, Below.refl _ _⟩
  case round =>
    obtain ⟨k, hk, rfl, rfl, hb⟩ := hrel
    have hzr := hb.size
    have hv' := hv.below hb hhi
    by_cases hkn : k < n
    · obtain ⟨g, rfl, g1, g2⟩ := hA (by omega)
      have l0 : g < wr.heap.size := by omega
      obtain ⟨_, _, c0⟩ := hv'.cell (by omega) (o := k * 2) (by omega)
      replace c0 := c0 (by omega)
      rw [mkCell_0] at c0
      obtain ⟨_, _, c1⟩ := hv'.cell (by omega) (o := k * 2 + 1) (by omega)
      replace c1 := c1 (by omega)
      rw [mkCell_1] at c1
      go_wp2_with fail
      go_roundw
      case rel => exact ⟨k + 1, by omega, by go_num, by congr 1; (try push_cast); omega, (by repeat (first | (with_reducible exact Below.refl _ _) | (with_reducible refine below_ov ?_ ?_) | (with_reducible refine Below.setCell ?_ ?_ _) | (with_reducible refine Below.alloc ?_ ?_ _) | (with_reducible refine Below.drew ?_) | (with_reducible refine below_drewN ?_ _) | (refine Below.trans ?_ (Below.mono ‹Below _ _ _› (by first | omega | (simp; done) | (simp; omega)))) | exact Below.refl _ _ | omega | (focus (simp; done)) | (focus (simp; omega))))⟩
      case measure => simp [intOf]; omega
    · obtain rfl : k = n := by omega
      go_wp2_with fail
      go_ret
      exact ⟨rfl, hb⟩

end Go.Proofs.YtpckhpkbdanjoaaDoor

/-
  Walks: the laws' marks in a slice of String (printed by gen_mark.py).-/
namespace Go.Proofs.YtpckhpkbdanjoaaDoor
set_option linter.unusedVariables false
set_option linter.unusedSimpArgs false
open Go.RowKit

/-- The marks, a cell each. -/
def mkString (q : Int) : Nat → Value := fun o => .string (mT (q + (o : Nat)))
theorem mkString_0 (q : Int) (k : Nat) : mkString q (k) = .string (mT (q + (k : Int))) := by
  unfold mkString
  congr 1 <;> congr 1 <;> (first | rfl | (push_cast; omega) | omega)
set_option maxRecDepth 100000 in
set_option maxHeartbeats 1600000 in
theorem markStringS_any (q : Int) (n lo hi K : Nat) (v : Value) (cc : Nat → Value) (w : World) (hv : OwnL w lo hi 9 1 v n K cc) (hhi : hi ≤ w.heap.size) (hn : n ≤ 1048576) (hq : 0 ≤ q) (hq' : q ≤ 4503599627370496) :
    Calls Tryd.prog 17 #[v, .int .i64 q] w fun e w' => e = .returned (.int .i64 (q + (n : Int))) ∧ OwnL w' lo hi 9 1 v n n (mkString q) ∧ Only lo hi w w' := by
  obtain ⟨A, cap, rfl, hcap, hA⟩ := hv.open_
  have hv0 := (hv.less (Nat.zero_le _)).congr (cc' := mkString q) (fun o h => absurd h (Nat.not_lt_zero _))
  clear hv
  go_enter Tryd.func17, Tryd.ntmps17
  go_wp2_with fail
  go_loopw [1, 5] (fun c i wr => ∃ k : Nat, k ≤ n ∧ i = .int .i64 k ∧ c = .int .i64 (q + (k : Int)) ∧ OwnL wr lo hi 9 1 (.slice A n cap) n k (mkString q) ∧ Only lo hi w wr) (fun _ i _ => n - (intOf i).toNat)
  case atStart => exact ⟨0, by omega, rfl, by simp, by simpa using hv0, Only.refl _ _ _⟩
  case round =>
    obtain ⟨k, hk, rfl, rfl, ho, hb⟩ := hrel
    have hzr := hb.size
    by_cases hkn : k < n
    · obtain ⟨g, rfl, g1, g2⟩ := hA (by omega)
      go_wp2_with fail
      refine (markText_any _ _ (by omega)).mono ?_
      rintro e w0 ⟨rfl, hb0⟩
      have hz0 := hb0.size
      (try (simp at hz0))
      have ho0 := ho.below hb0 (by first | omega | (simp; omega))
      have hO0 := Only.of_below (lo := lo) (hi := hi) hb0
      obtain ⟨⟨u0, hu0⟩, hf0, _⟩ := ho0.cell (by omega) (o := k) (by omega)
      have hs0 := ho0.store (by omega)
      rw [mkString_0] at hs0
      go_wp2_with fail
      go_roundw
      case rel => exact ⟨k + 1, by omega, by go_num, by congr 1; (try push_cast); omega, hs0, ((hb.trans hO0).setCell g1 g2 _)⟩
      case measure => simp [intOf]; omega
    · obtain rfl : k = n := by omega
      go_wp2_with fail
      go_ret
      exact ⟨rfl, ho, hb⟩

set_option maxRecDepth 100000 in
set_option maxHeartbeats 1600000 in
theorem heldStringS_same (q : Int) (n lo hi : Nat) (v : Value) (w : World) (hv : OwnL w lo hi 9 1 v n n (mkString q)) (hhi : hi ≤ w.heap.size) (hn : n ≤ 1048576) (hq : 0 ≤ q) (hq' : q ≤ 4503599627370496) :
    Calls Tryd.prog 25 #[v, .int .i64 q] w fun e w' => e = .returned (.int .i64 (q + (n : Int))) ∧ Below w.heap.size w w' := by
  obtain ⟨A, cap, rfl, hcap, hA⟩ := hv.open_
  go_enter Tryd.func25, Tryd.ntmps25
  go_wp2_with fail
  go_loopw [1, 5] (fun c i wr => ∃ k : Nat, k ≤ n ∧ i = .int .i64 k ∧ c = .int .i64 (q + (k : Int)) ∧ Below w.heap.size w wr) (fun _ i _ => n - (intOf i).toNat)
  case atStart => exact ⟨0, by omega, rfl, by simp, Below.refl _ _⟩
  case round =>
    obtain ⟨k, hk, rfl, rfl, hb⟩ := hrel
    have hzr := hb.size
    have hv' := hv.below hb hhi
    by_cases hkn : k < n
    · obtain ⟨g, rfl, g1, g2⟩ := hA (by omega)
      have l0 : g < wr.heap.size := by omega
      obtain ⟨_, _, c0⟩ := hv'.cell (by omega) (o := k) (by omega)
      replace c0 := c0 (by omega)
      rw [mkString_0] at c0
      go_wp2_with fail
      (refine wp_region_below_lit (by kernel_rfl) (by kernel_rfl) ?_; (repeat (first | go_big_quiet_step ((go_at_call 62; exact quiet_ov (markText_any _ _ (by omega)))) | quiet_step ((go_at_call 62; exact quiet_ov (markText_any _ _ (by omega)))))); refine wpQuiet_nil ?_; intro wa0 hba0; have hza0 := hba0.size; (try (simp at hza0)); obtain ⟨hcwa0, hfwa0⟩ := bcell hba0; (try (have hya0 : w.heap.size < wa0.heap.size := by omega)); (try (have hyya0 : w.heap.size + 1 < wa0.heap.size := by omega)))
      have m0 : g < wa0.heap.size := by omega
      go_wp2_with fail
      go_roundw
      case rel => exact ⟨k + 1, by omega, by go_num, by congr 1; (try push_cast); omega, (by repeat (first | (with_reducible exact Below.refl _ _) | (with_reducible refine below_ov ?_ ?_) | (with_reducible refine Below.setCell ?_ ?_ _) | (with_reducible refine Below.alloc ?_ ?_ _) | (with_reducible refine Below.drew ?_) | (with_reducible refine below_drewN ?_ _) | (refine Below.trans ?_ (Below.mono ‹Below _ _ _› (by first | omega | (simp; done) | (simp; omega)))) | exact Below.refl _ _ | omega | (focus (simp; done)) | (focus (simp; omega))))⟩
      case measure => simp [intOf]; omega
    · obtain rfl : k = n := by omega
      go_wp2_with fail
      go_ret
      exact ⟨rfl, hb⟩

end Go.Proofs.YtpckhpkbdanjoaaDoor
