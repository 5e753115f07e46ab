/-
  Walks: the teams that are recalled.
-/
import Derived.Test.YtpakjmiallhgnaaWFirst2
import Derived.Test.YtpakjmiallhgnaaPFlt
import Derived.Test.YtpakjmiallhgnaaDString
namespace Go.Proofs.Ytpakjmiallhgnaa
set_option linter.unusedVariables false
set_option linter.unusedSimpArgs false
open Go.RowKit

def rcOk (T : Nat → Tm) (n : Nat) (m : Int) : Bool := bdB T n && inB m 0 600
def rcP (T : Nat → Tm) (m : Int) (i : Nat) : Bool := (stB (T i) m).toList == [116, 117, 114, 110]
def rcQ (T : Nat → Tm) (n : Nat) (m : Int) (i : Nat) : Bool := rcOk T n m && rcP T m i
theorem rcQ_no {T : Nat → Tm} {n : Nat} {m : Int} (h : rcOk T n m = false) : ∀ k, flt (rcQ T n m) k = []
  | 0 => rfl
  | k + 1 => by rw [flt_no (by simp [rcQ, h]), rcQ_no h k]
theorem rcQ_at {T : Nat → Tm} {n : Nat} {m : Int} {i : Nat} (h : rcOk T n m = true) : rcQ T n m i = rcP T m i := by simp [rcQ, h]
def StrRes (f : Nat → ByteArray) (p : Nat → Bool) (n : Nat) (ok : Bool) (w : World) (e : Ending) (w' : World) : Prop := ∃ v', e = .returned (.tuple #[v', .bool ok]) ∧ Own w' w.heap.size w'.heap.size 9 1 v' (flt p n).length (flt p n).length (sC (fltS f p n)) ∧ Below w.heap.size w w'
theorem str_nil {f : Nat → ByteArray} {p : Nat → Bool} {n : Nat} {w w' : World} (h : flt p n = []) (hb : Below w.heap.size w w') : StrRes f p n false w (.returned (.tuple #[.slice none 0 0, .bool false])) w' :=
  ⟨_, rfl, by rw [h]; exact Own.nil_ _ _ _ _ _ _, hb⟩
theorem infoStr : (Try.prog.info? 9).map (fun i => (i.zero, i.size, i.bytes)) = some (some (.string ⟨#[]⟩), 1, 16) := by kernel_rfl
set_option maxRecDepth 100000 in
set_option maxHeartbeats 1600000 in
theorem RecalledTeams_impl (T : Nat → Tm) (n : Nat) (m : Int) (lo hi : Nat) (v : Value) (w : World) (hv : SlT w lo hi v n T) (hhi : hi ≤ w.heap.size) (hf : tfits T n) :
    Calls Try.prog 39 #[v, .int .i64 m] w (StrRes (fun i => (T i).s) (rcQ T n m) n (rcOk T n m) w) := by
  obtain ⟨A, cap, rfl, hcap⟩ := hv.open_
  obtain ⟨ii, hii, iz0, iz1, iz2⟩ := info_parts infoStr
  cases hB : bdB T n with
  | false =>
    have HF : Hid (rcOk T n m = false) := by show _ = _; simp [rcOk, hB]
    go_enter Try.func39, Try.ntmps39
    go_wp2_with (go_at_call 64; refine (isBoard_any T n lo hi _ _ hv hhi hf).mono ?_; rintro e w1 ⟨rfl, hb1⟩; have hz1 := hb1.size; (try (simp at hz1)); obtain ⟨hcw1, hfw1⟩ := bcell hb1; (try (have hy1 : w.heap.size < w1.heap.size := by omega)); (try (have hyy1 : w.heap.size + 1 < w1.heap.size := by omega)); (try (have hyyy1 : w.heap.size + 1 + 1 < w1.heap.size := by omega)))
    go_ret2
    rw [HF.out]
    exact str_nil (rcQ_no HF.out n) (by repeat (first | (with_reducible exact Below.refl _ _) | (with_reducible refine below_ov ?_ ?_) | (with_reducible refine Below.setCell ?_ ?_ _) | (with_reducible refine Below.alloc ?_ ?_ _) | (with_reducible refine Below.drew ?_) | (with_reducible refine below_drewN ?_ _) | (refine Below.trans ?_ (Below.mono ‹Below _ _ _› (by first | omega | (simp; done) | (simp; omega)))) | exact Below.refl _ _ | omega | (focus (simp; done)) | (focus (simp; omega))))
  | true =>
    have HB := hide hB
    go_enter Try.func39, Try.ntmps39
    go_wp2_with fail
    refine (isBoard_any T n lo hi _ _ (hv.below (B := w.heap.size) (by repeat (first | (with_reducible exact Below.refl _ _) | (with_reducible refine below_ov ?_ ?_) | (with_reducible refine Below.setCell ?_ ?_ _) | (with_reducible refine Below.alloc ?_ ?_ _) | (with_reducible refine Below.drew ?_) | (with_reducible refine below_drewN ?_ _) | (refine Below.trans ?_ (Below.mono ‹Below _ _ _› (by first | omega | (simp; done) | (simp; omega)))) | exact Below.refl _ _ | omega | (focus (simp; done)) | (focus (simp; omega)))) hhi) hhi hf).mono ?_
    rintro e w1 ⟨rfl, hb1⟩
    have hz1 := hb1.size
    rw [hB]
    go_wp2_with fail
    refine (inside_any _ _ _ _).mono ?_
    rintro e w2 ⟨rfl, rfl⟩
    cases hI : inB m 0 600 with
    | false =>
      have HF : Hid (rcOk T n m = false) := by show _ = _; simp [rcOk, hI]
      go_wp2_with fail
      go_ret2
      rw [HF.out]
      exact str_nil (rcQ_no HF.out n) (by repeat (first | (with_reducible exact Below.refl _ _) | (with_reducible refine below_ov ?_ ?_) | (with_reducible refine Below.setCell ?_ ?_ _) | (with_reducible refine Below.alloc ?_ ?_ _) | (with_reducible refine Below.drew ?_) | (with_reducible refine below_drewN ?_ _) | (refine Below.trans ?_ (Below.mono ‹Below _ _ _› (by first | omega | (simp; done) | (simp; omega)))) | exact Below.refl _ _ | omega | (focus (simp; done)) | (focus (simp; omega))))
    | true =>
      have HE : Hid (rcOk T n m = true) := by show _ = _; simp [rcOk, hI, HB.out]
      have hm := inB_iff.1 hI
      go_wp2_with fail
      have hn : n ≤ 6 := (bd_facts HB.out).1
      have hb0 : Below w.heap.size w w1 := (by repeat (first | (with_reducible exact Below.refl _ _) | (with_reducible refine below_ov ?_ ?_) | (with_reducible refine Below.setCell ?_ ?_ _) | (with_reducible refine Below.alloc ?_ ?_ _) | (with_reducible refine Below.drew ?_) | (with_reducible refine below_drewN ?_ _) | (refine Below.trans ?_ (Below.mono ‹Below _ _ _› (by first | omega | (simp; done) | (simp; omega)))) | exact Below.refl _ _ | omega | (focus (simp; done)) | (focus (simp; omega))))
      go_loopw [6, 18] (fun o i wr => ∃ (k : Nat) (B : Option Addr) (cp : Nat), k ≤ n ∧ i = .int .i64 k ∧ o = .slice B (flt (rcQ T n m) k).length cp ∧ Hid (wr.ownsRow w.heap.size 9 1 (.slice B (flt (rcQ T n m) k).length cp) (flt (rcQ T n m) k).length (fltT (fun i => (T i).s) (rcQ T n m) k)) ∧ Below w.heap.size w wr) (fun _ i _ => n - (intOf i).toNat)
      case atStart => exact ⟨0, none, 0, by omega, rfl, rfl, World.ownsRow_nil _ _ _ _, hb0⟩
      case round =>
        obtain ⟨k, B, cp, hk, rfl, rfl, hown, hb⟩ := hrel
        have hzr := hb.size
        have hfl := flt_len (rcQ T n m) k
        by_cases hkn : k < n
        · obtain ⟨blk, off, ck, rfl, h1, h2, h3⟩ := (hv.below hb hhi).at_ (by omega) (by omega)
          have t0 := hide (h3 k hkn)
          have q0 := (h3 k hkn).c0
          have HK := hide ((bd_facts HB.out).2 k hkn).1
          have l0 : blk < wr.heap.size := by omega
          clear h3
          go_wp2_with fail
          refine (state_any (T k) m blk (off + k * 4) lo hi _ _ (t0.out.below (B := wr.heap.size) (by repeat (first | (with_reducible exact Below.refl _ _) | (with_reducible refine below_ov ?_ ?_) | (with_reducible refine Below.setCell ?_ ?_ _) | (with_reducible refine Below.alloc ?_ ?_ _) | (with_reducible refine Below.drew ?_) | (with_reducible refine below_drewN ?_ _) | (refine Below.trans ?_ (Below.mono ‹Below _ _ _› (by first | omega | (simp; done) | (simp; omega)))) | exact Below.refl _ _ | omega | (focus (simp; done)) | (focus (simp; omega)))) (Nat.le_refl _)) HK.out hm.1 hm.2).mono ?_
          rintro e w6 ⟨rfl, hb6⟩
          have hz6 := hb6.size
          (try (simp at hz6))
          have q1 := (hb6.cell (p := ⟨blk, off + k * 4, none⟩) (by show blk < _; omega)).trans q0
          have l1 : blk < w6.heap.size := by omega
          have ho6 := hide (row_below hown.out hb6 (Nat.le_refl _))
          cases e6 : ((stB (T k) m).toList == [116, 117, 114, 110]) with
          | true =>
            have hT : rcQ T n m k = true := by rw [rcQ_at HE.out]; exact e6
            have HL : Hid ((flt (rcQ T n m) (k + 1)).length = (flt (rcQ T n m) k).length + 1) := by show _ = _; rw [flt_yes hT]; simp
            have HV : Hid (fltT (fun i => (T i).s) (rcQ T n m) (k + 1) = fltT (fun i => (T i).s) (rcQ T n m) k ++ [.string (T k).s]) := by show _ = _; rw [fltT, flt_yes hT]; simp [fltT]
            clear hT
            go_wp2_with (at_builtin; refine wpList_append_own _ rfl _ _ 56 rfl w.heap.size 9 ii (.string ⟨#[]⟩) 1 16 Try.underlying56 hii iz0 iz1 iz2 rfl (by decide) _ _ _ rfl (ho6.out.alloc _) ⟨w6.heap.size, 0, none⟩ 1 1 [.string (T k).s] rfl rfl ?_ ?_ ?_ ?_ ?_ ?_)
            · intro i u hu
              match i, hu with
              | 0, hu => simp at hu; subst hu; simp [go_sem, Addr.add]
            · intro u hu; simp at hu; subst hu; rfl
            · unfold maxLen; omega
            · omega
            · simp; omega
            intro v' w7 hown5 hg5 _
            have hb6w : Below w.heap.size w w6 := (by repeat (first | (with_reducible exact Below.refl _ _) | (with_reducible refine below_ov ?_ ?_) | (with_reducible refine Below.setCell ?_ ?_ _) | (with_reducible refine Below.alloc ?_ ?_ _) | (with_reducible refine Below.drew ?_) | (with_reducible refine below_drewN ?_ _) | (refine Below.trans ?_ (Below.mono ‹Below _ _ _› (by first | omega | (simp; done) | (simp; omega)))) | exact Below.refl _ _ | omega | (focus (simp; done)) | (focus (simp; omega))))
            have hb7 : Below w.heap.size w w7 := (hb6w.alloc (by omega) _).grown hg5 (by simp; omega) (fun g hg => (ho6.out.lt g hg).1)
            have hz7 := hb7.size
            obtain ⟨B2, cp2, rfl⟩ := row_form hown5
            have hown6 := hide hown5
            clear hown5 hg5 ho6
            go_wp2_with fail
            go_roundw
            case rel => exact ⟨k + 1, B2, cp2, by omega, by go_num, by rw [HL.out], by rw [HL.out, HV.out]; exact hown6, hb7⟩
            case measure => simp [intOf]; omega
          | false =>
            have hT : rcQ T n m k = false := by rw [rcQ_at HE.out]; exact e6
            have HL : Hid ((flt (rcQ T n m) (k + 1)) = flt (rcQ T n m) k) := by show _ = _; rw [flt_no hT]
            have HV : Hid (fltT (fun i => (T i).s) (rcQ T n m) (k + 1) = fltT (fun i => (T i).s) (rcQ T n m) k) := by show _ = _; rw [fltT, flt_no hT]; rfl
            clear hT
            go_wp2_with fail
            go_roundw
            case rel => exact ⟨k + 1, B, cp, by omega, by go_num, by rw [HL.out], by rw [HL.out, HV.out]; exact ho6, (by repeat (first | (with_reducible exact Below.refl _ _) | (with_reducible refine below_ov ?_ ?_) | (with_reducible refine Below.setCell ?_ ?_ _) | (with_reducible refine Below.alloc ?_ ?_ _) | (with_reducible refine Below.drew ?_) | (with_reducible refine below_drewN ?_ _) | (refine Below.trans ?_ (Below.mono ‹Below _ _ _› (by first | omega | (simp; done) | (simp; omega)))) | exact Below.refl _ _ | omega | (focus (simp; done)) | (focus (simp; omega))))⟩
            case measure => simp [intOf]; omega
        · obtain rfl : k = n := by omega
          go_wp2_with fail
          go_ret2
          rw [HE.out]
          exact ⟨_, rfl, (own_fltS hown.out).mono (Nat.le_refl _) (Nat.le_refl _), hb⟩
set_option maxRecDepth 100000 in
set_option maxHeartbeats 1600000 in
theorem RecalledTeams_spec (T : Nat → Tm) (n : Nat) (m : Int) (lo hi : Nat) (v : Value) (w : World) (hv : SlT w lo hi v n T) (hhi : hi ≤ w.heap.size) (hf : tfits T n) :
    Calls Try.prog 38 #[v, .int .i64 m] w (StrRes (fun i => (T i).s) (rcQ T n m) n (rcOk T n m) w) := by
  obtain ⟨A, cap, rfl, hcap⟩ := hv.open_
  obtain ⟨ii, hii, iz0, iz1, iz2⟩ := info_parts infoStr
  cases hB : bdB T n with
  | false =>
    have HF : Hid (rcOk T n m = false) := by show _ = _; simp [rcOk, hB]
    go_enter Try.func38, Try.ntmps38
    go_wp2_with (go_at_call 61; refine (enGood_any T n lo hi _ _ hv hhi hf).mono ?_; rintro e w1 ⟨rfl, hb1⟩; have hz1 := hb1.size; (try (simp at hz1)); obtain ⟨hcw1, hfw1⟩ := bcell hb1; (try (have hy1 : w.heap.size < w1.heap.size := by omega)); (try (have hyy1 : w.heap.size + 1 < w1.heap.size := by omega)); (try (have hyyy1 : w.heap.size + 1 + 1 < w1.heap.size := by omega)))
    go_ret2
    rw [HF.out]
    exact str_nil (rcQ_no HF.out n) (by repeat (first | (with_reducible exact Below.refl _ _) | (with_reducible refine below_ov ?_ ?_) | (with_reducible refine Below.setCell ?_ ?_ _) | (with_reducible refine Below.alloc ?_ ?_ _) | (with_reducible refine Below.drew ?_) | (with_reducible refine below_drewN ?_ _) | (refine Below.trans ?_ (Below.mono ‹Below _ _ _› (by first | omega | (simp; done) | (simp; omega)))) | exact Below.refl _ _ | omega | (focus (simp; done)) | (focus (simp; omega))))
  | true =>
    have HB := hide hB
    go_enter Try.func38, Try.ntmps38
    go_wp2_with fail
    refine (enGood_any T n lo hi _ _ (hv.below (B := w.heap.size) (by repeat (first | (with_reducible exact Below.refl _ _) | (with_reducible refine below_ov ?_ ?_) | (with_reducible refine Below.setCell ?_ ?_ _) | (with_reducible refine Below.alloc ?_ ?_ _) | (with_reducible refine Below.drew ?_) | (with_reducible refine below_drewN ?_ _) | (refine Below.trans ?_ (Below.mono ‹Below _ _ _› (by first | omega | (simp; done) | (simp; omega)))) | exact Below.refl _ _ | omega | (focus (simp; done)) | (focus (simp; omega)))) hhi) hhi hf).mono ?_
    rintro e w1 ⟨rfl, hb1⟩
    have hz1 := hb1.size
    rw [hB]
    go_wp2_with fail
    refine (enMinute_any _ _).mono ?_
    rintro e w2 ⟨rfl, rfl⟩
    cases hI : inB m 0 600 with
    | false =>
      have HF : Hid (rcOk T n m = false) := by show _ = _; simp [rcOk, hI]
      go_wp2_with fail
      go_ret2
      rw [HF.out]
      exact str_nil (rcQ_no HF.out n) (by repeat (first | (with_reducible exact Below.refl _ _) | (with_reducible refine below_ov ?_ ?_) | (with_reducible refine Below.setCell ?_ ?_ _) | (with_reducible refine Below.alloc ?_ ?_ _) | (with_reducible refine Below.drew ?_) | (with_reducible refine below_drewN ?_ _) | (refine Below.trans ?_ (Below.mono ‹Below _ _ _› (by first | omega | (simp; done) | (simp; omega)))) | exact Below.refl _ _ | omega | (focus (simp; done)) | (focus (simp; omega))))
    | true =>
      have HE : Hid (rcOk T n m = true) := by show _ = _; simp [rcOk, hI, HB.out]
      have hm := inB_iff.1 hI
      go_wp2_with fail
      have hn : n ≤ 6 := (bd_facts HB.out).1
      have hb0 : Below w.heap.size w w1 := (by repeat (first | (with_reducible exact Below.refl _ _) | (with_reducible refine below_ov ?_ ?_) | (with_reducible refine Below.setCell ?_ ?_ _) | (with_reducible refine Below.alloc ?_ ?_ _) | (with_reducible refine Below.drew ?_) | (with_reducible refine below_drewN ?_ _) | (refine Below.trans ?_ (Below.mono ‹Below _ _ _› (by first | omega | (simp; done) | (simp; omega)))) | exact Below.refl _ _ | omega | (focus (simp; done)) | (focus (simp; omega))))
      go_loopw [6, 19] (fun o i wr => ∃ (k : Nat) (B : Option Addr) (cp : Nat), k ≤ n ∧ i = .int .i64 k ∧ o = .slice B (flt (rcQ T n m) k).length cp ∧ Hid (wr.ownsRow w.heap.size 9 1 (.slice B (flt (rcQ T n m) k).length cp) (flt (rcQ T n m) k).length (fltT (fun i => (T i).s) (rcQ T n m) k)) ∧ Below w.heap.size w wr) (fun _ i _ => n - (intOf i).toNat)
      case atStart => exact ⟨0, none, 0, by omega, rfl, rfl, World.ownsRow_nil _ _ _ _, hb0⟩
      case round =>
        obtain ⟨k, B, cp, hk, rfl, rfl, hown, hb⟩ := hrel
        have hzr := hb.size
        have hfl := flt_len (rcQ T n m) k
        by_cases hkn : k < n
        · obtain ⟨blk, off, ck, rfl, h1, h2, h3⟩ := (hv.below hb hhi).at_ (by omega) (by omega)
          have t0 := hide (h3 k hkn)
          have q0 := (h3 k hkn).c0
          have qa := (h3 k hkn).c1
          have qb := (h3 k hkn).c2
          have qc := (h3 k hkn).c3
          obtain ⟨Ak, ckk, ek, _, _⟩ := t0.out.sl.open_
          have sk := t0.out.sl
          rw [ek] at qc sk
          have SK := hide sk
          clear ek sk
          have HK := hide ((bd_facts HB.out).2 k hkn).1
          have l0 : blk < wr.heap.size := by omega
          clear h3
          go_wp2_with fail
          refine (enState_any (T k) m lo hi _ _ (SK.out.below (B := wr.heap.size) (by repeat (first | (with_reducible exact Below.refl _ _) | (with_reducible refine below_ov ?_ ?_) | (with_reducible refine Below.setCell ?_ ?_ _) | (with_reducible refine Below.alloc ?_ ?_ _) | (with_reducible refine Below.drew ?_) | (with_reducible refine below_drewN ?_ _) | (refine Below.trans ?_ (Below.mono ‹Below _ _ _› (by first | omega | (simp; done) | (simp; omega)))) | exact Below.refl _ _ | omega | (focus (simp; done)) | (focus (simp; omega)))) (by omega)) (by simp; omega) HK.out hm.1 hm.2).mono ?_
          rintro e w6 ⟨rfl, hb6⟩
          have hz6 := hb6.size
          (try (simp at hz6))
          have q1 : w6.cell? ⟨wr.heap.size, 0, none⟩ = some (.string (T k).s) := (hb6.cell (p := ⟨wr.heap.size, 0, none⟩) (by simp)).trans (World.cell?_alloc_new _ _ _ _)
          have l1 : wr.heap.size < w6.heap.size := by omega
          have ho6 := hide (row_below (hown.out.alloc _) hb6 (Nat.le_refl _))
          cases e6 : ((stB (T k) m).toList == [116, 117, 114, 110]) with
          | true =>
            have hT : rcQ T n m k = true := by rw [rcQ_at HE.out]; exact e6
            have HL : Hid ((flt (rcQ T n m) (k + 1)).length = (flt (rcQ T n m) k).length + 1) := by show _ = _; rw [flt_yes hT]; simp
            have HV : Hid (fltT (fun i => (T i).s) (rcQ T n m) (k + 1) = fltT (fun i => (T i).s) (rcQ T n m) k ++ [.string (T k).s]) := by show _ = _; rw [fltT, flt_yes hT]; simp [fltT]
            clear hT
            go_wp2_with (at_builtin; refine wpList_append_own _ rfl _ _ 56 rfl w.heap.size 9 ii (.string ⟨#[]⟩) 1 16 Try.underlying56 hii iz0 iz1 iz2 rfl (by decide) _ _ _ rfl (ho6.out.alloc _) ⟨w6.heap.size, 0, none⟩ 1 1 [.string (T k).s] rfl rfl ?_ ?_ ?_ ?_ ?_ ?_)
            · intro i u hu
              match i, hu with
              | 0, hu => simp at hu; subst hu; simp [go_sem, Addr.add]
            · intro u hu; simp at hu; subst hu; rfl
            · unfold maxLen; omega
            · omega
            · simp; omega
            intro v' w7 hown5 hg5 _
            have hb6w : Below w.heap.size w w6 := (by repeat (first | (with_reducible exact Below.refl _ _) | (with_reducible refine below_ov ?_ ?_) | (with_reducible refine Below.setCell ?_ ?_ _) | (with_reducible refine Below.alloc ?_ ?_ _) | (with_reducible refine Below.drew ?_) | (with_reducible refine below_drewN ?_ _) | (refine Below.trans ?_ (Below.mono ‹Below _ _ _› (by first | omega | (simp; done) | (simp; omega)))) | exact Below.refl _ _ | omega | (focus (simp; done)) | (focus (simp; omega))))
            have hb7 : Below w.heap.size w w7 := (hb6w.alloc (by omega) _).grown hg5 (by simp; omega) (fun g hg => (ho6.out.lt g hg).1)
            have hz7 := hb7.size
            obtain ⟨B2, cp2, rfl⟩ := row_form hown5
            have hown6 := hide hown5
            clear hown5 hg5 ho6
            go_wp2_with fail
            go_roundw
            case rel => exact ⟨k + 1, B2, cp2, by omega, by go_num, by rw [HL.out], by rw [HL.out, HV.out]; exact hown6, hb7⟩
            case measure => simp [intOf]; omega
          | false =>
            have hT : rcQ T n m k = false := by rw [rcQ_at HE.out]; exact e6
            have HL : Hid ((flt (rcQ T n m) (k + 1)) = flt (rcQ T n m) k) := by show _ = _; rw [flt_no hT]
            have HV : Hid (fltT (fun i => (T i).s) (rcQ T n m) (k + 1) = fltT (fun i => (T i).s) (rcQ T n m) k) := by show _ = _; rw [fltT, flt_no hT]; rfl
            clear hT
            go_wp2_with fail
            go_roundw
            case rel => exact ⟨k + 1, B, cp, by omega, by go_num, by rw [HL.out], by rw [HL.out, HV.out]; exact ho6, (by repeat (first | (with_reducible exact Below.refl _ _) | (with_reducible refine below_ov ?_ ?_) | (with_reducible refine Below.setCell ?_ ?_ _) | (with_reducible refine Below.alloc ?_ ?_ _) | (with_reducible refine Below.drew ?_) | (with_reducible refine below_drewN ?_ _) | (refine Below.trans ?_ (Below.mono ‹Below _ _ _› (by first | omega | (simp; done) | (simp; omega)))) | exact Below.refl _ _ | omega | (focus (simp; done)) | (focus (simp; omega))))⟩
            case measure => simp [intOf]; omega
        · obtain rfl : k = n := by omega
          go_wp2_with fail
          go_ret2
          rw [HE.out]
          exact ⟨_, rfl, (own_fltS hown.out).mono (Nat.le_refl _) (Nat.le_refl _), hb⟩

end Go.Proofs.Ytpakjmiallhgnaa
