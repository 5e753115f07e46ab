/-
  Walks: the program's check of a channel: a map counts the messages of each name.
-/
import Derived.Test.YtkikjneamjmdlaaWChan
import Derived.Maps.Own
import Derived.Maps.Views
namespace Go.Proofs.Ytkikjneamjmdlaa
set_option linter.unusedVariables false
set_option linter.unusedSimpArgs false
open Go.RowKit Go.Maps Go.WideMaps

theorem owns_below {H : Type} {P : Program} {k : TypeId} {R : Value → Option (DataW H × List MemPlace)} {w w' : World} {b n B : Nat} {D : DataW H} (h : w.ownsMap P k R b n D) (hb : Below B w w') (hB : b < B) : w'.ownsMap P k R b n D := by
  obtain ⟨es, clock, h1, r⟩ := h
  exact ⟨es, clock, (hb.block b hB).trans h1, r⟩
theorem grown_cell {w w' : World} {b : Nat} (h : w.grownBy w' (some b)) {p : Addr} (hp : p.block < w.heap.size) (hne : p.block ≠ b) : w'.cell? p = w.cell? p :=
  World.cell?_of_block (w := w) (h.block p.block hp (fun e => hne (by injection e)))

/-- The program's way to say it. -/
def chanP (S R H : Ms) : Bool := allB (sent1 msgB S.f S.m S.g) S.n && decide ((S.n : Int) ≤ 30) && allB (si S.f S.m S.g S.n R.f R.m R.g) R.n && allB (si R.f R.m R.g R.n H.f H.m H.g) H.n
theorem chan_eq (S R H : Ms) : chanP S R H = chanB S R H := by
  unfold chanP chanB
  cases h1 : allB (sent1 msgB S.f S.m S.g) S.n with
  | false => simp
  | true =>
    have hu := sent_uniq h1
    rw [some_eq hu R.n]
    cases h2 : allB (wi S.f S.m S.g S.n R.f R.m R.g) R.n with
    | false => simp
    | true => rw [some_eq (within_uniq hu h2) H.n]
/-- What the map says behind k messages. -/
def cntD (D : DataW Unit) (f : Nat → ByteArray) (k : Nat) : Prop := ∀ s : ByteArray, D.atKey (.string s.data.toList) (.lit (.int .i64 0)) = .lit (.int .i64 (cntF (nm f s) k : Nat))
theorem cntD_step {D : DataW Unit} {f : Nat → ByteArray} {k : Nat} {s : ByteArray} {v : Int} (h : cntD D f k) (hm : IsMap D) (hk : WideAt.IsKeyLit (.string s.data.toList)) (hs : s = f k) (hv : v = (cntF (nm f s) k : Nat) + 1) : cntD (D.put (.string s.data.toList) (.lit (.int .i64 v))) f (k + 1) := by
  intro t
  by_cases e : t = s
  · subst e
    rw [atKey_put_same hm hk, hv]
    simp [cntF, nm, ← hs]
  · rw [atKey_put_other (fun h => e (WideShapes.bytes_inj (by injection h))), h t]
    have : ¬ f k = t := fun h => e (by rw [hs, h])
    simp [cntF, nm, this]

theorem areSome_at {f : Nat → ByteArray} {m : Nat → Int} {g : Nat → ByteArray} {n : Nat} {fS : Nat → ByteArray} {mS : Nat → Int} {gS : Nat → ByteArray} {nS : Nat} {q : Bool} (hq : allB (si fS mS gS nS f m g) n = q) (lo hi : Nat) (v u : Value) (w : World)
    (hv : Sl w lo hi 3 v n (sisC f m g)) (hu : Sl w lo hi 3 u nS (sisC fS mS gS)) (hhi : hi ≤ w.heap.size) (hn : n ≤ 4611686018427387904) (hnS : nS ≤ 4611686018427387904) :
    Calls Try.prog 30 #[v, u] w fun e w' => e = .returned (.bool q) ∧ Below w.heap.size w w' := hq ▸ areSome_any f m g n fS mS gS nS lo hi v u w hv hu hhi hn hnS
theorem lawS : Keyed Try.prog 9 := string_keyed Try.underlying9
theorem zeroI (w : World) : (zeroValue 3).run Try.prog w = .ok (.int .i64 0) w := by kernel_rfl
set_option maxRecDepth 100000 in
set_option maxHeartbeats 3200000 in
theorem isChannel_any (S R H : Ms) (lo hi pb : Nat) (vS vR vH : Value) (w : World) (hS : Sl w lo hi 3 vS S.n S.c) (hR : Sl w lo hi 3 vR R.n R.c) (hH : Sl w lo hi 3 vH H.n H.c) (hhi : hi ≤ w.heap.size) (fS : S.fits) (fR : R.fits) (fH : H.fits)
    (hp : pb < w.heap.size) (p0 : w.cell? ⟨pb, 0, none⟩ = some vS) (p1 : w.cell? ⟨pb, 1, none⟩ = some vR) (p2 : w.cell? ⟨pb, 2, none⟩ = some vH) :
    Calls Try.prog 17 #[.pointer (some ⟨pb, 0, none⟩)] w fun e w' => e = .returned (.bool (chanB S R H)) ∧ Below w.heap.size w w' := by
  rw [← chan_eq]
  obtain ⟨A, cap, rfl, hcap, hA⟩ := hS.open_
  have hn := fS.1
  have hsz := fS.2
  clear hS
  have hmm := @run_makeMap Try.prog
  go_enter Try.func17, Try.ntmps17
  go_wp2_with fail
  go_loopw [12] (fun i wr => ∃ (k : Nat) (D : DataW Unit), k ≤ S.n ∧ i = .int .i64 k ∧ Hid (∀ j, j < k → sent1 msgB S.f S.m S.g j = true) ∧ Hid (cntD D S.f k) ∧ Hid (wr.ownsMap Try.prog 9 (plainElem Try.prog 3) w.heap.size k D) ∧ Below w.heap.size w wr) (fun i _ => S.n - (intOf i).toNat)
  case atStart => exact ⟨0, .map [], by omega, rfl, fun j hj => by omega, fun s => rfl, World.ownsMap_made _ _ _ _, (Below.refl _ _).alloc (Nat.le_refl _) _⟩
  case round =>
    obtain ⟨k, D, hk, rfl, hj, hD, hown, hb⟩ := hrel
    have hzr := hb.size
    have lm := hown.out.lt
    have q0 := (hb.cell (p := ⟨pb, 0, none⟩) hp).trans p0
    have q1 := (hb.cell (p := ⟨pb, 1, none⟩) hp).trans p1
    have q2 := (hb.cell (p := ⟨pb, 2, none⟩) hp).trans p2
    by_cases hkn : k < S.n
    · obtain ⟨blk, off, rfl, h1, h2, h3⟩ := (hA.below hb (by omega)) (by omega)
      have c0 : wr.cell? ⟨blk, off + k * 3, none⟩ = some (.string (S.f k)) := h3 k 0 hkn (by omega)
      have c1 : wr.cell? ⟨blk, off + k * 3 + 1, none⟩ = some (.int .i64 (S.m k)) := h3 k 1 hkn (by omega)
      have c2 : wr.cell? ⟨blk, off + k * 3 + 2, none⟩ = some (.string (S.g k)) := h3 k 2 hkn (by omega)
      clear h3
      obtain ⟨z1, z2⟩ := hsz k hkn
      have l3 : blk < wr.heap.size := by omega
      have hle := cntF_le (nm S.f (S.f k)) k
      have hkey : keyOf Try.prog 9 (.string (S.f k)) = some (.string (S.f k).data.toList) := keyOf_string_mk Try.underlying9 z1
      have hown1 := (hown.out).alloc (.cells #[.string (S.f k), .int .i64 (S.m k), .string (S.g k)] 40)
      obtain ⟨c, hrun, hat, hwc⟩ := hown1.lookup_int lawS Try.underlying55 Try.underlying3 (zeroI _) hkey
      obtain rfl : c = ((cntF (nm S.f (S.f k)) k : Nat) : Int) := by
        have := hat.symm.trans (hD.out (S.f k))
        injection this with h; injection h
      clear hat hwc
      have hkM : k < maxLen := by unfold maxLen; omega
      have hwf : (Lit.int .i64 (((cntF (nm S.f (S.f k)) k : Nat) : Int) + 1)).wf = true := by
        simp only [Lit.wf, Bool.and_eq_true, decide_eq_true_eq]
        exact ⟨by show (-9223372036854775808 : Int) ≤ _; omega, by show _ ≤ (9223372036854775807 : Int); omega⟩
      go_wp2_with (first
        | (at_mapUpdate; refine wpList_mapUpdate_own _ rfl _ _ _ 55 rfl 9 3 lawS Try.underlying55 _ w.heap.size k _ rfl hown1 hkM _ _ _ rfl rfl hkey _ [] (plainElem_int Try.underlying3 hwf) ?_))
      intro w1 hown2 hgrow
      have hb1 : Below w.heap.size w w1 := (hb.alloc (by omega) _).grown hgrow (by simp; omega) (fun j hj => by cases hj; exact Nat.le_refl _)
      have hz1 : wr.heap.size + 1 ≤ w1.heap.size := by have := hgrow.size; simp at this; omega
      have hD1 : Hid (cntD _ S.f (k + 1)) := cntD_step hD.out hown1.isMap (lawS.key hkey) rfl rfl
      have x0 := (grown_cell hgrow (p := ⟨wr.heap.size, 0, none⟩) (by simp) (by simp; omega)).trans (World.cell?_alloc_new _ _ _ _)
      have x1 := (grown_cell hgrow (p := ⟨wr.heap.size, 1, none⟩) (by simp) (by simp; omega)).trans (World.cell?_alloc_new _ _ _ _)
      have x2 := (grown_cell hgrow (p := ⟨wr.heap.size, 2, none⟩) (by simp) (by simp; omega)).trans (World.cell?_alloc_new _ _ _ _)
      simp at x0 x1 x2
      clear hown1 hgrow hrun hown hD
      cases e1 : msgB (S.f k) (S.m k) (S.g k) with
      | false =>
        have HF : Hid (chanP S R H = false) := by
          show chanP S R H = false
          rw [chanP, allB_false hkn (by simp [sent1, e1])]; rfl
        go_wp2_with fail
        refine (isMessage_any _ _ _ _ z1 z2).mono ?_
        rintro e w2 ⟨rfl, hb2⟩
        rw [e1]
        have hz2 := hb2.size
        go_wp2_with fail
        go_ret
        exact ⟨ret_bool HF.out.symm, (by repeat (first | (with_reducible exact Below.refl _ _) | (with_reducible refine below_ov ?_ ?_) | (with_reducible refine Below.setCell ?_ ?_ _) | (with_reducible refine Below.alloc ?_ ?_ _) | (with_reducible refine Below.drew ?_) | (with_reducible refine below_drewN ?_ _) | (refine Below.trans ?_ (Below.mono ‹Below _ _ _› (by first | omega | (simp; done) | (simp; omega)))) | exact Below.refl _ _ | omega | (focus (simp; done)) | (focus (simp; omega))))⟩
      | true =>
        go_wp2_with fail
        refine (isMessage_any _ _ _ _ z1 z2).mono ?_
        rintro e w2 ⟨rfl, hb2⟩
        rw [e1]
        have hz2 := hb2.size
        have y0 := (hb2.cell (p := ⟨wr.heap.size, 0, none⟩) (by show wr.heap.size < w1.heap.size; omega)).trans x0
        have y1 := (hb2.cell (p := ⟨wr.heap.size, 1, none⟩) (by show wr.heap.size < w1.heap.size; omega)).trans x1
        have y2 := (hb2.cell (p := ⟨wr.heap.size, 2, none⟩) (by show wr.heap.size < w1.heap.size; omega)).trans x2
        have hown3 : Hid (w2.ownsMap Try.prog 9 (plainElem Try.prog 3) w.heap.size (k + 1) _) := owns_below hown2 hb2 (by omega)
        obtain ⟨c, hrun, hat, hwc⟩ := hown3.out.lookup_int lawS Try.underlying55 Try.underlying3 (zeroI _) hkey
        obtain rfl : c = ((cntF (nm S.f (S.f k)) k : Nat) : Int) + 1 := by
          have hk1 : cntF (nm S.f (S.f k)) (k + 1) = cntF (nm S.f (S.f k)) k + 1 := by simp only [cntF, nm, decide_true, if_true]
          have hz := hD1.out (S.f k)
          rw [hk1, hat] at hz
          simp only [DataW.lit.injEq, Lit.int.injEq, true_and] at hz
          rw [hz]; exact Int.natCast_succ _
        clear hat hwc hown2
        cases e2 : (S.m k != ((cntF (nm S.f (S.f k)) k : Nat) : Int) + 1) with
        | true =>
          have HF : Hid (chanP S R H = false) := by
            show chanP S R H = false
            rw [chanP, allB_false hkn (by rw [bne_iff_ne] at e2; simp [sent1, e1, e2])]; rfl
          go_wp2_with fail
          go_ret
          exact ⟨ret_bool HF.out.symm, (by repeat (first | (with_reducible exact Below.refl _ _) | (with_reducible refine below_ov ?_ ?_) | (with_reducible refine Below.setCell ?_ ?_ _) | (with_reducible refine Below.alloc ?_ ?_ _) | (with_reducible refine Below.drew ?_) | (with_reducible refine below_drewN ?_ _) | (refine Below.trans ?_ (Below.mono ‹Below _ _ _› (by first | omega | (simp; done) | (simp; omega)))) | exact Below.refl _ _ | omega | (focus (simp; done)) | (focus (simp; omega))))⟩
        | false =>
          have HG : Hid (sent1 msgB S.f S.m S.g k = true) := by
            show sent1 msgB S.f S.m S.g k = true
            simp only [bne_eq_false_iff_eq] at e2; simp [sent1, e1, ← e2]
          go_wp2_with fail
          go_roundw
          case rel => exact ⟨k + 1, _, by omega, by go_num, upto_snoc hj.out HG.out, hD1, hown3, (by repeat (first | (with_reducible exact Below.refl _ _) | (with_reducible refine below_ov ?_ ?_) | (with_reducible refine Below.setCell ?_ ?_ _) | (with_reducible refine Below.alloc ?_ ?_ _) | (with_reducible refine Below.drew ?_) | (with_reducible refine below_drewN ?_ _) | (refine Below.trans ?_ (Below.mono ‹Below _ _ _› (by first | omega | (simp; done) | (simp; omega)))) | exact Below.refl _ _ | omega | (focus (simp; done)) | (focus (simp; omega))))⟩
          case measure => simp [intOf]; omega
    · obtain rfl : k = S.n := by omega
      have HS := hide (allB_iff.2 hj.out)
      have lp : pb < wr.heap.size := by omega
      have hu : Sl w lo hi 3 (.slice A S.n cap) S.n S.c := SlA.shut hA hcap
      clear hown hD
      cases e30 : decide ((S.n : Int) ≤ 30) with
      | false =>
        have HF : Hid (chanP S R H = false) := by
          show chanP S R H = false
          rw [chanP, HS.out, e30]; rfl
        have h30 := of_decide_eq_false e30
        go_wp2_with fail
        (refine wp_region_below_lit (by kernel_rfl) (by kernel_rfl) ?_; (repeat (first | go_big_quiet_step (fail) | quiet_step (fail))); refine wpQuiet_nil ?_; intro w2 hb2; have hz2 := hb2.size; (try (simp at hz2)); obtain ⟨hcw2, hfw2⟩ := bcell hb2; (try (have hy2 : w.heap.size < w2.heap.size := by omega)); (try (have hyy2 : w.heap.size + 1 < w2.heap.size := by omega)))
        go_wp2
        go_ret
        exact ⟨ret_bool HF.out.symm, (by repeat (first | (with_reducible exact Below.refl _ _) | (with_reducible refine below_ov ?_ ?_) | (with_reducible refine Below.setCell ?_ ?_ _) | (with_reducible refine Below.alloc ?_ ?_ _) | (with_reducible refine Below.drew ?_) | (with_reducible refine below_drewN ?_ _) | (refine Below.trans ?_ (Below.mono ‹Below _ _ _› (by first | omega | (simp; done) | (simp; omega)))) | exact Below.refl _ _ | omega | (focus (simp; done)) | (focus (simp; omega))))⟩
      | true =>
        have h30 := of_decide_eq_true e30
        cases e31 : allB (si S.f S.m S.g S.n R.f R.m R.g) R.n with
        | false =>
          have HF : Hid (chanP S R H = false) := by
            show chanP S R H = false
            rw [chanP, e31]; simp
          go_wp2_with fail
          (refine wp_region_below_lit (by kernel_rfl) (by kernel_rfl) ?_; (repeat (first | go_big_quiet_step ((go_at_call 30; exact quiet_ov ((areSome_at e31 lo hi _ _ _ (hR.below (B := w.heap.size) (by repeat (first | (with_reducible exact Below.refl _ _) | (with_reducible refine below_ov ?_ ?_) | (with_reducible refine Below.setCell ?_ ?_ _) | (with_reducible refine Below.alloc ?_ ?_ _) | (with_reducible refine Below.drew ?_) | (with_reducible refine below_drewN ?_ _) | (refine Below.trans ?_ (Below.mono ‹Below _ _ _› (by first | omega | (simp; done) | (simp; omega)))) | exact Below.refl _ _ | omega | (focus (simp; done)) | (focus (simp; omega)))) hhi) (hu.below (B := w.heap.size) (by repeat (first | (with_reducible exact Below.refl _ _) | (with_reducible refine below_ov ?_ ?_) | (with_reducible refine Below.setCell ?_ ?_ _) | (with_reducible refine Below.alloc ?_ ?_ _) | (with_reducible refine Below.drew ?_) | (with_reducible refine below_drewN ?_ _) | (refine Below.trans ?_ (Below.mono ‹Below _ _ _› (by first | omega | (simp; done) | (simp; omega)))) | exact Below.refl _ _ | omega | (focus (simp; done)) | (focus (simp; omega)))) hhi) (by simp [ov]; omega) (by have := fR.1; omega) (by omega))))) | quiet_step ((go_at_call 30; exact quiet_ov ((areSome_at e31 lo hi _ _ _ (hR.below (B := w.heap.size) (by repeat (first | (with_reducible exact Below.refl _ _) | (with_reducible refine below_ov ?_ ?_) | (with_reducible refine Below.setCell ?_ ?_ _) | (with_reducible refine Below.alloc ?_ ?_ _) | (with_reducible refine Below.drew ?_) | (with_reducible refine below_drewN ?_ _) | (refine Below.trans ?_ (Below.mono ‹Below _ _ _› (by first | omega | (simp; done) | (simp; omega)))) | exact Below.refl _ _ | omega | (focus (simp; done)) | (focus (simp; omega)))) hhi) (hu.below (B := w.heap.size) (by repeat (first | (with_reducible exact Below.refl _ _) | (with_reducible refine below_ov ?_ ?_) | (with_reducible refine Below.setCell ?_ ?_ _) | (with_reducible refine Below.alloc ?_ ?_ _) | (with_reducible refine Below.drew ?_) | (with_reducible refine below_drewN ?_ _) | (refine Below.trans ?_ (Below.mono ‹Below _ _ _› (by first | omega | (simp; done) | (simp; omega)))) | exact Below.refl _ _ | omega | (focus (simp; done)) | (focus (simp; omega)))) hhi) (by simp [ov]; omega) (by have := fR.1; omega) (by omega))))))); refine wpQuiet_nil ?_; intro w2 hb2; have hz2 := hb2.size; (try (simp at hz2)); obtain ⟨hcw2, hfw2⟩ := bcell hb2; (try (have hy2 : w.heap.size < w2.heap.size := by omega)); (try (have hyy2 : w.heap.size + 1 < w2.heap.size := by omega)))
          go_wp2
          go_ret
          exact ⟨ret_bool HF.out.symm, (by repeat (first | (with_reducible exact Below.refl _ _) | (with_reducible refine below_ov ?_ ?_) | (with_reducible refine Below.setCell ?_ ?_ _) | (with_reducible refine Below.alloc ?_ ?_ _) | (with_reducible refine Below.drew ?_) | (with_reducible refine below_drewN ?_ _) | (refine Below.trans ?_ (Below.mono ‹Below _ _ _› (by first | omega | (simp; done) | (simp; omega)))) | exact Below.refl _ _ | omega | (focus (simp; done)) | (focus (simp; omega))))⟩
        | true =>
          cases e32 : allB (si R.f R.m R.g R.n H.f H.m H.g) H.n with
          | false =>
            have HF : Hid (chanP S R H = false) := by
              show chanP S R H = false
              rw [chanP, e32]; simp
            go_wp2_with fail
            (refine wp_region_below_lit (by kernel_rfl) (by kernel_rfl) ?_; (repeat (first | go_big_quiet_step ((first | (go_at_call 30; exact quiet_ov ((areSome_at e31 lo hi _ _ _ (hR.below (B := w.heap.size) (by repeat (first | (with_reducible exact Below.refl _ _) | (with_reducible refine below_ov ?_ ?_) | (with_reducible refine Below.setCell ?_ ?_ _) | (with_reducible refine Below.alloc ?_ ?_ _) | (with_reducible refine Below.drew ?_) | (with_reducible refine below_drewN ?_ _) | (refine Below.trans ?_ (Below.mono ‹Below _ _ _› (by first | omega | (simp; done) | (simp; omega)))) | exact Below.refl _ _ | omega | (focus (simp; done)) | (focus (simp; omega)))) hhi) (hu.below (B := w.heap.size) (by repeat (first | (with_reducible exact Below.refl _ _) | (with_reducible refine below_ov ?_ ?_) | (with_reducible refine Below.setCell ?_ ?_ _) | (with_reducible refine Below.alloc ?_ ?_ _) | (with_reducible refine Below.drew ?_) | (with_reducible refine below_drewN ?_ _) | (refine Below.trans ?_ (Below.mono ‹Below _ _ _› (by first | omega | (simp; done) | (simp; omega)))) | exact Below.refl _ _ | omega | (focus (simp; done)) | (focus (simp; omega)))) hhi) (by simp [ov]; omega) (by have := fR.1; omega) (by omega)))) | (go_at_call 30; exact quiet_ov ((areSome_at e32 lo hi _ _ _ (hH.below (B := w.heap.size) (by repeat (first | (with_reducible exact Below.refl _ _) | (with_reducible refine below_ov ?_ ?_) | (with_reducible refine Below.setCell ?_ ?_ _) | (with_reducible refine Below.alloc ?_ ?_ _) | (with_reducible refine Below.drew ?_) | (with_reducible refine below_drewN ?_ _) | (refine Below.trans ?_ (Below.mono ‹Below _ _ _› (by first | omega | (simp; done) | (simp; omega)))) | exact Below.refl _ _ | omega | (focus (simp; done)) | (focus (simp; omega)))) hhi) (hR.below (B := w.heap.size) (by repeat (first | (with_reducible exact Below.refl _ _) | (with_reducible refine below_ov ?_ ?_) | (with_reducible refine Below.setCell ?_ ?_ _) | (with_reducible refine Below.alloc ?_ ?_ _) | (with_reducible refine Below.drew ?_) | (with_reducible refine below_drewN ?_ _) | (refine Below.trans ?_ (Below.mono ‹Below _ _ _› (by first | omega | (simp; done) | (simp; omega)))) | exact Below.refl _ _ | omega | (focus (simp; done)) | (focus (simp; omega)))) hhi) (by simp [ov]; omega) (by have := fH.1; omega) (by have := fR.1; omega)))))) | quiet_step ((first | (go_at_call 30; exact quiet_ov ((areSome_at e31 lo hi _ _ _ (hR.below (B := w.heap.size) (by repeat (first | (with_reducible exact Below.refl _ _) | (with_reducible refine below_ov ?_ ?_) | (with_reducible refine Below.setCell ?_ ?_ _) | (with_reducible refine Below.alloc ?_ ?_ _) | (with_reducible refine Below.drew ?_) | (with_reducible refine below_drewN ?_ _) | (refine Below.trans ?_ (Below.mono ‹Below _ _ _› (by first | omega | (simp; done) | (simp; omega)))) | exact Below.refl _ _ | omega | (focus (simp; done)) | (focus (simp; omega)))) hhi) (hu.below (B := w.heap.size) (by repeat (first | (with_reducible exact Below.refl _ _) | (with_reducible refine below_ov ?_ ?_) | (with_reducible refine Below.setCell ?_ ?_ _) | (with_reducible refine Below.alloc ?_ ?_ _) | (with_reducible refine Below.drew ?_) | (with_reducible refine below_drewN ?_ _) | (refine Below.trans ?_ (Below.mono ‹Below _ _ _› (by first | omega | (simp; done) | (simp; omega)))) | exact Below.refl _ _ | omega | (focus (simp; done)) | (focus (simp; omega)))) hhi) (by simp [ov]; omega) (by have := fR.1; omega) (by omega)))) | (go_at_call 30; exact quiet_ov ((areSome_at e32 lo hi _ _ _ (hH.below (B := w.heap.size) (by repeat (first | (with_reducible exact Below.refl _ _) | (with_reducible refine below_ov ?_ ?_) | (with_reducible refine Below.setCell ?_ ?_ _) | (with_reducible refine Below.alloc ?_ ?_ _) | (with_reducible refine Below.drew ?_) | (with_reducible refine below_drewN ?_ _) | (refine Below.trans ?_ (Below.mono ‹Below _ _ _› (by first | omega | (simp; done) | (simp; omega)))) | exact Below.refl _ _ | omega | (focus (simp; done)) | (focus (simp; omega)))) hhi) (hR.below (B := w.heap.size) (by repeat (first | (with_reducible exact Below.refl _ _) | (with_reducible refine below_ov ?_ ?_) | (with_reducible refine Below.setCell ?_ ?_ _) | (with_reducible refine Below.alloc ?_ ?_ _) | (with_reducible refine Below.drew ?_) | (with_reducible refine below_drewN ?_ _) | (refine Below.trans ?_ (Below.mono ‹Below _ _ _› (by first | omega | (simp; done) | (simp; omega)))) | exact Below.refl _ _ | omega | (focus (simp; done)) | (focus (simp; omega)))) hhi) (by simp [ov]; omega) (by have := fH.1; omega) (by have := fR.1; omega)))))))); refine wpQuiet_nil ?_; intro w2 hb2; have hz2 := hb2.size; (try (simp at hz2)); obtain ⟨hcw2, hfw2⟩ := bcell hb2; (try (have hy2 : w.heap.size < w2.heap.size := by omega)); (try (have hyy2 : w.heap.size + 1 < w2.heap.size := by omega)))
            go_wp2
            go_ret
            exact ⟨ret_bool HF.out.symm, (by repeat (first | (with_reducible exact Below.refl _ _) | (with_reducible refine below_ov ?_ ?_) | (with_reducible refine Below.setCell ?_ ?_ _) | (with_reducible refine Below.alloc ?_ ?_ _) | (with_reducible refine Below.drew ?_) | (with_reducible refine below_drewN ?_ _) | (refine Below.trans ?_ (Below.mono ‹Below _ _ _› (by first | omega | (simp; done) | (simp; omega)))) | exact Below.refl _ _ | omega | (focus (simp; done)) | (focus (simp; omega))))⟩
          | true =>
            have HF : Hid (chanP S R H = true) := by
              show chanP S R H = true
              rw [chanP, HS.out, e30, e31, e32]; rfl
            go_wp2_with fail
            (refine wp_region_below_lit (by kernel_rfl) (by kernel_rfl) ?_; (repeat (first | go_big_quiet_step ((first | (go_at_call 30; exact quiet_ov ((areSome_at e31 lo hi _ _ _ (hR.below (B := w.heap.size) (by repeat (first | (with_reducible exact Below.refl _ _) | (with_reducible refine below_ov ?_ ?_) | (with_reducible refine Below.setCell ?_ ?_ _) | (with_reducible refine Below.alloc ?_ ?_ _) | (with_reducible refine Below.drew ?_) | (with_reducible refine below_drewN ?_ _) | (refine Below.trans ?_ (Below.mono ‹Below _ _ _› (by first | omega | (simp; done) | (simp; omega)))) | exact Below.refl _ _ | omega | (focus (simp; done)) | (focus (simp; omega)))) hhi) (hu.below (B := w.heap.size) (by repeat (first | (with_reducible exact Below.refl _ _) | (with_reducible refine below_ov ?_ ?_) | (with_reducible refine Below.setCell ?_ ?_ _) | (with_reducible refine Below.alloc ?_ ?_ _) | (with_reducible refine Below.drew ?_) | (with_reducible refine below_drewN ?_ _) | (refine Below.trans ?_ (Below.mono ‹Below _ _ _› (by first | omega | (simp; done) | (simp; omega)))) | exact Below.refl _ _ | omega | (focus (simp; done)) | (focus (simp; omega)))) hhi) (by simp [ov]; omega) (by have := fR.1; omega) (by omega)))) | (go_at_call 30; exact quiet_ov ((areSome_at e32 lo hi _ _ _ (hH.below (B := w.heap.size) (by repeat (first | (with_reducible exact Below.refl _ _) | (with_reducible refine below_ov ?_ ?_) | (with_reducible refine Below.setCell ?_ ?_ _) | (with_reducible refine Below.alloc ?_ ?_ _) | (with_reducible refine Below.drew ?_) | (with_reducible refine below_drewN ?_ _) | (refine Below.trans ?_ (Below.mono ‹Below _ _ _› (by first | omega | (simp; done) | (simp; omega)))) | exact Below.refl _ _ | omega | (focus (simp; done)) | (focus (simp; omega)))) hhi) (hR.below (B := w.heap.size) (by repeat (first | (with_reducible exact Below.refl _ _) | (with_reducible refine below_ov ?_ ?_) | (with_reducible refine Below.setCell ?_ ?_ _) | (with_reducible refine Below.alloc ?_ ?_ _) | (with_reducible refine Below.drew ?_) | (with_reducible refine below_drewN ?_ _) | (refine Below.trans ?_ (Below.mono ‹Below _ _ _› (by first | omega | (simp; done) | (simp; omega)))) | exact Below.refl _ _ | omega | (focus (simp; done)) | (focus (simp; omega)))) hhi) (by simp [ov]; omega) (by have := fH.1; omega) (by have := fR.1; omega)))))) | quiet_step ((first | (go_at_call 30; exact quiet_ov ((areSome_at e31 lo hi _ _ _ (hR.below (B := w.heap.size) (by repeat (first | (with_reducible exact Below.refl _ _) | (with_reducible refine below_ov ?_ ?_) | (with_reducible refine Below.setCell ?_ ?_ _) | (with_reducible refine Below.alloc ?_ ?_ _) | (with_reducible refine Below.drew ?_) | (with_reducible refine below_drewN ?_ _) | (refine Below.trans ?_ (Below.mono ‹Below _ _ _› (by first | omega | (simp; done) | (simp; omega)))) | exact Below.refl _ _ | omega | (focus (simp; done)) | (focus (simp; omega)))) hhi) (hu.below (B := w.heap.size) (by repeat (first | (with_reducible exact Below.refl _ _) | (with_reducible refine below_ov ?_ ?_) | (with_reducible refine Below.setCell ?_ ?_ _) | (with_reducible refine Below.alloc ?_ ?_ _) | (with_reducible refine Below.drew ?_) | (with_reducible refine below_drewN ?_ _) | (refine Below.trans ?_ (Below.mono ‹Below _ _ _› (by first | omega | (simp; done) | (simp; omega)))) | exact Below.refl _ _ | omega | (focus (simp; done)) | (focus (simp; omega)))) hhi) (by simp [ov]; omega) (by have := fR.1; omega) (by omega)))) | (go_at_call 30; exact quiet_ov ((areSome_at e32 lo hi _ _ _ (hH.below (B := w.heap.size) (by repeat (first | (with_reducible exact Below.refl _ _) | (with_reducible refine below_ov ?_ ?_) | (with_reducible refine Below.setCell ?_ ?_ _) | (with_reducible refine Below.alloc ?_ ?_ _) | (with_reducible refine Below.drew ?_) | (with_reducible refine below_drewN ?_ _) | (refine Below.trans ?_ (Below.mono ‹Below _ _ _› (by first | omega | (simp; done) | (simp; omega)))) | exact Below.refl _ _ | omega | (focus (simp; done)) | (focus (simp; omega)))) hhi) (hR.below (B := w.heap.size) (by repeat (first | (with_reducible exact Below.refl _ _) | (with_reducible refine below_ov ?_ ?_) | (with_reducible refine Below.setCell ?_ ?_ _) | (with_reducible refine Below.alloc ?_ ?_ _) | (with_reducible refine Below.drew ?_) | (with_reducible refine below_drewN ?_ _) | (refine Below.trans ?_ (Below.mono ‹Below _ _ _› (by first | omega | (simp; done) | (simp; omega)))) | exact Below.refl _ _ | omega | (focus (simp; done)) | (focus (simp; omega)))) hhi) (by simp [ov]; omega) (by have := fH.1; omega) (by have := fR.1; omega)))))))); refine wpQuiet_nil ?_; intro w2 hb2; have hz2 := hb2.size; (try (simp at hz2)); obtain ⟨hcw2, hfw2⟩ := bcell hb2; (try (have hy2 : w.heap.size < w2.heap.size := by omega)); (try (have hyy2 : w.heap.size + 1 < w2.heap.size := by omega)))
            go_wp2
            go_ret
            exact ⟨ret_bool HF.out.symm, (by repeat (first | (with_reducible exact Below.refl _ _) | (with_reducible refine below_ov ?_ ?_) | (with_reducible refine Below.setCell ?_ ?_ _) | (with_reducible refine Below.alloc ?_ ?_ _) | (with_reducible refine Below.drew ?_) | (with_reducible refine below_drewN ?_ _) | (refine Below.trans ?_ (Below.mono ‹Below _ _ _› (by first | omega | (simp; done) | (simp; omega)))) | exact Below.refl _ _ | omega | (focus (simp; done)) | (focus (simp; omega))))⟩

end Go.Proofs.Ytkikjneamjmdlaa
