/-
  Walks: the laws' marks in a board of the call's own.
-/
import Derived.Test.YtpakjmiallhgnaaPMark
import Derived.Test.YtpakjmiallhgnaaMCheck
namespace Go.Proofs.Ytpakjmiallhgnaa
set_option linter.unusedVariables false
set_option linter.unusedSimpArgs false
open Go.RowKit

theorem OwnX.marked {w W w' : World} {g n cap k : Nat} {q : Int} {β : Nat → Nat} {ck : Nat → Value} {T : Nat → Tm} (ho : OwnX w g β ck (.slice (some ⟨g, 0, none⟩) n cap) n (mixTS q T k)) (hkn : k < n)
    (hs : OwnL W g (g + 1) 40 4 (.slice (some ⟨g, 0, none⟩) n cap) n (n * 4) (fun p => if p = k * 4 + 2 then .int .i64 (mkQ q T k + 1 + 1) else if p = k * 4 + 1 then .int .i64 (mkQ q T k + 1) else if p = k * 4 then .string (mT (mkQ q T k)) else tC (mixTS q T k) ck (p / 4) (p % 4)))
    (hblk : ∀ b, b < w.heap.size → b ≠ g → W.heap[b]? = w.heap[b]?) (hW : w.heap.size ≤ W.heap.size) (hg : g < w.heap.size) (hβ : ∀ i, i < n → β i < w.heap.size)
    (om : OwnL w' (β k) (β k + 1) 47 2 (ck k) (T k).n ((T k).n * 2) (mkCheck (mkQ q T k + 1 + 1 + 1))) (hO : Only (β k) (β k + 1) W w') : OwnX w' g β ck (.slice (some ⟨g, 0, none⟩) n cap) n (mixTS q T (k + 1)) where
  own := by
    have h1 : OwnL w' g (g + 1) 40 4 (.slice (some ⟨g, 0, none⟩) n cap) n (n * 4) _ := hs.keep1 (hO.block g (by omega) (by have := ho.ne k hkn; omega))
    refine h1.congr fun o ho' => ?_
    obtain ⟨i, j, hj, rfl⟩ : ∃ i j, j < 4 ∧ o = i * 4 + j := ⟨o / 4, o % 4, by omega, by omega⟩
    have e1 : (i * 4 + j) / 4 = i := by omega
    have e2 : (i * 4 + j) % 4 = j := by omega
    rw [e1, e2]
    rcases Nat.lt_trichotomy i k with h | h | h
    · have a1 : ¬ (i * 4 + j = k * 4 + 2) := by omega
      have a2 : ¬ (i * 4 + j = k * 4 + 1) := by omega
      have a3 : ¬ (i * 4 + j = k * 4) := by omega
      have a4 : i < k + 1 := by omega
      simp only [a1, a2, a3, if_false, tC, mixTS, h, a4, if_true]
    · subst h
      have a4 : i < i + 1 := by omega
      match j, hj with
      | 0, _ => simp [tC, mixTS, mkTS, mkTm, a4]
      | 1, _ => simp [tC, mixTS, mkTS, mkTm, a4]
      | 2, _ => simp [tC, mixTS, mkTS, mkTm, a4]; omega
      | 3, _ => simp [tC, mixTS, mkTS, mkTm, a4]
    · have a1 : ¬ (i * 4 + j = k * 4 + 2) := by omega
      have a2 : ¬ (i * 4 + j = k * 4 + 1) := by omega
      have a3 : ¬ (i * 4 + j = k * 4) := by omega
      have a4 : ¬ i < k + 1 := by omega
      have a5 : ¬ i < k := by omega
      simp only [a1, a2, a3, if_false, tC, mixTS, a5, a4]
  sub := fun i hi => by
    by_cases h : i = k
    · subst h
      have e : mixTS q T (i + 1) i = mkTm (mkQ q T i) (T i) := by simp [mixTS, mkTS]
      rw [e]
      refine om.congr fun o _ => ?_
      show mkCheck _ o = iiC (fun j : Nat => mkQ q T i + 3 + (j : Int) * 2) (fun j : Nat => mkQ q T i + 3 + (j : Int) * 2 + 1) (o / 2) (o % 2)
      rcases Nat.mod_two_eq_zero_or_one o with h | h
      · simp only [mkCheck, iiC, h, if_true]
        congr 1
        omega
      · simp only [mkCheck, iiC, h, Nat.one_ne_zero, if_false]
        congr 1
        omega
    · have e : mixTS q T (k + 1) i = mixTS q T k i := by
        have : (i < k + 1) = (i < k) := by simp; omega
        simp only [mixTS, this]
      rw [e]
      refine (ho.sub i hi).keep1 ?_
      have h1 := hβ i hi
      have h2 := ho.ne i hi
      have h3 := ho.inj i k hi hkn h
      rw [hO.block (β i) (by omega) (by omega), hblk _ h1 h2]
  ne := ho.ne
  inj := ho.inj
theorem OwnX.unmix {w : World} {g n : Nat} {q : Int} {v : Value} {β : Nat → Nat} {ck : Nat → Value} {T : Nat → Tm} (ho : OwnX w g β ck v n (mixTS q T n)) : OwnX w g β ck v n (mkTS q T) := ho.congr fun i hi => by simp [mixTS, hi]
set_option maxRecDepth 100000 in
set_option maxHeartbeats 3200000 in
theorem markTeamS_any (q : Int) (T : Nat → Tm) (n lo hi : Nat) (v : Value) (w : World) (hv : OwnT w lo hi v n T) (hhi : hi ≤ w.heap.size) (hn : n ≤ 1048576) (hf : ∀ i, i < n → (T i).n ≤ 1048576) (hq : 0 ≤ q) (hq' : q ≤ 1073741824) :
    Calls Try.prog 15 #[v, .int .i64 q] w fun e w' => e = .returned (.int .i64 (mkQ q T n)) ∧ OwnT w' lo hi v n (mkTS q T) ∧ Only lo hi w w' := by
  obtain ⟨γ, β, ck, hx, hin⟩ := hv
  obtain ⟨A, cap, rfl, hcap, hA⟩ := hx.own.open_
  have HF := hide hf
  go_enter Try.func15, Try.ntmps15
  go_wp2_with fail
  go_loopw [1, 5] (fun c i wr => ∃ k : Nat, k ≤ n ∧ i = .int .i64 k ∧ c = .int .i64 (mkQ q T k) ∧ OwnX wr γ β ck (.slice A n cap) n (mixTS q T k) ∧ Only lo hi w wr) (fun _ i _ => n - (intOf i).toNat)
  case atStart => exact ⟨0, by omega, rfl, rfl, hx.congr (fun i hi => by simp [mixTS]), Only.refl _ _ _⟩
  case round =>
    obtain ⟨k, hk, rfl, rfl, ho, hb⟩ := hrel
    have hzr := hb.size
    have hbd := mkQ_bd (q := q) HF.out k hk
    by_cases hkn : k < n
    · obtain ⟨g, rfl, g1, g2⟩ := hA (by omega)
      obtain rfl : γ = g := by omega
      have hg := hin.1 (by omega)
      have hbk := hin.2 k hkn
      have hne := ho.ne k hkn
      have hkk := HF.out k hkn
      have hsub := ho.sub k hkn
      have hmk : mixTS q T k k = T k := by simp [mixTS]
      rw [hmk] at hsub
      obtain ⟨Ak, cpk, ek, hck, hAk⟩ := hsub.open_
      have EK := hide ek
      have HO := hide ho
      have hHi := hide hin
      have HX := hide hx
      clear hx ek hAk hmk hf hin hA
      go_wp2_with fail
      refine (markText_any _ _ (by omega)).mono ?_
      rintro e w0 ⟨rfl, hb0⟩
      have hz0 := hb0.size
      have ho0 := HO.out.own.below hb0 (by omega)
      obtain ⟨⟨u0, hu0⟩, hf0, _⟩ := ho0.cell (by omega) (o := k * 4) (by omega)
      have hs0 := ho0.set (o := k * 4) (by omega) (.string (mT (mkQ q T k)))
      obtain ⟨⟨u1, hu1⟩, hf1, _⟩ := hs0.cell (by omega) (o := k * 4 + 1) (by omega)
      have hs1 := hs0.set (o := k * 4 + 1) (by omega) (.int .i64 (mkQ q T k + 1))
      obtain ⟨⟨u2, hu2⟩, hf2, _⟩ := hs1.cell (by omega) (o := k * 4 + 2) (by omega)
      have hs2 := hs1.set (o := k * 4 + 2) (by omega) (.int .i64 (mkQ q T k + 1 + 1))
      obtain ⟨_, _, c3⟩ := hs2.cell (by omega) (o := k * 4 + 3) (by omega)
      replace c3 := c3 (by omega)
      have e3 : tC (mixTS q T k) ck ((k * 4 + 3) / 4) ((k * 4 + 3) % 4) = .slice Ak (T k).n cpk := by
        rw [show (k * 4 + 3) / 4 = k by omega, show (k * 4 + 3) % 4 = 3 by omega]
        simp [tC, EK.out]
      simp only [show ¬ (k * 4 + 3 = k * 4 + 2) by omega, show ¬ (k * 4 + 3 = k * 4 + 1) by omega, show ¬ (k * 4 + 3 = k * 4) by omega, if_false] at c3
      rw [e3] at c3
      have hblk : Hid (∀ b, b < wr.heap.size → b ≠ γ → (((w0.setCell ⟨γ, k * 4, none⟩ (.string (mT (mkQ q T k)))).setCell ⟨γ, k * 4 + 1, none⟩ (.int .i64 (mkQ q T k + 1))).setCell ⟨γ, k * 4 + 2, none⟩ (.int .i64 (mkQ q T k + 1 + 1))).heap[b]? = wr.heap[b]?) := fun b h1 h2 =>
        (Deep.blk_setCell_other _ _ _ _ h2).trans ((Deep.blk_setCell_other _ _ _ _ h2).trans ((Deep.blk_setCell_other _ _ _ _ h2).trans (hb0.block b h1)))
      have HS := hide hs2
      have HN := hide hne
      rw [EK.out] at hsub
      have HSub := hide (hsub.keep1 (hblk.out (β k) (by omega) hne))
      clear ho0 hs0 hs1 hs2 e3 hsub hne
      go_wp2_with fail
      refine (markCheckS_any (mkQ q T k + 1 + 1 + 1) (T k).n (β k) (β k + 1) ((T k).n * 2) _ _ _ HSub.out (by simp [World.setCell]; omega) hkk (by omega) (by omega)).mono ?_
      rintro e w3 ⟨rfl, om, hO3⟩
      have hz3 := hO3.size
      have HOM := hide om
      clear om
      go_wp2_with fail
      go_roundw
      case rel => exact ⟨k + 1, by omega, by go_num, by simp only [mkQ]; congr 1; omega, HO.out.marked hkn HS.out hblk.out (by simp [World.setCell]; omega) (by omega) (fun i hi => by have := hHi.out.2 i hi; omega) (EK.out ▸ HOM.out) hO3,
        ((((hb.trans (Only.of_below hb0)).setCell hg.1 hg.2 _).setCell hg.1 hg.2 _).setCell hg.1 hg.2 _).trans (hO3.mono (by omega) (by omega))⟩
      case measure => simp [intOf]; omega
    · obtain rfl : k = n := by omega
      go_wp2_with fail
      go_ret
      exact ⟨rfl, ⟨γ, β, ck, ho.unmix, hin⟩, hb⟩
set_option maxRecDepth 100000 in
set_option maxHeartbeats 1600000 in
theorem markTeam_any (q : Int) (X : Tm) (lo hi : Nat) {K : Nat} {cc : Nat → Value} (u : Value) (w : World) (hu : OwnL w lo hi 47 2 u X.n K cc) (hhi : hi ≤ w.heap.size) (hn : X.n ≤ 1048576) (hq : 0 ≤ q) (hq' : q ≤ 4503599627370496) :
    Calls Try.prog 48 #[.agg #[.string X.s, .int .i64 X.v, .int .i64 X.y, u], .int .i64 q] w fun e w' => e = .returned (.int .i64 (q + (X.n : Int) * 2)) ∧ Only lo hi w w' := by
  obtain ⟨A, c, rfl, _, _⟩ := hu.open_
  have HU := hide (hu.below ((Below.refl w.heap.size w).alloc (Nat.le_refl _) (.cells #[.string X.s, .int .i64 X.v, .int .i64 X.y, .slice A X.n c] 40)) hhi)
  clear hu
  go_enter Try.func48, Try.ntmps48
  go_wp2_with fail
  refine (markCheckS_any q X.n lo hi K _ _ _ HU.out (by simp; omega) hn hq hq').mono ?_
  rintro e w1 ⟨rfl, _, hO⟩
  have hz := hO.size
  go_wp2_with fail
  go_ret
  exact ⟨rfl, (Only.of_below ((Below.refl _ _).alloc (Nat.le_refl _) _)).trans hO⟩
set_option maxRecDepth 100000 in
set_option maxHeartbeats 3200000 in
theorem heldTeamS_same (q : Int) (T : Nat → Tm) (n lo hi : Nat) (v : Value) (w : World) (hv : OwnT w lo hi v n (mkTS q T)) (hhi : hi ≤ w.heap.size) (hn : n ≤ 1048576) (hf : ∀ i, i < n → (T i).n ≤ 1048576) (hq : 0 ≤ q) (hq' : q ≤ 1073741824) :
    Calls Try.prog 16 #[v, .int .i64 q] w fun e w' => e = .returned (.int .i64 (mkQ q T n)) ∧ Below w.heap.size w w' := by
  obtain ⟨γ, β, ck, hx, hin⟩ := hv
  obtain ⟨A, cap, rfl, hcap, hA⟩ := hx.own.open_
  have HX := hide hx
  have HIn := hide hin
  have HF := hide hf
  clear hx hin hf
  go_enter Try.func16, Try.ntmps16
  go_wp2_with fail
  go_loopw [1, 5] (fun c i wr => ∃ k : Nat, k ≤ n ∧ i = .int .i64 k ∧ c = .int .i64 (mkQ q T k) ∧ Below w.heap.size w wr) (fun _ i _ => n - (intOf i).toNat)
  case atStart => exact ⟨0, by omega, rfl, rfl, Below.refl _ _⟩
  case round =>
    obtain ⟨k, hk, rfl, rfl, hb⟩ := hrel
    have hzr := hb.size
    have hbd := mkQ_bd (q := q) HF.out k hk
    by_cases hkn : k < n
    · obtain ⟨g, rfl, g1, g2⟩ := hA (by omega)
      obtain rfl : γ = g := by omega
      have hg := HIn.out.1 (by omega)
      have hbk := HIn.out.2 k hkn
      have hkk := HF.out k hkn
      have ho := HX.out.own.below hb (by omega)
      have l0 : γ < wr.heap.size := by omega
      have hsub := HX.out.sub k hkn
      obtain ⟨Ak, cpk, ek, _, _⟩ := hsub.open_
      have cc : ∀ j, j < 4 → wr.cell? ⟨γ, k * 4 + j, none⟩ = some (tC (mkTS q T) ck k j) := fun j hj => by
        obtain ⟨_, _, c⟩ := ho.cell (by omega) (o := k * 4 + j) (by omega)
        have := c (by omega)
        rw [show (k * 4 + j) / 4 = k by omega, show (k * 4 + j) % 4 = j by omega] at this
        exact this
      have c0 : wr.cell? ⟨γ, k * 4, none⟩ = some (.string (mT (mkQ q T k))) := cc 0 (by omega)
      have c1 : wr.cell? ⟨γ, k * 4 + 1, none⟩ = some (.int .i64 (mkQ q T k + 1)) := cc 1 (by omega)
      have c2 : wr.cell? ⟨γ, k * 4 + 2, none⟩ = some (.int .i64 (mkQ q T k + 1 + 1)) := (cc 2 (by omega)).trans (by simp [tC, mkTS, mkTm]; omega)
      have c3 : wr.cell? ⟨γ, k * 4 + 3, none⟩ = some (.slice Ak (T k).n cpk) := (cc 3 (by omega)).trans (by simp [tC, ek, mkTS, mkTm])
      have HSub : Hid (OwnL w (β k) (β k + 1) 47 2 (.slice Ak (T k).n cpk) (T k).n ((T k).n * 2) (mkCheck (mkQ q T k + 1 + 1 + 1))) := by
        show OwnL _ _ _ _ _ _ _ _ _
        rw [ek] at hsub
        refine hsub.congr fun o _ => ?_
        show iiC (fun j : Nat => mkQ q T k + 3 + (j : Int) * 2) (fun j : Nat => mkQ q T k + 3 + (j : Int) * 2 + 1) (o / 2) (o % 2) = mkCheck _ o
        rcases Nat.mod_two_eq_zero_or_one o with h | h
        · simp only [mkCheck, iiC, h, if_true]
          congr 1
          omega
        · simp only [mkCheck, iiC, h, Nat.one_ne_zero, if_false]
          congr 1
          omega
      have d1 : decide (mkQ q T k + 1 + 1 + 1 + ((T k).n : Int) * 2 < 0) = false := decide_eq_false (by omega)
      clear cc ho hsub ek hA
      go_wp2_with fail
      (refine wp_region_below_lit (by kernel_rfl) (by kernel_rfl) ?_; (repeat (first | go_big_quiet_step ((go_at_call 67; exact quiet_ov (markText_any _ _ (by omega)))) | quiet_step ((go_at_call 67; exact quiet_ov (markText_any _ _ (by omega)))))); refine wpQuiet_nil ?_; intro wa0 hba0; have hza0 := hba0.size; (try (simp at hza0)); obtain ⟨hcwa0, hfwa0⟩ := bcell hba0; (try (have hya0 : w.heap.size < wa0.heap.size := by omega)); (try (have hyya0 : w.heap.size + 1 < wa0.heap.size := by omega)))
      have m0 : γ < wa0.heap.size := by omega
      go_wp2_with fail
      refine (heldCheckS_same (mkQ q T k + 1 + 1 + 1) (T k).n (β k) (β k + 1) _ _ (HSub.out.below (B := w.heap.size) (by repeat (first | (with_reducible exact Below.refl _ _) | (with_reducible refine below_ov ?_ ?_) | (with_reducible refine Below.setCell ?_ ?_ _) | (with_reducible refine Below.alloc ?_ ?_ _) | (with_reducible refine Below.drew ?_) | (with_reducible refine below_drewN ?_ _) | (refine Below.trans ?_ (Below.mono ‹Below _ _ _› (by first | omega | (simp; done) | (simp; omega)))) | exact Below.refl _ _ | omega | (focus (simp; done)) | (focus (simp; omega)))) (by omega)) (by omega) hkk (by omega) (by omega)).mono ?_
      rintro e w3 ⟨rfl, hb3⟩
      have hz3 := hb3.size
      go_wp2_with fail
      go_roundw
      case rel => exact ⟨k + 1, by omega, by go_num, by simp only [mkQ]; congr 1; omega, (by repeat (first | (with_reducible exact Below.refl _ _) | (with_reducible refine below_ov ?_ ?_) | (with_reducible refine Below.setCell ?_ ?_ _) | (with_reducible refine Below.alloc ?_ ?_ _) | (with_reducible refine Below.drew ?_) | (with_reducible refine below_drewN ?_ _) | (refine Below.trans ?_ (Below.mono ‹Below _ _ _› (by first | omega | (simp; done) | (simp; omega)))) | exact Below.refl _ _ | omega | (focus (simp; done)) | (focus (simp; omega))))⟩
      case measure => simp [intOf]; omega
    · obtain rfl : k = n := by omega
      go_wp2_with fail
      go_ret
      exact ⟨rfl, hb⟩

end Go.Proofs.Ytpakjmiallhgnaa
