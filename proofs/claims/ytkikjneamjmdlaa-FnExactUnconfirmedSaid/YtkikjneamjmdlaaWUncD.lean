/-
  Walks: the messages not heard, the program: the library's deletion; both answers.
-/
import Derived.Test.YtkikjneamjmdlaaWUncI
import Derived.Deep.LoopGhost
namespace Go.Proofs.Ytkikjneamjmdlaa
set_option linter.unusedVariables false
set_option linter.unusedSimpArgs false
open Go.RowKit

def DelRes (S H : Ms) (base : Nat) (w : World) (e : Ending) (w' : World) : Prop :=
  ∃ v', e = .returned v' ∧ Own w' base w'.heap.size 40 3 v' (ucM (ucK S H) S S.n).n (ucM (ucK S H) S S.n).n (ucM (ucK S H) S S.n).c ∧ Below base w w'
set_option maxRecDepth 100000 in
set_option maxHeartbeats 3200000 in
theorem DeleteFuncU_any (S H : Ms) (lo hi cb base : Nat) (v u : Value) (w : World) (hu : w.ownsRow base 40 3 u S.n (rowL S.c 3 S.n)) (hm : S.n ≤ 1048576) (hv : Sl w lo hi 3 v H.n H.c) (hhi : hi ≤ base) (hn : H.n ≤ 1048576) (hc : w.cell? ⟨cb, 2, none⟩ = some v) (lc : cb < base) (hbs : base ≤ w.heap.size) :
    Calls Try.prog 18 #[u, .func (.func 20) #[] #[.pointer (some ⟨cb, 0, none⟩)]] w (DelRes S H base w) := by
  have HU := hide hu
  have HV := hide hv
  have HC := hide hc
  obtain ⟨A, cap, rfl⟩ := row_form hu
  clear hu hc
  rcases fstI_cases (ucH S H) S.n with ⟨h1, h2⟩ | ⟨i0, h1, h2, h3, h4⟩
  · have HI := hide h1
    have hall : ∀ j, j < S.n → ucK S H j = true := fun j hj => by rw [ucK, h2 j hj]; rfl
    have hlen : (ucM (ucK S H) S S.n).n = S.n := (flt_all hall).1
    have HLn := hide hlen
    have HAll : Hid (∀ i j, i < S.n → j < 3 → S.c i j = (ucM (ucK S H) S S.n).c i j) := fun i j hi _ => by
      show _ = sisC _ _ _ i j
      simp only [sisC, ucM, (flt_all hall).2 i hi, Ms.c]
    clear h1 h2 hall hlen
    go_enter Try.func18, Try.ntmps18
    go_wp2_with fail
    refine (IndexFuncU_any S H lo hi cb v base w.heap.size _ w (own_row HU.out).sl (Nat.le_refl _) hm HV.out (by omega) hn HC.out (by omega)).mono ?_
    rintro e w1 ⟨rfl, hb1⟩
    have hz1 := hb1.size
    rw [HI.out]
    go_wp2_with fail
    go_ret
    refine ⟨_, rfl, ?_, hb1.mono hbs⟩
    rw [HLn.out]
    exact ((own_row HU.out).below hb1 (Nat.le_refl _)).mono (Nat.le_refl _) hz1 |>.congr HAll.out
  · have HI := hide h2
    have hk0 : ucK S H i0 = false := by rw [ucK, h3]; rfl
    have hst : ∀ j, j < i0 → ucK S H j = true := fun j hj => by rw [ucK, h4 j hj]; rfl
    have HK0 := hide hk0
    have HSt := hide hst
    obtain ⟨g, hg⟩ : ∃ g, (Value.slice A S.n cap).ownBlock = some g := by
      rcases HU.out.2 with ⟨e1, e2⟩ | ⟨g, c', cur, e1, _⟩
      · omega
      · exact ⟨g, by rw [e1]; rfl⟩
    obtain ⟨g1, g2⟩ := HU.out.lt g hg
    have ho := row_at HU.out (by decide) hg
    obtain ⟨B, capB, eB, hcapB, hB⟩ := id ho.open_
    obtain ⟨g', rfl, g3, g4⟩ := hB (by omega)
    injection eB with e1 _ e3
    subst e1 e3
    obtain rfl : g' = g := by omega
    have hmx := (ho.cap_le (by omega)).2
    unfold maxLen at hmx
    have HO : Hid (OwnL w g' (g' + 1) 40 3 (.slice (some ⟨g', 0, none⟩) S.n cap) S.n (S.n * 3) (ucC (ucK S H) S (i0 + 1))) := ho.congr fun o _ => (ucC_start HSt.out HK0.out o).symm
    have hlen0 : (ucM (ucK S H) S (i0 + 1)).n = i0 := by
      rw [uc_no HK0.out]; exact (flt_all HSt.out).1
    have HL0 := hide hlen0
    clear h2 h3 h4 hk0 hst hg ho hB hlen0
    go_enter Try.func18, Try.ntmps18
    go_wp2_with fail
    refine (IndexFuncU_any S H lo hi cb v base w.heap.size _ w (own_row HU.out).sl (Nat.le_refl _) hm HV.out (by omega) hn HC.out (by omega)).mono ?_
    rintro e w1 ⟨rfl, hb1⟩
    have hz1 := hb1.size
    rw [HI.out]
    have HO1 : Hid (OwnL w1 g' (g' + 1) 40 3 (.slice (some ⟨g', 0, none⟩) S.n cap) S.n (S.n * 3) (ucC (ucK S H) S (i0 + 1))) := HO.out.below hb1 g2
    have HB1 : Hid (Only g' (g' + 1) w w1) := Only.of_below hb1
    clear hb1
    go_wp2_with fail
    go_loopg [5, 6] (S.n + 1) (fun gn i j wr => ∃ k : Nat, i0 < k ∧ k ≤ S.n ∧ S.n - k < gn ∧ i = .int .i64 (ucM (ucK S H) S k).n ∧ j = .int .i64 k ∧ Hid (OwnL wr g' (g' + 1) 40 3 (.slice (some ⟨g', 0, none⟩) S.n cap) S.n (S.n * 3) (ucC (ucK S H) S k)) ∧ Hid (Only g' (g' + 1) w wr))
    case atStart => exact ⟨i0 + 1, by omega, by omega, by omega, by rw [HL0.out], by go_num, HO1.out, HB1.out⟩
    case round =>
      obtain ⟨k, hk0, hk, hgn, rfl, rfl, HR, HB⟩ := hrel
      have hzr := HB.out.size
      have hkl := uc_lt (P := ucK S H) (S := S) h1 HK0.out hk0 hk
      have hkk := uc_lt (P := ucK S H) (S := S) (n := k) (by omega) HK0.out hk0 (Nat.le_refl _)
      by_cases hkn : k < S.n
      · have c0 : wr.cell? ⟨g', k * 3, none⟩ = some (.string (S.f k)) := by
          rw [(HR.out.cell (by omega) (o := k * 3) (by omega)).2.2 (by omega), ucC, if_neg (by omega), show k * 3 / 3 = k by omega, show k * 3 % 3 = 0 by omega]; rfl
        have c1 : wr.cell? ⟨g', k * 3 + 1, none⟩ = some (.int .i64 (S.m k)) := by
          rw [(HR.out.cell (by omega) (o := k * 3 + 1) (by omega)).2.2 (by omega), ucC, if_neg (by omega), show (k * 3 + 1) / 3 = k by omega, show (k * 3 + 1) % 3 = 1 by omega]; rfl
        have c2 : wr.cell? ⟨g', k * 3 + 2, none⟩ = some (.string (S.g k)) := by
          rw [(HR.out.cell (by omega) (o := k * 3 + 2) (by omega)).2.2 (by omega), ucC, if_neg (by omega), show (k * 3 + 2) / 3 = k by omega, show (k * 3 + 2) % 3 = 2 by omega]; rfl
        have lg : g' < wr.heap.size := by omega
        obtain ⟨kp, hkp⟩ : ∃ kp, (ucM (ucK S H) S k).n = kp := ⟨_, rfl⟩
        have HKP := hide hkp
        rw [hkp] at hkl hkk ⊢
        clear hkp
        obtain ⟨tst, htst⟩ : ∃ b, ucH S H k = b := ⟨_, rfl⟩
        have hcb : wr.cell? ⟨cb, 2, none⟩ = some v := (World.cell?_of_block (HB.out.block cb (by omega) (.inl (by omega)))).trans HC.out
        have hbr : Below base w wr := HB.out.below g1 hbs
        have HT := hide htst
        have hcon := unc1_any H (S.f k) (S.m k) (S.g k) tst htst lo hi cb v (wr.alloc (.cells #[.string (S.f k), .int .i64 (S.m k), .string (S.g k)] 40)) (HV.out.below (B := base) (hbr.alloc (by omega) _) hhi) (by simp; omega) hn (Lib.cell?_alloc_some _ hcb) (by simp; omega)
        clear htst hbr hcb
        cases tst with
        | true =>
          have HP : Hid (ucK S H k = false) := by show _ = _; rw [ucK, HT.out]; rfl
          go_wp2_with fail
          refine hcon.mono ?_
          rintro e w2 ⟨rfl, hb2⟩
          have HB2 : Hid (Below wr.heap.size wr w2) := ((Below.refl wr.heap.size wr).alloc (Nat.le_refl _) _).trans (hb2.mono (by simp))
          clear hb2 c0 c1 c2
          go_wp2_with fail
          go_roundg (S.n - k)
          case measure => omega
          case rel => exact ⟨k + 1, by omega, by omega, by omega, by rw [uc_no HP.out, HKP.out], by go_num, (HR.out.below HB2.out (by omega)).congr fun o _ => (ucC_no HP.out o).symm, HB.out.then_below HB2.out⟩
        | false =>
          have HP : Hid (ucK S H k = true) := by show _ = _; rw [ucK, HT.out]; rfl
          go_wp2_with fail
          refine hcon.mono ?_
          rintro e w2 ⟨rfl, hb2⟩
          have hz2 := hb2.size
          simp at hz2
          have m0 : w2.cell? ⟨wr.heap.size, 0, none⟩ = some (.string (S.f k)) := (hb2.cell (p := ⟨wr.heap.size, 0, none⟩) (by simp)).trans (World.cell?_alloc_new _ _ _ _)
          have m1 : w2.cell? ⟨wr.heap.size, 1, none⟩ = some (.int .i64 (S.m k)) := (hb2.cell (p := ⟨wr.heap.size, 1, none⟩) (by simp)).trans (World.cell?_alloc_new _ _ _ _)
          have m2 : w2.cell? ⟨wr.heap.size, 2, none⟩ = some (.string (S.g k)) := (hb2.cell (p := ⟨wr.heap.size, 2, none⟩) (by simp)).trans (World.cell?_alloc_new _ _ _ _)
          have HB2 : Hid (Below wr.heap.size wr w2) := ((Below.refl wr.heap.size wr).alloc (Nat.le_refl _) _).trans (hb2.mono (by simp))
          have HR2 : Hid (OwnL w2 g' (g' + 1) 40 3 (.slice (some ⟨g', 0, none⟩) S.n cap) S.n (S.n * 3) (ucC (ucK S H) S k)) := HR.out.below HB2.out (by omega)
          obtain ⟨⟨u0, hu0⟩, hf0, _⟩ := HR2.out.cell (by omega) (o := kp * 3) (by omega)
          obtain ⟨⟨u1, hu1⟩, hf1, _⟩ := HR2.out.cell (by omega) (o := kp * 3 + 1) (by omega)
          obtain ⟨⟨u2, hu2⟩, hf2, _⟩ := HR2.out.cell (by omega) (o := kp * 3 + 2) (by omega)
          clear hb2 c0 c1 c2
          go_wp2_with fail
          go_roundg (S.n - k)
          case measure => omega
          case rel =>
            refine ⟨k + 1, by omega, by omega, by omega, by rw [ucM_len_yes HP.out, HKP.out]; go_num, by go_num, ?_, (((HB.out.then_below HB2.out).setCell (a := ⟨g', kp * 3, none⟩) (Nat.le_refl _) (Nat.lt_succ_self _) _).setCell (a := ⟨g', kp * 3 + 1, none⟩) (Nat.le_refl _) (Nat.lt_succ_self _) _).setCell (a := ⟨g', kp * 3 + 2, none⟩) (Nat.le_refl _) (Nat.lt_succ_self _) _⟩
            exact (((HR2.out.set (o := kp * 3) (by omega) (.string (S.f k))).set (o := kp * 3 + 1) (by omega) (.int .i64 (S.m k))).set (o := kp * 3 + 2) (by omega) (.string (S.g k))).congr fun o _ => by rw [ucC_yes HP.out, HKP.out]
      · obtain rfl : k = S.n := by omega
        obtain ⟨kp, hkp⟩ : ∃ kp, (ucM (ucK S H) S S.n).n = kp := ⟨_, rfl⟩
        have HKP := hide hkp
        rw [hkp] at hkl ⊢
        clear hkp
        obtain ⟨zl, zo⟩ := msZero (S.n - kp)
        obtain ⟨vs, hvs⟩ : ∃ vs, vs = (Builtin.zeroCells (Value.agg #[.string ⟨#[]⟩, .int .i64 0, .string ⟨#[]⟩]).cells (S.n - kp)).toList := ⟨_, rfl⟩
        rw [← hvs] at zl zo
        have HVS := hide hvs
        have ZL := hide zl
        have hcl : ∀ ty, (Builtin.clear_ #[26] ty #[.slice (some ⟨g', kp * 3, none⟩) (S.n - kp) (cap - kp)]).run Try.prog wr = .ok (.tuple #[]) (wr.setCells g' (kp * 3) vs) := fun ty => by
          rw [hvs]
          exact run_clear_many wr _ 40 ty _ Try.underlying26 Try.zeroValue40 g' (kp * 3) (S.n - kp) _ (by omega) (by rw [← hvs]; exact zl) (by rw [← hvs]; exact zo) (fun j hj => by
            obtain ⟨⟨u, a⟩, _⟩ := HR.out.cell (by omega) (o := kp * 3 + j) (by omega)
            rw [a]; rfl) (fun j hj => (HR.out.cell (by omega) (o := kp * 3 + j) (by omega)).2.1)
        have l3 : ¬ cap = kp := by omega
        have l4 : kp ≤ cap := by omega
        have l5 : kp ≤ S.n := by omega
        have hcs : S.n ≤ cap := hcapB
        clear hvs zl zo
        go_wp2_with fail
        go_ret
        have hs : (wr.setCells g' (kp * 3) vs).heap.size = wr.heap.size := setCells_size _ _ _ _
        refine ⟨_, rfl, ?_, ?_⟩
        · rw [HKP.out]
          have ho := HR.out.setCells (vs := vs) (o := kp * 3) (by rw [ZL.out]; omega)
          refine (OwnL.own0 (K := 0) ho (by omega) kp (by omega) fun i j hi hj => ?_).mono g1 (by rw [hs]; omega)
          rw [if_neg (by omega), ucC, HKP.out, if_pos (by omega), show (i * 3 + j) / 3 = i by omega, show (i * 3 + j) % 3 = j by omega]
        · exact (Only.setCells HB.out).below g1 hbs

end Go.Proofs.Ytkikjneamjmdlaa
