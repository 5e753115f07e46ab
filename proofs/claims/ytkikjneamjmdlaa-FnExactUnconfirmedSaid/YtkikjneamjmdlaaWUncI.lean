/-
  Walks: the messages not heard, the program: a copy, and the library's deletion with a closure.
-/
import Derived.Test.YtkikjneamjmdlaaWUnc
namespace Go.Proofs.Ytkikjneamjmdlaa
set_option linter.unusedVariables false
set_option linter.unusedSimpArgs false
open Go.RowKit

theorem run_clear_many {P : Program} (w : World) (t e ty : TypeId) (z : Value) (ht : P.underlying t = some (.slice e)) (hv : ∀ w, (zeroValue e).run P w = .ok z w) (b o d c : Nat) (hd : 0 < d) (hlen : (Builtin.zeroCells z.cells d).toList.length = d * 3) (h1 : ∀ u ∈ (Builtin.zeroCells z.cells d).toList, u.oneCell' = true)
    (hc : ∀ j, j < d * 3 → (w.cell? ⟨b, o + j, none⟩).isSome = true) (hf : ∀ j, j < d * 3 → w.frozen? ⟨b, o + j, none⟩ = false) :
    (Builtin.clear_ #[t] ty #[.slice (some ⟨b, o, none⟩) d c]).run P w = .ok (.tuple #[]) (w.setCells b o (Builtin.zeroCells z.cells d).toList) := by
  have hst := run_storeCells_cells (P := P) b o (Builtin.zeroCells z.cells d).toList 0 w (by rw [hlen]; simpa using hc) (by rw [hlen]; simpa using hf) h1
  simp only [Nat.add_zero] at hst
  obtain ⟨m, rfl⟩ : ∃ m, d = m + 1 := ⟨d - 1, by omega⟩
  simp [Builtin.clear_, run_underlying ht, hv, hst]
theorem msZero (d : Nat) : (Builtin.zeroCells (Value.agg #[.string ⟨#[]⟩, .int .i64 0, .string ⟨#[]⟩]).cells d).toList.length = d * 3 ∧ ∀ u ∈ (Builtin.zeroCells (Value.agg #[.string ⟨#[]⟩, .int .i64 0, .string ⟨#[]⟩]).cells d).toList, u.oneCell' = true := by
  have hz : (Value.agg #[.string ⟨#[]⟩, .int .i64 0, .string ⟨#[]⟩]).cells = #[.string ⟨#[]⟩, .int .i64 0, .string ⟨#[]⟩] := by rfl
  rw [hz]
  refine ⟨by simp [Builtin.zeroCells], fun u hu => ?_⟩
  simp only [Builtin.zeroCells, Array.toList_map, List.mem_map] at hu
  obtain ⟨i, _, rfl⟩ := hu
  have h3 : i % 3 < 3 := by omega
  show (#[Value.string ⟨#[]⟩, .int .i64 0, .string ⟨#[]⟩][i % 3]!).oneCell' = true
  obtain ⟨j, hj⟩ : ∃ j, i % 3 = j := ⟨_, rfl⟩
  rw [hj] at h3 ⊢
  match j, h3 with
  | 0, _ => rfl
  | 1, _ => rfl
  | 2, _ => rfl
theorem ms_one {M : Ms} {n : Nat} {u : Value} (h : u ∈ rowL M.c 3 n) : u.oneCell' = true := by
  obtain ⟨i, j, _, hj, rfl⟩ := rowL_mem h
  match j, hj with
  | 0, _ => rfl
  | 1, _ => rfl
  | 2, _ => rfl
set_option maxRecDepth 100000 in
set_option maxHeartbeats 1600000 in
theorem CloneM_any (M : Ms) (lo hi : Nat) (v : Value) (w : World) (hv : Sl w lo hi 3 v M.n M.c) (hhi : hi ≤ w.heap.size) (hn' : M.n ≤ 1048576) :
    Calls Try.prog 19 #[v] w fun e w' => ∃ v', e = .returned v' ∧ w'.ownsRow w.heap.size 40 3 v' M.n (rowL M.c 3 M.n) ∧ Below w.heap.size w w' := by
  obtain ⟨A, cap, rfl, hcap, hA⟩ := hv.open_
  have HV := hide hv
  have hq : ∀ w, Sem.run Try.prog (binOp .eql 26 (.slice A M.n cap) (.slice none 0 0)) w = .ok (.bool A.isNone) w := fun w => Lib.run_eql_slice_nil w _ 40 _ _ _ _ _ Try.underlying26
  obtain ⟨ii, hii, iz0, iz1, iz2⟩ := info_parts infoMs
  cases A with
  | none =>
    have h0 : M.n = 0 := by
      by_cases h : 0 < M.n
      · obtain ⟨blk, off, h1, _⟩ := hA h
        cases h1
      · omega
    have H0 := hide h0
    clear hA hv h0
    go_enter Try.func19, Try.ntmps19
    go_wp2_with fail
    go_ret
    refine ⟨_, rfl, ?_, Below.refl _ _⟩
    rw [H0.out]
    exact World.ownsRow_nil _ _ _ _
  | some ad =>
    have hsrc : Hid (∀ j u, (rowL M.c 3 M.n)[j]? = some u → w.cell? (ad.add j) = some u) := by
      intro j u hu
      by_cases h : 0 < M.n
      · obtain ⟨blk, off, h1, _⟩ := hA h
        have hx := HV.out
        injection h1 with h1
        subst h1
        exact hx.news j u hu
      · have h0 : M.n = 0 := by omega
        rw [h0] at hu
        simp [rowL] at hu
    clear hA hv
    go_enter Try.func19, Try.ntmps19
    go_wp2_with (at_builtin; refine wpList_append_own _ rfl _ _ 26 rfl w.heap.size 40 ii (.agg #[.string ⟨#[]⟩, .int .i64 0, .string ⟨#[]⟩]) 3 40 Try.underlying26 hii iz0 iz1 iz2 rfl (by decide) (.slice (some ⟨w.heap.size, 0, none⟩) 0 0) 0 [] rfl (World.ownsRow_made w #[] 0 (Nat.le_refl _) (Nat.zero_le _) rfl) ad M.n cap (rowL M.c 3 M.n) rfl (rowL_len _ _ _) ?_ (fun u hu => ms_one hu) ?_ ?_ ?_ ?_)
    · intro j u hu
      have h1 := hsrc.out j u hu
      exact Lib.cell?_alloc_some _ h1
    · unfold maxLen; omega
    · omega
    · simp
    intro v' w1 hown hg _
    have hb1 : Below w.heap.size w w1 := ((Below.refl _ _).alloc (Nat.le_refl _) _).grown hg (by simp) (fun k h => by simp [Value.ownBlock] at h; omega)
    (try simp only [Nat.zero_add, List.nil_append] at hown)
    obtain ⟨B, cp, rfl⟩ := row_form hown
    have HO := hide hown
    clear hown hg
    go_wp2_with fail
    go_ret
    exact ⟨_, rfl, HO.out, hb1⟩
set_option maxRecDepth 100000 in
set_option maxHeartbeats 1600000 in
theorem unc1_any (H : Ms) (x : ByteArray) (y : Int) (z : ByteArray) (q : Bool) (hq : decide (0 ≤ fstI (eq3 H.f H.m H.g x y z) H.n) = q) (lo hi cb : Nat) (v : Value) (w : World) (hv : Sl w lo hi 3 v H.n H.c) (hhi : hi ≤ w.heap.size) (hn : H.n ≤ 1048576) (hc : w.cell? ⟨cb, 2, none⟩ = some v) (lc : cb < w.heap.size) :
    Calls Try.prog 20 #[.agg #[.string x, .int .i64 y, .string z], .pointer (some ⟨cb, 0, none⟩)] w fun e w' => e = .returned (.bool q) ∧ Below w.heap.size w w' := by
  obtain ⟨A, cap, rfl, hcap, _⟩ := id hv.open_
  go_enter Try.func20, Try.ntmps20
  go_wp2_with fail
  refine (ContainsM_at hq lo hi _ _ (hv.below (B := w.heap.size) (by repeat (first | (with_reducible exact Below.refl _ _) | (with_reducible refine below_ov ?_ ?_) | (with_reducible refine Below.setCell ?_ ?_ _) | (with_reducible refine Below.alloc ?_ ?_ _) | (with_reducible refine Below.drew ?_) | (with_reducible refine below_drewN ?_ _) | (refine Below.trans ?_ (Below.mono ‹Below _ _ _› (by first | omega | (simp; done) | (simp; omega)))) | exact Below.refl _ _ | omega | (focus (simp; done)) | (focus (simp; omega)))) hhi) (by simp; omega) (by omega)).mono ?_
  rintro e w1 ⟨rfl, hb1⟩
  have hz1 := hb1.size
  go_wp2_with fail
  go_ret
  exact ⟨rfl, (by repeat (first | (with_reducible exact Below.refl _ _) | (with_reducible refine below_ov ?_ ?_) | (with_reducible refine Below.setCell ?_ ?_ _) | (with_reducible refine Below.alloc ?_ ?_ _) | (with_reducible refine Below.drew ?_) | (with_reducible refine below_drewN ?_ _) | (refine Below.trans ?_ (Below.mono ‹Below _ _ _› (by first | omega | (simp; done) | (simp; omega)))) | exact Below.refl _ _ | omega | (focus (simp; done)) | (focus (simp; omega))))⟩
set_option maxRecDepth 100000 in
set_option maxHeartbeats 1600000 in
theorem IndexFuncU_any (S H : Ms) (lo hi cb : Nat) (v : Value) (lo2 hi2 : Nat) (u : Value) (w : World) (hu : Sl w lo2 hi2 3 u S.n S.c) (hhi2 : hi2 ≤ w.heap.size) (hm : S.n ≤ 1048576) (hv : Sl w lo hi 3 v H.n H.c) (hhi : hi ≤ w.heap.size) (hn : H.n ≤ 1048576) (hc : w.cell? ⟨cb, 2, none⟩ = some v) (lc : cb < w.heap.size) :
    Calls Try.prog 31 #[u, .func (.func 20) #[] #[.pointer (some ⟨cb, 0, none⟩)]] w fun e w' => e = .returned (.int .i64 (fstI (ucH S H) S.n)) ∧ Below w.heap.size w w' := by
  obtain ⟨A, cap, rfl, hcap, hA⟩ := hu.open_
  clear hu
  go_enter Try.func31, Try.ntmps31
  go_wp2_with fail
  go_loopw [8] (fun i wr => ∃ k : Nat, k ≤ S.n ∧ i = .int .i64 k ∧ Hid (∀ j, j < k → ucH S H j = false) ∧ Below w.heap.size w wr) (fun i _ => S.n - (intOf i).toNat)
  case atStart => exact ⟨0, by omega, rfl, fun j hj => by omega, Below.refl _ _⟩
  case round =>
    obtain ⟨k, hk, rfl, hj, hb⟩ := hrel
    have hzr := hb.size
    by_cases hkn : k < S.n
    · obtain ⟨blk, off, rfl, h1, h2, h3⟩ := (hA.below hb (by omega)) (by omega)
      have c0 : wr.cell? ⟨blk, off + k * 3, none⟩ = some (.string (S.f k)) := h3 k 0 hkn (by omega)
      have c1 : wr.cell? ⟨blk, off + k * 3 + 1, none⟩ = some (.int .i64 (S.m k)) := h3 k 1 hkn (by omega)
      have c2 : wr.cell? ⟨blk, off + k * 3 + 2, none⟩ = some (.string (S.g k)) := h3 k 2 hkn (by omega)
      clear h3 hA
      obtain ⟨tst, htst⟩ : ∃ b, ucH S H k = b := ⟨_, rfl⟩
      have HT := hide htst
      have hcon := unc1_any H (S.f k) (S.m k) (S.g k) tst htst lo hi cb v wr (hv.below (B := w.heap.size) hb hhi) (by omega) hn ((hb.cell (p := ⟨cb, 2, none⟩) lc).trans hc) (by omega)
      clear htst
      cases tst with
      | false =>
        go_wp2_with fail
        refine hcon.mono ?_
        rintro e w2 ⟨rfl, hb2⟩
        have hz2 := hb2.size
        have hbw : Below w.heap.size w w2 := hb.trans (hb2.mono hzr)
        go_wp2_with fail
        go_roundw
        case rel => exact ⟨k + 1, by omega, by go_num, upto_snocF hj.out HT.out, hbw⟩
        case measure => simp [intOf]; omega
      | true =>
        have HG : Hid (fstI (ucH S H) S.n = k) := fstI_at hkn hj.out HT.out
        go_wp2_with fail
        refine hcon.mono ?_
        rintro e w2 ⟨rfl, hb2⟩
        have hbw : Below w.heap.size w w2 := hb.trans (hb2.mono hzr)
        go_wp2_with fail
        go_ret
        exact ⟨ret_int HG.out.symm, hbw⟩
    · have hkS : k = S.n := by omega
      have HJ : Hid (fstI (ucH S H) S.n = -1) := fstI_none (by rw [← hkS]; exact hj.out)
      go_wp2_with fail
      go_ret
      exact ⟨ret_int HJ.out.symm, hb⟩

end Go.Proofs.Ytkikjneamjmdlaa
