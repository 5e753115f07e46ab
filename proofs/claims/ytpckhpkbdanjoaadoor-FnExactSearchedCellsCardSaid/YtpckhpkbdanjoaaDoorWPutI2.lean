/-
  Walks: the reference puts a number into an increasing list, the list that is nil.
-/
import Derived.Test.YtpckhpkbdanjoaaDoorWPutI
import Derived.Test.YtpckhpkbdanjoaaDoorWJoin0
namespace Go.Proofs.YtpckhpkbdanjoaaDoor
set_option linter.unusedVariables false
set_option linter.unusedSimpArgs false
open Go.RowKit

theorem wpList_append_rows {P : Program} {ops : Array Oper} {rest : List Oper} {o : Oper} {a : Act} {w : World} {Q : Exit → Act → World → Prop} (hgd : o.guard = none) (s x : Operand) (t : TypeId)
    (ho : o.op = .call { callee := .builtin .append, args := #[s, x], argTypes := #[t, t] })
    (base base2 : Nat) (e : TypeId) (i : TypeInfo) (z : Value) (size bytes : Nat) (ht : P.underlying t = some (.slice e)) (hi : P.info? e = some i) (hz : i.zero = some z)
    (hsize : i.size = size) (hby : i.bytes = bytes) (hzs : z.cells.size = size) (hsz : 0 < size)
    (v u : Value) (n m : Nat) (xs ys : List Value) (hs : a.eval s = v) (hx : a.eval x = u) (hown : w.ownsRow base e size v n xs) (hown2 : w.ownsRow base2 e size u m ys) (h1 : ∀ u ∈ ys, u.oneCell' = true)
    (h63 : n + m ≤ maxLen) (hbytes : (n + m) * bytes ≤ 140737488355328) (hbase : base ≤ w.heap.size)
    (h : ∀ v' w', w'.ownsRow base e size v' (n + m) (xs ++ ys) → w.grownBy w' v.ownBlock → wpList P ops Q rest (a.put o.dst v') w') :
    wpList P ops Q (o :: rest) a w := by
  refine wpList_plain hgd fun K hK => ?_
  obtain ⟨v', w', hr, h2, h3⟩ := run_append_rows (P := P) w base base2 t o.type e i z size bytes ht hi hz hsize hby hzs hsz v u n m xs ys hown hown2 h1 h63 hbytes hbase
  unfold Oper.wp execOp
  simp only [ho, resolve, invoke, builtin, Sem.run_bind, Sem.run_pure, Result.andThen_ok, List.map_toArray, List.map_cons, List.map_nil, hs, hx, hr]
  exact hK _ _ (h v' w' h2 h3)

set_option maxRecDepth 100000 in
set_option maxHeartbeats 3200000 in
theorem l1Put_nil (P : Nat → Bool) (N x base : Nat) (w : World) (hn : (flt P N).length = 0) (hx : x < N) (hN : N ≤ 1000) (hb0 : base ≤ w.heap.size) :
    Calls Tryd.prog 90 #[.slice none 0 0, .int .i64 x] w fun e w' => ∃ v', e = .returned v' ∧ PRowI w' base v' (orP P x) N ∧ Below w.heap.size w w' := by
  obtain ⟨ii, hii, iz0, iz1, iz2⟩ := info_parts infoIntP
  have hp : P x = false := by
    cases h : P x with
    | false => rfl
    | true =>
      have h3 := (flt_head (p := P) (x := x) (n := N) hx).2 h
      rw [List.getElem?_eq_none (by omega)] at h3
      cases h3
  have HO := hide (fltV_or hp hx)
  have hrs := (fltV_split P (Nat.le_of_lt hx)).2
  have hl1 : (flt P x).length = 0 := by omega
  have hl2 : (fltR P x N).length = 0 := by omega
  have HE : Hid (fltV (orP P x) N = [.int .i64 (x : Nat)] ∧ (flt (orP P x) N).length = 1) := by
    refine ⟨?_, ?_⟩
    · rw [HO.out.1, fltV, List.eq_nil_of_length_eq_zero hl1, List.eq_nil_of_length_eq_zero hl2]; rfl
    · rw [HO.out.2, hl1, hl2]
  go_enter Tryd.func90, Tryd.ntmps90
  go_wp2_with fail
  go_loopg [5] 1 (fun gn i wr => 0 < gn ∧ i = .int .i64 0 ∧ Below w.heap.size w wr)
  case atStart => exact ⟨by omega, rfl, Below.refl _ _⟩
  case round =>
    obtain ⟨hgn, rfl, hb⟩ := hrel
    have hzr := hb.size
    have r1 : (wr.alloc (.cells #[] 3)).ownsRow wr.heap.size 3 1 (.slice (some ⟨wr.heap.size, 0, none⟩) 0 0) 0 [] := by simpa using World.ownsRow_made wr (base := wr.heap.size) (e := 3) (size := 1) #[] 0 (by simp) (Nat.zero_le _) rfl
    go_wp2_with (at_builtin; refine wpList_append_rows rfl _ _ 48 rfl wr.heap.size wr.heap.size 3 ii (.int .i64 0) 1 8 Tryd.underlying48 hii iz0 iz1 iz2 rfl (by decide) _ _ 0 0 [] [] rfl rfl r1 (World.ownsRow_nil _ _ _ _) ?_ ?_ ?_ ?_ ?_)
    · simp
    · unfold maxLen; omega
    · omega
    · simp
    intro v2 w2 hown2 hg2
    have hb2 : Below wr.heap.size wr w2 := ((Below.refl wr.heap.size wr).alloc (Nat.le_refl _) _).grown hg2 (by simp) (fun q hq => (r1.lt q hq).1)
    have hz2 := hb2.size
    obtain ⟨B2, c2, rfl⟩ := row_form hown2
    go_wp2_with (at_builtin; refine wpList_append_own _ rfl _ _ 48 rfl wr.heap.size 3 ii (.int .i64 0) 1 8 Tryd.underlying48 hii iz0 iz1 iz2 rfl (by decide) _ _ [] rfl (hown2.alloc _) ⟨w2.heap.size, 0, none⟩ 1 1 [.int .i64 (x : Nat)] rfl rfl ?_ ?_ ?_ ?_ ?_ ?_)
    · intro i u hu
      match i, hu with
      | 0, hu => simp at hu; subst hu; simp [go_sem, Addr.add]
    · intro u hu; simp at hu; subst hu; rfl
    · unfold maxLen; omega
    · omega
    · simp; omega
    intro v3 w3 hown3 hg3 _
    have hb3 : Below wr.heap.size wr w3 := (hb2.alloc hz2 _).grown hg3 (by simp; omega) (fun q hq => (hown2.lt q hq).1)
    have hz3 := hb3.size
    obtain ⟨B3, c3, rfl⟩ := row_form hown3
    have hsl : ∀ W, (Instr.slice 48 (.slice none 0 0) (some (.int .i64 0)) none none).run Tryd.prog W = .ok (.slice none 0 0) W := fun W => by
      simp [go_sem, Tryd.underlying48]
    go_wp2_with (at_builtin; refine wpList_append_rows rfl _ _ 48 rfl wr.heap.size wr.heap.size 3 ii (.int .i64 0) 1 8 Tryd.underlying48 hii iz0 iz1 iz2 rfl (by decide) _ _ _ 0 _ [] rfl rfl hown3 (World.ownsRow_nil _ _ _ _) ?_ ?_ ?_ ?_ ?_)
    · simp
    · unfold maxLen; omega
    · omega
    · omega
    intro v4 w4 hown4 hg4
    have hb4 : Below wr.heap.size wr w4 := hb3.grown hg4 hz3 (fun q hq => (hown3.lt q hq).1)
    have HF : Hid (PRowI w4 base v4 (orP P x) N) := by
      show PRowI _ _ _ _ _
      rw [PRowI, HE.out.1, HE.out.2]
      have h5 := hown4.mono (show base ≤ wr.heap.size by omega)
      simpa using h5
    have hbw : Below w.heap.size w w4 := hb.trans (hb4.mono hzr)
    clear hown2 hown3 hown4 hg2 hg3 hg4
    go_wp2_with fail
    go_ret
    exact ⟨_, rfl, HF.out, hbw⟩
theorem l1Put_any (P : Nat → Bool) (N x base : Nat) (v : Value) (w : World) (hv : PRowI w base v P N) (hx : x < N) (hN : N ≤ 1000) (hb0 : base ≤ w.heap.size) :
    Calls Tryd.prog 90 #[v, .int .i64 x] w fun e w' => ∃ v', e = .returned v' ∧ PRowI w' base v' (orP P x) N ∧ Below w.heap.size w w' := by
  rcases hv.2 with ⟨h0, h1⟩ | ⟨g, cap, cur, h0, _⟩
  · subst h0
    exact l1Put_nil P N x base w h1 hx hN hb0
  · subst h0
    exact l1Put_some P N x base _ g cap w rfl hv hx hN hb0

end Go.Proofs.YtpckhpkbdanjoaaDoor
