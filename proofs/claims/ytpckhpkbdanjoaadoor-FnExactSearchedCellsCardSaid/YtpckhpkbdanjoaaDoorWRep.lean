/-
  Walks: the library's Repeat at one integer: a row of so many.
-/
import Derived.Test.YtpckhpkbdanjoaaDoorPIns
import Derived.Test.YtpckhpkbdanjoaaDoorCells
import Derived.Deep.LoopGhost
import Derived.Ground.NamesProg
import Derived.Shelf.Lay
import Derived.Shelf.Bits.Mul64
namespace Go.Proofs
open Go.RowKit Go.Shelf
shelf_lay Lays.n212 Nm 212 at Tryd as YtpckhpkbdanjoaaDoor.laysMul
end Go.Proofs
namespace Go.Proofs.YtpckhpkbdanjoaaDoor
set_option linter.unusedVariables false
set_option linter.unusedSimpArgs false
open Go.RowKit Go.Shelf

section
variable {w : World} {lo hi E sz n K cap g : Nat} {cc : Nat → Value}
/-- The cells behind those that are known are filled. -/
theorem OwnL.fill : ∀ {vs : List Value} {w : World} {K : Nat}, OwnL w lo hi E sz (.slice (some ⟨g, 0, none⟩) n cap) n K cc → K + vs.length ≤ n * sz → (∀ i u, vs[i]? = some u → u = cc (K + i)) →
    OwnL (w.setCells g K vs) lo hi E sz (.slice (some ⟨g, 0, none⟩) n cap) n (K + vs.length) cc
  | [], w, K, h, _, _ => h
  | v :: r, w, K, h, hl, hv => by
    simp only [List.length_cons] at hl
    obtain rfl := hv 0 v rfl
    have h1 := OwnL.fill (vs := r) (h.store (by omega)) (by omega) (fun i u hu => by
      have := hv (i + 1) u (by simpa using hu)
      rw [this]; congr 1; omega)
    rw [List.length_cons, show K + (r.length + 1) = K + 1 + r.length by omega]
    exact h1
end
theorem infoI1 : (Tryd.prog.info? 3).map (fun i => (i.zero, i.size, i.bytes)) = some (some (.int .i64 0), 1, 8) := by kernel_rfl
theorem infoI1s : (Tryd.prog.info? 3).map (·.size) = some 1 := by
  obtain ⟨ii, hii, _, iz1, _⟩ := info_parts infoI1
  rw [hii]; simp [iz1]
theorem Mul_any (K : Nat) (w : World) (hK : K ≤ 1000) :
    Calls Tryd.prog 111 #[.int .u64 1, .int .u64 K] w fun e w' => e = .returned (.tuple #[.int .u64 0, .int .u64 K]) ∧ w = w' := by
  have hcon := Any.bits_Mul YtpckhpkbdanjoaaDoor.laysMul 1 K (by omega) (by omega) w
  change Calls Tryd.prog 111 _ _ (fun e w' => _) at hcon
  refine hcon.mono fun e w' ⟨he, hw⟩ => ⟨?_, hw.symm⟩
  rw [he, Nat.one_mul, Nat.div_eq_of_lt (by omega), Nat.mod_eq_of_lt (by omega)]
  rfl
set_option maxRecDepth 100000 in
set_option maxHeartbeats 1600000 in
theorem Repeat_any (K vb : Nat) (w : World) (hvb : w.heap[vb]? = some (.cells #[.int .i64 (-1)] 3 (0, 0))) (hK : 1 ≤ K) (hK' : K ≤ 1000) :
    Calls Tryd.prog 96 #[.slice (some ⟨vb, 0, none⟩) 1 1, .int .i64 K] w fun e w' => ∃ g, e = .returned (.slice (some ⟨g, 0, none⟩) K K) ∧ OwnL w' g (g + 1) 3 1 (.slice (some ⟨g, 0, none⟩) K K) K K (fun _ => .int .i64 (-1)) ∧ w.heap.size ≤ g ∧ g < w'.heap.size ∧ Below w.heap.size w w' := by
  obtain ⟨ii, hii, iz0, iz1, iz2⟩ := info_parts infoI1
  have hvl : vb < w.heap.size := (Array.getElem?_eq_some_iff.1 hvb).1
  have u1 : IntKind.u64.wrap 1 = 1 := rfl
  have u2 : IntKind.u64.wrap (K : Int) = (K : Int) := by rw [IntKind.wrap_u64]; omega
  have u3 : IntKind.i64.wrap (K : Int) = (K : Int) := IntWalk.i64_in _ (by omega)
  go_enter Tryd.func96, Tryd.ntmps96
  go_wp2_with (first | (go_at_call 111; refine (Mul_any _ _ hK').mono ?_; rintro e w' ⟨rfl, rfl⟩) | (at_make; refine wpList_make_full _ rfl (.tmp 29) (.tmp 29) 48 rfl w.heap.size 3 ii _ 1 Tryd.underlying48 hii iz0 iz1 .i64 .i64 K K K rfl rfl rfl rfl (by rw [iz2]; omega) (by unfold maxLen; omega) (Nat.le_refl _) ?_))
  intro w1 hown1 hg1
  have hlt1 : w.heap.size < w1.heap.size := (hown1.lt _ rfl).2
  have hb1 : Below w.heap.size w w1 := (Below.refl _ _).grown hg1 (Nat.le_refl _) (fun k h => by cases h)
  have ho1 : Own w1 w.heap.size (w.heap.size + 1) 3 1 (.slice (some ⟨w.heap.size, 0, none⟩) K K) K 0 (iC (fun _ => 0)) := ⟨_, hown1, fun g hg => by cases hg; exact Nat.lt_succ_self _, fun i j h => absurd h (by omega)⟩
  have hl1 := ho1.l (fun _ => .int .i64 (-1))
  have hvb1 : w1.cell? ⟨vb, 0, none⟩ = some (.int .i64 (-1)) := by
    rw [hb1.cell (p := ⟨vb, 0, none⟩) hvl]
    simp [World.cell?, hvb]
  obtain ⟨W2, hW2⟩ : ∃ W2, W2 = w1.setCells w.heap.size 0 [.int .i64 (-1)] := ⟨_, rfl⟩
  have hl2 : OwnL W2 w.heap.size (w.heap.size + 1) 3 1 (.slice (some ⟨w.heap.size, 0, none⟩) K K) K 1 (fun _ => .int .i64 (-1)) := by
    rw [hW2]
    exact hl1.fill (vs := [.int .i64 (-1)]) (by simp; omega) (fun i u hu => by
      match i, hu with
      | 0, hu => simpa using hu.symm)
  have hcp1 : ∀ ty, (Builtin.copy_ #[48, 48] ty #[.slice (some ⟨w.heap.size, 0, none⟩) K K, .slice (some ⟨vb, 0, none⟩) 1 1]).run Tryd.prog w1 = .ok (.int .i64 1) W2 := fun ty => by
    have e : Nat.min 1 K = 1 := by show min 1 K = 1; omega
    have h := run_copy_wide w1 48 48 ty 3 w.heap.size 0 K K ⟨vb, 0, none⟩ 1 1 1 [.int .i64 (-1)] Tryd.underlying48 infoI1s (by rw [e]; rfl) (fun j v hj => by
      match j, hj with
      | 0, hj => simp at hj; subst hj; rw [Addr.add_lit]; exact hvb1) (fun j hj => by
      obtain ⟨⟨u, a⟩, b, _⟩ := hl1.cell (by omega) (o := j) (by simp at hj; omega)
      rw [Nat.zero_add, a]; rfl) (fun j hj => by
      obtain ⟨⟨u, a⟩, b, _⟩ := hl1.cell (by omega) (o := j) (by simp at hj; omega)
      rw [Nat.zero_add]; exact b) (fun v hv => by simp at hv; subst hv; rfl)
    rw [h, e, hW2]
    rfl
  have hb2 : Below w.heap.size w W2 := by
    rw [hW2]
    exact hb1.trans ((Only.setCells (Only.refl w.heap.size (w.heap.size + 1) w1)).below (Nat.le_refl _) (by omega))
  have hz2 : w.heap.size < W2.heap.size := by rw [hW2, setCells_size]; exact hlt1
  have HL2 := hide hl2
  clear hown1 hg1 ho1 hl1 hvb1 hl2 hW2
  have dk : decide (1 < K) = decide (1 < K) := rfl
  clear dk
  go_wp2_with fail
  clear hcp1
  go_loopg [8] (K - 1) (fun gn q wr => Hid (∀ m : Nat, q = .int .i64 m → K - m ≤ gn) ∧  ∃ m : Nat, 1 ≤ m ∧ m ≤ K ∧ q = .int .i64 m ∧ Hid (OwnL wr w.heap.size (w.heap.size + 1) 3 1 (.slice (some ⟨w.heap.size, 0, none⟩) K K) K m (fun _ => .int .i64 (-1))) ∧ Below w.heap.size w wr ∧ w.heap.size < wr.heap.size)
  case atStart => exact ⟨fun m hm => by injection hm with _ e; omega, 1, by omega, hK, rfl, HL2.out, hb2, hz2⟩
  case round =>
    obtain ⟨hgk, m, hm1, hm, rfl, ho, hb, hlt⟩ := hrel
    have hgm := hgk.out m rfl
    clear hgk
    by_cases hmn : m < K
    · obtain ⟨c, hc⟩ : ∃ c, c = Nat.min m (K - m) := ⟨_, rfl⟩
      have hc1 : 1 ≤ c ∧ c ≤ m ∧ c ≤ K - m := by have e : c = min m (K - m) := hc; omega
      have hcp : ∀ ty dl dc sl sc, dl = K - m → sl = m → (Builtin.copy_ #[48, 48] ty #[.slice (some ⟨w.heap.size, m, none⟩) dl dc, .slice (some ⟨w.heap.size, 0, none⟩) sl sc]).run Tryd.prog wr.drew = .ok (.int .i64 c) (wr.drew.setCells w.heap.size m (List.replicate c (.int .i64 (-1)))) := fun ty dl dc sl sc e1 e2 => by
        subst e1 e2
        have h := run_copy_wide wr.drew 48 48 ty 3 w.heap.size sl (K - sl) dc ⟨w.heap.size, 0, none⟩ sl sc 1 (List.replicate c (.int .i64 (-1))) Tryd.underlying48 infoI1s (by rw [← hc]; simp) (fun j v hj => by
          have hj1 : j < c := by have := (List.getElem?_eq_some_iff.1 hj).1; simpa using this
          rw [List.getElem?_replicate, if_pos hj1] at hj
          rw [Addr.add_lit, Nat.zero_add, ← Option.some.inj hj]
          exact (ho.out.cell (by omega) (o := j) (by omega)).2.2 (by omega)) (fun j hj => by
          simp at hj
          obtain ⟨⟨u, a⟩, b, _⟩ := ho.out.cell (by omega) (o := sl + j) (by omega)
          show (World.cell? wr _).isSome = true
          rw [a]; rfl) (fun j hj => by
          simp at hj
          exact (ho.out.cell (by omega) (o := sl + j) (by omega)).2.1) (fun v hv => by rw [List.eq_of_mem_replicate hv]; rfl)
        rw [h, ← hc]
        rfl
      have HO2 : Hid (OwnL (wr.drew.setCells w.heap.size m (List.replicate c (.int .i64 (-1)))) w.heap.size (w.heap.size + 1) 3 1 (.slice (some ⟨w.heap.size, 0, none⟩) K K) K (m + c) (fun _ => .int .i64 (-1))) := by
        have h := (ho.out.keep1 (w' := wr.drew) rfl).fill (vs := List.replicate c (.int .i64 (-1))) (by simp; omega) (fun i u hu => by
          exact List.eq_of_mem_replicate (List.mem_of_getElem? hu))
        rw [List.length_replicate] at h
        exact h
      have HB : Hid (Below w.heap.size w (wr.drew.setCells w.heap.size m (List.replicate c (.int .i64 (-1))))) := (Below.drew hb).trans ((Only.setCells (Only.refl w.heap.size (w.heap.size + 1) wr.drew)).below (Nat.le_refl _) (by show _ ≤ wr.heap.size; omega))
      have HZ : Hid (w.heap.size < (wr.drew.setCells w.heap.size m (List.replicate c (.int .i64 (-1)))).heap.size) := by
        show _ < _
        rw [setCells_size]; exact hlt
      obtain ⟨W3, hW3⟩ : ∃ W3, W3 = wr.drew.setCells w.heap.size m (List.replicate c (.int .i64 (-1))) := ⟨_, rfl⟩
      rw [← hW3] at HO2 HB HZ
      have l1 : ¬ K = m := by omega
      have z1 : IntKind.i64.wrap ((m : Int) + (c : Int)) = (m : Int) + (c : Int) := IntWalk.i64_in _ (by omega)
      clear hc ho
      go_wp2_with fail
      go_region_law (refine step_copy_at rfl _ _ 48 48 rfl (.slice (some ⟨w.heap.size, m, none⟩) (K - m) (K - m)) (.slice (some ⟨w.heap.size, 0, none⟩) m K) (by simp [Act.eval, Act.put]) (by simp [Act.eval, Act.put]) (hcp _ _ _ _ _ rfl rfl) ?_)
      rw [← hW3]
      go_wp2_with fail
      go_roundg (K - (m + c))
      case measure => omega
      case rel => exact ⟨fun q hq => by injection hq with _ e; omega, m + c, by omega, by omega, by go_num, HO2.out, HB.out, HZ.out⟩
    · obtain rfl : m = K := by omega
      go_wp2_with fail
      go_ret
      exact ⟨_, rfl, ho.out, Nat.le_refl _, hlt, hb⟩

end Go.Proofs.YtpckhpkbdanjoaaDoor
