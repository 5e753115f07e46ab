/-
  Words for a queue: a slice somewhere in a block of the call's own, with all its spare cells.
-/
import Derived.Test.YtpckhpkbdanjoaaDoorPIns
namespace Go.Proofs.YtpckhpkbdanjoaaDoor
set_option linter.unusedVariables false
set_option linter.unusedSimpArgs false
open Go.RowKit

structure Tl (w : World) (q sz off n cap : Nat) (c : Nat → Nat → Value) : Prop where
  lt : q < w.heap.size
  le : n ≤ cap
  mx : cap ≤ maxLen
  fr : ∀ o, w.frozen? ⟨q, o, none⟩ = false
  sp : ∀ j, j < cap * sz → (w.cell? ⟨q, off + j, none⟩).isSome = true
  at_ : ∀ i j, i < n → j < sz → w.cell? ⟨q, off + i * sz + j, none⟩ = some (c i j)
section
variable {w w' : World} {q sz off n cap E base : Nat} {c c' : Nat → Nat → Value} {xs : List Value}
theorem Tl.keep (h : Tl w q sz off n cap c) (hk : w'.heap[q]? = w.heap[q]?) (hs : q < w'.heap.size) : Tl w' q sz off n cap c :=
  ⟨hs, h.le, h.mx, fun o => (World.frozen?_of_block (a := ⟨q, o, none⟩) hk).trans (h.fr o), fun j hj => by
    rw [World.cell?_of_block (a := ⟨q, off + j, none⟩) hk]; exact h.sp j hj, fun i j hi hj => (World.cell?_of_block (a := ⟨q, off + i * sz + j, none⟩) hk).trans (h.at_ i j hi hj)⟩
theorem Tl.below {B : Nat} (h : Tl w q sz off n cap c) (hb : Below B w w') (hB : q < B) : Tl w' q sz off n cap c :=
  h.keep (hb.block q hB) (Nat.lt_of_lt_of_le h.lt hb.size)
theorem Tl.congr (h : Tl w q sz off n cap c) (hc : ∀ i j, i < n → j < sz → c i j = c' i j) : Tl w q sz off n cap c' :=
  ⟨h.lt, h.le, h.mx, h.fr, h.sp, fun i j hi hj => (h.at_ i j hi hj).trans (by rw [hc i j hi hj])⟩
/-- Without its first element. -/
theorem Tl.tail (h : Tl w q sz off (n + 1) cap c) : Tl w q sz (if cap = 1 then off else off + sz) n (cap - 1) (fun i => c (i + 1)) := by
  have hle := h.le
  refine ⟨h.lt, by omega, by have := h.mx; omega, h.fr, fun j hj => ?_, fun i j hi hj => ?_⟩
  · by_cases h1 : cap = 1
    · subst h1; simp at hj
    · rw [if_neg h1]
      obtain ⟨k, rfl⟩ : ∃ k, cap = k + 1 := ⟨cap - 1, by omega⟩
      have h2 : (k + 1) * sz = k * sz + sz := Nat.succ_mul k sz
      rw [Nat.add_sub_cancel] at hj
      have := h.sp (sz + j) (by omega)
      rw [show off + sz + j = off + (sz + j) by omega]
      exact this
  · have h1 : ¬ cap = 1 := by omega
    rw [if_neg h1]
    have := h.at_ (i + 1) j (by omega) hj
    rw [Nat.succ_mul] at this
    rw [show off + sz + i * sz + j = off + (i * sz + sz) + j by omega]
    exact this
theorem Tl.of_row (h : w.ownsRow base E sz (.slice (some ⟨q, 0, none⟩) n cap) n xs) (hx : ∀ i j, i < n → j < sz → xs[i * sz + j]? = some (c i j)) : Tl w q sz 0 n cap c := by
  rcases id h.2 with ⟨h1, _⟩ | ⟨g, cp, cur, he, hg, hh, hnc, hcm, hcs, ht⟩
  · cases h1
  · injection he with e1 _ e3
    injection e1 with e1
    injection e1 with e1
    subst e1 e3
    refine ⟨(h.lt q rfl).2, hnc, hcm, fun o => h.frozenAt o, fun j hj => ?_, fun i j hi hj => ?_⟩
    · simp only [World.cell?, hh, Nat.zero_add]
      rw [Array.getElem?_eq_getElem (by omega)]
      rfl
    · rw [Nat.zero_add, h.cellAt _ (lin_lt hi hj)]
      exact hx i j hi hj
/-- One element more. -/
theorem run_append_tl {P : Program} (t ty e : TypeId) (i : TypeInfo) (z : Value) (size bytes : Nat) (ht : P.underlying t = some (.slice e)) (hi : P.info? e = some i) (hz : i.zero = some z)
    (hsize : i.size = size) (hby : i.bytes = bytes) (hzs : z.cells.size = size) (hsz : 0 < size) (h : Tl w q size off n cap c)
    (ad : Addr) (k : Nat) (hnews : ∀ j u, ((List.range size).map (c' n))[j]? = some u → w.cell? (ad.add j) = some u) (h1 : ∀ j, j < size → (c' n j).oneCell' = true) (hc : ∀ i j, i < n → j < size → c i j = c' i j)
    (h63 : n + 1 ≤ maxLen) (hbytes : (n + 1) * bytes ≤ 140737488355328) :
    ∃ q' off' cap' w', (Builtin.append_ #[t, t] ty #[.slice (some ⟨q, off, none⟩) n cap, .slice (some ad) 1 k]).run P w = .ok (.slice (some ⟨q', off', none⟩) (n + 1) cap') w' ∧ Tl w' q' size off' (n + 1) cap' c' ∧ w.grownBy w' (some q) ∧ (q' = q ∨ w.heap.size ≤ q') := by
  have hl : ((List.range size).map (c' n)).length = size := by simp
  have hnl : ((List.range size).map (c' n)).length = 1 * size := by rw [hl, Nat.one_mul]
  have hone : ∀ u ∈ (List.range size).map (c' n), u.oneCell' = true := fun u hu => by
    obtain ⟨j, hj, rfl⟩ := List.mem_map.1 hu
    exact h1 j (List.mem_range.1 hj)
  have hget : ∀ j, j < size → ((List.range size).map (c' n))[j]? = some (c' n j) := fun j hj => by
    rw [List.getElem?_map, List.getElem?_range hj]; rfl
  by_cases hr : n + 1 ≤ cap
  · have hrc : (n + 1) * size ≤ cap * size := Nat.mul_le_mul_right _ hr
    rw [Nat.succ_mul] at hrc
    have hsome : ∀ j, j < ((List.range size).map (c' n)).length → (w.cell? ⟨q, off + n * size + j, none⟩).isSome = true := fun j hj => by
      rw [hl] at hj
      rw [show off + n * size + j = off + (n * size + j) by omega]
      exact h.sp _ (by omega)
    have hrun := run_append_room_cells (P := P) w t ty e i ht hi q off n cap ad 1 k ((List.range size).map (c' n)) (by rw [hsize]; exact hnl) hnews hone hr (by rw [hsize]; exact hsome) (fun j _ => h.fr _)
    rw [hsize] at hrun
    refine ⟨q, off, cap, _, hrun, ⟨by rw [setCells_size]; exact h.lt, hr, h.mx, fun o => (World.frozen?_setCells q _ _ _ _).trans (h.fr o), fun j hj => ?_, fun a b ha hb => ?_⟩, ⟨?_, ?_, ?_, by rw [setCells_size]; exact Nat.le_refl _, fun b _ hb => setCells_other q (fun e => hb (by rw [e])) _ _ _⟩, .inl rfl⟩
    · by_cases hin : n * size ≤ j ∧ j < n * size + size
      · have := World.cell?_setCells_in q ((List.range size).map (c' n)) (off + n * size) w hsome (j - n * size) (by rw [hl]; omega)
        rw [show off + n * size + (j - n * size) = off + j by omega] at this
        rw [this]; rfl
      · rw [World.cell?_setCells_out q _ _ _ _ (fun _ _ => by show off + j < off + n * size ∨ off + n * size + _ ≤ off + j; rw [hl]; omega)]
        exact h.sp j hj
    · rcases Nat.lt_or_ge a n with h2 | h2
      · have h3 := lin_lt h2 hb
        rw [World.cell?_setCells_out q _ _ _ _ (fun _ _ => .inl (by show off + a * size + b < off + n * size; omega)), h.at_ a b h2 hb, hc a b h2 hb]
      · obtain rfl : a = n := by omega
        have := World.cell?_setCells_in q ((List.range size).map (c' a)) (off + a * size) w hsome b (by rw [hl]; exact hb)
        rw [this]
        have h4 := hget b hb
        rw [List.getElem?_eq_getElem (by rw [hl]; exact hb)] at h4
        exact h4
    · exact (Only.setCells (Only.refl q (q + 1) w)).os
    · exact (Only.setCells (Only.refl q (q + 1) w)).tape
    · exact (Only.setCells (Only.refl q (q + 1) w)).output
  · have hol : (rowL c size n).length = n * size := rowL_len _ _ _
    obtain ⟨v', w', hrun, r1, r2⟩ := run_append_arg_grows (P := P) w t ty e i z size bytes ht hi hz hsize hby hzs hsz ⟨q, off, none⟩ n cap (rowL c size n) hol (fun j u hu => by
      have ho : j < n * size := by have := (List.getElem?_eq_some_iff.1 hu).1; omega
      have a1 : j / size < n := (Nat.div_lt_iff_lt_mul hsz).2 ho
      have a2 := Nat.mod_lt j hsz
      have e3 := rowL_get c size a1 a2
      rw [Nat.div_add_mod'] at e3
      rw [hu] at e3
      have e4 := h.at_ _ _ a1 a2
      rw [Nat.add_assoc, Nat.div_add_mod'] at e4
      rw [Addr.add_lit, e4, e3]) ad 1 k ((List.range size).map (c' n)) hnl hnews (by omega) h63 hbytes
    have hrow : rowL c size n ++ (List.range size).map (c' n) = rowL c' size (n + 1) := by rw [rowL, rowL_congr hc]
    rw [hrow] at r1
    rcases id r1.2 with ⟨_, h0⟩ | ⟨g, cp, cur, rfl, hg, hh, hnc, hcm, hcs, htk⟩
    · omega
    · exact ⟨g, 0, cp, w', hrun, Tl.of_row r1 (fun i j hi hj => rowL_get c' size hi hj), ⟨r2.os, r2.tape, r2.output, r2.size, fun b hb _ => r2.block b hb (fun e => by cases e)⟩, .inr hg⟩
end

end Go.Proofs.YtpckhpkbdanjoaaDoor
