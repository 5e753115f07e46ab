/-
  The library's Trim at a cutset of ASCII bytes, by the kit's contract; what is left of a row of open cells and walls.
-/
import Derived.Test.YtpckhpkbdanjoaaDoorPFlr
import Derived.Ground.NamesProg
import Derived.Shelf.Lay
import Derived.Shelf.Strings.SlTrimAscii
namespace Go.Proofs
open Go.RowKit Go.Shelf
shelf_lay Lays.n160 Nm 160 at Tryd as YtpckhpkbdanjoaaDoor.laysTrim
end Go.Proofs
namespace Go.Proofs.YtpckhpkbdanjoaaDoor
set_option linter.unusedVariables false
set_option linter.unusedSimpArgs false
open Go.RowKit Go.Shelf Go.Lib

theorem dw_nil {α : Type} (p : α → Bool) : ∀ l : List α, l.dropWhile p = [] ↔ ∀ b ∈ l, p b = true
  | [] => by simp
  | a :: l => by
    have ih := dw_nil p l
    rw [List.dropWhile_cons]
    cases h : p a with
    | true => simp only [if_true, ih, List.mem_cons, forall_eq_or_imp, h, true_and]
    | false => simp [h]
theorem dw_head {α : Type} (p : α → Bool) : ∀ (l : List α) {x : α} {r : List α}, l.dropWhile p = x :: r → p x = false
  | [], _, _, h => by simp at h
  | a :: l, x, r, h => by
    rw [List.dropWhile_cons] at h
    cases e : p a with
    | true => rw [e] at h; exact dw_head p l h
    | false =>
      rw [e] at h
      simp at h
      rw [← h.1]
      exact e
theorem trimS_nil (l cs : List UInt8) : (Lib.trimS l cs).isEmpty = l.all (cs.contains ·) := by
  have key : Lib.trimS l cs = [] ↔ ∀ b ∈ l, cs.contains b = true := by
    unfold Lib.trimS Lib.trimLeftS Lib.trimRightS
    constructor
    · intro h
      have h1 : ∀ b ∈ l.reverse.dropWhile (cs.contains ·), cs.contains b = true := fun b hb => by
        have := (dw_nil _ _).1 h b (List.mem_reverse.2 hb)
        exact this
      have h2 : l.reverse.dropWhile (cs.contains ·) = [] := by
        cases e : l.reverse.dropWhile (cs.contains ·) with
        | nil => rfl
        | cons x r =>
          have h3 := h1 x (by rw [e]; exact List.mem_cons_self)
          have h4 := dw_head _ _ e
          rw [h3] at h4
          cases h4
      intro b hb
      exact (dw_nil _ _).1 h2 b (List.mem_reverse.2 hb)
    · intro h
      have h2 : l.reverse.dropWhile (cs.contains ·) = [] := (dw_nil _ _).2 fun b hb => h b (List.mem_reverse.1 hb)
      rw [h2]
      rfl
  rw [Bool.eq_iff_iff, List.isEmpty_iff, key, List.all_eq_true]
theorem cel_all (s : ByteArray) : s.data.toList.all (fun b => [46, 35].contains b) = allB (cel s) s.size := by
  rw [Bool.eq_iff_iff, List.all_eq_true, allB_iff]
  have hg : ∀ i (h : i < s.size), s.data.toList[i]? = some s[i] := fun i h => by
    rw [List.getElem?_eq_getElem (by simpa using h)]; rfl
  have h1 : ∀ b : UInt8, [46, 35].contains b = true ↔ (b.toNat : Int) = 46 ∨ (b.toNat : Int) = 35 := fun b => by
    simp only [List.contains_cons, List.contains_nil, Bool.or_false, Bool.or_eq_true, beq_iff_eq]
    rw [← UInt8.toNat_inj, ← UInt8.toNat_inj]
    show b.toNat = 46 ∨ b.toNat = 35 ↔ _
    omega
  constructor
  · intro h i hi
    have h2 := h _ (List.mem_of_getElem? (hg i hi))
    rw [cel_iff, ← byteAt_eq hi]
    exact (h1 _).1 h2
  · intro h b hb
    obtain ⟨i, hi, rfl⟩ := List.mem_iff_getElem.1 hb
    have hi' : i < s.size := by simpa using hi
    have h2 := h i hi'
    rw [cel_iff, ← byteAt_eq hi'] at h2
    exact (h1 _).2 h2
theorem Trim_any (s : ByteArray) (w : World) (hs : s.size ≤ maxLen) :
    Calls Tryd.prog 92 #[.string s, .string ⟨#[46, 35]⟩] w fun e w' => (∃ t : ByteArray, e = .returned (.string t) ∧ t.toList.isEmpty = allB (cel s) s.size) ∧ Below w.heap.size w w' := by
  have hcon := Any.strings_Trim_laid YtpckhpkbdanjoaaDoor.laysTrim (by kernel_rfl) s ⟨#[46, 35]⟩ w hs (by decide) (ascii_of_all (by decide))
  change Calls Tryd.prog 92 _ _ (fun e w' => e = .returned (.string ⟨(Lib.trimS s.data.toList [46, 35]).toArray⟩) ∧ Below w.heap.size w w') at hcon
  refine hcon.mono fun e w' ⟨he, hb⟩ => ⟨⟨_, he, ?_⟩, hb⟩
  rw [← cel_all, ← trimS_nil, ByteArray.toList_eq]

end Go.Proofs.YtpckhpkbdanjoaaDoor
