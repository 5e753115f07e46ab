/-
  Walks: a way is followed: the program's and the reference's.
-/
import Derived.Test.YtpckhpkbdanjoaaDoorWStp2
import Derived.Ground.NamesProg
import Derived.Shelf.Lay
import Derived.Shelf.Strings.Search3
namespace Go.Proofs
open Go.RowKit Go.Shelf
shelf_lay Lays.n144 Nm 144 at Tryd as YtpckhpkbdanjoaaDoor.laysContains
end Go.Proofs
namespace Go.Proofs.YtpckhpkbdanjoaaDoor
set_option linter.unusedVariables false
set_option linter.unusedSimpArgs false
open Go.RowKit Go.Shelf

/-- The direction of a letter, or -1. -/
def ltr (b : Int) : Int := if b = 110 then 0 else if b = 101 then 1 else if b = 115 then 2 else if b = 119 then 3 else -1
theorem ltr_dL {d : Nat} (hd : d < 4) : ltr (dL d) = d := by
  have h4 : d = 0 ∨ d = 1 ∨ d = 2 ∨ d = 3 := by omega
  rcases h4 with rfl | rfl | rfl | rfl <;> rfl
theorem ltr_cases (b : Int) : ltr b = -1 ∧ b ≠ 110 ∧ b ≠ 101 ∧ b ≠ 115 ∧ b ≠ 119 ∨ ∃ d, d < 4 ∧ b = dL d ∧ ltr b = d := by
  by_cases h0 : b = 110
  · exact .inr ⟨0, by omega, h0, by rw [h0]; rfl⟩
  by_cases h1 : b = 101
  · exact .inr ⟨1, by omega, h1, by rw [h1]; rfl⟩
  by_cases h2 : b = 115
  · exact .inr ⟨2, by omega, h2, by rw [h2]; rfl⟩
  by_cases h3 : b = 119
  · exact .inr ⟨3, by omega, h3, by rw [h3]; rfl⟩
  exact .inl ⟨by simp [ltr, h0, h1, h2, h3], h0, h1, h2, h3⟩
/-- Where the first letters lead, if they lead anywhere. -/
def fwA (F : Nat → ByteArray) (n : Nat) (a : Int × Int) (s : ByteArray) : Nat → Option (Int × Int)
  | 0 => some a
  | k + 1 => match fwA F n a s k with
    | none => none
    | some p => if 0 ≤ ltr (byteAt s k) ∧ opP F n (stp p (ltr (byteAt s k)).toNat) = true then some (stp p (ltr (byteAt s k)).toNat) else none
def fwOk (F : Nat → ByteArray) (n : Nat) (r c : Int) (s : ByteArray) : Bool := sfOk F n r c && (decide (s.size ≤ 200) && (fwA F n (r, c) s s.size).isSome)
def fwP (F : Nat → ByteArray) (n : Nat) (r c : Int) (s : ByteArray) : Int × Int := if fwOk F n r c s = true then (fwA F n (r, c) s s.size).getD (0, 0) else (0, 0)
theorem fwA_none {F : Nat → ByteArray} {n : Nat} {a : Int × Int} {s : ByteArray} {k : Nat} (h : fwA F n a s k = none) : ∀ {m : Nat}, k ≤ m → fwA F n a s m = none
  | 0, hm => by
    obtain rfl : k = 0 := by omega
    cases h
  | m + 1, hm => by
    rcases Nat.lt_or_ge k (m + 1) with h1 | h1
    · rw [fwA, fwA_none h (show k ≤ m by omega)]
    · obtain rfl : k = m + 1 := by omega
      exact h
theorem fwA_step {F : Nat → ByteArray} {n : Nat} {a p : Int × Int} {s : ByteArray} {k d : Nat} (h : fwA F n a s k = some p) (hd : ltr (byteAt s k) = d) (ho : opP F n (stp p d) = true) : fwA F n a s (k + 1) = some (stp p d) := by
  rw [fwA, h]
  simp only [hd, Int.toNat_natCast, ho, and_true]
  rw [if_pos (by omega)]
theorem fwA_wall {F : Nat → ByteArray} {n : Nat} {a p : Int × Int} {s : ByteArray} {k d : Nat} (h : fwA F n a s k = some p) (hd : ltr (byteAt s k) = d) (ho : opP F n (stp p d) = false) : fwA F n a s (k + 1) = none := by
  rw [fwA, h]
  simp only [hd, Int.toNat_natCast, ho]
  rw [if_neg (by simp)]
theorem fwA_bad {F : Nat → ByteArray} {n : Nat} {a p : Int × Int} {s : ByteArray} {k : Nat} (h : fwA F n a s k = some p) (hd : ltr (byteAt s k) = -1) : fwA F n a s (k + 1) = none := by
  rw [fwA, h]
  simp only [hd]
  rw [if_neg (by omega)]
theorem fwA_open {F : Nat → ByteArray} {n : Nat} {a p : Int × Int} {s : ByteArray} (ha : opP F n a = true) : ∀ {k : Nat}, fwA F n a s k = some p → opP F n p = true
  | 0, h => by
    injection h with h
    rw [← h]; exact ha
  | k + 1, h => by
    rw [fwA] at h
    cases e : fwA F n a s k with
    | none => rw [e] at h; cases h
    | some q =>
      rw [e] at h
      simp only at h
      split at h
      · rename_i h1
        injection h with h
        rw [← h]; exact h1.2
      · cases h
theorem fw_no {F : Nat → ByteArray} {n : Nat} {r c : Int} {s : ByteArray} {k : Nat} (h : fwA F n (r, c) s k = none) (hk : k ≤ s.size) : fwOk F n r c s = false := by
  rw [fwOk, fwA_none h hk]
  simp
theorem dLs_get {d : Nat} (h : d < (⟨#[110, 101, 115, 119]⟩ : ByteArray).size) : (((⟨#[110, 101, 115, 119]⟩ : ByteArray)[d]).toNat : Int) = dL d := by
  have h4 : d = 0 ∨ d = 1 ∨ d = 2 ∨ d = 3 := by have : d < 4 := h; omega
  rcases h4 with rfl | rfl | rfl | rfl <;> rfl
set_option maxHeartbeats 1600000 in
theorem seLetter_any (b : Int) (w : World) :
    Calls Tryd.prog 84 #[.int .u8 b] w fun e w' => e = .returned (.int .i64 (ltr b)) ∧ w = w' := by
  go_enter Tryd.func84, Tryd.ntmps84
  go_wp2_with fail
  go_loop [3] (fun dv => ∃ d : Nat, d ≤ 4 ∧ dv = .int .i64 d ∧ Hid (∀ e, e < d → b ≠ dL e)) (fun dv => 4 - (intOf dv).toNat)
  case atStart => exact ⟨0, by omega, rfl, fun e he => by omega⟩
  case round =>
    obtain ⟨d, hd, rfl, he⟩ := hrel
    by_cases hd4 : d < 4
    · have hsz : d < (⟨#[110, 101, 115, 119]⟩ : ByteArray).size := hd4
      have hge := dLs_get hsz
      by_cases hb : b = dL d
      · have hq : (b == (((⟨#[110, 101, 115, 119]⟩ : ByteArray)[d]).toNat : Int)) = true := by rw [hge, hb]; simp
        have HX : Hid (ltr b = d) := by show _ = _; rw [hb]; exact ltr_dL hd4
        clear hb hge
        go_wp2_with fail
        go_ret
        exact ⟨ret_int HX.out.symm, rfl⟩
      · have hq : (b == (((⟨#[110, 101, 115, 119]⟩ : ByteArray)[d]).toNat : Int)) = false := by rw [hge]; simpa using hb
        have HX : Hid (∀ e, e < d + 1 → b ≠ dL e) := fun e h => by
          rcases Nat.lt_or_ge e d with h1 | h1
          · exact he.out e h1
          · obtain rfl : e = d := by omega
            exact hb
        clear hb hge
        go_wp2_with fail
        go_round
        case rel => exact ⟨d + 1, by omega, by go_num, HX.out⟩
        case measure => simp [intOf]; omega
    · obtain rfl : d = 4 := by omega
      have HX : Hid (ltr b = -1) := by
        show _ = _
        rcases ltr_cases b with h | ⟨d, hd, hb, _⟩
        · exact h.1
        · exact absurd hb (he.out d hd)
      go_wp2_with fail
      go_ret
      exact ⟨ret_int HX.out.symm, rfl⟩
theorem extract_one (s : ByteArray) {i : Nat} (hi : i < s.size) : s.extract i (i + 1) = ⟨#[s[i]]⟩ := by
  apply WideShapes.bytes_inj
  rw [ByteArray.data_extract, Array.toList_extract]
  simp only [List.extract_eq_take_drop]
  rw [List.take_drop]
  have h : s.data.toList[i]? = some s[i] := by rw [List.getElem?_eq_getElem (by simpa using hi)]; rfl
  apply List.ext_getElem?
  intro j
  simp only [List.getElem?_drop, List.getElem?_take]
  match j with
  | 0 => simp [h]
  | j + 1 => simp
theorem Contains_d (s : ByteArray) (i : Nat) (hi : i < s.size) (w : World) :
    Calls Tryd.prog 83 #[.string ⟨#[110, 101, 115, 119]⟩, .string (s.extract i (i + 1))] w fun e w' => e = .returned (.bool (decide (0 ≤ ltr (byteAt s i)))) ∧ w = w' := by
  have hcon := Any.strings_Contains_one YtpckhpkbdanjoaaDoor.laysContains ⟨#[110, 101, 115, 119]⟩ s[i] w
  change Calls Tryd.prog 83 _ _ (fun e w' => _) at hcon
  rw [extract_one s hi]
  refine hcon.mono fun e w' ⟨he, hw⟩ => ⟨?_, hw.symm⟩
  rw [he]
  congr 2
  rw [← byteAt_eq hi]
  generalize s[i] = b
  have key : ∀ n : Fin 256, decide (0 ≤ Lib.indexByte [110, 101, 115, 119] (UInt8.ofNat n.val)) = decide (0 ≤ ltr (n.val : Int)) := by decide +kernel
  have h := key ⟨b.toNat, b.toNat_lt⟩
  simp only [UInt8.ofNat_toNat] at h
  exact h

end Go.Proofs.YtpckhpkbdanjoaaDoor
