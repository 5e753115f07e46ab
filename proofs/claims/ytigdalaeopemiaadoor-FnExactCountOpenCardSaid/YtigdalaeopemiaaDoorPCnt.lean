/-
  Plain words: how many cells of a floor are open. No program in sight.
-/
import Derived.Test.YtigdalaeopemiaaDoorPFlr
import Derived.Lib.Join
namespace Go.Proofs.YtigdalaeopemiaaDoor
set_option linter.unusedVariables false
set_option linter.unusedSimpArgs false

def cntR (s : ByteArray) : Nat → Nat
  | 0 => 0
  | m + 1 => cntR s m + if byteAt s m = 46 then 1 else 0
def cntO (F : Nat → ByteArray) : Nat → Nat
  | 0 => 0
  | k + 1 => cntO F k + cntR (F k) (F k).size
theorem cntR_le (s : ByteArray) : ∀ m, cntR s m ≤ m
  | 0 => Nat.le_refl _
  | m + 1 => by
    have := cntR_le s m
    simp only [cntR]
    split <;> omega
theorem cntO_le {F : Nat → ByteArray} {n : Nat} (h : ∀ i, i < n → (F i).size ≤ 12) : ∀ k, k ≤ n → cntO F k ≤ 12 * k
  | 0, _ => Nat.le_refl _
  | k + 1, hk => by
    have h1 := cntO_le h k (by omega)
    have h2 := cntR_le (F k) (F k).size
    have h3 := h k (by omega)
    simp only [cntO]
    omega
theorem cntR_take (s : ByteArray) : ∀ m, m ≤ s.size → cntR s m = (s.data.toList.take m).count 46
  | 0, _ => by simp [cntR]
  | m + 1, hm => by
    have hl : m < s.data.toList.length := by simpa using (show m < s.size by omega)
    rw [cntR, cntR_take s m (by omega), List.take_succ_eq_append_getElem hl, List.count_append]
    congr 1
    have hg : (s.data.toList)[m] = s[m]'(by omega) := by simp; rfl
    rw [hg, List.count_singleton]
    have hb : byteAt s m = ((s[m]'(by omega)).toNat : Int) := by rw [byteAt, dif_pos (show m < s.size by omega)]
    rw [hb]
    by_cases e : s[m]'(by omega) = 46
    · rw [if_pos (by rw [e]; rfl), if_pos (by rw [e]; rfl)]
    · rw [if_neg (fun h => e (UInt8.toNat_inj.1 (by have : (46 : UInt8).toNat = 46 := rfl; omega))), if_neg (by simpa using e)]
theorem cntR_all (s : ByteArray) : cntR s s.size = s.data.toList.count 46 := by
  rw [cntR_take s s.size (Nat.le_refl _), List.take_of_length_le (by simp)]
theorem join_flat (xs : List (List UInt8)) : Lib.join xs [] = xs.flatten := by
  cases xs with
  | nil => rfl
  | cons x r => rw [Lib.join_cons, Lib.joinTail]; simp
theorem cnt_join (F : Nat → ByteArray) : ∀ n, (Lib.join (((List.range n).map F).map (·.data.toList)) []).count 46 = cntO F n
  | 0 => by simp [join_flat, cntO]
  | n + 1 => by
    have h := cnt_join F n
    rw [join_flat] at h ⊢
    rw [List.range_succ, List.map_append, List.map_append, List.flatten_append, List.count_append, h, cntO, cntR_all]
    simp
theorem len_join {F : Nat → ByteArray} {n : Nat} (h : ∀ i, i < n → (F i).size ≤ 12) : ∀ k, k ≤ n → (Lib.join (((List.range k).map F).map (·.data.toList)) []).length ≤ 12 * k
  | 0, _ => by simp [join_flat]
  | k + 1, hk => by
    have h1 := len_join h k (by omega)
    have h3 := h k (by omega)
    rw [join_flat] at h1 ⊢
    rw [List.range_succ, List.map_append, List.map_append, List.flatten_append, List.length_append]
    simp at h1 ⊢
    have : (F k).data.size = (F k).size := rfl
    omega

end Go.Proofs.YtigdalaeopemiaaDoor
