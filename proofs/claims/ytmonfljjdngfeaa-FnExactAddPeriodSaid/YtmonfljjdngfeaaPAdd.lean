/-
  Plain words: one period more in its place.
-/
import Derived.Test.YtmonfljjdngfeaaPPer
import Derived.Test.YtmonfljjdngfeaaPRow
namespace Go.Proofs.Ytmonfljjdngfeaa
set_option linter.unusedVariables false
set_option linter.unusedSimpArgs false

def adS (c : Nat → ByteArray) (k : Nat) (s : ByteArray) (i : Nat) : ByteArray := if i < k then c i else if i = k then s else c (i - 1)
def adI (a : Nat → Int) (k : Nat) (x : Int) (i : Nat) : Int := if i < k then a i else if i = k then x else a (i - 1)
def adK (c : Nat → ByteArray) (a : Nat → Int) (n : Nat) (s : ByteArray) (x : Int) : Nat := lead (fun i => befB (c i) (a i) s x) n
def adF (c : Nat → ByteArray) (a b : Nat → Int) (n : Nat) (s : ByteArray) (x y : Int) : Bool := pdB c a b n && perB s x y
def adOk (c : Nat → ByteArray) (a b : Nat → Int) (n : Nat) (s : ByteArray) (x y : Int) : Bool := adF c a b n s x y && pdB (adS c (adK c a n s x) s) (adI a (adK c a n s x) x) (adI b (adK c a n s x) y) (n + 1)
def adN (c : Nat → ByteArray) (a b : Nat → Int) (n : Nat) (s : ByteArray) (x y : Int) : Nat := if adOk c a b n s x y = true then n + 1 else 0
theorem adN_le {c : Nat → ByteArray} {a b : Nat → Int} {n : Nat} {s : ByteArray} {x y : Int} (hn : n ≤ 1048575) : adN c a b n s x y ≤ 1048576 := by
  unfold adN
  split <;> omega
theorem adK_le (c : Nat → ByteArray) (a : Nat → Int) (n : Nat) (s : ByteArray) (x : Int) : adK c a n s x ≤ n := (lead_spec _ _).1
theorem befB_iff {s s' : ByteArray} {x x' : Int} : befB s x s' x' = true ↔ x < x' ∨ x = x' ∧ ltS s s' = true := by simp [befB]
theorem befB_trans {s t u : ByteArray} {x y z : Int} (h : befB s x t y = true) (h' : befB t y u z = true) : befB s x u z = true := by
  rw [befB_iff] at *
  rcases h with h | ⟨h, h1⟩
  · rcases h' with h' | ⟨h', _⟩
    · exact .inl (by omega)
    · exact .inl (by omega)
  · rcases h' with h' | ⟨h', h2⟩
    · exact .inl (by omega)
    · exact .inr ⟨by omega, ltS_trans h1 h2⟩
/-- Periods rise. -/
theorem pd_lt {c : Nat → ByteArray} {a b : Nat → Int} {n : Nat} (h : pdB c a b n = true) {i : Nat} : ∀ {j : Nat}, i < j → j < n → befB (c i) (a i) (c j) (a j) = true
  | j + 1, h1, h2 => by
    have h3 := ((pd_facts h).2 (j + 1) h2).2.1
    have h4 : befB (c j) (a j) (c (j + 1)) (a (j + 1)) = true := by simpa [ordI] using h3
    rcases Nat.lt_or_ge i j with h5 | h5
    · exact befB_trans (pd_lt h h5 (by omega)) h4
    · obtain rfl : i = j := by omega
      exact h4
/-- The row with one more. -/
theorem rowL_ad {c : Nat → ByteArray} {a b : Nat → Int} {k n : Nat} {s : ByteArray} {x y : Int} (hk : k ≤ n) :
    rowL (siiC c a b) 3 k ++ [.string s, .int .i64 x, .int .i64 y] ++ rowL (siiC (fun i => c (k + i)) (fun i => a (k + i)) (fun i => b (k + i))) 3 (n - k) = rowL (siiC (adS c k s) (adI a k x) (adI b k y)) 3 (n + 1) := by
  have h1 : rowL (siiC c a b) 3 k ++ [.string s, .int .i64 x, .int .i64 y] = rowL (siiC (adS c k s) (adI a k x) (adI b k y)) 3 (k + 1) := by
    rw [rowL]
    congr 1
    · refine rowL_congr fun i j hi _ => ?_
      simp only [siiC, adS, adI, hi, if_true]
    · simp [List.range, List.range.loop, siiC, adS, adI]
  rw [h1, rowL_app, show k + 1 + (n - k) = n + 1 by omega]
  refine rowL_congr fun i j hi _ => ?_
  split
  · rfl
  · rename_i h2
    have h3 : ¬ i < k := by omega
    have h4 : ¬ i = k := by omega
    have h5 : k + (i - (k + 1)) = i - 1 := by omega
    simp only [siiC, adS, adI, h3, h4, if_false, h5]

end Go.Proofs.Ytmonfljjdngfeaa
