/-
  Texts of this proof, one behind the other (part 3).
-/
import Derived.Test.YthkddbonmfoaaaaQ2
import Derived.ArgAppend
import Derived.Deep.DeepAppendRoom
/-
  Rows of the call's own, element by element; an append that tells where the row lies behind it.-/
namespace Go.Proofs.Ythkddbonmfoaaaa
set_option linter.unusedVariables false
set_option linter.unusedSimpArgs false
open Go.RowKit

/-- The cells of the first k elements, in a row. -/
def rowL (c : Nat → Nat → Value) (sz : Nat) : Nat → List Value
  | 0 => []
  | k + 1 => rowL c sz k ++ (List.range sz).map (c k)
theorem rowL_len (c : Nat → Nat → Value) (sz : Nat) : ∀ k, (rowL c sz k).length = k * sz
  | 0 => by simp [rowL]
  | k + 1 => by simp [rowL, rowL_len c sz k, Nat.succ_mul]
theorem rowL_get (c : Nat → Nat → Value) (sz : Nat) : ∀ {k i j : Nat}, i < k → j < sz → (rowL c sz k)[i * sz + j]? = some (c i j)
  | k + 1, i, j, hi, hj => by
    have hl := rowL_len c sz k
    rcases Nat.lt_or_ge i k with h | h
    · have := lin_lt h hj
      rw [rowL, List.getElem?_append_left (by omega)]
      exact rowL_get c sz h hj
    · obtain rfl : i = k := by omega
      rw [rowL, List.getElem?_append_right (by omega), hl, Nat.add_sub_cancel_left, List.getElem?_map, List.getElem?_range hj]
      rfl
theorem rowL_congr {c c' : Nat → Nat → Value} {sz : Nat} : ∀ {k : Nat}, (∀ i j, i < k → j < sz → c i j = c' i j) → rowL c sz k = rowL c' sz k
  | 0, _ => rfl
  | k + 1, h => by
    rw [rowL, rowL, rowL_congr (fun i j hi hj => h i j (by omega) hj)]
    congr 1
    apply List.map_congr_left
    intro j hj
    exact h k j (by omega) (List.mem_range.1 hj)
theorem rowL_mem {c : Nat → Nat → Value} {sz k : Nat} {u : Value} (h : u ∈ rowL c sz k) : ∃ i j, i < k ∧ j < sz ∧ u = c i j := by
  induction k with
  | zero => simp [rowL] at h
  | succ k ih =>
    rw [rowL, List.mem_append] at h
    rcases h with h | h
    · obtain ⟨i, j, h1, h2, h3⟩ := ih h
      exact ⟨i, j, by omega, h2, h3⟩
    · obtain ⟨j, hj, rfl⟩ := List.mem_map.1 h
      exact ⟨k, j, by omega, List.mem_range.1 hj, rfl⟩
/-- Two rows behind each other. -/
theorem rowL_app (c d : Nat → Nat → Value) (sz n : Nat) : ∀ m, rowL c sz n ++ rowL d sz m = rowL (fun i j => if i < n then c i j else d (i - n) j) sz (n + m)
  | 0 => by
    rw [rowL, List.append_nil, Nat.add_zero]
    exact rowL_congr fun i j hi _ => by simp [hi]
  | m + 1 => by
    rw [rowL, ← List.append_assoc, rowL_app c d sz n m, show n + (m + 1) = n + m + 1 by omega, rowL]
    congr 1
    apply List.map_congr_left
    intro j _
    have : ¬ n + m < n := by omega
    simp [this]
section
variable {w w' : World} {lo hi E sz n k : Nat} {v : Value} {c : Nat → Nat → Value}
theorem own_row (h : w.ownsRow lo E sz v n (rowL c sz n)) : Own w lo w.heap.size E sz v n n c := ⟨_, h, fun g hg => (h.lt g hg).2, fun i j hi hj => rowL_get c sz hi hj⟩
theorem Own.row (h : Own w lo hi E sz v n n c) : w.ownsRow lo E sz v n (rowL c sz n) := by
  obtain ⟨xs, h1, h2, h3⟩ := h
  have : xs = rowL c sz n := by
    apply List.ext_getElem?
    intro o
    rcases Nat.lt_or_ge o (n * sz) with ho | ho
    · have hsz : 0 < sz := by
        rcases Nat.eq_zero_or_pos sz with h0 | h0
        · subst h0; omega
        · exact h0
      have a1 : o / sz < n := (Nat.div_lt_iff_lt_mul hsz).2 ho
      have a2 := Nat.mod_lt o hsz
      have e1 := h3 _ _ a1 a2
      have e2 := rowL_get c sz a1 a2
      rw [Nat.div_add_mod'] at e1 e2
      rw [e1, e2]
    · rw [List.getElem?_eq_none (by rw [h1.1]; omega), List.getElem?_eq_none (by rw [rowL_len]; omega)]
  rw [← this]
  exact h1
theorem Sl.news {blk off cap : Nat} (h : Sl w lo hi sz (.slice (some ⟨blk, off, none⟩) n cap) n c) : ∀ j u, (rowL c sz n)[j]? = some u → w.cell? ((⟨blk, off, none⟩ : Addr).add j) = some u := by
  intro o u hu
  obtain ⟨A, cap', he, _, hA⟩ := h
  injection he with e1 _ _
  subst e1
  have ho : o < n * sz := by
    have := (List.getElem?_eq_some_iff.1 hu).1
    rwa [rowL_len] at this
  have hsz : 0 < sz := by
    rcases Nat.eq_zero_or_pos sz with h0 | h0
    · subst h0; omega
    · exact h0
  have a1 : o / sz < n := (Nat.div_lt_iff_lt_mul hsz).2 ho
  have a2 := Nat.mod_lt o hsz
  obtain ⟨b, f, e, _, _, hc⟩ := hA (Nat.lt_of_le_of_lt (Nat.zero_le _) a1)
  injection e with e
  injection e with e1 e2
  subst e1 e2
  have e3 := rowL_get c sz a1 a2
  rw [Nat.div_add_mod'] at e3
  rw [hu] at e3
  have e4 := hc _ _ a1 a2
  rw [Nat.add_assoc, Nat.div_add_mod'] at e4
  rw [Addr.add_lit, e4, e3]
/-- Rows whose elements are of two types lie in two blocks. -/
theorem OwnL.apart {a b E' sz' n' K K' : Nat} {u : Value} {cc cc' : Nat → Value} (h : OwnL w a (a + 1) E sz v n K cc) (h' : OwnL w b (b + 1) E' sz' u n' K' cc') (hn : 0 < n) (hn' : 0 < n') (hE : E ≠ E') : a ≠ b := by
  rcases h with ⟨h0, _⟩ | ⟨g, cap, xs, rfl, h1, h2, h3, ⟨_, h4⟩, _⟩
  · omega
  rcases h' with ⟨h0, _⟩ | ⟨g', cap', xs', rfl, h1', h2', h3', ⟨_, h4'⟩, _⟩
  · omega
  obtain rfl : g = a := by omega
  obtain rfl : g' = b := by omega
  rcases h4 with ⟨h4, _⟩ | ⟨x, _, cur, he, _, hh, _⟩
  · cases h4
  rcases h4' with ⟨h4', _⟩ | ⟨x', _, cur', he', _, hh', _⟩
  · cases h4'
  injection he with e1 _ _
  injection e1 with e1
  injection e1 with e1
  injection he' with e2 _ _
  injection e2 with e2
  injection e2 with e2
  subst e1 e2
  intro e
  subst e
  rw [hh] at hh'
  injection hh' with hh'
  injection hh' with _ e3 _
  exact hE e3
end
/-- An append onto a row of the call's own: in its own block, or in a new one. -/
theorem wpList_append_two {P : Program} (w : World) {ops : Array Oper} {rest : List Oper} {o : Oper} {a : Act} {Q : Exit → Act → World → Prop} (hgd : o.guard = none) (s x : Operand) (t : TypeId)
    (ho : o.op = .call { callee := .builtin .append, args := #[s, x], argTypes := #[t, t] })
    (base : Nat) (e : TypeId) (i : TypeInfo) (z : Value) (size bytes : Nat) (ht : P.underlying t = some (.slice e)) (hi : P.info? e = some i) (hz : i.zero = some z)
    (hsize : i.size = size) (hby : i.bytes = bytes) (hzs : z.cells.size = size) (hsz : 0 < size)
    (v : Value) (n : Nat) (xs : List Value) (hs : a.eval s = v) (hown : w.ownsRow base e size v n xs)
    (ad : Addr) (m c : Nat) (news : List Value) (hx : a.eval x = .slice (some ad) m c) (hl : news.length = m * size) (hnews : ∀ j u, news[j]? = some u → w.cell? (ad.add j) = some u) (h1 : ∀ u ∈ news, u.oneCell' = true) (hm : 0 < m)
    (h63 : n + m ≤ maxLen) (hbytes : (n + m) * bytes ≤ 140737488355328)
    (h : ∀ v' w', ((v'.ownBlock = v.ownBlock ∧ w'.ownsRow base e size v' (n + m) (xs ++ news) ∧ w.grownBy w' v.ownBlock) ∨ (w'.ownsRow w.heap.size e size v' (n + m) (xs ++ news) ∧ w.grownBy w' none)) → wpList P ops Q rest (a.put o.dst v') w') : wpList P ops Q (o :: rest) a w := by
  rcases hown.2 with ⟨rfl, rfl⟩ | ⟨g, cap, cur, rfl, hbg, hg, hnc, hcm, hcs, htake⟩
  · refine wpList_append_grows w hgd s x t ho e i z size bytes ht hi hz hsize hby hzs hsz none 0 0 [] hs (fun _ => ⟨rfl, rfl⟩) (by simp) (fun b hb => by cases hb) ad m c news hx hl hnews h1 (by omega) h63 hbytes ?_
    intro v' w' r1 r2
    have hx0 : xs = [] := List.eq_nil_of_length_eq_zero (by simpa using hown.1)
    subst hx0
    exact h v' w' (.inr ⟨r1, r2⟩)
  · by_cases hroom : n + m ≤ cap
    · refine wpList_append_own_spare w hgd s x t ho base e i size ht hi hsize g n cap xs hs hown ad m c news hx hl hnews h1 hroom ?_
      intro w' r1 r2
      exact h _ w' (.inl ⟨rfl, r1, r2⟩)
    · refine wpList_append_grows w hgd s x t ho e i z size bytes ht hi hz hsize hby hzs hsz (some ⟨g, 0, none⟩) n cap xs hs (fun h => by cases h) hown.1 (fun b hb => by cases hb; exact hown.cells rfl) ad m c news hx hl hnews h1 (by omega) h63 hbytes ?_
      intro v' w' r1 r2
      exact h v' w' (.inr ⟨r1, r2⟩)

end Go.Proofs.Ythkddbonmfoaaaa

/-
  Walks: drawn arguments of the laws on teams' cylinders.-/
namespace Go.Proofs.Ythkddbonmfoaaaa
set_option linter.unusedVariables false
set_option linter.unusedSimpArgs false
open Go.RowKit

theorem IRow.mono {w : World} {lo lo' sz n : Nat} {v : Value} (h : IRow w lo sz v n) (hl : lo' ≤ lo) : IRow w lo' sz v n := by
  rcases h with h | ⟨q, cap, h0, h1, h2, h3⟩
  · exact .inl h
  · exact .inr ⟨q, cap, h0, h1, by omega, h3⟩

end Go.Proofs.Ythkddbonmfoaaaa

/-
  Walks: the reference's cursor: a text of a list. Whatever is drawn, it is one of them.-/
namespace Go.Proofs.Ythkddbonmfoaaaa
set_option linter.unusedVariables false
set_option linter.unusedSimpArgs false
open Go.RowKit

def isS : Value → Bool
  | .string _ => true
  | _ => false
theorem isS_str {v : Value} (h : isS v = true) : ∃ x, v = .string x := by
  unfold isS at h
  split at h
  · exact ⟨_, rfl⟩
  · cases h
set_option maxRecDepth 100000 in
set_option maxHeartbeats 1600000 in
theorem of_any (g m b off n cap : Nat) (w : World) (h : Cu w g m) (hm : m < 549755813888) (hn : 0 < n) (hn' : n ≤ 1000000) (hne : b ≠ g) (hb : b < w.heap.size) (hc : ∀ i, i < n → ∃ x, w.cell? ⟨b, off + i, none⟩ = some (.string x)) :
    Calls Try.prog 52 #[.pointer (some ⟨g, 0, none⟩), .slice (some ⟨b, off, none⟩) n cap] w fun e w' => ∃ v : ByteArray, e = .returned (.string v) ∧ (∃ i, i < n ∧ w.cell? ⟨b, off + i, none⟩ = some (.string v)) ∧ Cu w' g (m + 2) ∧ Only g (g + 1) w w' := by
  have HC := hide hc
  clear hc
  go_enter Try.func52, Try.ntmps52
  go_wp2_with fail
  refine (pick_any g m n _ h hm).mono ?_
  rintro e w1 ⟨v, rfl, hv, hc1, ho1⟩
  obtain ⟨k, rfl⟩ : ∃ k : Nat, v = k := ⟨v.toNat, by omega⟩
  have hk : k < n := by omega
  obtain ⟨x, hx⟩ := HC.out k hk
  have ck : w1.cell? ⟨b, off + k, none⟩ = some (.string x) := (ho1.cell (p := ⟨b, off + k, none⟩) hb (by show b < g ∨ g + 1 ≤ b; omega)).trans hx
  have hs := ho1.size
  have hb1 : b < w1.heap.size := by omega
  have HX : Hid (∃ i, i < n ∧ w.cell? ⟨b, off + i, none⟩ = some (.string x)) := ⟨k, hk, hx⟩
  clear hx
  go_wp2_with fail
  go_ret
  exact ⟨x, rfl, HX.out, hc1, ho1⟩
/-- One of a list that was just laid. -/
theorem of_new (g m n q : Nat) (w : World) (cs : Array Value) (t : TypeId) (h : Cu w g m) (hq : q = w.heap.size) (hm : m < 549755813888) (hn : cs.size = n) (hn0 : 0 < n) (hn' : n ≤ 1000000) (hall : cs.all isS = true) :
    Calls Try.prog 52 #[.pointer (some ⟨g, 0, none⟩), .slice (some ⟨q, 0, none⟩) n n] (w.alloc (.cells cs t)) fun e w' => ∃ v : ByteArray, e = .returned (.string v) ∧ (.string v) ∈ cs.toList ∧ Cu w' g (m + 2) ∧ Only g (g + 1) w w' := by
  subst hq
  have hlt := h.lt
  refine (of_any g m w.heap.size 0 n n _ (h.alloc _) hm hn0 hn' (by omega) (by simp) fun i hi => ?_).mono fun e w' ⟨v, h1, ⟨i, hi, hv⟩, h2, h3⟩ => ⟨v, h1, ?_, h2, ((Only.refl _ _ w).alloc _).trans h3⟩
  rotate_left
  · rw [Nat.zero_add, World.cell?_alloc_new] at hv
    exact Array.mem_toList_iff.2 (Array.mem_of_getElem? hv)
  have hi' : i < cs.size := by omega
  have h1 := (Array.all_eq_true.1 hall) i hi'
  obtain ⟨x, hx⟩ := isS_str h1
  refine ⟨x, ?_⟩
  rw [Nat.zero_add, World.cell?_alloc_new]
  rw [Array.getElem?_eq_getElem hi', hx]

end Go.Proofs.Ythkddbonmfoaaaa

/-
  Walks: the exported functions on cylinders that take numbers and cylinders alone.-/
namespace Go.Proofs.Ythkddbonmfoaaaa
set_option linter.unusedVariables false
set_option linter.unusedSimpArgs false
open Go.RowKit

/-- What a latest turn hands back. -/
def latN (v b r way res : Int) : Int := if timeF v b r way res < 0 then 0 else timeF v b r way res
def latOk (v b r way res : Int) : Bool := decide (0 ≤ timeF v b r way res)

theorem lat_yes {v b r way res : Int} (hr : 0 ≤ r) {k : Nat} (hk : k ≤ 600) (hg : okAt v b r way res k = true) (h : ∀ j, k < j → j ≤ 600 → okAt v b r way res j = false) : timeF v b r way res = k := by
  rw [timeF_of (k := k + 1) (by omega) (fun j hj => okAt_mono hr (by omega) hg) (by
    rcases Nat.lt_or_ge k 600 with h1 | h1
    · exact .inr (h _ (by omega) (by omega))
    · left; omega)]
  omega
theorem lat_no {v b r way res : Int} (h : ∀ j, j ≤ 600 → okAt v b r way res j = false) : timeF v b r way res = -1 := by
  rw [timeF_of (k := 0) (by omega) (fun j hj => by omega) (.inr (h 0 (by omega)))]
  omega
theorem mul_small {a b A B : Int} (ha : 0 ≤ a) (ha' : a ≤ A) (hb : 0 ≤ b) (hb' : b ≤ B) : 0 ≤ a * b ∧ a * b ≤ A * B := by
  refine ⟨Int.mul_nonneg ha hb, ?_⟩
  have h1 := Int.mul_le_mul_of_nonneg_left hb' ha
  have h2 := Int.mul_le_mul_of_nonneg_right ha' (show (0 : Int) ≤ B by omega)
  omega
set_option maxHeartbeats 800000 in
theorem latestTurn_any (v b r way res : Int) (w : World) (hv : 10 ≤ v) (hv' : v ≤ 3000) (h0 : 0 ≤ b) (h1 : b ≤ 330) (hr : 0 ≤ r) (hr' : r ≤ 200) (hf : 0 ≤ way) (hf' : way ≤ 300) :
    Calls Try.prog 54 #[.agg #[.int .i64 v, .int .i64 b], .int .i64 r, .int .i64 way, .int .i64 res] w fun e w' => e = .returned (.tuple #[.int .i64 (latN v b r way res), .bool (latOk v b r way res)]) ∧ Below w.heap.size w w' := by
  go_enter Try.func54, Try.ntmps54
  go_wp2_with fail
  go_loopw [10] (fun n wr => ∃ m : Nat, m ≤ 601 ∧ n = .int .i64 ((m : Int) - 1) ∧ Hid (∀ j, m ≤ j → j ≤ 600 → okAt v b r way res j = false) ∧ Below (w.heap.size + 1) (w.alloc (.cells #[.int .i64 v, .int .i64 b] 35)) wr) (fun n _ => (intOf n + 1).toNat)
  case atStart => exact ⟨601, by omega, by go_num, fun j hj => by omega, Below.refl _ _⟩
  case round =>
    obtain ⟨m, hk, rfl, hj, hb⟩ := hrel
    have c0 := box_cell hb (by omega) 0 (v := .int .i64 v) rfl
    have c1 := box_cell hb (by omega) 1 (v := .int .i64 b) rfl
    match m with
    | 0 =>
      go_wp2_with fail
      go_ret2
      have HT := lat_no (fun j h => hj.out j (by omega) h)
      exact ⟨ret_ib (by rw [latN, HT]; rfl) (by rw [latOk, HT]; rfl), (((Below.refl _ _).alloc (Nat.le_refl _) _).trans (hb.mono (by omega)))⟩
    | k + 1 =>
      rw [show (((k + 1 : Nat) : Int) - 1) = (k : Int) from by omega]
      have hmul := mul_small hr hr' (b := (k : Int) + way) (B := 900) (by omega) (by omega)
      by_cases hg : okAt v b r way res k = true
      · have HT := hide (lat_yes hr (by omega) hg (fun j a1 a2 => hj.out j (by omega) a2))
        have hg1 : aftOk v b (r * (k + way)) = true := by rw [Int.add_comm]; simp [okAt] at hg; exact hg.1
        have hg2 : decide (aftN v b (r * (k + way)) ≥ res) = true := by rw [Int.add_comm]; simp [okAt] at hg; simp; omega
        go_wp2_with (go_at_call 37; refine (barAfter_any _ _ _ _ hv hv' h0 h1 (by omega) (by omega)).mono ?_; rintro e w1 ⟨rfl, hb1⟩)
        go_ret2
        exact ⟨ret_ib (by rw [latN, HT.out, if_neg (by omega)]) (by rw [latOk, HT.out]; simp), ((((Below.refl _ _).alloc (Nat.le_refl _) _).trans (hb.mono (by omega))).trans (hb1.mono (by have := hb.size; simp at this; omega)))⟩
      · have hg' : okAt v b r way res k = false := by simpa using hg
        by_cases hg1 : aftOk v b (r * (k + way)) = true
        · have hg2 : decide (aftN v b (r * (k + way)) ≥ res) = false := by
            rw [Int.add_comm] at hg1 ⊢
            simp [okAt, hg1] at hg'; simp; omega
          go_wp2_with (go_at_call 37; refine (barAfter_any _ _ _ _ hv hv' h0 h1 (by omega) (by omega)).mono ?_; rintro e w1 ⟨rfl, hb1⟩)
          go_roundw
          case rel => exact ⟨k, by omega, by go_num, fun j a1 a2 => by
            rcases Nat.lt_or_ge k j with h | h
            · exact hj.out j h a2
            · obtain rfl : j = k := by omega
              exact hg', hb.trans (hb1.mono (by have := hb.size; simp at this; omega))⟩
          case measure => simp [intOf]
        · have hg3 : aftOk v b (r * (k + way)) = false := by simpa using hg1
          go_wp2_with (go_at_call 37; refine (barAfter_any _ _ _ _ hv hv' h0 h1 (by omega) (by omega)).mono ?_; rintro e w1 ⟨rfl, hb1⟩)
          go_roundw
          case rel => exact ⟨k, by omega, by go_num, fun j a1 a2 => by
            rcases Nat.lt_or_ge k j with h | h
            · exact hj.out j h a2
            · obtain rfl : j = k := by omega
              exact hg', hb.trans (hb1.mono (by have := hb.size; simp at this; omega))⟩
          case measure => simp [intOf]

end Go.Proofs.Ythkddbonmfoaaaa

/-
  Walks: the exported functions on cylinders, of the program and of the reference: one plain function for both.-/
namespace Go.Proofs.Ythkddbonmfoaaaa
set_option linter.unusedVariables false
set_option linter.unusedSimpArgs false
open Go.RowKit

def litInN (v b : Int) : Int := if cylB v b = true then lit v b else 0
def barAfB (v b r m : Int) : Bool := cylB v b && inB r 1 200 && inB m 0 600
def barAfN (v b r m : Int) : Int := if barAfB v b r m = true then aftN v b (r * m) else 0
def barAfOk (v b r m : Int) : Bool := barAfB v b r m && aftOk v b (r * m)
def askB (v b r way res : Int) : Bool := cylB v b && inB r 1 200 && inB way 0 300 && inB res 0 100
def mustB (v b r way res : Int) : Bool := askB v b r way res && (!aftOk v b (r * (way + 1)) || decide (aftN v b (r * (way + 1)) < res))
def lateN (v b r way res : Int) : Int := if askB v b r way res = true then latN v b r way res else 0
def lateOk (v b r way res : Int) : Bool := askB v b r way res && latOk v b r way res
def minB (v b r bar : Int) : Bool := cylB v b && inB r 1 200 && inB bar 0 330 && decide (bar ≤ b)
def minN (v b r bar : Int) : Int := if minB v b r bar = true then timeF v b r 0 bar else 0
def turnB (s t r : Int) : Bool := inB s 0 330 && inB t 0 s && inB r 0 100 && decide (s - t + r ≤ t)
def turnN (s t r : Int) : Int := if turnB s t r = true then s - t + r else 0

theorem below_box {w : World} {cs : Array Value} {t : TypeId} {w1 : World} (h : Below (w.heap.size + 1) (w.alloc (.cells cs t)) w1) : Below w.heap.size w w1 :=
  ((Below.refl _ _).alloc (Nat.le_refl _) _).trans (h.mono (by omega))
theorem box_size {w : World} {cs : Array Value} {t : TypeId} {B : Nat} {w1 : World} (h : Below B (w.alloc (.cells cs t)) w1) : w.heap.size + 1 ≤ w1.heap.size := by
  have := h.size; simp at this; omega

set_option maxHeartbeats 800000 in
theorem BarAfter_impl (v b r m : Int) (w : World) :
    Calls Try.prog 13 #[.agg #[.int .i64 v, .int .i64 b], .int .i64 r, .int .i64 m] w fun e w' => e = .returned (.tuple #[.int .i64 (barAfN v b r m), .bool (barAfOk v b r m)]) ∧ Below w.heap.size w w' := by
  cases hc5_0 : cylB v b with
  | false =>
    go_enter Try.func13, Try.ntmps13
    go_wp2_with (first | (go_at_call 35; refine (isCylinder_any _ _ _).mono ?_; rintro e w1 ⟨rfl, hb1⟩; have hz1 := hb1.size; (try (simp at hz1)); obtain ⟨hcw1, hfw1⟩ := bcell hb1; (try (have hy1 : w.heap.size < w1.heap.size := by omega)); (try (have hyy1 : w.heap.size + 1 < w1.heap.size := by omega)); (try (have hyyy1 : w.heap.size + 1 + 1 < w1.heap.size := by omega))) | (go_at_call 36; refine (isRate_any _ _).mono ?_; rintro e w' ⟨rfl, rfl⟩) | (go_at_call 28; refine (inside_any _ _ _ _).mono ?_; rintro e w' ⟨rfl, rfl⟩))
    go_ret2
    exact ⟨ret_ib (by simp [barAfN, barAfB, *]) (by simp [barAfOk, barAfB, *]), (by repeat (first | (with_reducible exact Below.refl _ _) | (with_reducible refine below_ov ?_ ?_) | (with_reducible refine Below.setCell ?_ ?_ _) | (with_reducible refine Below.alloc ?_ ?_ _) | (with_reducible refine Below.drew ?_) | (with_reducible refine below_drewN ?_ _) | (refine Below.trans ?_ (Below.mono ‹Below _ _ _› (by first | omega | (simp; done) | (simp; omega)))) | exact Below.refl _ _ | omega | (focus (simp; done)) | (focus (simp; omega))))⟩
  | true =>
    obtain ⟨⟨hc5_0l, hc5_0r⟩, hc5_0s, hc5_0t⟩ := cylB_iff.1 hc5_0
    cases hc5_1 : inB r 1 200 with
    | false =>
      go_enter Try.func13, Try.ntmps13
      go_wp2_with (first | (go_at_call 35; refine (isCylinder_any _ _ _).mono ?_; rintro e w1 ⟨rfl, hb1⟩; have hz1 := hb1.size; (try (simp at hz1)); obtain ⟨hcw1, hfw1⟩ := bcell hb1; (try (have hy1 : w.heap.size < w1.heap.size := by omega)); (try (have hyy1 : w.heap.size + 1 < w1.heap.size := by omega)); (try (have hyyy1 : w.heap.size + 1 + 1 < w1.heap.size := by omega))) | (go_at_call 36; refine (isRate_any _ _).mono ?_; rintro e w' ⟨rfl, rfl⟩) | (go_at_call 28; refine (inside_any _ _ _ _).mono ?_; rintro e w' ⟨rfl, rfl⟩))
      go_ret2
      exact ⟨ret_ib (by simp [barAfN, barAfB, *]) (by simp [barAfOk, barAfB, *]), (by repeat (first | (with_reducible exact Below.refl _ _) | (with_reducible refine below_ov ?_ ?_) | (with_reducible refine Below.setCell ?_ ?_ _) | (with_reducible refine Below.alloc ?_ ?_ _) | (with_reducible refine Below.drew ?_) | (with_reducible refine below_drewN ?_ _) | (refine Below.trans ?_ (Below.mono ‹Below _ _ _› (by first | omega | (simp; done) | (simp; omega)))) | exact Below.refl _ _ | omega | (focus (simp; done)) | (focus (simp; omega))))⟩
    | true =>
      obtain ⟨hc5_1l, hc5_1r⟩ := inB_iff.1 hc5_1
      cases hc5_2 : inB m 0 600 with
      | false =>
        go_enter Try.func13, Try.ntmps13
        go_wp2_with (first | (go_at_call 35; refine (isCylinder_any _ _ _).mono ?_; rintro e w1 ⟨rfl, hb1⟩; have hz1 := hb1.size; (try (simp at hz1)); obtain ⟨hcw1, hfw1⟩ := bcell hb1; (try (have hy1 : w.heap.size < w1.heap.size := by omega)); (try (have hyy1 : w.heap.size + 1 < w1.heap.size := by omega)); (try (have hyyy1 : w.heap.size + 1 + 1 < w1.heap.size := by omega))) | (go_at_call 36; refine (isRate_any _ _).mono ?_; rintro e w' ⟨rfl, rfl⟩) | (go_at_call 28; refine (inside_any _ _ _ _).mono ?_; rintro e w' ⟨rfl, rfl⟩))
        go_ret2
        exact ⟨ret_ib (by simp [barAfN, barAfB, *]) (by simp [barAfOk, barAfB, *]), (by repeat (first | (with_reducible exact Below.refl _ _) | (with_reducible refine below_ov ?_ ?_) | (with_reducible refine Below.setCell ?_ ?_ _) | (with_reducible refine Below.alloc ?_ ?_ _) | (with_reducible refine Below.drew ?_) | (with_reducible refine below_drewN ?_ _) | (refine Below.trans ?_ (Below.mono ‹Below _ _ _› (by first | omega | (simp; done) | (simp; omega)))) | exact Below.refl _ _ | omega | (focus (simp; done)) | (focus (simp; omega))))⟩
      | true =>
        obtain ⟨hc5_2l, hc5_2r⟩ := inB_iff.1 hc5_2
        have hmul := mul_small (a := r) (b := m) (A := 200) (B := 600) (by omega) (by omega) (by omega) (by omega)
        go_enter Try.func13, Try.ntmps13
        go_wp2_with (first | (go_at_call 35; refine (isCylinder_any _ _ _).mono ?_; rintro e w1 ⟨rfl, hb1⟩; have hz1 := hb1.size; (try (simp at hz1)); obtain ⟨hcw1, hfw1⟩ := bcell hb1; (try (have hy1 : w.heap.size < w1.heap.size := by omega)); (try (have hyy1 : w.heap.size + 1 < w1.heap.size := by omega)); (try (have hyyy1 : w.heap.size + 1 + 1 < w1.heap.size := by omega))) | (go_at_call 36; refine (isRate_any _ _).mono ?_; rintro e w' ⟨rfl, rfl⟩) | (go_at_call 28; refine (inside_any _ _ _ _).mono ?_; rintro e w' ⟨rfl, rfl⟩) | (go_at_call 37; refine (barAfter_any _ _ _ _ (by omega) (by omega) (by omega) (by omega) (by omega) (by omega)).mono ?_; rintro e w2 ⟨rfl, hb2⟩; have hz2 := hb2.size; (try (simp at hz2)); obtain ⟨hcw2, hfw2⟩ := bcell hb2; (try (have hy2 : w.heap.size < w2.heap.size := by omega)); (try (have hyy2 : w.heap.size + 1 < w2.heap.size := by omega)); (try (have hyyy2 : w.heap.size + 1 + 1 < w2.heap.size := by omega))))
        go_ret2
        exact ⟨ret_ib (by simp [barAfN, barAfB, *]) (by simp [barAfOk, barAfB, *]), (by repeat (first | (with_reducible exact Below.refl _ _) | (with_reducible refine below_ov ?_ ?_) | (with_reducible refine Below.setCell ?_ ?_ _) | (with_reducible refine Below.alloc ?_ ?_ _) | (with_reducible refine Below.drew ?_) | (with_reducible refine below_drewN ?_ _) | (refine Below.trans ?_ (Below.mono ‹Below _ _ _› (by first | omega | (simp; done) | (simp; omega)))) | exact Below.refl _ _ | omega | (focus (simp; done)) | (focus (simp; omega))))⟩
set_option maxHeartbeats 800000 in
theorem BarAfter_spec (v b r m : Int) (w : World) :
    Calls Try.prog 14 #[.agg #[.int .i64 v, .int .i64 b], .int .i64 r, .int .i64 m] w fun e w' => e = .returned (.tuple #[.int .i64 (barAfN v b r m), .bool (barAfOk v b r m)]) ∧ Below w.heap.size w w' := by
  cases hc6_0 : cylB v b with
  | false =>
    go_enter Try.func14, Try.ntmps14
    go_wp2_with (first | (go_at_call 38; refine (cyGood_any _ _ _).mono ?_; rintro e w1 ⟨rfl, hb1⟩; have hz1 := hb1.size; (try (simp at hz1)); obtain ⟨hcw1, hfw1⟩ := bcell hb1; (try (have hy1 : w.heap.size < w1.heap.size := by omega)); (try (have hyy1 : w.heap.size + 1 < w1.heap.size := by omega)); (try (have hyyy1 : w.heap.size + 1 + 1 < w1.heap.size := by omega))) | (go_at_call 34; refine (cyRate_any _ _).mono ?_; rintro e w' ⟨rfl, rfl⟩) | (go_at_call 39; refine (cyMinutes_any _ _).mono ?_; rintro e w' ⟨rfl, rfl⟩))
    go_ret2
    exact ⟨ret_ib (by simp [barAfN, barAfB, *]) (by simp [barAfOk, barAfB, *]), (by repeat (first | (with_reducible exact Below.refl _ _) | (with_reducible refine below_ov ?_ ?_) | (with_reducible refine Below.setCell ?_ ?_ _) | (with_reducible refine Below.alloc ?_ ?_ _) | (with_reducible refine Below.drew ?_) | (with_reducible refine below_drewN ?_ _) | (refine Below.trans ?_ (Below.mono ‹Below _ _ _› (by first | omega | (simp; done) | (simp; omega)))) | exact Below.refl _ _ | omega | (focus (simp; done)) | (focus (simp; omega))))⟩
  | true =>
    obtain ⟨⟨hc6_0l, hc6_0r⟩, hc6_0s, hc6_0t⟩ := cylB_iff.1 hc6_0
    cases hc6_1 : inB r 1 200 with
    | false =>
      go_enter Try.func14, Try.ntmps14
      go_wp2_with (first | (go_at_call 38; refine (cyGood_any _ _ _).mono ?_; rintro e w1 ⟨rfl, hb1⟩; have hz1 := hb1.size; (try (simp at hz1)); obtain ⟨hcw1, hfw1⟩ := bcell hb1; (try (have hy1 : w.heap.size < w1.heap.size := by omega)); (try (have hyy1 : w.heap.size + 1 < w1.heap.size := by omega)); (try (have hyyy1 : w.heap.size + 1 + 1 < w1.heap.size := by omega))) | (go_at_call 34; refine (cyRate_any _ _).mono ?_; rintro e w' ⟨rfl, rfl⟩) | (go_at_call 39; refine (cyMinutes_any _ _).mono ?_; rintro e w' ⟨rfl, rfl⟩))
      go_ret2
      exact ⟨ret_ib (by simp [barAfN, barAfB, *]) (by simp [barAfOk, barAfB, *]), (by repeat (first | (with_reducible exact Below.refl _ _) | (with_reducible refine below_ov ?_ ?_) | (with_reducible refine Below.setCell ?_ ?_ _) | (with_reducible refine Below.alloc ?_ ?_ _) | (with_reducible refine Below.drew ?_) | (with_reducible refine below_drewN ?_ _) | (refine Below.trans ?_ (Below.mono ‹Below _ _ _› (by first | omega | (simp; done) | (simp; omega)))) | exact Below.refl _ _ | omega | (focus (simp; done)) | (focus (simp; omega))))⟩
    | true =>
      obtain ⟨hc6_1l, hc6_1r⟩ := inB_iff.1 hc6_1
      cases hc6_2 : inB m 0 600 with
      | false =>
        go_enter Try.func14, Try.ntmps14
        go_wp2_with (first | (go_at_call 38; refine (cyGood_any _ _ _).mono ?_; rintro e w1 ⟨rfl, hb1⟩; have hz1 := hb1.size; (try (simp at hz1)); obtain ⟨hcw1, hfw1⟩ := bcell hb1; (try (have hy1 : w.heap.size < w1.heap.size := by omega)); (try (have hyy1 : w.heap.size + 1 < w1.heap.size := by omega)); (try (have hyyy1 : w.heap.size + 1 + 1 < w1.heap.size := by omega))) | (go_at_call 34; refine (cyRate_any _ _).mono ?_; rintro e w' ⟨rfl, rfl⟩) | (go_at_call 39; refine (cyMinutes_any _ _).mono ?_; rintro e w' ⟨rfl, rfl⟩))
        go_ret2
        exact ⟨ret_ib (by simp [barAfN, barAfB, *]) (by simp [barAfOk, barAfB, *]), (by repeat (first | (with_reducible exact Below.refl _ _) | (with_reducible refine below_ov ?_ ?_) | (with_reducible refine Below.setCell ?_ ?_ _) | (with_reducible refine Below.alloc ?_ ?_ _) | (with_reducible refine Below.drew ?_) | (with_reducible refine below_drewN ?_ _) | (refine Below.trans ?_ (Below.mono ‹Below _ _ _› (by first | omega | (simp; done) | (simp; omega)))) | exact Below.refl _ _ | omega | (focus (simp; done)) | (focus (simp; omega))))⟩
      | true =>
        obtain ⟨hc6_2l, hc6_2r⟩ := inB_iff.1 hc6_2
        go_enter Try.func14, Try.ntmps14
        go_wp2_with (first | (go_at_call 38; refine (cyGood_any _ _ _).mono ?_; rintro e w1 ⟨rfl, hb1⟩; have hz1 := hb1.size; (try (simp at hz1)); obtain ⟨hcw1, hfw1⟩ := bcell hb1; (try (have hy1 : w.heap.size < w1.heap.size := by omega)); (try (have hyy1 : w.heap.size + 1 < w1.heap.size := by omega)); (try (have hyyy1 : w.heap.size + 1 + 1 < w1.heap.size := by omega))) | (go_at_call 34; refine (cyRate_any _ _).mono ?_; rintro e w' ⟨rfl, rfl⟩) | (go_at_call 39; refine (cyMinutes_any _ _).mono ?_; rintro e w' ⟨rfl, rfl⟩) | (go_at_call 40; refine (cyAfter_any _ _ _ _ _ (by omega) (by omega) (by omega) (by omega) (by omega) (by omega) (by omega) (by omega)).mono ?_; rintro e w2 ⟨rfl, hb2⟩; have hz2 := hb2.size; (try (simp at hz2)); obtain ⟨hcw2, hfw2⟩ := bcell hb2; (try (have hy2 : w.heap.size < w2.heap.size := by omega)); (try (have hyy2 : w.heap.size + 1 < w2.heap.size := by omega)); (try (have hyyy2 : w.heap.size + 1 + 1 < w2.heap.size := by omega))))
        go_ret2
        exact ⟨ret_ib (by simp [barAfN, barAfB, *]) (by simp [barAfOk, barAfB, *]), (by repeat (first | (with_reducible exact Below.refl _ _) | (with_reducible refine below_ov ?_ ?_) | (with_reducible refine Below.setCell ?_ ?_ _) | (with_reducible refine Below.alloc ?_ ?_ _) | (with_reducible refine Below.drew ?_) | (with_reducible refine below_drewN ?_ _) | (refine Below.trans ?_ (Below.mono ‹Below _ _ _› (by first | omega | (simp; done) | (simp; omega)))) | exact Below.refl _ _ | omega | (focus (simp; done)) | (focus (simp; omega))))⟩

end Go.Proofs.Ythkddbonmfoaaaa

/-
  Walks: lists of checks.-/
namespace Go.Proofs.Ythkddbonmfoaaaa
set_option linter.unusedVariables false
set_option linter.unusedSimpArgs false
open Go.RowKit

def chk1 (m b : Nat → Int) (i : Nat) : Bool := inB (m i) 0 600 && inB (b i) 0 330 && (decide (i = 0) || (!decide (m i ≤ m (i - 1)) && !decide (b (i - 1) < b i)))
def chkB (m b : Nat → Int) (n : Nat) : Bool := allB (chk1 m b) n && inB n 1 20

theorem chkB_no {m b : Nat → Int} {n k : Nat} (hk : k < n) (h : chk1 m b k = false) : chkB m b n = false := by rw [chkB, allB_false hk h]; rfl
set_option maxRecDepth 100000 in
set_option maxHeartbeats 1600000 in
theorem areChecks_any (m b : Nat → Int) (n lo hi : Nat) (v : Value) (w : World) (hv : Sl w lo hi 2 v n (iiC m b)) (hhi : hi ≤ w.heap.size) (hn : n ≤ 4611686018427387904) :
    Calls Try.prog 29 #[v] w fun e w' => e = .returned (.bool (chkB m b n)) ∧ Below w.heap.size w w' := by
  obtain ⟨A, cap, rfl, hcap, hA⟩ := hv.open_
  clear hv
  go_enter Try.func29, Try.ntmps29
  go_wp2_with fail
  go_loopw [7] (fun i wr => ∃ k : Nat, k ≤ n ∧ i = .int .i64 k ∧ Hid (∀ j, j < k → chk1 m b j = true) ∧ Below w.heap.size w wr) (fun i _ => n - (intOf i).toNat)
  case atStart => exact ⟨0, by omega, rfl, fun j hj => by omega, Below.refl _ _⟩
  case round =>
    obtain ⟨k, hk, rfl, hj, hb⟩ := hrel
    have hzr := hb.size
    by_cases hlt : k < n
    · obtain ⟨blk, off, rfl, h1, h2, h3⟩ := (hA.below hb (by omega)) (by omega)
      have c0 : wr.cell? ⟨blk, off + k * 2, none⟩ = some (.int .i64 (m k)) := h3 k 0 hlt (by omega)
      have c1 : wr.cell? ⟨blk, off + k * 2 + 1, none⟩ = some (.int .i64 (b k)) := h3 k 1 hlt (by omega)
      have H3 := hide h3
      clear h3 hA
      have hbw : blk < wr.heap.size := by omega
      cases hc1_0 : inB (m k) 0 600 with
      | false =>
        have HF := hide (chkB_no (m := m) (b := b) hlt (by simp [chk1, *]))
        go_wp2_with fail
        go_quiet ((go_at_call 28; first | exact quiet_left (inside_any _ _ _ _) | exact quiet_add_left (inside_any _ _ _ _)))
        go_wp2
        go_ret
        exact ⟨ret_bool HF.out.symm, (by repeat (first | (with_reducible exact Below.refl _ _) | (with_reducible refine below_ov ?_ ?_) | (with_reducible refine Below.setCell ?_ ?_ _) | (with_reducible refine Below.alloc ?_ ?_ _) | (with_reducible refine Below.drew ?_) | (with_reducible refine below_drewN ?_ _) | (refine Below.trans ?_ (Below.mono ‹Below _ _ _› (by first | omega | (simp; done) | (simp; omega)))) | exact Below.refl _ _ | omega | (focus (simp; done)) | (focus (simp; omega))))⟩
      | true =>
        obtain ⟨hc1_0l, hc1_0r⟩ := inB_iff.1 hc1_0
        cases hc1_1 : inB (b k) 0 330 with
        | false =>
          have HF := hide (chkB_no (m := m) (b := b) hlt (by simp [chk1, *]))
          go_wp2_with fail
          go_quiet ((go_at_call 28; first | exact quiet_left (inside_any _ _ _ _) | exact quiet_add_left (inside_any _ _ _ _)))
          go_wp2
          go_ret
          exact ⟨ret_bool HF.out.symm, (by repeat (first | (with_reducible exact Below.refl _ _) | (with_reducible refine below_ov ?_ ?_) | (with_reducible refine Below.setCell ?_ ?_ _) | (with_reducible refine Below.alloc ?_ ?_ _) | (with_reducible refine Below.drew ?_) | (with_reducible refine below_drewN ?_ _) | (refine Below.trans ?_ (Below.mono ‹Below _ _ _› (by first | omega | (simp; done) | (simp; omega)))) | exact Below.refl _ _ | omega | (focus (simp; done)) | (focus (simp; omega))))⟩
        | true =>
          obtain ⟨hc1_1l, hc1_1r⟩ := inB_iff.1 hc1_1
          rcases Nat.eq_zero_or_pos k with hk0 | hk0
          · have d0 : decide (0 < k) = false := by simp; omega
            have dk : decide (k = 0) = true := by simp; omega
            clear hk0
            have HG : Hid (chk1 m b k = true) := by show chk1 m b k = true; simp only [chk1, *]; simp
            clear dk
            go_wp2_with fail
            go_quiet ((go_at_call 28; first | exact quiet_left (inside_any _ _ _ _) | exact quiet_add_left (inside_any _ _ _ _)))
            go_wp2
            go_roundw
            case rel => exact ⟨k + 1, by omega, by go_num, upto_snoc hj.out HG.out, (by repeat (first | (with_reducible exact Below.refl _ _) | (with_reducible refine below_ov ?_ ?_) | (with_reducible refine Below.setCell ?_ ?_ _) | (with_reducible refine Below.alloc ?_ ?_ _) | (with_reducible refine Below.drew ?_) | (with_reducible refine below_drewN ?_ _) | (refine Below.trans ?_ (Below.mono ‹Below _ _ _› (by first | omega | (simp; done) | (simp; omega)))) | exact Below.refl _ _ | omega | (focus (simp; done)) | (focus (simp; omega))))⟩
            case measure => simp [intOf]; omega
          · have d0 : decide (0 < k) = true := by simp; omega
            have p0 : wr.cell? ⟨blk, off + (k - 1) * 2, none⟩ = some (.int .i64 (m (k - 1))) := H3.out (k - 1) 0 (by omega) (by omega)
            have p1 : wr.cell? ⟨blk, off + (k - 1) * 2 + 1, none⟩ = some (.int .i64 (b (k - 1))) := H3.out (k - 1) 1 (by omega) (by omega)
            have dk : decide (k = 0) = false := by simp; omega
            cases d1 : decide (m (k - 1) ≥ m k) with
            | true =>
              have d1' : decide (m k ≤ m (k - 1)) = true := d1
              have HF := hide (chkB_no (m := m) (b := b) hlt (by simp [chk1, *]))
              clear dk
              go_wp2_with fail
              go_quiet ((go_at_call 28; first | exact quiet_left (inside_any _ _ _ _) | exact quiet_add_left (inside_any _ _ _ _)))
              go_wp2
              go_ret
              exact ⟨ret_bool HF.out.symm, (by repeat (first | (with_reducible exact Below.refl _ _) | (with_reducible refine below_ov ?_ ?_) | (with_reducible refine Below.setCell ?_ ?_ _) | (with_reducible refine Below.alloc ?_ ?_ _) | (with_reducible refine Below.drew ?_) | (with_reducible refine below_drewN ?_ _) | (refine Below.trans ?_ (Below.mono ‹Below _ _ _› (by first | omega | (simp; done) | (simp; omega)))) | exact Below.refl _ _ | omega | (focus (simp; done)) | (focus (simp; omega))))⟩
            | false =>
              have d1' : decide (m k ≤ m (k - 1)) = false := d1
              cases d2 : decide (b (k - 1) < b k) with
              | true =>
                have HF := hide (chkB_no (m := m) (b := b) hlt (by simp [chk1, *]))
                clear dk
                go_wp2_with fail
                go_quiet ((go_at_call 28; first | exact quiet_left (inside_any _ _ _ _) | exact quiet_add_left (inside_any _ _ _ _)))
                go_wp2
                go_ret
                exact ⟨ret_bool HF.out.symm, (by repeat (first | (with_reducible exact Below.refl _ _) | (with_reducible refine below_ov ?_ ?_) | (with_reducible refine Below.setCell ?_ ?_ _) | (with_reducible refine Below.alloc ?_ ?_ _) | (with_reducible refine Below.drew ?_) | (with_reducible refine below_drewN ?_ _) | (refine Below.trans ?_ (Below.mono ‹Below _ _ _› (by first | omega | (simp; done) | (simp; omega)))) | exact Below.refl _ _ | omega | (focus (simp; done)) | (focus (simp; omega))))⟩
              | false =>
                have HG : Hid (chk1 m b k = true) := by show chk1 m b k = true; simp only [chk1, *]; simp
                clear dk
                go_wp2_with fail
                go_quiet ((go_at_call 28; first | exact quiet_left (inside_any _ _ _ _) | exact quiet_add_left (inside_any _ _ _ _)))
                go_wp2
                go_roundw
                case rel => exact ⟨k + 1, by omega, by go_num, upto_snoc hj.out HG.out, (by repeat (first | (with_reducible exact Below.refl _ _) | (with_reducible refine below_ov ?_ ?_) | (with_reducible refine Below.setCell ?_ ?_ _) | (with_reducible refine Below.alloc ?_ ?_ _) | (with_reducible refine Below.drew ?_) | (with_reducible refine below_drewN ?_ _) | (refine Below.trans ?_ (Below.mono ‹Below _ _ _› (by first | omega | (simp; done) | (simp; omega)))) | exact Below.refl _ _ | omega | (focus (simp; done)) | (focus (simp; omega))))⟩
                case measure => simp [intOf]; omega
    · obtain rfl : k = n := by omega
      have HE : Hid (allB (chk1 m b) k = true) := allB_iff.2 hj.out
      go_wp2_with (go_at_call 28; refine (inside_any _ _ _ _).mono ?_; rintro e w' ⟨rfl, rfl⟩)
      go_ret
      exact ⟨ret_bool (by rw [chkB, HE.out]; rfl), hb⟩

end Go.Proofs.Ythkddbonmfoaaaa

/-
  Walks: the laws' own helpers for Check: copies, comparisons, sizes (printed by gen_data.py).-/
namespace Go.Proofs.Ythkddbonmfoaaaa
set_option linter.unusedVariables false
set_option linter.unusedSimpArgs false
open Go.RowKit


end Go.Proofs.Ythkddbonmfoaaaa

/-
  Walks: lists of checks: the reference's, copies, comparisons, sizes; the exported AreChecks.-/
namespace Go.Proofs.Ythkddbonmfoaaaa
set_option linter.unusedVariables false
set_option linter.unusedSimpArgs false
open Go.RowKit

set_option maxRecDepth 100000 in
set_option maxHeartbeats 1600000 in
theorem cyChecks_any (m b : Nat → Int) (n lo hi : Nat) (v : Value) (w : World) (hv : Sl w lo hi 2 v n (iiC m b)) (hhi : hi ≤ w.heap.size) (hn : n ≤ 4611686018427387904) :
    Calls Try.prog 32 #[v] w fun e w' => e = .returned (.bool (chkB m b n)) ∧ Below w.heap.size w w' := by
  obtain ⟨A, cap, rfl, hcap, hA⟩ := hv.open_
  clear hv
  go_enter Try.func32, Try.ntmps32
  go_wp2_with fail
  go_loopw [7] (fun i wr => ∃ k : Nat, k ≤ n ∧ i = .int .i64 k ∧ Hid (∀ j, j < k → chk1 m b j = true) ∧ Below w.heap.size w wr) (fun i _ => n - (intOf i).toNat)
  case atStart => exact ⟨0, by omega, rfl, fun j hj => by omega, Below.refl _ _⟩
  case round =>
    obtain ⟨k, hk, rfl, hj, hb⟩ := hrel
    have hzr := hb.size
    by_cases hlt : k < n
    · obtain ⟨blk, off, rfl, h1, h2, h3⟩ := (hA.below hb (by omega)) (by omega)
      have c0 : wr.cell? ⟨blk, off + k * 2, none⟩ = some (.int .i64 (m k)) := h3 k 0 hlt (by omega)
      have c1 : wr.cell? ⟨blk, off + k * 2 + 1, none⟩ = some (.int .i64 (b k)) := h3 k 1 hlt (by omega)
      have H3 := hide h3
      clear h3 hA
      have hbw : blk < wr.heap.size := by omega
      cases hc1_0 : inB (m k) 0 600 with
      | false =>
        have HF := hide (chkB_no (m := m) (b := b) hlt (by simp [chk1, *]))
        go_wp2_with fail
        go_quiet ((first | (go_at_call 39; first | exact quiet_left (cyMinutes_any _ _) | exact quiet_add_left (cyMinutes_any _ _)) | (go_at_call 62; first | exact quiet_left (cyBar_any _ _) | exact quiet_add_left (cyBar_any _ _))))
        go_wp2
        go_ret
        exact ⟨ret_bool HF.out.symm, (by repeat (first | (with_reducible exact Below.refl _ _) | (with_reducible refine below_ov ?_ ?_) | (with_reducible refine Below.setCell ?_ ?_ _) | (with_reducible refine Below.alloc ?_ ?_ _) | (with_reducible refine Below.drew ?_) | (with_reducible refine below_drewN ?_ _) | (refine Below.trans ?_ (Below.mono ‹Below _ _ _› (by first | omega | (simp; done) | (simp; omega)))) | exact Below.refl _ _ | omega | (focus (simp; done)) | (focus (simp; omega))))⟩
      | true =>
        obtain ⟨hc1_0l, hc1_0r⟩ := inB_iff.1 hc1_0
        cases hc1_1 : inB (b k) 0 330 with
        | false =>
          have HF := hide (chkB_no (m := m) (b := b) hlt (by simp [chk1, *]))
          go_wp2_with fail
          go_quiet ((first | (go_at_call 39; first | exact quiet_left (cyMinutes_any _ _) | exact quiet_add_left (cyMinutes_any _ _)) | (go_at_call 62; first | exact quiet_left (cyBar_any _ _) | exact quiet_add_left (cyBar_any _ _))))
          go_wp2
          go_ret
          exact ⟨ret_bool HF.out.symm, (by repeat (first | (with_reducible exact Below.refl _ _) | (with_reducible refine below_ov ?_ ?_) | (with_reducible refine Below.setCell ?_ ?_ _) | (with_reducible refine Below.alloc ?_ ?_ _) | (with_reducible refine Below.drew ?_) | (with_reducible refine below_drewN ?_ _) | (refine Below.trans ?_ (Below.mono ‹Below _ _ _› (by first | omega | (simp; done) | (simp; omega)))) | exact Below.refl _ _ | omega | (focus (simp; done)) | (focus (simp; omega))))⟩
        | true =>
          obtain ⟨hc1_1l, hc1_1r⟩ := inB_iff.1 hc1_1
          rcases Nat.eq_zero_or_pos k with hk0 | hk0
          · have d0 : decide (0 < k) = false := by simp; omega
            have dk : decide (k = 0) = true := by simp; omega
            clear hk0
            have HG : Hid (chk1 m b k = true) := by show chk1 m b k = true; simp only [chk1, *]; simp
            clear dk
            go_wp2_with fail
            go_quiet ((first | (go_at_call 39; first | exact quiet_left (cyMinutes_any _ _) | exact quiet_add_left (cyMinutes_any _ _)) | (go_at_call 62; first | exact quiet_left (cyBar_any _ _) | exact quiet_add_left (cyBar_any _ _))))
            go_wp2
            go_roundw
            case rel => exact ⟨k + 1, by omega, by go_num, upto_snoc hj.out HG.out, (by repeat (first | (with_reducible exact Below.refl _ _) | (with_reducible refine below_ov ?_ ?_) | (with_reducible refine Below.setCell ?_ ?_ _) | (with_reducible refine Below.alloc ?_ ?_ _) | (with_reducible refine Below.drew ?_) | (with_reducible refine below_drewN ?_ _) | (refine Below.trans ?_ (Below.mono ‹Below _ _ _› (by first | omega | (simp; done) | (simp; omega)))) | exact Below.refl _ _ | omega | (focus (simp; done)) | (focus (simp; omega))))⟩
            case measure => simp [intOf]; omega
          · have d0 : decide (0 < k) = true := by simp; omega
            have p0 : wr.cell? ⟨blk, off + (k - 1) * 2, none⟩ = some (.int .i64 (m (k - 1))) := H3.out (k - 1) 0 (by omega) (by omega)
            have p1 : wr.cell? ⟨blk, off + (k - 1) * 2 + 1, none⟩ = some (.int .i64 (b (k - 1))) := H3.out (k - 1) 1 (by omega) (by omega)
            have dk : decide (k = 0) = false := by simp; omega
            cases d1 : decide (m (k - 1) ≥ m k) with
            | true =>
              have d1' : decide (m k ≤ m (k - 1)) = true := d1
              have HF := hide (chkB_no (m := m) (b := b) hlt (by simp [chk1, *]))
              clear dk
              go_wp2_with fail
              go_quiet ((first | (go_at_call 39; first | exact quiet_left (cyMinutes_any _ _) | exact quiet_add_left (cyMinutes_any _ _)) | (go_at_call 62; first | exact quiet_left (cyBar_any _ _) | exact quiet_add_left (cyBar_any _ _))))
              go_wp2
              go_ret
              exact ⟨ret_bool HF.out.symm, (by repeat (first | (with_reducible exact Below.refl _ _) | (with_reducible refine below_ov ?_ ?_) | (with_reducible refine Below.setCell ?_ ?_ _) | (with_reducible refine Below.alloc ?_ ?_ _) | (with_reducible refine Below.drew ?_) | (with_reducible refine below_drewN ?_ _) | (refine Below.trans ?_ (Below.mono ‹Below _ _ _› (by first | omega | (simp; done) | (simp; omega)))) | exact Below.refl _ _ | omega | (focus (simp; done)) | (focus (simp; omega))))⟩
            | false =>
              have d1' : decide (m k ≤ m (k - 1)) = false := d1
              cases d2 : decide (b (k - 1) < b k) with
              | true =>
                have HF := hide (chkB_no (m := m) (b := b) hlt (by simp [chk1, *]))
                clear dk
                go_wp2_with fail
                go_quiet ((first | (go_at_call 39; first | exact quiet_left (cyMinutes_any _ _) | exact quiet_add_left (cyMinutes_any _ _)) | (go_at_call 62; first | exact quiet_left (cyBar_any _ _) | exact quiet_add_left (cyBar_any _ _))))
                go_wp2
                go_ret
                exact ⟨ret_bool HF.out.symm, (by repeat (first | (with_reducible exact Below.refl _ _) | (with_reducible refine below_ov ?_ ?_) | (with_reducible refine Below.setCell ?_ ?_ _) | (with_reducible refine Below.alloc ?_ ?_ _) | (with_reducible refine Below.drew ?_) | (with_reducible refine below_drewN ?_ _) | (refine Below.trans ?_ (Below.mono ‹Below _ _ _› (by first | omega | (simp; done) | (simp; omega)))) | exact Below.refl _ _ | omega | (focus (simp; done)) | (focus (simp; omega))))⟩
              | false =>
                have HG : Hid (chk1 m b k = true) := by show chk1 m b k = true; simp only [chk1, *]; simp
                clear dk
                go_wp2_with fail
                go_quiet ((first | (go_at_call 39; first | exact quiet_left (cyMinutes_any _ _) | exact quiet_add_left (cyMinutes_any _ _)) | (go_at_call 62; first | exact quiet_left (cyBar_any _ _) | exact quiet_add_left (cyBar_any _ _))))
                go_wp2
                go_roundw
                case rel => exact ⟨k + 1, by omega, by go_num, upto_snoc hj.out HG.out, (by repeat (first | (with_reducible exact Below.refl _ _) | (with_reducible refine below_ov ?_ ?_) | (with_reducible refine Below.setCell ?_ ?_ _) | (with_reducible refine Below.alloc ?_ ?_ _) | (with_reducible refine Below.drew ?_) | (with_reducible refine below_drewN ?_ _) | (refine Below.trans ?_ (Below.mono ‹Below _ _ _› (by first | omega | (simp; done) | (simp; omega)))) | exact Below.refl _ _ | omega | (focus (simp; done)) | (focus (simp; omega))))⟩
                case measure => simp [intOf]; omega
    · obtain rfl : k = n := by omega
      have HE : Hid (allB (chk1 m b) k = true) := allB_iff.2 hj.out
      go_wp2_with (go_at_call 56; refine (l1In_any _ _ _ _).mono ?_; rintro e w' ⟨rfl, rfl⟩)
      go_ret
      exact ⟨ret_bool (by rw [chkB, HE.out]; rfl), hb⟩


end Go.Proofs.Ythkddbonmfoaaaa
