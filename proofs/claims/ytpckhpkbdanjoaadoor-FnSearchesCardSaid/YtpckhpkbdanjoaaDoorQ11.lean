/-
  Texts of this proof, one behind the other (part 11).
-/
import Derived.Test.YtpckhpkbdanjoaaDoorQ10
import Derived.Lib.Join
import Derived.Shelf.Lay
import Derived.Shelf.Strings.OnBuilder
import Derived.Shelf.Strings.Count
import Derived.Shelf.Slices.Turned
/-
  Plain words: the steps are the least numbers of steps; there and back they are the same. No program in sight.-/
namespace Go.Proofs.YtpckhpkbdanjoaaDoor
set_option linter.unusedVariables false
set_option linter.unusedSimpArgs false

/-- What holds all along besides: every cell that is reached stands in the queue; the queue rises, by one at most from the k-th on; the first k are done. -/
structure BOrd (F : Nat → ByteArray) (n : Nat) (s : Bs) (k : Nat) : Prop where
  hin : ∀ j, 0 ≤ s.o j → ∃ i, i < s.m ∧ ixF F (s.q i) = j
  up : ∀ i j, i ≤ j → j < s.m → s.o (ixF F (s.q i)) ≤ s.o (ixF F (s.q j))
  top : ∀ i j, k ≤ i → i < s.m → j < s.m → s.o (ixF F (s.q j)) ≤ s.o (ixF F (s.q i)) + 1
  done : ∀ i, i < k → i < s.m → ∀ d, d < 4 → opP F n (stp (s.q i) d) = true → 0 ≤ s.o (ixF F (stp (s.q i) d)) ∧ s.o (ixF F (stp (s.q i) d)) ≤ s.o (ixF F (s.q i)) + 1
/-- In the midst of a round: the first d neighbours of cell k are done. -/
structure BMid (F : Nat → ByteArray) (n : Nat) (s : Bs) (k d : Nat) : Prop where
  ord : BOrd F n s k
  hk : k < s.m
  mid : ∀ e, e < d → opP F n (stp (s.q k) e) = true → 0 ≤ s.o (ixF F (stp (s.q k) e)) ∧ s.o (ixF F (stp (s.q k) e)) ≤ s.o (ixF F (s.q k)) + 1
section
variable {F : Nat → ByteArray} {n : Nat} {a p : Int × Int} {d k : Nat} {s : Bs}
theorem BMid.psh (hI : BInv F n a s) (h : BMid F n s k d) (hd : d < 4) : BMid F n (psh F n (s.q k) d s) k (d + 1) := by
  obtain ⟨hp, h0⟩ := hI.hq k h.hk
  unfold Go.Proofs.YtpckhpkbdanjoaaDoor.psh
  split
  · rename_i hc
    simp only [pshB, Bool.and_eq_true, decide_eq_true_eq] at hc
    obtain ⟨ho, hneg⟩ := hc
    have keep : ∀ j, 0 ≤ s.o j → updI s.o (ixF F (stp (s.q k) d)) (s.o (ixF F (s.q k)) + 1) j = s.o j := fun j hj => by
      simp only [updI]
      split
      · rename_i e
        subst e
        omega
      · rfl
    have hnew : updI s.o (ixF F (stp (s.q k) d)) (s.o (ixF F (s.q k)) + 1) (ixF F (stp (s.q k) d)) = s.o (ixF F (s.q k)) + 1 := by simp [updI]
    have old : ∀ i, i < s.m → updP s.q s.m (stp (s.q k) d) i = s.q i := fun i hi => by simp only [updP]; rw [if_neg (by omega)]
    have new : updP s.q s.m (stp (s.q k) d) s.m = stp (s.q k) d := by simp [updP]
    have val : ∀ i, i < s.m → updI s.o (ixF F (stp (s.q k) d)) (s.o (ixF F (s.q k)) + 1) (ixF F (updP s.q s.m (stp (s.q k) d) i)) = s.o (ixF F (s.q i)) := fun i hi => by
      rw [old i hi, keep _ (hI.hq i hi).2]
    have valn : updI s.o (ixF F (stp (s.q k) d)) (s.o (ixF F (s.q k)) + 1) (ixF F (updP s.q s.m (stp (s.q k) d) s.m)) = s.o (ixF F (s.q k)) + 1 := by rw [new, hnew]
    have grow : ∀ x y, (0 ≤ s.o x ∧ s.o x ≤ y) → (0 ≤ updI s.o (ixF F (stp (s.q k) d)) (s.o (ixF F (s.q k)) + 1) x ∧ updI s.o (ixF F (stp (s.q k) d)) (s.o (ixF F (s.q k)) + 1) x ≤ y) := fun x y hx => by
      rw [keep _ hx.1]; exact hx
    refine ⟨⟨?_, ?_, ?_, ?_⟩, ?_, ?_⟩
    · intro j hj
      simp only at hj ⊢
      by_cases e : j = ixF F (stp (s.q k) d)
      · exact ⟨s.m, by omega, by rw [new, e]⟩
      · have ej : updI s.o (ixF F (stp (s.q k) d)) (s.o (ixF F (s.q k)) + 1) j = s.o j := by simp [updI, e]
        rw [ej] at hj
        obtain ⟨i, h1, h2⟩ := h.ord.hin j hj
        exact ⟨i, by omega, by rw [old i h1]; exact h2⟩
    · intro i j hij hj
      simp only at hj ⊢
      rcases Nat.lt_or_ge j s.m with h1 | h1
      · rw [val i (by omega), val j h1]
        exact h.ord.up i j hij h1
      · obtain rfl : j = s.m := by omega
        rw [valn]
        rcases Nat.lt_or_ge i s.m with h2 | h2
        · rw [val i h2]
          exact h.ord.top k i (Nat.le_refl _) h.hk h2
        · obtain rfl : i = s.m := by omega
          rw [valn]
          exact Int.le_refl _
    · intro i j hki hi hj
      simp only at hi hj ⊢
      have hlow : ∀ i, k ≤ i → i < s.m → s.o (ixF F (s.q k)) ≤ s.o (ixF F (s.q i)) := fun i h1 h2 => h.ord.up k i h1 h2
      rcases Nat.lt_or_ge i s.m with h1 | h1 <;> rcases Nat.lt_or_ge j s.m with h2 | h2
      · rw [val i h1, val j h2]
        exact h.ord.top i j hki h1 h2
      · obtain rfl : j = s.m := by omega
        rw [val i h1, valn]
        have := hlow i hki h1
        omega
      · obtain rfl : i = s.m := by omega
        rw [valn, val j h2]
        have := h.ord.top k j (Nat.le_refl _) h.hk h2
        omega
      · obtain rfl : i = s.m := by omega
        obtain rfl : j = s.m := by omega
        omega
    · intro i hik hi e he hop
      simp only at hi hop ⊢
      have him : i < s.m := Nat.lt_trans hik h.hk
      rw [old i him] at hop ⊢
      rw [keep (ixF F (s.q i)) (hI.hq i him).2]
      exact grow _ _ (h.ord.done i hik him e he hop)
    · show k < s.m + 1
      have := h.hk
      omega
    · intro e he hop
      simp only at hop ⊢
      rw [old k h.hk] at hop ⊢
      rw [keep (ixF F (s.q k)) h0]
      rcases Nat.lt_or_ge e d with h1 | h1
      · exact grow _ _ (h.mid e h1 hop)
      · obtain rfl : e = d := by omega
        rw [hnew]
        exact ⟨by omega, Int.le_refl _⟩
  · rename_i hc
    refine ⟨h.ord, h.hk, fun e he hop => ?_⟩
    rcases Nat.lt_or_ge e d with h1 | h1
    · exact h.mid e h1 hop
    · obtain rfl : e = d := by omega
      have h2 : 0 ≤ s.o (ixF F (stp (s.q k) e)) := by
        simp only [pshB, hop, Bool.true_and, decide_eq_true_eq] at hc
        omega
      refine ⟨h2, ?_⟩
      obtain ⟨i, h3, h4⟩ := h.ord.hin _ h2
      rw [← h4]
      exact h.ord.top k i (Nat.le_refl _) h.hk h3
theorem BMid.pshN (hI : BInv F n a s) (h : BMid F n s k 0) : ∀ {d : Nat}, d ≤ 4 → BMid F n (pshN F n (s.q k) d s) k d
  | 0, _ => h
  | d + 1, hd => by
    obtain ⟨hp, h0⟩ := hI.hq k h.hk
    have h1 := BMid.pshN hI h (d := d) (by omega)
    obtain ⟨h2, _, _, h5⟩ := hI.pshN hp h0 (d := d) (by omega)
    have h6 := h1.psh h2 (by omega)
    rw [h5 k h.hk] at h6
    exact h6
theorem bfs_ord : ∀ (f k : Nat) (s : Bs), BInv F n a s → BOrd F n s k → n * (F 0).size ≤ f + k → ∃ k', (bfs F n f k s).m ≤ k' ∧ BOrd F n (bfs F n f k s) k'
  | 0, k, s, hI, h, hf => ⟨k, by have := hI.m_le; show s.m ≤ k; omega, h⟩
  | f + 1, k, s, hI, h, hf => by
    by_cases hk : k < s.m
    · rw [bfs_next hk]
      obtain ⟨h1, h2⟩ := hI.hq k hk
      obtain ⟨h3, _, h4, h5⟩ := hI.pshN h1 h2 (Nat.le_refl 4)
      have h6 := BMid.pshN hI (k := k) ⟨h, hk, fun e he => absurd he (Nat.not_lt_zero _)⟩ (Nat.le_refl 4)
      refine bfs_ord f (k + 1) _ h3 ⟨h6.ord.hin, h6.ord.up, fun i j hi => h6.ord.top i j (by omega), fun i hi him d hd => ?_⟩ (by omega)
      rcases Nat.lt_or_ge i k with h7 | h7
      · exact h6.ord.done i h7 him d hd
      · obtain rfl : i = k := by omega
        exact h6.mid d hd
    · rw [bfs_done hk]
      exact ⟨k, by omega, h⟩
theorem stF_ord (ha : opP F n a = true) : ∃ k', (bsF F n a).m ≤ k' ∧ BOrd F n (bsF F n a) k' := by
  refine bfs_ord _ _ _ (BInv.start ha) ⟨?_, ?_, ?_, fun i hi => absurd hi (Nat.not_lt_zero _)⟩ (by omega)
  · intro j hj
    simp only [bs0, updI] at hj
    split at hj
    · rename_i e
      exact ⟨0, by simp [bs0], by simp [bs0, e]⟩
    · omega
  · intro i j _ _
    exact Int.le_refl _
  · intro i j _ _ _
    show (bs0 F a).o (ixF F a) ≤ (bs0 F a).o (ixF F a) + 1
    omega
/-- A neighbour of a cell that is reached is reached, one step farther at most. -/
theorem stF_next (ha : opP F n a = true) (hp : opP F n p = true) (h : 0 ≤ stF F n a (ixF F p)) (hd : d < 4) (hq : opP F n (stp p d) = true) : 0 ≤ stF F n a (ixF F (stp p d)) ∧ stF F n a (ixF F (stp p d)) ≤ stF F n a (ixF F p) + 1 := by
  obtain ⟨k', hk, hO⟩ := stF_ord (a := a) ha
  obtain ⟨i, h1, h2⟩ := hO.hin _ h
  have h3 := (stF_inv ha).hq i h1
  have e := ix_inj h3.1 hp h2
  have h4 := hO.done i (by omega) h1 d hd (by rw [e]; exact hq)
  rw [e] at h4
  exact h4
/-- A way from a to b of so many steps. -/
inductive Walk (F : Nat → ByteArray) (n : Nat) (a : Int × Int) : Int × Int → Nat → Prop
  | nil : opP F n a = true → Walk F n a a 0
  | snoc {b : Int × Int} {k : Nat} (d : Nat) : Walk F n a b k → d < 4 → opP F n (stp b d) = true → Walk F n a (stp b d) (k + 1)
theorem Walk.open_ {b : Int × Int} {k : Nat} (h : Walk F n a b k) : opP F n a = true ∧ opP F n b = true := by
  induction h with
  | nil h => exact ⟨h, h⟩
  | snoc d _ _ h ih => exact ⟨ih.1, h⟩
theorem Walk.le {b : Int × Int} {k : Nat} (h : Walk F n a b k) : 0 ≤ stF F n a (ixF F b) ∧ stF F n a (ixF F b) ≤ k := by
  have ha := h.open_.1
  induction h with
  | nil h => rw [stF_zero ha]; exact ⟨Int.le_refl _, Int.le_refl _⟩
  | snoc d h1 hd h2 ih =>
    have h3 := stF_next ha h1.open_.2 ih.1 hd h2
    refine ⟨h3.1, ?_⟩
    have := ih.2
    push_cast
    omega
theorem Walk.cons {b : Int × Int} {k d : Nat} (hd : d < 4) (ha : opP F n a = true) (h : Walk F n (stp a d) b k) : Walk F n a b (k + 1) := by
  induction h with
  | nil h => exact .snoc d (.nil ha) hd h
  | snoc e _ he h2 ih => exact .snoc e ih he h2
theorem Walk.rev {b : Int × Int} {k : Nat} (h : Walk F n a b k) : Walk F n b a k := by
  induction h with
  | nil h => exact .nil h
  | snoc d h1 hd h2 ih =>
    refine Walk.cons (d := opd d) (opd_lt d) h2 ?_
    rw [stp_opd hd]
    exact ih
/-- So many steps: there is a way. -/
theorem walk_of : ∀ (k : Nat) {b : Int × Int}, opP F n a = true → opP F n b = true → stF F n a (ixF F b) = k → Walk F n a b k
  | 0, b, ha, hb, h => by
    rcases stF_near ha hb (by omega) with rfl | ⟨h1, _⟩
    · exact .nil ha
    · omega
  | k + 1, b, ha, hb, h => by
    rcases stF_near ha hb (by omega) with rfl | ⟨h1, d, hd, h2, h3⟩
    · rw [stF_zero ha] at h; omega
    · have h4 := walk_of k ha h2 (by push_cast at h; omega)
      have h5 := h4.snoc (opd d) (opd_lt d) (by rw [stp_opd hd]; exact hb)
      rw [stp_opd hd] at h5
      exact h5
theorem stF_symm {b : Int × Int} (ha : opP F n a = true) (hb : opP F n b = true) (h : 0 ≤ stF F n a (ixF F b)) : stF F n b (ixF F a) = stF F n a (ixF F b) := by
  obtain ⟨k, hk⟩ : ∃ k : Nat, stF F n a (ixF F b) = k := ⟨_, (Int.toNat_of_nonneg h).symm⟩
  have h1 := (walk_of k ha hb hk).rev.le
  obtain ⟨k', hk'⟩ : ∃ k : Nat, stF F n b (ixF F a) = k := ⟨_, (Int.toNat_of_nonneg h1.1).symm⟩
  have h2 := (walk_of k' hb ha hk').rev.le
  omega
end

end Go.Proofs.YtpckhpkbdanjoaaDoor

/-
  Plain words: how many cells of a floor are open. No program in sight.-/
namespace Go.Proofs.YtpckhpkbdanjoaaDoor
set_option linter.unusedVariables false
set_option linter.unusedSimpArgs false

def cntR (s : ByteArray) : Nat → Nat
  | 0 => 0
  | m + 1 => cntR s m + if byteAt s m = 46 then 1 else 0
def cntO (F : Nat → ByteArray) : Nat → Nat
  | 0 => 0
  | k + 1 => cntO F k + cntR (F k) (F k).size
theorem cntR_le (s : ByteArray) : ∀ m, cntR s m ≤ m
  | 0 => Nat.le_refl _
  | m + 1 => by
    have := cntR_le s m
    simp only [cntR]
    split <;> omega
theorem cntO_le {F : Nat → ByteArray} {n : Nat} (h : ∀ i, i < n → (F i).size ≤ 12) : ∀ k, k ≤ n → cntO F k ≤ 12 * k
  | 0, _ => Nat.le_refl _
  | k + 1, hk => by
    have h1 := cntO_le h k (by omega)
    have h2 := cntR_le (F k) (F k).size
    have h3 := h k (by omega)
    simp only [cntO]
    omega
theorem cntR_take (s : ByteArray) : ∀ m, m ≤ s.size → cntR s m = (s.data.toList.take m).count 46
  | 0, _ => by simp [cntR]
  | m + 1, hm => by
    have hl : m < s.data.toList.length := by simpa using (show m < s.size by omega)
    rw [cntR, cntR_take s m (by omega), List.take_succ_eq_append_getElem hl, List.count_append]
    congr 1
    have hg : (s.data.toList)[m] = s[m]'(by omega) := by simp; rfl
    rw [hg, List.count_singleton]
    have hb : byteAt s m = ((s[m]'(by omega)).toNat : Int) := by rw [byteAt, dif_pos (show m < s.size by omega)]
    rw [hb]
    by_cases e : s[m]'(by omega) = 46
    · rw [if_pos (by rw [e]; rfl), if_pos (by rw [e]; rfl)]
    · rw [if_neg (fun h => e (UInt8.toNat_inj.1 (by have : (46 : UInt8).toNat = 46 := rfl; omega))), if_neg (by simpa using e)]
theorem cntR_all (s : ByteArray) : cntR s s.size = s.data.toList.count 46 := by
  rw [cntR_take s s.size (Nat.le_refl _), List.take_of_length_le (by simp)]
theorem join_flat (xs : List (List UInt8)) : Lib.join xs [] = xs.flatten := by
  cases xs with
  | nil => rfl
  | cons x r => rw [Lib.join_cons, Lib.joinTail]; simp
theorem cnt_join (F : Nat → ByteArray) : ∀ n, (Lib.join (((List.range n).map F).map (·.data.toList)) []).count 46 = cntO F n
  | 0 => by simp [join_flat, cntO]
  | n + 1 => by
    have h := cnt_join F n
    rw [join_flat] at h ⊢
    rw [List.range_succ, List.map_append, List.map_append, List.flatten_append, List.count_append, h, cntO, cntR_all]
    simp
theorem len_join {F : Nat → ByteArray} {n : Nat} (h : ∀ i, i < n → (F i).size ≤ 12) : ∀ k, k ≤ n → (Lib.join (((List.range k).map F).map (·.data.toList)) []).length ≤ 12 * k
  | 0, _ => by simp [join_flat]
  | k + 1, hk => by
    have h1 := len_join h k (by omega)
    have h3 := h k (by omega)
    rw [join_flat] at h1 ⊢
    rw [List.range_succ, List.map_append, List.map_append, List.flatten_append, List.length_append]
    simp at h1 ⊢
    have : (F k).data.size = (F k).size := rfl
    omega

end Go.Proofs.YtpckhpkbdanjoaaDoor

/-
  Walks: CountOpen: the reference's and the program's.-/
namespace Go.Proofs
open Go.RowKit Go.Shelf
shelf_lay Lays.n156 Nm 156 at Tryd as YtpckhpkbdanjoaaDoor.laysJoin
shelf_lay Lays.n138 Nm 138 at Tryd as YtpckhpkbdanjoaaDoor.laysCount
theorem YtpckhpkbdanjoaaDoor.extraJoin : Builder.Extra Tryd.prog YtpckhpkbdanjoaaDoor.laysJoin_ren where
  sizeBuilder := by kernel_rfl
  liesBuilder := by kernel_rfl
  t5 := Tryd.underlying5
  a5 := Tryd.isAgg5
  z5 := Tryd.sizeOf5
  v5 := Tryd.zeroValue5
  infoByte := by kernel_rfl
  cellsByte := by kernel_rfl
  sizeByte := by kernel_rfl
  neB5 := by decide
end Go.Proofs
namespace Go.Proofs.YtpckhpkbdanjoaaDoor
set_option linter.unusedVariables false
set_option linter.unusedSimpArgs false
open Go.RowKit Go.Shelf

def coR (F : Nat → ByteArray) (n : Nat) : Nat := if flB F n = true then cntO F n else 0
theorem Join_floor (F : Nat → ByteArray) (n cap blk off : Nat) (w : World) (hc : ∀ i, i < n → w.cell? ⟨blk, off + i, none⟩ = some (.string (F i))) (hblk : blk < w.heap.size) (hcap : n ≤ cap) (hn : n ≤ 12) (hz : ∀ i, i < n → (F i).size ≤ 12) :
    Calls Tryd.prog 88 #[.slice (some ⟨blk, off, none⟩) n cap, .string ⟨#[]⟩] w fun e w' => (∃ s : ByteArray, e = .returned (.string s) ∧ Lib.countByte s.data.toList 46 = cntO F n) ∧ Below w.heap.size w w' := by
  have hl : ((List.range n).map F).length = n := by simp
  have h := Any.strings_Join YtpckhpkbdanjoaaDoor.laysJoin YtpckhpkbdanjoaaDoor.extraJoin blk off cap ((List.range n).map F) ⟨#[]⟩ w (fun j x hj => by
    rw [List.getElem?_map] at hj
    rcases Nat.lt_or_ge j n with h1 | h1
    · rw [List.getElem?_range h1] at hj
      cases hj
      exact hc j h1
    · rw [List.getElem?_eq_none (by simpa using h1)] at hj
      cases hj) hblk (by rw [hl]; omega) (by rw [hl]; exact hcap) (by
    have h1 := len_join hz n (Nat.le_refl _)
    have h2 : (Lib.join (((List.range n).map F).map (·.data.toList)) (⟨#[]⟩ : ByteArray).data.toList).length ≤ 12 * n := h1
    omega)
  rw [hl] at h
  refine h.mono fun e w' ⟨he, hb⟩ => ⟨⟨_, he, ?_⟩, hb⟩
  have h1 := cnt_join F n
  show List.count 46 (List.toArray _).toList = _
  rw [List.toList_toArray]
  exact h1
theorem Count_any (s : ByteArray) (w : World) :
    Calls Tryd.prog 87 #[.string s, .string ⟨#[46]⟩] w fun e w' => e = .returned (.int .i64 (Lib.countByte s.data.toList 46)) ∧ w' = w := Any.strings_Count_one YtpckhpkbdanjoaaDoor.laysCount s 46 w
set_option maxRecDepth 100000 in
set_option maxHeartbeats 1600000 in
theorem CountOpen_impl (F : Nat → ByteArray) (n lo hi : Nat) (v : Value) (w : World) (hv : Sl w lo hi 1 v n (sC F)) (hhi : hi ≤ w.heap.size) (hf : ffits F n) :
    Calls Tryd.prog 39 #[v] w fun e w' => e = .returned (.tuple #[.int .i64 (coR F n : Nat), .bool (flB F n)]) ∧ Below w.heap.size w w' := by
  obtain ⟨A, cap, rfl, hcap, hA⟩ := hv.open_
  cases e1 : flB F n with
  | false =>
    have HX : Hid (coR F n = 0) := by show _ = _; rw [coR, e1]; rfl
    go_enter Tryd.func39, Tryd.ntmps39
    go_wp2_with fail
    refine (isFloor_any F n lo hi _ _ (hv.below (B := w.heap.size) (by repeat (first | (with_reducible exact Below.refl _ _) | (with_reducible refine below_ov ?_ ?_) | (with_reducible refine Below.setCell ?_ ?_ _) | (with_reducible refine Below.alloc ?_ ?_ _) | (with_reducible refine Below.drew ?_) | (with_reducible refine below_drewN ?_ _) | (refine Below.trans ?_ (Below.mono ‹Below _ _ _› (by first | omega | (simp; done) | (simp; omega)))) | exact Below.refl _ _ | omega | (focus (simp; done)) | (focus (simp; omega)))) hhi) (by first | omega | (simp; done) | (simp; omega)) hf).mono ?_
    rintro e w1 ⟨rfl, hb1⟩
    have hz1 := hb1.size
    rw [e1]
    go_wp2_with fail
    go_ret2
    rw [HX.out]
    exact ⟨rfl, (by repeat (first | (with_reducible exact Below.refl _ _) | (with_reducible refine below_ov ?_ ?_) | (with_reducible refine Below.setCell ?_ ?_ _) | (with_reducible refine Below.alloc ?_ ?_ _) | (with_reducible refine Below.drew ?_) | (with_reducible refine below_drewN ?_ _) | (refine Below.trans ?_ (Below.mono ‹Below _ _ _› (by first | omega | (simp; done) | (simp; omega)))) | exact Below.refl _ _ | omega | (focus (simp; done)) | (focus (simp; omega))))⟩
  | true =>
    have HX : Hid (coR F n = cntO F n) := by show _ = _; rw [coR, e1]; rfl
    obtain ⟨g1, g2, g3, g4, g5, _⟩ := flB_facts e1
    obtain ⟨blk, off, rfl, h1, h2, h3⟩ := hA (by omega)
    have hz : Hid (∀ i, i < n → (F i).size ≤ 12) := fun i hi => by rw [g5 i hi]; exact g4
    have hck : Hid (∀ i, i < n → w.cell? ⟨blk, off + i, none⟩ = some (.string (F i))) := fun i hi => by
      have := h3 i 0 hi (by omega)
      simpa [sC] using this
    have lb : blk < w.heap.size := by omega
    clear g5 h3 hA
    go_enter Tryd.func39, Tryd.ntmps39
    go_wp2_with fail
    refine (isFloor_any F n lo hi _ _ (hv.below (B := w.heap.size) (by repeat (first | (with_reducible exact Below.refl _ _) | (with_reducible refine below_ov ?_ ?_) | (with_reducible refine Below.setCell ?_ ?_ _) | (with_reducible refine Below.alloc ?_ ?_ _) | (with_reducible refine Below.drew ?_) | (with_reducible refine below_drewN ?_ _) | (refine Below.trans ?_ (Below.mono ‹Below _ _ _› (by first | omega | (simp; done) | (simp; omega)))) | exact Below.refl _ _ | omega | (focus (simp; done)) | (focus (simp; omega)))) hhi) (by first | omega | (simp; done) | (simp; omega)) hf).mono ?_
    rintro e w1 ⟨rfl, hb1⟩
    have hz1 := hb1.size
    (try (simp at hz1))
    rw [e1]
    clear e1
    go_wp2_with fail
    refine (Join_floor F n cap blk off _ (fun i hi => (Below.cell (B := w.heap.size) (by repeat (first | (with_reducible exact Below.refl _ _) | (with_reducible refine below_ov ?_ ?_) | (with_reducible refine Below.setCell ?_ ?_ _) | (with_reducible refine Below.alloc ?_ ?_ _) | (with_reducible refine Below.drew ?_) | (with_reducible refine below_drewN ?_ _) | (refine Below.trans ?_ (Below.mono ‹Below _ _ _› (by first | omega | (simp; done) | (simp; omega)))) | exact Below.refl _ _ | omega | (focus (simp; done)) | (focus (simp; omega)))) (p := ⟨blk, off + i, none⟩) lb).trans (hck.out i hi)) (by first | omega | (simp; done) | (simp; omega)) hcap g2 hz.out).mono ?_
    rintro e w2 ⟨⟨s, rfl, hs⟩, hb2⟩
    have hz2 := hb2.size
    have HS := hide hs
    clear hs
    go_wp2_with fail
    refine (Count_any s _).mono ?_
    rintro e w3 ⟨rfl, rfl⟩
    rw [HS.out]
    go_wp2_with fail
    go_ret2
    rw [HX.out]
    exact ⟨rfl, (by repeat (first | (with_reducible exact Below.refl _ _) | (with_reducible refine below_ov ?_ ?_) | (with_reducible refine Below.setCell ?_ ?_ _) | (with_reducible refine Below.alloc ?_ ?_ _) | (with_reducible refine Below.drew ?_) | (with_reducible refine below_drewN ?_ _) | (refine Below.trans ?_ (Below.mono ‹Below _ _ _› (by first | omega | (simp; done) | (simp; omega)))) | exact Below.refl _ _ | omega | (focus (simp; done)) | (focus (simp; omega))))⟩
set_option maxRecDepth 100000 in
set_option maxHeartbeats 1600000 in
theorem CountOpen_spec (F : Nat → ByteArray) (n lo hi : Nat) (v : Value) (w : World) (hv : Sl w lo hi 1 v n (sC F)) (hhi : hi ≤ w.heap.size) (hf : ffits F n) :
    Calls Tryd.prog 40 #[v] w fun e w' => e = .returned (.tuple #[.int .i64 (coR F n : Nat), .bool (flB F n)]) ∧ Below w.heap.size w w' := by
  obtain ⟨A, cap, rfl, hcap, hA⟩ := hv.open_
  cases e1 : flB F n with
  | false =>
    have HX : Hid (coR F n = 0) := by show _ = _; rw [coR, e1]; rfl
    go_enter Tryd.func40, Tryd.ntmps40
    go_wp2_with fail
    refine (seGood_any F n lo hi _ _ (hv.below (B := w.heap.size) (by repeat (first | (with_reducible exact Below.refl _ _) | (with_reducible refine below_ov ?_ ?_) | (with_reducible refine Below.setCell ?_ ?_ _) | (with_reducible refine Below.alloc ?_ ?_ _) | (with_reducible refine Below.drew ?_) | (with_reducible refine below_drewN ?_ _) | (refine Below.trans ?_ (Below.mono ‹Below _ _ _› (by first | omega | (simp; done) | (simp; omega)))) | exact Below.refl _ _ | omega | (focus (simp; done)) | (focus (simp; omega)))) hhi) (by first | omega | (simp; done) | (simp; omega)) hf).mono ?_
    rintro e w1 ⟨rfl, hb1⟩
    have hz1 := hb1.size
    rw [e1]
    go_wp2_with fail
    go_ret2
    rw [HX.out]
    exact ⟨rfl, (by repeat (first | (with_reducible exact Below.refl _ _) | (with_reducible refine below_ov ?_ ?_) | (with_reducible refine Below.setCell ?_ ?_ _) | (with_reducible refine Below.alloc ?_ ?_ _) | (with_reducible refine Below.drew ?_) | (with_reducible refine below_drewN ?_ _) | (refine Below.trans ?_ (Below.mono ‹Below _ _ _› (by first | omega | (simp; done) | (simp; omega)))) | exact Below.refl _ _ | omega | (focus (simp; done)) | (focus (simp; omega))))⟩
  | true =>
    have HX : Hid (coR F n = cntO F n) := by show _ = _; rw [coR, e1]; rfl
    obtain ⟨g1, g2, g3, g4, g5, _⟩ := flB_facts e1
    obtain ⟨blk, off, rfl, h1, h2, h3⟩ := hA (by omega)
    have hz : Hid (∀ i, i < n → (F i).size ≤ 12) := fun i hi => by rw [g5 i hi]; exact g4
    have hck : Hid (∀ i, i < n → w.cell? ⟨blk, off + i, none⟩ = some (.string (F i))) := fun i hi => by
      have := h3 i 0 hi (by omega)
      simpa [sC] using this
    have lb : blk < w.heap.size := by omega
    clear g5 h3 hA
    go_enter Tryd.func40, Tryd.ntmps40
    go_wp2_with fail
    refine (seGood_any F n lo hi _ _ (hv.below (B := w.heap.size) (by repeat (first | (with_reducible exact Below.refl _ _) | (with_reducible refine below_ov ?_ ?_) | (with_reducible refine Below.setCell ?_ ?_ _) | (with_reducible refine Below.alloc ?_ ?_ _) | (with_reducible refine Below.drew ?_) | (with_reducible refine below_drewN ?_ _) | (refine Below.trans ?_ (Below.mono ‹Below _ _ _› (by first | omega | (simp; done) | (simp; omega)))) | exact Below.refl _ _ | omega | (focus (simp; done)) | (focus (simp; omega)))) hhi) (by first | omega | (simp; done) | (simp; omega)) hf).mono ?_
    rintro e w1 ⟨rfl, hb1⟩
    have hz1 := hb1.size
    rw [e1]
    clear e1
    go_wp2_with fail
    go_loopg [4, 13] (n + 1) (fun gn cv iv wr => ∃ k : Nat, k ≤ n ∧ n - k < gn ∧ cv = .int .i64 (cntO F k : Nat) ∧ iv = .int .i64 k ∧ Below w.heap.size w wr)
    case atStart => exact ⟨0, by omega, by omega, rfl, rfl, (by repeat (first | (with_reducible exact Below.refl _ _) | (with_reducible refine below_ov ?_ ?_) | (with_reducible refine Below.setCell ?_ ?_ _) | (with_reducible refine Below.alloc ?_ ?_ _) | (with_reducible refine Below.drew ?_) | (with_reducible refine below_drewN ?_ _) | (refine Below.trans ?_ (Below.mono ‹Below _ _ _› (by first | omega | (simp; done) | (simp; omega)))) | exact Below.refl _ _ | omega | (focus (simp; done)) | (focus (simp; omega))))⟩
    case round =>
      obtain ⟨k, hk, hgn, rfl, rfl, hb⟩ := hrel
      have hzr := hb.size
      by_cases hkn : k < n
      · have ck := (hb.cell (p := ⟨blk, off + k, none⟩) lb).trans (hck.out k hkn)
        have l0 : blk < wr.heap.size := by omega
        have zk := hz.out k hkn
        have cle := cntO_le hz.out k hk
        go_wp2_with fail
        obtain ⟨wo, ewo⟩ : ∃ wo : World, wo = wr := ⟨_, rfl⟩
        subst ewo
        have hbo := hb
        go_loopg [4, 7] ((F k).size + 1) (fun gm cv iv wr => ∃ m : Nat, m ≤ (F k).size ∧ (F k).size - m < gm ∧ cv = .int .i64 ((cntO F k + cntR (F k) m : Nat) : Int) ∧ iv = .int .i64 m ∧ Below w.heap.size w wr)
        case atStart => exact ⟨0, by omega, by omega, rfl, rfl, hbo⟩
        case round =>
          clear hb hzr
          obtain ⟨m, hm, hgm, rfl, rfl, hb⟩ := hrel
          have rle := cntR_le (F k) m
          by_cases hmn : m < (F k).size
          · have hby := byteAt_eq hmn
            by_cases i46 : byteAt (F k) m = 46
            · have HG : Hid (cntR (F k) (m + 1) = cntR (F k) m + 1) := by show _ = _; rw [cntR, if_pos i46]
              have d3 : (((F k)[m].toNat : Int) == 46) = true := by simp; omega
              clear hby i46
              go_wp2_with fail
              go_roundg ((F k).size - m)
              case measure => omega
              case rel => exact ⟨m + 1, by omega, by omega, by rw [HG.out]; go_num, by go_num, (by repeat (first | (with_reducible exact Below.refl _ _) | (with_reducible refine below_ov ?_ ?_) | (with_reducible refine Below.setCell ?_ ?_ _) | (with_reducible refine Below.alloc ?_ ?_ _) | (with_reducible refine Below.drew ?_) | (with_reducible refine below_drewN ?_ _) | (refine Below.trans ?_ (Below.mono ‹Below _ _ _› (by first | omega | (simp; done) | (simp; omega)))) | exact Below.refl _ _ | omega | (focus (simp; done)) | (focus (simp; omega))))⟩
            · have HG : Hid (cntR (F k) (m + 1) = cntR (F k) m) := by show _ = _; rw [cntR, if_neg i46]; rfl
              have d3 : (((F k)[m].toNat : Int) == 46) = false := by simp; omega
              clear hby i46
              go_wp2_with fail
              go_roundg ((F k).size - m)
              case measure => omega
              case rel => exact ⟨m + 1, by omega, by omega, by rw [HG.out], by go_num, (by repeat (first | (with_reducible exact Below.refl _ _) | (with_reducible refine below_ov ?_ ?_) | (with_reducible refine Below.setCell ?_ ?_ _) | (with_reducible refine Below.alloc ?_ ?_ _) | (with_reducible refine Below.drew ?_) | (with_reducible refine below_drewN ?_ _) | (refine Below.trans ?_ (Below.mono ‹Below _ _ _› (by first | omega | (simp; done) | (simp; omega)))) | exact Below.refl _ _ | omega | (focus (simp; done)) | (focus (simp; omega))))⟩
          · obtain rfl : m = (F k).size := by omega
            go_wp2_with fail
            go_roundg (n - k)
            case measure => omega
            case rel => exact ⟨k + 1, by omega, by omega, rfl, by go_num, (by repeat (first | (with_reducible exact Below.refl _ _) | (with_reducible refine below_ov ?_ ?_) | (with_reducible refine Below.setCell ?_ ?_ _) | (with_reducible refine Below.alloc ?_ ?_ _) | (with_reducible refine Below.drew ?_) | (with_reducible refine below_drewN ?_ _) | (refine Below.trans ?_ (Below.mono ‹Below _ _ _› (by first | omega | (simp; done) | (simp; omega)))) | exact Below.refl _ _ | omega | (focus (simp; done)) | (focus (simp; omega))))⟩
      · obtain rfl : k = n := by omega
        go_wp2_with fail
        go_ret2
        rw [HX.out]
        exact ⟨rfl, hb⟩

end Go.Proofs.YtpckhpkbdanjoaaDoor

/-
  Walks: the farthest cell: the program's and the reference's.-/
namespace Go.Proofs
open Go.RowKit Go.Shelf
shelf_lay Lays.n113 Nm 113 at Tryd as YtpckhpkbdanjoaaDoor.laysMax
shelf_lay Lays.n108 Nm 108 at Tryd as YtpckhpkbdanjoaaDoor.laysIndex
end Go.Proofs
namespace Go.Proofs.YtpckhpkbdanjoaaDoor
set_option linter.unusedVariables false
set_option linter.unusedSimpArgs false
open Go.RowKit Go.Shelf

/-- The greatest of the first k numbers and its first place. -/
def mxF (o : Nat → Int) : Nat → Int × Nat
  | 0 => (-1, 0)
  | k + 1 => if (mxF o k).1 < o k then (o k, k) else mxF o k
def mxL (o : Nat → Int) (N : Nat) : List Int := (List.range N).map o
theorem mxL_len (o : Nat → Int) (N : Nat) : (mxL o N).length = N := by simp [mxL]
theorem mxL_get (o : Nat → Int) {N j : Nat} (h : j < N) : (mxL o N).getD j 0 = o j := by simp [mxL, h]
theorem mxF_spec {o : Nat → Int} {N : Nat} (hb : ∀ i, -1 ≤ o i) : ∀ k, k < N → (mxF o (k + 1)).2 < k + 1 ∧ (mxF o (k + 1)).1 = o (mxF o (k + 1)).2 ∧ (∀ j, j < (mxF o (k + 1)).2 → o j < (mxF o (k + 1)).1) ∧ (∀ j, j < k + 1 → o j ≤ (mxF o (k + 1)).1) ∧ Lib.maxOf ((mxL o N).take (k + 1)) = (mxF o (k + 1)).1
  | 0, hN => by
    have h0 := hb 0
    have e : mxF o 1 = if (-1 : Int) < o 0 then (o 0, 0) else (-1, 0) := rfl
    have m1 : Lib.maxOf ((mxL o N).take (0 + 1)) = o 0 := by rw [Nat.zero_add, Lib.maxOf_one, mxL_get o hN]
    rw [m1]
    show (mxF o 1).2 < _ ∧ _
    rw [e]
    by_cases h : (-1 : Int) < o 0
    · rw [if_pos h]
      refine ⟨by show 0 < 0 + 1; omega, rfl, fun j hj => absurd hj (Nat.not_lt_zero _), fun j hj => ?_, rfl⟩
      obtain rfl : j = 0 := by omega
      exact Int.le_refl _
    · rw [if_neg h]
      refine ⟨by show 0 < 0 + 1; omega, by show (-1 : Int) = o 0; omega, fun j hj => absurd hj (Nat.not_lt_zero _), fun j hj => ?_, by show o 0 = -1; omega⟩
      obtain rfl : j = 0 := by omega
      show o 0 ≤ -1
      omega
  | k + 1, hN => by
    obtain ⟨h1, h2, h3, h4, h5⟩ := mxF_spec (N := N) hb k (by omega)
    have e : mxF o (k + 1 + 1) = if (mxF o (k + 1)).1 < o (k + 1) then (o (k + 1), k + 1) else mxF o (k + 1) := rfl
    have m := Lib.maxOf_step (mxL o N) (k + 1) (by omega) (by rw [mxL_len]; omega)
    rw [h5, mxL_get o hN] at m
    rw [m, e]
    by_cases h : (mxF o (k + 1)).1 < o (k + 1)
    · rw [if_pos h]
      refine ⟨by show k + 1 < _; omega, rfl, fun j hj => ?_, fun j hj => ?_, by show max _ _ = o (k + 1); omega⟩
      · exact Int.lt_of_le_of_lt (h4 j hj) h
      · rcases Nat.lt_succ_iff_lt_or_eq.1 hj with hj | rfl
        · exact Int.le_trans (h4 j hj) (Int.le_of_lt h)
        · exact Int.le_refl _
    · rw [if_neg h]
      refine ⟨by omega, h2, h3, fun j hj => ?_, by omega⟩
      rcases Nat.lt_succ_iff_lt_or_eq.1 hj with hj | rfl
      · exact h4 j hj
      · omega
theorem mxF_all {o : Nat → Int} {N : Nat} (hb : ∀ i, -1 ≤ o i) (hN : 0 < N) : (mxF o N).2 < N ∧ Lib.maxOf ((mxL o N).take N) = (mxF o N).1 ∧ Lib.idxOf ((mxL o N).take N) (mxF o N).1 = (mxF o N).2 := by
  obtain ⟨k, rfl⟩ : ∃ k, N = k + 1 := ⟨N - 1, by omega⟩
  obtain ⟨h1, h2, h3, _, h5⟩ := mxF_spec (N := k + 1) hb k (by omega)
  refine ⟨h1, h5, Lib.idxOf_hit _ _ _ _ h1 (by rw [mxL_len]; omega) ?_ fun j hj => ?_⟩
  · rw [mxL_get o h1]
    exact h2.symm
  · have := h3 j hj
    rw [mxL_get o (by omega)]
    omega
theorem mxF_bd {o : Nat → Int} {B : Int} (hb : ∀ i, -1 ≤ o i ∧ o i ≤ B) (hB : -1 ≤ B) : ∀ k, -1 ≤ (mxF o k).1 ∧ (mxF o k).1 ≤ B ∧ (mxF o k).2 ≤ k
  | 0 => ⟨Int.le_refl _, hB, Nat.le_refl _⟩
  | k + 1 => by
    obtain ⟨a, b, c⟩ := mxF_bd hb hB k
    rw [mxF]
    split
    · exact ⟨(hb k).1, (hb k).2, Nat.le_succ _⟩
    · exact ⟨a, b, Nat.le_succ_of_le c⟩
def faK (F : Nat → ByteArray) (n : Nat) (r c : Int) : Int × Nat := mxF (stF F n (r, c)) (n * (F 0).size)
def faP (F : Nat → ByteArray) (n : Nat) (r c : Int) : Int × Int := if sfOk F n r c = true then (((faK F n r c).2 : Int) / ((F 0).size : Int), ((faK F n r c).2 : Int) % ((F 0).size : Int)) else (0, 0)
def faN (F : Nat → ByteArray) (n : Nat) (r c : Int) : Int := if sfOk F n r c = true then (faK F n r c).1 else 0
/-- What the call hands back. -/
def FaRes (F : Nat → ByteArray) (n : Nat) (r c : Int) (w : World) (e : Ending) (w' : World) : Prop := e = .returned (.tuple #[.agg #[.int .i64 (faP F n r c).1, .int .i64 (faP F n r c).2], .int .i64 (faN F n r c), .bool (sfOk F n r c)]) ∧ Below w.heap.size w w'
theorem fa_nil {F : Nat → ByteArray} {n : Nat} {r c : Int} {w w' : World} (h : sfOk F n r c = false) (hb : Below w.heap.size w w') : FaRes F n r c w (.returned (.tuple #[.agg #[.int .i64 0, .int .i64 0], .int .i64 0, .bool false])) w' :=
  ⟨by rw [faP, faN, h]; rfl, hb⟩
theorem fa_at {F : Nat → ByteArray} {n : Nat} {r c : Int} {w w' : World} {m : Int} {k : Nat} (h : sfOk F n r c = true) (hk : faK F n r c = (m, k)) (hb : Below w.heap.size w w') : FaRes F n r c w (.returned (.tuple #[.agg #[.int .i64 ((k : Int) / ((F 0).size : Int)), .int .i64 ((k : Int) % ((F 0).size : Int))], .int .i64 m, .bool true])) w' :=
  ⟨by rw [faP, faN, if_pos h, if_pos h, hk, h], hb⟩
theorem div_in (k W : Nat) (hk : k ≤ 1000) : IntKind.i64.wrap ((k : Int) / (W : Int)) = (k : Int) / (W : Int) ∧ IntKind.i64.wrap ((k : Int) % (W : Int)) = (k : Int) % (W : Int) := by
  have h1 : (k : Int) / (W : Int) = ((k / W : Nat) : Int) := rfl
  have h2 : (k : Int) % (W : Int) = ((k % W : Nat) : Int) := rfl
  have h3 := Nat.div_le_self k W
  have h4 := Nat.mod_le k W
  rw [h1, h2]
  generalize k / W = a at h3 ⊢
  generalize k % W = b at h4 ⊢
  exact ⟨IntWalk.i64_in _ (by omega), IntWalk.i64_in _ (by omega)⟩
set_option maxRecDepth 100000 in
set_option maxHeartbeats 1600000 in
theorem seCell_any (F : Nat → ByteArray) (n k : Nat) (lo hi : Nat) (v : Value) (w : World) (hv : Sl w lo hi 1 v n (sC F)) (hhi : hi ≤ w.heap.size) (hg : flB F n = true) (hk : k ≤ 1000) :
    Calls Tryd.prog 79 #[v, .int .i64 k] w fun e w' => e = .returned (.agg #[.int .i64 ((k : Int) / ((F 0).size : Int)), .int .i64 ((k : Int) % ((F 0).size : Int))]) ∧ Below w.heap.size w w' := by
  obtain ⟨A, cap, rfl, hcap, hA⟩ := hv.open_
  obtain ⟨g1, g2, g3, g4, _, _⟩ := flB_facts hg
  obtain ⟨blk, off, rfl, h1, h2, h3⟩ := hA (by omega)
  have c0 : w.cell? ⟨blk, off, none⟩ = some (.string (F 0)) := by simpa [sC] using h3 0 0 (by omega) (by omega)
  have l0 : blk < w.heap.size := by omega
  obtain ⟨z1, z2⟩ := div_in k (F 0).size hk
  have hW0 : ((F 0).size : Int) ≠ 0 := by omega
  have hW1 : (F 0).size ≠ 0 := by omega
  have hn0 : n ≠ 0 := by omega
  have Z3 : Hid ((k : Int).tmod ((F 0).size : Int) = (k : Int) % ((F 0).size : Int)) := Int.tmod_eq_emod_of_nonneg (by omega)
  clear hg hA hv h3
  go_enter Tryd.func79, Tryd.ntmps79
  go_wp2_with fail
  refine wp_region_mixd [(0, true), (1, true), (2, true), (3, true), (4, true), (5, true), (6, true), (7, true), (8, true), (9, true), (10, true), (11, true), (12, true), (13, false)] (fun W => W.cell? ⟨blk, off, none⟩ = some (.string (F 0))) (by kernel_rfl) (by kernel_rfl) (by kernel_rfl) (by kernel_rfl) ((World.cell?_alloc_lt _ _ _ l0).trans c0) ?_
  intro wd hwd _
  have hbd : Below w.heap.size w wd := by rw [hwd.out]; exact Below.drew ((Below.refl _ _).alloc (Nat.le_refl _) _)
  have Bd : Bx2 wd w.heap.size 0 0 := by rw [hwd.out]; exact (Bx2.new w 0 0).below (B := w.heap.size + 1) (Below.drew (Below.refl _ _)) (by omega)
  clear hwd
  refine mix_look _ _ rfl rfl (fun w' _ => BigFrame.run_move _ rfl w') ?_
  go_simp
  refine mix_look _ _ rfl rfl (fun w' _ => BigFrame.run_move _ rfl w') ?_
  go_simp
  refine mix_look _ (.pointer (some ⟨blk, off, none⟩)) rfl rfl (fun w' hw' => (by go_simp)) ?_
  go_simp
  refine mix_look _ (.string (F 0)) rfl rfl (fun w' hw' => (by go_simp)) ?_
  go_simp
  refine mix_look _ (.int .i64 (F 0).size) rfl rfl (fun w' hw' => (by go_simp)) ?_
  go_simp
  refine mix_look _ (.int .i64 ((k : Int) / ((F 0).size : Int))) rfl rfl (fun w' hw' => (by go_simp)) ?_
  go_simp
  refine mix_look _ _ rfl rfl (fun w' _ => BigFrame.run_move _ rfl w') ?_
  go_simp
  refine mix_look _ _ rfl rfl (fun w' _ => BigFrame.run_move _ rfl w') ?_
  go_simp
  refine mix_look _ (.pointer (some ⟨blk, off, none⟩)) rfl rfl (fun w' hw' => (by go_simp)) ?_
  go_simp
  refine mix_look _ (.string (F 0)) rfl rfl (fun w' hw' => (by go_simp)) ?_
  go_simp
  refine mix_look _ (.int .i64 (F 0).size) rfl rfl (fun w' hw' => (by go_simp)) ?_
  go_simp
  refine mix_look _ (.int .i64 ((k : Int) % ((F 0).size : Int))) rfl rfl (fun w' hw' => (by go_simp; exact Z3.out)) ?_
  go_simp
  refine mix_look _ (.agg #[.int .i64 ((k : Int) / ((F 0).size : Int)), .int .i64 ((k : Int) % ((F 0).size : Int))]) rfl rfl (fun w' hw' => (by go_simp)) ?_
  go_simp
  obtain ⟨w1, W1⟩ : ∃ W, W = (wd.setCell ⟨w.heap.size, 0, none⟩ (.int .i64 ((k : Int) / ((F 0).size : Int)))).setCell ⟨w.heap.size, 1, none⟩ (.int .i64 ((k : Int) % ((F 0).size : Int))) := ⟨_, rfl⟩
  have B1 : Bx2 w1 w.heap.size ((k : Int) / ((F 0).size : Int)) ((k : Int) % ((F 0).size : Int)) := by
    rw [W1]
    exact Bd.set _ _
  have hb1 : Below w.heap.size w w1 := by
    rw [W1]
    exact (hbd.setCell (Nat.le_refl _) _).setCell (Nat.le_refl _) _
  have hc1 : w1.cell? ⟨blk, off, none⟩ = some (.string (F 0)) := (hb1.cell (p := ⟨blk, off, none⟩) l0).trans c0
  have HW1 := hide W1
  clear W1
  obtain ⟨d0, d1, df, dl⟩ := Bd
  refine mix_store _ w1 rfl rfl (by rw [HW1.out]; go_simp) hc1 ?_
  clear d0 d1 df dl
  obtain ⟨q0, q1, qf, ql⟩ := B1
  go_simp
  refine wpMix_nil ?_
  go_wp2_with fail
  exact bodyPost_ret (v := .agg #[.int .i64 ((k : Int) / ((F 0).size : Int)), .int .i64 ((k : Int) % ((F 0).size : Int))]) (by simp [results, Tryd.results79, go_sem, *]) rfl ⟨rfl, hb1⟩
set_option maxRecDepth 100000 in
set_option maxHeartbeats 3200000 in
theorem FarthestCell_spec (F : Nat → ByteArray) (n : Nat) (r c : Int) (lo hi : Nat) (v : Value) (w : World) (hv : Sl w lo hi 1 v n (sC F)) (hhi : hi ≤ w.heap.size) (hf : ffits F n) :
    Calls Tryd.prog 34 #[v, .agg #[.int .i64 r, .int .i64 c]] w (FaRes F n r c w) := by
  obtain ⟨A, capF, rfl, hcap, hA⟩ := hv.open_
  clear hA
  go_enter Tryd.func34, Tryd.ntmps34
  go_wp2_with fail
  refine (seAsked_any F n r c lo hi _ _ (hv.below (B := w.heap.size) (by repeat (first | (with_reducible exact Below.refl _ _) | (with_reducible refine below_ov ?_ ?_) | (with_reducible refine Below.setCell ?_ ?_ _) | (with_reducible refine Below.alloc ?_ ?_ _) | (with_reducible refine Below.drew ?_) | (with_reducible refine below_drewN ?_ _) | (refine Below.trans ?_ (Below.mono ‹Below _ _ _› (by first | omega | (simp; done) | (simp; omega)))) | exact Below.refl _ _ | omega | (focus (simp; done)) | (focus (simp; omega)))) hhi) (by simp; omega) hf).mono ?_
  rintro e w1 ⟨rfl, hb1⟩
  have hz1 := hb1.size
  simp at hz1
  have hb01 : Below w.heap.size w w1 := (by repeat (first | (with_reducible exact Below.refl _ _) | (with_reducible refine below_ov ?_ ?_) | (with_reducible refine Below.setCell ?_ ?_ _) | (with_reducible refine Below.alloc ?_ ?_ _) | (with_reducible refine Below.drew ?_) | (with_reducible refine below_drewN ?_ _) | (refine Below.trans ?_ (Below.mono ‹Below _ _ _› (by first | omega | (simp; done) | (simp; omega)))) | exact Below.refl _ _ | omega | (focus (simp; done)) | (focus (simp; omega))))
  have B1 : Bx2 w1 w.heap.size r c := ((Bx2.new w r c).below ((Below.refl _ _).alloc (Nat.le_refl _) _) (by simp)).below hb1 (by simp; omega)
  have R1 : Bx2 w1 (w.heap.size + 1) 0 0 := by
    have h := Bx2.new (w.alloc (.cells #[.int .i64 r, .int .i64 c] 38)) 0 0
    simp only [World.size_alloc] at h
    exact h.below hb1 (by simp)
  cases e1 : sfOk F n r c with
  | false =>
    have HX := hide e1
    obtain ⟨r0, r1, rf, rl⟩ := R1
    clear B1
    go_wp2_with fail
    refine bodyPost_ret (v := .tuple #[.agg #[.int .i64 0, .int .i64 0], .int .i64 0, .bool false]) (by simp [results, Tryd.results34, go_sem, *]) rfl (fa_nil HX.out ?_)
    exact (hb01.setCell (by simp) _).setCell (by simp) _
  | true =>
    have HS := hide e1
    have HGO : Hid (flB F n = true ∧ opB F n r c = true) := by
      show _ ∧ _
      simpa only [sfOk, Bool.and_eq_true] using e1
    clear e1
    have har := fl_area HGO.out.1
    have hbd : ∀ i, -1 ≤ stF F n (r, c) i ∧ stF F n (r, c) i ≤ 1000 := fun i => by
      have := stF_bd (F := F) (n := n) (a := (r, c)) HGO.out.2 i
      omega
    have HBD := hide hbd
    clear hbd
    have HR1 := hide R1
    obtain ⟨p0, p1, pf, pl⟩ := B1
    clear R1
    go_wp2_with fail
    refine (seSteps_any F n r c lo hi _ _ (hv.below (B := w.heap.size) hb01 hhi) (by omega) HGO.out.1 HGO.out.2).mono ?_
    rintro e w3 ⟨g, co, rfl, ho, hg1, hg2, hb3⟩
    have hz3 := hb3.size
    have hb03 : Below w.heap.size w w3 := hb01.trans (hb3.mono (by omega))
    have HR3 := hide (HR1.out.below hb3 HR1.out.lt)
    have HO := hide ho
    clear ho p0 p1 pf pl
    have hN : n * (F 0).size ≤ 144 := har.2
    obtain ⟨N, HN⟩ : ∃ N, N = n * (F 0).size := ⟨_, rfl⟩
    rw [← HN] at HO hN
    rw [← HN]
    have HNN := hide HN
    clear HN har
    have d9 : decide ((N : Int) < 0) = false := decide_eq_false (by omega)
    go_wp2_with fail
    go_loopg [7, 8, 20] (N + 1) (fun gn bv mv kv wr => ∃ k : Nat, k ≤ N ∧ N - k < gn ∧ bv = .int .i64 ((mxF (stF F n (r, c)) k).2 : Nat) ∧ mv = .int .i64 (mxF (stF F n (r, c)) k).1 ∧ kv = .int .i64 k ∧ Below w3.heap.size w3 wr)
    case atStart => exact ⟨0, by omega, by omega, rfl, rfl, rfl, Below.refl _ _⟩
    case round =>
      obtain ⟨k, hk, hgk, rfl, rfl, rfl, hb⟩ := hrel
      have hzr := hb.size
      by_cases hkn : k < N
      · obtain ⟨-, k1, kc⟩ := (HO.out.below hb (by omega)).cell (by omega) (o := k) (by omega)
        have k0 := kc hkn
        clear kc
        by_cases hlt : (mxF (stF F n (r, c)) k).1 < stF F n (r, c) k
        · have HM : Hid (mxF (stF F n (r, c)) (k + 1) = (stF F n (r, c) k, k)) := if_pos hlt
          have d1 : decide (stF F n (r, c) k > (mxF (stF F n (r, c)) k).1) = true := decide_eq_true hlt
          go_wp2_with fail
          go_roundg (N - k)
          case measure => omega
          case rel => exact ⟨k + 1, by omega, by omega, by rw [HM.out], by rw [HM.out], by go_num, hb⟩
        · have HM : Hid (mxF (stF F n (r, c)) (k + 1) = mxF (stF F n (r, c)) k) := if_neg hlt
          have d1 : decide (stF F n (r, c) k > (mxF (stF F n (r, c)) k).1) = false := decide_eq_false hlt
          go_wp2_with fail
          go_roundg (N - k)
          case measure => omega
          case rel => exact ⟨k + 1, by omega, by omega, by rw [HM.out], by rw [HM.out], by go_num, hb⟩
      · obtain rfl : k = N := by omega
        have hmx := mxF_bd HBD.out (by omega) k
        obtain ⟨K, HK⟩ : ∃ K, K = (mxF (stF F n (r, c)) k).2 := ⟨_, rfl⟩
        obtain ⟨M, HM⟩ : ∃ M, M = (mxF (stF F n (r, c)) k).1 := ⟨_, rfl⟩
        have HFA : Hid (faK F n r c = (M, K)) := by show _ = _; rw [faK, ← HNN.out, HK, HM]
        rw [← HK, ← HM] at hmx
        rw [← HK, ← HM]
        clear HK HM
        go_wp2_with fail
        refine (seCell_any F n K lo hi _ _ (hv.below (B := w.heap.size) (hb03.trans (hb.mono (by omega))) hhi) (by omega) HGO.out.1 (by omega)).mono ?_
        rintro e w4 ⟨rfl, hb4⟩
        have hz4 := hb4.size
        have hb34 : Below w3.heap.size w3 w4 := hb.trans (hb4.mono (by omega))
        have hb04 : Below w.heap.size w w4 := hb03.trans (hb34.mono (by omega))
        obtain ⟨r0, r1, rf, rl⟩ := HR3.out.below hb34 HR3.out.lt
        go_wp2_with fail
        refine bodyPost_ret (v := .tuple #[.agg #[.int .i64 ((K : Int) / ((F 0).size : Int)), .int .i64 ((K : Int) % ((F 0).size : Int))], .int .i64 M, .bool true]) (by simp [results, Tryd.results34, go_sem, *]) rfl (fa_at HS.out HFA.out ?_)
        exact (hb04.setCell (by simp) _).setCell (by simp) _
theorem Max_row (o : Nat → Int) (N g co : Nat) (hN : 0 < N) (hN2 : N ≤ 1000) (hb : ∀ i, -1 ≤ o i) (w : World) (hc : ∀ j, j < N → w.cell? ⟨g, j, none⟩ = some (.int .i64 (o j))) :
    Calls Tryd.prog 77 #[.slice (some ⟨g, 0, none⟩) N co] w fun e w' => e = .returned (.int .i64 (mxF o N).1) ∧ w' = w := by
  have h := Any.slices_Max_int YtpckhpkbdanjoaaDoor.laysMax g 0 N co (mxL o N) w hN (by rw [mxL_len]; omega) (by omega) (fun j hj => by
    rw [mxL_len] at hj
    rw [mxL_get o hj, Nat.zero_add]
    exact hc j hj)
  change Calls Tryd.prog 77 _ _ (fun e w' => _) at h
  rw [(mxF_all hb hN).2.1] at h
  exact h
theorem Index_row (o : Nat → Int) (N g co : Nat) (hN : 0 < N) (hN2 : N ≤ 1000) (hb : ∀ i, -1 ≤ o i) (w : World) (hc : ∀ j, j < N → w.cell? ⟨g, j, none⟩ = some (.int .i64 (o j))) :
    Calls Tryd.prog 78 #[.slice (some ⟨g, 0, none⟩) N co, .int .i64 (mxF o N).1] w fun e w' => e = .returned (.int .i64 ((mxF o N).2 : Nat)) ∧ w' = w := by
  have h := Any.slices_Index_int YtpckhpkbdanjoaaDoor.laysIndex g 0 N co (mxL o N) (mxF o N).1 w (by rw [mxL_len]; omega) (by omega) (fun j hj => by
    rw [mxL_len] at hj
    rw [mxL_get o hj, Nat.zero_add]
    exact hc j hj)
  change Calls Tryd.prog 78 _ _ (fun e w' => _) at h
  rw [(mxF_all hb hN).2.2] at h
  exact h
set_option maxRecDepth 100000 in
set_option maxHeartbeats 3200000 in
theorem FarthestCell_impl (F : Nat → ByteArray) (n : Nat) (r c : Int) (lo hi : Nat) (v : Value) (w : World) (hv : Sl w lo hi 1 v n (sC F)) (hhi : hi ≤ w.heap.size) (hf : ffits F n) :
    Calls Tryd.prog 33 #[v, .agg #[.int .i64 r, .int .i64 c]] w (FaRes F n r c w) := by
  obtain ⟨A, capF, rfl, hcap, hA⟩ := hv.open_
  go_enter Tryd.func33, Tryd.ntmps33
  go_wp2_with fail
  refine (isFloor_any F n lo hi _ _ (hv.below (B := w.heap.size) (by repeat (first | (with_reducible exact Below.refl _ _) | (with_reducible refine below_ov ?_ ?_) | (with_reducible refine Below.setCell ?_ ?_ _) | (with_reducible refine Below.alloc ?_ ?_ _) | (with_reducible refine Below.drew ?_) | (with_reducible refine below_drewN ?_ _) | (refine Below.trans ?_ (Below.mono ‹Below _ _ _› (by first | omega | (simp; done) | (simp; omega)))) | exact Below.refl _ _ | omega | (focus (simp; done)) | (focus (simp; omega)))) hhi) (by simp; omega) hf).mono ?_
  rintro e w0 ⟨rfl, hb0⟩
  have hz0 := hb0.size
  simp at hz0
  have hb00 : Below w.heap.size w w0 := (by repeat (first | (with_reducible exact Below.refl _ _) | (with_reducible refine below_ov ?_ ?_) | (with_reducible refine Below.setCell ?_ ?_ _) | (with_reducible refine Below.alloc ?_ ?_ _) | (with_reducible refine Below.drew ?_) | (with_reducible refine below_drewN ?_ _) | (refine Below.trans ?_ (Below.mono ‹Below _ _ _› (by first | omega | (simp; done) | (simp; omega)))) | exact Below.refl _ _ | omega | (focus (simp; done)) | (focus (simp; omega))))
  have B0 : Bx2 w0 w.heap.size r c := ((Bx2.new w r c).below ((Below.refl _ _).alloc (Nat.le_refl _) _) (by simp)).below hb0 (by simp; omega)
  have R0 : Bx2 w0 (w.heap.size + 1) 0 0 := by
    have h := Bx2.new (w.alloc (.cells #[.int .i64 r, .int .i64 c] 38)) 0 0
    simp only [World.size_alloc] at h
    exact h.below hb0 (by simp)
  cases e0 : flB F n with
  | false =>
    have HX : Hid (sfOk F n r c = false) := by show _ = _; rw [sfOk, e0]; rfl
    obtain ⟨r0, r1, rf, rl⟩ := R0
    clear B0
    go_wp2_with fail
    refine bodyPost_ret (v := .tuple #[.agg #[.int .i64 0, .int .i64 0], .int .i64 0, .bool false]) (by simp [results, Tryd.results33, go_sem, *]) rfl (fa_nil HX.out ?_)
    exact (hb00.setCell (by simp) _).setCell (by simp) _
  | true =>
  have HG := hide e0
  have HB0 := hide B0
  have HR0 := hide R0
  obtain ⟨p0, p1, pf, pl⟩ := B0
  clear e0 R0
  go_wp2_with fail
  refine (isOpen_any F n r c lo hi _ _ (hv.below (B := w.heap.size) hb00 hhi) (by omega) HG.out).mono ?_
  rintro e w1 ⟨rfl, hb1⟩
  have hz1 := hb1.size
  have hb01 : Below w.heap.size w w1 := hb00.trans (hb1.mono (by omega))
  have B1 := HB0.out.below hb1 pl
  have R1 := HR0.out.below hb1 HR0.out.lt
  clear p0 p1 pf pl
  cases e1 : opB F n r c with
  | false =>
    have HX : Hid (sfOk F n r c = false) := by show _ = _; rw [sfOk, e1]; simp
    obtain ⟨r0, r1, rf, rl⟩ := R1
    clear B1
    go_wp2_with fail
    refine bodyPost_ret (v := .tuple #[.agg #[.int .i64 0, .int .i64 0], .int .i64 0, .bool false]) (by simp [results, Tryd.results33, go_sem, *]) rfl (fa_nil HX.out ?_)
    exact (hb01.setCell (by simp) _).setCell (by simp) _
  | true =>
    have HS : Hid (sfOk F n r c = true) := by show _ = _; rw [sfOk, HG.out, e1]; rfl
    have HO1 := hide e1
    have HBD : Hid (∀ i, -1 ≤ stF F n (r, c) i ∧ stF F n (r, c) i ≤ 1000) := fun i => by
      have := stF_bd (F := F) (n := n) (a := (r, c)) HO1.out i
      have := fl_area HG.out
      omega
    clear e1
    have har := fl_area HG.out
    obtain ⟨g1, g2, g3, g4, _, _⟩ := flB_facts HG.out
    obtain ⟨blk, off, rfl, h1, h2, h3⟩ := hA (by omega)
    have c0 : w.cell? ⟨blk, off, none⟩ = some (.string (F 0)) := by simpa [sC] using h3 0 0 (by omega) (by omega)
    have l0 : blk < w.heap.size := by omega
    have c1 : w1.cell? ⟨blk, off, none⟩ = some (.string (F 0)) := (hb01.cell (p := ⟨blk, off, none⟩) l0).trans c0
    have hn0 : n ≠ 0 := by omega
    have hW0 : ((F 0).size : Int) ≠ 0 := by omega
    have HB1 := hide B1
    have HR1 := hide R1
    have HC1 := hide c1
    have hl1 : blk < w1.heap.size := by omega
    clear hA h3 c0 B1 R1 c1
    go_wp2_with fail
    refine wp_region_mixd [(0, true), (1, true), (3, true), (4, true), (5, true), (6, true), (2, false), (7, true), (8, true)] (fun W => Below w1.heap.size w1 W) (by kernel_rfl) (by kernel_rfl) (by kernel_rfl) (by kernel_rfl) (Below.drew (Below.refl _ _)) ?_
    intro wd hwd hbd
    have hzd := hbd.size
    have HCC : Hid (∀ W, Below w1.heap.size w1 W → (W.cell? ⟨w.heap.size, 0, none⟩ = some (.int .i64 r) ∧ W.cell? ⟨w.heap.size, 1, none⟩ = some (.int .i64 c)) ∧ W.cell? ⟨blk, off, none⟩ = some (.string (F 0))) := fun W hW =>
      ⟨⟨(HB1.out.below hW HB1.out.lt).c0, (HB1.out.below hW HB1.out.lt).c1⟩, (hW.cell (p := ⟨blk, off, none⟩) hl1).trans HC1.out⟩
    refine mix_look _ _ rfl rfl (fun w' _ => BigFrame.run_move _ rfl w') ?_
    go_simp
    refine mix_look _ (.agg #[.int .i64 r, .int .i64 c]) rfl rfl (fun w' hw' => (by obtain ⟨⟨a0, a1⟩, a2⟩ := HCC.out w' hw'; go_simp)) ?_
    go_simp
    refine mix_look _ _ rfl rfl (fun w' _ => BigFrame.run_move _ rfl w') ?_
    go_simp
    refine mix_look _ (.pointer (some ⟨blk, off, none⟩)) rfl rfl (fun w' hw' => (by go_simp)) ?_
    go_simp
    refine mix_look _ (.string (F 0)) rfl rfl (fun w' hw' => (by obtain ⟨⟨a0, a1⟩, a2⟩ := HCC.out w' hw'; go_simp)) ?_
    go_simp
    refine mix_look _ (.int .i64 (F 0).size) rfl rfl (fun w' hw' => (by go_simp)) ?_
    go_simp
    refine mix_call _ 72 #[.slice (some ⟨blk, off, none⟩) n capF, .agg #[.int .i64 r, .int .i64 c]] rfl rfl (by go_simp) ?_
    refine (stepsFrom_any F n r c lo hi _ _ (hv.below (B := w.heap.size) (hb01.trans (hbd.mono (by omega))) hhi) (by omega) HG.out HO1.out).mono ?_
    rintro e w3 ⟨g, rfl, ho, hg1, hg2, hb3⟩
    have hz3 := hb3.size
    have hb13 : Below w1.heap.size w1 w3 := hbd.trans (hb3.mono (by omega))
    refine ⟨_, rfl, hb13, ?_⟩
    go_simp
    refine mix_look _ _ rfl rfl (fun w' _ => BigFrame.run_assign _ rfl w') ?_
    go_simp
    refine mix_look _ _ rfl rfl (fun w' _ => BigFrame.run_assign _ rfl w') ?_
    go_simp
    refine wpMix_nil ?_
    have HR3 := hide (HR1.out.below hb13 HR1.out.lt)
    have HOC : Hid (∀ j, j < n * (F 0).size → w3.cell? ⟨g, j, none⟩ = some (.int .i64 (stF F n (r, c) j))) := fun j hj => (ho.cell (by omega) (o := j) (by omega)).2.2 hj
    have hb03 : Below w.heap.size w w3 := hb01.trans (hb13.mono (by omega))
    clear ho HCC hwd
    have hN : n * (F 0).size ≤ 144 := har.2
    have hN1 : 1 ≤ n * (F 0).size := har.1
    clear har
    obtain ⟨N, HN⟩ : ∃ N, N = n * (F 0).size := ⟨_, rfl⟩
    rw [← HN] at HOC hN hN1
    (try rw [← HN])
    have HNN := hide HN
    clear HN
    go_wp2_with fail
    refine (Max_row (stF F n (r, c)) N g _ hN1 (by omega) (fun i => (HBD.out i).1) _ HOC.out).mono ?_
    rintro e w4 ⟨rfl, hw4⟩
    obtain rfl := hw4
    go_wp2_with fail
    refine (Index_row (stF F n (r, c)) N g _ hN1 (by omega) (fun i => (HBD.out i).1) _ HOC.out).mono ?_
    rintro e w5 ⟨rfl, hw5⟩
    obtain rfl := hw5
    have hmx := mxF_bd HBD.out (by omega) N
    obtain ⟨K, HK⟩ : ∃ K, K = (mxF (stF F n (r, c)) N).2 := ⟨_, rfl⟩
    obtain ⟨M, HM⟩ : ∃ M, M = (mxF (stF F n (r, c)) N).1 := ⟨_, rfl⟩
    have HFA : Hid (faK F n r c = (M, K)) := by show _ = _; rw [faK, ← HNN.out, HK, HM]
    rw [← HK, ← HM] at hmx
    rw [← HK, ← HM]
    clear HK HM HOC
    obtain ⟨z1, z2⟩ := div_in K (F 0).size (by omega)
    have Z3 : Hid ((K : Int).tmod ((F 0).size : Int) = (K : Int) % ((F 0).size : Int)) := Int.tmod_eq_emod_of_nonneg (by omega)
    have hW1 : (F 0).size ≠ 0 := by omega
    go_wp2_with fail
    refine wp_region_mixd [(0, true), (1, true), (2, true), (3, true), (4, true), (5, true), (6, true), (7, true), (8, false), (9, true), (10, true)] (fun W => Below w.heap.size w W) (by kernel_rfl) (by kernel_rfl) (by kernel_rfl) (by kernel_rfl) (Below.drew hb03) ?_
    intro we hwe hbe
    have R5 : Bx2 we (w.heap.size + 1) 0 0 := by
      rw [hwe.out]
      exact HR3.out.below (Below.drew (Below.refl _ _)) HR3.out.lt
    refine mix_look _ _ rfl rfl (fun w' _ => BigFrame.run_move _ rfl w') ?_
    go_simp
    refine mix_look _ _ rfl rfl (fun w' _ => BigFrame.run_move _ rfl w') ?_
    go_simp
    refine mix_look _ (.int .i64 ((K : Int) / ((F 0).size : Int))) rfl rfl (fun w' hw' => (by go_simp)) ?_
    go_simp
    refine mix_look _ _ rfl rfl (fun w' _ => BigFrame.run_move _ rfl w') ?_
    go_simp
    refine mix_look _ _ rfl rfl (fun w' _ => BigFrame.run_move _ rfl w') ?_
    go_simp
    refine mix_look _ (.int .i64 ((K : Int) % ((F 0).size : Int))) rfl rfl (fun w' hw' => (by go_simp; exact Z3.out)) ?_
    go_simp
    refine mix_look _ (.agg #[.int .i64 ((K : Int) / ((F 0).size : Int)), .int .i64 ((K : Int) % ((F 0).size : Int))]) rfl rfl (fun w' hw' => (by go_simp)) ?_
    go_simp
    refine mix_look _ _ rfl rfl (fun w' _ => BigFrame.run_move _ rfl w') ?_
    go_simp
    obtain ⟨w6, W6⟩ : ∃ W, W = (we.setCell ⟨w.heap.size + 1, 0, none⟩ (.int .i64 ((K : Int) / ((F 0).size : Int)))).setCell ⟨w.heap.size + 1, 1, none⟩ (.int .i64 ((K : Int) % ((F 0).size : Int))) := ⟨_, rfl⟩
    have B6 : Bx2 w6 (w.heap.size + 1) ((K : Int) / ((F 0).size : Int)) ((K : Int) % ((F 0).size : Int)) := by rw [W6]; exact R5.set _ _
    have hb6 : Below w.heap.size w w6 := by rw [W6]; exact (hbe.setCell (by simp) _).setCell (by simp) _
    have HW6 := hide W6
    clear W6
    obtain ⟨r0, r1, rf, rl⟩ := R5
    refine mix_store _ w6 rfl rfl (by rw [HW6.out]; go_simp) hb6 ?_
    clear r0 r1 rf rl
    go_simp
    refine mix_look _ _ rfl rfl (fun w' _ => BigFrame.run_assign _ rfl w') ?_
    go_simp
    refine mix_look _ _ rfl rfl (fun w' _ => BigFrame.run_assign _ rfl w') ?_
    go_simp
    refine wpMix_nil ?_
    obtain ⟨r0, r1, rf, rl⟩ := B6
    go_wp2_with fail
    refine bodyPost_ret (v := .tuple #[.agg #[.int .i64 ((K : Int) / ((F 0).size : Int)), .int .i64 ((K : Int) % ((F 0).size : Int))], .int .i64 M, .bool true]) (by simp [results, Tryd.results33, go_sem, *]) rfl (fa_at HS.out HFA.out hb6)

end Go.Proofs.YtpckhpkbdanjoaaDoor
