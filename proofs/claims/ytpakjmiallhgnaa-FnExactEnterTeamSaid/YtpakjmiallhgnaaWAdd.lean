/-
  Walks: one more check for a team of a board: plain words, and the program.
-/
import Derived.Test.YtpakjmiallhgnaaWLeave
import Derived.Test.YtpakjmiallhgnaaWJoin
namespace Go.Proofs.Ytpakjmiallhgnaa
set_option linter.unusedVariables false
set_option linter.unusedSimpArgs false
open Go.RowKit

/-- A team with one more check. -/
def adTm (T : Tm) (m b : Int) : Tm := ⟨T.s, T.v, T.y, T.n + 1, fun j => if j = T.n then m else T.m j, fun j => if j = T.n then b else T.b j⟩
def adW (T : Nat → Tm) (k : Nat) (m b : Int) (i : Nat) : Tm := if i = k then adTm (T i) m b else T i
def adT (T : Nat → Tm) (n : Nat) (s : ByteArray) (m b : Int) : Nat → Tm := adW T (fdK T n s) m b
def adC (T : Tm) (m b : Int) : Bool := chkB (adTm T m b).m (adTm T m b).b (T.n + 1)
def adOk (T : Nat → Tm) (n : Nat) (s : ByteArray) (m b : Int) : Bool := bdB T n && (fdB T n s && adC (T (fdK T n s)) m b)
def adN (T : Nat → Tm) (n : Nat) (s : ByteArray) (m b : Int) : Nat := if adOk T n s m b = true then n else 0
theorem adN_le {T : Nat → Tm} {n : Nat} {s : ByteArray} {m b : Int} (hf : tfits T n) : adN T n s m b ≤ n := by
  unfold adN
  split <;> omega
theorem adT_fits {T : Nat → Tm} {n : Nat} {s : ByteArray} {m b : Int} (hf : tfits T n) : tfits (adT T n s m b) (adN T n s m b) := by
  refine ⟨Nat.le_trans (adN_le hf) hf.1, fun i hi => ?_⟩
  unfold adN at hi
  split at hi
  · rename_i h
    simp only [adOk, Bool.and_eq_true] at h
    have h1 := (chk_facts h.2.2).1
    unfold adT adW
    split
    · rename_i e
      subst e
      exact ⟨(hf.2 _ hi).1, by show (T _).n + 1 ≤ _; omega⟩
    · exact hf.2 i hi
  · omega
/-- The board is valid anew just where the team's checks are. -/
theorem adW_bd {T : Nat → Tm} {n k : Nat} {m b : Int} (h : bdB T n = true) (hk : k < n) : bdB (adW T k m b) n = adC (T k) m b := by
  have hs : ∀ i, (adW T k m b i).s = (T i).s := fun i => by unfold adW; split <;> rfl
  have hb1 : ∀ i, i < n → i ≠ k → bd1 (adW T k m b) i = true := fun i hi hik => by
    have h1 := (bd_facts h).2 i hi
    have h2 : tmB (adW T k m b i) = true := by rw [adW, if_neg hik]; exact h1.1
    simp only [bd1, h2, hs, Bool.true_and, Bool.or_eq_true, decide_eq_true_eq]
    rcases Nat.eq_zero_or_pos i with h0 | h0
    · exact .inl h0
    · exact .inr (h1.2 h0)
  have hk1 : bd1 (adW T k m b) k = adC (T k) m b := by
    have h1 := (bd_facts h).2 k hk
    have h2 : tmB (adW T k m b k) = adC (T k) m b := by
      have h3 := h1.1
      rw [adW, if_pos rfl]
      simp only [tmB, Bool.and_eq_true] at h3
      show (nameB (T k).s && inB (T k).v 10 3000 && inB (T k).y 0 300 && adC (T k) m b) = _
      rw [h3.1.1.1, h3.1.1.2, h3.1.2]
      simp
    simp only [bd1, h2, hs]
    rcases Nat.eq_zero_or_pos k with h0 | h0
    · simp [h0]
    · simp [h1.2 h0]
  have hn6 : decide ((n : Int) ≤ 6) = true := decide_eq_true (by have := (bd_facts h).1; omega)
  rw [bdB, hn6, Bool.and_true]
  cases e : adC (T k) m b with
  | false => exact allB_false hk (hk1.trans e)
  | true =>
    refine allB_iff.2 fun i hi => ?_
    by_cases hik : i = k
    · rw [hik, hk1, e]
    · exact hb1 i hi hik
section
variable {w w' : World} {lo hi E sz n g : Nat} {v : Value} {c : Nat → Nat → Value} {xs : List Value}
theorem OwnL.rowL (h : OwnL w lo hi E sz v n (n * sz) (fun o => c (o / sz) (o % sz))) (hn : 0 < n) (hsz : 0 < sz) : w.ownsRow lo E sz v n (rowL c sz n) := by
  rcases h with ⟨h0, _⟩ | ⟨g, cap, xs, rfl, h1, h2, h3, h4, h5⟩
  · omega
  · have : xs = Go.Proofs.Ytpakjmiallhgnaa.rowL c sz n := by
      apply List.ext_getElem?
      intro o
      rcases Nat.lt_or_ge o (n * sz) with ho | ho
      · rw [h5 o ho ho]
        have e2 := rowL_get c sz ((Nat.div_lt_iff_lt_mul hsz).2 ho) (Nat.mod_lt o hsz)
        rw [Nat.div_add_mod'] at e2
        exact e2.symm
      · rw [List.getElem?_eq_none (by rw [h4.1]; omega), List.getElem?_eq_none (by rw [rowL_len]; omega)]
    rw [← this]
    exact h4
theorem row_at (h : w.ownsRow lo E sz v n (rowL c sz n)) (hsz : 0 < sz) (hg : v.ownBlock = some g) : OwnL w g (g + 1) E sz v n (n * sz) (fun o => c (o / sz) (o % sz)) := by
  have h1 := (own_row h).lf hsz
  rcases h1 with h1 | ⟨g', cap, ys, rfl, a1, a2, a3, ⟨a4, a5⟩, a6⟩
  · exact .inl h1
  · injection hg with hg
    have hg : g' = g := hg
    subst hg
    rcases a5 with ⟨a5, _⟩ | ⟨x, y, cur, he, hb, hh, r⟩
    · cases a5
    · injection he with e1 e2 e3
      injection e1 with e1
      injection e1 with e1
      subst e1 e3
      exact .inr ⟨g', cap, ys, rfl, Nat.le_refl _, Nat.lt_succ_self _, a3, ⟨a4, .inr ⟨g', cap, cur, rfl, Nat.le_refl _, hh, r⟩⟩, a6⟩
end
theorem chk_snoc (T : Tm) (m b : Int) : Go.Proofs.Ytpakjmiallhgnaa.rowL (iiC T.m T.b) 2 T.n ++ [.int .i64 m, .int .i64 b] = Go.Proofs.Ytpakjmiallhgnaa.rowL (iiC (adTm T m b).m (adTm T m b).b) 2 (T.n + 1) := by
  rw [rowL]
  congr 1
  · refine rowL_congr fun i j hi hj => ?_
    have : ¬ i = T.n := by omega
    simp only [iiC, adTm, this, if_false]
  · simp [List.range, List.range.loop, iiC, adTm]
/-- The board behind the append onto the k-th team's checks, and the store. -/
theorem OwnX.added {w W w' : World} {g n cap k b' : Nat} {m b : Int} {u : Value} {β : Nat → Nat} {ck : Nat → Value} {T : Nat → Tm} (ho : OwnX w g β ck (.slice (some ⟨g, 0, none⟩) n cap) n T) (hkn : k < n)
    (hs : OwnL w' g (g + 1) 40 4 (.slice (some ⟨g, 0, none⟩) n cap) n (n * 4) (fun o => if o = k * 4 + 3 then u else tC T ck (o / 4) (o % 4)))
    (hu : OwnL w' b' (b' + 1) 47 2 u ((T k).n + 1) (((T k).n + 1) * 2) (fun o => iiC (adTm (T k) m b).m (adTm (T k) m b).b (o / 2) (o % 2)))
    (hg : b' ≠ g) (hb : ∀ i, i < n → i ≠ k → β i ≠ b') (hkeep : ∀ i, i < n → i ≠ k → w'.heap[β i]? = w.heap[β i]?) :
    OwnX w' g (fun i => if i = k then b' else β i) (fun i => if i = k then u else ck i) (.slice (some ⟨g, 0, none⟩) n cap) n (adW T k m b) where
  own := hs.congr fun o ho' => by
    obtain ⟨i, j, hj, rfl⟩ : ∃ i j, j < 4 ∧ o = i * 4 + j := ⟨o / 4, o % 4, by omega, by omega⟩
    have e1 : (i * 4 + j) / 4 = i := by omega
    have e2 : (i * 4 + j) % 4 = j := by omega
    rw [e1, e2]
    by_cases h1 : i = k
    · subst h1
      match j, hj with
      | 0, _ => simp [tC, adW, adTm]
      | 1, _ => simp [tC, adW, adTm]
      | 2, _ => simp [tC, adW, adTm]
      | 3, _ => simp [tC, adW, adTm]
    · have a1 : ¬ (i * 4 + j = k * 4 + 3) := by omega
      simp only [a1, if_false, tC, adW, h1]
  sub := fun i hi => by
    by_cases h1 : i = k
    · subst h1
      simp only [adW, if_true]
      exact hu
    · simp only [adW, h1, if_false]
      exact (ho.sub i hi).keep1 (hkeep i hi h1)
  ne := fun i hi => by
    by_cases h1 : i = k
    · simp only [h1, if_true]; exact hg
    · simp only [h1, if_false]; exact ho.ne i hi
  inj := fun i j hi hj hij => by
    by_cases h1 : i = k <;> by_cases h2 : j = k
    · omega
    · simp only [h1, h2, if_true, if_false]; exact (hb j hj h2).symm
    · simp only [h1, h2, if_true, if_false]; exact hb i hi h1
    · simp only [h1, h2, if_false]; exact ho.inj i j hi hj hij
theorem int2_one {a b : Int} {u : Value} (h : u ∈ [Value.int .i64 a, .int .i64 b]) : u.oneCell' = true := by
  simp at h
  rcases h with rfl | rfl <;> rfl
set_option maxRecDepth 100000 in
set_option maxHeartbeats 3200000 in
theorem AddCheck_impl (T : Nat → Tm) (n : Nat) (s : ByteArray) (m b : Int) (lo hi : Nat) (v : Value) (w : World) (hv : SlT w lo hi v n T) (hhi : hi ≤ w.heap.size) (hf : tfits T n) (hms : s.size ≤ maxLen) :
    Calls Try.prog 13 #[v, .string s, .int .i64 m, .int .i64 b] w (BrdRes (adT T n s m b) (adN T n s m b) (adOk T n s m b) w) := by
  obtain ⟨A, cap, rfl, hcap⟩ := hv.open_
  have hn : n ≤ 1048576 := hf.1
  cases hB : bdB T n with
  | false =>
    have HF : Hid (adOk T n s m b = false) := by show _ = _; simp [adOk, hB]
    have HN : Hid (adN T n s m b = 0) := by show _ = _; rw [adN, HF.out]; rfl
    go_enter Try.func13, Try.ntmps13
    go_wp2_with fail
    refine (findTeam_any T n s lo hi _ _ (hv.below (B := w.heap.size) (by repeat (first | (with_reducible exact Below.refl _ _) | (with_reducible refine below_ov ?_ ?_) | (with_reducible refine Below.setCell ?_ ?_ _) | (with_reducible refine Below.alloc ?_ ?_ _) | (with_reducible refine Below.drew ?_) | (with_reducible refine below_drewN ?_ _) | (refine Below.trans ?_ (Below.mono ‹Below _ _ _› (by first | omega | (simp; done) | (simp; omega)))) | exact Below.refl _ _ | omega | (focus (simp; done)) | (focus (simp; omega)))) hhi) hhi hn).mono ?_
    rintro e w1 ⟨rfl, hb1⟩
    have hz1 := hb1.size
    go_wp2_with fail
    refine (isBoard_any T n lo hi _ _ (hv.below (B := w.heap.size) (by repeat (first | (with_reducible exact Below.refl _ _) | (with_reducible refine below_ov ?_ ?_) | (with_reducible refine Below.setCell ?_ ?_ _) | (with_reducible refine Below.alloc ?_ ?_ _) | (with_reducible refine Below.drew ?_) | (with_reducible refine below_drewN ?_ _) | (refine Below.trans ?_ (Below.mono ‹Below _ _ _› (by first | omega | (simp; done) | (simp; omega)))) | exact Below.refl _ _ | omega | (focus (simp; done)) | (focus (simp; omega)))) hhi) (by first | omega | (simp; done) | (simp; omega)) hf).mono ?_
    rintro e w2 ⟨rfl, hb2⟩
    have hz2 := hb2.size
    rw [hB]
    go_wp2_with fail
    go_ret2
    rw [HF.out]
    exact brd_nil HN.out (by repeat (first | (with_reducible exact Below.refl _ _) | (with_reducible refine below_ov ?_ ?_) | (with_reducible refine Below.setCell ?_ ?_ _) | (with_reducible refine Below.alloc ?_ ?_ _) | (with_reducible refine Below.drew ?_) | (with_reducible refine below_drewN ?_ _) | (refine Below.trans ?_ (Below.mono ‹Below _ _ _› (by first | omega | (simp; done) | (simp; omega)))) | exact Below.refl _ _ | omega | (focus (simp; done)) | (focus (simp; omega))))
  | true =>
    have HB := hide hB
    cases hF : fdB T n s with
    | false =>
      have HF : Hid (adOk T n s m b = false) := by show _ = _; simp [adOk, hF]
      have HN : Hid (adN T n s m b = 0) := by show _ = _; rw [adN, HF.out]; rfl
      have HA : Hid (fstI (nmP T s) n = -1) := by show _ = _; rw [fd_eq HB.out, hF]; rfl
      go_enter Try.func13, Try.ntmps13
      go_wp2_with fail
      refine (findTeam_any T n s lo hi _ _ (hv.below (B := w.heap.size) (by repeat (first | (with_reducible exact Below.refl _ _) | (with_reducible refine below_ov ?_ ?_) | (with_reducible refine Below.setCell ?_ ?_ _) | (with_reducible refine Below.alloc ?_ ?_ _) | (with_reducible refine Below.drew ?_) | (with_reducible refine below_drewN ?_ _) | (refine Below.trans ?_ (Below.mono ‹Below _ _ _› (by first | omega | (simp; done) | (simp; omega)))) | exact Below.refl _ _ | omega | (focus (simp; done)) | (focus (simp; omega)))) hhi) hhi hn).mono ?_
      rintro e w1 ⟨rfl, hb1⟩
      have hz1 := hb1.size
      rw [HA.out]
      go_wp2_with fail
      refine (isBoard_any T n lo hi _ _ (hv.below (B := w.heap.size) (by repeat (first | (with_reducible exact Below.refl _ _) | (with_reducible refine below_ov ?_ ?_) | (with_reducible refine Below.setCell ?_ ?_ _) | (with_reducible refine Below.alloc ?_ ?_ _) | (with_reducible refine Below.drew ?_) | (with_reducible refine below_drewN ?_ _) | (refine Below.trans ?_ (Below.mono ‹Below _ _ _› (by first | omega | (simp; done) | (simp; omega)))) | exact Below.refl _ _ | omega | (focus (simp; done)) | (focus (simp; omega)))) hhi) (by first | omega | (simp; done) | (simp; omega)) hf).mono ?_
      rintro e w2 ⟨rfl, hb2⟩
      have hz2 := hb2.size
      rw [hB]
      go_wp2_with fail
      go_ret2
      rw [HF.out]
      exact brd_nil HN.out (by repeat (first | (with_reducible exact Below.refl _ _) | (with_reducible refine below_ov ?_ ?_) | (with_reducible refine Below.setCell ?_ ?_ _) | (with_reducible refine Below.alloc ?_ ?_ _) | (with_reducible refine Below.drew ?_) | (with_reducible refine below_drewN ?_ _) | (refine Below.trans ?_ (Below.mono ‹Below _ _ _› (by first | omega | (simp; done) | (simp; omega)))) | exact Below.refl _ _ | omega | (focus (simp; done)) | (focus (simp; omega))))
    | true =>
      have hkn := fdB_lt hF
      obtain ⟨k, hk⟩ : ∃ k, k = fdK T n s := ⟨_, rfl⟩
      rw [← hk] at hkn
      have HA : Hid (fstI (nmP T s) n = (k : Int)) := by show _ = _; rw [fd_eq HB.out, hF, ← hk]; rfl
      have HT : Hid (adT T n s m b = adW T k m b) := by show _ = _; rw [adT, ← hk]
      have HE : Hid (adOk T n s m b = adC (T k) m b) := by show _ = _; rw [adOk, HB.out, hF, ← hk]; rfl
      have hn6 := (bd_facts HB.out).1
      have hkp := bd_pos HB.out k hkn
      have hk20 := (tm_facts ((bd_facts HB.out).2 k hkn).1).2.2.2.1
      obtain ⟨ii, hii, iz0, iz1, iz2⟩ := info_parts infoChk
      clear hk hF
      go_enter Try.func13, Try.ntmps13
      go_wp2_with fail
      refine (findTeam_any T _ s lo hi _ _ (hv.below (B := w.heap.size) (by repeat (first | (with_reducible exact Below.refl _ _) | (with_reducible refine below_ov ?_ ?_) | (with_reducible refine Below.setCell ?_ ?_ _) | (with_reducible refine Below.alloc ?_ ?_ _) | (with_reducible refine Below.drew ?_) | (with_reducible refine below_drewN ?_ _) | (refine Below.trans ?_ (Below.mono ‹Below _ _ _› (by first | omega | (simp; done) | (simp; omega)))) | exact Below.refl _ _ | omega | (focus (simp; done)) | (focus (simp; omega)))) hhi) hhi hn).mono ?_
      rintro e w1 ⟨rfl, hb1⟩
      have hz1 := hb1.size
      rw [HA.out]
      go_wp2_with fail
      refine (isBoard_any T _ lo hi _ _ (hv.below (B := w.heap.size) (by repeat (first | (with_reducible exact Below.refl _ _) | (with_reducible refine below_ov ?_ ?_) | (with_reducible refine Below.setCell ?_ ?_ _) | (with_reducible refine Below.alloc ?_ ?_ _) | (with_reducible refine Below.drew ?_) | (with_reducible refine below_drewN ?_ _) | (refine Below.trans ?_ (Below.mono ‹Below _ _ _› (by first | omega | (simp; done) | (simp; omega)))) | exact Below.refl _ _ | omega | (focus (simp; done)) | (focus (simp; omega)))) hhi) (by first | omega | (simp; done) | (simp; omega)) hf).mono ?_
      rintro e w2 ⟨rfl, hb2⟩
      have hz2 := hb2.size
      rw [hB]
      go_wp2_with fail
      refine (copyBoard_any T _ lo hi _ _ (hv.below (B := w.heap.size) (by repeat (first | (with_reducible exact Below.refl _ _) | (with_reducible refine below_ov ?_ ?_) | (with_reducible refine Below.setCell ?_ ?_ _) | (with_reducible refine Below.alloc ?_ ?_ _) | (with_reducible refine Below.drew ?_) | (with_reducible refine below_drewN ?_ _) | (refine Below.trans ?_ (Below.mono ‹Below _ _ _› (by first | omega | (simp; done) | (simp; omega)))) | exact Below.refl _ _ | omega | (focus (simp; done)) | (focus (simp; omega)))) hhi) (by first | omega | (simp; done) | (simp; omega)) hf (bd_pos HB.out)).mono ?_
      rintro e w3 ⟨v3, rfl, ⟨γ, β, ck, hx, hin⟩, hb3⟩
      have hz3 := hb3.size
      obtain ⟨A3, c3, rfl, hc3, hA3⟩ := hx.own.open_
      obtain ⟨g, rfl, g1, g2⟩ := hA3 (by omega)
      obtain rfl : γ = g := by omega
      have hg := hin.1 (by omega)
      obtain ⟨_, _, c0⟩ := hx.own.cell (by omega) (o := k * 4 + 3) (by omega)
      replace c0 := c0 (by omega)
      rw [show (k * 4 + 3) / 4 = k by omega, show (k * 4 + 3) % 4 = 3 by omega] at c0
      obtain ⟨Ak, cpk, ek, hck, hAk⟩ := (hx.sub k hkn).open_
      obtain ⟨gk, rfl, gk1, gk2⟩ := hAk hkp
      obtain rfl : β k = gk := by omega
      rw [show tC T ck k 3 = ck k from rfl, ek] at c0
      have hrk := (hx.sub k hkn).rowL hkp (by omega)
      rw [ek] at hrk
      have HX := hide hx
      have HIn := hide hin
      have EK := hide ek
      have HRK := hide hrk
      clear hx hin hA3 ek hrk
      go_wp2_with (at_builtin; refine wpList_append_two _ rfl _ _ 38 rfl (β k) 47 ii (.agg #[.int .i64 0, .int .i64 0]) 2 16 Try.underlying38 hii iz0 iz1 iz2 rfl (by decide) _ _ _ rfl (HRK.out.alloc _) ⟨w3.heap.size, 0, none⟩ 1 1 [.int .i64 m, .int .i64 b] rfl rfl ?_ (fun u hu => int2_one hu) (by omega) ?_ ?_ ?_)
      · intro i u hu
        match i, hu with
        | 0, hu => simp at hu; subst hu; simp [go_sem, Addr.add]
        | 1, hu => simp at hu; subst hu; simp [go_sem, Addr.add]
      · unfold maxLen; omega
      · omega
      intro v4 w4 hcase
      rw [chk_snoc] at hcase
      have hfin : Hid (∃ b', b' ≠ γ ∧ b' < w4.heap.size ∧ (∀ i, i < n → i ≠ k → β i ≠ b') ∧ w2.heap.size ≤ b' ∧ OwnL w4 b' (b' + 1) 47 2 v4 ((T k).n + 1) (((T k).n + 1) * 2) (fun o => iiC (adTm (T k) m b).m (adTm (T k) m b).b (o / 2) (o % 2)) ∧ (∀ x, x < w3.heap.size → x ≠ β k → w4.heap[x]? = w3.heap[x]?) ∧ w3.heap.size < w4.heap.size ∧ Below w2.heap.size w3 w4) := by
        show ∃ _, _
        rcases hcase with ⟨r0, r1, r2⟩ | ⟨r1, r2⟩
        · have hb := HIn.out.2 k hkn
          have hz := r2.size
          simp at hz
          refine ⟨β k, HX.out.ne k hkn, by omega, fun i hi hik => HX.out.inj i k hi hkn hik, by omega, row_at r1 (by omega) r0, fun x hx hxk => ?_, by omega, ?_⟩
          · rw [r2.block x (by simp; omega) (fun e => hxk (by injection e))]
            exact Deep.blk_alloc_lt _ _ _ hx
          · exact ((Below.refl _ _).alloc (by omega) _).grown r2 (by simp; omega) (fun g hg => by injection hg with hg; have hg : β k = g := hg; omega)
        · have hz := r2.size
          simp at hz
          rcases r1.2 with ⟨_, h0⟩ | ⟨b', cap', cur, rfl, hb1, _⟩
          · omega
          · have hlt := r1.lt b' rfl
            refine ⟨b', by omega, hlt.2, fun i hi _ => by have := HIn.out.2 i hi; omega, by omega, row_at r1 (by omega) rfl, fun x hx hxk => ?_, by omega, ?_⟩
            · rw [r2.block x (by simp; omega) (fun e => by cases e)]
              exact Deep.blk_alloc_lt _ _ _ hx
            · exact ((Below.refl _ _).alloc (by omega) _).grown r2 (by simp; omega) (fun g hg => by cases hg)
      clear hcase
      obtain ⟨b', q1, q2, q3, q4, q5, q6, q7, q8⟩ := hfin.out
      obtain ⟨A4, c4, rfl, _, _⟩ := q5.open_
      have ho4 := HX.out.own.keep1 (q6 γ hg.2 (HX.out.ne k hkn).symm)
      obtain ⟨⟨u3, hu3⟩, hf3, _⟩ := ho4.cell (by omega) (o := k * 4 + 3) (by omega)
      have hs4 := hide (ho4.set (o := k * 4 + 3) (by omega) (.slice A4 ((T k).n + 1) c4))
      have hu4 := hide ((q5.keep1 (Deep.blk_setCell_other w4 ⟨γ, k * 4 + 3, none⟩ (.slice A4 ((T k).n + 1) c4) b' q1)))
      have hxd := hide (HX.out.added (W := w4) (m := m) (b := b) hkn hs4.out hu4.out q1 q3 fun i hi hik => by
        have hne := HX.out.ne i hi
        rw [Deep.blk_setCell_other _ _ _ _ hne]
        exact q6 _ (HIn.out.2 i hi).2 (HX.out.inj i k hi hkn hik))
      have Q6 := hide q6
      have Q3 := hide q3
      have hb34 : Below w.heap.size w w4 := by
        have hb03 : Below w.heap.size w w3 := (by repeat (first | (with_reducible exact Below.refl _ _) | (with_reducible refine below_ov ?_ ?_) | (with_reducible refine Below.setCell ?_ ?_ _) | (with_reducible refine Below.alloc ?_ ?_ _) | (with_reducible refine Below.drew ?_) | (with_reducible refine below_drewN ?_ _) | (refine Below.trans ?_ (Below.mono ‹Below _ _ _› (by first | omega | (simp; done) | (simp; omega)))) | exact Below.refl _ _ | omega | (focus (simp; done)) | (focus (simp; omega))))
        exact hb03.trans (q8.mono (by omega))
      clear ho4 q3 q5 q6
      go_wp2_with fail
      refine (areChecks_any (adTm (T k) m b).m (adTm (T k) m b).b ((T k).n + 1) b' (b' + 1) _ _ hu4.out.slf (by simp [World.setCell]; omega) (by omega)).mono ?_
      rintro e w5 ⟨rfl, hb5⟩
      have hz5 := hb5.size
      (try (simp [World.setCell] at hz5))
      rw [show chkB (adTm (T k) m b).m (adTm (T k) m b).b ((T k).n + 1) = adC (T k) m b from rfl]
      cases hC : adC (T k) m b with
      | false =>
        have HN : Hid (adN T n s m b = 0) := by show _ = _; rw [adN, HE.out, hC]; rfl
        go_wp2_with fail
        go_ret2
        rw [HE.out, hC]
        exact brd_nil HN.out (by repeat (first | (with_reducible exact Below.refl _ _) | (with_reducible refine below_ov ?_ ?_) | (with_reducible refine Below.setCell ?_ ?_ _) | (with_reducible refine Below.alloc ?_ ?_ _) | (with_reducible refine Below.drew ?_) | (with_reducible refine below_drewN ?_ _) | (refine Below.trans ?_ (Below.mono ‹Below _ _ _› (by first | omega | (simp; done) | (simp; omega)))) | exact Below.refl _ _ | omega | (focus (simp; done)) | (focus (simp; omega))))
      | true =>
        have HN : Hid (adN T n s m b = n) := by show _ = _; rw [adN, HE.out, hC]; rfl
        go_wp2_with fail
        go_ret2
        rw [HE.out, hC, HN.out, HT.out]
        refine ⟨_, rfl, ?_, (by repeat (first | (with_reducible exact Below.refl _ _) | (with_reducible refine below_ov ?_ ?_) | (with_reducible refine Below.setCell ?_ ?_ _) | (with_reducible refine Below.alloc ?_ ?_ _) | (with_reducible refine Below.drew ?_) | (with_reducible refine below_drewN ?_ _) | (refine Below.trans ?_ (Below.mono ‹Below _ _ _› (by first | omega | (simp; done) | (simp; omega)))) | exact Below.refl _ _ | omega | (focus (simp; done)) | (focus (simp; omega))))⟩
        refine (OwnT.below (lo := w.heap.size) (hi := w4.heap.size) ⟨γ, _, _, hxd.out, fun _ => ⟨Nat.le_trans (by omega) hg.1, by omega⟩, fun i hi => ?_⟩ hb5 (by simp [World.setCell])).mono (Nat.le_refl _) (by omega)
        have := HIn.out.2 i hi
        by_cases hik : i = k
        · simp only [hik, if_true]; omega
        · simp only [hik, if_false]; omega

end Go.Proofs.Ytpakjmiallhgnaa
