/-
  Texts of this proof, one behind the other (part 9).
-/
import Derived.Test.YtnfhgnibjebmlaaQ8
import Derived.Deep.DeepAppendRoom
import Derived.Lib.AppendZeros
import Derived.Lib.AppendZerosOnto
import Derived.Lib.Overlaps
import Derived.Laws.Externs
import Derived.Laws.NewBlocks
/-
  Walks: the reference's draw of a board and a check to add (printed by gen_drwb4.py). Whatever it is.-/
namespace Go.Proofs.Ytnfhgnibjebmlaa
set_option linter.unusedVariables false
set_option linter.unusedSimpArgs false
open Go.RowKit

/-- A drawn board, a name and two numbers. -/
def BaPost (w : World) (e : Ending) (w' : World) : Prop := ∃ (u : Value) (n : Nat) (T : Nat → Tm) (s : ByteArray) (x y : Int), e = .returned (.tuple #[u, .string s, .int .i64 x, .int .i64 y]) ∧ n ≤ 7 ∧ (∀ i, i < n → (T i).s.size ≤ 7 ∧ (T i).n ≤ 21) ∧ s.size ≤ 7 ∧ SlT w' w.heap.size w'.heap.size u n T ∧ Below w.heap.size w w'
set_option maxRecDepth 100000 in
set_option maxHeartbeats 6400000 in
theorem DrawAddCheck_any (v : Value) (w : World) (h : Code w v) : Calls Try.prog 24 #[v] w (BaPost w) := by
  obtain ⟨A, n, cap, rfl⟩ := h.form
  have C0 : Cu (w.alloc (.cells #[.slice A n cap, .int .i64 0, .int .u64 0] 60)) (w.heap.size) 0 := by
    have := Cu.start h 60
    simpa using this
  have O0 : Only (w.heap.size) (w.heap.size + 1) w (w.alloc (.cells #[.slice A n cap, .int .i64 0, .int .u64 0] 60)) := (Only.refl _ _ w).alloc _
  go_enter Try.func24, Try.ntmps24
  go_wp2_with fail
  refine (board_any _ _ _ C0 (by omega)).mono ?_
  rintro e w1 ⟨u, n1, T, rfl, hn1, hc1, hs1, C1, o1⟩
  have S1 := hide (hs1.mono (show w.heap.size + 1 ≤ _ by simp) (Nat.le_refl _))
  have O1 := O0.trans o1
  have HC := hide hc1
  obtain ⟨A1, c1, rfl, _⟩ := hs1.open_
  have HB1 : Hid (Below w.heap.size w w1) := O1.below (Nat.le_refl _) (Nat.le_refl _)
  clear C0 O0 o1 hs1 hc1 O1
  go_wp2_with fail
  refine (of_new _ _ _ _ _ _ _ C1 (by first | (with_reducible rfl) | simp) (by omega) (by rfl) (by decide) (by decide) (by simp [isS])).mono ?_
  rintro e w2 ⟨s, rfl, hM2, C2', o2⟩
  have hss : s.size ≤ 7 := bd_small hM2 (by simp [bdSm]; try decide)
  have S2 : Hid (SlT w2 (w.heap.size + 1) w2.heap.size (.slice A1 n1 c1) n1 T) := (slTO S1.out o2 (by omega) (Nat.le_refl _)).mono (Nat.le_refl _) o2.size
  have HB2 : Hid (Below w.heap.size w w2) := HB1.out.trans (o2.below (Nat.le_refl _) HB1.out.size)
  clear S1 HB1
  have C2 := hide C2'
  clear C1 C2' o2 hM2
  go_wp2_with fail
  refine (enFind_any T n1 s _ _ _ _ S2.out (Nat.le_refl _) (by omega)).mono ?_
  rintro e w3 ⟨rfl, hb3⟩
  have S3 : Hid (SlT w3 (w.heap.size + 1) w3.heap.size (.slice A1 n1 c1) n1 T) := (S2.out.below hb3 (Nat.le_refl _)).mono (Nat.le_refl _) hb3.size
  have C3 := hide (C2.out.below hb3 (Nat.le_refl _))
  have HB3 : Hid (Below w.heap.size w w3) := HB2.out.trans (hb3.mono HB2.out.size)
  clear S2 C2 HB2
  clear hb3
  cases hF : fdB T n1 s with
  | false =>
    obtain ⟨kk, hkk⟩ : ∃ z, fdK T n1 s = z := ⟨_, rfl⟩
    rw [hkk]
    clear hkk hF
    go_wp2_with fail
    refine (boardMinute_any _ _ _ C3.out (by omega)).mono ?_
    rintro e w8 ⟨x, rfl, C8', o8⟩
    have S8 : Hid (SlT w8 (w.heap.size + 1) w8.heap.size (.slice A1 n1 c1) n1 T) := (slTO S3.out o8 (by omega) (Nat.le_refl _)).mono (Nat.le_refl _) o8.size
    have HB8 : Hid (Below w.heap.size w w8) := HB3.out.trans (o8.below (Nat.le_refl _) HB3.out.size)
    clear S3 HB3
    have C8 := hide C8'
    clear C3 C8' o8
    go_wp2_with fail
    refine (barOf_any _ _ _ C8.out (by omega)).mono ?_
    rintro e w9 ⟨y, rfl, C9, o9⟩
    have S9 : Hid (SlT w9 (w.heap.size + 1) w9.heap.size (.slice A1 n1 c1) n1 T) := (slTO S8.out o9 (by omega) (Nat.le_refl _)).mono (Nat.le_refl _) o9.size
    have HB9 : Hid (Below w.heap.size w w9) := HB8.out.trans (o9.below (Nat.le_refl _) HB8.out.size)
    clear S8 HB8
    clear C8 C9 o9
    have SF : Hid (SlT w9 w.heap.size w9.heap.size (.slice A1 n1 c1) n1 T) := S9.out.mono (by omega) (Nat.le_refl _)
    go_wp2_with fail
    exact bodyPost_ret (v := .tuple #[.slice A1 n1 c1, .string s, .int .i64 x, .int .i64 y]) (by simp [results, Try.results24, go_sem, *]) rfl ⟨_, _, T, _, _, _, rfl, hn1, HC.out, hss, SF.out, HB9.out⟩
  | true =>
    have hk := fdB_lt hF
    obtain ⟨k, hkk⟩ : ∃ z, fdK T n1 s = z := ⟨_, rfl⟩
    rw [hkk] at hk
    rw [hkk]
    clear hkk hF
    obtain ⟨X, hX⟩ : ∃ X, T k = X := ⟨_, rfl⟩
    have HX : Hid X.fits := by rw [← hX]; have h7 := HC.out k hk; exact ⟨by unfold maxLen; omega, by omega⟩
    obtain ⟨blk, off, ck, hA1, g1, g2, g3⟩ := S3.out.at_ (Nat.le_refl _) (by omega)
    subst hA1
    obtain ⟨tl, q0, q1, q2, q3, qs, _⟩ := g3 k hk
    obtain ⟨Ak, ak, ek, _, _⟩ := qs.open_
    rw [ek] at q3 qs
    clear g3 ek
    rw [hX] at q0 q1 q2 q3 qs
    have QS := hide qs
    clear qs
    go_wp2_with fail
    refine (enOne_any X _ _ _ _ QS.out (Nat.le_refl _) HX.out).mono ?_
    rintro e w4 ⟨rfl, hb4⟩
    have S4 : Hid (SlT w4 (w.heap.size + 1) w4.heap.size (.slice (some ⟨blk, off, none⟩) n1 c1) n1 T) := (S3.out.below hb4 (Nat.le_refl _)).mono (Nat.le_refl _) hb4.size
    have C4 := hide (C3.out.below hb4 (Nat.le_refl _))
    have HB4 : Hid (Below w.heap.size w w4) := HB3.out.trans (hb4.mono HB3.out.size)
    clear S3 C3 HB3
    clear hb4 QS q0 q1 q2 q3 tl g1 g2
    cases hB : tmB X with
    | false =>
      go_wp2_with fail
      refine (boardMinute_any _ _ _ C4.out (by omega)).mono ?_
      rintro e w8 ⟨x, rfl, C8', o8⟩
      have S8 : Hid (SlT w8 (w.heap.size + 1) w8.heap.size (.slice (some ⟨blk, off, none⟩) n1 c1) n1 T) := (slTO S4.out o8 (by omega) (Nat.le_refl _)).mono (Nat.le_refl _) o8.size
      have HB8 : Hid (Below w.heap.size w w8) := HB4.out.trans (o8.below (Nat.le_refl _) HB4.out.size)
      clear S4 HB4
      have C8 := hide C8'
      clear C4 C8' o8
      go_wp2_with fail
      refine (barOf_any _ _ _ C8.out (by omega)).mono ?_
      rintro e w9 ⟨y, rfl, C9, o9⟩
      have S9 : Hid (SlT w9 (w.heap.size + 1) w9.heap.size (.slice (some ⟨blk, off, none⟩) n1 c1) n1 T) := (slTO S8.out o9 (by omega) (Nat.le_refl _)).mono (Nat.le_refl _) o9.size
      have HB9 : Hid (Below w.heap.size w w9) := HB8.out.trans (o9.below (Nat.le_refl _) HB8.out.size)
      clear S8 HB8
      clear C8 C9 o9
      have SF : Hid (SlT w9 w.heap.size w9.heap.size (.slice (some ⟨blk, off, none⟩) n1 c1) n1 T) := S9.out.mono (by omega) (Nat.le_refl _)
      go_wp2_with fail
      exact bodyPost_ret (v := .tuple #[.slice (some ⟨blk, off, none⟩) n1 c1, .string s, .int .i64 x, .int .i64 y]) (by simp [results, Try.results24, go_sem, *]) rfl ⟨_, _, T, _, _, _, rfl, hn1, HC.out, hss, SF.out, HB9.out⟩
    | true =>
      have HTB := hide hB
      clear hB
      go_wp2_with fail
      refine (one_any _ _ _ _ C4.out (by omega)).mono ?_
      rintro e w5 ⟨b5, rfl, C5', o5⟩
      have S5 : Hid (SlT w5 (w.heap.size + 1) w5.heap.size (.slice (some ⟨blk, off, none⟩) n1 c1) n1 T) := (slTO S4.out o5 (by omega) (Nat.le_refl _)).mono (Nat.le_refl _) o5.size
      have HB5 : Hid (Below w.heap.size w w5) := HB4.out.trans (o5.below (Nat.le_refl _) HB4.out.size)
      clear S4 HB4
      have C5 := hide C5'
      clear C4 C5' o5
      cases b5 with
      | true =>
        go_wp2_with fail
        refine (boardMinute_any _ _ _ C5.out (by omega)).mono ?_
        rintro e w8 ⟨x, rfl, C8', o8⟩
        have S8 : Hid (SlT w8 (w.heap.size + 1) w8.heap.size (.slice (some ⟨blk, off, none⟩) n1 c1) n1 T) := (slTO S5.out o8 (by omega) (Nat.le_refl _)).mono (Nat.le_refl _) o8.size
        have HB8 : Hid (Below w.heap.size w w8) := HB5.out.trans (o8.below (Nat.le_refl _) HB5.out.size)
        clear S5 HB5
        have C8 := hide C8'
        clear C5 C8' o8
        go_wp2_with fail
        refine (barOf_any _ _ _ C8.out (by omega)).mono ?_
        rintro e w9 ⟨y, rfl, C9, o9⟩
        have S9 : Hid (SlT w9 (w.heap.size + 1) w9.heap.size (.slice (some ⟨blk, off, none⟩) n1 c1) n1 T) := (slTO S8.out o9 (by omega) (Nat.le_refl _)).mono (Nat.le_refl _) o9.size
        have HB9 : Hid (Below w.heap.size w w9) := HB8.out.trans (o9.below (Nat.le_refl _) HB8.out.size)
        clear S8 HB8
        clear C8 C9 o9
        have SF : Hid (SlT w9 w.heap.size w9.heap.size (.slice (some ⟨blk, off, none⟩) n1 c1) n1 T) := S9.out.mono (by omega) (Nat.le_refl _)
        go_wp2_with fail
        exact bodyPost_ret (v := .tuple #[.slice (some ⟨blk, off, none⟩) n1 c1, .string s, .int .i64 x, .int .i64 y]) (by simp [results, Try.results24, go_sem, *]) rfl ⟨_, _, T, _, _, _, rfl, hn1, HC.out, hss, SF.out, HB9.out⟩
      | false =>
        obtain ⟨blk2, off2, ck2, hA2, g1, g2, g3⟩ := S5.out.at_ (Nat.le_refl _) (by omega)
        obtain ⟨rfl, rfl⟩ : blk = blk2 ∧ off = off2 := by
          injection hA2 with ha
          injection ha with ha hb
          exact ⟨ha, hb⟩
        clear hA2
        obtain ⟨tl, q0, q1, q2, q3, qs, _⟩ := g3 k hk
        obtain ⟨Ak2, ak2, ek, _, _⟩ := qs.open_
        rw [ek] at q3 qs
        clear g3 ek
        rw [hX] at q0 q1 q2 q3 qs
        have QS := hide qs
        clear qs
        go_wp2_with fail
        refine (enLast_any X _ _ _ _ QS.out (Nat.le_refl _) HTB.out).mono ?_
        rintro e w6 ⟨rfl, hb6⟩
        have S6 : Hid (SlT w6 (w.heap.size + 1) w6.heap.size (.slice (some ⟨blk, off, none⟩) n1 c1) n1 T) := (S5.out.below hb6 (Nat.le_refl _)).mono (Nat.le_refl _) hb6.size
        have C6 := hide (C5.out.below hb6 (Nat.le_refl _))
        have HB6 : Hid (Below w.heap.size w w6) := HB5.out.trans (hb6.mono HB5.out.size)
        clear S5 C5 HB5
        clear hb6 QS q0 q1 q2 q3 tl g1 g2
        obtain ⟨lm, hlm⟩ : ∃ lm, X.lm = lm := ⟨_, rfl⟩
        obtain ⟨lb, hlb⟩ : ∃ lb, X.lb = lb := ⟨_, rfl⟩
        obtain ⟨xv, hxv⟩ : ∃ xv, X.v = xv := ⟨_, rfl⟩
        rw [hlm, hlb, hxv]
        clear hlm hlb hxv
        go_wp2_with fail
        obtain ⟨w7, hw7⟩ : ∃ W, W = w6.alloc (.cells #[.int .i64 xv, .int .i64 lb] 85) := ⟨_, rfl⟩
        obtain ⟨yb, hyb⟩ : ∃ z, z = w6.heap.size := ⟨_, rfl⟩
        have hb7 : Below w6.heap.size w6 w7 := by rw [hw7]; exact (Below.refl _ _).alloc (Nat.le_refl _) _
        have Y7 : Hid (BxI w7 yb xv lb) := by show BxI _ _ _ _; rw [hw7, hyb]; exact BxI.new _ _ _ _
        have hyg : yb ≠ w.heap.size := by have := C6.out.lt; omega
        rw [← hw7, ← hyb]
        clear hw7 hyb
        have S7 : Hid (SlT w7 (w.heap.size + 1) w7.heap.size (.slice (some ⟨blk, off, none⟩) n1 c1) n1 T) := (S6.out.below hb7 (Nat.le_refl _)).mono (Nat.le_refl _) hb7.size
        have C7 := hide (C6.out.below hb7 (Nat.le_refl _))
        have HB7 : Hid (Below w.heap.size w w7) := HB6.out.trans (hb7.mono HB6.out.size)
        clear S6 C6 HB6
        clear hb7
        have hd : Below w7.heap.size w7 w7.drew := Below.drew (Below.refl _ _)
        obtain ⟨wd, hwd⟩ : ∃ W, W = w7.drew := ⟨_, rfl⟩
        rw [← hwd] at hd
        have Yd := hide (Y7.out.keep (hd.block yb Y7.out.lt) hd.size)
        clear Y7
        have Sd : Hid (SlT wd (w.heap.size + 1) wd.heap.size (.slice (some ⟨blk, off, none⟩) n1 c1) n1 T) := (S7.out.below hd (Nat.le_refl _)).mono (Nat.le_refl _) hd.size
        have Cd := hide (C7.out.below hd (Nat.le_refl _))
        have HBd : Hid (Below w.heap.size w wd) := HB7.out.trans (hd.mono HB7.out.size)
        clear S7 C7 HB7
        clear hd
        refine wp_region_mix [(0, true), (1, true), (2, true), (3, true), (6, true), (7, true), (8, true), (4, false), (5, true), (9, false), (10, true), (11, true), (12, true), (13, true), (14, true)] (fun W => BxI W yb xv lb) (by kernel_rfl) (by kernel_rfl) (by kernel_rfl) (by kernel_rfl) (by show BxI w7.drew _ _ _; rw [← hwd]; exact Yd.out) ?_
        change wpMix _ _ _ _ _ _ w7.drew
        rw [← hwd]
        clear hwd
        refine mix_look _ _ rfl rfl (fun w' _ => BigFrame.run_move _ rfl w') ?_
        go_simp
        refine mix_look _ _ rfl rfl (fun w' _ => BigFrame.run_move _ rfl w') ?_
        go_simp
        refine mix_look _ _ rfl rfl (fun w' _ => BigFrame.run_move _ rfl w') ?_
        go_simp
        refine mix_look _ _ rfl rfl (fun w' _ => BigFrame.run_move _ rfl w') ?_
        go_simp
        refine mix_look _ (.pointer (some ⟨yb, 1, none⟩)) rfl rfl (fun w' hw' => (by obtain ⟨a0, a1, af, al⟩ := hw'; go_simp)) ?_
        go_simp
        refine mix_look _ (.int .i64 lb) rfl rfl (fun w' hw' => (by obtain ⟨a0, a1, af, al⟩ := hw'; go_simp)) ?_
        go_simp
        refine mix_look _ _ rfl rfl (fun w' _ => BigFrame.run_move _ rfl w') ?_
        go_simp
        refine mix_call _ 59 #[.pointer (some ⟨w.heap.size, 0, none⟩), .int .i64 8] rfl rfl (by go_simp) ?_
        refine (pick_any _ _ _ _ Cd.out (by omega)).mono ?_
        rintro e w8 ⟨v8, rfl, _, C8', o8⟩
        have Y8 := hide (Yd.out.only o8 (by omega))
        have S8 : Hid (SlT w8 (w.heap.size + 1) w8.heap.size (.slice (some ⟨blk, off, none⟩) n1 c1) n1 T) := (slTO Sd.out o8 (by omega) (Nat.le_refl _)).mono (Nat.le_refl _) o8.size
        have HB8 : Hid (Below w.heap.size w w8) := HBd.out.trans (o8.below (Nat.le_refl _) HBd.out.size)
        clear Sd HBd
        have C8 := hide C8'
        clear Cd C8' o8 Yd
        refine ⟨_, rfl, Y8.out, ?_⟩
        go_simp
        obtain ⟨sx, hsx⟩ : ∃ z, z = IntKind.i64.wrap (lm + v8) := ⟨_, rfl⟩
        refine mix_look _ (.int .i64 sx) rfl rfl (fun w' hw' => (by first | (go_simp; done) | (go_simp; rw [hsx]))) ?_
        clear hsx
        go_simp
        refine mix_call _ 59 #[.pointer (some ⟨w.heap.size, 0, none⟩), .int .i64 30] rfl rfl (by go_simp) ?_
        refine (pick_any _ _ _ _ C8.out (by omega)).mono ?_
        rintro e w9 ⟨v9, rfl, _, C9', o9⟩
        have Y9 := hide (Y8.out.only o9 (by omega))
        have S9 : Hid (SlT w9 (w.heap.size + 1) w9.heap.size (.slice (some ⟨blk, off, none⟩) n1 c1) n1 T) := (slTO S8.out o9 (by omega) (Nat.le_refl _)).mono (Nat.le_refl _) o9.size
        have HB9 : Hid (Below w.heap.size w w9) := HB8.out.trans (o9.below (Nat.le_refl _) HB8.out.size)
        clear S8 HB8
        have C9 := hide C9'
        clear C8 C9' o9 Y8
        refine ⟨_, rfl, Y9.out, ?_⟩
        go_simp
        obtain ⟨sy, hsy⟩ : ∃ z, z = IntKind.i64.wrap (lb - v9) := ⟨_, rfl⟩
        refine mix_look _ (.int .i64 sy) rfl rfl (fun w' hw' => (by first | (go_simp; done) | (go_simp; rw [hsy]))) ?_
        clear hsy
        go_simp
        refine mix_look _ _ rfl rfl (fun w' _ => BigFrame.run_assign _ rfl w') ?_
        go_simp
        refine mix_look _ _ rfl rfl (fun w' _ => BigFrame.run_assign _ rfl w') ?_
        go_simp
        refine mix_look _ _ rfl rfl (fun w' _ => BigFrame.run_assign _ rfl w') ?_
        go_simp
        refine mix_look _ _ rfl rfl (fun w' _ => BigFrame.run_assign _ rfl w') ?_
        go_simp
        refine wpMix_nil ?_
        clear Y9 C9
        have SF : Hid (SlT w9 w.heap.size w9.heap.size (.slice (some ⟨blk, off, none⟩) n1 c1) n1 T) := S9.out.mono (by omega) (Nat.le_refl _)
        go_wp2_with fail
        exact bodyPost_ret (v := .tuple #[.slice (some ⟨blk, off, none⟩) n1 c1, .string s, .int .i64 sx, .int .i64 sy]) (by simp [results, Try.results24, go_sem, *]) rfl ⟨_, _, T, _, _, _, rfl, hn1, HC.out, hss, SF.out, HB9.out⟩

end Go.Proofs.Ytnfhgnibjebmlaa

/-
  An append of one row of the call's own onto another.-/
namespace Go.Proofs.Ytnfhgnibjebmlaa
set_option linter.unusedVariables false
set_option linter.unusedSimpArgs false
open Go.RowKit

theorem run_append_rows {P : Program} (w : World) (base base2 : Nat) (t ty e : TypeId) (i : TypeInfo) (z : Value) (size bytes : Nat) (ht : P.underlying t = some (.slice e)) (hi : P.info? e = some i) (hz : i.zero = some z)
    (hsize : i.size = size) (hby : i.bytes = bytes) (hzs : z.cells.size = size) (hsz : 0 < size)
    (v u : Value) (n m : Nat) (xs ys : List Value) (hown : w.ownsRow base e size v n xs) (hown2 : w.ownsRow base2 e size u m ys) (h1 : ∀ u ∈ ys, u.oneCell' = true)
    (h63 : n + m ≤ maxLen) (hbytes : (n + m) * bytes ≤ 140737488355328) (hbase : base ≤ w.heap.size) :
    ∃ v' w', (Builtin.append_ #[t, t] ty #[v, u]).run P w = .ok v' w' ∧ w'.ownsRow base e size v' (n + m) (xs ++ ys) ∧ w.grownBy w' v.ownBlock := by
  rcases hown2.2 with ⟨rfl, rfl⟩ | ⟨g, cap, cur, rfl, hbg, hg, hnc, hcm, hcs, htake⟩
  · have hy : ys = [] := List.eq_nil_of_length_eq_zero (by simpa using hown2.1)
    subst hy
    refine ⟨v, w, ?_, by simpa using hown, ⟨rfl, rfl, rfl, Nat.le_refl _, fun _ _ _ => rfl⟩⟩
    rcases hown.2 with ⟨rfl, rfl⟩ | ⟨g, cap, cur, rfl, hbg, hg, hnc, hcm, hcs, htake⟩
    · simp [Builtin.append_, run_underlying ht, sizeOf, typeInfo, hi, Builtin.lenOf, Builtin.firstCells, loadCells, loadCellsFrom]
    · simp [Builtin.append_, run_underlying ht, sizeOf, typeInfo, hi, Builtin.lenOf, Builtin.firstCells, loadCells, loadCellsFrom, storeCells, hnc]
  · obtain ⟨v', w', r1, r2, r3, _⟩ := run_append_own (P := P) w base t ty e i z size bytes ht hi hz hsize hby hzs hsz v n xs hown ⟨g, 0, none⟩ m cap ys hown2.1 (hown2.cells rfl) h1 h63 hbytes hbase
    exact ⟨v', w', r1, r2, r3⟩

end Go.Proofs.Ytnfhgnibjebmlaa

/-
  Words for boards that are joined: an append of one row of the call's own onto another.-/
namespace Go.Proofs.Ytnfhgnibjebmlaa
set_option linter.unusedVariables false
set_option linter.unusedSimpArgs false
open Go.RowKit

section
variable {w w' : World} {lo lo2 k d : Nat} {β β' : Nat → Nat} {ck ck' : Nat → Value} {T T' : Nat → Tm}
theorem Subs.app (h : Subs w lo β ck T k) (h' : Subs w lo2 β' ck' T' d) (hl : lo ≤ lo2) (hz : ∀ i, i < k → β i < lo2) :
    Subs w lo (fun i => if i < k then β i else β' (i - k)) (fun i => if i < k then ck i else ck' (i - k)) (fun i => if i < k then T i else T' (i - k)) (k + d) := by
  refine ⟨fun i hi => ?_, fun i j hi hj hij => ?_⟩
  · by_cases h1 : i < k
    · simp only [h1, if_true]
      exact h.1 i h1
    · simp only [h1, if_false]
      obtain ⟨a, b, c⟩ := h'.1 (i - k) (by omega)
      exact ⟨a, by omega, c⟩
  · by_cases h1 : i < k <;> by_cases h2 : j < k
    · simp only [h1, h2, if_true]
      exact h.2 i j h1 h2 hij
    · simp only [h1, h2, if_true, if_false]
      have := hz i h1
      have := (h'.1 (j - k) (by omega)).2.1
      omega
    · simp only [h1, h2, if_true, if_false]
      have := hz j h2
      have := (h'.1 (i - k) (by omega)).2.1
      omega
    · simp only [h1, h2, if_false]
      exact h'.2 _ _ (by omega) (by omega) (by omega)
theorem Subs.congr {n : Nat} (h : Subs w lo β ck T n) (hT : ∀ i, i < n → T i = T' i) : Subs w lo β ck T' n := ⟨fun i hi => hT i hi ▸ h.1 i hi, h.2⟩
theorem rowL_join (T T' : Nat → Tm) (ck ck' : Nat → Value) (k d : Nat) :
    rowL (tC T ck) 4 k ++ rowL (tC T' ck') 4 d = rowL (tC (fun i => if i < k then T i else T' (i - k)) (fun i => if i < k then ck i else ck' (i - k))) 4 (k + d) := by
  rw [rowL_app]
  refine rowL_congr fun i j _ _ => ?_
  by_cases h : i < k
  · simp only [h, if_true, tC]
  · simp only [h, if_false, tC]
theorem row_one {T : Nat → Tm} {ck : Nat → Value} {n : Nat} (hc : ∀ i, i < n → (ck i).oneCell' = true) {u : Value} (h : u ∈ rowL (tC T ck) 4 n) : u.oneCell' = true := by
  obtain ⟨i, j, hi, hj, rfl⟩ := rowL_mem h
  match j, hj with
  | 0, _ => rfl
  | 1, _ => rfl
  | 2, _ => rfl
  | 3, _ => exact hc i hi
theorem Subs.one {n : Nat} (h : Subs w lo β ck T n) : ∀ i, i < n → (ck i).oneCell' = true := fun i hi => by
  obtain ⟨_, _, e, _⟩ := (h.1 i hi).1.open_
  rw [e]; rfl
/-- What an append onto the outer row leaves of the inner ones. -/
theorem Subs.grown {v : Value} {xs : List Value} {lo' n : Nat} (h : Subs w lo β ck T k) (hn : ∀ i, i < k → 0 < (T i).n) (ho : w.ownsRow lo' 27 4 v n xs) (hg : w.grownBy w' v.ownBlock) : Subs w' lo β ck T k :=
  h.keepB hg.size fun i hi => hg.block _ (h.1 i hi).2.2 fun e => by
    have key : ∀ g, v.ownBlock = some g → β i ≠ g := fun g hgg e2 => by
      obtain ⟨a, _, _⟩ := h.1 i hi
      rcases a with ⟨h0, _⟩ | ⟨g1, cap, ys, h0, h1, h2, h3, ⟨_, h4⟩, _⟩
      · have := hn i hi; omega
      obtain rfl : g1 = β i := by omega
      rcases h4 with ⟨h4, _⟩ | ⟨x, _, cur, he, _, hh, _⟩
      · rw [h0] at h4; cases h4
      rw [h0] at he
      injection he with e1 _ _
      injection e1 with e1
      injection e1 with e1
      rcases ho.2 with ⟨h5, _⟩ | ⟨y, _, cur', he', _, hh', _⟩
      · rw [h5] at hgg; cases hgg
      rw [he'] at hgg
      injection hgg with hgg
      have hgg : y = g := hgg
      rw [← e1] at hh
      rw [hgg, ← e2] at hh'
      rw [hh] at hh'
      injection hh' with hh'
      injection hh' with _ e3 _
      exact absurd e3 (by decide)
    exact key _ e.symm rfl
end

end Go.Proofs.Ytnfhgnibjebmlaa

/-
  Walks: a team put into a board of the call's own, at a place: slices.Insert.-/
namespace Go.Proofs.Ytnfhgnibjebmlaa
set_option linter.unusedVariables false
set_option linter.unusedSimpArgs false
open Go.RowKit

/-- copy between two slices whose elements are of some cells: all is read before anything is written. -/
theorem run_copy_wide {P : Program} (w : World) (dT sT ty elem : TypeId) (b o dLen dCap : Nat) (a : Addr) (sLen sCap sz : Nat) (cs : List Value)
    (hu : P.underlying dT = some (.slice elem)) (hs : (P.info? elem).map (·.size) = some sz) (hn : cs.length = Nat.min sLen dLen * sz)
    (hsrc : ∀ j v, cs[j]? = some v → w.cell? (a.add j) = some v) (hc : ∀ j, j < cs.length → (w.cell? ⟨b, o + j, none⟩).isSome = true) (hf : ∀ j, j < cs.length → w.frozen? ⟨b, o + j, none⟩ = false) (h1 : ∀ v ∈ cs, v.oneCell' = true) :
    (Builtin.copy_ #[dT, sT] ty #[.slice (some ⟨b, o, none⟩) dLen dCap, .slice (some a) sLen sCap]).run P w = .ok (goInt (Nat.min sLen dLen)) (w.setCells b o cs) := by
  have hl := run_loadCells_list (P := P) w a cs hsrc
  have hst := run_storeCells_cells (P := P) b o cs 0 w (by simpa using hc) (by simpa using hf) h1
  rw [hn] at hl
  cases hq : P.info? elem with
  | none => simp [hq] at hs
  | some i =>
    have hi : i.size = sz := by simpa [hq] using hs
    simp [Builtin.copy_, run_underlying hu, Builtin.lenOf, Builtin.firstCells, sizeOf, typeInfo, hq, hi, hl, hst]
theorem wpList_copy_at {P : Program} (w : World) {ops : Array Oper} {rest : List Oper} {o : Oper} {a : Act} {Q : Exit → Act → World → Prop} (hgd : o.guard = none) (d s : Operand) (t t' : TypeId)
    (ho : o.op = .call { callee := .builtin .copy, args := #[d, s], argTypes := #[t, t'] }) (v u : Value) (hd : a.eval d = v) (hs : a.eval s = u) {v' : Value} {w' : World}
    (hr : (Builtin.copy_ #[t, t'] o.type #[v, u]).run P w = .ok v' w') (h : wpList P ops Q rest (a.put o.dst v') w') : wpList P ops Q (o :: rest) a w :=
  wpList_plain hgd fun _ hK => by
    unfold Oper.wp execOp
    simp only [ho, resolve, invoke, builtin, Sem.run_bind, Sem.run_pure, Result.andThen_ok, List.map_toArray, List.map_cons, List.map_nil, hd, hs, hr]
    exact hK _ _ h
theorem step_copy_at {P : Program} {ops : Array Oper} {o : Oper} {a : Act} {w : World} {K : Act → World → Prop} {Q : Exit → Act → World → Prop} {E : Prop}
    (hg : o.guard = none) (d x : Operand) (dT sT : TypeId) (hop : o.op = Op.call { callee := Callee.builtin Builtin.copy, args := #[d, x], argTypes := #[dT, sT] })
    (v u : Value) (hd : a.eval d = v) (hx : a.eval x = u) {v' : Value} {w' : World} (hr : (Builtin.copy_ #[dT, sT] o.type #[v, u]).run P w = .ok v' w') (hK : K (a.put o.dst v') w') :
    if Region.wanted o (yielded ops a.tmps) = true then Oper.wp P o a w K Q else E := by
  have hw : Region.wanted o (yielded ops a.tmps) = true := by simp [Region.wanted, hg]
  rw [if_pos hw]
  unfold Oper.wp
  simp [execOp, hop, resolve, invoke, builtin, hd, hx, hr, Result.andThen]
  exact hK
section
variable {w w' : World} {lo hi E sz n m K cap g : Nat} {cc : Nat → Value}
theorem OwnL.ext1 (h : OwnL w lo hi E sz (.slice (some ⟨g, 0, none⟩) n cap) n K cc) (hn : 0 < n) (hc : n + 1 ≤ cap) : ∃ cc', OwnL w lo hi E sz (.slice (some ⟨g, 0, none⟩) (n + 1) cap) (n + 1) ((n + 1) * sz) cc' ∧ ∀ o, o < K → o < n * sz → cc' o = cc o := by
  rcases h with ⟨h0, _⟩ | ⟨g', cap', xs, h0, a1, a2, a3, ⟨hl, a4⟩, a5⟩
  · omega
  · injection h0 with e1 e2 e3
    injection e1 with e1
    injection e1 with e1
    subst e1 e3
    rcases a4 with ⟨a4, _⟩ | ⟨x, y, cur, he, hb, hh, hnc, hcm, hcs, ht⟩
    · cases a4
    · injection he with e1 _ e3
      injection e1 with e1
      injection e1 with e1
      subst e1 e3
      have hle : (n + 1) * sz ≤ cap * sz := Nat.mul_le_mul_right sz hc
      have hns : n * sz ≤ (n + 1) * sz := Nat.mul_le_mul_right sz (Nat.le_succ n)
      have hlen : (cur.toList.take ((n + 1) * sz)).length = (n + 1) * sz := by rw [List.length_take, Array.length_toList, hcs]; omega
      refine ⟨fun o => (cur.toList.take ((n + 1) * sz)).getD o (.bool false), .inr ⟨g, cap, cur.toList.take ((n + 1) * sz), rfl, a1, a2, hc, ⟨hlen, .inr ⟨g, cap, cur, rfl, hb, hh, hc, hcm, hcs, rfl⟩⟩, fun o ho _ => ?_⟩, fun o ho ho' => ?_⟩
      · simp [List.getD, List.getElem?_eq_getElem (show o < (cur.toList.take ((n + 1) * sz)).length by omega)]
      · have h1 := a5 o ho ho'
        rw [← ht, List.getElem?_take, if_pos ho'] at h1
        show (cur.toList.take ((n + 1) * sz)).getD o (.bool false) = cc o
        rw [List.getD, List.getElem?_take, if_pos (by omega), h1]
        rfl
end
def insC (k : Nat) (c : Nat → Nat → Value) (x : Nat → Value) (i j : Nat) : Value := if i < k then c i j else if i = k then x j else c (i - 1) j
/-- The cells behind the two copies. -/
theorem OwnL.shifted {w W1 W2 : World} {γ E k d cap : Nat} {cc : Nat → Value} {c : Nat → Nat → Value} {x : Nat → Value} (h : OwnL w γ (γ + 1) E 4 (.slice (some ⟨γ, 0, none⟩) (k + d + 2) cap) (k + d + 2) ((k + d + 2) * 4) cc)
    (hcc : ∀ o, o < k * 4 → cc o = c (o / 4) (o % 4)) (s : List Value) (hs : s.length = (d + 1) * 4) (hsc : ∀ i j, i < d + 1 → j < 4 → s[i * 4 + j]? = some (c (k + i) j))
    (hW1 : W1 = w.setCells γ ((k + 1) * 4) s) (hW2 : W2 = W1.setCells γ (k * 4) [x 0, x 1, x 2, x 3]) :
    OwnL W2 γ (γ + 1) E 4 (.slice (some ⟨γ, 0, none⟩) (k + d + 2) cap) (k + d + 2) ((k + d + 2) * 4) (fun o => insC k c x (o / 4) (o % 4)) := by
  have a1 := h.setCells (vs := s) (o := (k + 1) * 4) (by omega)
  rw [← hW1] at a1
  have a2 := a1.setCells (vs := [x 0, x 1, x 2, x 3]) (o := k * 4) (by simp; omega)
  rw [← hW2] at a2
  refine a2.congr fun o ho => ?_
  obtain ⟨i, j, hj, rfl⟩ : ∃ i j, j < 4 ∧ o = i * 4 + j := ⟨o / 4, o % 4, by omega, by omega⟩
  have e1 : (i * 4 + j) / 4 = i := by omega
  have e2 : (i * 4 + j) % 4 = j := by omega
  simp only [List.length_cons, List.length_nil]
  rw [e1, e2]
  unfold insC
  rcases Nat.lt_trichotomy i k with hik | hik | hik
  · rw [if_neg (by omega), if_neg (by omega), if_pos hik, hcc _ (by omega), e1, e2]
  · subst hik
    rw [if_pos (by omega), if_neg (by omega), if_pos rfl, Nat.add_sub_cancel_left]
    match j, hj with
    | 0, _ => rfl
    | 1, _ => rfl
    | 2, _ => rfl
    | 3, _ => rfl
  · rw [if_neg (by omega), if_pos (by omega), if_neg (by omega), if_neg (by omega), show i * 4 + j - (k + 1) * 4 = (i - (k + 1)) * 4 + j by omega, List.getD, hsc _ _ (by omega) hj, show k + (i - (k + 1)) = i - 1 by omega]
    rfl

end Go.Proofs.Ytnfhgnibjebmlaa

/-
  Walks: slices.Insert of one team: there is room.-/
namespace Go.Proofs.Ytnfhgnibjebmlaa
set_option linter.unusedVariables false
set_option linter.unusedSimpArgs false
open Go.RowKit

theorem infoT4 : (Try.prog.info? 27).map (·.size) = some 4 := by
  obtain ⟨ii, hii, _, iz1, _⟩ := info_parts infoTeam
  rw [hii]; simp [iz1]
set_option maxRecDepth 100000 in
set_option maxHeartbeats 3200000 in
theorem InsertTeam_shift (c : Nat → Nat → Value) (x : Nat → Value) (k d γ vb cap : Nat) (w : World) (h : OwnL w γ (γ + 1) 27 4 (.slice (some ⟨γ, 0, none⟩) (k + d + 1) cap) (k + d + 1) ((k + d + 1) * 4) (fun o => c (o / 4) (o % 4))) (hn : k + d + 1 ≤ 6) (hγ : γ < w.heap.size) (hroom : k + d + 2 ≤ cap)
    (hvb : w.heap[vb]? = some (.cells #[x 0, x 1, x 2, x 3] 27 (0, 0))) (hne : vb ≠ γ) (hc1 : ∀ i j, i < k + d + 1 → j < 4 → (c i j).oneCell' = true) (hx1 : ∀ j, j < 4 → (x j).oneCell' = true) :
    Calls Try.prog 37 #[.slice (some ⟨γ, 0, none⟩) (k + d + 1) cap, .int .i64 k, .slice (some ⟨vb, 0, none⟩) 1 1] w fun e w' => e = .returned (.slice (some ⟨γ, 0, none⟩) (k + d + 2) cap) ∧ OwnL w' γ (γ + 1) 27 4 (.slice (some ⟨γ, 0, none⟩) (k + d + 2) cap) (k + d + 2) ((k + d + 2) * 4) (fun o => insC k c x (o / 4) (o % 4)) ∧ Only γ (γ + 1) w w' := by
  obtain ⟨hcap, hmax⟩ := h.cap_le (by omega)
  unfold maxLen at hmax
  obtain ⟨cc, hx, hcc⟩ := h.ext1 (by omega) (by omega)
  have hsh : w.shape? γ = some (27, cap * 4) := by
    rcases h with ⟨h0, _⟩ | ⟨g', cap', xs, h0, a1, a2, a3, ⟨hl, a4⟩, a5⟩
    · omega
    · injection h0 with f1 _ f3
      injection f1 with f1
      injection f1 with f1
      subst f1 f3
      rcases a4 with ⟨a4, _⟩ | ⟨y, z, cur, he, hb, hh, hnc, hcm, hcs, ht⟩
      · cases a4
      · injection he with e1 _ e3
        injection e1 with e1
        injection e1 with e1
        subst e1 e3
        simp [World.shape?, hh, hcs]
  have hsv : w.shape? vb = some (27, 4) := by simp [World.shape?, hvb]
  have hfv : ∀ o, w.frozen? ⟨vb, o, none⟩ = false := fun o => by simp [World.frozen?, hvb]
  have hcv : ∀ j u, [x 0, x 1, x 2, x 3][j]? = some u → w.cell? ⟨vb, j, none⟩ = some u := fun j u hu => by
    simp only [World.cell?, hvb]
    match j, hu with
    | 0, hu => simpa using hu
    | 1, hu => simpa using hu
    | 2, hu => simpa using hu
    | 3, hu => simpa using hu
  obtain ⟨cs, hcs⟩ : ∃ cs, cs = rowL (fun i j => c (k + i) j) 4 (d + 1) := ⟨_, rfl⟩
  have hcl : cs.length = (d + 1) * 4 := by rw [hcs]; exact rowL_len _ _ _
  have hcg : ∀ i j, i < d + 1 → j < 4 → cs[i * 4 + j]? = some (c (k + i) j) := fun i j hi hj => by rw [hcs]; exact rowL_get _ _ hi hj
  obtain ⟨W1, hW1⟩ : ∃ W1, W1 = w.drew.setCells γ ((k + 1) * 4) cs := ⟨_, rfl⟩
  obtain ⟨W2, hW2⟩ : ∃ W2, W2 = W1.setCells γ (k * 4) [x 0, x 1, x 2, x 3] := ⟨_, rfl⟩
  have hxd : OwnL w.drew γ (γ + 1) 27 4 (.slice (some ⟨γ, 0, none⟩) (k + d + 2) cap) (k + d + 2) ((k + d + 2) * 4) cc := hx.keep1 rfl
  have hfin := hxd.shifted (c := c) (x := x) (fun o ho => hcc o (by omega) (by omega)) cs hcl hcg hW1 hW2
  have hcell : ∀ o, o < (k + d + 1) * 4 → w.cell? ⟨γ, o, none⟩ = some (c (o / 4) (o % 4)) := fun o ho => (h.cell (by omega) ho).2.2 ho
  have hall : ∀ o, o < (k + d + 2) * 4 → (w.drew.cell? ⟨γ, o, none⟩).isSome = true ∧ w.drew.frozen? ⟨γ, o, none⟩ = false := fun o ho => by
    obtain ⟨⟨u, a⟩, b, _⟩ := hxd.cell (by omega) ho
    rw [a]
    exact ⟨rfl, b⟩
  have ho1 := hxd.setCells (vs := cs) (o := (k + 1) * 4) (by omega)
  rw [← hW1] at ho1
  have hall1 : ∀ o, o < (k + d + 2) * 4 → (W1.cell? ⟨γ, o, none⟩).isSome = true ∧ W1.frozen? ⟨γ, o, none⟩ = false := fun o ho => by
    obtain ⟨⟨u, a⟩, b, _⟩ := ho1.cell (by omega) ho
    rw [a]
    exact ⟨rfl, b⟩
  have hcp1 : ∀ ty dl dc sl sc, dl = d + 1 → sl = d + 2 → (Builtin.copy_ #[24, 24] ty #[.slice (some ⟨γ, (k + 1) * 4, none⟩) dl dc, .slice (some ⟨γ, k * 4, none⟩) sl sc]).run Try.prog w.drew = .ok (goInt (Nat.min (d + 2) (d + 1))) W1 := fun ty dl dc sl sc e1 e2 => by
    subst e1 e2
    rw [hW1]
    refine run_copy_wide w.drew _ _ ty 27 γ ((k + 1) * 4) (d + 1) dc ⟨γ, k * 4, none⟩ (d + 2) sc 4 cs Try.underlying24 infoT4 (by rw [hcl]; simp only [Nat.min_def]; split <;> omega) (fun j v hj => ?_) (fun j hj => (hall _ (by omega)).1) (fun j hj => (hall _ (by omega)).2) (fun v hv => ?_)
    · have hj4 := (List.getElem?_eq_some_iff.1 hj).1
      have h2 := hcell (k * 4 + j) (by omega)
      rw [Addr.add_lit]
      show w.cell? _ = _
      rw [h2]
      have h3 := hcg (j / 4) (j % 4) (by omega) (by omega)
      rw [Nat.div_add_mod', hj] at h3
      rw [h3, show (k * 4 + j) / 4 = k + j / 4 by omega, show (k * 4 + j) % 4 = j % 4 by omega]
    · rw [hcs] at hv
      obtain ⟨i, j, hi, hj, rfl⟩ := rowL_mem hv
      exact hc1 _ _ (by omega) hj
  have hcp2 : ∀ (W : World), (∀ y, W.cell? y = W1.cell? y) → (∀ y, W.frozen? y = W1.frozen? y) → ∀ ty dl dc, dl = d + 2 → (Builtin.copy_ #[24, 24] ty #[.slice (some ⟨γ, k * 4, none⟩) dl dc, .slice (some ⟨vb, 0, none⟩) 1 1]).run Try.prog W = .ok (goInt (Nat.min 1 (d + 2))) (W.setCells γ (k * 4) [x 0, x 1, x 2, x 3]) := fun W hWc hWf ty dl dc e1 => by
    subst e1
    refine run_copy_wide W _ _ ty 27 γ (k * 4) (d + 2) dc ⟨vb, 0, none⟩ 1 1 4 [x 0, x 1, x 2, x 3] Try.underlying24 infoT4 (by simp only [Nat.min_def]; split <;> first | (simp; done) | (simp; omega) | omega) (fun j v hj => ?_) (fun j hj => by rw [hWc]; simp at hj; exact (hall1 _ (by omega)).1) (fun j hj => by rw [hWf]; simp at hj; exact (hall1 _ (by omega)).2) (fun v hv => ?_)
    · rw [Addr.add_lit, hWc, hW1, World.cell?_setCells_out γ _ _ _ _ (fun e _ => absurd e hne), Nat.zero_add]
      exact hcv j v hj
    · simp at hv
      rcases hv with rfl | rfl | rfl | rfl
      · exact hx1 0 (by omega)
      · exact hx1 1 (by omega)
      · exact hx1 2 (by omega)
      · exact hx1 3 (by omega)
  have hov : ∀ lb cb, (callFunc 66 #[.slice (some ⟨vb, 0, none⟩) 1 1, .slice (some ⟨γ, (k + 1) * 4, none⟩) lb cb]).run Try.prog w = .ok (.value (.bool false)) w := fun lb cb => by
    rw [run_callFunc_extern Try.func66 (by kernel_rfl) (by kernel_rfl) (by kernel_rfl) (e := Extern.SlicesOverlaps.overlaps #[24, 24] #[4]) (by kernel_rfl),
      Lib.run_overlaps_apart w 24 4 27 Try.underlying24 4 Try.sizeOf27 ⟨vb, 0, none⟩ ⟨γ, (k + 1) * 4, none⟩ 1 1 lb cb hne _ _ _ _ hsv hsh (by omega) (hfv 0) (hfv 4)]
    rfl
  have HF := hide hfin
  have hO : Hid (Only γ (γ + 1) w W2) := by
    show Only _ _ _ _
    rw [hW2]
    refine Only.setCells ?_
    rw [hW1]
    exact Only.setCells ⟨rfl, rfl, rfl, Nat.le_refl _, fun _ _ _ => rfl⟩
  have HW2 := hide hW2
  clear hfin ho1 hall hall1 hxd hx hcc hcell hcg hcl hcs h hW1 hW2 hsh hsv hfv hcv
  have l1 : k ≤ cap := by omega
  have l2 : k + 1 ≤ cap := by omega
  have l3 : ¬ cap = k := by omega
  have l4 : ¬ cap = k + 1 := by omega
  have l5 : (k : Int) + 1 ≤ (k : Int) + (d : Int) + 1 := by omega
  have l6 : (0 : Int) ≤ (k : Int) + 1 := by omega
  have l7 : (k : Int) ≤ (k : Int) + (d : Int) + 1 := by omega
  have l8 : ¬ ((k : Int) = (k : Int) + (d : Int) + 1) := by omega
  have l9 : ¬ ((cap : Int) < (k : Int) + (d : Int) + 1 + 1) := by omega
  have l10 : (k : Int) ≤ (k : Int) + (d : Int) + 1 + 1 := by omega
  have w1 : IntKind.i64.wrap ((k : Int) + 1) = (k : Int) + 1 := by rw [IntKind.wrap_i64]; omega
  have w2 : IntKind.i64.wrap ((k : Int) + (d : Int) + 1 + 1) = (k : Int) + (d : Int) + 1 + 1 := by rw [IntKind.wrap_i64]; omega
  go_enter Try.func37, Try.ntmps37
  go_wp2_with (simp only [hov])
  go_region_law (refine step_copy_at rfl _ _ 24 24 rfl (.slice (some ⟨γ, (k + 1) * 4, none⟩) (k + d + 1 - k) (cap - (k + 1))) (.slice (some ⟨γ, k * 4, none⟩) (k + d + 1 + 1 - k) (cap - k)) (by simp [Act.eval, Act.put]) (by simp [Act.eval, Act.put]) (hcp1 _ _ _ _ _ (by omega) (by omega)) ?_)
  have hcp3 : ∀ ty, (Builtin.copy_ #[24, 24] ty #[.slice (some ⟨γ, k * 4, none⟩) (k + d + 1 + 1 - k) (cap - k), .slice (some ⟨vb, 0, none⟩) 1 1]).run Try.prog W1 = .ok (goInt (Nat.min 1 (d + 2))) W2 := fun ty => by
    rw [hcp2 W1 (fun _ => rfl) (fun _ => rfl) ty _ _ (by omega), HW2.out]
  clear hcp1 hcp2
  go_wp2_with fail
  go_ret
  exact ⟨rfl, HF.out, hO.out⟩

end Go.Proofs.Ytnfhgnibjebmlaa

/-
  Walks: slices.Insert of one team: there is no room.-/
namespace Go.Proofs.Ytnfhgnibjebmlaa
set_option linter.unusedVariables false
set_option linter.unusedSimpArgs false
open Go.RowKit

theorem OwnL.shifted2 {w W1 W2 : World} {γ E k d cap : Nat} {cc : Nat → Value} {c : Nat → Nat → Value} {x : Nat → Value} (h : OwnL w γ (γ + 1) E 4 (.slice (some ⟨γ, 0, none⟩) (k + d + 2) cap) (k + d + 2) ((k + d + 2) * 4) cc)
    (hcc : ∀ o, o < k * 4 → cc o = c (o / 4) (o % 4)) (s : List Value) (hs : s.length = (d + 1) * 4) (hsc : ∀ i j, i < d + 1 → j < 4 → s[i * 4 + j]? = some (c (k + i) j))
    (hW1 : W1 = (w.setCells γ (k * 4) [x 0, x 1, x 2, x 3]).drew) (hW2 : W2 = W1.setCells γ ((k + 1) * 4) s) :
    OwnL W2 γ (γ + 1) E 4 (.slice (some ⟨γ, 0, none⟩) (k + d + 2) cap) (k + d + 2) ((k + d + 2) * 4) (fun o => insC k c x (o / 4) (o % 4)) := by
  have a0 := h.setCells (vs := [x 0, x 1, x 2, x 3]) (o := k * 4) (by simp; omega)
  have a1 : OwnL W1 γ (γ + 1) E 4 _ _ _ _ := a0.keep1 (w' := W1) (by rw [hW1]; rfl)
  have a2 := a1.setCells (vs := s) (o := (k + 1) * 4) (by omega)
  rw [← hW2] at a2
  refine a2.congr fun o ho => ?_
  obtain ⟨i, j, hj, rfl⟩ : ∃ i j, j < 4 ∧ o = i * 4 + j := ⟨o / 4, o % 4, by omega, by omega⟩
  have e1 : (i * 4 + j) / 4 = i := by omega
  have e2 : (i * 4 + j) % 4 = j := by omega
  simp only [List.length_cons, List.length_nil]
  rw [e1, e2]
  unfold insC
  rcases Nat.lt_trichotomy i k with hik | hik | hik
  · rw [if_neg (by omega), if_neg (by omega), if_pos hik, hcc _ (by omega), e1, e2]
  · subst hik
    rw [if_neg (by omega), if_pos (by omega), if_neg (by omega), if_pos rfl, Nat.add_sub_cancel_left]
    match j, hj with
    | 0, _ => rfl
    | 1, _ => rfl
    | 2, _ => rfl
    | 3, _ => rfl
  · rw [if_pos (by omega), if_neg (by omega), if_neg (by omega), show i * 4 + j - (k + 1) * 4 = (i - (k + 1)) * 4 + j by omega, List.getD, hsc _ _ (by omega) hj, show k + (i - (k + 1)) = i - 1 by omega]
    rfl
set_option maxRecDepth 100000 in
set_option maxHeartbeats 3200000 in
theorem InsertTeam_grow (c : Nat → Nat → Value) (x : Nat → Value) (k d γ vb cap : Nat) (w : World) (h : OwnL w γ (γ + 1) 27 4 (.slice (some ⟨γ, 0, none⟩) (k + d + 1) cap) (k + d + 1) ((k + d + 1) * 4) (fun o => c (o / 4) (o % 4))) (hn : k + d + 1 ≤ 6) (hγ : γ < w.heap.size) (hroom : cap < k + d + 2)
    (hvb : w.heap[vb]? = some (.cells #[x 0, x 1, x 2, x 3] 27 (0, 0))) (hc1 : ∀ i j, i < k + d + 1 → j < 4 → (c i j).oneCell' = true) (hx1 : ∀ j, j < 4 → (x j).oneCell' = true) :
    Calls Try.prog 37 #[.slice (some ⟨γ, 0, none⟩) (k + d + 1) cap, .int .i64 k, .slice (some ⟨vb, 0, none⟩) 1 1] w fun e w' => ∃ G, e = .returned (.slice (some ⟨w.heap.size, 0, none⟩) (k + d + 2) G) ∧ OwnL w' w.heap.size (w.heap.size + 1) 27 4 (.slice (some ⟨w.heap.size, 0, none⟩) (k + d + 2) G) (k + d + 2) ((k + d + 2) * 4) (fun o => insC k c x (o / 4) (o % 4)) ∧ Below w.heap.size w w' ∧ w.heap.size < w'.heap.size := by
  obtain ⟨hcap, hmax⟩ := h.cap_le (by omega)
  unfold maxLen at hmax
  obtain ⟨ii, hii, iz0, iz1, iz2⟩ := info_parts infoTeam
  have hvlt : vb < w.heap.size := (Array.getElem?_eq_some_iff.1 hvb).1
  have hcell : ∀ o, o < (k + d + 1) * 4 → w.cell? ⟨γ, o, none⟩ = some (c (o / 4) (o % 4)) := fun o ho => (h.cell (by omega) ho).2.2 ho
  have hcv : ∀ j u, [x 0, x 1, x 2, x 3][j]? = some u → w.cell? ⟨vb, j, none⟩ = some u := fun j u hu => by
    simp only [World.cell?, hvb]
    match j, hu with
    | 0, hu => simpa using hu
    | 1, hu => simpa using hu
    | 2, hu => simpa using hu
    | 3, hu => simpa using hu
  obtain ⟨cs, hcs⟩ : ∃ cs, cs = rowL (fun i j => c (k + i) j) 4 (d + 1) := ⟨_, rfl⟩
  have hcl : cs.length = (d + 1) * 4 := by rw [hcs]; exact rowL_len _ _ _
  have hcg : ∀ i j, i < d + 1 → j < 4 → cs[i * 4 + j]? = some (c (k + i) j) := fun i j hi hj => by rw [hcs]; exact rowL_get _ _ hi hj
  have hold : (Builtin.firstCells ii.size k (.slice (some ⟨γ, 0, none⟩) k cap)).run Try.prog w.drew = .ok (rowL c 4 k).toArray w.drew := by
    rw [iz1]
    refine run_firstCells_some w.drew 4 k ⟨γ, 0, none⟩ k cap (rowL c 4 k) (rowL_len _ _ _) (fun j v hj => ?_)
    have hj4 := (List.getElem?_eq_some_iff.1 hj).1
    rw [rowL_len] at hj4
    have h3 := rowL_get c 4 (k := k) (i := j / 4) (j := j % 4) (by omega) (by omega)
    rw [Nat.div_add_mod', hj] at h3
    rw [Addr.add_lit, Nat.zero_add, h3]
    exact hcell j (by omega)
  obtain ⟨G, hG⟩ : ∃ G, G = grownCap w (k + (d + 2)) cap 27 := ⟨_, rfl⟩
  obtain ⟨ROW, hROW⟩ : ∃ ROW : Array Value, ROW = (rowL c 4 k).toArray ++ Builtin.zeroCells (Value.agg #[.string ⟨#[]⟩, .int .i64 0, .int .i64 0, .slice none 0 0]).cells (d + 2) ++ Builtin.zeroCells (Value.agg #[.string ⟨#[]⟩, .int .i64 0, .int .i64 0, .slice none 0 0]).cells (G - (k + (d + 2))) := ⟨_, rfl⟩
  have hrz : ∀ ty, (Builtin.append_ #[24, 3] ty #[.slice (some ⟨γ, 0, none⟩) k cap, .int .i64 ((d : Int) + 2)]).run Try.prog w =
      .ok (.slice (some ⟨w.heap.size, 0, none⟩) (k + d + 2) G) (w.drew.alloc (.cells ROW 27)) := fun ty => by
    have h5 := Lib.run_append_grow_zeros w 24 3 ty 27 ii _ .i64 .i64 Try.underlying24 Try.underlying3 hii iz0 (some ⟨γ, 0, none⟩) k cap (rowL c 4 k) hold (d + 2) (by omega) (by omega) (by omega) (by omega) (by rw [iz2]; omega) (by rw [iz2]; exact growslice_fits (by omega) (by omega))
    rw [← hG, ← hROW] at h5
    exact h5
  have hGn : k + (d + 2) ≤ G := by rw [hG]; exact grownCap_ge w _ _ _
  have hG63 : G ≤ maxLen := by rw [hG]; exact grownCap_le_maxLen w _ _ _ (by unfold maxLen; omega)
  have hRl : ROW.size = G * 4 := by
    rw [hROW]
    have : (Value.agg #[.string ⟨#[]⟩, .int .i64 0, .int .i64 0, .slice none 0 0]).cells.size = 4 := by kernel_rfl
    simp only [Array.size_append, List.size_toArray, rowL_len, size_zeroCells, this]
    omega
  obtain ⟨W0, hW0⟩ : ∃ W0, W0 = w.drew.alloc (.cells ROW 27) := ⟨_, rfl⟩
  obtain ⟨W1, hW1⟩ : ∃ W1, W1 = (W0.setCells w.heap.size (k * 4) [x 0, x 1, x 2, x 3]).drew := ⟨_, rfl⟩
  obtain ⟨W2, hW2⟩ : ∃ W2, W2 = W1.setCells w.heap.size ((k + 1) * 4) cs := ⟨_, rfl⟩
  have hx : OwnL W0 w.heap.size (w.heap.size + 1) 27 4 (.slice (some ⟨w.heap.size, 0, none⟩) (k + d + 2) G) (k + d + 2) ((k + d + 2) * 4) (fun o => (ROW.toList.take ((k + d + 2) * 4)).getD o (.bool false)) := by
    have hlen : (ROW.toList.take ((k + d + 2) * 4)).length = (k + d + 2) * 4 := by rw [List.length_take, Array.length_toList, hRl]; omega
    refine .inr ⟨w.heap.size, G, ROW.toList.take ((k + d + 2) * 4), rfl, Nat.le_refl _, Nat.lt_succ_self _, by omega, ⟨hlen, .inr ⟨w.heap.size, G, ROW, rfl, Nat.le_refl _, ?_, by omega, hG63, hRl, rfl⟩⟩, fun o ho _ => ?_⟩
    · rw [hW0]; exact heap_alloc_new w.drew _
    · simp [List.getD, List.getElem?_eq_getElem (show o < (ROW.toList.take ((k + d + 2) * 4)).length by omega)]
  have hcc : ∀ o, o < k * 4 → (ROW.toList.take ((k + d + 2) * 4)).getD o (.bool false) = c (o / 4) (o % 4) := fun o ho => by
    have h3 := rowL_get c 4 (k := k) (i := o / 4) (j := o % 4) (by omega) (by omega)
    rw [Nat.div_add_mod'] at h3
    rw [List.getD, List.getElem?_take, if_pos (by omega), hROW]
    simp only [Array.toList_append, List.append_assoc]
    rw [List.getElem?_append_left (by rw [rowL_len]; omega), h3]
    rfl
  have hfin := hx.shifted2 (c := c) (x := x) hcc cs hcl hcg hW1 hW2
  have hall : ∀ o, o < (k + d + 2) * 4 → (W0.cell? ⟨w.heap.size, o, none⟩).isSome = true ∧ W0.frozen? ⟨w.heap.size, o, none⟩ = false := fun o ho => by
    obtain ⟨⟨u, a⟩, b, _⟩ := hx.cell (by omega) ho
    rw [a]
    exact ⟨rfl, b⟩
  have ho1 := hx.setCells (vs := [x 0, x 1, x 2, x 3]) (o := k * 4) (by simp; omega)
  have hall1 : ∀ o, o < (k + d + 2) * 4 → (W1.cell? ⟨w.heap.size, o, none⟩).isSome = true ∧ W1.frozen? ⟨w.heap.size, o, none⟩ = false := fun o ho => by
    obtain ⟨⟨u, a⟩, b, _⟩ := ho1.cell (by omega) ho
    rw [hW1]
    exact ⟨by show (World.cell? (W0.setCells _ _ _) _).isSome = true; rw [a]; rfl, b⟩
  have hold0 : ∀ b o, b < w.heap.size → W0.cell? ⟨b, o, none⟩ = w.cell? ⟨b, o, none⟩ := fun b o hb => by
    rw [hW0]
    exact World.cell?_of_block (a := ⟨b, o, none⟩) (heap_alloc_old w.drew _ hb)
  have hold1 : ∀ b o, b < w.heap.size → W1.cell? ⟨b, o, none⟩ = w.cell? ⟨b, o, none⟩ := fun b o hb => by
    rw [hW1]
    show World.cell? (W0.setCells _ _ _) _ = _
    rw [World.cell?_setCells_out _ _ _ _ _ (fun e _ => by have e : b = w.heap.size := e; omega)]
    exact hold0 b o hb
  have hcp1 : ∀ (W : World), (∀ y, W.cell? y = W0.cell? y) → (∀ y, W.frozen? y = W0.frozen? y) → ∀ ty dl dc, dl = d + 2 → (Builtin.copy_ #[24, 24] ty #[.slice (some ⟨w.heap.size, k * 4, none⟩) dl dc, .slice (some ⟨vb, 0, none⟩) 1 1]).run Try.prog W = .ok (goInt (Nat.min 1 (d + 2))) (W.setCells w.heap.size (k * 4) [x 0, x 1, x 2, x 3]) := fun W hWc hWf ty dl dc e1 => by
    subst e1
    refine run_copy_wide W _ _ ty 27 w.heap.size (k * 4) (d + 2) dc ⟨vb, 0, none⟩ 1 1 4 [x 0, x 1, x 2, x 3] Try.underlying24 infoT4 (by simp only [Nat.min_def]; split <;> first | (simp; done) | (simp; omega) | omega) (fun j v hj => ?_) (fun j hj => by rw [hWc]; simp at hj; exact (hall _ (by omega)).1) (fun j hj => by rw [hWf]; simp at hj; exact (hall _ (by omega)).2) (fun v hv => ?_)
    · rw [Addr.add_lit, hWc, Nat.zero_add, hold0 _ _ hvlt]
      exact hcv j v hj
    · simp at hv
      rcases hv with rfl | rfl | rfl | rfl
      · exact hx1 0 (by omega)
      · exact hx1 1 (by omega)
      · exact hx1 2 (by omega)
      · exact hx1 3 (by omega)
  have hcp2 : ∀ (W : World), (∀ y, W.cell? y = W1.cell? y) → (∀ y, W.frozen? y = W1.frozen? y) → ∀ ty dl dc sl sc, dl = d + 1 → sl = d + 1 → (Builtin.copy_ #[24, 24] ty #[.slice (some ⟨w.heap.size, (k + 1) * 4, none⟩) dl dc, .slice (some ⟨γ, k * 4, none⟩) sl sc]).run Try.prog W = .ok (goInt (Nat.min (d + 1) (d + 1))) (W.setCells w.heap.size ((k + 1) * 4) cs) := fun W hWc hWf ty dl dc sl sc e1 e2 => by
    subst e1 e2
    refine run_copy_wide W _ _ ty 27 w.heap.size ((k + 1) * 4) (d + 1) dc ⟨γ, k * 4, none⟩ (d + 1) sc 4 cs Try.underlying24 infoT4 (by rw [hcl]; simp only [Nat.min_def]; split <;> omega) (fun j v hj => ?_) (fun j hj => by rw [hWc]; exact (hall1 _ (by omega)).1) (fun j hj => by rw [hWf]; exact (hall1 _ (by omega)).2) (fun v hv => ?_)
    · have hj4 := (List.getElem?_eq_some_iff.1 hj).1
      have h2 := hcell (k * 4 + j) (by omega)
      rw [Addr.add_lit, hWc, hold1 _ _ hγ, h2]
      have h3 := hcg (j / 4) (j % 4) (by omega) (by omega)
      rw [Nat.div_add_mod', hj] at h3
      rw [h3, show (k * 4 + j) / 4 = k + j / 4 by omega, show (k * 4 + j) % 4 = j % 4 by omega]
    · rw [hcs] at hv
      obtain ⟨i, j, hi, hj, rfl⟩ := rowL_mem hv
      exact hc1 _ _ (by omega) hj
  have HF := hide hfin
  have hBel : Hid (Below w.heap.size w W2 ∧ w.heap.size < W2.heap.size) := by
    have b0 : Below w.heap.size w W0 := by rw [hW0]; exact (Below.drew (Below.refl _ _)).alloc (Nat.le_refl _) _
    have z0 : W0.heap.size = w.heap.size + 1 := by rw [hW0]; simp
    have o1 : Only w.heap.size (w.heap.size + 1) W0 (W0.setCells w.heap.size (k * 4) [x 0, x 1, x 2, x 3]) := Only.setCells (Only.refl _ _ _)
    have b1 : Below w.heap.size w W1 := by
      rw [hW1]
      exact Below.drew (b0.trans (o1.below (Nat.le_refl _) (by omega)))
    have o2 : Only w.heap.size (w.heap.size + 1) W1 (W1.setCells w.heap.size ((k + 1) * 4) cs) := Only.setCells (Only.refl _ _ _)
    have z1 : W1.heap.size = w.heap.size + 1 := by rw [hW1]; show (W0.setCells _ _ _).heap.size = _; rw [setCells_size, z0]
    refine ⟨?_, ?_⟩
    · rw [hW2]; exact b1.trans (o2.below (Nat.le_refl _) (by omega))
    · rw [hW2, setCells_size, z1]; omega
  have HW0 := hide hW0
  have HW1 := hide hW1
  have HW2 := hide hW2
  have HRZ := hide hrz
  unfold maxLen at hG63
  clear hfin ho1 hall hall1 hx hcc hcell hcg hcl hcs h hW1 hW2 hW0 hold0 hold1 hold hROW hRl hG hcv
  have l1 : k ≤ cap := by omega
  have l2 : ¬ G = k := by omega
  have l3 : ¬ cap = k := by omega
  have l4 : ¬ G = k + 1 := by omega
  have l5 : (k : Int) + 1 ≤ (k : Int) + (d : Int) + 2 := by omega
  have l6 : (0 : Int) ≤ (k : Int) + 1 := by omega
  have l7 : (k : Int) ≤ (k : Int) + (d : Int) + 1 := by omega
  have l8 : ¬ ((k : Int) = (k : Int) + (d : Int) + 1) := by omega
  have l9 : (cap : Int) < (k : Int) + (d : Int) + 1 + 1 := by omega
  have l10 : (k : Int) ≤ (k : Int) + (d : Int) + 2 := by omega
  have w1 : IntKind.i64.wrap ((k : Int) + 1) = (k : Int) + 1 := by rw [IntKind.wrap_i64]; omega
  have w2 : IntKind.i64.wrap ((k : Int) + (d : Int) + 1 + 1) = (k : Int) + (d : Int) + 1 + 1 := by rw [IntKind.wrap_i64]; omega
  have w3 : (k : Int) + (d : Int) + 1 + 1 - (k : Int) = (d : Int) + 2 := by omega
  go_enter Try.func37, Try.ntmps37
  have hE1 : ∀ y, ((w.alloc (.cells ROW 27)).drew).cell? y = W0.cell? y := fun y => by rw [HW0.out]; rfl
  have hE2 : ∀ y, ((w.alloc (.cells ROW 27)).drew).frozen? y = W0.frozen? y := fun y => by rw [HW0.out]; rfl
  have hF0 : ((w.alloc (.cells ROW 27)).drew.setCells w.heap.size (k * 4) [x 0, x 1, x 2, x 3]).drew = W1 := by rw [HW1.out, HW0.out]; rfl
  have HE := hide hE1
  have HE' := hide hE2
  have HF0 := hide hF0
  have HC1 := hide hcp1
  have HC2 := hide hcp2
  clear hE1 hE2 hF0 hcp1 hcp2 hrz
  have hcpA : ∀ ty, (Builtin.copy_ #[24, 24] ty #[.slice (some ⟨w.heap.size, k * 4, none⟩) (k + d + 2 - k) (G - k), .slice (some ⟨vb, 0, none⟩) 1 1]).run Try.prog ((w.alloc (.cells ROW 27)).drew) = .ok (goInt (Nat.min 1 (d + 2))) ((w.alloc (.cells ROW 27)).drew.setCells w.heap.size (k * 4) [x 0, x 1, x 2, x 3]) := fun ty => HC1.out _ HE.out HE'.out ty _ _ (by omega)
  go_wp2_with (at_builtin; refine Lib.wpList_append_run _ rfl _ _ _ _ rfl _ _ rfl rfl _ _ (HRZ.out _) ?_)
  clear hcpA
  go_region_law (refine step_copy_at rfl _ _ 24 24 rfl (.slice (some ⟨w.heap.size, (k + 1) * 4, none⟩) (k + d + 2 - (k + 1)) (G - (k + 1))) (.slice (some ⟨γ, k * 4, none⟩) (k + d + 1 - k) (cap - k)) (by simp [Act.eval, Act.put]) (by simp [Act.eval, Act.put]) (HC2.out _ (fun _ => by rw [← HF0.out]) (fun _ => by rw [← HF0.out]) _ _ _ _ _ (by omega) (by omega)) ?_)
  rw [HF0.out, ← HW2.out]
  go_wp2_with fail
  go_ret
  exact ⟨G, rfl, HF.out, hBel.out⟩

end Go.Proofs.Ytnfhgnibjebmlaa
