/-
  Texts of this proof, one behind the other (part 6).
-/
import Derived.Test.YtnmmkechkcfjnaaGreatDoorQ5
/-
  Walks: one period more: the reference's.-/
namespace Go.Proofs.YtnmmkechkcfjnaaGreatDoor
set_option linter.unusedVariables false
set_option linter.unusedSimpArgs false
open Go.RowKit

/-- The type of a period. -/
theorem infoPer : (Tryz.prog.info? 38).map (fun i => (i.zero, i.size, i.bytes)) = some (some (.agg #[.string ⟨#[]⟩, .int .i64 0, .int .i64 0]), 3, 32) := by kernel_rfl
theorem per_one {c : Nat → ByteArray} {a b : Nat → Int} {k : Nat} {u : Value} (hu : u ∈ rowL (siiC c a b) 3 k) : u.oneCell' = true := by
  obtain ⟨i, j, _, _, rfl⟩ := rowL_mem hu
  unfold siiC
  split
  · rfl
  · split <;> rfl
theorem run_append_nil {P : Program} (w : World) (base : Nat) (t ty e : TypeId) (i : TypeInfo) (z : Value) (size bytes : Nat) (ht : P.underlying t = some (.slice e)) (hi : P.info? e = some i) (_hz : i.zero = some z)
    (_hsize : i.size = size) (_hby : i.bytes = bytes) (_hzs : z.cells.size = size) (_hsz : 0 < size) (v : Value) (n : Nat) (xs : List Value) (hown : w.ownsRow base e size v n xs) (c : Nat) :
    ∃ v' w', (Builtin.append_ #[t, t] ty #[v, .slice none 0 c]).run P w = .ok v' w' ∧ w'.ownsRow base e size v' (n + 0) (xs ++ []) ∧ w.grownBy w' v.ownBlock ∧ True := by
  refine ⟨v, w, ?_, by simpa using hown, ⟨rfl, rfl, rfl, Nat.le_refl _, fun _ _ _ => rfl⟩, trivial⟩
  rcases hown.2 with ⟨rfl, rfl⟩ | ⟨g, cap, cur, rfl, hbg, hg, hnc, hcm, hcs, htake⟩
  · simp [Builtin.append_, run_underlying ht, sizeOf, typeInfo, hi, Builtin.lenOf, Builtin.firstCells, loadCells, loadCellsFrom]
  · simp [Builtin.append_, run_underlying ht, sizeOf, typeInfo, hi, Builtin.lenOf, Builtin.firstCells, loadCells, loadCellsFrom, storeCells, hnc]
/-- What the call hands back. -/
def AdRes (c : Nat → ByteArray) (a b : Nat → Int) (n : Nat) (s : ByteArray) (x y : Int) (ok : Bool) (w : World) (e : Ending) (w' : World) : Prop := ∃ v', e = .returned (.tuple #[v', .bool ok]) ∧ Own w' w.heap.size w'.heap.size 38 3 v' (adN c a b n s x y) (adN c a b n s x y) (siiC (adS c (adK c a n s x) s) (adI a (adK c a n s x) x) (adI b (adK c a n s x) y)) ∧ Below w.heap.size w w'
theorem ad_nil {c : Nat → ByteArray} {a b : Nat → Int} {n : Nat} {s : ByteArray} {x y : Int} {w w' : World} (h : adOk c a b n s x y = false) (hb : Below w.heap.size w w') : AdRes c a b n s x y false w (.returned (.tuple #[.slice none 0 0, .bool false])) w' :=
  ⟨_, rfl, by rw [adN, h]; exact Own.nil_ _ _ _ _ _ _, hb⟩
theorem ad_row {c : Nat → ByteArray} {a b : Nat → Int} {n k base : Nat} {s : ByteArray} {x y : Int} {w w' : World} {v : Value} (hk : adK c a n s x = k) (h : adOk c a b n s x y = true) (hr : w'.ownsRow base 38 3 v (n + 1) (rowL (siiC (adS c k s) (adI a k x) (adI b k y)) 3 (n + 1))) (hb0 : w.heap.size ≤ base) (hb : Below w.heap.size w w') : AdRes c a b n s x y true w (.returned (.tuple #[v, .bool true])) w' := by
  refine ⟨_, rfl, ?_, hb⟩
  rw [adN, if_pos h, hk]
  exact (own_row hr).mono hb0 (Nat.le_refl _)
set_option maxRecDepth 100000 in
set_option maxHeartbeats 6400000 in
theorem AddPeriod_specR (c : Nat → ByteArray) (a b : Nat → Int) (n : Nat) (s : ByteArray) (x y : Int) (lo hi : Nat) (v : Value) (w : World) (hv : Sl w lo hi 3 v n (siiC c a b)) (hhi : hi ≤ w.heap.size) (hf : pfits c n) (hs : s.size ≤ maxLen) :
    Calls Tryz.prog 15 #[v, .agg #[.string s, .int .i64 x, .int .i64 y]] w (AdRes c a b n s x y (adOk c a b n s x y) w) := by
  obtain ⟨A, cap, rfl, hcap, hA⟩ := hv.open_
  obtain ⟨ii, hii, iz0, iz1, iz2⟩ := info_parts infoPer
  cases h1 : pdB c a b n with
  | false =>
    have HX : Hid (adOk c a b n s x y = false) := by show _ = _; simp [adOk, adF, h1]
    go_enter Tryz.func15, Tryz.ntmps15
    go_wp2_with fail
    refine (rfGood_any c a b n lo hi _ _ (hv.below (B := w.heap.size) (by repeat (first | (with_reducible exact Below.refl _ _) | (with_reducible refine below_ov ?_ ?_) | (with_reducible refine Below.setCell ?_ ?_ _) | (with_reducible refine Below.alloc ?_ ?_ _) | (with_reducible refine Below.drew ?_) | (with_reducible refine below_drewN ?_ _) | (refine Below.trans ?_ (Below.mono ‹Below _ _ _› (by first | omega | (simp; done) | (simp; omega)))) | exact Below.refl _ _ | omega | (focus (simp; done)) | (focus (simp; omega)))) hhi) (by simp; omega) hf).mono ?_
    rintro e w1 ⟨rfl, hb1⟩
    have hz1 := hb1.size
    (try (simp at hz1))
    rw [h1]
    go_wp2_with fail
    go_ret2
    rw [HX.out]
    exact ad_nil HX.out (by repeat (first | (with_reducible exact Below.refl _ _) | (with_reducible refine below_ov ?_ ?_) | (with_reducible refine Below.setCell ?_ ?_ _) | (with_reducible refine Below.alloc ?_ ?_ _) | (with_reducible refine Below.drew ?_) | (with_reducible refine below_drewN ?_ _) | (refine Below.trans ?_ (Below.mono ‹Below _ _ _› (by first | omega | (simp; done) | (simp; omega)))) | exact Below.refl _ _ | omega | (focus (simp; done)) | (focus (simp; omega))))
  | true =>
  have HP := hide h1
  go_enter Tryz.func15, Tryz.ntmps15
  go_wp2_with fail
  refine (rfGood_any c a b n lo hi _ _ (hv.below (B := w.heap.size) (by repeat (first | (with_reducible exact Below.refl _ _) | (with_reducible refine below_ov ?_ ?_) | (with_reducible refine Below.setCell ?_ ?_ _) | (with_reducible refine Below.alloc ?_ ?_ _) | (with_reducible refine Below.drew ?_) | (with_reducible refine below_drewN ?_ _) | (refine Below.trans ?_ (Below.mono ‹Below _ _ _› (by first | omega | (simp; done) | (simp; omega)))) | exact Below.refl _ _ | omega | (focus (simp; done)) | (focus (simp; omega)))) hhi) (by simp; omega) hf).mono ?_
  rintro e w1 ⟨rfl, hb1⟩
  have hz1 := hb1.size
  (try (simp at hz1))
  have px0 := (hb1.cell (p := ⟨w.heap.size, 0, none⟩) (by simp)).trans (World.cell?_alloc_new _ _ _ _)
  have px1 := (hb1.cell (p := ⟨w.heap.size, 1, none⟩) (by simp)).trans (World.cell?_alloc_new _ _ _ _)
  have px2 := (hb1.cell (p := ⟨w.heap.size, 2, none⟩) (by simp)).trans (World.cell?_alloc_new _ _ _ _)
  simp at px0 px1 px2
  have hb01 : Below w.heap.size w w1 := (by repeat (first | (with_reducible exact Below.refl _ _) | (with_reducible refine below_ov ?_ ?_) | (with_reducible refine Below.setCell ?_ ?_ _) | (with_reducible refine Below.alloc ?_ ?_ _) | (with_reducible refine Below.drew ?_) | (with_reducible refine below_drewN ?_ _) | (refine Below.trans ?_ (Below.mono ‹Below _ _ _› (by first | omega | (simp; done) | (simp; omega)))) | exact Below.refl _ _ | omega | (focus (simp; done)) | (focus (simp; omega))))
  have lp : w.heap.size < w1.heap.size := by omega
  rw [h1]
  clear h1
  cases h2 : perB s x y with
  | false =>
    have HX : Hid (adOk c a b n s x y = false) := by show _ = _; simp [adOk, adF, h2]
    go_wp2_with fail
    refine (rfOne_any s x y _ hs).mono ?_
    rintro e w2 ⟨rfl, hb2⟩
    have hz2 := hb2.size
    rw [h2]
    go_wp2_with fail
    go_ret2
    rw [HX.out]
    exact ad_nil HX.out (by repeat (first | (with_reducible exact Below.refl _ _) | (with_reducible refine below_ov ?_ ?_) | (with_reducible refine Below.setCell ?_ ?_ _) | (with_reducible refine Below.alloc ?_ ?_ _) | (with_reducible refine Below.drew ?_) | (with_reducible refine below_drewN ?_ _) | (refine Below.trans ?_ (Below.mono ‹Below _ _ _› (by first | omega | (simp; done) | (simp; omega)))) | exact Below.refl _ _ | omega | (focus (simp; done)) | (focus (simp; omega))))
  | true =>
  have HQ := hide h2
  go_wp2_with fail
  refine (rfOne_any s x y _ hs).mono ?_
  rintro e w2 ⟨rfl, hb2⟩
  have hz2 := hb2.size
  rw [h2]
  clear h2
  have hn12 := (pd_facts HP.out).1
  have HPX0 : Hid (∀ W, Below w1.heap.size w1 W → W.cell? ⟨w.heap.size, 0, none⟩ = some (.string s) ∧ W.cell? ⟨w.heap.size, 1, none⟩ = some (.int .i64 x) ∧ W.cell? ⟨w.heap.size, 2, none⟩ = some (.int .i64 y)) := fun W hW => ⟨(hW.cell (p := ⟨w.heap.size, 0, none⟩) lp).trans px0, (hW.cell (p := ⟨w.heap.size, 1, none⟩) lp).trans px1, (hW.cell (p := ⟨w.heap.size, 2, none⟩) lp).trans px2⟩
  clear px0 px1 px2
  go_wp2_with fail
  go_loopw [6] (fun i wr => ∃ k : Nat, k ≤ n ∧ i = .int .i64 k ∧ Hid (∀ j, j < k → befB (c j) (a j) s x = true) ∧ Below w1.heap.size w1 wr) (fun i _ => n - (intOf i).toNat)
  case atStart => exact ⟨0, by omega, rfl, fun j hj => by omega, (by repeat (first | (with_reducible exact Below.refl _ _) | (with_reducible refine below_ov ?_ ?_) | (with_reducible refine Below.setCell ?_ ?_ _) | (with_reducible refine Below.alloc ?_ ?_ _) | (with_reducible refine Below.drew ?_) | (with_reducible refine below_drewN ?_ _) | (refine Below.trans ?_ (Below.mono ‹Below _ _ _› (by first | omega | (simp; done) | (simp; omega)))) | exact Below.refl _ _ | omega | (focus (simp; done)) | (focus (simp; omega))))⟩
  case round =>
    obtain ⟨k, hk, rfl, hj, hb⟩ := hrel
    have hzr := hb.size
    have hbw : Below w.heap.size w wr := hb01.trans (hb.mono (by omega))
    obtain ⟨px0, px1, px2⟩ := HPX0.out wr hb
    have lpr : w.heap.size < wr.heap.size := by omega
    by_cases hkn : k < n
    · obtain ⟨blk, off, rfl, h1, h2, h3⟩ := (hA.below hbw (by omega)) (by omega)
      have c0 : wr.cell? ⟨blk, off + k * 3, none⟩ = some (.string (c k)) := h3 k 0 hkn (by omega)
      have c1 : wr.cell? ⟨blk, off + k * 3 + 1, none⟩ = some (.int .i64 (a k)) := h3 k 1 hkn (by omega)
      have c2 : wr.cell? ⟨blk, off + k * 3 + 2, none⟩ = some (.int .i64 (b k)) := h3 k 2 hkn (by omega)
      have l0 : blk < wr.heap.size := by omega
      have H3 := hide h3
      clear h3 hA
      cases e1 : befB (c k) (a k) s x with
      | true =>
        have HJ : Hid (∀ j, j < k + 1 → befB (c j) (a j) s x = true) := fun j hj' => by
          rcases Nat.lt_or_ge j k with h | h
          · exact hj.out j h
          · obtain rfl : j = k := by omega
            exact e1
        go_wp2_with fail
        (refine wp_region_below_lit (by kernel_rfl) (by kernel_rfl) ?_; (repeat (first | go_big_quiet_step ((go_at_call 52; exact quiet_ov (rfBefore_any _ _ _ _ _ _ _))) | quiet_step ((go_at_call 52; exact quiet_ov (rfBefore_any _ _ _ _ _ _ _))))); refine wpQuiet_nil ?_; intro w2 hb2; have hz2 := hb2.size; (try (simp at hz2)); obtain ⟨hcw2, hfw2⟩ := bcell hb2; (try (have hy2 : w.heap.size < w2.heap.size := by omega)); (try (have hyy2 : w.heap.size + 1 < w2.heap.size := by omega)))
        go_wp2_with fail
        go_roundw
        case rel => exact ⟨k + 1, by omega, by go_num, HJ.out, (by repeat (first | (with_reducible exact Below.refl _ _) | (with_reducible refine below_ov ?_ ?_) | (with_reducible refine Below.setCell ?_ ?_ _) | (with_reducible refine Below.alloc ?_ ?_ _) | (with_reducible refine Below.drew ?_) | (with_reducible refine below_drewN ?_ _) | (refine Below.trans ?_ (Below.mono ‹Below _ _ _› (by first | omega | (simp; done) | (simp; omega)))) | exact Below.refl _ _ | omega | (focus (simp; done)) | (focus (simp; omega))))⟩
        case measure => simp [intOf]; omega
      | false =>
        have HK : Hid (adK c a n s x = k) := lead_eq hk hj.out (.inr e1)
        go_wp2_with fail
        (refine wp_region_below_lit (by kernel_rfl) (by kernel_rfl) ?_; (repeat (first | go_big_quiet_step ((go_at_call 52; exact quiet_ov (rfBefore_any _ _ _ _ _ _ _))) | quiet_step ((go_at_call 52; exact quiet_ov (rfBefore_any _ _ _ _ _ _ _))))); refine wpQuiet_nil ?_; intro w7 hb7; have hz7 := hb7.size; (try (simp at hz7)); obtain ⟨hcw7, hfw7⟩ := bcell hb7; (try (have hy7 : w.heap.size < w7.heap.size := by omega)); (try (have hyy7 : w.heap.size + 1 < w7.heap.size := by omega)))
        have hq1 := h1
        have hq2 := h2
        have hbx7 : Below wr.heap.size wr w7 := (by repeat (first | (with_reducible exact Below.refl _ _) | (with_reducible refine below_ov ?_ ?_) | (with_reducible refine Below.setCell ?_ ?_ _) | (with_reducible refine Below.alloc ?_ ?_ _) | (with_reducible refine Below.drew ?_) | (with_reducible refine below_drewN ?_ _) | (refine Below.trans ?_ (Below.mono ‹Below _ _ _› (by first | omega | (simp; done) | (simp; omega)))) | exact Below.refl _ _ | omega | (focus (simp; done)) | (focus (simp; omega))))
        have hz77 := hbx7.size
        have hbw7 : Below w.heap.size w w7 := hbw.trans (hbx7.mono (by omega))
        have hb17 : Below w1.heap.size w1 w7 := hb.trans (hbx7.mono (by omega))
        have H7 : Hid (∀ i j, i < n → j < 3 → w7.cell? ⟨blk, off + i * 3 + j, none⟩ = some (siiC c a b i j)) := fun i j hi hj => (hbx7.cell (p := ⟨blk, off + i * 3 + j, none⟩) l0).trans (H3.out i j hi hj)
        have l7 : blk < w7.heap.size := by omega
        have hck : ¬ cap = k := by omega
        have HFT : Hid (pfits (adS c k s) (n + 1)) := ⟨by omega, fun i hi => by
          unfold adS
          split
          · exact hf.2 i (by omega)
          · split
            · exact hs
            · exact hf.2 _ (by omega)⟩
        have HPX : Hid (∀ W, Below w7.heap.size w7.drew W → W.cell? ⟨w.heap.size, 0, none⟩ = some (.string s) ∧ W.cell? ⟨w.heap.size, 1, none⟩ = some (.int .i64 x) ∧ W.cell? ⟨w.heap.size, 2, none⟩ = some (.int .i64 y)) := fun W hW => HPX0.out W (hb17.trans (((Below.drew (Below.refl w7.heap.size w7)).trans hW).mono (by omega)))
        have hct : Hid (∀ W, Below w7.heap.size w7.drew W → ∀ j u, (rowL (siiC c a b) 3 k)[j]? = some u → W.cell? ((⟨blk, off, none⟩ : Addr).add j) = some u) := fun W hW j u hu => by
          have hsl : Sl w7 lo hi 3 (.slice (some ⟨blk, off, none⟩) k cap) k (siiC c a b) := ⟨_, _, rfl, by omega, fun h0 => ⟨blk, off, rfl, hq1, hq2, fun i j hi hj => H7.out i j (by omega) hj⟩⟩
          rw [Addr.add_lit]
          have := hsl.news j u hu
          rw [Addr.add_lit] at this
          exact (hW.cell (p := ⟨blk, off + j, none⟩) (by show blk < _; omega)).trans this
        have hcd : Hid (∀ W, Below w7.heap.size w7.drew W → ∀ j u, (rowL (siiC (fun i => c (k + i)) (fun i => a (k + i)) (fun i => b (k + i))) 3 (n - k))[j]? = some u → W.cell? ((⟨blk, off + k * 3, none⟩ : Addr).add j) = some u) := fun W hW j u hu => by
          have hsl : Sl w7 lo hi 3 (.slice (some ⟨blk, off + k * 3, none⟩) (n - k) (cap - k)) (n - k) (siiC (fun i => c (k + i)) (fun i => a (k + i)) (fun i => b (k + i))) := ⟨_, _, rfl, by omega, fun h0 => ⟨blk, off + k * 3, rfl, hq1, hq2, fun i j hi hj => by
            have := H7.out (k + i) j (by omega) hj
            rw [Nat.add_mul] at this
            simpa [siiC, Nat.add_assoc] using this⟩⟩
          rw [Addr.add_lit]
          have := hsl.news j u hu
          rw [Addr.add_lit] at this
          exact (hW.cell (p := ⟨blk, off + k * 3 + j, none⟩) (by show blk < _; omega)).trans this
        clear H7 H3
        go_wp2_with fail
        refine wp_region_tree (.step 1 true (.step 2 true (.step 3 true (.step 5 true (.step 8 true (.step 9 true (.step 10 true (.fork 0 (.fork 4 (.step 6 false (.step 7 false (.step 11 false (.step 12 true .nil)))) 6 (.step 4 false (.step 7 false (.step 11 false (.step 12 true .nil))))) 6 (.step 0 false (.step 4 false (.step 7 false (.step 11 false (.step 12 true .nil))))))))))))) (fun w' => Below w7.heap.size w7.drew w') (by kernel_rfl) (by kernel_rfl) (by kernel_rfl) (by kernel_rfl) (Below.refl _ _) ?_
        refine tree_look _ _ rfl rfl (fun w' _ => BigFrame.run_move _ rfl w') ?_
        go_simp
        refine tree_look _ _ rfl rfl (fun w' _ => BigFrame.run_move _ rfl w') ?_
        go_simp
        refine tree_look _ (.slice (some ⟨blk, off, none⟩) k cap) rfl rfl (fun w' _ => (by go_simp; try (intro h; omega))) ?_
        go_simp
        refine tree_look _ (.agg #[.string s, .int .i64 x, .int .i64 y]) rfl rfl (fun w' hw' => (by obtain ⟨y0, y1, y2⟩ := HPX.out w' hw'; go_simp)) ?_
        go_simp
        refine tree_look _ _ rfl rfl (fun w' _ => BigFrame.run_move _ rfl w') ?_
        go_simp
        refine tree_look _ _ rfl rfl (fun w' _ => BigFrame.run_move _ rfl w') ?_
        go_simp
        refine tree_look _ (.slice (some ⟨blk, off + k * 3, none⟩) (n - k) (cap - k)) rfl rfl (fun w' _ => (by go_simp)) ?_
        go_simp
        refine wpMT_fork ?_ ?_
        · have r1 : (w7.drew.alloc (.cells #[] 38)).ownsRow w7.heap.size 38 3 (.slice (some ⟨w7.heap.size, 0, none⟩) 0 0) 0 [] := by simpa using World.ownsRow_made w7.drew (base := w7.heap.size) (e := 38) (size := 3) #[] 0 (by simp) (Nat.zero_le _) rfl
          have hb1 : Below w7.heap.size w7.drew (w7.drew.alloc (.cells #[] 38)) := (Below.refl w7.heap.size w7.drew).alloc (by simp) _
          refine tree_value _ (.slice (some ⟨w7.heap.size, 0, none⟩) 0 0) (w7.drew.alloc (.cells #[] 38)) rfl rfl (by go_simp) hb1 ?_
          go_simp
          refine wpMT_fork ?_ ?_
          · obtain ⟨v2, w2, q2, r2, g2, _⟩ := run_append_own (P := Tryz.prog) (w7.drew.alloc (.cells #[] 38)) w7.heap.size 27 27 38 ii (.agg #[.string ⟨#[]⟩, .int .i64 0, .int .i64 0]) 3 32 Tryz.underlying27 hii iz0 iz1 iz2 rfl (by decide) _ _ _ r1 ⟨blk, off, none⟩ k cap (rowL (siiC c a b) 3 k) (rowL_len _ _ _) (hct.out (w7.drew.alloc (.cells #[] 38)) hb1) (fun u hu => per_one hu) (by unfold maxLen; omega) (by omega) (by have := hb1.size; simp at this ⊢; try omega)
            have hb2 : Below w7.heap.size w7.drew w2 := hb1.grown g2 (by have := hb1.size; simp at this ⊢; try omega) (fun z hz => (r1.lt z hz).1)
            refine tree_value _ v2 w2 rfl rfl (run_op_append _ _ 27 rfl rfl rfl q2) hb2 ?_
            simp only [Nat.zero_add, List.nil_append] at r2
            obtain ⟨A2, c2, rfl⟩ := row_form r2
            go_simp
            refine wpMT_eff ?_
            have hb3 : Below w7.heap.size w7.drew (w2.alloc (.cells #[.string s, .int .i64 x, .int .i64 y] 38)) := hb2.alloc (by have := hb2.size; simp at this ⊢; try omega) _
            refine tree_value _ (.slice (some ⟨w2.heap.size, 0, none⟩) 1 1) (w2.alloc (.cells #[.string s, .int .i64 x, .int .i64 y] 38)) rfl rfl (by go_simp) hb3 ?_
            go_simp
            have d3 : ∀ j u, ([.string s, .int .i64 x, .int .i64 y] : List Value)[j]? = some u → (w2.alloc (.cells #[.string s, .int .i64 x, .int .i64 y] 38)).cell? ((⟨w2.heap.size, 0, none⟩ : Addr).add j) = some u := fun j u hu => by
              match j, hu with
              | 0, hu => simp at hu; subst hu; simp [go_sem, Addr.add]
              | 1, hu => simp at hu; subst hu; simp [go_sem, Addr.add]
              | 2, hu => simp at hu; subst hu; simp [go_sem, Addr.add]
            have r3 := r2.alloc (.cells #[.string s, .int .i64 x, .int .i64 y] 38)
            refine wpMT_eff ?_
            obtain ⟨v4, w4, q4, r4, g4, _⟩ := run_append_own (P := Tryz.prog) (w2.alloc (.cells #[.string s, .int .i64 x, .int .i64 y] 38)) w7.heap.size 27 27 38 ii (.agg #[.string ⟨#[]⟩, .int .i64 0, .int .i64 0]) 3 32 Tryz.underlying27 hii iz0 iz1 iz2 rfl (by decide) _ _ _ r3 ⟨w2.heap.size, 0, none⟩ 1 1 [.string s, .int .i64 x, .int .i64 y] rfl d3 three_one (by unfold maxLen; omega) (by omega) (by have := hb3.size; simp at this ⊢; try omega)
            have hb4 : Below w7.heap.size w7.drew w4 := hb3.grown g4 (by have := hb3.size; simp at this ⊢; try omega) (fun z hz => (r3.lt z hz).1)
            refine tree_value _ v4 w4 rfl rfl (run_op_append _ _ 27 rfl rfl rfl q4) hb4 ?_
            obtain ⟨A4, c4, rfl⟩ := row_form r4
            go_simp
            refine wpMT_eff ?_
            obtain ⟨v5, w5, q5, r5, g5, _⟩ := run_append_own (P := Tryz.prog) w4 w7.heap.size 27 27 38 ii (.agg #[.string ⟨#[]⟩, .int .i64 0, .int .i64 0]) 3 32 Tryz.underlying27 hii iz0 iz1 iz2 rfl (by decide) _ _ _ r4 ⟨blk, off + k * 3, none⟩ (n - k) (cap - k) (rowL (siiC (fun i => c (k + i)) (fun i => a (k + i)) (fun i => b (k + i))) 3 (n - k)) (rowL_len _ _ _) (hcd.out w4 hb4) (fun u hu => per_one hu) (by unfold maxLen; omega) (by omega) (by have := hb4.size; simp at this ⊢; try omega)
            have hb5 : Below w7.heap.size w7.drew w5 := hb4.grown g5 (by have := hb4.size; simp at this ⊢; try omega) (fun z hz => (r4.lt z hz).1)
            refine tree_value _ v5 w5 rfl rfl (run_op_append _ _ 27 rfl rfl rfl q5) hb5 ?_
            rw [show k + 1 + (n - k) = n + 1 by omega, rowL_ad hk] at r5
            obtain ⟨A5, c5, rfl⟩ := row_form r5
            go_simp
            refine tree_look _ _ rfl rfl (fun w' _ => BigFrame.run_assign _ rfl w') ?_
            go_simp
            refine wpMT_nil ?_
            go_wp2_with fail
            have hz5 := hb5.size
            (try (simp at hz5))
            refine (rfGood_any (adS c k s) (adI a k x) (adI b k y) (n + 1) _ _ _ _ (own_row r5).sl (Nat.le_refl _) HFT.out).mono ?_
            rintro e w6 ⟨rfl, hb6⟩
            have hz6 := hb6.size
            cases e6 : pdB (adS c k s) (adI a k x) (adI b k y) (n + 1) with
            | false =>
              have HX : Hid (adOk c a b n s x y = false) := by show _ = _; rw [adOk, HK.out, e6]; simp
              go_wp2_with fail
              go_ret2
              rw [HX.out]
              exact ad_nil HX.out ((hbw7.trans (((Below.drew (Below.refl w7.heap.size w7)).trans hb5).mono (by omega))).trans (hb6.mono (by omega)))
            | true =>
              have HX : Hid (adOk c a b n s x y = true) := by show _ = _; rw [adOk, adF, HK.out, e6, HP.out, HQ.out]; rfl
              go_wp2_with fail
              go_ret2
              rw [HX.out]
              exact ad_row HK.out HX.out (row_below r5 hb6 (Nat.le_refl _)) (by omega) ((hbw7.trans (((Below.drew (Below.refl w7.heap.size w7)).trans hb5).mono (by omega))).trans (hb6.mono (by omega)))
          · have hb2 : Below w7.heap.size w7.drew ((w7.drew.alloc (.cells #[] 38)).alloc (.cells #[.string s, .int .i64 x, .int .i64 y] 38)) := hb1.alloc (by have := hb1.size; simp at this ⊢; try omega) _
            refine tree_value _ (.slice (some ⟨w7.heap.size + 1, 0, none⟩) 1 1) ((w7.drew.alloc (.cells #[] 38)).alloc (.cells #[.string s, .int .i64 x, .int .i64 y] 38)) rfl rfl (by go_simp) hb2 ?_
            go_simp
            have d2 : ∀ j u, ([.string s, .int .i64 x, .int .i64 y] : List Value)[j]? = some u → ((w7.drew.alloc (.cells #[] 38)).alloc (.cells #[.string s, .int .i64 x, .int .i64 y] 38)).cell? ((⟨w7.heap.size + 1, 0, none⟩ : Addr).add j) = some u := fun j u hu => by
              match j, hu with
              | 0, hu => simp at hu; subst hu; simp [go_sem, Addr.add]
              | 1, hu => simp at hu; subst hu; simp [go_sem, Addr.add]
              | 2, hu => simp at hu; subst hu; simp [go_sem, Addr.add]
            have r2 := r1.alloc (.cells #[.string s, .int .i64 x, .int .i64 y] 38)
            refine wpMT_eff ?_
            obtain ⟨v3, w3, q3, r3, g3, _⟩ := run_append_own (P := Tryz.prog) ((w7.drew.alloc (.cells #[] 38)).alloc (.cells #[.string s, .int .i64 x, .int .i64 y] 38)) w7.heap.size 27 27 38 ii (.agg #[.string ⟨#[]⟩, .int .i64 0, .int .i64 0]) 3 32 Tryz.underlying27 hii iz0 iz1 iz2 rfl (by decide) _ _ _ r2 ⟨blk, off, none⟩ k cap (rowL (siiC c a b) 3 k) (rowL_len _ _ _) (hct.out ((w7.drew.alloc (.cells #[] 38)).alloc (.cells #[.string s, .int .i64 x, .int .i64 y] 38)) hb2) (fun u hu => per_one hu) (by unfold maxLen; omega) (by omega) (by have := hb2.size; simp at this ⊢; try omega)
            have hb3 : Below w7.heap.size w7.drew w3 := hb2.grown g3 (by have := hb2.size; simp at this ⊢; try omega) (fun z hz => (r2.lt z hz).1)
            refine tree_value _ v3 w3 rfl rfl (run_op_append _ _ 27 rfl rfl rfl q3) hb3 ?_
            simp only [Nat.zero_add, List.nil_append] at r3
            obtain ⟨A3, c3, rfl⟩ := row_form r3
            go_simp
            have d3 : ∀ j u, ([.string s, .int .i64 x, .int .i64 y] : List Value)[j]? = some u → w3.cell? ((⟨w7.heap.size + 1, 0, none⟩ : Addr).add j) = some u := fun j u hu => g3.cell (d2 j u hu) (by rw [Addr.add_lit]; simp [Value.ownBlock]; try omega)
            refine wpMT_eff ?_
            obtain ⟨v4, w4, q4, r4, g4, _⟩ := run_append_own (P := Tryz.prog) w3 w7.heap.size 27 27 38 ii (.agg #[.string ⟨#[]⟩, .int .i64 0, .int .i64 0]) 3 32 Tryz.underlying27 hii iz0 iz1 iz2 rfl (by decide) _ _ _ r3 ⟨w7.heap.size + 1, 0, none⟩ 1 1 [.string s, .int .i64 x, .int .i64 y] rfl d3 three_one (by unfold maxLen; omega) (by omega) (by have := hb3.size; simp at this ⊢; try omega)
            have hb4 : Below w7.heap.size w7.drew w4 := hb3.grown g4 (by have := hb3.size; simp at this ⊢; try omega) (fun z hz => (r3.lt z hz).1)
            refine tree_value _ v4 w4 rfl rfl (run_op_append _ _ 27 rfl rfl rfl q4) hb4 ?_
            obtain ⟨A4, c4, rfl⟩ := row_form r4
            go_simp
            refine wpMT_eff ?_
            obtain ⟨v5, w5, q5, r5, g5, _⟩ := run_append_own (P := Tryz.prog) w4 w7.heap.size 27 27 38 ii (.agg #[.string ⟨#[]⟩, .int .i64 0, .int .i64 0]) 3 32 Tryz.underlying27 hii iz0 iz1 iz2 rfl (by decide) _ _ _ r4 ⟨blk, off + k * 3, none⟩ (n - k) (cap - k) (rowL (siiC (fun i => c (k + i)) (fun i => a (k + i)) (fun i => b (k + i))) 3 (n - k)) (rowL_len _ _ _) (hcd.out w4 hb4) (fun u hu => per_one hu) (by unfold maxLen; omega) (by omega) (by have := hb4.size; simp at this ⊢; try omega)
            have hb5 : Below w7.heap.size w7.drew w5 := hb4.grown g5 (by have := hb4.size; simp at this ⊢; try omega) (fun z hz => (r4.lt z hz).1)
            refine tree_value _ v5 w5 rfl rfl (run_op_append _ _ 27 rfl rfl rfl q5) hb5 ?_
            rw [show k + 1 + (n - k) = n + 1 by omega, rowL_ad hk] at r5
            obtain ⟨A5, c5, rfl⟩ := row_form r5
            go_simp
            refine tree_look _ _ rfl rfl (fun w' _ => BigFrame.run_assign _ rfl w') ?_
            go_simp
            refine wpMT_nil ?_
            go_wp2_with fail
            have hz5 := hb5.size
            (try (simp at hz5))
            refine (rfGood_any (adS c k s) (adI a k x) (adI b k y) (n + 1) _ _ _ _ (own_row r5).sl (Nat.le_refl _) HFT.out).mono ?_
            rintro e w6 ⟨rfl, hb6⟩
            have hz6 := hb6.size
            cases e6 : pdB (adS c k s) (adI a k x) (adI b k y) (n + 1) with
            | false =>
              have HX : Hid (adOk c a b n s x y = false) := by show _ = _; rw [adOk, HK.out, e6]; simp
              go_wp2_with fail
              go_ret2
              rw [HX.out]
              exact ad_nil HX.out ((hbw7.trans (((Below.drew (Below.refl w7.heap.size w7)).trans hb5).mono (by omega))).trans (hb6.mono (by omega)))
            | true =>
              have HX : Hid (adOk c a b n s x y = true) := by show _ = _; rw [adOk, adF, HK.out, e6, HP.out, HQ.out]; rfl
              go_wp2_with fail
              go_ret2
              rw [HX.out]
              exact ad_row HK.out HX.out (row_below r5 hb6 (Nat.le_refl _)) (by omega) ((hbw7.trans (((Below.drew (Below.refl w7.heap.size w7)).trans hb5).mono (by omega))).trans (hb6.mono (by omega)))
        · have hb1 : Below w7.heap.size w7.drew (w7.drew.alloc (.cells #[.string s, .int .i64 x, .int .i64 y] 38)) := (Below.refl w7.heap.size w7.drew).alloc (by have := (Below.refl w7.heap.size w7.drew).size; simp at this ⊢; try omega) _
          refine tree_value _ (.slice (some ⟨w7.heap.size, 0, none⟩) 1 1) (w7.drew.alloc (.cells #[.string s, .int .i64 x, .int .i64 y] 38)) rfl rfl (by go_simp) hb1 ?_
          go_simp
          have d1 : ∀ j u, ([.string s, .int .i64 x, .int .i64 y] : List Value)[j]? = some u → (w7.drew.alloc (.cells #[.string s, .int .i64 x, .int .i64 y] 38)).cell? ((⟨w7.heap.size, 0, none⟩ : Addr).add j) = some u := fun j u hu => by
            match j, hu with
            | 0, hu => simp at hu; subst hu; simp [go_sem, Addr.add]
            | 1, hu => simp at hu; subst hu; simp [go_sem, Addr.add]
            | 2, hu => simp at hu; subst hu; simp [go_sem, Addr.add]
          refine wpMT_eff ?_
          have r2 : ((w7.drew.alloc (.cells #[.string s, .int .i64 x, .int .i64 y] 38)).alloc (.cells #[] 38)).ownsRow w7.heap.size 38 3 (.slice (some ⟨w7.heap.size + 1, 0, none⟩) 0 0) 0 [] := by simpa using World.ownsRow_made (w7.drew.alloc (.cells #[.string s, .int .i64 x, .int .i64 y] 38)) (base := w7.heap.size) (e := 38) (size := 3) #[] 0 (by simp) (Nat.zero_le _) rfl
          have hb2 : Below w7.heap.size w7.drew ((w7.drew.alloc (.cells #[.string s, .int .i64 x, .int .i64 y] 38)).alloc (.cells #[] 38)) := hb1.alloc (by simp) _
          refine tree_value _ (.slice (some ⟨w7.heap.size + 1, 0, none⟩) 0 0) ((w7.drew.alloc (.cells #[.string s, .int .i64 x, .int .i64 y] 38)).alloc (.cells #[] 38)) rfl rfl (by go_simp) hb2 ?_
          go_simp
          have d2 : ∀ j u, ([.string s, .int .i64 x, .int .i64 y] : List Value)[j]? = some u → ((w7.drew.alloc (.cells #[.string s, .int .i64 x, .int .i64 y] 38)).alloc (.cells #[] 38)).cell? ((⟨w7.heap.size, 0, none⟩ : Addr).add j) = some u := fun j u hu => (World.cell?_alloc_lt _ _ ((⟨w7.heap.size, 0, none⟩ : Addr).add j) (by rw [Addr.add_lit]; simp)).trans (d1 j u hu)
          refine wpMT_eff ?_
          obtain ⟨v3, w3, q3, r3, g3, _⟩ := run_append_own (P := Tryz.prog) ((w7.drew.alloc (.cells #[.string s, .int .i64 x, .int .i64 y] 38)).alloc (.cells #[] 38)) w7.heap.size 27 27 38 ii (.agg #[.string ⟨#[]⟩, .int .i64 0, .int .i64 0]) 3 32 Tryz.underlying27 hii iz0 iz1 iz2 rfl (by decide) _ _ _ r2 ⟨blk, off, none⟩ k cap (rowL (siiC c a b) 3 k) (rowL_len _ _ _) (hct.out ((w7.drew.alloc (.cells #[.string s, .int .i64 x, .int .i64 y] 38)).alloc (.cells #[] 38)) hb2) (fun u hu => per_one hu) (by unfold maxLen; omega) (by omega) (by have := hb2.size; simp at this ⊢; try omega)
          have hb3 : Below w7.heap.size w7.drew w3 := hb2.grown g3 (by have := hb2.size; simp at this ⊢; try omega) (fun z hz => (r2.lt z hz).1)
          refine tree_value _ v3 w3 rfl rfl (run_op_append _ _ 27 rfl rfl rfl q3) hb3 ?_
          simp only [Nat.zero_add, List.nil_append] at r3
          obtain ⟨A3, c3, rfl⟩ := row_form r3
          go_simp
          have d3 : ∀ j u, ([.string s, .int .i64 x, .int .i64 y] : List Value)[j]? = some u → w3.cell? ((⟨w7.heap.size, 0, none⟩ : Addr).add j) = some u := fun j u hu => g3.cell (d2 j u hu) (by rw [Addr.add_lit]; simp [Value.ownBlock]; try omega)
          refine wpMT_eff ?_
          obtain ⟨v4, w4, q4, r4, g4, _⟩ := run_append_own (P := Tryz.prog) w3 w7.heap.size 27 27 38 ii (.agg #[.string ⟨#[]⟩, .int .i64 0, .int .i64 0]) 3 32 Tryz.underlying27 hii iz0 iz1 iz2 rfl (by decide) _ _ _ r3 ⟨w7.heap.size, 0, none⟩ 1 1 [.string s, .int .i64 x, .int .i64 y] rfl d3 three_one (by unfold maxLen; omega) (by omega) (by have := hb3.size; simp at this ⊢; try omega)
          have hb4 : Below w7.heap.size w7.drew w4 := hb3.grown g4 (by have := hb3.size; simp at this ⊢; try omega) (fun z hz => (r3.lt z hz).1)
          refine tree_value _ v4 w4 rfl rfl (run_op_append _ _ 27 rfl rfl rfl q4) hb4 ?_
          obtain ⟨A4, c4, rfl⟩ := row_form r4
          go_simp
          refine wpMT_eff ?_
          obtain ⟨v5, w5, q5, r5, g5, _⟩ := run_append_own (P := Tryz.prog) w4 w7.heap.size 27 27 38 ii (.agg #[.string ⟨#[]⟩, .int .i64 0, .int .i64 0]) 3 32 Tryz.underlying27 hii iz0 iz1 iz2 rfl (by decide) _ _ _ r4 ⟨blk, off + k * 3, none⟩ (n - k) (cap - k) (rowL (siiC (fun i => c (k + i)) (fun i => a (k + i)) (fun i => b (k + i))) 3 (n - k)) (rowL_len _ _ _) (hcd.out w4 hb4) (fun u hu => per_one hu) (by unfold maxLen; omega) (by omega) (by have := hb4.size; simp at this ⊢; try omega)
          have hb5 : Below w7.heap.size w7.drew w5 := hb4.grown g5 (by have := hb4.size; simp at this ⊢; try omega) (fun z hz => (r4.lt z hz).1)
          refine tree_value _ v5 w5 rfl rfl (run_op_append _ _ 27 rfl rfl rfl q5) hb5 ?_
          rw [show k + 1 + (n - k) = n + 1 by omega, rowL_ad hk] at r5
          obtain ⟨A5, c5, rfl⟩ := row_form r5
          go_simp
          refine tree_look _ _ rfl rfl (fun w' _ => BigFrame.run_assign _ rfl w') ?_
          go_simp
          refine wpMT_nil ?_
          go_wp2_with fail
          have hz5 := hb5.size
          (try (simp at hz5))
          refine (rfGood_any (adS c k s) (adI a k x) (adI b k y) (n + 1) _ _ _ _ (own_row r5).sl (Nat.le_refl _) HFT.out).mono ?_
          rintro e w6 ⟨rfl, hb6⟩
          have hz6 := hb6.size
          cases e6 : pdB (adS c k s) (adI a k x) (adI b k y) (n + 1) with
          | false =>
            have HX : Hid (adOk c a b n s x y = false) := by show _ = _; rw [adOk, HK.out, e6]; simp
            go_wp2_with fail
            go_ret2
            rw [HX.out]
            exact ad_nil HX.out ((hbw7.trans (((Below.drew (Below.refl w7.heap.size w7)).trans hb5).mono (by omega))).trans (hb6.mono (by omega)))
          | true =>
            have HX : Hid (adOk c a b n s x y = true) := by show _ = _; rw [adOk, adF, HK.out, e6, HP.out, HQ.out]; rfl
            go_wp2_with fail
            go_ret2
            rw [HX.out]
            exact ad_row HK.out HX.out (row_below r5 hb6 (Nat.le_refl _)) (by omega) ((hbw7.trans (((Below.drew (Below.refl w7.heap.size w7)).trans hb5).mono (by omega))).trans (hb6.mono (by omega)))
    · obtain rfl : k = n := by omega
      have HK : Hid (adK c a k s x = k) := lead_eq hk hj.out (.inl rfl)
      go_wp2_with fail
      (refine wp_region_below_lit (by kernel_rfl) (by kernel_rfl) ?_; (repeat (first | go_big_quiet_step ((go_at_call 52; exact quiet_ov (rfBefore_any _ _ _ _ _ _ _))) | quiet_step ((go_at_call 52; exact quiet_ov (rfBefore_any _ _ _ _ _ _ _))))); refine wpQuiet_nil ?_; intro w7 hb7; have hz7 := hb7.size; (try (simp at hz7)); obtain ⟨hcw7, hfw7⟩ := bcell hb7; (try (have hy7 : w.heap.size < w7.heap.size := by omega)); (try (have hyy7 : w.heap.size + 1 < w7.heap.size := by omega)))
      have hbx7 : Below wr.heap.size wr w7 := (by repeat (first | (with_reducible exact Below.refl _ _) | (with_reducible refine below_ov ?_ ?_) | (with_reducible refine Below.setCell ?_ ?_ _) | (with_reducible refine Below.alloc ?_ ?_ _) | (with_reducible refine Below.drew ?_) | (with_reducible refine below_drewN ?_ _) | (refine Below.trans ?_ (Below.mono ‹Below _ _ _› (by first | omega | (simp; done) | (simp; omega)))) | exact Below.refl _ _ | omega | (focus (simp; done)) | (focus (simp; omega))))
      have hz77 := hbx7.size
      have hbw7 : Below w.heap.size w w7 := hbw.trans (hbx7.mono (by omega))
      have hb17 : Below w1.heap.size w1 w7 := hb.trans (hbx7.mono (by omega))
      have HRA : Hid (rowL (siiC c a b) 3 k ++ [.string s, .int .i64 x, .int .i64 y] ++ rowL (siiC (fun i => c (k + i)) (fun i => a (k + i)) (fun i => b (k + i))) 3 0 = rowL (siiC (adS c k s) (adI a k x) (adI b k y)) 3 (k + 1)) := by
        have := rowL_ad (c := c) (a := a) (b := b) (s := s) (x := x) (y := y) (Nat.le_refl k)
        rwa [Nat.sub_self] at this
      rcases Nat.eq_zero_or_pos k with hk0 | hk0
      · subst hk0
        cases A with
        | none =>
          have HRN : Hid (([] : List Value) ++ [.string s, .int .i64 x, .int .i64 y] ++ [] = rowL (siiC (adS c 0 s) (adI a 0 x) (adI b 0 y)) 3 (0 + 1)) := HRA.out
          have HFT : Hid (pfits (adS c 0 s) (0 + 1)) := ⟨by omega, fun i hi => by
            unfold adS
            split
            · exact hf.2 i (by omega)
            · split
              · exact hs
              · exact hf.2 _ (by omega)⟩
          have HPX : Hid (∀ W, Below w7.heap.size w7.drew W → W.cell? ⟨w.heap.size, 0, none⟩ = some (.string s) ∧ W.cell? ⟨w.heap.size, 1, none⟩ = some (.int .i64 x) ∧ W.cell? ⟨w.heap.size, 2, none⟩ = some (.int .i64 y)) := fun W hW => HPX0.out W (hb17.trans (((Below.drew (Below.refl w7.heap.size w7)).trans hW).mono (by omega)))
          go_wp2_with fail
          refine wp_region_tree (.step 1 true (.step 2 true (.step 3 true (.step 5 true (.step 8 true (.step 9 true (.step 10 true (.fork 0 (.fork 4 (.step 6 false (.step 7 false (.step 11 false (.step 12 true .nil)))) 6 (.step 4 false (.step 7 false (.step 11 false (.step 12 true .nil))))) 6 (.step 0 false (.step 4 false (.step 7 false (.step 11 false (.step 12 true .nil))))))))))))) (fun w' => Below w7.heap.size w7.drew w') (by kernel_rfl) (by kernel_rfl) (by kernel_rfl) (by kernel_rfl) (Below.refl _ _) ?_
          refine tree_look _ _ rfl rfl (fun w' _ => BigFrame.run_move _ rfl w') ?_
          go_simp
          refine tree_look _ _ rfl rfl (fun w' _ => BigFrame.run_move _ rfl w') ?_
          go_simp
          refine tree_look _ (.slice none 0 cap) rfl rfl (fun w' _ => (by go_simp; try (intro h; omega))) ?_
          go_simp
          refine tree_look _ (.agg #[.string s, .int .i64 x, .int .i64 y]) rfl rfl (fun w' hw' => (by obtain ⟨y0, y1, y2⟩ := HPX.out w' hw'; go_simp)) ?_
          go_simp
          refine tree_look _ _ rfl rfl (fun w' _ => BigFrame.run_move _ rfl w') ?_
          go_simp
          refine tree_look _ _ rfl rfl (fun w' _ => BigFrame.run_move _ rfl w') ?_
          go_simp
          refine tree_look _ (.slice none 0 cap) rfl rfl (fun w' _ => (by go_simp)) ?_
          go_simp
          refine wpMT_fork ?_ ?_
          · have r1 : (w7.drew.alloc (.cells #[] 38)).ownsRow w7.heap.size 38 3 (.slice (some ⟨w7.heap.size, 0, none⟩) 0 0) 0 [] := by simpa using World.ownsRow_made w7.drew (base := w7.heap.size) (e := 38) (size := 3) #[] 0 (by simp) (Nat.zero_le _) rfl
            have hb1 : Below w7.heap.size w7.drew (w7.drew.alloc (.cells #[] 38)) := (Below.refl w7.heap.size w7.drew).alloc (by simp) _
            refine tree_value _ (.slice (some ⟨w7.heap.size, 0, none⟩) 0 0) (w7.drew.alloc (.cells #[] 38)) rfl rfl (by go_simp) hb1 ?_
            go_simp
            refine wpMT_fork ?_ ?_
            · obtain ⟨v2, w2, q2, r2, g2, _⟩ := run_append_nil (P := Tryz.prog) (w7.drew.alloc (.cells #[] 38)) w7.heap.size 27 27 38 ii (.agg #[.string ⟨#[]⟩, .int .i64 0, .int .i64 0]) 3 32 Tryz.underlying27 hii iz0 iz1 iz2 rfl (by decide) _ _ _ r1 cap
              have hb2 : Below w7.heap.size w7.drew w2 := hb1.grown g2 (by have := hb1.size; simp at this ⊢; try omega) (fun z hz => (r1.lt z hz).1)
              refine tree_value _ v2 w2 rfl rfl (run_op_append _ _ 27 rfl rfl rfl q2) hb2 ?_
              simp only [Nat.zero_add, List.nil_append] at r2
              obtain ⟨A2, c2, rfl⟩ := row_form r2
              go_simp
              refine wpMT_eff ?_
              have hb3 : Below w7.heap.size w7.drew (w2.alloc (.cells #[.string s, .int .i64 x, .int .i64 y] 38)) := hb2.alloc (by have := hb2.size; simp at this ⊢; try omega) _
              refine tree_value _ (.slice (some ⟨w2.heap.size, 0, none⟩) 1 1) (w2.alloc (.cells #[.string s, .int .i64 x, .int .i64 y] 38)) rfl rfl (by go_simp) hb3 ?_
              go_simp
              have d3 : ∀ j u, ([.string s, .int .i64 x, .int .i64 y] : List Value)[j]? = some u → (w2.alloc (.cells #[.string s, .int .i64 x, .int .i64 y] 38)).cell? ((⟨w2.heap.size, 0, none⟩ : Addr).add j) = some u := fun j u hu => by
                match j, hu with
                | 0, hu => simp at hu; subst hu; simp [go_sem, Addr.add]
                | 1, hu => simp at hu; subst hu; simp [go_sem, Addr.add]
                | 2, hu => simp at hu; subst hu; simp [go_sem, Addr.add]
              have r3 := r2.alloc (.cells #[.string s, .int .i64 x, .int .i64 y] 38)
              refine wpMT_eff ?_
              obtain ⟨v4, w4, q4, r4, g4, _⟩ := run_append_own (P := Tryz.prog) (w2.alloc (.cells #[.string s, .int .i64 x, .int .i64 y] 38)) w7.heap.size 27 27 38 ii (.agg #[.string ⟨#[]⟩, .int .i64 0, .int .i64 0]) 3 32 Tryz.underlying27 hii iz0 iz1 iz2 rfl (by decide) _ _ _ r3 ⟨w2.heap.size, 0, none⟩ 1 1 [.string s, .int .i64 x, .int .i64 y] rfl d3 three_one (by unfold maxLen; omega) (by omega) (by have := hb3.size; simp at this ⊢; try omega)
              have hb4 : Below w7.heap.size w7.drew w4 := hb3.grown g4 (by have := hb3.size; simp at this ⊢; try omega) (fun z hz => (r3.lt z hz).1)
              refine tree_value _ v4 w4 rfl rfl (run_op_append _ _ 27 rfl rfl rfl q4) hb4 ?_
              obtain ⟨A4, c4, rfl⟩ := row_form r4
              go_simp
              refine wpMT_eff ?_
              obtain ⟨v5, w5, q5, r5, g5, _⟩ := run_append_nil (P := Tryz.prog) w4 w7.heap.size 27 27 38 ii (.agg #[.string ⟨#[]⟩, .int .i64 0, .int .i64 0]) 3 32 Tryz.underlying27 hii iz0 iz1 iz2 rfl (by decide) _ _ _ r4 cap
              have hb5 : Below w7.heap.size w7.drew w5 := hb4.grown g5 (by have := hb4.size; simp at this ⊢; try omega) (fun z hz => (r4.lt z hz).1)
              refine tree_value _ v5 w5 rfl rfl (run_op_append _ _ 27 rfl rfl rfl q5) hb5 ?_
              rw [Nat.add_zero, HRN.out] at r5
              obtain ⟨A5, c5, rfl⟩ := row_form r5
              go_simp
              refine tree_look _ _ rfl rfl (fun w' _ => BigFrame.run_assign _ rfl w') ?_
              go_simp
              refine wpMT_nil ?_
              go_wp2_with fail
              have hz5 := hb5.size
              (try (simp at hz5))
              refine (rfGood_any (adS c 0 s) (adI a 0 x) (adI b 0 y) (0 + 1) _ _ _ _ (own_row r5).sl (Nat.le_refl _) HFT.out).mono ?_
              rintro e w6 ⟨rfl, hb6⟩
              have hz6 := hb6.size
              cases e6 : pdB (adS c 0 s) (adI a 0 x) (adI b 0 y) (0 + 1) with
              | false =>
                have HX : Hid (adOk c a b 0 s x y = false) := by show _ = _; rw [adOk, HK.out, e6]; simp
                go_wp2_with fail
                go_ret2
                rw [HX.out]
                exact ad_nil HX.out ((hbw7.trans (((Below.drew (Below.refl w7.heap.size w7)).trans hb5).mono (by omega))).trans (hb6.mono (by omega)))
              | true =>
                have HX : Hid (adOk c a b 0 s x y = true) := by show _ = _; rw [adOk, adF, HK.out, e6, HP.out, HQ.out]; rfl
                go_wp2_with fail
                go_ret2
                rw [HX.out]
                exact ad_row HK.out HX.out (row_below r5 hb6 (Nat.le_refl _)) (by omega) ((hbw7.trans (((Below.drew (Below.refl w7.heap.size w7)).trans hb5).mono (by omega))).trans (hb6.mono (by omega)))
            · have hb2 : Below w7.heap.size w7.drew ((w7.drew.alloc (.cells #[] 38)).alloc (.cells #[.string s, .int .i64 x, .int .i64 y] 38)) := hb1.alloc (by have := hb1.size; simp at this ⊢; try omega) _
              refine tree_value _ (.slice (some ⟨w7.heap.size + 1, 0, none⟩) 1 1) ((w7.drew.alloc (.cells #[] 38)).alloc (.cells #[.string s, .int .i64 x, .int .i64 y] 38)) rfl rfl (by go_simp) hb2 ?_
              go_simp
              have d2 : ∀ j u, ([.string s, .int .i64 x, .int .i64 y] : List Value)[j]? = some u → ((w7.drew.alloc (.cells #[] 38)).alloc (.cells #[.string s, .int .i64 x, .int .i64 y] 38)).cell? ((⟨w7.heap.size + 1, 0, none⟩ : Addr).add j) = some u := fun j u hu => by
                match j, hu with
                | 0, hu => simp at hu; subst hu; simp [go_sem, Addr.add]
                | 1, hu => simp at hu; subst hu; simp [go_sem, Addr.add]
                | 2, hu => simp at hu; subst hu; simp [go_sem, Addr.add]
              have r2 := r1.alloc (.cells #[.string s, .int .i64 x, .int .i64 y] 38)
              refine wpMT_eff ?_
              obtain ⟨v3, w3, q3, r3, g3, _⟩ := run_append_nil (P := Tryz.prog) ((w7.drew.alloc (.cells #[] 38)).alloc (.cells #[.string s, .int .i64 x, .int .i64 y] 38)) w7.heap.size 27 27 38 ii (.agg #[.string ⟨#[]⟩, .int .i64 0, .int .i64 0]) 3 32 Tryz.underlying27 hii iz0 iz1 iz2 rfl (by decide) _ _ _ r2 cap
              have hb3 : Below w7.heap.size w7.drew w3 := hb2.grown g3 (by have := hb2.size; simp at this ⊢; try omega) (fun z hz => (r2.lt z hz).1)
              refine tree_value _ v3 w3 rfl rfl (run_op_append _ _ 27 rfl rfl rfl q3) hb3 ?_
              simp only [Nat.zero_add, List.nil_append] at r3
              obtain ⟨A3, c3, rfl⟩ := row_form r3
              go_simp
              have d3 : ∀ j u, ([.string s, .int .i64 x, .int .i64 y] : List Value)[j]? = some u → w3.cell? ((⟨w7.heap.size + 1, 0, none⟩ : Addr).add j) = some u := fun j u hu => g3.cell (d2 j u hu) (by rw [Addr.add_lit]; simp [Value.ownBlock]; try omega)
              refine wpMT_eff ?_
              obtain ⟨v4, w4, q4, r4, g4, _⟩ := run_append_own (P := Tryz.prog) w3 w7.heap.size 27 27 38 ii (.agg #[.string ⟨#[]⟩, .int .i64 0, .int .i64 0]) 3 32 Tryz.underlying27 hii iz0 iz1 iz2 rfl (by decide) _ _ _ r3 ⟨w7.heap.size + 1, 0, none⟩ 1 1 [.string s, .int .i64 x, .int .i64 y] rfl d3 three_one (by unfold maxLen; omega) (by omega) (by have := hb3.size; simp at this ⊢; try omega)
              have hb4 : Below w7.heap.size w7.drew w4 := hb3.grown g4 (by have := hb3.size; simp at this ⊢; try omega) (fun z hz => (r3.lt z hz).1)
              refine tree_value _ v4 w4 rfl rfl (run_op_append _ _ 27 rfl rfl rfl q4) hb4 ?_
              obtain ⟨A4, c4, rfl⟩ := row_form r4
              go_simp
              refine wpMT_eff ?_
              obtain ⟨v5, w5, q5, r5, g5, _⟩ := run_append_nil (P := Tryz.prog) w4 w7.heap.size 27 27 38 ii (.agg #[.string ⟨#[]⟩, .int .i64 0, .int .i64 0]) 3 32 Tryz.underlying27 hii iz0 iz1 iz2 rfl (by decide) _ _ _ r4 cap
              have hb5 : Below w7.heap.size w7.drew w5 := hb4.grown g5 (by have := hb4.size; simp at this ⊢; try omega) (fun z hz => (r4.lt z hz).1)
              refine tree_value _ v5 w5 rfl rfl (run_op_append _ _ 27 rfl rfl rfl q5) hb5 ?_
              rw [Nat.add_zero, HRN.out] at r5
              obtain ⟨A5, c5, rfl⟩ := row_form r5
              go_simp
              refine tree_look _ _ rfl rfl (fun w' _ => BigFrame.run_assign _ rfl w') ?_
              go_simp
              refine wpMT_nil ?_
              go_wp2_with fail
              have hz5 := hb5.size
              (try (simp at hz5))
              refine (rfGood_any (adS c 0 s) (adI a 0 x) (adI b 0 y) (0 + 1) _ _ _ _ (own_row r5).sl (Nat.le_refl _) HFT.out).mono ?_
              rintro e w6 ⟨rfl, hb6⟩
              have hz6 := hb6.size
              cases e6 : pdB (adS c 0 s) (adI a 0 x) (adI b 0 y) (0 + 1) with
              | false =>
                have HX : Hid (adOk c a b 0 s x y = false) := by show _ = _; rw [adOk, HK.out, e6]; simp
                go_wp2_with fail
                go_ret2
                rw [HX.out]
                exact ad_nil HX.out ((hbw7.trans (((Below.drew (Below.refl w7.heap.size w7)).trans hb5).mono (by omega))).trans (hb6.mono (by omega)))
              | true =>
                have HX : Hid (adOk c a b 0 s x y = true) := by show _ = _; rw [adOk, adF, HK.out, e6, HP.out, HQ.out]; rfl
                go_wp2_with fail
                go_ret2
                rw [HX.out]
                exact ad_row HK.out HX.out (row_below r5 hb6 (Nat.le_refl _)) (by omega) ((hbw7.trans (((Below.drew (Below.refl w7.heap.size w7)).trans hb5).mono (by omega))).trans (hb6.mono (by omega)))
          · have hb1 : Below w7.heap.size w7.drew (w7.drew.alloc (.cells #[.string s, .int .i64 x, .int .i64 y] 38)) := (Below.refl w7.heap.size w7.drew).alloc (by have := (Below.refl w7.heap.size w7.drew).size; simp at this ⊢; try omega) _
            refine tree_value _ (.slice (some ⟨w7.heap.size, 0, none⟩) 1 1) (w7.drew.alloc (.cells #[.string s, .int .i64 x, .int .i64 y] 38)) rfl rfl (by go_simp) hb1 ?_
            go_simp
            have d1 : ∀ j u, ([.string s, .int .i64 x, .int .i64 y] : List Value)[j]? = some u → (w7.drew.alloc (.cells #[.string s, .int .i64 x, .int .i64 y] 38)).cell? ((⟨w7.heap.size, 0, none⟩ : Addr).add j) = some u := fun j u hu => by
              match j, hu with
              | 0, hu => simp at hu; subst hu; simp [go_sem, Addr.add]
              | 1, hu => simp at hu; subst hu; simp [go_sem, Addr.add]
              | 2, hu => simp at hu; subst hu; simp [go_sem, Addr.add]
            refine wpMT_eff ?_
            have r2 : ((w7.drew.alloc (.cells #[.string s, .int .i64 x, .int .i64 y] 38)).alloc (.cells #[] 38)).ownsRow w7.heap.size 38 3 (.slice (some ⟨w7.heap.size + 1, 0, none⟩) 0 0) 0 [] := by simpa using World.ownsRow_made (w7.drew.alloc (.cells #[.string s, .int .i64 x, .int .i64 y] 38)) (base := w7.heap.size) (e := 38) (size := 3) #[] 0 (by simp) (Nat.zero_le _) rfl
            have hb2 : Below w7.heap.size w7.drew ((w7.drew.alloc (.cells #[.string s, .int .i64 x, .int .i64 y] 38)).alloc (.cells #[] 38)) := hb1.alloc (by simp) _
            refine tree_value _ (.slice (some ⟨w7.heap.size + 1, 0, none⟩) 0 0) ((w7.drew.alloc (.cells #[.string s, .int .i64 x, .int .i64 y] 38)).alloc (.cells #[] 38)) rfl rfl (by go_simp) hb2 ?_
            go_simp
            have d2 : ∀ j u, ([.string s, .int .i64 x, .int .i64 y] : List Value)[j]? = some u → ((w7.drew.alloc (.cells #[.string s, .int .i64 x, .int .i64 y] 38)).alloc (.cells #[] 38)).cell? ((⟨w7.heap.size, 0, none⟩ : Addr).add j) = some u := fun j u hu => (World.cell?_alloc_lt _ _ ((⟨w7.heap.size, 0, none⟩ : Addr).add j) (by rw [Addr.add_lit]; simp)).trans (d1 j u hu)
            refine wpMT_eff ?_
            obtain ⟨v3, w3, q3, r3, g3, _⟩ := run_append_nil (P := Tryz.prog) ((w7.drew.alloc (.cells #[.string s, .int .i64 x, .int .i64 y] 38)).alloc (.cells #[] 38)) w7.heap.size 27 27 38 ii (.agg #[.string ⟨#[]⟩, .int .i64 0, .int .i64 0]) 3 32 Tryz.underlying27 hii iz0 iz1 iz2 rfl (by decide) _ _ _ r2 cap
            have hb3 : Below w7.heap.size w7.drew w3 := hb2.grown g3 (by have := hb2.size; simp at this ⊢; try omega) (fun z hz => (r2.lt z hz).1)
            refine tree_value _ v3 w3 rfl rfl (run_op_append _ _ 27 rfl rfl rfl q3) hb3 ?_
            simp only [Nat.zero_add, List.nil_append] at r3
            obtain ⟨A3, c3, rfl⟩ := row_form r3
            go_simp
            have d3 : ∀ j u, ([.string s, .int .i64 x, .int .i64 y] : List Value)[j]? = some u → w3.cell? ((⟨w7.heap.size, 0, none⟩ : Addr).add j) = some u := fun j u hu => g3.cell (d2 j u hu) (by rw [Addr.add_lit]; simp [Value.ownBlock]; try omega)
            refine wpMT_eff ?_
            obtain ⟨v4, w4, q4, r4, g4, _⟩ := run_append_own (P := Tryz.prog) w3 w7.heap.size 27 27 38 ii (.agg #[.string ⟨#[]⟩, .int .i64 0, .int .i64 0]) 3 32 Tryz.underlying27 hii iz0 iz1 iz2 rfl (by decide) _ _ _ r3 ⟨w7.heap.size, 0, none⟩ 1 1 [.string s, .int .i64 x, .int .i64 y] rfl d3 three_one (by unfold maxLen; omega) (by omega) (by have := hb3.size; simp at this ⊢; try omega)
            have hb4 : Below w7.heap.size w7.drew w4 := hb3.grown g4 (by have := hb3.size; simp at this ⊢; try omega) (fun z hz => (r3.lt z hz).1)
            refine tree_value _ v4 w4 rfl rfl (run_op_append _ _ 27 rfl rfl rfl q4) hb4 ?_
            obtain ⟨A4, c4, rfl⟩ := row_form r4
            go_simp
            refine wpMT_eff ?_
            obtain ⟨v5, w5, q5, r5, g5, _⟩ := run_append_nil (P := Tryz.prog) w4 w7.heap.size 27 27 38 ii (.agg #[.string ⟨#[]⟩, .int .i64 0, .int .i64 0]) 3 32 Tryz.underlying27 hii iz0 iz1 iz2 rfl (by decide) _ _ _ r4 cap
            have hb5 : Below w7.heap.size w7.drew w5 := hb4.grown g5 (by have := hb4.size; simp at this ⊢; try omega) (fun z hz => (r4.lt z hz).1)
            refine tree_value _ v5 w5 rfl rfl (run_op_append _ _ 27 rfl rfl rfl q5) hb5 ?_
            rw [Nat.add_zero, HRN.out] at r5
            obtain ⟨A5, c5, rfl⟩ := row_form r5
            go_simp
            refine tree_look _ _ rfl rfl (fun w' _ => BigFrame.run_assign _ rfl w') ?_
            go_simp
            refine wpMT_nil ?_
            go_wp2_with fail
            have hz5 := hb5.size
            (try (simp at hz5))
            refine (rfGood_any (adS c 0 s) (adI a 0 x) (adI b 0 y) (0 + 1) _ _ _ _ (own_row r5).sl (Nat.le_refl _) HFT.out).mono ?_
            rintro e w6 ⟨rfl, hb6⟩
            have hz6 := hb6.size
            cases e6 : pdB (adS c 0 s) (adI a 0 x) (adI b 0 y) (0 + 1) with
            | false =>
              have HX : Hid (adOk c a b 0 s x y = false) := by show _ = _; rw [adOk, HK.out, e6]; simp
              go_wp2_with fail
              go_ret2
              rw [HX.out]
              exact ad_nil HX.out ((hbw7.trans (((Below.drew (Below.refl w7.heap.size w7)).trans hb5).mono (by omega))).trans (hb6.mono (by omega)))
            | true =>
              have HX : Hid (adOk c a b 0 s x y = true) := by show _ = _; rw [adOk, adF, HK.out, e6, HP.out, HQ.out]; rfl
              go_wp2_with fail
              go_ret2
              rw [HX.out]
              exact ad_row HK.out HX.out (row_below r5 hb6 (Nat.le_refl _)) (by omega) ((hbw7.trans (((Below.drew (Below.refl w7.heap.size w7)).trans hb5).mono (by omega))).trans (hb6.mono (by omega)))
        | some ad =>
          have HFT : Hid (pfits (adS c 0 s) (0 + 1)) := ⟨by omega, fun i hi => by
            unfold adS
            split
            · exact hf.2 i (by omega)
            · split
              · exact hs
              · exact hf.2 _ (by omega)⟩
          have HPX : Hid (∀ W, Below w7.heap.size w7.drew W → W.cell? ⟨w.heap.size, 0, none⟩ = some (.string s) ∧ W.cell? ⟨w.heap.size, 1, none⟩ = some (.int .i64 x) ∧ W.cell? ⟨w.heap.size, 2, none⟩ = some (.int .i64 y)) := fun W hW => HPX0.out W (hb17.trans (((Below.drew (Below.refl w7.heap.size w7)).trans hW).mono (by omega)))
          have hct : Hid (∀ W, Below w7.heap.size w7.drew W → ∀ j u, (rowL (siiC c a b) 3 0)[j]? = some u → W.cell? ((ad : Addr).add j) = some u) := fun W hW j u hu => by simp [rowL] at hu
          have hcd : Hid (∀ W, Below w7.heap.size w7.drew W → ∀ j u, (rowL (siiC (fun i => c (0 + i)) (fun i => a (0 + i)) (fun i => b (0 + i))) 3 0)[j]? = some u → W.cell? ((ad : Addr).add j) = some u) := fun W hW j u hu => by simp [rowL] at hu
          go_wp2_with fail
          refine wp_region_tree (.step 1 true (.step 2 true (.step 3 true (.step 5 true (.step 8 true (.step 9 true (.step 10 true (.fork 0 (.fork 4 (.step 6 false (.step 7 false (.step 11 false (.step 12 true .nil)))) 6 (.step 4 false (.step 7 false (.step 11 false (.step 12 true .nil))))) 6 (.step 0 false (.step 4 false (.step 7 false (.step 11 false (.step 12 true .nil))))))))))))) (fun w' => Below w7.heap.size w7.drew w') (by kernel_rfl) (by kernel_rfl) (by kernel_rfl) (by kernel_rfl) (Below.refl _ _) ?_
          refine tree_look _ _ rfl rfl (fun w' _ => BigFrame.run_move _ rfl w') ?_
          go_simp
          refine tree_look _ _ rfl rfl (fun w' _ => BigFrame.run_move _ rfl w') ?_
          go_simp
          refine tree_look _ (.slice (some ad) 0 cap) rfl rfl (fun w' _ => (by go_simp; try (intro h; omega))) ?_
          go_simp
          refine tree_look _ (.agg #[.string s, .int .i64 x, .int .i64 y]) rfl rfl (fun w' hw' => (by obtain ⟨y0, y1, y2⟩ := HPX.out w' hw'; go_simp)) ?_
          go_simp
          refine tree_look _ _ rfl rfl (fun w' _ => BigFrame.run_move _ rfl w') ?_
          go_simp
          refine tree_look _ _ rfl rfl (fun w' _ => BigFrame.run_move _ rfl w') ?_
          go_simp
          refine tree_look _ (.slice (some ad) 0 cap) rfl rfl (fun w' _ => (by go_simp)) ?_
          go_simp
          refine wpMT_fork ?_ ?_
          · have r1 : (w7.drew.alloc (.cells #[] 38)).ownsRow w7.heap.size 38 3 (.slice (some ⟨w7.heap.size, 0, none⟩) 0 0) 0 [] := by simpa using World.ownsRow_made w7.drew (base := w7.heap.size) (e := 38) (size := 3) #[] 0 (by simp) (Nat.zero_le _) rfl
            have hb1 : Below w7.heap.size w7.drew (w7.drew.alloc (.cells #[] 38)) := (Below.refl w7.heap.size w7.drew).alloc (by simp) _
            refine tree_value _ (.slice (some ⟨w7.heap.size, 0, none⟩) 0 0) (w7.drew.alloc (.cells #[] 38)) rfl rfl (by go_simp) hb1 ?_
            go_simp
            refine wpMT_fork ?_ ?_
            · obtain ⟨v2, w2, q2, r2, g2, _⟩ := run_append_own (P := Tryz.prog) (w7.drew.alloc (.cells #[] 38)) w7.heap.size 27 27 38 ii (.agg #[.string ⟨#[]⟩, .int .i64 0, .int .i64 0]) 3 32 Tryz.underlying27 hii iz0 iz1 iz2 rfl (by decide) _ _ _ r1 ad 0 cap (rowL (siiC c a b) 3 0) (rowL_len _ _ _) (hct.out (w7.drew.alloc (.cells #[] 38)) hb1) (fun u hu => per_one hu) (by unfold maxLen; omega) (by omega) (by have := hb1.size; simp at this ⊢; try omega)
              have hb2 : Below w7.heap.size w7.drew w2 := hb1.grown g2 (by have := hb1.size; simp at this ⊢; try omega) (fun z hz => (r1.lt z hz).1)
              refine tree_value _ v2 w2 rfl rfl (run_op_append _ _ 27 rfl rfl rfl q2) hb2 ?_
              simp only [Nat.zero_add, List.nil_append] at r2
              obtain ⟨A2, c2, rfl⟩ := row_form r2
              go_simp
              refine wpMT_eff ?_
              have hb3 : Below w7.heap.size w7.drew (w2.alloc (.cells #[.string s, .int .i64 x, .int .i64 y] 38)) := hb2.alloc (by have := hb2.size; simp at this ⊢; try omega) _
              refine tree_value _ (.slice (some ⟨w2.heap.size, 0, none⟩) 1 1) (w2.alloc (.cells #[.string s, .int .i64 x, .int .i64 y] 38)) rfl rfl (by go_simp) hb3 ?_
              go_simp
              have d3 : ∀ j u, ([.string s, .int .i64 x, .int .i64 y] : List Value)[j]? = some u → (w2.alloc (.cells #[.string s, .int .i64 x, .int .i64 y] 38)).cell? ((⟨w2.heap.size, 0, none⟩ : Addr).add j) = some u := fun j u hu => by
                match j, hu with
                | 0, hu => simp at hu; subst hu; simp [go_sem, Addr.add]
                | 1, hu => simp at hu; subst hu; simp [go_sem, Addr.add]
                | 2, hu => simp at hu; subst hu; simp [go_sem, Addr.add]
              have r3 := r2.alloc (.cells #[.string s, .int .i64 x, .int .i64 y] 38)
              refine wpMT_eff ?_
              obtain ⟨v4, w4, q4, r4, g4, _⟩ := run_append_own (P := Tryz.prog) (w2.alloc (.cells #[.string s, .int .i64 x, .int .i64 y] 38)) w7.heap.size 27 27 38 ii (.agg #[.string ⟨#[]⟩, .int .i64 0, .int .i64 0]) 3 32 Tryz.underlying27 hii iz0 iz1 iz2 rfl (by decide) _ _ _ r3 ⟨w2.heap.size, 0, none⟩ 1 1 [.string s, .int .i64 x, .int .i64 y] rfl d3 three_one (by unfold maxLen; omega) (by omega) (by have := hb3.size; simp at this ⊢; try omega)
              have hb4 : Below w7.heap.size w7.drew w4 := hb3.grown g4 (by have := hb3.size; simp at this ⊢; try omega) (fun z hz => (r3.lt z hz).1)
              refine tree_value _ v4 w4 rfl rfl (run_op_append _ _ 27 rfl rfl rfl q4) hb4 ?_
              obtain ⟨A4, c4, rfl⟩ := row_form r4
              go_simp
              refine wpMT_eff ?_
              obtain ⟨v5, w5, q5, r5, g5, _⟩ := run_append_own (P := Tryz.prog) w4 w7.heap.size 27 27 38 ii (.agg #[.string ⟨#[]⟩, .int .i64 0, .int .i64 0]) 3 32 Tryz.underlying27 hii iz0 iz1 iz2 rfl (by decide) _ _ _ r4 ad 0 cap (rowL (siiC (fun i => c (0 + i)) (fun i => a (0 + i)) (fun i => b (0 + i))) 3 0) (rowL_len _ _ _) (hcd.out w4 hb4) (fun u hu => per_one hu) (by unfold maxLen; omega) (by omega) (by have := hb4.size; simp at this ⊢; try omega)
              have hb5 : Below w7.heap.size w7.drew w5 := hb4.grown g5 (by have := hb4.size; simp at this ⊢; try omega) (fun z hz => (r4.lt z hz).1)
              refine tree_value _ v5 w5 rfl rfl (run_op_append _ _ 27 rfl rfl rfl q5) hb5 ?_
              rw [Nat.add_zero, HRA.out] at r5
              obtain ⟨A5, c5, rfl⟩ := row_form r5
              go_simp
              refine tree_look _ _ rfl rfl (fun w' _ => BigFrame.run_assign _ rfl w') ?_
              go_simp
              refine wpMT_nil ?_
              go_wp2_with fail
              have hz5 := hb5.size
              (try (simp at hz5))
              refine (rfGood_any (adS c 0 s) (adI a 0 x) (adI b 0 y) (0 + 1) _ _ _ _ (own_row r5).sl (Nat.le_refl _) HFT.out).mono ?_
              rintro e w6 ⟨rfl, hb6⟩
              have hz6 := hb6.size
              cases e6 : pdB (adS c 0 s) (adI a 0 x) (adI b 0 y) (0 + 1) with
              | false =>
                have HX : Hid (adOk c a b 0 s x y = false) := by show _ = _; rw [adOk, HK.out, e6]; simp
                go_wp2_with fail
                go_ret2
                rw [HX.out]
                exact ad_nil HX.out ((hbw7.trans (((Below.drew (Below.refl w7.heap.size w7)).trans hb5).mono (by omega))).trans (hb6.mono (by omega)))
              | true =>
                have HX : Hid (adOk c a b 0 s x y = true) := by show _ = _; rw [adOk, adF, HK.out, e6, HP.out, HQ.out]; rfl
                go_wp2_with fail
                go_ret2
                rw [HX.out]
                exact ad_row HK.out HX.out (row_below r5 hb6 (Nat.le_refl _)) (by omega) ((hbw7.trans (((Below.drew (Below.refl w7.heap.size w7)).trans hb5).mono (by omega))).trans (hb6.mono (by omega)))
            · have hb2 : Below w7.heap.size w7.drew ((w7.drew.alloc (.cells #[] 38)).alloc (.cells #[.string s, .int .i64 x, .int .i64 y] 38)) := hb1.alloc (by have := hb1.size; simp at this ⊢; try omega) _
              refine tree_value _ (.slice (some ⟨w7.heap.size + 1, 0, none⟩) 1 1) ((w7.drew.alloc (.cells #[] 38)).alloc (.cells #[.string s, .int .i64 x, .int .i64 y] 38)) rfl rfl (by go_simp) hb2 ?_
              go_simp
              have d2 : ∀ j u, ([.string s, .int .i64 x, .int .i64 y] : List Value)[j]? = some u → ((w7.drew.alloc (.cells #[] 38)).alloc (.cells #[.string s, .int .i64 x, .int .i64 y] 38)).cell? ((⟨w7.heap.size + 1, 0, none⟩ : Addr).add j) = some u := fun j u hu => by
                match j, hu with
                | 0, hu => simp at hu; subst hu; simp [go_sem, Addr.add]
                | 1, hu => simp at hu; subst hu; simp [go_sem, Addr.add]
                | 2, hu => simp at hu; subst hu; simp [go_sem, Addr.add]
              have r2 := r1.alloc (.cells #[.string s, .int .i64 x, .int .i64 y] 38)
              refine wpMT_eff ?_
              obtain ⟨v3, w3, q3, r3, g3, _⟩ := run_append_own (P := Tryz.prog) ((w7.drew.alloc (.cells #[] 38)).alloc (.cells #[.string s, .int .i64 x, .int .i64 y] 38)) w7.heap.size 27 27 38 ii (.agg #[.string ⟨#[]⟩, .int .i64 0, .int .i64 0]) 3 32 Tryz.underlying27 hii iz0 iz1 iz2 rfl (by decide) _ _ _ r2 ad 0 cap (rowL (siiC c a b) 3 0) (rowL_len _ _ _) (hct.out ((w7.drew.alloc (.cells #[] 38)).alloc (.cells #[.string s, .int .i64 x, .int .i64 y] 38)) hb2) (fun u hu => per_one hu) (by unfold maxLen; omega) (by omega) (by have := hb2.size; simp at this ⊢; try omega)
              have hb3 : Below w7.heap.size w7.drew w3 := hb2.grown g3 (by have := hb2.size; simp at this ⊢; try omega) (fun z hz => (r2.lt z hz).1)
              refine tree_value _ v3 w3 rfl rfl (run_op_append _ _ 27 rfl rfl rfl q3) hb3 ?_
              simp only [Nat.zero_add, List.nil_append] at r3
              obtain ⟨A3, c3, rfl⟩ := row_form r3
              go_simp
              have d3 : ∀ j u, ([.string s, .int .i64 x, .int .i64 y] : List Value)[j]? = some u → w3.cell? ((⟨w7.heap.size + 1, 0, none⟩ : Addr).add j) = some u := fun j u hu => g3.cell (d2 j u hu) (by rw [Addr.add_lit]; simp [Value.ownBlock]; try omega)
              refine wpMT_eff ?_
              obtain ⟨v4, w4, q4, r4, g4, _⟩ := run_append_own (P := Tryz.prog) w3 w7.heap.size 27 27 38 ii (.agg #[.string ⟨#[]⟩, .int .i64 0, .int .i64 0]) 3 32 Tryz.underlying27 hii iz0 iz1 iz2 rfl (by decide) _ _ _ r3 ⟨w7.heap.size + 1, 0, none⟩ 1 1 [.string s, .int .i64 x, .int .i64 y] rfl d3 three_one (by unfold maxLen; omega) (by omega) (by have := hb3.size; simp at this ⊢; try omega)
              have hb4 : Below w7.heap.size w7.drew w4 := hb3.grown g4 (by have := hb3.size; simp at this ⊢; try omega) (fun z hz => (r3.lt z hz).1)
              refine tree_value _ v4 w4 rfl rfl (run_op_append _ _ 27 rfl rfl rfl q4) hb4 ?_
              obtain ⟨A4, c4, rfl⟩ := row_form r4
              go_simp
              refine wpMT_eff ?_
              obtain ⟨v5, w5, q5, r5, g5, _⟩ := run_append_own (P := Tryz.prog) w4 w7.heap.size 27 27 38 ii (.agg #[.string ⟨#[]⟩, .int .i64 0, .int .i64 0]) 3 32 Tryz.underlying27 hii iz0 iz1 iz2 rfl (by decide) _ _ _ r4 ad 0 cap (rowL (siiC (fun i => c (0 + i)) (fun i => a (0 + i)) (fun i => b (0 + i))) 3 0) (rowL_len _ _ _) (hcd.out w4 hb4) (fun u hu => per_one hu) (by unfold maxLen; omega) (by omega) (by have := hb4.size; simp at this ⊢; try omega)
              have hb5 : Below w7.heap.size w7.drew w5 := hb4.grown g5 (by have := hb4.size; simp at this ⊢; try omega) (fun z hz => (r4.lt z hz).1)
              refine tree_value _ v5 w5 rfl rfl (run_op_append _ _ 27 rfl rfl rfl q5) hb5 ?_
              rw [Nat.add_zero, HRA.out] at r5
              obtain ⟨A5, c5, rfl⟩ := row_form r5
              go_simp
              refine tree_look _ _ rfl rfl (fun w' _ => BigFrame.run_assign _ rfl w') ?_
              go_simp
              refine wpMT_nil ?_
              go_wp2_with fail
              have hz5 := hb5.size
              (try (simp at hz5))
              refine (rfGood_any (adS c 0 s) (adI a 0 x) (adI b 0 y) (0 + 1) _ _ _ _ (own_row r5).sl (Nat.le_refl _) HFT.out).mono ?_
              rintro e w6 ⟨rfl, hb6⟩
              have hz6 := hb6.size
              cases e6 : pdB (adS c 0 s) (adI a 0 x) (adI b 0 y) (0 + 1) with
              | false =>
                have HX : Hid (adOk c a b 0 s x y = false) := by show _ = _; rw [adOk, HK.out, e6]; simp
                go_wp2_with fail
                go_ret2
                rw [HX.out]
                exact ad_nil HX.out ((hbw7.trans (((Below.drew (Below.refl w7.heap.size w7)).trans hb5).mono (by omega))).trans (hb6.mono (by omega)))
              | true =>
                have HX : Hid (adOk c a b 0 s x y = true) := by show _ = _; rw [adOk, adF, HK.out, e6, HP.out, HQ.out]; rfl
                go_wp2_with fail
                go_ret2
                rw [HX.out]
                exact ad_row HK.out HX.out (row_below r5 hb6 (Nat.le_refl _)) (by omega) ((hbw7.trans (((Below.drew (Below.refl w7.heap.size w7)).trans hb5).mono (by omega))).trans (hb6.mono (by omega)))
          · have hb1 : Below w7.heap.size w7.drew (w7.drew.alloc (.cells #[.string s, .int .i64 x, .int .i64 y] 38)) := (Below.refl w7.heap.size w7.drew).alloc (by have := (Below.refl w7.heap.size w7.drew).size; simp at this ⊢; try omega) _
            refine tree_value _ (.slice (some ⟨w7.heap.size, 0, none⟩) 1 1) (w7.drew.alloc (.cells #[.string s, .int .i64 x, .int .i64 y] 38)) rfl rfl (by go_simp) hb1 ?_
            go_simp
            have d1 : ∀ j u, ([.string s, .int .i64 x, .int .i64 y] : List Value)[j]? = some u → (w7.drew.alloc (.cells #[.string s, .int .i64 x, .int .i64 y] 38)).cell? ((⟨w7.heap.size, 0, none⟩ : Addr).add j) = some u := fun j u hu => by
              match j, hu with
              | 0, hu => simp at hu; subst hu; simp [go_sem, Addr.add]
              | 1, hu => simp at hu; subst hu; simp [go_sem, Addr.add]
              | 2, hu => simp at hu; subst hu; simp [go_sem, Addr.add]
            refine wpMT_eff ?_
            have r2 : ((w7.drew.alloc (.cells #[.string s, .int .i64 x, .int .i64 y] 38)).alloc (.cells #[] 38)).ownsRow w7.heap.size 38 3 (.slice (some ⟨w7.heap.size + 1, 0, none⟩) 0 0) 0 [] := by simpa using World.ownsRow_made (w7.drew.alloc (.cells #[.string s, .int .i64 x, .int .i64 y] 38)) (base := w7.heap.size) (e := 38) (size := 3) #[] 0 (by simp) (Nat.zero_le _) rfl
            have hb2 : Below w7.heap.size w7.drew ((w7.drew.alloc (.cells #[.string s, .int .i64 x, .int .i64 y] 38)).alloc (.cells #[] 38)) := hb1.alloc (by simp) _
            refine tree_value _ (.slice (some ⟨w7.heap.size + 1, 0, none⟩) 0 0) ((w7.drew.alloc (.cells #[.string s, .int .i64 x, .int .i64 y] 38)).alloc (.cells #[] 38)) rfl rfl (by go_simp) hb2 ?_
            go_simp
            have d2 : ∀ j u, ([.string s, .int .i64 x, .int .i64 y] : List Value)[j]? = some u → ((w7.drew.alloc (.cells #[.string s, .int .i64 x, .int .i64 y] 38)).alloc (.cells #[] 38)).cell? ((⟨w7.heap.size, 0, none⟩ : Addr).add j) = some u := fun j u hu => (World.cell?_alloc_lt _ _ ((⟨w7.heap.size, 0, none⟩ : Addr).add j) (by rw [Addr.add_lit]; simp)).trans (d1 j u hu)
            refine wpMT_eff ?_
            obtain ⟨v3, w3, q3, r3, g3, _⟩ := run_append_own (P := Tryz.prog) ((w7.drew.alloc (.cells #[.string s, .int .i64 x, .int .i64 y] 38)).alloc (.cells #[] 38)) w7.heap.size 27 27 38 ii (.agg #[.string ⟨#[]⟩, .int .i64 0, .int .i64 0]) 3 32 Tryz.underlying27 hii iz0 iz1 iz2 rfl (by decide) _ _ _ r2 ad 0 cap (rowL (siiC c a b) 3 0) (rowL_len _ _ _) (hct.out ((w7.drew.alloc (.cells #[.string s, .int .i64 x, .int .i64 y] 38)).alloc (.cells #[] 38)) hb2) (fun u hu => per_one hu) (by unfold maxLen; omega) (by omega) (by have := hb2.size; simp at this ⊢; try omega)
            have hb3 : Below w7.heap.size w7.drew w3 := hb2.grown g3 (by have := hb2.size; simp at this ⊢; try omega) (fun z hz => (r2.lt z hz).1)
            refine tree_value _ v3 w3 rfl rfl (run_op_append _ _ 27 rfl rfl rfl q3) hb3 ?_
            simp only [Nat.zero_add, List.nil_append] at r3
            obtain ⟨A3, c3, rfl⟩ := row_form r3
            go_simp
            have d3 : ∀ j u, ([.string s, .int .i64 x, .int .i64 y] : List Value)[j]? = some u → w3.cell? ((⟨w7.heap.size, 0, none⟩ : Addr).add j) = some u := fun j u hu => g3.cell (d2 j u hu) (by rw [Addr.add_lit]; simp [Value.ownBlock]; try omega)
            refine wpMT_eff ?_
            obtain ⟨v4, w4, q4, r4, g4, _⟩ := run_append_own (P := Tryz.prog) w3 w7.heap.size 27 27 38 ii (.agg #[.string ⟨#[]⟩, .int .i64 0, .int .i64 0]) 3 32 Tryz.underlying27 hii iz0 iz1 iz2 rfl (by decide) _ _ _ r3 ⟨w7.heap.size, 0, none⟩ 1 1 [.string s, .int .i64 x, .int .i64 y] rfl d3 three_one (by unfold maxLen; omega) (by omega) (by have := hb3.size; simp at this ⊢; try omega)
            have hb4 : Below w7.heap.size w7.drew w4 := hb3.grown g4 (by have := hb3.size; simp at this ⊢; try omega) (fun z hz => (r3.lt z hz).1)
            refine tree_value _ v4 w4 rfl rfl (run_op_append _ _ 27 rfl rfl rfl q4) hb4 ?_
            obtain ⟨A4, c4, rfl⟩ := row_form r4
            go_simp
            refine wpMT_eff ?_
            obtain ⟨v5, w5, q5, r5, g5, _⟩ := run_append_own (P := Tryz.prog) w4 w7.heap.size 27 27 38 ii (.agg #[.string ⟨#[]⟩, .int .i64 0, .int .i64 0]) 3 32 Tryz.underlying27 hii iz0 iz1 iz2 rfl (by decide) _ _ _ r4 ad 0 cap (rowL (siiC (fun i => c (0 + i)) (fun i => a (0 + i)) (fun i => b (0 + i))) 3 0) (rowL_len _ _ _) (hcd.out w4 hb4) (fun u hu => per_one hu) (by unfold maxLen; omega) (by omega) (by have := hb4.size; simp at this ⊢; try omega)
            have hb5 : Below w7.heap.size w7.drew w5 := hb4.grown g5 (by have := hb4.size; simp at this ⊢; try omega) (fun z hz => (r4.lt z hz).1)
            refine tree_value _ v5 w5 rfl rfl (run_op_append _ _ 27 rfl rfl rfl q5) hb5 ?_
            rw [Nat.add_zero, HRA.out] at r5
            obtain ⟨A5, c5, rfl⟩ := row_form r5
            go_simp
            refine tree_look _ _ rfl rfl (fun w' _ => BigFrame.run_assign _ rfl w') ?_
            go_simp
            refine wpMT_nil ?_
            go_wp2_with fail
            have hz5 := hb5.size
            (try (simp at hz5))
            refine (rfGood_any (adS c 0 s) (adI a 0 x) (adI b 0 y) (0 + 1) _ _ _ _ (own_row r5).sl (Nat.le_refl _) HFT.out).mono ?_
            rintro e w6 ⟨rfl, hb6⟩
            have hz6 := hb6.size
            cases e6 : pdB (adS c 0 s) (adI a 0 x) (adI b 0 y) (0 + 1) with
            | false =>
              have HX : Hid (adOk c a b 0 s x y = false) := by show _ = _; rw [adOk, HK.out, e6]; simp
              go_wp2_with fail
              go_ret2
              rw [HX.out]
              exact ad_nil HX.out ((hbw7.trans (((Below.drew (Below.refl w7.heap.size w7)).trans hb5).mono (by omega))).trans (hb6.mono (by omega)))
            | true =>
              have HX : Hid (adOk c a b 0 s x y = true) := by show _ = _; rw [adOk, adF, HK.out, e6, HP.out, HQ.out]; rfl
              go_wp2_with fail
              go_ret2
              rw [HX.out]
              exact ad_row HK.out HX.out (row_below r5 hb6 (Nat.le_refl _)) (by omega) ((hbw7.trans (((Below.drew (Below.refl w7.heap.size w7)).trans hb5).mono (by omega))).trans (hb6.mono (by omega)))
      · obtain ⟨blk, off, rfl, hq1, hq2, h3⟩ := (hA.below hbw7 (by omega)) hk0
        have l0 : blk < w7.heap.size := by omega
        have HW := hide h3
        clear h3 hA
        by_cases hck : cap = k
        · subst hck
          have HFT : Hid (pfits (adS c cap s) (cap + 1)) := ⟨by omega, fun i hi => by
            unfold adS
            split
            · exact hf.2 i (by omega)
            · split
              · exact hs
              · exact hf.2 _ (by omega)⟩
          have HPX : Hid (∀ W, Below w7.heap.size w7.drew W → W.cell? ⟨w.heap.size, 0, none⟩ = some (.string s) ∧ W.cell? ⟨w.heap.size, 1, none⟩ = some (.int .i64 x) ∧ W.cell? ⟨w.heap.size, 2, none⟩ = some (.int .i64 y)) := fun W hW => HPX0.out W (hb17.trans (((Below.drew (Below.refl w7.heap.size w7)).trans hW).mono (by omega)))
          have hct : Hid (∀ W, Below w7.heap.size w7.drew W → ∀ j u, (rowL (siiC c a b) 3 cap)[j]? = some u → W.cell? ((⟨blk, off, none⟩ : Addr).add j) = some u) := fun W hW j u hu => by
            have hsl : Sl w7 lo hi 3 (.slice (some ⟨blk, off, none⟩) cap cap) cap (siiC c a b) := ⟨_, _, rfl, by omega, fun h0 => ⟨blk, off, rfl, hq1, hq2, fun i j hi hj => HW.out i j (by omega) hj⟩⟩
            rw [Addr.add_lit]
            have := hsl.news j u hu
            rw [Addr.add_lit] at this
            exact (hW.cell (p := ⟨blk, off + j, none⟩) (by show blk < _; omega)).trans this
          have hcd : Hid (∀ W, Below w7.heap.size w7.drew W → ∀ j u, (rowL (siiC (fun i => c (cap + i)) (fun i => a (cap + i)) (fun i => b (cap + i))) 3 0)[j]? = some u → W.cell? ((⟨blk, off, none⟩ : Addr).add j) = some u) := fun W hW j u hu => by simp [rowL] at hu
          clear HW
          go_wp2_with fail
          refine wp_region_tree (.step 1 true (.step 2 true (.step 3 true (.step 5 true (.step 8 true (.step 9 true (.step 10 true (.fork 0 (.fork 4 (.step 6 false (.step 7 false (.step 11 false (.step 12 true .nil)))) 6 (.step 4 false (.step 7 false (.step 11 false (.step 12 true .nil))))) 6 (.step 0 false (.step 4 false (.step 7 false (.step 11 false (.step 12 true .nil))))))))))))) (fun w' => Below w7.heap.size w7.drew w') (by kernel_rfl) (by kernel_rfl) (by kernel_rfl) (by kernel_rfl) (Below.refl _ _) ?_
          refine tree_look _ _ rfl rfl (fun w' _ => BigFrame.run_move _ rfl w') ?_
          go_simp
          refine tree_look _ _ rfl rfl (fun w' _ => BigFrame.run_move _ rfl w') ?_
          go_simp
          refine tree_look _ (.slice (some ⟨blk, off, none⟩) cap cap) rfl rfl (fun w' _ => (by go_simp; try (intro h; omega))) ?_
          go_simp
          refine tree_look _ (.agg #[.string s, .int .i64 x, .int .i64 y]) rfl rfl (fun w' hw' => (by obtain ⟨y0, y1, y2⟩ := HPX.out w' hw'; go_simp)) ?_
          go_simp
          refine tree_look _ _ rfl rfl (fun w' _ => BigFrame.run_move _ rfl w') ?_
          go_simp
          refine tree_look _ _ rfl rfl (fun w' _ => BigFrame.run_move _ rfl w') ?_
          go_simp
          refine tree_look _ (.slice (some ⟨blk, off, none⟩) 0 0) rfl rfl (fun w' _ => (by go_simp)) ?_
          go_simp
          refine wpMT_fork ?_ ?_
          · have r1 : (w7.drew.alloc (.cells #[] 38)).ownsRow w7.heap.size 38 3 (.slice (some ⟨w7.heap.size, 0, none⟩) 0 0) 0 [] := by simpa using World.ownsRow_made w7.drew (base := w7.heap.size) (e := 38) (size := 3) #[] 0 (by simp) (Nat.zero_le _) rfl
            have hb1 : Below w7.heap.size w7.drew (w7.drew.alloc (.cells #[] 38)) := (Below.refl w7.heap.size w7.drew).alloc (by simp) _
            refine tree_value _ (.slice (some ⟨w7.heap.size, 0, none⟩) 0 0) (w7.drew.alloc (.cells #[] 38)) rfl rfl (by go_simp) hb1 ?_
            go_simp
            refine wpMT_fork ?_ ?_
            · obtain ⟨v2, w2, q2, r2, g2, _⟩ := run_append_own (P := Tryz.prog) (w7.drew.alloc (.cells #[] 38)) w7.heap.size 27 27 38 ii (.agg #[.string ⟨#[]⟩, .int .i64 0, .int .i64 0]) 3 32 Tryz.underlying27 hii iz0 iz1 iz2 rfl (by decide) _ _ _ r1 ⟨blk, off, none⟩ cap cap (rowL (siiC c a b) 3 cap) (rowL_len _ _ _) (hct.out (w7.drew.alloc (.cells #[] 38)) hb1) (fun u hu => per_one hu) (by unfold maxLen; omega) (by omega) (by have := hb1.size; simp at this ⊢; try omega)
              have hb2 : Below w7.heap.size w7.drew w2 := hb1.grown g2 (by have := hb1.size; simp at this ⊢; try omega) (fun z hz => (r1.lt z hz).1)
              refine tree_value _ v2 w2 rfl rfl (run_op_append _ _ 27 rfl rfl rfl q2) hb2 ?_
              simp only [Nat.zero_add, List.nil_append] at r2
              obtain ⟨A2, c2, rfl⟩ := row_form r2
              go_simp
              refine wpMT_eff ?_
              have hb3 : Below w7.heap.size w7.drew (w2.alloc (.cells #[.string s, .int .i64 x, .int .i64 y] 38)) := hb2.alloc (by have := hb2.size; simp at this ⊢; try omega) _
              refine tree_value _ (.slice (some ⟨w2.heap.size, 0, none⟩) 1 1) (w2.alloc (.cells #[.string s, .int .i64 x, .int .i64 y] 38)) rfl rfl (by go_simp) hb3 ?_
              go_simp
              have d3 : ∀ j u, ([.string s, .int .i64 x, .int .i64 y] : List Value)[j]? = some u → (w2.alloc (.cells #[.string s, .int .i64 x, .int .i64 y] 38)).cell? ((⟨w2.heap.size, 0, none⟩ : Addr).add j) = some u := fun j u hu => by
                match j, hu with
                | 0, hu => simp at hu; subst hu; simp [go_sem, Addr.add]
                | 1, hu => simp at hu; subst hu; simp [go_sem, Addr.add]
                | 2, hu => simp at hu; subst hu; simp [go_sem, Addr.add]
              have r3 := r2.alloc (.cells #[.string s, .int .i64 x, .int .i64 y] 38)
              refine wpMT_eff ?_
              obtain ⟨v4, w4, q4, r4, g4, _⟩ := run_append_own (P := Tryz.prog) (w2.alloc (.cells #[.string s, .int .i64 x, .int .i64 y] 38)) w7.heap.size 27 27 38 ii (.agg #[.string ⟨#[]⟩, .int .i64 0, .int .i64 0]) 3 32 Tryz.underlying27 hii iz0 iz1 iz2 rfl (by decide) _ _ _ r3 ⟨w2.heap.size, 0, none⟩ 1 1 [.string s, .int .i64 x, .int .i64 y] rfl d3 three_one (by unfold maxLen; omega) (by omega) (by have := hb3.size; simp at this ⊢; try omega)
              have hb4 : Below w7.heap.size w7.drew w4 := hb3.grown g4 (by have := hb3.size; simp at this ⊢; try omega) (fun z hz => (r3.lt z hz).1)
              refine tree_value _ v4 w4 rfl rfl (run_op_append _ _ 27 rfl rfl rfl q4) hb4 ?_
              obtain ⟨A4, c4, rfl⟩ := row_form r4
              go_simp
              refine wpMT_eff ?_
              obtain ⟨v5, w5, q5, r5, g5, _⟩ := run_append_own (P := Tryz.prog) w4 w7.heap.size 27 27 38 ii (.agg #[.string ⟨#[]⟩, .int .i64 0, .int .i64 0]) 3 32 Tryz.underlying27 hii iz0 iz1 iz2 rfl (by decide) _ _ _ r4 ⟨blk, off, none⟩ 0 0 (rowL (siiC (fun i => c (cap + i)) (fun i => a (cap + i)) (fun i => b (cap + i))) 3 0) (rowL_len _ _ _) (hcd.out w4 hb4) (fun u hu => per_one hu) (by unfold maxLen; omega) (by omega) (by have := hb4.size; simp at this ⊢; try omega)
              have hb5 : Below w7.heap.size w7.drew w5 := hb4.grown g5 (by have := hb4.size; simp at this ⊢; try omega) (fun z hz => (r4.lt z hz).1)
              refine tree_value _ v5 w5 rfl rfl (run_op_append _ _ 27 rfl rfl rfl q5) hb5 ?_
              rw [Nat.add_zero, HRA.out] at r5
              obtain ⟨A5, c5, rfl⟩ := row_form r5
              go_simp
              refine tree_look _ _ rfl rfl (fun w' _ => BigFrame.run_assign _ rfl w') ?_
              go_simp
              refine wpMT_nil ?_
              go_wp2_with fail
              have hz5 := hb5.size
              (try (simp at hz5))
              refine (rfGood_any (adS c cap s) (adI a cap x) (adI b cap y) (cap + 1) _ _ _ _ (own_row r5).sl (Nat.le_refl _) HFT.out).mono ?_
              rintro e w6 ⟨rfl, hb6⟩
              have hz6 := hb6.size
              cases e6 : pdB (adS c cap s) (adI a cap x) (adI b cap y) (cap + 1) with
              | false =>
                have HX : Hid (adOk c a b cap s x y = false) := by show _ = _; rw [adOk, HK.out, e6]; simp
                go_wp2_with fail
                go_ret2
                rw [HX.out]
                exact ad_nil HX.out ((hbw7.trans (((Below.drew (Below.refl w7.heap.size w7)).trans hb5).mono (by omega))).trans (hb6.mono (by omega)))
              | true =>
                have HX : Hid (adOk c a b cap s x y = true) := by show _ = _; rw [adOk, adF, HK.out, e6, HP.out, HQ.out]; rfl
                go_wp2_with fail
                go_ret2
                rw [HX.out]
                exact ad_row HK.out HX.out (row_below r5 hb6 (Nat.le_refl _)) (by omega) ((hbw7.trans (((Below.drew (Below.refl w7.heap.size w7)).trans hb5).mono (by omega))).trans (hb6.mono (by omega)))
            · have hb2 : Below w7.heap.size w7.drew ((w7.drew.alloc (.cells #[] 38)).alloc (.cells #[.string s, .int .i64 x, .int .i64 y] 38)) := hb1.alloc (by have := hb1.size; simp at this ⊢; try omega) _
              refine tree_value _ (.slice (some ⟨w7.heap.size + 1, 0, none⟩) 1 1) ((w7.drew.alloc (.cells #[] 38)).alloc (.cells #[.string s, .int .i64 x, .int .i64 y] 38)) rfl rfl (by go_simp) hb2 ?_
              go_simp
              have d2 : ∀ j u, ([.string s, .int .i64 x, .int .i64 y] : List Value)[j]? = some u → ((w7.drew.alloc (.cells #[] 38)).alloc (.cells #[.string s, .int .i64 x, .int .i64 y] 38)).cell? ((⟨w7.heap.size + 1, 0, none⟩ : Addr).add j) = some u := fun j u hu => by
                match j, hu with
                | 0, hu => simp at hu; subst hu; simp [go_sem, Addr.add]
                | 1, hu => simp at hu; subst hu; simp [go_sem, Addr.add]
                | 2, hu => simp at hu; subst hu; simp [go_sem, Addr.add]
              have r2 := r1.alloc (.cells #[.string s, .int .i64 x, .int .i64 y] 38)
              refine wpMT_eff ?_
              obtain ⟨v3, w3, q3, r3, g3, _⟩ := run_append_own (P := Tryz.prog) ((w7.drew.alloc (.cells #[] 38)).alloc (.cells #[.string s, .int .i64 x, .int .i64 y] 38)) w7.heap.size 27 27 38 ii (.agg #[.string ⟨#[]⟩, .int .i64 0, .int .i64 0]) 3 32 Tryz.underlying27 hii iz0 iz1 iz2 rfl (by decide) _ _ _ r2 ⟨blk, off, none⟩ cap cap (rowL (siiC c a b) 3 cap) (rowL_len _ _ _) (hct.out ((w7.drew.alloc (.cells #[] 38)).alloc (.cells #[.string s, .int .i64 x, .int .i64 y] 38)) hb2) (fun u hu => per_one hu) (by unfold maxLen; omega) (by omega) (by have := hb2.size; simp at this ⊢; try omega)
              have hb3 : Below w7.heap.size w7.drew w3 := hb2.grown g3 (by have := hb2.size; simp at this ⊢; try omega) (fun z hz => (r2.lt z hz).1)
              refine tree_value _ v3 w3 rfl rfl (run_op_append _ _ 27 rfl rfl rfl q3) hb3 ?_
              simp only [Nat.zero_add, List.nil_append] at r3
              obtain ⟨A3, c3, rfl⟩ := row_form r3
              go_simp
              have d3 : ∀ j u, ([.string s, .int .i64 x, .int .i64 y] : List Value)[j]? = some u → w3.cell? ((⟨w7.heap.size + 1, 0, none⟩ : Addr).add j) = some u := fun j u hu => g3.cell (d2 j u hu) (by rw [Addr.add_lit]; simp [Value.ownBlock]; try omega)
              refine wpMT_eff ?_
              obtain ⟨v4, w4, q4, r4, g4, _⟩ := run_append_own (P := Tryz.prog) w3 w7.heap.size 27 27 38 ii (.agg #[.string ⟨#[]⟩, .int .i64 0, .int .i64 0]) 3 32 Tryz.underlying27 hii iz0 iz1 iz2 rfl (by decide) _ _ _ r3 ⟨w7.heap.size + 1, 0, none⟩ 1 1 [.string s, .int .i64 x, .int .i64 y] rfl d3 three_one (by unfold maxLen; omega) (by omega) (by have := hb3.size; simp at this ⊢; try omega)
              have hb4 : Below w7.heap.size w7.drew w4 := hb3.grown g4 (by have := hb3.size; simp at this ⊢; try omega) (fun z hz => (r3.lt z hz).1)
              refine tree_value _ v4 w4 rfl rfl (run_op_append _ _ 27 rfl rfl rfl q4) hb4 ?_
              obtain ⟨A4, c4, rfl⟩ := row_form r4
              go_simp
              refine wpMT_eff ?_
              obtain ⟨v5, w5, q5, r5, g5, _⟩ := run_append_own (P := Tryz.prog) w4 w7.heap.size 27 27 38 ii (.agg #[.string ⟨#[]⟩, .int .i64 0, .int .i64 0]) 3 32 Tryz.underlying27 hii iz0 iz1 iz2 rfl (by decide) _ _ _ r4 ⟨blk, off, none⟩ 0 0 (rowL (siiC (fun i => c (cap + i)) (fun i => a (cap + i)) (fun i => b (cap + i))) 3 0) (rowL_len _ _ _) (hcd.out w4 hb4) (fun u hu => per_one hu) (by unfold maxLen; omega) (by omega) (by have := hb4.size; simp at this ⊢; try omega)
              have hb5 : Below w7.heap.size w7.drew w5 := hb4.grown g5 (by have := hb4.size; simp at this ⊢; try omega) (fun z hz => (r4.lt z hz).1)
              refine tree_value _ v5 w5 rfl rfl (run_op_append _ _ 27 rfl rfl rfl q5) hb5 ?_
              rw [Nat.add_zero, HRA.out] at r5
              obtain ⟨A5, c5, rfl⟩ := row_form r5
              go_simp
              refine tree_look _ _ rfl rfl (fun w' _ => BigFrame.run_assign _ rfl w') ?_
              go_simp
              refine wpMT_nil ?_
              go_wp2_with fail
              have hz5 := hb5.size
              (try (simp at hz5))
              refine (rfGood_any (adS c cap s) (adI a cap x) (adI b cap y) (cap + 1) _ _ _ _ (own_row r5).sl (Nat.le_refl _) HFT.out).mono ?_
              rintro e w6 ⟨rfl, hb6⟩
              have hz6 := hb6.size
              cases e6 : pdB (adS c cap s) (adI a cap x) (adI b cap y) (cap + 1) with
              | false =>
                have HX : Hid (adOk c a b cap s x y = false) := by show _ = _; rw [adOk, HK.out, e6]; simp
                go_wp2_with fail
                go_ret2
                rw [HX.out]
                exact ad_nil HX.out ((hbw7.trans (((Below.drew (Below.refl w7.heap.size w7)).trans hb5).mono (by omega))).trans (hb6.mono (by omega)))
              | true =>
                have HX : Hid (adOk c a b cap s x y = true) := by show _ = _; rw [adOk, adF, HK.out, e6, HP.out, HQ.out]; rfl
                go_wp2_with fail
                go_ret2
                rw [HX.out]
                exact ad_row HK.out HX.out (row_below r5 hb6 (Nat.le_refl _)) (by omega) ((hbw7.trans (((Below.drew (Below.refl w7.heap.size w7)).trans hb5).mono (by omega))).trans (hb6.mono (by omega)))
          · have hb1 : Below w7.heap.size w7.drew (w7.drew.alloc (.cells #[.string s, .int .i64 x, .int .i64 y] 38)) := (Below.refl w7.heap.size w7.drew).alloc (by have := (Below.refl w7.heap.size w7.drew).size; simp at this ⊢; try omega) _
            refine tree_value _ (.slice (some ⟨w7.heap.size, 0, none⟩) 1 1) (w7.drew.alloc (.cells #[.string s, .int .i64 x, .int .i64 y] 38)) rfl rfl (by go_simp) hb1 ?_
            go_simp
            have d1 : ∀ j u, ([.string s, .int .i64 x, .int .i64 y] : List Value)[j]? = some u → (w7.drew.alloc (.cells #[.string s, .int .i64 x, .int .i64 y] 38)).cell? ((⟨w7.heap.size, 0, none⟩ : Addr).add j) = some u := fun j u hu => by
              match j, hu with
              | 0, hu => simp at hu; subst hu; simp [go_sem, Addr.add]
              | 1, hu => simp at hu; subst hu; simp [go_sem, Addr.add]
              | 2, hu => simp at hu; subst hu; simp [go_sem, Addr.add]
            refine wpMT_eff ?_
            have r2 : ((w7.drew.alloc (.cells #[.string s, .int .i64 x, .int .i64 y] 38)).alloc (.cells #[] 38)).ownsRow w7.heap.size 38 3 (.slice (some ⟨w7.heap.size + 1, 0, none⟩) 0 0) 0 [] := by simpa using World.ownsRow_made (w7.drew.alloc (.cells #[.string s, .int .i64 x, .int .i64 y] 38)) (base := w7.heap.size) (e := 38) (size := 3) #[] 0 (by simp) (Nat.zero_le _) rfl
            have hb2 : Below w7.heap.size w7.drew ((w7.drew.alloc (.cells #[.string s, .int .i64 x, .int .i64 y] 38)).alloc (.cells #[] 38)) := hb1.alloc (by simp) _
            refine tree_value _ (.slice (some ⟨w7.heap.size + 1, 0, none⟩) 0 0) ((w7.drew.alloc (.cells #[.string s, .int .i64 x, .int .i64 y] 38)).alloc (.cells #[] 38)) rfl rfl (by go_simp) hb2 ?_
            go_simp
            have d2 : ∀ j u, ([.string s, .int .i64 x, .int .i64 y] : List Value)[j]? = some u → ((w7.drew.alloc (.cells #[.string s, .int .i64 x, .int .i64 y] 38)).alloc (.cells #[] 38)).cell? ((⟨w7.heap.size, 0, none⟩ : Addr).add j) = some u := fun j u hu => (World.cell?_alloc_lt _ _ ((⟨w7.heap.size, 0, none⟩ : Addr).add j) (by rw [Addr.add_lit]; simp)).trans (d1 j u hu)
            refine wpMT_eff ?_
            obtain ⟨v3, w3, q3, r3, g3, _⟩ := run_append_own (P := Tryz.prog) ((w7.drew.alloc (.cells #[.string s, .int .i64 x, .int .i64 y] 38)).alloc (.cells #[] 38)) w7.heap.size 27 27 38 ii (.agg #[.string ⟨#[]⟩, .int .i64 0, .int .i64 0]) 3 32 Tryz.underlying27 hii iz0 iz1 iz2 rfl (by decide) _ _ _ r2 ⟨blk, off, none⟩ cap cap (rowL (siiC c a b) 3 cap) (rowL_len _ _ _) (hct.out ((w7.drew.alloc (.cells #[.string s, .int .i64 x, .int .i64 y] 38)).alloc (.cells #[] 38)) hb2) (fun u hu => per_one hu) (by unfold maxLen; omega) (by omega) (by have := hb2.size; simp at this ⊢; try omega)
            have hb3 : Below w7.heap.size w7.drew w3 := hb2.grown g3 (by have := hb2.size; simp at this ⊢; try omega) (fun z hz => (r2.lt z hz).1)
            refine tree_value _ v3 w3 rfl rfl (run_op_append _ _ 27 rfl rfl rfl q3) hb3 ?_
            simp only [Nat.zero_add, List.nil_append] at r3
            obtain ⟨A3, c3, rfl⟩ := row_form r3
            go_simp
            have d3 : ∀ j u, ([.string s, .int .i64 x, .int .i64 y] : List Value)[j]? = some u → w3.cell? ((⟨w7.heap.size, 0, none⟩ : Addr).add j) = some u := fun j u hu => g3.cell (d2 j u hu) (by rw [Addr.add_lit]; simp [Value.ownBlock]; try omega)
            refine wpMT_eff ?_
            obtain ⟨v4, w4, q4, r4, g4, _⟩ := run_append_own (P := Tryz.prog) w3 w7.heap.size 27 27 38 ii (.agg #[.string ⟨#[]⟩, .int .i64 0, .int .i64 0]) 3 32 Tryz.underlying27 hii iz0 iz1 iz2 rfl (by decide) _ _ _ r3 ⟨w7.heap.size, 0, none⟩ 1 1 [.string s, .int .i64 x, .int .i64 y] rfl d3 three_one (by unfold maxLen; omega) (by omega) (by have := hb3.size; simp at this ⊢; try omega)
            have hb4 : Below w7.heap.size w7.drew w4 := hb3.grown g4 (by have := hb3.size; simp at this ⊢; try omega) (fun z hz => (r3.lt z hz).1)
            refine tree_value _ v4 w4 rfl rfl (run_op_append _ _ 27 rfl rfl rfl q4) hb4 ?_
            obtain ⟨A4, c4, rfl⟩ := row_form r4
            go_simp
            refine wpMT_eff ?_
            obtain ⟨v5, w5, q5, r5, g5, _⟩ := run_append_own (P := Tryz.prog) w4 w7.heap.size 27 27 38 ii (.agg #[.string ⟨#[]⟩, .int .i64 0, .int .i64 0]) 3 32 Tryz.underlying27 hii iz0 iz1 iz2 rfl (by decide) _ _ _ r4 ⟨blk, off, none⟩ 0 0 (rowL (siiC (fun i => c (cap + i)) (fun i => a (cap + i)) (fun i => b (cap + i))) 3 0) (rowL_len _ _ _) (hcd.out w4 hb4) (fun u hu => per_one hu) (by unfold maxLen; omega) (by omega) (by have := hb4.size; simp at this ⊢; try omega)
            have hb5 : Below w7.heap.size w7.drew w5 := hb4.grown g5 (by have := hb4.size; simp at this ⊢; try omega) (fun z hz => (r4.lt z hz).1)
            refine tree_value _ v5 w5 rfl rfl (run_op_append _ _ 27 rfl rfl rfl q5) hb5 ?_
            rw [Nat.add_zero, HRA.out] at r5
            obtain ⟨A5, c5, rfl⟩ := row_form r5
            go_simp
            refine tree_look _ _ rfl rfl (fun w' _ => BigFrame.run_assign _ rfl w') ?_
            go_simp
            refine wpMT_nil ?_
            go_wp2_with fail
            have hz5 := hb5.size
            (try (simp at hz5))
            refine (rfGood_any (adS c cap s) (adI a cap x) (adI b cap y) (cap + 1) _ _ _ _ (own_row r5).sl (Nat.le_refl _) HFT.out).mono ?_
            rintro e w6 ⟨rfl, hb6⟩
            have hz6 := hb6.size
            cases e6 : pdB (adS c cap s) (adI a cap x) (adI b cap y) (cap + 1) with
            | false =>
              have HX : Hid (adOk c a b cap s x y = false) := by show _ = _; rw [adOk, HK.out, e6]; simp
              go_wp2_with fail
              go_ret2
              rw [HX.out]
              exact ad_nil HX.out ((hbw7.trans (((Below.drew (Below.refl w7.heap.size w7)).trans hb5).mono (by omega))).trans (hb6.mono (by omega)))
            | true =>
              have HX : Hid (adOk c a b cap s x y = true) := by show _ = _; rw [adOk, adF, HK.out, e6, HP.out, HQ.out]; rfl
              go_wp2_with fail
              go_ret2
              rw [HX.out]
              exact ad_row HK.out HX.out (row_below r5 hb6 (Nat.le_refl _)) (by omega) ((hbw7.trans (((Below.drew (Below.refl w7.heap.size w7)).trans hb5).mono (by omega))).trans (hb6.mono (by omega)))
        · have HFT : Hid (pfits (adS c k s) (k + 1)) := ⟨by omega, fun i hi => by
            unfold adS
            split
            · exact hf.2 i (by omega)
            · split
              · exact hs
              · exact hf.2 _ (by omega)⟩
          have HPX : Hid (∀ W, Below w7.heap.size w7.drew W → W.cell? ⟨w.heap.size, 0, none⟩ = some (.string s) ∧ W.cell? ⟨w.heap.size, 1, none⟩ = some (.int .i64 x) ∧ W.cell? ⟨w.heap.size, 2, none⟩ = some (.int .i64 y)) := fun W hW => HPX0.out W (hb17.trans (((Below.drew (Below.refl w7.heap.size w7)).trans hW).mono (by omega)))
          have hct : Hid (∀ W, Below w7.heap.size w7.drew W → ∀ j u, (rowL (siiC c a b) 3 k)[j]? = some u → W.cell? ((⟨blk, off, none⟩ : Addr).add j) = some u) := fun W hW j u hu => by
            have hsl : Sl w7 lo hi 3 (.slice (some ⟨blk, off, none⟩) k cap) k (siiC c a b) := ⟨_, _, rfl, by omega, fun h0 => ⟨blk, off, rfl, hq1, hq2, fun i j hi hj => HW.out i j (by omega) hj⟩⟩
            rw [Addr.add_lit]
            have := hsl.news j u hu
            rw [Addr.add_lit] at this
            exact (hW.cell (p := ⟨blk, off + j, none⟩) (by show blk < _; omega)).trans this
          have hcd : Hid (∀ W, Below w7.heap.size w7.drew W → ∀ j u, (rowL (siiC (fun i => c (k + i)) (fun i => a (k + i)) (fun i => b (k + i))) 3 0)[j]? = some u → W.cell? ((⟨blk, off + k * 3, none⟩ : Addr).add j) = some u) := fun W hW j u hu => by simp [rowL] at hu
          clear HW
          go_wp2_with fail
          refine wp_region_tree (.step 1 true (.step 2 true (.step 3 true (.step 5 true (.step 8 true (.step 9 true (.step 10 true (.fork 0 (.fork 4 (.step 6 false (.step 7 false (.step 11 false (.step 12 true .nil)))) 6 (.step 4 false (.step 7 false (.step 11 false (.step 12 true .nil))))) 6 (.step 0 false (.step 4 false (.step 7 false (.step 11 false (.step 12 true .nil))))))))))))) (fun w' => Below w7.heap.size w7.drew w') (by kernel_rfl) (by kernel_rfl) (by kernel_rfl) (by kernel_rfl) (Below.refl _ _) ?_
          refine tree_look _ _ rfl rfl (fun w' _ => BigFrame.run_move _ rfl w') ?_
          go_simp
          refine tree_look _ _ rfl rfl (fun w' _ => BigFrame.run_move _ rfl w') ?_
          go_simp
          refine tree_look _ (.slice (some ⟨blk, off, none⟩) k cap) rfl rfl (fun w' _ => (by go_simp; try (intro h; omega))) ?_
          go_simp
          refine tree_look _ (.agg #[.string s, .int .i64 x, .int .i64 y]) rfl rfl (fun w' hw' => (by obtain ⟨y0, y1, y2⟩ := HPX.out w' hw'; go_simp)) ?_
          go_simp
          refine tree_look _ _ rfl rfl (fun w' _ => BigFrame.run_move _ rfl w') ?_
          go_simp
          refine tree_look _ _ rfl rfl (fun w' _ => BigFrame.run_move _ rfl w') ?_
          go_simp
          refine tree_look _ (.slice (some ⟨blk, off + k * 3, none⟩) 0 (cap - k)) rfl rfl (fun w' _ => (by go_simp)) ?_
          go_simp
          refine wpMT_fork ?_ ?_
          · have r1 : (w7.drew.alloc (.cells #[] 38)).ownsRow w7.heap.size 38 3 (.slice (some ⟨w7.heap.size, 0, none⟩) 0 0) 0 [] := by simpa using World.ownsRow_made w7.drew (base := w7.heap.size) (e := 38) (size := 3) #[] 0 (by simp) (Nat.zero_le _) rfl
            have hb1 : Below w7.heap.size w7.drew (w7.drew.alloc (.cells #[] 38)) := (Below.refl w7.heap.size w7.drew).alloc (by simp) _
            refine tree_value _ (.slice (some ⟨w7.heap.size, 0, none⟩) 0 0) (w7.drew.alloc (.cells #[] 38)) rfl rfl (by go_simp) hb1 ?_
            go_simp
            refine wpMT_fork ?_ ?_
            · obtain ⟨v2, w2, q2, r2, g2, _⟩ := run_append_own (P := Tryz.prog) (w7.drew.alloc (.cells #[] 38)) w7.heap.size 27 27 38 ii (.agg #[.string ⟨#[]⟩, .int .i64 0, .int .i64 0]) 3 32 Tryz.underlying27 hii iz0 iz1 iz2 rfl (by decide) _ _ _ r1 ⟨blk, off, none⟩ k cap (rowL (siiC c a b) 3 k) (rowL_len _ _ _) (hct.out (w7.drew.alloc (.cells #[] 38)) hb1) (fun u hu => per_one hu) (by unfold maxLen; omega) (by omega) (by have := hb1.size; simp at this ⊢; try omega)
              have hb2 : Below w7.heap.size w7.drew w2 := hb1.grown g2 (by have := hb1.size; simp at this ⊢; try omega) (fun z hz => (r1.lt z hz).1)
              refine tree_value _ v2 w2 rfl rfl (run_op_append _ _ 27 rfl rfl rfl q2) hb2 ?_
              simp only [Nat.zero_add, List.nil_append] at r2
              obtain ⟨A2, c2, rfl⟩ := row_form r2
              go_simp
              refine wpMT_eff ?_
              have hb3 : Below w7.heap.size w7.drew (w2.alloc (.cells #[.string s, .int .i64 x, .int .i64 y] 38)) := hb2.alloc (by have := hb2.size; simp at this ⊢; try omega) _
              refine tree_value _ (.slice (some ⟨w2.heap.size, 0, none⟩) 1 1) (w2.alloc (.cells #[.string s, .int .i64 x, .int .i64 y] 38)) rfl rfl (by go_simp) hb3 ?_
              go_simp
              have d3 : ∀ j u, ([.string s, .int .i64 x, .int .i64 y] : List Value)[j]? = some u → (w2.alloc (.cells #[.string s, .int .i64 x, .int .i64 y] 38)).cell? ((⟨w2.heap.size, 0, none⟩ : Addr).add j) = some u := fun j u hu => by
                match j, hu with
                | 0, hu => simp at hu; subst hu; simp [go_sem, Addr.add]
                | 1, hu => simp at hu; subst hu; simp [go_sem, Addr.add]
                | 2, hu => simp at hu; subst hu; simp [go_sem, Addr.add]
              have r3 := r2.alloc (.cells #[.string s, .int .i64 x, .int .i64 y] 38)
              refine wpMT_eff ?_
              obtain ⟨v4, w4, q4, r4, g4, _⟩ := run_append_own (P := Tryz.prog) (w2.alloc (.cells #[.string s, .int .i64 x, .int .i64 y] 38)) w7.heap.size 27 27 38 ii (.agg #[.string ⟨#[]⟩, .int .i64 0, .int .i64 0]) 3 32 Tryz.underlying27 hii iz0 iz1 iz2 rfl (by decide) _ _ _ r3 ⟨w2.heap.size, 0, none⟩ 1 1 [.string s, .int .i64 x, .int .i64 y] rfl d3 three_one (by unfold maxLen; omega) (by omega) (by have := hb3.size; simp at this ⊢; try omega)
              have hb4 : Below w7.heap.size w7.drew w4 := hb3.grown g4 (by have := hb3.size; simp at this ⊢; try omega) (fun z hz => (r3.lt z hz).1)
              refine tree_value _ v4 w4 rfl rfl (run_op_append _ _ 27 rfl rfl rfl q4) hb4 ?_
              obtain ⟨A4, c4, rfl⟩ := row_form r4
              go_simp
              refine wpMT_eff ?_
              obtain ⟨v5, w5, q5, r5, g5, _⟩ := run_append_own (P := Tryz.prog) w4 w7.heap.size 27 27 38 ii (.agg #[.string ⟨#[]⟩, .int .i64 0, .int .i64 0]) 3 32 Tryz.underlying27 hii iz0 iz1 iz2 rfl (by decide) _ _ _ r4 ⟨blk, off + k * 3, none⟩ 0 (cap - k) (rowL (siiC (fun i => c (k + i)) (fun i => a (k + i)) (fun i => b (k + i))) 3 0) (rowL_len _ _ _) (hcd.out w4 hb4) (fun u hu => per_one hu) (by unfold maxLen; omega) (by omega) (by have := hb4.size; simp at this ⊢; try omega)
              have hb5 : Below w7.heap.size w7.drew w5 := hb4.grown g5 (by have := hb4.size; simp at this ⊢; try omega) (fun z hz => (r4.lt z hz).1)
              refine tree_value _ v5 w5 rfl rfl (run_op_append _ _ 27 rfl rfl rfl q5) hb5 ?_
              rw [Nat.add_zero, HRA.out] at r5
              obtain ⟨A5, c5, rfl⟩ := row_form r5
              go_simp
              refine tree_look _ _ rfl rfl (fun w' _ => BigFrame.run_assign _ rfl w') ?_
              go_simp
              refine wpMT_nil ?_
              go_wp2_with fail
              have hz5 := hb5.size
              (try (simp at hz5))
              refine (rfGood_any (adS c k s) (adI a k x) (adI b k y) (k + 1) _ _ _ _ (own_row r5).sl (Nat.le_refl _) HFT.out).mono ?_
              rintro e w6 ⟨rfl, hb6⟩
              have hz6 := hb6.size
              cases e6 : pdB (adS c k s) (adI a k x) (adI b k y) (k + 1) with
              | false =>
                have HX : Hid (adOk c a b k s x y = false) := by show _ = _; rw [adOk, HK.out, e6]; simp
                go_wp2_with fail
                go_ret2
                rw [HX.out]
                exact ad_nil HX.out ((hbw7.trans (((Below.drew (Below.refl w7.heap.size w7)).trans hb5).mono (by omega))).trans (hb6.mono (by omega)))
              | true =>
                have HX : Hid (adOk c a b k s x y = true) := by show _ = _; rw [adOk, adF, HK.out, e6, HP.out, HQ.out]; rfl
                go_wp2_with fail
                go_ret2
                rw [HX.out]
                exact ad_row HK.out HX.out (row_below r5 hb6 (Nat.le_refl _)) (by omega) ((hbw7.trans (((Below.drew (Below.refl w7.heap.size w7)).trans hb5).mono (by omega))).trans (hb6.mono (by omega)))
            · have hb2 : Below w7.heap.size w7.drew ((w7.drew.alloc (.cells #[] 38)).alloc (.cells #[.string s, .int .i64 x, .int .i64 y] 38)) := hb1.alloc (by have := hb1.size; simp at this ⊢; try omega) _
              refine tree_value _ (.slice (some ⟨w7.heap.size + 1, 0, none⟩) 1 1) ((w7.drew.alloc (.cells #[] 38)).alloc (.cells #[.string s, .int .i64 x, .int .i64 y] 38)) rfl rfl (by go_simp) hb2 ?_
              go_simp
              have d2 : ∀ j u, ([.string s, .int .i64 x, .int .i64 y] : List Value)[j]? = some u → ((w7.drew.alloc (.cells #[] 38)).alloc (.cells #[.string s, .int .i64 x, .int .i64 y] 38)).cell? ((⟨w7.heap.size + 1, 0, none⟩ : Addr).add j) = some u := fun j u hu => by
                match j, hu with
                | 0, hu => simp at hu; subst hu; simp [go_sem, Addr.add]
                | 1, hu => simp at hu; subst hu; simp [go_sem, Addr.add]
                | 2, hu => simp at hu; subst hu; simp [go_sem, Addr.add]
              have r2 := r1.alloc (.cells #[.string s, .int .i64 x, .int .i64 y] 38)
              refine wpMT_eff ?_
              obtain ⟨v3, w3, q3, r3, g3, _⟩ := run_append_own (P := Tryz.prog) ((w7.drew.alloc (.cells #[] 38)).alloc (.cells #[.string s, .int .i64 x, .int .i64 y] 38)) w7.heap.size 27 27 38 ii (.agg #[.string ⟨#[]⟩, .int .i64 0, .int .i64 0]) 3 32 Tryz.underlying27 hii iz0 iz1 iz2 rfl (by decide) _ _ _ r2 ⟨blk, off, none⟩ k cap (rowL (siiC c a b) 3 k) (rowL_len _ _ _) (hct.out ((w7.drew.alloc (.cells #[] 38)).alloc (.cells #[.string s, .int .i64 x, .int .i64 y] 38)) hb2) (fun u hu => per_one hu) (by unfold maxLen; omega) (by omega) (by have := hb2.size; simp at this ⊢; try omega)
              have hb3 : Below w7.heap.size w7.drew w3 := hb2.grown g3 (by have := hb2.size; simp at this ⊢; try omega) (fun z hz => (r2.lt z hz).1)
              refine tree_value _ v3 w3 rfl rfl (run_op_append _ _ 27 rfl rfl rfl q3) hb3 ?_
              simp only [Nat.zero_add, List.nil_append] at r3
              obtain ⟨A3, c3, rfl⟩ := row_form r3
              go_simp
              have d3 : ∀ j u, ([.string s, .int .i64 x, .int .i64 y] : List Value)[j]? = some u → w3.cell? ((⟨w7.heap.size + 1, 0, none⟩ : Addr).add j) = some u := fun j u hu => g3.cell (d2 j u hu) (by rw [Addr.add_lit]; simp [Value.ownBlock]; try omega)
              refine wpMT_eff ?_
              obtain ⟨v4, w4, q4, r4, g4, _⟩ := run_append_own (P := Tryz.prog) w3 w7.heap.size 27 27 38 ii (.agg #[.string ⟨#[]⟩, .int .i64 0, .int .i64 0]) 3 32 Tryz.underlying27 hii iz0 iz1 iz2 rfl (by decide) _ _ _ r3 ⟨w7.heap.size + 1, 0, none⟩ 1 1 [.string s, .int .i64 x, .int .i64 y] rfl d3 three_one (by unfold maxLen; omega) (by omega) (by have := hb3.size; simp at this ⊢; try omega)
              have hb4 : Below w7.heap.size w7.drew w4 := hb3.grown g4 (by have := hb3.size; simp at this ⊢; try omega) (fun z hz => (r3.lt z hz).1)
              refine tree_value _ v4 w4 rfl rfl (run_op_append _ _ 27 rfl rfl rfl q4) hb4 ?_
              obtain ⟨A4, c4, rfl⟩ := row_form r4
              go_simp
              refine wpMT_eff ?_
              obtain ⟨v5, w5, q5, r5, g5, _⟩ := run_append_own (P := Tryz.prog) w4 w7.heap.size 27 27 38 ii (.agg #[.string ⟨#[]⟩, .int .i64 0, .int .i64 0]) 3 32 Tryz.underlying27 hii iz0 iz1 iz2 rfl (by decide) _ _ _ r4 ⟨blk, off + k * 3, none⟩ 0 (cap - k) (rowL (siiC (fun i => c (k + i)) (fun i => a (k + i)) (fun i => b (k + i))) 3 0) (rowL_len _ _ _) (hcd.out w4 hb4) (fun u hu => per_one hu) (by unfold maxLen; omega) (by omega) (by have := hb4.size; simp at this ⊢; try omega)
              have hb5 : Below w7.heap.size w7.drew w5 := hb4.grown g5 (by have := hb4.size; simp at this ⊢; try omega) (fun z hz => (r4.lt z hz).1)
              refine tree_value _ v5 w5 rfl rfl (run_op_append _ _ 27 rfl rfl rfl q5) hb5 ?_
              rw [Nat.add_zero, HRA.out] at r5
              obtain ⟨A5, c5, rfl⟩ := row_form r5
              go_simp
              refine tree_look _ _ rfl rfl (fun w' _ => BigFrame.run_assign _ rfl w') ?_
              go_simp
              refine wpMT_nil ?_
              go_wp2_with fail
              have hz5 := hb5.size
              (try (simp at hz5))
              refine (rfGood_any (adS c k s) (adI a k x) (adI b k y) (k + 1) _ _ _ _ (own_row r5).sl (Nat.le_refl _) HFT.out).mono ?_
              rintro e w6 ⟨rfl, hb6⟩
              have hz6 := hb6.size
              cases e6 : pdB (adS c k s) (adI a k x) (adI b k y) (k + 1) with
              | false =>
                have HX : Hid (adOk c a b k s x y = false) := by show _ = _; rw [adOk, HK.out, e6]; simp
                go_wp2_with fail
                go_ret2
                rw [HX.out]
                exact ad_nil HX.out ((hbw7.trans (((Below.drew (Below.refl w7.heap.size w7)).trans hb5).mono (by omega))).trans (hb6.mono (by omega)))
              | true =>
                have HX : Hid (adOk c a b k s x y = true) := by show _ = _; rw [adOk, adF, HK.out, e6, HP.out, HQ.out]; rfl
                go_wp2_with fail
                go_ret2
                rw [HX.out]
                exact ad_row HK.out HX.out (row_below r5 hb6 (Nat.le_refl _)) (by omega) ((hbw7.trans (((Below.drew (Below.refl w7.heap.size w7)).trans hb5).mono (by omega))).trans (hb6.mono (by omega)))
          · have hb1 : Below w7.heap.size w7.drew (w7.drew.alloc (.cells #[.string s, .int .i64 x, .int .i64 y] 38)) := (Below.refl w7.heap.size w7.drew).alloc (by have := (Below.refl w7.heap.size w7.drew).size; simp at this ⊢; try omega) _
            refine tree_value _ (.slice (some ⟨w7.heap.size, 0, none⟩) 1 1) (w7.drew.alloc (.cells #[.string s, .int .i64 x, .int .i64 y] 38)) rfl rfl (by go_simp) hb1 ?_
            go_simp
            have d1 : ∀ j u, ([.string s, .int .i64 x, .int .i64 y] : List Value)[j]? = some u → (w7.drew.alloc (.cells #[.string s, .int .i64 x, .int .i64 y] 38)).cell? ((⟨w7.heap.size, 0, none⟩ : Addr).add j) = some u := fun j u hu => by
              match j, hu with
              | 0, hu => simp at hu; subst hu; simp [go_sem, Addr.add]
              | 1, hu => simp at hu; subst hu; simp [go_sem, Addr.add]
              | 2, hu => simp at hu; subst hu; simp [go_sem, Addr.add]
            refine wpMT_eff ?_
            have r2 : ((w7.drew.alloc (.cells #[.string s, .int .i64 x, .int .i64 y] 38)).alloc (.cells #[] 38)).ownsRow w7.heap.size 38 3 (.slice (some ⟨w7.heap.size + 1, 0, none⟩) 0 0) 0 [] := by simpa using World.ownsRow_made (w7.drew.alloc (.cells #[.string s, .int .i64 x, .int .i64 y] 38)) (base := w7.heap.size) (e := 38) (size := 3) #[] 0 (by simp) (Nat.zero_le _) rfl
            have hb2 : Below w7.heap.size w7.drew ((w7.drew.alloc (.cells #[.string s, .int .i64 x, .int .i64 y] 38)).alloc (.cells #[] 38)) := hb1.alloc (by simp) _
            refine tree_value _ (.slice (some ⟨w7.heap.size + 1, 0, none⟩) 0 0) ((w7.drew.alloc (.cells #[.string s, .int .i64 x, .int .i64 y] 38)).alloc (.cells #[] 38)) rfl rfl (by go_simp) hb2 ?_
            go_simp
            have d2 : ∀ j u, ([.string s, .int .i64 x, .int .i64 y] : List Value)[j]? = some u → ((w7.drew.alloc (.cells #[.string s, .int .i64 x, .int .i64 y] 38)).alloc (.cells #[] 38)).cell? ((⟨w7.heap.size, 0, none⟩ : Addr).add j) = some u := fun j u hu => (World.cell?_alloc_lt _ _ ((⟨w7.heap.size, 0, none⟩ : Addr).add j) (by rw [Addr.add_lit]; simp)).trans (d1 j u hu)
            refine wpMT_eff ?_
            obtain ⟨v3, w3, q3, r3, g3, _⟩ := run_append_own (P := Tryz.prog) ((w7.drew.alloc (.cells #[.string s, .int .i64 x, .int .i64 y] 38)).alloc (.cells #[] 38)) w7.heap.size 27 27 38 ii (.agg #[.string ⟨#[]⟩, .int .i64 0, .int .i64 0]) 3 32 Tryz.underlying27 hii iz0 iz1 iz2 rfl (by decide) _ _ _ r2 ⟨blk, off, none⟩ k cap (rowL (siiC c a b) 3 k) (rowL_len _ _ _) (hct.out ((w7.drew.alloc (.cells #[.string s, .int .i64 x, .int .i64 y] 38)).alloc (.cells #[] 38)) hb2) (fun u hu => per_one hu) (by unfold maxLen; omega) (by omega) (by have := hb2.size; simp at this ⊢; try omega)
            have hb3 : Below w7.heap.size w7.drew w3 := hb2.grown g3 (by have := hb2.size; simp at this ⊢; try omega) (fun z hz => (r2.lt z hz).1)
            refine tree_value _ v3 w3 rfl rfl (run_op_append _ _ 27 rfl rfl rfl q3) hb3 ?_
            simp only [Nat.zero_add, List.nil_append] at r3
            obtain ⟨A3, c3, rfl⟩ := row_form r3
            go_simp
            have d3 : ∀ j u, ([.string s, .int .i64 x, .int .i64 y] : List Value)[j]? = some u → w3.cell? ((⟨w7.heap.size, 0, none⟩ : Addr).add j) = some u := fun j u hu => g3.cell (d2 j u hu) (by rw [Addr.add_lit]; simp [Value.ownBlock]; try omega)
            refine wpMT_eff ?_
            obtain ⟨v4, w4, q4, r4, g4, _⟩ := run_append_own (P := Tryz.prog) w3 w7.heap.size 27 27 38 ii (.agg #[.string ⟨#[]⟩, .int .i64 0, .int .i64 0]) 3 32 Tryz.underlying27 hii iz0 iz1 iz2 rfl (by decide) _ _ _ r3 ⟨w7.heap.size, 0, none⟩ 1 1 [.string s, .int .i64 x, .int .i64 y] rfl d3 three_one (by unfold maxLen; omega) (by omega) (by have := hb3.size; simp at this ⊢; try omega)
            have hb4 : Below w7.heap.size w7.drew w4 := hb3.grown g4 (by have := hb3.size; simp at this ⊢; try omega) (fun z hz => (r3.lt z hz).1)
            refine tree_value _ v4 w4 rfl rfl (run_op_append _ _ 27 rfl rfl rfl q4) hb4 ?_
            obtain ⟨A4, c4, rfl⟩ := row_form r4
            go_simp
            refine wpMT_eff ?_
            obtain ⟨v5, w5, q5, r5, g5, _⟩ := run_append_own (P := Tryz.prog) w4 w7.heap.size 27 27 38 ii (.agg #[.string ⟨#[]⟩, .int .i64 0, .int .i64 0]) 3 32 Tryz.underlying27 hii iz0 iz1 iz2 rfl (by decide) _ _ _ r4 ⟨blk, off + k * 3, none⟩ 0 (cap - k) (rowL (siiC (fun i => c (k + i)) (fun i => a (k + i)) (fun i => b (k + i))) 3 0) (rowL_len _ _ _) (hcd.out w4 hb4) (fun u hu => per_one hu) (by unfold maxLen; omega) (by omega) (by have := hb4.size; simp at this ⊢; try omega)
            have hb5 : Below w7.heap.size w7.drew w5 := hb4.grown g5 (by have := hb4.size; simp at this ⊢; try omega) (fun z hz => (r4.lt z hz).1)
            refine tree_value _ v5 w5 rfl rfl (run_op_append _ _ 27 rfl rfl rfl q5) hb5 ?_
            rw [Nat.add_zero, HRA.out] at r5
            obtain ⟨A5, c5, rfl⟩ := row_form r5
            go_simp
            refine tree_look _ _ rfl rfl (fun w' _ => BigFrame.run_assign _ rfl w') ?_
            go_simp
            refine wpMT_nil ?_
            go_wp2_with fail
            have hz5 := hb5.size
            (try (simp at hz5))
            refine (rfGood_any (adS c k s) (adI a k x) (adI b k y) (k + 1) _ _ _ _ (own_row r5).sl (Nat.le_refl _) HFT.out).mono ?_
            rintro e w6 ⟨rfl, hb6⟩
            have hz6 := hb6.size
            cases e6 : pdB (adS c k s) (adI a k x) (adI b k y) (k + 1) with
            | false =>
              have HX : Hid (adOk c a b k s x y = false) := by show _ = _; rw [adOk, HK.out, e6]; simp
              go_wp2_with fail
              go_ret2
              rw [HX.out]
              exact ad_nil HX.out ((hbw7.trans (((Below.drew (Below.refl w7.heap.size w7)).trans hb5).mono (by omega))).trans (hb6.mono (by omega)))
            | true =>
              have HX : Hid (adOk c a b k s x y = true) := by show _ = _; rw [adOk, adF, HK.out, e6, HP.out, HQ.out]; rfl
              go_wp2_with fail
              go_ret2
              rw [HX.out]
              exact ad_row HK.out HX.out (row_below r5 hb6 (Nat.le_refl _)) (by omega) ((hbw7.trans (((Below.drew (Below.refl w7.heap.size w7)).trans hb5).mono (by omega))).trans (hb6.mono (by omega)))

end Go.Proofs.YtnmmkechkcfjnaaGreatDoor
