/-
  Walks: copies of a team, of a board, that share no memory.
-/
import Derived.Test.YtpakjmiallhgnaaPRow
import Derived.Test.YtpakjmiallhgnaaWOwn
import Derived.Lib.SliceRun
namespace Go.Proofs.Ytpakjmiallhgnaa
set_option linter.unusedVariables false
set_option linter.unusedSimpArgs false
open Go.RowKit

theorem infoChk : (Try.prog.info? 47).map (fun i => (i.zero, i.size, i.bytes)) = some (some (.agg #[.int .i64 0, .int .i64 0]), 2, 16) := by kernel_rfl
theorem chk_one {m b : Nat → Int} {n : Nat} {u : Value} (h : u ∈ rowL (iiC m b) 2 n) : u.oneCell' = true := by
  obtain ⟨i, j, _, hj, rfl⟩ := rowL_mem h
  match j, hj with
  | 0, _ => rfl
  | 1, _ => rfl
set_option maxRecDepth 100000 in
set_option maxHeartbeats 1600000 in
theorem CloneCheck_any (m b : Nat → Int) (n lo hi : Nat) (v : Value) (w : World) (hv : Sl w lo hi 2 v n (iiC m b)) (hhi : hi ≤ w.heap.size) (hn : 0 < n) (hn' : n ≤ 1048576) :
    Calls Try.prog 135 #[v] w fun e w' => ∃ v', e = .returned v' ∧ Own w' w.heap.size w'.heap.size 47 2 v' n n (iiC m b) ∧ Below w.heap.size w w' := by
  obtain ⟨A, cap, rfl, hcap, hA⟩ := hv.open_
  obtain ⟨blk, off, rfl, h1, h2, h3⟩ := hA hn
  obtain ⟨ii, hii, iz0, iz1, iz2⟩ := info_parts infoChk
  have HV := hide hv
  clear hA h3 hv
  have hq : ∀ w, Sem.run Try.prog (binOp .eql 38 (.slice (some ⟨blk, off, none⟩) n cap) (.slice none 0 0)) w = .ok (.bool false) w := fun w => Lib.run_eql_slice_nil w _ 47 _ _ _ _ _ Try.underlying38
  go_enter Try.func135, Try.ntmps135
  go_wp2_with (at_builtin; refine wpList_append_own _ rfl _ _ 38 rfl w.heap.size 47 ii (.agg #[.int .i64 0, .int .i64 0]) 2 16 Try.underlying38 hii iz0 iz1 iz2 rfl (by decide) (.slice (some ⟨w.heap.size, 0, none⟩) 0 0) 0 [] rfl (World.ownsRow_made w #[] 0 (Nat.le_refl _) (Nat.zero_le _) rfl) ⟨blk, off, none⟩ n cap (rowL (iiC m b) 2 n) rfl (rowL_len _ _ _) ?_ (fun u hu => chk_one hu) ?_ ?_ ?_ ?_)
  · exact (HV.out.below (B := w.heap.size) (by repeat (first | (with_reducible exact Below.refl _ _) | (with_reducible refine below_ov ?_ ?_) | (with_reducible refine Below.setCell ?_ ?_ _) | (with_reducible refine Below.alloc ?_ ?_ _) | (with_reducible refine Below.drew ?_) | (with_reducible refine below_drewN ?_ _) | (refine Below.trans ?_ (Below.mono ‹Below _ _ _› (by first | omega | (simp; done) | (simp; omega)))) | exact Below.refl _ _ | omega | (focus (simp; done)) | (focus (simp; omega)))) hhi).news
  · unfold maxLen; omega
  · omega
  · simp
  intro v' w1 hown hg _
  have hb1 : Below w.heap.size w w1 := ((Below.refl _ _).alloc (Nat.le_refl _) _).grown hg (by simp) (fun k h => by simp [Value.ownBlock] at h; omega)
  (try simp only [Nat.zero_add, List.nil_append] at hown)
  obtain ⟨B, cp, rfl⟩ := row_form hown
  have HO := hide hown
  clear hown hg
  go_wp2_with fail
  go_ret
  exact ⟨_, rfl, own_row HO.out, hb1⟩
set_option maxRecDepth 100000 in
set_option maxHeartbeats 1600000 in
theorem copyTeam_any (T : Tm) (lo hi : Nat) (vc : Value) (w : World) (hs : Sl w lo hi 2 vc T.n (iiC T.m T.b)) (hhi : hi ≤ w.heap.size) (hn : 0 < T.n) (hf : T.fits) :
    Calls Try.prog 108 #[.agg #[.string T.s, .int .i64 T.v, .int .i64 T.y, vc]] w fun e w' => ∃ u, e = .returned (.agg #[.string T.s, .int .i64 T.v, .int .i64 T.y, u]) ∧ Own w' w.heap.size w'.heap.size 47 2 u T.n T.n (iiC T.m T.b) ∧ w.heap.size < w'.heap.size ∧ Below w.heap.size w w' := by
  obtain ⟨A, cap, rfl, hcap, _⟩ := hs.open_
  go_enter Try.func108, Try.ntmps108
  go_wp2_with fail
  refine (CloneCheck_any T.m T.b T.n lo hi _ _ (hs.below (B := w.heap.size) (by repeat (first | (with_reducible exact Below.refl _ _) | (with_reducible refine below_ov ?_ ?_) | (with_reducible refine Below.setCell ?_ ?_ _) | (with_reducible refine Below.alloc ?_ ?_ _) | (with_reducible refine Below.drew ?_) | (with_reducible refine below_drewN ?_ _) | (refine Below.trans ?_ (Below.mono ‹Below _ _ _› (by first | omega | (simp; done) | (simp; omega)))) | exact Below.refl _ _ | omega | (focus (simp; done)) | (focus (simp; omega)))) hhi) (by first | omega | (simp; done) | (simp; omega)) hn hf.2).mono ?_
  rintro e w1 ⟨u1, rfl, ho1, hb1⟩
  have hz1 := hb1.size
  simp at hz1
  obtain ⟨A1, k1, rfl, hk1, _⟩ := ho1.sl.open_
  obtain ⟨hcw1, hfw1⟩ := bcell hb1
  have o0 : w1.cell? ⟨w.heap.size, 0, none⟩ = some (.string T.s) := (hb1.cell (p := ⟨w.heap.size, 0, none⟩) (by simp <;> omega)).trans ((World.cell?_alloc_lt _ _ _ (by simp)).trans (World.cell?_alloc_new _ _ _ _))
  have o1 : w1.cell? ⟨w.heap.size, 1, none⟩ = some (.int .i64 T.v) := (hb1.cell (p := ⟨w.heap.size, 1, none⟩) (by simp <;> omega)).trans ((World.cell?_alloc_lt _ _ _ (by simp)).trans (World.cell?_alloc_new _ _ _ _))
  have o2 : w1.cell? ⟨w.heap.size, 2, none⟩ = some (.int .i64 T.y) := (hb1.cell (p := ⟨w.heap.size, 2, none⟩) (by simp <;> omega)).trans ((World.cell?_alloc_lt _ _ _ (by simp)).trans (World.cell?_alloc_new _ _ _ _))
  have o3 : w1.cell? ⟨w.heap.size, 3, none⟩ = some (.slice A T.n cap) := (hb1.cell (p := ⟨w.heap.size, 3, none⟩) (by simp <;> omega)).trans ((World.cell?_alloc_lt _ _ _ (by simp)).trans (World.cell?_alloc_new _ _ _ _))
  have r0 : w1.cell? ⟨w.heap.size + 1, 0, none⟩ = some (.string ⟨#[]⟩) := (hb1.cell (p := ⟨w.heap.size + 1, 0, none⟩) (by simp <;> omega)).trans (World.cell?_alloc_at _ _ _ _ (by simp))
  have r1 : w1.cell? ⟨w.heap.size + 1, 1, none⟩ = some (.int .i64 0) := (hb1.cell (p := ⟨w.heap.size + 1, 1, none⟩) (by simp <;> omega)).trans (World.cell?_alloc_at _ _ _ _ (by simp))
  have r2 : w1.cell? ⟨w.heap.size + 1, 2, none⟩ = some (.int .i64 0) := (hb1.cell (p := ⟨w.heap.size + 1, 2, none⟩) (by simp <;> omega)).trans (World.cell?_alloc_at _ _ _ _ (by simp))
  have r3 : w1.cell? ⟨w.heap.size + 1, 3, none⟩ = some (.slice none 0 0) := (hb1.cell (p := ⟨w.heap.size + 1, 3, none⟩) (by simp <;> omega)).trans (World.cell?_alloc_at _ _ _ _ (by simp))
  have q1 : ∀ o, w1.frozen? ⟨w.heap.size, o, none⟩ = false := fun o => (hfw1 _ _ (by first | omega | (simp; done) | (simp; omega))).trans (by simp [go_sem])
  have q2 : ∀ o, w1.frozen? ⟨w.heap.size + 1, o, none⟩ = false := fun o => (hfw1 _ _ (by first | omega | (simp; done) | (simp; omega))).trans (by simp [go_sem])
  clear hcw1 hfw1
  have HO := hide ho1
  clear ho1
  go_wp2_with fail
  refine bodyPost_ret (v := .agg #[.string T.s, .int .i64 T.v, .int .i64 T.y, .slice A1 T.n k1]) (by simp [results, Try.results108, go_sem, r0, r1, r2, r3, o0, o1, o2, o3]) rfl ⟨_, rfl, ?_, ?_, ?_⟩
  · refine Own.mono (lo := w.heap.size + 1 + 1) (hi := w1.heap.size) ?_ (by omega) (by simp [World.setCell])
    repeat (refine Own.aside ?_ (by simp; try omega) _)
    simpa using HO.out
  · simp [World.setCell]; omega
  · exact (by repeat (first | (with_reducible exact Below.refl _ _) | (with_reducible refine below_ov ?_ ?_) | (with_reducible refine Below.setCell ?_ ?_ _) | (with_reducible refine Below.alloc ?_ ?_ _) | (with_reducible refine Below.drew ?_) | (with_reducible refine below_drewN ?_ _) | (refine Below.trans ?_ (Below.mono ‹Below _ _ _› (by first | omega | (simp; done) | (simp; omega)))) | exact Below.refl _ _ | omega | (focus (simp; done)) | (focus (simp; omega))))
set_option maxRecDepth 100000 in
set_option maxHeartbeats 1600000 in
theorem enOwn_any (T : Tm) (lo hi : Nat) (vc : Value) (w : World) (hs : Sl w lo hi 2 vc T.n (iiC T.m T.b)) (hhi : hi ≤ w.heap.size) (hn : 0 < T.n) (hf : T.fits) :
    Calls Try.prog 102 #[.agg #[.string T.s, .int .i64 T.v, .int .i64 T.y, vc]] w fun e w' => ∃ u, e = .returned (.agg #[.string T.s, .int .i64 T.v, .int .i64 T.y, u]) ∧ Own w' w.heap.size w'.heap.size 47 2 u T.n T.n (iiC T.m T.b) ∧ w.heap.size < w'.heap.size ∧ Below w.heap.size w w' := by
  obtain ⟨A, cap, rfl, hcap, hA⟩ := hs.open_
  obtain ⟨blk, off, rfl, h1, h2, _⟩ := hA hn
  have HV := hide hs
  clear hA hs
  go_enter Try.func102, Try.ntmps102
  obtain ⟨ii, hii, iz0, iz1, iz2⟩ := info_parts infoChk
  have ht : T.n ≤ 1048576 := hf.2
  go_wp2_with (at_builtin; refine wpList_append_own _ rfl _ _ 38 rfl (w.heap.size + 1 + 1) 47 ii (.agg #[.int .i64 0, .int .i64 0]) 2 16 Try.underlying38 hii iz0 iz1 iz2 rfl (by decide) (.slice (some ⟨w.heap.size + 1 + 1, 0, none⟩) 0 0) 0 [] (by simp [Act.eval]) (by simpa using World.ownsRow_made ((w.alloc (.cells #[.string T.s, .int .i64 T.v, .int .i64 T.y, .slice (some ⟨blk, off, none⟩) T.n cap] 40)).alloc (.cells #[.string ⟨#[]⟩, .int .i64 0, .int .i64 0, .slice none 0 0] 40)) (base := w.heap.size + 1 + 1) (e := 47) (size := 2) #[] 0 (by simp) (Nat.zero_le _) rfl) ⟨blk, off, none⟩ T.n cap (rowL (iiC T.m T.b) 2 T.n) rfl (rowL_len _ _ _) ?_ (fun u hu => chk_one hu) ?_ ?_ ?_ ?_)
  · exact (HV.out.below (B := w.heap.size) (by repeat (first | (with_reducible exact Below.refl _ _) | (with_reducible refine below_ov ?_ ?_) | (with_reducible refine Below.setCell ?_ ?_ _) | (with_reducible refine Below.alloc ?_ ?_ _) | (with_reducible refine Below.drew ?_) | (with_reducible refine below_drewN ?_ _) | (refine Below.trans ?_ (Below.mono ‹Below _ _ _› (by first | omega | (simp; done) | (simp; omega)))) | exact Below.refl _ _ | omega | (focus (simp; done)) | (focus (simp; omega)))) hhi).news
  · unfold maxLen; omega
  · omega
  · simp
  intro v' w1 hown hg _
  have hb1 : Below (w.heap.size + 1 + 1) ((w.alloc (.cells #[.string T.s, .int .i64 T.v, .int .i64 T.y, .slice (some ⟨blk, off, none⟩) T.n cap] 40)).alloc (.cells #[.string ⟨#[]⟩, .int .i64 0, .int .i64 0, .slice none 0 0] 40)) w1 := ((Below.refl _ _).alloc (by simp) _).grown hg (by simp) (fun k h => by simp [Value.ownBlock] at h; omega)
  have hz1 := hb1.size
  simp at hz1
  (try simp only [Nat.zero_add, List.nil_append] at hown)
  obtain ⟨A1, k1, rfl⟩ := row_form hown
  have HO := hide (own_row hown)
  have hcw1 : ∀ b o, b < w.heap.size + 1 + 1 → w1.cell? ⟨b, o, none⟩ = ((w.alloc (.cells #[.string T.s, .int .i64 T.v, .int .i64 T.y, .slice (some ⟨blk, off, none⟩) T.n cap] 40)).alloc (.cells #[.string ⟨#[]⟩, .int .i64 0, .int .i64 0, .slice none 0 0] 40)).cell? ⟨b, o, none⟩ := fun b o h => hb1.cell (p := ⟨b, o, none⟩) h
  have hfw1 : ∀ b o, b < w.heap.size + 1 + 1 → w1.frozen? ⟨b, o, none⟩ = ((w.alloc (.cells #[.string T.s, .int .i64 T.v, .int .i64 T.y, .slice (some ⟨blk, off, none⟩) T.n cap] 40)).alloc (.cells #[.string ⟨#[]⟩, .int .i64 0, .int .i64 0, .slice none 0 0] 40)).frozen? ⟨b, o, none⟩ := fun b o h => hb1.frozen (p := ⟨b, o, none⟩) h
  clear hown hg
  have o0 : w1.cell? ⟨w.heap.size, 0, none⟩ = some (.string T.s) := (hb1.cell (p := ⟨w.heap.size, 0, none⟩) (by simp <;> omega)).trans ((World.cell?_alloc_lt _ _ _ (by simp)).trans (World.cell?_alloc_new _ _ _ _))
  have o1 : w1.cell? ⟨w.heap.size, 1, none⟩ = some (.int .i64 T.v) := (hb1.cell (p := ⟨w.heap.size, 1, none⟩) (by simp <;> omega)).trans ((World.cell?_alloc_lt _ _ _ (by simp)).trans (World.cell?_alloc_new _ _ _ _))
  have o2 : w1.cell? ⟨w.heap.size, 2, none⟩ = some (.int .i64 T.y) := (hb1.cell (p := ⟨w.heap.size, 2, none⟩) (by simp <;> omega)).trans ((World.cell?_alloc_lt _ _ _ (by simp)).trans (World.cell?_alloc_new _ _ _ _))
  have o3 : w1.cell? ⟨w.heap.size, 3, none⟩ = some (.slice (some ⟨blk, off, none⟩) T.n cap) := (hb1.cell (p := ⟨w.heap.size, 3, none⟩) (by simp <;> omega)).trans ((World.cell?_alloc_lt _ _ _ (by simp)).trans (World.cell?_alloc_new _ _ _ _))
  have r0 : w1.cell? ⟨w.heap.size + 1, 0, none⟩ = some (.string ⟨#[]⟩) := (hb1.cell (p := ⟨w.heap.size + 1, 0, none⟩) (by simp <;> omega)).trans (World.cell?_alloc_at _ _ _ _ (by simp))
  have r1 : w1.cell? ⟨w.heap.size + 1, 1, none⟩ = some (.int .i64 0) := (hb1.cell (p := ⟨w.heap.size + 1, 1, none⟩) (by simp <;> omega)).trans (World.cell?_alloc_at _ _ _ _ (by simp))
  have r2 : w1.cell? ⟨w.heap.size + 1, 2, none⟩ = some (.int .i64 0) := (hb1.cell (p := ⟨w.heap.size + 1, 2, none⟩) (by simp <;> omega)).trans (World.cell?_alloc_at _ _ _ _ (by simp))
  have r3 : w1.cell? ⟨w.heap.size + 1, 3, none⟩ = some (.slice none 0 0) := (hb1.cell (p := ⟨w.heap.size + 1, 3, none⟩) (by simp <;> omega)).trans (World.cell?_alloc_at _ _ _ _ (by simp))
  have q1 : ∀ o, w1.frozen? ⟨w.heap.size, o, none⟩ = false := fun o => (hfw1 _ _ (by first | omega | (simp; done) | (simp; omega))).trans (by simp [go_sem])
  have q2 : ∀ o, w1.frozen? ⟨w.heap.size + 1, o, none⟩ = false := fun o => (hfw1 _ _ (by first | omega | (simp; done) | (simp; omega))).trans (by simp [go_sem])
  clear hcw1 hfw1
  go_wp2_with fail
  refine bodyPost_ret (v := .agg #[.string T.s, .int .i64 T.v, .int .i64 T.y, .slice A1 T.n k1]) (by simp [results, Try.results102, go_sem, r0, r1, r2, r3, o0, o1, o2, o3]) rfl ⟨_, rfl, ?_, ?_, ?_⟩
  · refine Own.mono (lo := w.heap.size + 1 + 1) (hi := w1.heap.size) ?_ (by omega) (by simp [World.setCell])
    repeat (refine Own.aside ?_ (by simp; try omega) _)
    simpa using HO.out
  · simp [World.setCell]; omega
  · exact (by repeat (first | (with_reducible exact Below.refl _ _) | (with_reducible refine below_ov ?_ ?_) | (with_reducible refine Below.setCell ?_ ?_ _) | (with_reducible refine Below.alloc ?_ ?_ _) | (with_reducible refine Below.drew ?_) | (with_reducible refine below_drewN ?_ _) | (refine Below.trans ?_ (Below.mono ‹Below _ _ _› (by first | omega | (simp; done) | (simp; omega)))) | exact Below.refl _ _ | omega | (focus (simp; done)) | (focus (simp; omega))))

end Go.Proofs.Ytpakjmiallhgnaa
