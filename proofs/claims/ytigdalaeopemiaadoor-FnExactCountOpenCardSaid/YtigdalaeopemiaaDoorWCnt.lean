/-
  Walks: CountOpen: the reference's and the program's.
-/
import Derived.Test.YtigdalaeopemiaaDoorWFlr2
import Derived.Test.YtigdalaeopemiaaDoorPCnt
import Derived.Shelf.Lay
import Derived.Shelf.Strings.OnBuilder
import Derived.Shelf.Strings.Count
namespace Go.Proofs
open Go.RowKit Go.Shelf
shelf_lay Lays.n156 Nm 156 at Tryd as YtigdalaeopemiaaDoor.laysJoin
shelf_lay Lays.n138 Nm 138 at Tryd as YtigdalaeopemiaaDoor.laysCount
theorem YtigdalaeopemiaaDoor.extraJoin : Builder.Extra Tryd.prog YtigdalaeopemiaaDoor.laysJoin_ren where
  sizeBuilder := by kernel_rfl
  liesBuilder := by kernel_rfl
  t5 := Tryd.underlying5
  a5 := Tryd.isAgg5
  z5 := Tryd.sizeOf5
  v5 := Tryd.zeroValue5
  infoByte := by kernel_rfl
  cellsByte := by kernel_rfl
  sizeByte := by kernel_rfl
  neB5 := by decide
end Go.Proofs
namespace Go.Proofs.YtigdalaeopemiaaDoor
set_option linter.unusedVariables false
set_option linter.unusedSimpArgs false
open Go.RowKit Go.Shelf

def coR (F : Nat → ByteArray) (n : Nat) : Nat := if flB F n = true then cntO F n else 0
theorem Join_floor (F : Nat → ByteArray) (n cap blk off : Nat) (w : World) (hc : ∀ i, i < n → w.cell? ⟨blk, off + i, none⟩ = some (.string (F i))) (hblk : blk < w.heap.size) (hcap : n ≤ cap) (hn : n ≤ 12) (hz : ∀ i, i < n → (F i).size ≤ 12) :
    Calls Tryd.prog 75 #[.slice (some ⟨blk, off, none⟩) n cap, .string ⟨#[]⟩] w fun e w' => (∃ s : ByteArray, e = .returned (.string s) ∧ Lib.countByte s.data.toList 46 = cntO F n) ∧ Below w.heap.size w w' := by
  have hl : ((List.range n).map F).length = n := by simp
  have h := Any.strings_Join YtigdalaeopemiaaDoor.laysJoin YtigdalaeopemiaaDoor.extraJoin blk off cap ((List.range n).map F) ⟨#[]⟩ w (fun j x hj => by
    rw [List.getElem?_map] at hj
    rcases Nat.lt_or_ge j n with h1 | h1
    · rw [List.getElem?_range h1] at hj
      cases hj
      exact hc j h1
    · rw [List.getElem?_eq_none (by simpa using h1)] at hj
      cases hj) hblk (by rw [hl]; omega) (by rw [hl]; exact hcap) (by
    have h1 := len_join hz n (Nat.le_refl _)
    have h2 : (Lib.join (((List.range n).map F).map (·.data.toList)) (⟨#[]⟩ : ByteArray).data.toList).length ≤ 12 * n := h1
    omega)
  rw [hl] at h
  refine h.mono fun e w' ⟨he, hb⟩ => ⟨⟨_, he, ?_⟩, hb⟩
  have h1 := cnt_join F n
  show List.count 46 (List.toArray _).toList = _
  rw [List.toList_toArray]
  exact h1
theorem Count_any (s : ByteArray) (w : World) :
    Calls Tryd.prog 74 #[.string s, .string ⟨#[46]⟩] w fun e w' => e = .returned (.int .i64 (Lib.countByte s.data.toList 46)) ∧ w' = w := Any.strings_Count_one YtigdalaeopemiaaDoor.laysCount s 46 w
set_option maxRecDepth 100000 in
set_option maxHeartbeats 1600000 in
theorem CountOpen_impl (F : Nat → ByteArray) (n lo hi : Nat) (v : Value) (w : World) (hv : Sl w lo hi 1 v n (sC F)) (hhi : hi ≤ w.heap.size) (hf : ffits F n) :
    Calls Tryd.prog 45 #[v] w fun e w' => e = .returned (.tuple #[.int .i64 (coR F n : Nat), .bool (flB F n)]) ∧ Below w.heap.size w w' := by
  obtain ⟨A, cap, rfl, hcap, hA⟩ := hv.open_
  cases e1 : flB F n with
  | false =>
    have HX : Hid (coR F n = 0) := by show _ = _; rw [coR, e1]; rfl
    go_enter Tryd.func45, Tryd.ntmps45
    go_wp2_with fail
    refine (isFloor_any F n lo hi _ _ (hv.below (B := w.heap.size) (by repeat (first | (with_reducible exact Below.refl _ _) | (with_reducible refine below_ov ?_ ?_) | (with_reducible refine Below.setCell ?_ ?_ _) | (with_reducible refine Below.alloc ?_ ?_ _) | (with_reducible refine Below.drew ?_) | (with_reducible refine below_drewN ?_ _) | (refine Below.trans ?_ (Below.mono ‹Below _ _ _› (by first | omega | (simp; done) | (simp; omega)))) | exact Below.refl _ _ | omega | (focus (simp; done)) | (focus (simp; omega)))) hhi) (by first | omega | (simp; done) | (simp; omega)) hf).mono ?_
    rintro e w1 ⟨rfl, hb1⟩
    have hz1 := hb1.size
    rw [e1]
    go_wp2_with fail
    go_ret2
    rw [HX.out]
    exact ⟨rfl, (by repeat (first | (with_reducible exact Below.refl _ _) | (with_reducible refine below_ov ?_ ?_) | (with_reducible refine Below.setCell ?_ ?_ _) | (with_reducible refine Below.alloc ?_ ?_ _) | (with_reducible refine Below.drew ?_) | (with_reducible refine below_drewN ?_ _) | (refine Below.trans ?_ (Below.mono ‹Below _ _ _› (by first | omega | (simp; done) | (simp; omega)))) | exact Below.refl _ _ | omega | (focus (simp; done)) | (focus (simp; omega))))⟩
  | true =>
    have HX : Hid (coR F n = cntO F n) := by show _ = _; rw [coR, e1]; rfl
    obtain ⟨g1, g2, g3, g4, g5, _⟩ := flB_facts e1
    obtain ⟨blk, off, rfl, h1, h2, h3⟩ := hA (by omega)
    have hz : Hid (∀ i, i < n → (F i).size ≤ 12) := fun i hi => by rw [g5 i hi]; exact g4
    have hck : Hid (∀ i, i < n → w.cell? ⟨blk, off + i, none⟩ = some (.string (F i))) := fun i hi => by
      have := h3 i 0 hi (by omega)
      simpa [sC] using this
    have lb : blk < w.heap.size := by omega
    clear g5 h3 hA
    go_enter Tryd.func45, Tryd.ntmps45
    go_wp2_with fail
    refine (isFloor_any F n lo hi _ _ (hv.below (B := w.heap.size) (by repeat (first | (with_reducible exact Below.refl _ _) | (with_reducible refine below_ov ?_ ?_) | (with_reducible refine Below.setCell ?_ ?_ _) | (with_reducible refine Below.alloc ?_ ?_ _) | (with_reducible refine Below.drew ?_) | (with_reducible refine below_drewN ?_ _) | (refine Below.trans ?_ (Below.mono ‹Below _ _ _› (by first | omega | (simp; done) | (simp; omega)))) | exact Below.refl _ _ | omega | (focus (simp; done)) | (focus (simp; omega)))) hhi) (by first | omega | (simp; done) | (simp; omega)) hf).mono ?_
    rintro e w1 ⟨rfl, hb1⟩
    have hz1 := hb1.size
    (try (simp at hz1))
    rw [e1]
    clear e1
    go_wp2_with fail
    refine (Join_floor F n cap blk off _ (fun i hi => (Below.cell (B := w.heap.size) (by repeat (first | (with_reducible exact Below.refl _ _) | (with_reducible refine below_ov ?_ ?_) | (with_reducible refine Below.setCell ?_ ?_ _) | (with_reducible refine Below.alloc ?_ ?_ _) | (with_reducible refine Below.drew ?_) | (with_reducible refine below_drewN ?_ _) | (refine Below.trans ?_ (Below.mono ‹Below _ _ _› (by first | omega | (simp; done) | (simp; omega)))) | exact Below.refl _ _ | omega | (focus (simp; done)) | (focus (simp; omega)))) (p := ⟨blk, off + i, none⟩) lb).trans (hck.out i hi)) (by first | omega | (simp; done) | (simp; omega)) hcap g2 hz.out).mono ?_
    rintro e w2 ⟨⟨s, rfl, hs⟩, hb2⟩
    have hz2 := hb2.size
    have HS := hide hs
    clear hs
    go_wp2_with fail
    refine (Count_any s _).mono ?_
    rintro e w3 ⟨rfl, rfl⟩
    rw [HS.out]
    go_wp2_with fail
    go_ret2
    rw [HX.out]
    exact ⟨rfl, (by repeat (first | (with_reducible exact Below.refl _ _) | (with_reducible refine below_ov ?_ ?_) | (with_reducible refine Below.setCell ?_ ?_ _) | (with_reducible refine Below.alloc ?_ ?_ _) | (with_reducible refine Below.drew ?_) | (with_reducible refine below_drewN ?_ _) | (refine Below.trans ?_ (Below.mono ‹Below _ _ _› (by first | omega | (simp; done) | (simp; omega)))) | exact Below.refl _ _ | omega | (focus (simp; done)) | (focus (simp; omega))))⟩
set_option maxRecDepth 100000 in
set_option maxHeartbeats 1600000 in
theorem CountOpen_spec (F : Nat → ByteArray) (n lo hi : Nat) (v : Value) (w : World) (hv : Sl w lo hi 1 v n (sC F)) (hhi : hi ≤ w.heap.size) (hf : ffits F n) :
    Calls Tryd.prog 44 #[v] w fun e w' => e = .returned (.tuple #[.int .i64 (coR F n : Nat), .bool (flB F n)]) ∧ Below w.heap.size w w' := by
  obtain ⟨A, cap, rfl, hcap, hA⟩ := hv.open_
  cases e1 : flB F n with
  | false =>
    have HX : Hid (coR F n = 0) := by show _ = _; rw [coR, e1]; rfl
    go_enter Tryd.func44, Tryd.ntmps44
    go_wp2_with fail
    refine (seGood_any F n lo hi _ _ (hv.below (B := w.heap.size) (by repeat (first | (with_reducible exact Below.refl _ _) | (with_reducible refine below_ov ?_ ?_) | (with_reducible refine Below.setCell ?_ ?_ _) | (with_reducible refine Below.alloc ?_ ?_ _) | (with_reducible refine Below.drew ?_) | (with_reducible refine below_drewN ?_ _) | (refine Below.trans ?_ (Below.mono ‹Below _ _ _› (by first | omega | (simp; done) | (simp; omega)))) | exact Below.refl _ _ | omega | (focus (simp; done)) | (focus (simp; omega)))) hhi) (by first | omega | (simp; done) | (simp; omega)) hf).mono ?_
    rintro e w1 ⟨rfl, hb1⟩
    have hz1 := hb1.size
    rw [e1]
    go_wp2_with fail
    go_ret2
    rw [HX.out]
    exact ⟨rfl, (by repeat (first | (with_reducible exact Below.refl _ _) | (with_reducible refine below_ov ?_ ?_) | (with_reducible refine Below.setCell ?_ ?_ _) | (with_reducible refine Below.alloc ?_ ?_ _) | (with_reducible refine Below.drew ?_) | (with_reducible refine below_drewN ?_ _) | (refine Below.trans ?_ (Below.mono ‹Below _ _ _› (by first | omega | (simp; done) | (simp; omega)))) | exact Below.refl _ _ | omega | (focus (simp; done)) | (focus (simp; omega))))⟩
  | true =>
    have HX : Hid (coR F n = cntO F n) := by show _ = _; rw [coR, e1]; rfl
    obtain ⟨g1, g2, g3, g4, g5, _⟩ := flB_facts e1
    obtain ⟨blk, off, rfl, h1, h2, h3⟩ := hA (by omega)
    have hz : Hid (∀ i, i < n → (F i).size ≤ 12) := fun i hi => by rw [g5 i hi]; exact g4
    have hck : Hid (∀ i, i < n → w.cell? ⟨blk, off + i, none⟩ = some (.string (F i))) := fun i hi => by
      have := h3 i 0 hi (by omega)
      simpa [sC] using this
    have lb : blk < w.heap.size := by omega
    clear g5 h3 hA
    go_enter Tryd.func44, Tryd.ntmps44
    go_wp2_with fail
    refine (seGood_any F n lo hi _ _ (hv.below (B := w.heap.size) (by repeat (first | (with_reducible exact Below.refl _ _) | (with_reducible refine below_ov ?_ ?_) | (with_reducible refine Below.setCell ?_ ?_ _) | (with_reducible refine Below.alloc ?_ ?_ _) | (with_reducible refine Below.drew ?_) | (with_reducible refine below_drewN ?_ _) | (refine Below.trans ?_ (Below.mono ‹Below _ _ _› (by first | omega | (simp; done) | (simp; omega)))) | exact Below.refl _ _ | omega | (focus (simp; done)) | (focus (simp; omega)))) hhi) (by first | omega | (simp; done) | (simp; omega)) hf).mono ?_
    rintro e w1 ⟨rfl, hb1⟩
    have hz1 := hb1.size
    rw [e1]
    clear e1
    go_wp2_with fail
    go_loopg [4, 13] (n + 1) (fun gn cv iv wr => ∃ k : Nat, k ≤ n ∧ n - k < gn ∧ cv = .int .i64 (cntO F k : Nat) ∧ iv = .int .i64 k ∧ Below w.heap.size w wr)
    case atStart => exact ⟨0, by omega, by omega, rfl, rfl, (by repeat (first | (with_reducible exact Below.refl _ _) | (with_reducible refine below_ov ?_ ?_) | (with_reducible refine Below.setCell ?_ ?_ _) | (with_reducible refine Below.alloc ?_ ?_ _) | (with_reducible refine Below.drew ?_) | (with_reducible refine below_drewN ?_ _) | (refine Below.trans ?_ (Below.mono ‹Below _ _ _› (by first | omega | (simp; done) | (simp; omega)))) | exact Below.refl _ _ | omega | (focus (simp; done)) | (focus (simp; omega))))⟩
    case round =>
      obtain ⟨k, hk, hgn, rfl, rfl, hb⟩ := hrel
      have hzr := hb.size
      by_cases hkn : k < n
      · have ck := (hb.cell (p := ⟨blk, off + k, none⟩) lb).trans (hck.out k hkn)
        have l0 : blk < wr.heap.size := by omega
        have zk := hz.out k hkn
        have cle := cntO_le hz.out k hk
        go_wp2_with fail
        obtain ⟨wo, ewo⟩ : ∃ wo : World, wo = wr := ⟨_, rfl⟩
        subst ewo
        have hbo := hb
        go_loopg [4, 7] ((F k).size + 1) (fun gm cv iv wr => ∃ m : Nat, m ≤ (F k).size ∧ (F k).size - m < gm ∧ cv = .int .i64 ((cntO F k + cntR (F k) m : Nat) : Int) ∧ iv = .int .i64 m ∧ Below w.heap.size w wr)
        case atStart => exact ⟨0, by omega, by omega, rfl, rfl, hbo⟩
        case round =>
          clear hb hzr
          obtain ⟨m, hm, hgm, rfl, rfl, hb⟩ := hrel
          have rle := cntR_le (F k) m
          by_cases hmn : m < (F k).size
          · have hby := byteAt_eq hmn
            by_cases i46 : byteAt (F k) m = 46
            · have HG : Hid (cntR (F k) (m + 1) = cntR (F k) m + 1) := by show _ = _; rw [cntR, if_pos i46]
              have d3 : (((F k)[m].toNat : Int) == 46) = true := by simp; omega
              clear hby i46
              go_wp2_with fail
              go_roundg ((F k).size - m)
              case measure => omega
              case rel => exact ⟨m + 1, by omega, by omega, by rw [HG.out]; go_num, by go_num, (by repeat (first | (with_reducible exact Below.refl _ _) | (with_reducible refine below_ov ?_ ?_) | (with_reducible refine Below.setCell ?_ ?_ _) | (with_reducible refine Below.alloc ?_ ?_ _) | (with_reducible refine Below.drew ?_) | (with_reducible refine below_drewN ?_ _) | (refine Below.trans ?_ (Below.mono ‹Below _ _ _› (by first | omega | (simp; done) | (simp; omega)))) | exact Below.refl _ _ | omega | (focus (simp; done)) | (focus (simp; omega))))⟩
            · have HG : Hid (cntR (F k) (m + 1) = cntR (F k) m) := by show _ = _; rw [cntR, if_neg i46]; rfl
              have d3 : (((F k)[m].toNat : Int) == 46) = false := by simp; omega
              clear hby i46
              go_wp2_with fail
              go_roundg ((F k).size - m)
              case measure => omega
              case rel => exact ⟨m + 1, by omega, by omega, by rw [HG.out], by go_num, (by repeat (first | (with_reducible exact Below.refl _ _) | (with_reducible refine below_ov ?_ ?_) | (with_reducible refine Below.setCell ?_ ?_ _) | (with_reducible refine Below.alloc ?_ ?_ _) | (with_reducible refine Below.drew ?_) | (with_reducible refine below_drewN ?_ _) | (refine Below.trans ?_ (Below.mono ‹Below _ _ _› (by first | omega | (simp; done) | (simp; omega)))) | exact Below.refl _ _ | omega | (focus (simp; done)) | (focus (simp; omega))))⟩
          · obtain rfl : m = (F k).size := by omega
            go_wp2_with fail
            go_roundg (n - k)
            case measure => omega
            case rel => exact ⟨k + 1, by omega, by omega, rfl, by go_num, (by repeat (first | (with_reducible exact Below.refl _ _) | (with_reducible refine below_ov ?_ ?_) | (with_reducible refine Below.setCell ?_ ?_ _) | (with_reducible refine Below.alloc ?_ ?_ _) | (with_reducible refine Below.drew ?_) | (with_reducible refine below_drewN ?_ _) | (refine Below.trans ?_ (Below.mono ‹Below _ _ _› (by first | omega | (simp; done) | (simp; omega)))) | exact Below.refl _ _ | omega | (focus (simp; done)) | (focus (simp; omega))))⟩
      · obtain rfl : k = n := by omega
        go_wp2_with fail
        go_ret2
        rw [HX.out]
        exact ⟨rfl, hb⟩

end Go.Proofs.YtigdalaeopemiaaDoor
