/-
  Walks: messages.
-/
import Derived.Test.YtkikjneamjmdlaaWBody
namespace Go.Proofs.Ytkikjneamjmdlaa
set_option linter.unusedVariables false
set_option linter.unusedSimpArgs false
open Go.RowKit

def msgB (f : ByteArray) (n : Int) (b : ByteArray) : Bool := nameB f && inB n 1 999 && bodyB b
set_option maxHeartbeats 800000 in
theorem isMessage_any (f : ByteArray) (n : Int) (b : ByteArray) (w : World) (hf : f.size ≤ maxLen) (hb : b.size ≤ maxLen) :
    Calls Try.prog 29 #[.agg #[.string f, .int .i64 n, .string b]] w fun e w' => e = .returned (.bool (msgB f n b)) ∧ Below w.heap.size w w' := by
  cases hc1_0 : nameB f with
  | false =>
    go_enter Try.func29, Try.ntmps29
    go_wp2_with (first | (go_at_call 36; refine (isName_any _ _ hf).mono ?_; rintro e w1 ⟨rfl, hd1⟩; obtain ⟨n1, rfl⟩ := hd1) | (go_at_call 37; refine (inside_any _ _ _ _).mono ?_; rintro e w' ⟨rfl, rfl⟩) | (go_at_call 38; refine (isBody_any _ _ hb).mono ?_; rintro e w2 ⟨rfl, hd2⟩; obtain ⟨n2, rfl⟩ := hd2))
    go_ret
    exact ⟨ret_bool (by simp [msgB, *]), (by repeat (first | (with_reducible exact Below.refl _ _) | (with_reducible refine below_ov ?_ ?_) | (with_reducible refine Below.setCell ?_ ?_ _) | (with_reducible refine Below.alloc ?_ ?_ _) | (with_reducible refine Below.drew ?_) | (with_reducible refine below_drewN ?_ _) | (refine Below.trans ?_ (Below.mono ‹Below _ _ _› (by first | omega | (simp; done) | (simp; omega)))) | exact Below.refl _ _ | omega | (focus (simp; done)) | (focus (simp; omega))))⟩
  | true =>
    cases hc1_1 : inB n 1 999 with
    | false =>
      go_enter Try.func29, Try.ntmps29
      go_wp2_with (first | (go_at_call 36; refine (isName_any _ _ hf).mono ?_; rintro e w1 ⟨rfl, hd1⟩; obtain ⟨n1, rfl⟩ := hd1) | (go_at_call 37; refine (inside_any _ _ _ _).mono ?_; rintro e w' ⟨rfl, rfl⟩) | (go_at_call 38; refine (isBody_any _ _ hb).mono ?_; rintro e w2 ⟨rfl, hd2⟩; obtain ⟨n2, rfl⟩ := hd2))
      go_ret
      exact ⟨ret_bool (by simp [msgB, *]), (by repeat (first | (with_reducible exact Below.refl _ _) | (with_reducible refine below_ov ?_ ?_) | (with_reducible refine Below.setCell ?_ ?_ _) | (with_reducible refine Below.alloc ?_ ?_ _) | (with_reducible refine Below.drew ?_) | (with_reducible refine below_drewN ?_ _) | (refine Below.trans ?_ (Below.mono ‹Below _ _ _› (by first | omega | (simp; done) | (simp; omega)))) | exact Below.refl _ _ | omega | (focus (simp; done)) | (focus (simp; omega))))⟩
    | true =>
      obtain ⟨hc1_1l, hc1_1r⟩ := inB_iff.1 hc1_1
      go_enter Try.func29, Try.ntmps29
      go_wp2_with (first | (go_at_call 36; refine (isName_any _ _ hf).mono ?_; rintro e w1 ⟨rfl, hd1⟩; obtain ⟨n1, rfl⟩ := hd1) | (go_at_call 37; refine (inside_any _ _ _ _).mono ?_; rintro e w' ⟨rfl, rfl⟩) | (go_at_call 38; refine (isBody_any _ _ hb).mono ?_; rintro e w2 ⟨rfl, hd2⟩; obtain ⟨n2, rfl⟩ := hd2))
      go_ret
      exact ⟨ret_bool (by simp [msgB, *]), (by repeat (first | (with_reducible exact Below.refl _ _) | (with_reducible refine below_ov ?_ ?_) | (with_reducible refine Below.setCell ?_ ?_ _) | (with_reducible refine Below.alloc ?_ ?_ _) | (with_reducible refine Below.drew ?_) | (with_reducible refine below_drewN ?_ _) | (refine Below.trans ?_ (Below.mono ‹Below _ _ _› (by first | omega | (simp; done) | (simp; omega)))) | exact Below.refl _ _ | omega | (focus (simp; done)) | (focus (simp; omega))))⟩
set_option maxHeartbeats 800000 in
theorem raOne_any (f : ByteArray) (n : Int) (b : ByteArray) (w : World) (hf : f.size ≤ maxLen) (hb : b.size ≤ maxLen) :
    Calls Try.prog 25 #[.agg #[.string f, .int .i64 n, .string b]] w fun e w' => e = .returned (.bool (msgB f n b)) ∧ Below w.heap.size w w' := by
  cases hc2_0 : nameB f with
  | false =>
    go_enter Try.func25, Try.ntmps25
    go_wp2_with (first | (go_at_call 33; refine (apName_any _ _ hf).mono ?_; rintro e w1 ⟨rfl, hd1⟩; obtain ⟨n1, rfl⟩ := hd1) | (go_at_call 34; refine (l1In_any _ _ _ _).mono ?_; rintro e w' ⟨rfl, rfl⟩) | (go_at_call 35; refine (raBody_any _ _ hb).mono ?_; rintro e w2 ⟨rfl, hd2⟩; obtain ⟨n2, rfl⟩ := hd2))
    go_ret
    exact ⟨ret_bool (by simp [msgB, *]), (by repeat (first | (with_reducible exact Below.refl _ _) | (with_reducible refine below_ov ?_ ?_) | (with_reducible refine Below.setCell ?_ ?_ _) | (with_reducible refine Below.alloc ?_ ?_ _) | (with_reducible refine Below.drew ?_) | (with_reducible refine below_drewN ?_ _) | (refine Below.trans ?_ (Below.mono ‹Below _ _ _› (by first | omega | (simp; done) | (simp; omega)))) | exact Below.refl _ _ | omega | (focus (simp; done)) | (focus (simp; omega))))⟩
  | true =>
    cases hc2_1 : inB n 1 999 with
    | false =>
      go_enter Try.func25, Try.ntmps25
      go_wp2_with (first | (go_at_call 33; refine (apName_any _ _ hf).mono ?_; rintro e w1 ⟨rfl, hd1⟩; obtain ⟨n1, rfl⟩ := hd1) | (go_at_call 34; refine (l1In_any _ _ _ _).mono ?_; rintro e w' ⟨rfl, rfl⟩) | (go_at_call 35; refine (raBody_any _ _ hb).mono ?_; rintro e w2 ⟨rfl, hd2⟩; obtain ⟨n2, rfl⟩ := hd2))
      go_ret
      exact ⟨ret_bool (by simp [msgB, *]), (by repeat (first | (with_reducible exact Below.refl _ _) | (with_reducible refine below_ov ?_ ?_) | (with_reducible refine Below.setCell ?_ ?_ _) | (with_reducible refine Below.alloc ?_ ?_ _) | (with_reducible refine Below.drew ?_) | (with_reducible refine below_drewN ?_ _) | (refine Below.trans ?_ (Below.mono ‹Below _ _ _› (by first | omega | (simp; done) | (simp; omega)))) | exact Below.refl _ _ | omega | (focus (simp; done)) | (focus (simp; omega))))⟩
    | true =>
      obtain ⟨hc2_1l, hc2_1r⟩ := inB_iff.1 hc2_1
      go_enter Try.func25, Try.ntmps25
      go_wp2_with (first | (go_at_call 33; refine (apName_any _ _ hf).mono ?_; rintro e w1 ⟨rfl, hd1⟩; obtain ⟨n1, rfl⟩ := hd1) | (go_at_call 34; refine (l1In_any _ _ _ _).mono ?_; rintro e w' ⟨rfl, rfl⟩) | (go_at_call 35; refine (raBody_any _ _ hb).mono ?_; rintro e w2 ⟨rfl, hd2⟩; obtain ⟨n2, rfl⟩ := hd2))
      go_ret
      exact ⟨ret_bool (by simp [msgB, *]), (by repeat (first | (with_reducible exact Below.refl _ _) | (with_reducible refine below_ov ?_ ?_) | (with_reducible refine Below.setCell ?_ ?_ _) | (with_reducible refine Below.alloc ?_ ?_ _) | (with_reducible refine Below.drew ?_) | (with_reducible refine below_drewN ?_ _) | (refine Below.trans ?_ (Below.mono ‹Below _ _ _› (by first | omega | (simp; done) | (simp; omega)))) | exact Below.refl _ _ | omega | (focus (simp; done)) | (focus (simp; omega))))⟩
set_option maxHeartbeats 400000 in
theorem toMessage_any (f : ByteArray) (n : Int) (b : ByteArray) (w : World) :
    Calls Try.prog 28 #[.agg #[.string f, .int .i64 n, .string b]] w fun e w' => e = .returned (.agg #[.string f, .int .i64 n, .string b]) ∧ Below w.heap.size w w' := by
  go_enter Try.func28, Try.ntmps28
  go_wp2_with fail
  refine bodyPost_ret (v := .agg #[.string f, .int .i64 n, .string b]) (by simp [results, Try.results28, go_sem]) rfl ⟨rfl, ?_⟩
  exact (by repeat (first | (with_reducible exact Below.refl _ _) | (with_reducible refine below_ov ?_ ?_) | (with_reducible refine Below.setCell ?_ ?_ _) | (with_reducible refine Below.alloc ?_ ?_ _) | (with_reducible refine Below.drew ?_) | (with_reducible refine below_drewN ?_ _) | (refine Below.trans ?_ (Below.mono ‹Below _ _ _› (by first | omega | (simp; done) | (simp; omega)))) | exact Below.refl _ _ | omega | (focus (simp; done)) | (focus (simp; omega))))
def sz2F (left : Int) (a b : Nat) : Int := if left < a then -1 else if left - a < b then -1 else left - a - b
set_option maxHeartbeats 800000 in
theorem szMessage_any (f : ByteArray) (n : Int) (b : ByteArray) (left : Int) (w : World) (hl : 0 ≤ left) (hl' : left ≤ 1048576) (hf : f.size ≤ maxLen) (hb : b.size ≤ maxLen) :
    Calls Try.prog 24 #[.agg #[.string f, .int .i64 n, .string b], .int .i64 left] w fun e w' => e = .returned (.int .i64 (sz2F left f.size b.size)) ∧ Below w.heap.size w w' := by
  unfold maxLen at hf hb
  by_cases h : left < f.size
  · have hd : decide (left - (f.size : Int) < 0) = true := by simp; omega
    go_enter Try.func24, Try.ntmps24
    go_wp2_with fail
    go_ret
    exact ⟨ret_int (by rw [sz2F, if_pos h]), (by repeat (first | (with_reducible exact Below.refl _ _) | (with_reducible refine below_ov ?_ ?_) | (with_reducible refine Below.setCell ?_ ?_ _) | (with_reducible refine Below.alloc ?_ ?_ _) | (with_reducible refine Below.drew ?_) | (with_reducible refine below_drewN ?_ _) | (refine Below.trans ?_ (Below.mono ‹Below _ _ _› (by first | omega | (simp; done) | (simp; omega)))) | exact Below.refl _ _ | omega | (focus (simp; done)) | (focus (simp; omega))))⟩
  · have hd : decide (left - (f.size : Int) < 0) = false := by simp; omega
    by_cases h2 : left - f.size < b.size
    · have hd2 : decide (left - (f.size : Int) - (b.size : Int) < 0) = true := by simp; omega
      go_enter Try.func24, Try.ntmps24
      go_wp2_with fail
      go_ret
      exact ⟨ret_int (by rw [sz2F, if_neg (by omega), if_pos h2]), (by repeat (first | (with_reducible exact Below.refl _ _) | (with_reducible refine below_ov ?_ ?_) | (with_reducible refine Below.setCell ?_ ?_ _) | (with_reducible refine Below.alloc ?_ ?_ _) | (with_reducible refine Below.drew ?_) | (with_reducible refine below_drewN ?_ _) | (refine Below.trans ?_ (Below.mono ‹Below _ _ _› (by first | omega | (simp; done) | (simp; omega)))) | exact Below.refl _ _ | omega | (focus (simp; done)) | (focus (simp; omega))))⟩
    · have hd2 : decide (left - (f.size : Int) - (b.size : Int) < 0) = false := by simp; omega
      go_enter Try.func24, Try.ntmps24
      go_wp2_with fail
      go_ret
      exact ⟨ret_int (by rw [sz2F, if_neg (by omega), if_neg (by omega)]), (by repeat (first | (with_reducible exact Below.refl _ _) | (with_reducible refine below_ov ?_ ?_) | (with_reducible refine Below.setCell ?_ ?_ _) | (with_reducible refine Below.alloc ?_ ?_ _) | (with_reducible refine Below.drew ?_) | (with_reducible refine below_drewN ?_ _) | (refine Below.trans ?_ (Below.mono ‹Below _ _ _› (by first | omega | (simp; done) | (simp; omega)))) | exact Below.refl _ _ | omega | (focus (simp; done)) | (focus (simp; omega))))⟩

end Go.Proofs.Ytkikjneamjmdlaa
