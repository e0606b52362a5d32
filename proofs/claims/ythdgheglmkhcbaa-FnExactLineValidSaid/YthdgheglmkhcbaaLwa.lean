/- Small words of the laws and the reference's tests of whole texts: ppHas, ExprValid, TestValid. -/
import Derived.Test.YthdgheglmkhcbaaSpa
import Derived.Test.YthdgheglmkhcbaaGb
namespace Go.Proofs.Ythdgheglmkhcbaa
open Go.RowKit
open Pl

theorem extract_one {S : ByteArray} {k : Nat} (h : k < S.size) : S.extract k (k + 1) = ⟨#[S[k]]⟩ := by
  have h1 := drop_cons h
  exact (extract_text (S := S) (p := k) (q := k + 1) (t := [S[k]]) (by omega) (by simpa using h1) (by omega)).2

/-- a string has a letter -/
def hasB (l : List UInt8) (c : UInt8) : Bool := decide (c ∈ l)
set_option maxHeartbeats 1000000 in
theorem WideValidS_any (S : ByteArray) (w : World) (hS : S.size ≤ 1000000000000) : Calls Try.prog 79 #[.string S] w fun e w' => (e = .returned (.bool (whole true 1 200 S.data.toList).isSome) ∧ ∃ m, w' = w.drewN m) := by
  have hW := endOf_whole (wd := true) (so := 1) (most := 200) (l := S.data.toList) (by omega)
  rw [len_S] at hW
  by_cases hbig : S.size ≤ 200
  · have E := Lib.hid (test_all S (by omega) true 0 w (by omega) (by omega))
    simp only [hbig, decide_true, Bool.true_and] at hW
    rw [← hW]
    clear hW
    generalize endOf true 1 S.data.toList 0 = z at *
    go_enter Try.func79, Try.ntmps79
    go_wp2_with fail
    refine E.out.mono ?_
    rintro e w' ⟨rfl, m, rfl⟩
    go_wp2_with fail
    go_ret
    exact ⟨rfl, _, rfl⟩
  · simp only [hbig, decide_false, Bool.false_and] at hW
    rw [← hW]
    clear hW
    go_enter Try.func79, Try.ntmps79
    go_wp2_with fail
    go_ret
    exact ⟨rfl, 0, rfl⟩

end Go.Proofs.Ythdgheglmkhcbaa
