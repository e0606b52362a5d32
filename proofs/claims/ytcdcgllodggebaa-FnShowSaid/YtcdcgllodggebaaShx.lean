/- ShowExpr and ShowTest, of the program and of the reference. -/
import Derived.Test.YtcdcgllodggebaaShw
import Derived.Test.YtcdcgllodggebaaPar
namespace Go.Proofs.Ytcdcgllodggebaa
open Go.RowKit
open Pl

def shEO : Option Nd → List UInt8
  | none => []
  | some k => shE k
def shTO : Option Nd → List UInt8
  | none => []
  | some k => shT k
set_option maxHeartbeats 1000000 in
theorem ShowExpr_any (S : ByteArray) (hS : S.size ≤ 1000000000000) (w : World) : Calls Try.prog 22 #[.string S] w fun e w' => (e = .returned (.string (bs (shEO (whole false 0 200 S.data.toList)))) ∧ Below w.heap.size w w') := by
  have R := Lib.hid (parseExpr_any S hS w)
  cases ho : whole false 0 200 S.data.toList with
  | none =>
    rw [ho] at R
    clear ho
    go_enter Try.func22, Try.ntmps22
    go_wp2_with fail
    refine R.out.mono ?_
    rintro e w' ⟨hb, rfl⟩
    clear R
    go_wp2_with fail
    go_ret
    exact ⟨rfl, hb⟩
  | some k =>
    rw [ho] at R
    obtain ⟨h1, h2, h3⟩ := (whole_iff (by omega)).1 ho
    rw [h3] at h1
    clear ho h3
    go_enter Try.func22, Try.ntmps22
    go_wp2_with fail
    refine R.out.mono ?_
    rintro e w' ⟨hb, b, rfl, hin⟩
    clear R
    have HI := Lib.hid hin
    clear hin
    go_wp2_with fail
    refine (showExpr_any false k b w' h2 (by omega) HI.out).mono ?_
    rintro e w2 ⟨rfl, n, rfl⟩
    go_wp2_with fail
    go_ret
    exact ⟨rfl, hb.trans (below_drewN _ _ _)⟩
set_option maxHeartbeats 1000000 in
theorem ShowExprS_any (S : ByteArray) (hS : S.size ≤ 1000000000000) (w : World) : Calls Try.prog 24 #[.string S] w fun e w' => (e = .returned (.string (bs (shEO (whole false 0 200 S.data.toList)))) ∧ ∃ n, w' = w.drewN n) := by
  have R := Lib.hid (ExprValidS_any S w hS)
  cases ho : whole false 0 200 S.data.toList with
  | none =>
    rw [ho] at R
    clear ho
    go_enter Try.func24, Try.ntmps24
    go_wp2_with fail
    refine R.out.mono ?_
    rintro e w' ⟨rfl, n, rfl⟩
    clear R
    go_wp2_with fail
    go_ret
    exact ⟨rfl, _, rfl⟩
  | some k =>
    rw [ho] at R
    obtain ⟨h1, h2, h3⟩ := (whole_iff (by omega)).1 ho
    have hz : S.size ≤ 1000 := by have := len_S S; omega
    have C := Lib.hid (fun w => showS_any S hz false k 0 [] w h2 (by simpa using h3))
    clear ho h3
    go_enter Try.func24, Try.ntmps24
    go_wp2_with fail
    refine R.out.mono ?_
    rintro e w' ⟨rfl, n, rfl⟩
    clear R
    go_wp2_with fail
    refine (C.out _).mono ?_
    rintro e w2 ⟨rfl, n2, rfl⟩
    go_wp2_with fail
    go_ret
    exact ⟨rfl, _, rfl⟩
set_option maxHeartbeats 1000000 in
theorem ShowTest_any (S : ByteArray) (hS : S.size ≤ 1000000000000) (w : World) : Calls Try.prog 20 #[.string S] w fun e w' => (e = .returned (.string (bs (shTO (whole false 1 200 S.data.toList)))) ∧ Below w.heap.size w w') := by
  have R := Lib.hid (parseTest_any S hS w)
  cases ho : whole false 1 200 S.data.toList with
  | none =>
    rw [ho] at R
    clear ho
    go_enter Try.func20, Try.ntmps20
    go_wp2_with fail
    refine R.out.mono ?_
    rintro e w' ⟨hb, rfl⟩
    clear R
    go_wp2_with fail
    go_ret
    exact ⟨rfl, hb⟩
  | some k =>
    rw [ho] at R
    obtain ⟨h1, h2, h3⟩ := (whole_iff (by omega)).1 ho
    rw [h3] at h1
    clear ho h3
    go_enter Try.func20, Try.ntmps20
    go_wp2_with fail
    refine R.out.mono ?_
    rintro e w' ⟨hb, b, rfl, hin⟩
    clear R
    have HI := Lib.hid hin
    clear hin
    go_wp2_with fail
    refine (showTest_any false k b w' h2 (by omega) HI.out).mono ?_
    rintro e w2 ⟨rfl, n, rfl⟩
    go_wp2_with fail
    go_ret
    exact ⟨rfl, hb.trans (below_drewN _ _ _)⟩
set_option maxHeartbeats 1000000 in
theorem ShowTestS_any (S : ByteArray) (hS : S.size ≤ 1000000000000) (w : World) : Calls Try.prog 25 #[.string S] w fun e w' => (e = .returned (.string (bs (shTO (whole false 1 200 S.data.toList)))) ∧ ∃ n, w' = w.drewN n) := by
  have R := Lib.hid (TestValidS_any S w hS)
  cases ho : whole false 1 200 S.data.toList with
  | none =>
    rw [ho] at R
    clear ho
    go_enter Try.func25, Try.ntmps25
    go_wp2_with fail
    refine R.out.mono ?_
    rintro e w' ⟨rfl, n, rfl⟩
    clear R
    go_wp2_with fail
    go_ret
    exact ⟨rfl, _, rfl⟩
  | some k =>
    rw [ho] at R
    obtain ⟨h1, h2, h3⟩ := (whole_iff (by omega)).1 ho
    have hz : S.size ≤ 1000 := by have := len_S S; omega
    have C := Lib.hid (fun w => showTestS_any S hz false k 0 [] w h2 (by simpa using h3))
    clear ho h3
    go_enter Try.func25, Try.ntmps25
    go_wp2_with fail
    refine R.out.mono ?_
    rintro e w' ⟨rfl, n, rfl⟩
    clear R
    go_wp2_with fail
    refine (C.out _).mono ?_
    rintro e w2 ⟨rfl, n2, rfl⟩
    go_wp2_with fail
    go_ret
    exact ⟨rfl, _, rfl⟩

end Go.Proofs.Ytcdcgllodggebaa
