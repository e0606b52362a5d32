/- Relations as texts: whether they are, put together, compared, counted, asked for a pair. -/
import Derived.Test.YtndlhdmpfnadcaaGa
import Derived.Test.YtndlhdmpfnadcaaHs
import Derived.Test.YtndlhdmpfnadcaaRo
import Derived.Test.YtndlhdmpfnadcaaRq
namespace Go.Proofs.Ytndlhdmpfnadcaa
open Go.RowKit
open Pl

theorem okR_size {P : ByteArray} (hp : bOk 729 P.data.toList = true) : P.size = 729 := by rw [← len_S, bOk_len hp]
def bothR (P Q : ByteArray) (f : Bool → Bool → Bool) : Option (List UInt8) :=
  if bOk 729 P.data.toList && bOk 729 Q.data.toList then some (opT f P.data.toList Q.data.toList) else none
def notR (P : ByteArray) : Option (List UInt8) := if bOk 729 P.data.toList then some (ngT P.data.toList) else none
theorem bothR_yes {P Q : ByteArray} (f : Bool → Bool → Bool) (hp : bOk 729 P.data.toList = true) (hq : bOk 729 Q.data.toList = true) : bothR P Q f = some (opT f P.data.toList Q.data.toList) := by unfold bothR; rw [hp, hq]; rfl
theorem bothR_no {P Q : ByteArray} (f : Bool → Bool → Bool) (h : (bOk 729 P.data.toList && bOk 729 Q.data.toList) = false) : bothR P Q f = none := by unfold bothR; rw [h]; rfl
theorem notR_yes {P : ByteArray} (hp : bOk 729 P.data.toList = true) : notR P = some (ngT P.data.toList) := by unfold notR; rw [hp]; rfl
theorem notR_no {P : ByteArray} (hp : bOk 729 P.data.toList = false) : notR P = none := by unfold notR; rw [hp]; rfl
set_option maxHeartbeats 1000000 in
theorem RelValid_any (S : ByteArray) (hS : S.size ≤ 1000000000000) (w : World) : Calls Try.prog 15 #[.string S] w fun e w' => e = .returned (.bool (bOk 729 S.data.toList)) ∧ w = w' := by
  have B := Lib.hid (bitsOk_any S 729 (by omega) hS w)
  simp only [Int.cast_ofNat_Int] at B
  go_enter Try.func15, Try.ntmps15
  go_wp2_with fail
  refine B.out.mono ?_
  rintro e w' ⟨rfl, rfl⟩
  go_wp2_with fail
  go_ret
  exact ⟨rfl, rfl⟩
set_option maxHeartbeats 1000000 in
theorem RelValidS_any (S : ByteArray) (hS : S.size ≤ 1000000000000) (w : World) : Calls Try.prog 28 #[.string S] w fun e w' => e = .returned (.bool (bOk 729 S.data.toList)) ∧ w = w' := by
  have B := Lib.hid (l2Bits_any S 729 hS w)
  simp only [Int.cast_ofNat_Int] at B
  go_enter Try.func28, Try.ntmps28
  go_wp2_with fail
  refine B.out.mono ?_
  rintro e w' ⟨rfl, rfl⟩
  go_wp2_with fail
  go_ret
  exact ⟨rfl, rfl⟩
set_option maxRecDepth 100000 in
set_option maxHeartbeats 4000000 in
theorem l2Not_any (P : ByteArray) {n : Nat} (hp : bOk n P.data.toList = true) (hP : P.size ≤ 1000) (w : World) : Calls Try.prog 58 #[.string P] w fun e w' => (e = .returned (.string (bs (bitsN P.size (fun i => !bt P.data.toList i)))) ∧ Below w.heap.size w w') := by
  have hmk := run_make_row' (P := Try.prog) 29 5 (.int .u8 0) 1 Try.underlying29 u8_info rfl .i64 .i64 P.size (by omega) (by omega)
  obtain ⟨bb, hbt⟩ : ∃ f : Nat → Bool, (fun i => !bt P.data.toList i) = f := ⟨_, rfl⟩
  rw [hbt]
  have HBT := Lib.hid (fun i => congrFun hbt i)
  have R0 : Hid (ByteRow (w.alloc (.cells (madeCells #[.int .u8 0] P.size) 5)) w.heap.size (fillN (bitsN P.size bb) 0)) := by rw [part_zero, bits_len]; exact byteRow_made w P.size
  have B0 := Lib.hid (below_n w (.cells (madeCells #[.int .u8 0] P.size) 5))
  have HP := Lib.hid hp
  clear hbt hp
  go_enter Try.func58, Try.ntmps58
  go_wp2_with fail
  go_loopg [4] P.size (fun gk i wr => ∃ k : Nat, k + gk = P.size ∧ i = .int .i64 k ∧ Hid (ByteRow wr w.heap.size (fillN (bitsN P.size bb) k)) ∧ Hid (Below w.heap.size w wr))
  case atStart => exact ⟨0, by simp, rfl, R0, B0⟩
  case round =>
    clear R0 B0 hmk
    obtain ⟨j, hj, rfl, R, B⟩ := hrel
    by_cases hlt : j < P.size
    · have hkl : j < (fillN (bitsN P.size bb) j).length := by rw [part_len _ _ (by rw [bits_len]; omega), bits_len]; exact hlt
      obtain ⟨⟨cv, hcc⟩, hf⟩ := R.out.any (i := j) hkl
      have B4 := Lib.hid (B.out.setCell (p := ⟨w.heap.size, j, none⟩) (Nat.le_refl _) (.int .u8 ((bitC (bb j)).toNat : Int)))
      have R4 := Lib.hid (row_step R.out hlt)
      clear R B hkl
      have hbj := (HBT.out j).symm
      cases hb : bt P.data.toList j
      · have c1 := bt_zero HP.out hlt hb
        rw [hb] at hbj
        have hv : bb j = true := hbj
        rw [hv] at R4 B4
        have BI := Lib.hid (l2Bit_any true)
        clear hv hbj hb
        go_wp2_with fail
        refine (BI.out _).mono ?_
        rintro e w' ⟨rfl, rfl⟩
        go_wp2_with fail
        go_roundg (gk - 1)
        case measure => omega
        case rel => exact ⟨j + 1, by omega, by go_num, R4, B4⟩
      · have c1 := bt_yes hlt hb
        rw [hb] at hbj
        have hv : bb j = false := hbj
        rw [hv] at R4 B4
        have BI := Lib.hid (l2Bit_any false)
        clear hv hbj hb
        go_wp2_with fail
        refine (BI.out _).mono ?_
        rintro e w' ⟨rfl, rfl⟩
        go_wp2_with fail
        go_roundg (gk - 1)
        case measure => omega
        case rel => exact ⟨j + 1, by omega, by go_num, R4, B4⟩
    · obtain rfl : j = P.size := by omega
      have r := R.out
      have hpa := part_all (bitsN P.size bb)
      rw [bits_len] at hpa
      rw [hpa] at r
      have hback := bytes_back r (n := P.size) (by rw [bits_len]) P.size
      clear r R hpa hlt
      go_wp2_with fail
      go_ret
      exact ⟨rfl, B.out⟩
theorem winR_no {p q : List UInt8} {i : Nat} (hi : i < 729) (h1 : bt p i = true) (h2 : bt q i = false) : winR p q = false := by
  cases h : winR p q
  · rfl
  · have := winR_iff.1 h i hi h1
    rw [h2] at this; cases this
def winRO (p q : List UInt8) : Bool := bOk 729 p && bOk 729 q && winR p q
theorem winR_eq {P : ByteArray} {q : List UInt8} (hp : bOk 729 P.data.toList = true) : ((bs (bitsN 729 (fun i => bt P.data.toList i && bt q i))).toList == P.toList) = winR P.data.toList q := by
  rw [Bool.eq_iff_iff, beq_iff_eq, ByteArray.toList_eq, ByteArray.toList_eq, bs_list]
  exact winR_and hp
def cntRO (l : List UInt8) : Int := if bOk 729 l then (cntR l : Int) else -1
theorem count_ofR {l : List UInt8} (h : bOk 729 l = true) : l.count 49 = cntR l := by
  unfold cntR
  rw [← cnt_bits, bits_of h]
def turnR (P : ByteArray) : Option (List UInt8) := if bOk 729 P.data.toList then some (trnT P.data.toList) else none
theorem turnR_yes {P : ByteArray} (hp : bOk 729 P.data.toList = true) : turnR P = some (trnT P.data.toList) := by unfold turnR; rw [hp]; rfl
theorem turnR_no {P : ByteArray} (hp : bOk 729 P.data.toList = false) : turnR P = none := by unfold turnR; rw [hp]; rfl
def closeR (P : ByteArray) : Option (List UInt8) := if bOk 729 P.data.toList then some (cloT P.data.toList) else none
theorem closeR_yes {P : ByteArray} (hp : bOk 729 P.data.toList = true) : closeR P = some (cloT P.data.toList) := by unfold closeR; rw [hp]; rfl
theorem closeR_no {P : ByteArray} (hp : bOk 729 P.data.toList = false) : closeR P = none := by unfold closeR; rw [hp]; rfl
def thenR (P Q : ByteArray) : Option (List UInt8) := if bOk 729 P.data.toList && bOk 729 Q.data.toList then some (cmpT P.data.toList Q.data.toList) else none
theorem thenR_yes {P Q : ByteArray} (hp : bOk 729 P.data.toList = true) (hq : bOk 729 Q.data.toList = true) : thenR P Q = some (cmpT P.data.toList Q.data.toList) := by unfold thenR; rw [hp, hq]; rfl
theorem thenR_no {P Q : ByteArray} (h : (bOk 729 P.data.toList && bOk 729 Q.data.toList) = false) : thenR P Q = none := by unfold thenR; rw [h]; rfl

end Go.Proofs.Ytndlhdmpfnadcaa
