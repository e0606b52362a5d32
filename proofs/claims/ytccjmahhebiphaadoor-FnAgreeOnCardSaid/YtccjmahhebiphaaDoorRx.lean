/- Relations as texts: whether they are, put together, compared, counted, asked for a pair. -/
import Derived.Test.YtccjmahhebiphaaDoorGa
import Derived.Test.YtccjmahhebiphaaDoorHs
import Derived.Test.YtccjmahhebiphaaDoorRo
import Derived.Test.YtccjmahhebiphaaDoorRq
namespace Go.Proofs.YtccjmahhebiphaaDoor
open Go.RowKit
open Pl

theorem okR_size {P : ByteArray} (hp : bOk 729 P.data.toList = true) : P.size = 729 := by rw [← len_S, bOk_len hp]
def bothR (P Q : ByteArray) (f : Bool → Bool → Bool) : Option (List UInt8) :=
  if bOk 729 P.data.toList && bOk 729 Q.data.toList then some (opT f P.data.toList Q.data.toList) else none
def notR (P : ByteArray) : Option (List UInt8) := if bOk 729 P.data.toList then some (ngT P.data.toList) else none
theorem bothR_yes {P Q : ByteArray} (f : Bool → Bool → Bool) (hp : bOk 729 P.data.toList = true) (hq : bOk 729 Q.data.toList = true) : bothR P Q f = some (opT f P.data.toList Q.data.toList) := by unfold bothR; rw [hp, hq]; rfl
theorem bothR_no {P Q : ByteArray} (f : Bool → Bool → Bool) (h : (bOk 729 P.data.toList && bOk 729 Q.data.toList) = false) : bothR P Q f = none := by unfold bothR; rw [h]; rfl
theorem notR_yes {P : ByteArray} (hp : bOk 729 P.data.toList = true) : notR P = some (ngT P.data.toList) := by unfold notR; rw [hp]; rfl
theorem notR_no {P : ByteArray} (hp : bOk 729 P.data.toList = false) : notR P = none := by unfold notR; rw [hp]; rfl
set_option maxHeartbeats 1000000 in
theorem RelValid_any (S : ByteArray) (hS : S.size ≤ 1000000000000) (w : World) : Calls Tryd.prog 104 #[.string S] w fun e w' => e = .returned (.bool (bOk 729 S.data.toList)) ∧ w = w' := by
  have B := Lib.hid (bitsOk_any S 729 (by omega) hS w)
  simp only [Int.cast_ofNat_Int] at B
  go_enter Tryd.func104, Tryd.ntmps104
  go_wp2_with fail
  refine B.out.mono ?_
  rintro e w' ⟨rfl, rfl⟩
  go_wp2_with fail
  go_ret
  exact ⟨rfl, rfl⟩
theorem at_pair {P : ByteArray} {i j : Nat} (hlt : 27 * i + j < P.size) : ro P.data.toList i j = (P[27 * i + j] == 49) := bt_at hlt
set_option maxHeartbeats 2000000 in
theorem pair_any (P : ByteArray) (hp : bOk 729 P.data.toList = true) (i j : Nat) (hi : i < 27) (hj : j < 27) (I J : Int) (hI : I = (i : Int)) (hJ : J = (j : Int)) (w : World) : Calls Tryd.prog 105 #[.string P, .int .i64 I, .int .i64 J] w fun e w' => e = .returned (.bool (ro P.data.toList i j)) ∧ w = w' := by
  subst hI hJ
  have hz := okR_size hp
  obtain ⟨n, hn⟩ : ∃ n, n = 27 * i + j := ⟨_, rfl⟩
  have hlt : n < P.size := by omega
  have e : (27 * (i : Int) + (j : Int)) = (n : Int) := by omega
  cases hb : ro P.data.toList i j
  · have c1 : P[n] = 48 := bt_zero hp hlt (by rw [hn]; exact hb)
    clear hb hp hn
    go_enter Tryd.func105, Tryd.ntmps105
    go_wp2_with fail
    try rw [e]
    go_wp2_with fail
    go_ret
    exact ⟨rfl, rfl⟩
  · have c1 : P[n] = 49 := bt_yes hlt (by rw [hn]; exact hb)
    clear hb hp hn
    go_enter Tryd.func105, Tryd.ntmps105
    go_wp2_with fail
    try rw [e]
    go_wp2_with fail
    go_ret
    exact ⟨rfl, rfl⟩
set_option maxRecDepth 100000 in
set_option maxHeartbeats 4000000 in
theorem l2Not_any (P : ByteArray) {n : Nat} (hp : bOk n P.data.toList = true) (hP : P.size ≤ 1000) (w : World) : Calls Tryd.prog 71 #[.string P] w fun e w' => (e = .returned (.string (bs (bitsN P.size (fun i => !bt P.data.toList i)))) ∧ Below w.heap.size w w') := by
  have hmk := run_make_row' (P := Tryd.prog) 22 5 (.int .u8 0) 1 Tryd.underlying22 u8_info rfl .i64 .i64 P.size (by omega) (by omega)
  obtain ⟨bb, hbt⟩ : ∃ f : Nat → Bool, (fun i => !bt P.data.toList i) = f := ⟨_, rfl⟩
  rw [hbt]
  have HBT := Lib.hid (fun i => congrFun hbt i)
  have R0 : Hid (ByteRow (w.alloc (.cells (madeCells #[.int .u8 0] P.size) 5)) w.heap.size (fillN (bitsN P.size bb) 0)) := by rw [part_zero, bits_len]; exact byteRow_made w P.size
  have B0 := Lib.hid (below_n w (.cells (madeCells #[.int .u8 0] P.size) 5))
  have HP := Lib.hid hp
  clear hbt hp
  go_enter Tryd.func71, Tryd.ntmps71
  go_wp2_with fail
  go_loopg [4] P.size (fun gk i wr => ∃ k : Nat, k + gk = P.size ∧ i = .int .i64 k ∧ Hid (ByteRow wr w.heap.size (fillN (bitsN P.size bb) k)) ∧ Hid (Below w.heap.size w wr))
  case atStart => exact ⟨0, by simp, rfl, R0, B0⟩
  case round =>
    clear R0 B0 hmk
    obtain ⟨j, hj, rfl, R, B⟩ := hrel
    by_cases hlt : j < P.size
    · have hkl : j < (fillN (bitsN P.size bb) j).length := by rw [part_len _ _ (by rw [bits_len]; omega), bits_len]; exact hlt
      obtain ⟨⟨cv, hcc⟩, hf⟩ := R.out.any (i := j) hkl
      have B4 := Lib.hid (B.out.setCell (p := ⟨w.heap.size, j, none⟩) (Nat.le_refl _) (.int .u8 ((bitC (bb j)).toNat : Int)))
      have R4 := Lib.hid (row_step R.out hlt)
      clear R B hkl
      have hbj := (HBT.out j).symm
      cases hb : bt P.data.toList j
      · have c1 := bt_zero HP.out hlt hb
        rw [hb] at hbj
        have hv : bb j = true := hbj
        rw [hv] at R4 B4
        have BI := Lib.hid (l2Bit_any true)
        clear hv hbj hb
        go_wp2_with fail
        refine (BI.out _).mono ?_
        rintro e w' ⟨rfl, rfl⟩
        go_wp2_with fail
        go_roundg (gk - 1)
        case measure => omega
        case rel => exact ⟨j + 1, by omega, by go_num, R4, B4⟩
      · have c1 := bt_yes hlt hb
        rw [hb] at hbj
        have hv : bb j = false := hbj
        rw [hv] at R4 B4
        have BI := Lib.hid (l2Bit_any false)
        clear hv hbj hb
        go_wp2_with fail
        refine (BI.out _).mono ?_
        rintro e w' ⟨rfl, rfl⟩
        go_wp2_with fail
        go_roundg (gk - 1)
        case measure => omega
        case rel => exact ⟨j + 1, by omega, by go_num, R4, B4⟩
    · obtain rfl : j = P.size := by omega
      have r := R.out
      have hpa := part_all (bitsN P.size bb)
      rw [bits_len] at hpa
      rw [hpa] at r
      have hback := bytes_back r (n := P.size) (by rw [bits_len]) P.size
      clear r R hpa hlt
      go_wp2_with fail
      go_ret
      exact ⟨rfl, B.out⟩
theorem winR_no {p q : List UInt8} {i : Nat} (hi : i < 729) (h1 : bt p i = true) (h2 : bt q i = false) : winR p q = false := by
  cases h : winR p q
  · rfl
  · have := winR_iff.1 h i hi h1
    rw [h2] at this; cases this
def winRO (p q : List UInt8) : Bool := bOk 729 p && bOk 729 q && winR p q
theorem winR_eq {P : ByteArray} {q : List UInt8} (hp : bOk 729 P.data.toList = true) : ((bs (bitsN 729 (fun i => bt P.data.toList i && bt q i))).toList == P.toList) = winR P.data.toList q := by
  rw [Bool.eq_iff_iff, beq_iff_eq, ByteArray.toList_eq, ByteArray.toList_eq, bs_list]
  exact winR_and hp
def cntRO (l : List UInt8) : Int := if bOk 729 l then (cntR l : Int) else -1
theorem count_ofR {l : List UInt8} (h : bOk 729 l = true) : l.count 49 = cntR l := by
  unfold cntR
  rw [← cnt_bits, bits_of h]
set_option maxRecDepth 100000 in
set_option maxHeartbeats 4000000 in
theorem bitsWithinR_any (P Q : ByteArray) (hp : bOk 729 P.data.toList = true) (hq : bOk 729 Q.data.toList = true) (w : World) : Calls Tryd.prog 69 #[.string P, .string Q] w fun e w' => e = .returned (.bool (winR P.data.toList Q.data.toList)) ∧ w = w' := by
  have z1 : P.size = 729 := by rw [← len_S, bOk_len hp]
  have z2 : Q.size = 729 := by rw [← len_S, bOk_len hq]
  have HP := Lib.hid hp
  have HQ := Lib.hid hq
  clear hp hq
  go_enter Tryd.func69, Tryd.ntmps69
  go_wp2_with fail
  go_loopg [8] P.size (fun gk i wr => ∃ j : Nat, j + gk = P.size ∧ i = .int .i64 j ∧ Hid (∀ i, i < j → bt P.data.toList i = true → bt Q.data.toList i = true) ∧ wr = w)
  case atStart => exact ⟨0, by omega, rfl, Lib.hid (fun i h => absurd h (by omega)), rfl⟩
  case round =>
    obtain ⟨j, hj, rfl, HR, rfl⟩ := hrel
    by_cases hlt : j < P.size
    · have hlq : j < Q.size := by omega
      have h729 : j < 729 := by omega
      cases hb : bt P.data.toList j
      · have c1 := bt_zero HP.out hlt hb
        have HR2 : Hid (∀ i, i < j + 1 → bt P.data.toList i = true → bt Q.data.toList i = true) := fun i hi h => by
          by_cases e : i = j
          · subst e; rw [hb] at h; cases h
          · exact HR.out i (by omega) h
        clear hb
        clear HR
        go_wp2_with fail
        go_roundg (gk - 1)
        case measure => omega
        case rel => exact ⟨j + 1, by omega, by go_num, HR2, rfl⟩
      · have c1 := bt_yes hlt hb
        cases hb2 : bt Q.data.toList j
        · have c2 := bt_zero HQ.out hlq hb2
          have HF := Lib.hid (winR_no h729 hb hb2)
          clear hb hb2 HR
          go_wp2_with fail
          go_ret
          exact ⟨ret_bool HF.out.symm, rfl⟩
        · have c2 := bt_yes hlq hb2
          have HR2 : Hid (∀ i, i < j + 1 → bt P.data.toList i = true → bt Q.data.toList i = true) := fun i hi h => by
            by_cases e : i = j
            · subst e; exact hb2
            · exact HR.out i (by omega) h
          clear hb hb2
          clear HR
          go_wp2_with fail
          go_roundg (gk - 1)
          case measure => omega
          case rel => exact ⟨j + 1, by omega, by go_num, HR2, rfl⟩
    · have HF := Lib.hid (winR_iff.2 (fun i hi h => HR.out i (by omega) h))
      clear HR
      go_wp2_with fail
      go_ret
      exact ⟨ret_bool HF.out.symm, rfl⟩
def turnR (P : ByteArray) : Option (List UInt8) := if bOk 729 P.data.toList then some (trnT P.data.toList) else none
theorem turnR_yes {P : ByteArray} (hp : bOk 729 P.data.toList = true) : turnR P = some (trnT P.data.toList) := by unfold turnR; rw [hp]; rfl
theorem turnR_no {P : ByteArray} (hp : bOk 729 P.data.toList = false) : turnR P = none := by unfold turnR; rw [hp]; rfl
def closeR (P : ByteArray) : Option (List UInt8) := if bOk 729 P.data.toList then some (cloT P.data.toList) else none
theorem closeR_yes {P : ByteArray} (hp : bOk 729 P.data.toList = true) : closeR P = some (cloT P.data.toList) := by unfold closeR; rw [hp]; rfl
theorem closeR_no {P : ByteArray} (hp : bOk 729 P.data.toList = false) : closeR P = none := by unfold closeR; rw [hp]; rfl
def thenR (P Q : ByteArray) : Option (List UInt8) := if bOk 729 P.data.toList && bOk 729 Q.data.toList then some (cmpT P.data.toList Q.data.toList) else none
theorem thenR_yes {P Q : ByteArray} (hp : bOk 729 P.data.toList = true) (hq : bOk 729 Q.data.toList = true) : thenR P Q = some (cmpT P.data.toList Q.data.toList) := by unfold thenR; rw [hp, hq]; rfl
theorem thenR_no {P Q : ByteArray} (h : (bOk 729 P.data.toList && bOk 729 Q.data.toList) = false) : thenR P Q = none := by unfold thenR; rw [h]; rfl
set_option maxHeartbeats 2000000 in
theorem turn1_any (P : ByteArray) (hp : bOk 729 P.data.toList = true) (i j : Nat) (hi : i < 27) (hj : j < 27) (I J : Int) (hI : I = (i : Int)) (hJ : J = (j : Int)) (c : Nat) (W : World) (h1 : W.cell? ⟨c, 0, none⟩ = some (.string P)) :
    Calls Tryd.prog 141 #[.int .i64 I, .int .i64 J, .pointer (some ⟨c, 0, none⟩)] W fun e W' => e = .returned (.bool (ro P.data.toList j i)) ∧ Below W.heap.size W W' := by
  have PA := Lib.hid (fun w => pair_any P hp j i hj hi J I hJ hI w)
  clear hI hJ
  go_enter Tryd.func141, Tryd.ntmps141
  go_wp2_with fail
  refine (PA.out _).mono ?_
  rintro e w' ⟨rfl, rfl⟩
  go_wp2_with fail
  go_ret
  exact ⟨rfl, Below.refl _ _⟩
set_option maxHeartbeats 2000000 in
theorem close1_any (P : ByteArray) (hp : bOk 729 P.data.toList = true) (i j : Nat) (hi : i < 27) (hj : j < 27) (I J : Int) (hI : I = (i : Int)) (hJ : J = (j : Int)) (c : Nat) (W : World) (h1 : W.cell? ⟨c, 0, none⟩ = some (.string P)) :
    Calls Tryd.prog 142 #[.int .i64 I, .int .i64 J, .pointer (some ⟨c, 0, none⟩)] W fun e W' => e = .returned (.bool (rfxF (ro P.data.toList) i j)) ∧ Below W.heap.size W W' := by
  have PA := Lib.hid (fun w => pair_any P hp i j hi hj I J hI hJ w)
  unfold rfxF
  by_cases hij : i = j
  · have e1 : (I == J) = true := by simp; omega
    have e2 : (i == j) = true := by simp; omega
    rw [e2, Bool.true_or]
    clear e2
    clear hI hJ
    go_enter Tryd.func142, Tryd.ntmps142
    go_wp2_with fail
    go_ret
    exact ⟨rfl, Below.refl _ _⟩
  · have e1 : (I == J) = false := by simp; omega
    have e2 : (i == j) = false := by simp; omega
    rw [e2, Bool.false_or]
    clear e2
    clear hI hJ
    go_enter Tryd.func142, Tryd.ntmps142
    go_wp2_with fail
    refine (PA.out _).mono ?_
    rintro e w' ⟨rfl, rfl⟩
    go_wp2_with fail
    go_ret
    exact ⟨rfl, Below.refl _ _⟩

end Go.Proofs.YtccjmahhebiphaaDoor
