/- XGx: XPe XPf XSf put together. -/
import Derived.Test.YtccjmahhebiphaaDoorPd
import Derived.Test.YtccjmahhebiphaaDoorDrv
import Derived.Test.YtccjmahhebiphaaDoorBi
import Derived.Test.YtccjmahhebiphaaDoorGf
/- Sets of states put together, compared and counted, on both sides; drawn sets. -/
namespace Go.Proofs.YtccjmahhebiphaaDoor
open Go.RowKit
open Pl

theorem bt_at {S : ByteArray} {i : Nat} (hi : i < S.size) : bt S.data.toList i = (S[i] == 49) := by
  unfold bt
  have hl : i < S.data.toList.length := by rw [len_S]; exact hi
  rw [List.getD_eq_getElem?_getD, List.getElem?_eq_getElem hl]
  rfl
/-- one set within another -/
def win (p q : List UInt8) : Bool := (List.range 27).all (fun i => !bt p i || bt q i)
theorem win_iff {p q : List UInt8} : win p q = true ↔ ∀ i, i < 27 → bt p i = true → bt q i = true := by
  simp only [win, List.all_eq_true, List.mem_range, Bool.or_eq_true, Bool.not_eq_true']
  constructor
  · intro h i hi hp
    rcases h i hi with e | e
    · rw [hp] at e; cases e
    · exact e
  · intro h i hi
    cases hp : bt p i
    · exact .inl rfl
    · exact .inr (h i hi hp)
theorem win_no {p q : List UInt8} {i : Nat} (hi : i < 27) (h1 : bt p i = true) (h2 : bt q i = false) : win p q = false := by
  cases h : win p q
  · rfl
  · have := win_iff.1 h i hi h1
    rw [h2] at this; cases this
def winO (p q : List UInt8) : Bool := bOk 27 p && bOk 27 q && win p q
theorem win_and {P : ByteArray} {q : List UInt8} (hp : bOk 27 P.data.toList = true) : ((bs (bitsN 27 (fun i => bt P.data.toList i && bt q i))).toList == P.toList) = win P.data.toList q := by
  rw [Bool.eq_iff_iff, beq_iff_eq, ByteArray.toList_eq, ByteArray.toList_eq, bs_list, win_iff]
  constructor
  · intro h i hi h1
    have h2 : bt (bitsN 27 (fun i => bt P.data.toList i && bt q i)) i = true := by rw [h]; exact h1
    rw [bt_bits hi] at h2
    simp at h2
    exact h2.2
  · intro h
    rw [← bits_of hp]
    apply bits_congr
    intro i hi
    rw [bits_of hp]
    cases h1 : bt P.data.toList i
    · rfl
    · rw [h i hi h1]; rfl
set_option maxRecDepth 100000 in
set_option maxHeartbeats 4000000 in
theorem bitsWithin_any (P Q : ByteArray) (hp : bOk 27 P.data.toList = true) (hq : bOk 27 Q.data.toList = true) (w : World) : Calls Tryd.prog 69 #[.string P, .string Q] w fun e w' => e = .returned (.bool (win P.data.toList Q.data.toList)) ∧ w = w' := by
  have z1 : P.size = 27 := by rw [← len_S, bOk_len hp]
  have z2 : Q.size = 27 := by rw [← len_S, bOk_len hq]
  have HP := Lib.hid hp
  have HQ := Lib.hid hq
  clear hp hq
  go_enter Tryd.func69, Tryd.ntmps69
  go_wp2_with fail
  go_loopg [8] P.size (fun gk i wr => ∃ j : Nat, j + gk = P.size ∧ i = .int .i64 j ∧ Hid (∀ i, i < j → bt P.data.toList i = true → bt Q.data.toList i = true) ∧ wr = w)
  case atStart => exact ⟨0, by omega, rfl, Lib.hid (fun i h => absurd h (by omega)), rfl⟩
  case round =>
    obtain ⟨j, hj, rfl, HR, rfl⟩ := hrel
    by_cases hlt : j < P.size
    · have hlq : j < Q.size := by omega
      have h27 : j < 27 := by omega
      cases hb : bt P.data.toList j
      · have c1 := bt_zero HP.out hlt hb
        have HR2 : Hid (∀ i, i < j + 1 → bt P.data.toList i = true → bt Q.data.toList i = true) := fun i hi h => by
          by_cases e : i = j
          · subst e; rw [hb] at h; cases h
          · exact HR.out i (by omega) h
        clear hb
        clear HR
        go_wp2_with fail
        go_roundg (gk - 1)
        case measure => omega
        case rel => exact ⟨j + 1, by omega, by go_num, HR2, rfl⟩
      · have c1 := bt_yes hlt hb
        cases hb2 : bt Q.data.toList j
        · have c2 := bt_zero HQ.out hlq hb2
          have HF := Lib.hid (win_no h27 hb hb2)
          clear hb hb2 HR
          go_wp2_with fail
          go_ret
          exact ⟨ret_bool HF.out.symm, rfl⟩
        · have c2 := bt_yes hlq hb2
          have HR2 : Hid (∀ i, i < j + 1 → bt P.data.toList i = true → bt Q.data.toList i = true) := fun i hi h => by
            by_cases e : i = j
            · subst e; exact hb2
            · exact HR.out i (by omega) h
          clear hb hb2
          clear HR
          go_wp2_with fail
          go_roundg (gk - 1)
          case measure => omega
          case rel => exact ⟨j + 1, by omega, by go_num, HR2, rfl⟩
    · have HF := Lib.hid (win_iff.2 (fun i hi h => HR.out i (by omega) h))
      clear HR
      go_wp2_with fail
      go_ret
      exact ⟨ret_bool HF.out.symm, rfl⟩
set_option maxHeartbeats 2000000 in
theorem PredWithin_any (P Q : ByteArray) (hP : P.size ≤ 1000000000000) (hQ : Q.size ≤ 1000000000000) (w : World) : Calls Tryd.prog 21 #[.string P, .string Q] w fun e w' => (e = .returned (.bool (winO P.data.toList Q.data.toList)) ∧ Below w.heap.size w w') := by
  have V := Lib.hid (fun w => PredValid_any P hP w)
  have U := Lib.hid (fun w => PredValid_any Q hQ w)
  unfold winO
  cases hp : bOk 27 P.data.toList
  · rw [hp] at V
    go_enter Tryd.func21, Tryd.ntmps21
    go_wp2_with fail
    refine (V.out _).mono ?_
    rintro e w' ⟨rfl, rfl⟩
    go_wp2_with fail
    go_ret
    exact ⟨rfl, Below.refl _ _⟩
  · cases hq : bOk 27 Q.data.toList
    · rw [hp] at V
      rw [hq] at U
      go_enter Tryd.func21, Tryd.ntmps21
      go_wp2_with fail
      refine (V.out _).mono ?_
      rintro e w' ⟨rfl, rfl⟩
      go_wp2_with fail
      refine (U.out _).mono ?_
      rintro e w' ⟨rfl, rfl⟩
      go_wp2_with fail
      go_ret
      exact ⟨rfl, Below.refl _ _⟩
    · rw [hp] at V
      rw [hq] at U
      have X := Lib.hid (fun w => bitsWithin_any P Q hp hq w)
      simp only [Bool.true_and]
      generalize win P.data.toList Q.data.toList = wv at *
      clear hp hq
      go_enter Tryd.func21, Tryd.ntmps21
      go_wp2_with fail
      refine (V.out _).mono ?_
      rintro e w' ⟨rfl, rfl⟩
      go_wp2_with fail
      refine (U.out _).mono ?_
      rintro e w' ⟨rfl, rfl⟩
      go_wp2_with fail
      refine (X.out _).mono ?_
      rintro e w' ⟨rfl, rfl⟩
      go_wp2_with fail
      go_ret
      exact ⟨rfl, Below.refl _ _⟩
/-- how many states a set has -/
def cntP (l : List UInt8) : Int := if bOk 27 l then (cnt 27 (bt l) : Int) else -1
theorem count_of {l : List UInt8} (h : bOk 27 l = true) : l.count 49 = cnt 27 (bt l) := by
  rw [← cnt_bits, bits_of h]
set_option maxRecDepth 100000 in
set_option maxHeartbeats 1000000 in
theorem count_one (s : ByteArray) (w : World) :
    Calls Tryd.prog 72 #[.string s, .string ⟨#[49]⟩] w fun e w' => e = .returned (.int .i64 (s.data.toList.count 49 : Nat)) ∧ w = w' := by
  go_enter Tryd.func72, Tryd.ntmps72
  go_wp2
  rw [run_callFunc_extern Tryd.func123 (by kernel_rfl) (by kernel_rfl) (by kernel_rfl) (e := Extern.BytealgCount.count) (by kernel_rfl), Lib.run_countString]
  simp only [Result.andThen]
  rw [Oper.upon_value]
  go_wp2
  go_ret
  exact ⟨rfl, rfl⟩
set_option maxHeartbeats 2000000 in
theorem CountPred_any (P : ByteArray) (hP : P.size ≤ 1000000000000) (w : World) : Calls Tryd.prog 26 #[.string P] w fun e w' => e = .returned (.int .i64 (cntP P.data.toList)) ∧ w = w' := by
  have V := Lib.hid (fun w => PredValid_any P hP w)
  unfold cntP
  cases hp : bOk 27 P.data.toList
  · rw [hp] at V
    simp only [Bool.false_eq_true, if_false]
    go_enter Tryd.func26, Tryd.ntmps26
    go_wp2_with fail
    refine (V.out _).mono ?_
    rintro e w' ⟨rfl, rfl⟩
    go_wp2_with fail
    go_ret
    exact ⟨rfl, rfl⟩
  · rw [hp] at V
    have X := Lib.hid (fun w => count_one P w)
    rw [count_of hp] at X
    simp only [if_true]
    clear hp
    go_enter Tryd.func26, Tryd.ntmps26
    go_wp2_with fail
    refine (V.out _).mono ?_
    rintro e w' ⟨rfl, rfl⟩
    go_wp2_with fail
    refine (X.out _).mono ?_
    rintro e w' ⟨rfl, rfl⟩
    go_wp2_with fail
    go_ret
    exact ⟨rfl, rfl⟩
set_option maxHeartbeats 1000000 in
theorem ppAnd_any (P Q : ByteArray) (hP : P.size ≤ 1000000000000) (hQ : Q.size ≤ 1000000000000) (w : World) : Calls Tryd.prog 27 #[.string P, .string Q] w fun e w' => (e = .returned (.string (bs (optB (both P Q (· && ·))))) ∧ Below w.heap.size w w') := by
  have X := Lib.hid (AndPred_any P Q hP hQ w)
  go_enter Tryd.func27, Tryd.ntmps27
  go_wp2_with fail
  refine X.out.mono ?_
  rintro e w1 ⟨rfl, hb1⟩
  have B1 := Lib.hid hb1
  clear hb1 X
  go_wp2_with fail
  go_ret
  exact ⟨rfl, B1.out⟩
set_option maxHeartbeats 1000000 in
theorem ppNot_any (P : ByteArray) (hP : P.size ≤ 1000000000000) (w : World) : Calls Tryd.prog 22 #[.string P] w fun e w' => (e = .returned (.string (bs (optB (notO P)))) ∧ Below w.heap.size w w') := by
  have X := Lib.hid (NotPred_any P hP w)
  go_enter Tryd.func22, Tryd.ntmps22
  go_wp2_with fail
  refine X.out.mono ?_
  rintro e w1 ⟨rfl, hb1⟩
  have B1 := Lib.hid hb1
  clear hb1 X
  go_wp2_with fail
  go_ret
  exact ⟨rfl, B1.out⟩
/-- a drawn set -/
def SetPost (w : World) (g p n k : Nat) (e : Ending) (w' : World) : Prop :=
  ∃ S : ByteArray, S.size ≤ n ∧ e = .returned (.string S) ∧ Drew w g p k w'
def Set27 (w : World) (g p k : Nat) (e : Ending) (w' : World) : Prop :=
  ∃ S : ByteArray, S.size = 27 ∧ e = .returned (.string S) ∧ Drew w g p k w'
theorem ByteRow.grown {w w' : World} {g b : Nat} {l : List UInt8} (h : ByteRow w b l) (hg : w.grownBy w' (some g)) (hne : b ≠ g) : ByteRow w' b l :=
  h.keep hg.size (hg.block b h.lt (fun e => hne (by injection e)))

end Go.Proofs.YtccjmahhebiphaaDoor

/- Drawn sets of states. -/
namespace Go.Proofs.YtccjmahhebiphaaDoor
open Go.RowKit
open Pl

theorem Rnd.put8 {w : World} {g p r i : Nat} {l : List UInt8} (h : Rnd w g p) (hr : ByteRow w r l) (hi : i < l.length) (hne : g ≠ r) (c : UInt8) : Rnd (w.setCell ⟨r, i, none⟩ (.int .u8 (c.toNat : Int))) g p := by
  obtain ⟨A, n, cap, hb, hn, hy⟩ := h
  refine ⟨A, n, cap, hb.far (p := ⟨r, i, none⟩) hne _, hn, ?_⟩
  rcases hy with hy | ⟨b, off, hA, hbg, hlt, hc⟩
  · exact .inl hy
  · refine .inr ⟨b, off, hA, hbg, ?_, fun j hj => ?_⟩
    · have := (grownBy_setCell w ⟨r, i, none⟩ (.int .u8 (c.toNat : Int))).size
      omega
    · obtain ⟨u, hu, hcu⟩ := hc j hj
      by_cases e : b = r ∧ off + j = i
      · obtain ⟨rfl, rfl⟩ := e
        exact ⟨c.toNat, by have := c.toNat_lt; omega, World.cell?_setCell_same w _ _ (hr.cell _ hi)⟩
      · exact ⟨u, hu, (World.cell?_setCell_other w _ _ _ (by intro h; injection h with h1 h2; exact e ⟨h1.symm, h2.symm⟩)).trans hcu⟩
theorem size_bits (n : Nat) (f : Nat → Bool) : (bs (bitsN n f)).size = n := by
  rw [← len_S, bs_list, bits_len]
theorem size_row {l : List UInt8} (h : l.length = 27) : (⟨l.toArray⟩ : ByteArray).size = 27 := by
  rw [← len_S]; exact h
theorem xyz_v : ∀ c ∈ (⟨#[120, 121, 122]⟩ : ByteArray).data.toList, isV false c = true := by
  intro c hc
  simp only [List.mem_cons, List.not_mem_nil, or_false] at hc
  rcases hc with rfl | rfl | rfl <;> rfl
set_option maxRecDepth 100000 in
set_option maxHeartbeats 4000000 in
theorem l2Of_big (S : ByteArray) (hS : S.size ≤ 100000) (k : Nd) (hk : ok false 1 k = true) (ht : S.data.toList = k.text) (w : World) :
    Calls Tryd.prog 92 #[.string S] w fun e w' => (e = .returned (.string (bs (predOf k))) ∧ Below w.heap.size w w') := by
  have s0 : small 0 := ⟨by omega, by omega⟩
  have HO := Lib.hid (fun i (hi : i < 27) w => holdsS_any S (by omega) (stX i) (stY i) (stZ i) 0 0 0 (stX_small i) (stY_small i) (stZ_small hi) s0 s0 s0 false k 0 [] w hk (by rw [List.drop_zero, List.append_nil]; exact ht))
  have hmk := run_make_row' (P := Tryd.prog) 22 5 (.int .u8 0) 1 Tryd.underlying22 u8_info rfl .i64 .i64 27 (by omega) (by omega)
  simp only [Int.cast_ofNat_Int] at hmk
  show Calls Tryd.prog 92 #[.string S] w fun e w' => (e = .returned (.string (bs (bitsN 27 (fun i => tru (envOf (stX i) (stY i) (stZ i) 0 0 0) k)))) ∧ Below w.heap.size w w')
  obtain ⟨bt, hbt⟩ : ∃ bt : Nat → Bool, (fun i => tru (envOf (stX i) (stY i) (stZ i) 0 0 0) k) = bt := ⟨_, rfl⟩
  rw [hbt]
  have HBT := Lib.hid (fun i => congrFun hbt i)
  have R0 : Hid (ByteRow (w.alloc (.cells (madeCells #[.int .u8 0] 27) 5)) w.heap.size (fillN (bitsN 27 bt) 0)) := by rw [part_zero, bits_len]; exact byteRow_made w 27
  have B0 := Lib.hid (below_n w (.cells (madeCells #[.int .u8 0] 27) 5))
  clear hbt s0 ht hk
  go_enter Tryd.func92, Tryd.ntmps92
  go_wp2_with fail
  go_loopg [4] 27 (fun gk i wr => ∃ k : Nat, k + gk = 27 ∧ i = .int .i64 k ∧ Hid (ByteRow wr w.heap.size (fillN (bitsN 27 bt) k)) ∧ Hid (Below w.heap.size w wr))
  case atStart => exact ⟨0, rfl, rfl, R0, B0⟩
  case round =>
    clear R0 B0 hmk
    obtain ⟨j, hj, rfl, R, B⟩ := hrel
    by_cases hlt : j < 27
    · have AT := Lib.hid (fun w => l2At_any j hlt w)
      have ON := Lib.hid (fun w => one_any (stX j) (stY j) (stZ j) w)
      have HX := Lib.hid (fun w => HO.out j hlt w)
      have hbj : tru (envOf (stX j) (stY j) (stZ j) 0 0 0) k = bt j := HBT.out j
      rw [hbj] at HX
      have BI := Lib.hid (fun w => l2Bit_any (bt j) w)
      generalize (k.text.length : Int) = lk at *
      generalize hxx : stX j = x at *
      generalize hyy : stY j = y at *
      generalize hzz : stZ j = z at *
      clear hxx hyy hzz hbj
      go_wp2_with fail
      refine (AT.out _).mono ?_
      rintro e w1 ⟨rfl, hb1⟩
      have R1 := Lib.hid (R.out.call hb1)
      have B1 := Lib.hid (below_2 B.out hb1)
      clear hb1
      go_wp2_with fail
      refine (ON.out _).mono ?_
      rintro e w2 ⟨rfl, hb2⟩
      have R2 := Lib.hid (R1.out.call hb2)
      have B2 := Lib.hid (below_2 B1.out hb2)
      clear hb2
      go_wp2_with fail
      refine (HX.out _).mono ?_
      rintro e w3 ⟨rfl, hb3⟩
      have r3 := R2.out.call hb3
      have B3 := Lib.hid (below_2 B2.out hb3)
      have hkl : j < (fillN (bitsN 27 bt) j).length := by rw [part_len _ _ (by rw [bits_len]; omega), bits_len]; exact hlt
      obtain ⟨⟨cv, hc⟩, hf⟩ := r3.any (i := j) hkl
      have R4 := Lib.hid (row_step r3 hlt)
      have B4 := Lib.hid (B3.out.setCell (p := ⟨w.heap.size, j, none⟩) (Nat.le_refl _) (.int .u8 ((bitC (bt j)).toNat : Int)))
      clear hb3 r3 hkl R R1 R2 B B1 B2 B3
      go_wp2_with fail
      refine (BI.out _).mono ?_
      rintro e w' ⟨rfl, rfl⟩
      go_wp2_with fail
      go_roundg (gk - 1)
      case measure => omega
      case rel => exact ⟨j + 1, by omega, by go_num, R4, B4⟩
    · obtain rfl : j = 27 := by omega
      have r := R.out
      have hpa := part_all (bitsN 27 bt)
      rw [bits_len] at hpa
      rw [hpa] at r
      have hback := bytes_back r (n := 27) (by rw [bits_len]) 27
      clear r R hpa hlt
      go_wp2_with fail
      go_ret
      exact ⟨rfl, B.out⟩
set_option maxRecDepth 100000 in
set_option maxHeartbeats 8000000 in
theorem l2Some_any (g p : Nat) (w : World) (hp : p ≤ 900000000) (hR : Rnd w g p) : Calls Tryd.prog 114 #[.pointer (some ⟨g, 0, none⟩)] w (Set27 w g p 2000) := by
  have HR := Lib.hid hR
  clear hR
  go_enter Tryd.func114, Tryd.ntmps114
  go_wp2_with fail
  refine (pick_any g p 3 w (by omega) (by omega) HR.out).mono ?_
  rintro e w0 ⟨v0, ⟨va0, vb0, _⟩, rfl, hg0, q0, qa0, qb0, hr0⟩
  have vc0 := vb0 (by omega)
  have R0 := Lib.hid hr0
  have G0 := Lib.hid hg0
  clear vb0 hr0 hg0
  by_cases h0 : 0 < v0
  · have c2 : cstT 2 = 1024 := rfl
    have DT := Lib.hid (drawTestN_any false ⟨#[120, 121, 122]⟩ xyz_v (by decide) g 2 q0 2 w0 rfl (by omega) (by omega) R0.out)
    go_wp2_with fail
    refine DT.out.mono ?_
    rintro e w1 ⟨S, ⟨N, hN, hSN⟩, s1, s2, rfl, hg1, q1, qa1, qb1, hr1⟩
    have ht : S.data.toList = N.text := by rw [hSN, bs_list]
    have LO := Lib.hid (fun w => l2Of_big S (by omega) N hN ht w)
    have hz := size_bits 27 (fun i => tru (envOf (stX i) (stY i) (stZ i) 0 0 0) N)
    have hpo : (bs (predOf N)).size = 27 := hz
    generalize bs (predOf N) = PO at *
    have R1 := Lib.hid hr1
    have G1 := Lib.hid (grown_trans G0.out hg1)
    clear hr1 hg1 ht hSN hN DT hz
    go_wp2_with fail
    refine (LO.out _).mono ?_
    rintro e w2 ⟨rfl, hb2⟩
    have B2 := Lib.hid hb2
    clear hb2 LO
    go_wp2_with fail
    go_ret
    exact ⟨PO, hpo, rfl, grown_below G1.out B2.out, q1, by omega, by omega, R1.out.below B2.out⟩
  · obtain rfl : v0 = 0 := by omega
    clear h0
    have hmk := run_make_row' (P := Tryd.prog) 22 5 (.int .u8 0) 1 Tryd.underlying22 u8_info rfl .i64 .i64 27 (by omega) (by omega)
    simp only [Int.cast_ofNat_Int] at hmk
    have hgl := R0.out.lt
    have RW0 : Hid (∃ l : List UInt8, l.length = 27 ∧ ByteRow (w0.alloc (.cells (madeCells #[.int .u8 0] 27) 5)) w0.heap.size l) := ⟨_, by simp, byteRow_made w0 27⟩
    have R1 := Lib.hid (R0.out.alloc (.cells (madeCells #[.int .u8 0] 27) 5))
    have G1 := Lib.hid (grown_trans G0.out (World.grownBy_alloc w0 (.cells (madeCells #[.int .u8 0] 27) 5) (some g)))
    have hbw := G0.out.size
    obtain ⟨bl, hbl⟩ : ∃ b, w0.heap.size = b := ⟨_, rfl⟩
    rw [hbl] at RW0 hbw hgl
    have hne : g ≠ bl := by omega
    have HBL := Lib.hid hbl
    go_wp2_with fail
    try rw [HBL.out]
    clear hbl
    go_loopg [4] 27 (fun gk i wr => ∃ k q : Nat, k + gk = 27 ∧ i = .int .i64 k ∧ q0 ≤ q ∧ q ≤ q0 + k ∧ Hid (∃ l : List UInt8, l.length = 27 ∧ ByteRow wr bl l) ∧ Hid (Rnd wr g q) ∧ Hid (w.grownBy wr (some g)))
    case atStart => exact ⟨0, q0, rfl, rfl, Nat.le_refl _, by omega, RW0, R1, G1⟩
    case round =>
      clear RW0 R1 G1 G0 R0 HR hmk HBL
      obtain ⟨j, q, hj, rfl, hq1, hq2, RW, R, G⟩ := hrel
      by_cases hlt : j < 27
      · go_wp2_with fail
        refine (pick_any g q 2 _ (by omega) (by omega) R.out).mono ?_
        rintro e w4 ⟨v4, _, rfl, hg4, q4, qa4, qb4, hr4⟩
        obtain ⟨l, hl, hrow⟩ := RW.out
        have r4 := hrow.grown hg4 (fun e => hne e.symm)
        have G4 := Lib.hid (grown_trans G.out hg4)
        have R4 := Lib.hid hr4
        obtain ⟨⟨cv, hcc⟩, hf⟩ := r4.any (i := j) (by omega)
        have HST : Hid (∀ c : UInt8, (∃ l : List UInt8, l.length = 27 ∧ ByteRow (w4.setCell ⟨bl, j, none⟩ (.int .u8 (c.toNat : Int))) bl l) ∧ Rnd (w4.setCell ⟨bl, j, none⟩ (.int .u8 (c.toNat : Int))) g q4 ∧ w.grownBy (w4.setCell ⟨bl, j, none⟩ (.int .u8 (c.toNat : Int))) (some g)) := fun c =>
          ⟨⟨_, by rw [List.length_set]; exact hl, r4.put (i := j) (by omega) c⟩, R4.out.put8 r4 (by omega) hne c, grown_put G4.out hbw j _⟩
        clear hrow hg4 hr4 r4 RW R G G4 R4
        by_cases hv : v4 = 0
        · subst hv
          have BI := Lib.hid (l2Bit_any true)
          have X := HST.out (bitC true)
          have X1 := Lib.hid X.1
          have X2 := Lib.hid X.2.1
          have X3 := Lib.hid X.2.2
          clear X HST
          go_wp2_with fail
          refine (BI.out _).mono ?_
          rintro e w' ⟨rfl, rfl⟩
          go_wp2_with fail
          go_roundg (gk - 1)
          case measure => omega
          case rel => exact ⟨j + 1, q4, by omega, by go_num, by omega, by omega, X1, X2, X3⟩
        · have hv' : (v4 == 0) = false := by simp; exact hv
          have BI := Lib.hid (l2Bit_any false)
          have X := HST.out (bitC false)
          have X1 := Lib.hid X.1
          have X2 := Lib.hid X.2.1
          have X3 := Lib.hid X.2.2
          clear X HST hv
          go_wp2_with fail
          refine (BI.out _).mono ?_
          rintro e w' ⟨rfl, rfl⟩
          go_wp2_with fail
          go_roundg (gk - 1)
          case measure => omega
          case rel => exact ⟨j + 1, q4, by omega, by go_num, by omega, by omega, X1, X2, X3⟩
      · obtain ⟨l, hl, hrow⟩ := RW.out
        have hback := bytes_back hrow (n := 27) hl.symm 27
        have hz := size_row hl
        generalize (⟨l.toArray⟩ : ByteArray) = RS at *
        have HZ := Lib.hid hz
        clear hrow hl hz RW
        obtain rfl : j = 27 := by omega
        clear hlt
        go_wp2_with fail
        go_ret
        exact ⟨RS, HZ.out, rfl, G.out, q, by omega, by omega, R.out⟩
set_option maxHeartbeats 4000000 in
theorem l2Bad_any (S : ByteArray) (g p : Nat) (w : World) (hz : S.size = 27) (hp : p ≤ 999999000) (hR : Rnd w g p) :
    Calls Tryd.prog 113 #[.pointer (some ⟨g, 0, none⟩), .string S] w (SetPost w g p 28 3) := by
  have HR := Lib.hid hR
  clear hR
  go_enter Tryd.func113, Tryd.ntmps113
  go_wp2_with fail
  refine (pick_any g p 40 w (by omega) (by omega) HR.out).mono ?_
  rintro e w0 ⟨v0, ⟨va0, vb0, _⟩, rfl, hg0, q0, qa0, qb0, hr0⟩
  have vc0 := vb0 (by omega)
  have R0 := Lib.hid hr0
  have G0 := Lib.hid hg0
  clear vb0 hr0 hg0
  by_cases h0 : v0 = 0
  · subst h0
    go_wp2_with fail
    go_ret
    exact ⟨_, by rw [size_append, size_one]; omega, rfl, G0.out, q0, by omega, by omega, R0.out⟩
  have e0 : (v0 == 0) = false := by simp; exact h0
  by_cases h1 : v0 = 1
  · subst h1
    clear h0 e0
    have eA := size_extract S 0 26 (by omega)
    go_wp2_with fail
    go_ret
    exact ⟨_, by rw [size_append, size_one, eA]; omega, rfl, G0.out, q0, by omega, by omega, R0.out⟩
  have e1 : (v0 == 1) = false := by simp; exact h1
  by_cases h2 : v0 = 2
  · subst h2
    clear h0 e0 h1 e1
    go_wp2_with fail
    go_ret
    exact ⟨_, by decide, rfl, G0.out, q0, by omega, by omega, R0.out⟩
  have e2 : (v0 == 2) = false := by simp; exact h2
  clear h0 h1 h2
  go_wp2_with fail
  go_ret
  exact ⟨S, by omega, rfl, G0.out, q0, by omega, by omega, R0.out⟩
set_option maxHeartbeats 4000000 in
theorem l2Open_any (g p : Nat) (w : World) (hp : p ≤ 800000000) (hR : Rnd w g p) : Calls Tryd.prog 53 #[.pointer (some ⟨g, 0, none⟩)] w (SetPost w g p 28 3000) := by
  have HR := Lib.hid hR
  clear hR
  go_enter Tryd.func53, Tryd.ntmps53
  go_wp2_with fail
  refine (l2Some_any g p w (by omega) HR.out).mono ?_
  rintro e w1 ⟨S1, z1, rfl, hg1, q1, qa1, qb1, hr1⟩
  have R1 := Lib.hid hr1
  have G1 := Lib.hid hg1
  clear hr1 hg1
  go_wp2_with fail
  refine (l2Bad_any S1 g q1 w1 z1 (by omega) R1.out).mono ?_
  rintro e w2 ⟨S2, z2, rfl, hg2, q2, qa2, qb2, hr2⟩
  have R2 := Lib.hid hr2
  have G2 := Lib.hid (grown_trans G1.out hg2)
  clear hr2 hg2
  go_wp2_with fail
  go_ret
  exact ⟨S2, z2, rfl, G2.out, q2, by omega, by omega, R2.out⟩

end Go.Proofs.YtccjmahhebiphaaDoor

/- Facts on sets of states put together. -/
namespace Go.Proofs.YtccjmahhebiphaaDoor
open Go.RowKit
open Pl

theorem cnt_congr {n : Nat} {f g : Nat → Bool} (h : ∀ i, i < n → f i = g i) : cnt n f = cnt n g := by
  unfold cnt
  apply List.countP_congr
  intro i hi
  rw [h i (by simpa using hi)]
theorem notO_some {P : ByteArray} (hp : bOk 27 P.data.toList = true) : optB (notO P) = bitsN 27 (fun i => !bt P.data.toList i) := by unfold notO; rw [hp]; rfl
theorem both_some {P Q : ByteArray} (f : Bool → Bool → Bool) (hp : bOk 27 P.data.toList = true) (hq : bOk 27 Q.data.toList = true) : optB (both P Q f) = bitsN 27 (fun i => f (bt P.data.toList i) (bt Q.data.toList i)) := by unfold both; rw [hp, hq]; rfl
theorem not_ok {P : ByteArray} (hp : bOk 27 P.data.toList = true) : bOk 27 (bs (optB (notO P))).data.toList = true := by rw [bs_list, notO_some hp]; exact bits_ok _ _
theorem both_ok {P Q : ByteArray} (f : Bool → Bool → Bool) (hp : bOk 27 P.data.toList = true) (hq : bOk 27 Q.data.toList = true) : bOk 27 (bs (optB (both P Q f))).data.toList = true := by rw [bs_list, both_some f hp hq]; exact bits_ok _ _
theorem bt_notO {P : ByteArray} (hp : bOk 27 P.data.toList = true) {i : Nat} (hi : i < 27) : bt (bs (optB (notO P))).data.toList i = !bt P.data.toList i := by rw [bs_list, notO_some hp, bt_bits hi]
theorem bt_both {P Q : ByteArray} (f : Bool → Bool → Bool) (hp : bOk 27 P.data.toList = true) (hq : bOk 27 Q.data.toList = true) {i : Nat} (hi : i < 27) : bt (bs (optB (both P Q f))).data.toList i = f (bt P.data.toList i) (bt Q.data.toList i) := by rw [bs_list, both_some f hp hq, bt_bits hi]
theorem ok_size {P : ByteArray} (hp : bOk 27 P.data.toList = true) : P.size = 27 := by rw [← len_S, bOk_len hp]
theorem cntP_ok {l : List UInt8} (h : bOk 27 l = true) : cntP l = cnt 27 (bt l) := by unfold cntP; rw [h]; rfl
theorem eq_of_bt {P Q : ByteArray} (hp : bOk 27 P.data.toList = true) (hq : bOk 27 Q.data.toList = true) (h : ∀ i, i < 27 → bt P.data.toList i = bt Q.data.toList i) : P = Q := by
  have e : P.data.toList = Q.data.toList := by rw [← bits_of hp, ← bits_of hq]; exact bits_congr h
  rw [← bs_of P, ← bs_of Q, e]
theorem bt_of_eq {P Q : ByteArray} (h : P = Q) (i : Nat) : bt P.data.toList i = bt Q.data.toList i := by rw [h]
theorem str_beq {P Q : ByteArray} {b : Bool} (h : P = Q ↔ b = true) : (P.toList == Q.toList) = b := by
  rw [Bool.eq_iff_iff, beq_iff_eq, ByteArray.toList_eq, ByteArray.toList_eq, ← h]
  constructor
  · intro e; rw [← bs_of P, ← bs_of Q, e]
  · intro e; rw [e]
theorem fact_cnt {P Q : ByteArray} (hp : bOk 27 P.data.toList = true) (hq : bOk 27 Q.data.toList = true) : (cntP (bs (optB (both P (bs (optB (notO Q))) (· && ·)))).data.toList == 0) = win P.data.toList Q.data.toList := by
  rw [cntP_ok (both_ok _ hp (not_ok hq)), Bool.eq_iff_iff, beq_iff_eq, win_iff]
  have h0 : ((cnt 27 (bt (bs (optB (both P (bs (optB (notO Q))) (· && ·)))).data.toList) : Int) = 0) ↔ cnt 27 (bt (bs (optB (both P (bs (optB (notO Q))) (· && ·)))).data.toList) = 0 := by omega
  rw [h0, cnt_zero]
  constructor
  · intro h i hi h1
    have h2 := h i hi
    rw [bt_both _ hp (not_ok hq) hi, bt_notO hq hi, h1] at h2
    simpa using h2
  · intro h i hi
    rw [bt_both _ hp (not_ok hq) hi, bt_notO hq hi]
    cases h1 : bt P.data.toList i
    · rfl
    · rw [h i hi h1]; rfl
theorem fact_or {P Q : ByteArray} (hp : bOk 27 P.data.toList = true) (hq : bOk 27 Q.data.toList = true) : ((bs (optB (both P Q (· || ·)))).toList == Q.toList) = win P.data.toList Q.data.toList := by
  apply str_beq
  rw [win_iff]
  constructor
  · intro h i hi h1
    have h2 := bt_of_eq h i
    rw [bt_both _ hp hq hi, h1] at h2
    exact h2.symm
  · intro h
    apply eq_of_bt (both_ok _ hp hq) hq
    intro i hi
    rw [bt_both _ hp hq hi]
    cases h1 : bt P.data.toList i
    · rfl
    · rw [h i hi h1]; rfl
theorem fact_not {P Q : ByteArray} (hp : bOk 27 P.data.toList = true) (hq : bOk 27 Q.data.toList = true) : winO (bs (optB (notO Q))).data.toList (bs (optB (notO P))).data.toList = win P.data.toList Q.data.toList := by
  unfold winO
  rw [not_ok hp, not_ok hq, Bool.true_and, Bool.true_and, Bool.eq_iff_iff, win_iff, win_iff]
  constructor
  · intro h i hi h1
    have h2 := h i hi
    rw [bt_notO hp hi, bt_notO hq hi, h1] at h2
    cases h3 : bt Q.data.toList i
    · rw [h3] at h2; simp at h2
    · rfl
  · intro h i hi h1
    rw [bt_notO hq hi] at h1
    rw [bt_notO hp hi]
    cases h3 : bt P.data.toList i
    · rfl
    · rw [h i hi h3] at h1; simp at h1
theorem fact_eq {P Q : ByteArray} (hp : bOk 27 P.data.toList = true) (hq : bOk 27 Q.data.toList = true) (h1 : win P.data.toList Q.data.toList = true) (h2 : win Q.data.toList P.data.toList = true) : P = Q := by
  apply eq_of_bt hp hq
  intro i hi
  rw [Bool.eq_iff_iff]
  exact ⟨win_iff.1 h1 i hi, win_iff.1 h2 i hi⟩

end Go.Proofs.YtccjmahhebiphaaDoor
