/- Drawn sets of states. -/
import Derived.Test.YtppcghklkldnaabPe
import Derived.Test.YtppcghklkldnaabDrf
import Derived.Test.YtppcghklkldnaabDrg
namespace Go.Proofs.Ytppcghklkldnaab
open Go.RowKit
open Pl

theorem Rnd.put8 {w : World} {g p r i : Nat} {l : List UInt8} (h : Rnd w g p) (hr : ByteRow w r l) (hi : i < l.length) (hne : g ≠ r) (c : UInt8) : Rnd (w.setCell ⟨r, i, none⟩ (.int .u8 (c.toNat : Int))) g p := by
  obtain ⟨A, n, cap, hb, hn, hy⟩ := h
  refine ⟨A, n, cap, hb.far (p := ⟨r, i, none⟩) hne _, hn, ?_⟩
  rcases hy with hy | ⟨b, off, hA, hbg, hlt, hc⟩
  · exact .inl hy
  · refine .inr ⟨b, off, hA, hbg, ?_, fun j hj => ?_⟩
    · have := (grownBy_setCell w ⟨r, i, none⟩ (.int .u8 (c.toNat : Int))).size
      omega
    · obtain ⟨u, hu, hcu⟩ := hc j hj
      by_cases e : b = r ∧ off + j = i
      · obtain ⟨rfl, rfl⟩ := e
        exact ⟨c.toNat, by have := c.toNat_lt; omega, World.cell?_setCell_same w _ _ (hr.cell _ hi)⟩
      · exact ⟨u, hu, (World.cell?_setCell_other w _ _ _ (by intro h; injection h with h1 h2; exact e ⟨h1.symm, h2.symm⟩)).trans hcu⟩
theorem size_bits (n : Nat) (f : Nat → Bool) : (bs (bitsN n f)).size = n := by
  rw [← len_S, bs_list, bits_len]
theorem size_row {l : List UInt8} (h : l.length = 27) : (⟨l.toArray⟩ : ByteArray).size = 27 := by
  rw [← len_S]; exact h
theorem xyz_v : ∀ c ∈ (⟨#[120, 121, 122]⟩ : ByteArray).data.toList, isV false c = true := by
  intro c hc
  simp only [List.mem_cons, List.not_mem_nil, or_false] at hc
  rcases hc with rfl | rfl | rfl <;> rfl
set_option maxRecDepth 100000 in
set_option maxHeartbeats 4000000 in
theorem l2Of_big (S : ByteArray) (hS : S.size ≤ 100000) (k : Nd) (hk : ok false 1 k = true) (ht : S.data.toList = k.text) (w : World) :
    Calls Try.prog 124 #[.string S] w fun e w' => (e = .returned (.string (bs (predOf k))) ∧ Below w.heap.size w w') := by
  have s0 : small 0 := ⟨by omega, by omega⟩
  have HO := Lib.hid (fun i (hi : i < 27) w => holdsS_any S (by omega) (stX i) (stY i) (stZ i) 0 0 0 (stX_small i) (stY_small i) (stZ_small hi) s0 s0 s0 false k 0 [] w hk (by rw [List.drop_zero, List.append_nil]; exact ht))
  have hmk := run_make_row' (P := Try.prog) 22 5 (.int .u8 0) 1 Try.underlying22 u8_info rfl .i64 .i64 27 (by omega) (by omega)
  simp only [Int.cast_ofNat_Int] at hmk
  show Calls Try.prog 124 #[.string S] w fun e w' => (e = .returned (.string (bs (bitsN 27 (fun i => tru (envOf (stX i) (stY i) (stZ i) 0 0 0) k)))) ∧ Below w.heap.size w w')
  obtain ⟨bt, hbt⟩ : ∃ bt : Nat → Bool, (fun i => tru (envOf (stX i) (stY i) (stZ i) 0 0 0) k) = bt := ⟨_, rfl⟩
  rw [hbt]
  have HBT := Lib.hid (fun i => congrFun hbt i)
  have R0 : Hid (ByteRow (w.alloc (.cells (madeCells #[.int .u8 0] 27) 5)) w.heap.size (fillN (bitsN 27 bt) 0)) := by rw [part_zero, bits_len]; exact byteRow_made w 27
  have B0 := Lib.hid (below_n w (.cells (madeCells #[.int .u8 0] 27) 5))
  clear hbt s0 ht hk
  go_enter Try.func124, Try.ntmps124
  go_wp2_with fail
  go_loopg [4] 27 (fun gk i wr => ∃ k : Nat, k + gk = 27 ∧ i = .int .i64 k ∧ Hid (ByteRow wr w.heap.size (fillN (bitsN 27 bt) k)) ∧ Hid (Below w.heap.size w wr))
  case atStart => exact ⟨0, rfl, rfl, R0, B0⟩
  case round =>
    clear R0 B0 hmk
    obtain ⟨j, hj, rfl, R, B⟩ := hrel
    by_cases hlt : j < 27
    · have AT := Lib.hid (fun w => l2At_any j hlt w)
      have ON := Lib.hid (fun w => one_any (stX j) (stY j) (stZ j) w)
      have HX := Lib.hid (fun w => HO.out j hlt w)
      have hbj : tru (envOf (stX j) (stY j) (stZ j) 0 0 0) k = bt j := HBT.out j
      rw [hbj] at HX
      have BI := Lib.hid (fun w => l2Bit_any (bt j) w)
      generalize (k.text.length : Int) = lk at *
      generalize hxx : stX j = x at *
      generalize hyy : stY j = y at *
      generalize hzz : stZ j = z at *
      clear hxx hyy hzz hbj
      go_wp2_with fail
      refine (AT.out _).mono ?_
      rintro e w1 ⟨rfl, hb1⟩
      have R1 := Lib.hid (R.out.call hb1)
      have B1 := Lib.hid (below_2 B.out hb1)
      clear hb1
      go_wp2_with fail
      refine (ON.out _).mono ?_
      rintro e w2 ⟨rfl, hb2⟩
      have R2 := Lib.hid (R1.out.call hb2)
      have B2 := Lib.hid (below_2 B1.out hb2)
      clear hb2
      go_wp2_with fail
      refine (HX.out _).mono ?_
      rintro e w3 ⟨rfl, hb3⟩
      have r3 := R2.out.call hb3
      have B3 := Lib.hid (below_2 B2.out hb3)
      have hkl : j < (fillN (bitsN 27 bt) j).length := by rw [part_len _ _ (by rw [bits_len]; omega), bits_len]; exact hlt
      obtain ⟨⟨cv, hc⟩, hf⟩ := r3.any (i := j) hkl
      have R4 := Lib.hid (row_step r3 hlt)
      have B4 := Lib.hid (B3.out.setCell (p := ⟨w.heap.size, j, none⟩) (Nat.le_refl _) (.int .u8 ((bitC (bt j)).toNat : Int)))
      clear hb3 r3 hkl R R1 R2 B B1 B2 B3
      go_wp2_with fail
      refine (BI.out _).mono ?_
      rintro e w' ⟨rfl, rfl⟩
      go_wp2_with fail
      go_roundg (gk - 1)
      case measure => omega
      case rel => exact ⟨j + 1, by omega, by go_num, R4, B4⟩
    · obtain rfl : j = 27 := by omega
      have r := R.out
      have hpa := part_all (bitsN 27 bt)
      rw [bits_len] at hpa
      rw [hpa] at r
      have hback := bytes_back r (n := 27) (by rw [bits_len]) 27
      clear r R hpa hlt
      go_wp2_with fail
      go_ret
      exact ⟨rfl, B.out⟩
set_option maxRecDepth 100000 in
set_option maxHeartbeats 8000000 in
theorem l2Some_any (g p : Nat) (w : World) (hp : p ≤ 900000000) (hR : Rnd w g p) : Calls Try.prog 93 #[.pointer (some ⟨g, 0, none⟩)] w (Set27 w g p 2000) := by
  have HR := Lib.hid hR
  clear hR
  go_enter Try.func93, Try.ntmps93
  go_wp2_with fail
  refine (pick_any g p 3 w (by omega) (by omega) HR.out).mono ?_
  rintro e w0 ⟨v0, ⟨va0, vb0, _⟩, rfl, hg0, q0, qa0, qb0, hr0⟩
  have vc0 := vb0 (by omega)
  have R0 := Lib.hid hr0
  have G0 := Lib.hid hg0
  clear vb0 hr0 hg0
  by_cases h0 : 0 < v0
  · have c2 : cstT 2 = 1024 := rfl
    have DT := Lib.hid (drawTestN_any false ⟨#[120, 121, 122]⟩ xyz_v (by decide) g 2 q0 2 w0 rfl (by omega) (by omega) R0.out)
    go_wp2_with fail
    refine DT.out.mono ?_
    rintro e w1 ⟨S, ⟨N, hN, hSN⟩, s1, s2, rfl, hg1, q1, qa1, qb1, hr1⟩
    have ht : S.data.toList = N.text := by rw [hSN, bs_list]
    have LO := Lib.hid (fun w => l2Of_big S (by omega) N hN ht w)
    have hz := size_bits 27 (fun i => tru (envOf (stX i) (stY i) (stZ i) 0 0 0) N)
    have hpo : (bs (predOf N)).size = 27 := hz
    generalize bs (predOf N) = PO at *
    have R1 := Lib.hid hr1
    have G1 := Lib.hid (grown_trans G0.out hg1)
    clear hr1 hg1 ht hSN hN DT hz
    go_wp2_with fail
    refine (LO.out _).mono ?_
    rintro e w2 ⟨rfl, hb2⟩
    have B2 := Lib.hid hb2
    clear hb2 LO
    go_wp2_with fail
    go_ret
    exact ⟨PO, hpo, rfl, grown_below G1.out B2.out, q1, by omega, by omega, R1.out.below B2.out⟩
  · obtain rfl : v0 = 0 := by omega
    clear h0
    have hmk := run_make_row' (P := Try.prog) 22 5 (.int .u8 0) 1 Try.underlying22 u8_info rfl .i64 .i64 27 (by omega) (by omega)
    simp only [Int.cast_ofNat_Int] at hmk
    have hgl := R0.out.lt
    have RW0 : Hid (∃ l : List UInt8, l.length = 27 ∧ ByteRow (w0.alloc (.cells (madeCells #[.int .u8 0] 27) 5)) w0.heap.size l) := ⟨_, by simp, byteRow_made w0 27⟩
    have R1 := Lib.hid (R0.out.alloc (.cells (madeCells #[.int .u8 0] 27) 5))
    have G1 := Lib.hid (grown_trans G0.out (World.grownBy_alloc w0 (.cells (madeCells #[.int .u8 0] 27) 5) (some g)))
    have hbw := G0.out.size
    obtain ⟨bl, hbl⟩ : ∃ b, w0.heap.size = b := ⟨_, rfl⟩
    rw [hbl] at RW0 hbw hgl
    have hne : g ≠ bl := by omega
    have HBL := Lib.hid hbl
    go_wp2_with fail
    try rw [HBL.out]
    clear hbl
    go_loopg [4] 27 (fun gk i wr => ∃ k q : Nat, k + gk = 27 ∧ i = .int .i64 k ∧ q0 ≤ q ∧ q ≤ q0 + k ∧ Hid (∃ l : List UInt8, l.length = 27 ∧ ByteRow wr bl l) ∧ Hid (Rnd wr g q) ∧ Hid (w.grownBy wr (some g)))
    case atStart => exact ⟨0, q0, rfl, rfl, Nat.le_refl _, by omega, RW0, R1, G1⟩
    case round =>
      clear RW0 R1 G1 G0 R0 HR hmk HBL
      obtain ⟨j, q, hj, rfl, hq1, hq2, RW, R, G⟩ := hrel
      by_cases hlt : j < 27
      · go_wp2_with fail
        refine (pick_any g q 2 _ (by omega) (by omega) R.out).mono ?_
        rintro e w4 ⟨v4, _, rfl, hg4, q4, qa4, qb4, hr4⟩
        obtain ⟨l, hl, hrow⟩ := RW.out
        have r4 := hrow.grown hg4 (fun e => hne e.symm)
        have G4 := Lib.hid (grown_trans G.out hg4)
        have R4 := Lib.hid hr4
        obtain ⟨⟨cv, hcc⟩, hf⟩ := r4.any (i := j) (by omega)
        have HST : Hid (∀ c : UInt8, (∃ l : List UInt8, l.length = 27 ∧ ByteRow (w4.setCell ⟨bl, j, none⟩ (.int .u8 (c.toNat : Int))) bl l) ∧ Rnd (w4.setCell ⟨bl, j, none⟩ (.int .u8 (c.toNat : Int))) g q4 ∧ w.grownBy (w4.setCell ⟨bl, j, none⟩ (.int .u8 (c.toNat : Int))) (some g)) := fun c =>
          ⟨⟨_, by rw [List.length_set]; exact hl, r4.put (i := j) (by omega) c⟩, R4.out.put8 r4 (by omega) hne c, grown_put G4.out hbw j _⟩
        clear hrow hg4 hr4 r4 RW R G G4 R4
        by_cases hv : v4 = 0
        · subst hv
          have BI := Lib.hid (l2Bit_any true)
          have X := HST.out (bitC true)
          have X1 := Lib.hid X.1
          have X2 := Lib.hid X.2.1
          have X3 := Lib.hid X.2.2
          clear X HST
          go_wp2_with fail
          refine (BI.out _).mono ?_
          rintro e w' ⟨rfl, rfl⟩
          go_wp2_with fail
          go_roundg (gk - 1)
          case measure => omega
          case rel => exact ⟨j + 1, q4, by omega, by go_num, by omega, by omega, X1, X2, X3⟩
        · have hv' : (v4 == 0) = false := by simp; exact hv
          have BI := Lib.hid (l2Bit_any false)
          have X := HST.out (bitC false)
          have X1 := Lib.hid X.1
          have X2 := Lib.hid X.2.1
          have X3 := Lib.hid X.2.2
          clear X HST hv
          go_wp2_with fail
          refine (BI.out _).mono ?_
          rintro e w' ⟨rfl, rfl⟩
          go_wp2_with fail
          go_roundg (gk - 1)
          case measure => omega
          case rel => exact ⟨j + 1, q4, by omega, by go_num, by omega, by omega, X1, X2, X3⟩
      · obtain ⟨l, hl, hrow⟩ := RW.out
        have hback := bytes_back hrow (n := 27) hl.symm 27
        have hz := size_row hl
        generalize (⟨l.toArray⟩ : ByteArray) = RS at *
        have HZ := Lib.hid hz
        clear hrow hl hz RW
        obtain rfl : j = 27 := by omega
        clear hlt
        go_wp2_with fail
        go_ret
        exact ⟨RS, HZ.out, rfl, G.out, q, by omega, by omega, R.out⟩
set_option maxHeartbeats 4000000 in
theorem l2Bad_any (S : ByteArray) (g p : Nat) (w : World) (hz : S.size = 27) (hp : p ≤ 999999000) (hR : Rnd w g p) :
    Calls Try.prog 92 #[.pointer (some ⟨g, 0, none⟩), .string S] w (SetPost w g p 28 3) := by
  have HR := Lib.hid hR
  clear hR
  go_enter Try.func92, Try.ntmps92
  go_wp2_with fail
  refine (pick_any g p 40 w (by omega) (by omega) HR.out).mono ?_
  rintro e w0 ⟨v0, ⟨va0, vb0, _⟩, rfl, hg0, q0, qa0, qb0, hr0⟩
  have vc0 := vb0 (by omega)
  have R0 := Lib.hid hr0
  have G0 := Lib.hid hg0
  clear vb0 hr0 hg0
  by_cases h0 : v0 = 0
  · subst h0
    go_wp2_with fail
    go_ret
    exact ⟨_, by rw [size_append, size_one]; omega, rfl, G0.out, q0, by omega, by omega, R0.out⟩
  have e0 : (v0 == 0) = false := by simp; exact h0
  by_cases h1 : v0 = 1
  · subst h1
    clear h0 e0
    have eA := size_extract S 0 26 (by omega)
    go_wp2_with fail
    go_ret
    exact ⟨_, by rw [size_append, size_one, eA]; omega, rfl, G0.out, q0, by omega, by omega, R0.out⟩
  have e1 : (v0 == 1) = false := by simp; exact h1
  by_cases h2 : v0 = 2
  · subst h2
    clear h0 e0 h1 e1
    go_wp2_with fail
    go_ret
    exact ⟨_, by decide, rfl, G0.out, q0, by omega, by omega, R0.out⟩
  have e2 : (v0 == 2) = false := by simp; exact h2
  clear h0 h1 h2
  go_wp2_with fail
  go_ret
  exact ⟨S, by omega, rfl, G0.out, q0, by omega, by omega, R0.out⟩
set_option maxHeartbeats 4000000 in
theorem l2Open_any (g p : Nat) (w : World) (hp : p ≤ 800000000) (hR : Rnd w g p) : Calls Try.prog 50 #[.pointer (some ⟨g, 0, none⟩)] w (SetPost w g p 28 3000) := by
  have HR := Lib.hid hR
  clear hR
  go_enter Try.func50, Try.ntmps50
  go_wp2_with fail
  refine (l2Some_any g p w (by omega) HR.out).mono ?_
  rintro e w1 ⟨S1, z1, rfl, hg1, q1, qa1, qb1, hr1⟩
  have R1 := Lib.hid hr1
  have G1 := Lib.hid hg1
  clear hr1 hg1
  go_wp2_with fail
  refine (l2Bad_any S1 g q1 w1 z1 (by omega) R1.out).mono ?_
  rintro e w2 ⟨S2, z2, rfl, hg2, q2, qa2, qb2, hr2⟩
  have R2 := Lib.hid hr2
  have G2 := Lib.hid (grown_trans G1.out hg2)
  clear hr2 hg2
  go_wp2_with fail
  go_ret
  exact ⟨S2, z2, rfl, G2.out, q2, by omega, by omega, R2.out⟩
set_option maxHeartbeats 8000000 in
theorem l2Two_any (g p : Nat) (w : World) (hp : p ≤ 700000000) (hR : Rnd w g p) : Calls Try.prog 61 #[.pointer (some ⟨g, 0, none⟩)] w fun e w' => ∃ P Q : ByteArray, P.size ≤ 28 ∧ Q.size ≤ 28 ∧ e = .returned (.tuple #[.string P, .string Q]) ∧ w.grownBy w' (some g) := by
  have HR := Lib.hid hR
  clear hR
  go_enter Try.func61, Try.ntmps61
  go_wp2_with fail
  refine (l2Open_any g p w (by omega) HR.out).mono ?_
  rintro e w1 ⟨S1, z1, rfl, hg1, q1, qa1, qb1, hr1⟩
  have R1 := Lib.hid hr1
  have G1 := Lib.hid hg1
  clear hr1 hg1
  go_wp2_with fail
  refine (l2Some_any g q1 w1 (by omega) R1.out).mono ?_
  rintro e w2 ⟨S2, z2, rfl, hg2, q2, qa2, qb2, hr2⟩
  have R2 := Lib.hid hr2
  have G2 := Lib.hid (grown_trans G1.out hg2)
  clear hr2 hg2
  have LB := Lib.hid (fun (S : ByteArray) q w (hz : S.size = 27) (hq : q ≤ 999999000) h => l2Bad_any S g q w hz hq h)
  by_cases hs : S1.size = 27
  · have LO := Lib.hid (fun w => l2Or_any S1 S2 (hs.trans z2.symm) (by omega) w)
    rw [hs] at LO
    have hz := size_bits 27 (fun i => bt S1.data.toList i || bt S2.data.toList i)
    generalize bs (bitsN 27 (fun i => bt S1.data.toList i || bt S2.data.toList i)) = O at *
    go_wp2_with fail
    refine (pick_any g q2 3 w2 (by omega) (by omega) R2.out).mono ?_
    rintro e w3 ⟨v3, ⟨va3, vb3, _⟩, rfl, hg3, q3, qa3, qb3, hr3⟩
    have vc3 := vb3 (by omega)
    have R3 := Lib.hid hr3
    have G3 := Lib.hid (grown_trans G2.out hg3)
    clear vb3 hr3 hg3
    by_cases hv : v3 = 0
    · subst hv
      go_wp2_with fail
      refine (LO.out _).mono ?_
      rintro e w4 ⟨rfl, hb4⟩
      have R4 := Lib.hid (R3.out.below hb4)
      have G4 := Lib.hid (grown_below G3.out hb4)
      clear hb4 LO
      have X := Lib.hid (LB.out O q3 w4 hz (by omega) R4.out)
      go_wp2_with fail
      refine X.out.mono ?_
      rintro e w5 ⟨S5, z5, rfl, hg5, _⟩
      have G5 := Lib.hid (grown_trans G4.out hg5)
      clear hg5
      go_wp2_with fail
      go_ret2
      exact ⟨S1, S5, by omega, z5, (by first | trivial | rfl), G5.out⟩
    · have hv' : (v3 == 0) = false := by simp; exact hv
      clear hv LO
      have X := Lib.hid (LB.out S2 q3 w3 z2 (by omega) R3.out)
      go_wp2_with fail
      refine X.out.mono ?_
      rintro e w5 ⟨S5, z5, rfl, hg5, _⟩
      have G5 := Lib.hid (grown_trans G3.out hg5)
      clear hg5
      go_wp2_with fail
      go_ret2
      exact ⟨S1, S5, by omega, z5, (by first | trivial | rfl), G5.out⟩
  · have hs' : ((S1.size : Int) == 27) = false := by simp; omega
    have X := Lib.hid (LB.out S2 q2 w2 z2 (by omega) R2.out)
    clear hs
    go_wp2_with fail
    refine X.out.mono ?_
    rintro e w5 ⟨S5, z5, rfl, hg5, _⟩
    have G5 := Lib.hid (grown_trans G2.out hg5)
    clear hg5
    go_wp2_with fail
    go_ret2
    exact ⟨S1, S5, by omega, z5, (by first | trivial | rfl), G5.out⟩
set_option maxHeartbeats 4000000 in
theorem DrawAndPred_any (A : Option Addr) (n cap : Nat) (w : World) (hn : n ≤ 4000000000000) (hc : n ≤ cap) (h : Bytes w A n w.heap.size) :
    Calls Try.prog 25 #[.slice A n cap] w fun e w' => (∃ P Q : ByteArray, P.size ≤ 28 ∧ Q.size ≤ 28 ∧ e = .returned (.tuple #[.string P, .string Q]) ∧ Below w.heap.size w w') := by
  have O := Lib.hid (open_ex A n cap w hn hc h)
  clear h
  go_enter Try.func25, Try.ntmps25
  go_wp2_with fail
  refine O.out.mono ?_
  rintro e w0 ⟨g, hg0, rfl, hr0, hb0⟩
  have R0 := Lib.hid hr0
  have G0 : Hid (w.grownBy w0 (some g)) := Lib.hid (grown_of_below hb0 _)
  clear hr0 hb0 O
  go_wp2_with fail
  refine (l2Two_any g 0 w0 (by omega) R0.out).mono ?_
  rintro e w1 ⟨P, Q, hP, hQ, rfl, hg1⟩
  have G1 := Lib.hid (grown_trans G0.out hg1)
  clear hg1
  go_wp2_with fail
  go_ret2
  exact ⟨P, Q, hP, hQ, (by first | trivial | rfl), below_src G1.out hg0⟩
set_option maxHeartbeats 4000000 in
theorem DrawPredWithin_any (A : Option Addr) (n cap : Nat) (w : World) (hn : n ≤ 4000000000000) (hc : n ≤ cap) (h : Bytes w A n w.heap.size) :
    Calls Try.prog 19 #[.slice A n cap] w fun e w' => (∃ P Q : ByteArray, P.size ≤ 28 ∧ Q.size ≤ 28 ∧ e = .returned (.tuple #[.string P, .string Q]) ∧ Below w.heap.size w w') := by
  have O := Lib.hid (open_ex A n cap w hn hc h)
  clear h
  go_enter Try.func19, Try.ntmps19
  go_wp2_with fail
  refine O.out.mono ?_
  rintro e w0 ⟨g, hg0, rfl, hr0, hb0⟩
  have R0 := Lib.hid hr0
  have G0 : Hid (w.grownBy w0 (some g)) := Lib.hid (grown_of_below hb0 _)
  clear hr0 hb0 O
  go_wp2_with fail
  refine (l2Two_any g 0 w0 (by omega) R0.out).mono ?_
  rintro e w1 ⟨P, Q, hP, hQ, rfl, hg1⟩
  have G1 := Lib.hid (grown_trans G0.out hg1)
  clear hg1
  go_wp2_with fail
  go_ret2
  exact ⟨P, Q, hP, hQ, (by first | trivial | rfl), below_src G1.out hg0⟩
set_option maxHeartbeats 4000000 in
theorem DrawFirstState_any (A : Option Addr) (n cap : Nat) (w : World) (hn : n ≤ 4000000000000) (hc : n ≤ cap) (h : Bytes w A n w.heap.size) :
    Calls Try.prog 10 #[.slice A n cap] w fun e w' => (∃ P : ByteArray, P.size ≤ 28 ∧ e = .returned (.string P) ∧ Below w.heap.size w w') := by
  have O := Lib.hid (open_ex A n cap w hn hc h)
  clear h
  go_enter Try.func10, Try.ntmps10
  go_wp2_with fail
  refine O.out.mono ?_
  rintro e w0 ⟨g, hg0, rfl, hr0, hb0⟩
  have R0 := Lib.hid hr0
  have G0 : Hid (w.grownBy w0 (some g)) := Lib.hid (grown_of_below hb0 _)
  clear hr0 hb0 O
  go_wp2_with fail
  refine (l2Open_any g 0 w0 (by omega) R0.out).mono ?_
  rintro e w1 ⟨P, hP, rfl, hg1, _⟩
  have G1 := Lib.hid (grown_trans G0.out hg1)
  clear hg1
  go_wp2_with fail
  go_ret
  exact ⟨P, hP, rfl, below_src G1.out hg0⟩

end Go.Proofs.Ytppcghklkldnaab
