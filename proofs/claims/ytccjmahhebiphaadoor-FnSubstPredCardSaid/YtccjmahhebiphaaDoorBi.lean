/- States with a number; texts of bitsN; the set of a test: the program's and the reference's. -/
import Derived.Test.YtccjmahhebiphaaDoorGa
import Derived.Test.YtccjmahhebiphaaDoorGb
import Derived.Test.YtccjmahhebiphaaDoorGe
import Derived.Deep.OwnRows
namespace Go.Proofs.YtccjmahhebiphaaDoor
open Go.RowKit
open Pl

theorem u8_info : (Tryd.prog.info? 5).map (fun i => (i.zero, i.size, i.bytes)) = some (some (.int .u8 0), 1, 1) := by kernel_rfl
theorem byteRow_made (w : World) (n : Nat) : ByteRow (w.alloc (.cells (madeCells #[.int .u8 0] n) 5)) w.heap.size (List.replicate n 0) := by
  have hB := Blk.new w 5 (madeCells #[.int .u8 0] n)
  refine ⟨hB.lt, fun i hi => ?_, fun i _ => hB.frozen i⟩
  have hi' : i < n := by simpa using hi
  rw [hB.cell i]
  simp [madeCells, hi', Nat.mod_one]
theorem ByteRow.any {w : World} {g i : Nat} {l : List UInt8} (h : ByteRow w g l) (hi : i < l.length) : (∃ c : UInt8, w.cell? ⟨g, i, none⟩ = some (.int .u8 (c.toNat : Int))) ∧ w.frozen? ⟨g, i, none⟩ = false := ⟨⟨_, h.cell i hi⟩, h.free i hi⟩
theorem bit_yes : ((bitC true).toNat : Int) = 49 := rfl
theorem bit_no : ((bitC false).toNat : Int) = 48 := rfl
/-- one round of a row that is filled from the left -/
theorem row_step {w : World} {g k n : Nat} {bt : Nat → Bool} (h : ByteRow w g (fillN (bitsN n bt) k)) (hk : k < n) : ByteRow (w.setCell ⟨g, k, none⟩ (.int .u8 ((bitC (bt k)).toNat : Int))) g (fillN (bitsN n bt) (k + 1)) := by
  have hl : k < (bitsN n bt).length := by rw [bits_len]; exact hk
  have h2 := h.put (i := k) (by rw [part_len _ _ (by omega)]; exact hl) (bitsN n bt)[k]
  rw [part_put hl, bits_get hl] at h2
  exact h2
theorem row_step1 {w : World} {g k n : Nat} {bt : Nat → Bool} (h : ByteRow w g (fillN (bitsN n bt) k)) (hk : k < n) (c : UInt8) : ByteRow (w.setCell ⟨g, k, none⟩ (.int .u8 (c.toNat : Int))) g ((fillN (bitsN n bt) k).set k c) :=
  h.put (i := k) (by rw [part_len _ _ (by rw [bits_len]; omega), bits_len]; exact hk) c
theorem row_step2 {w : World} {g k n : Nat} {bt : Nat → Bool} {c : UInt8} (h : ByteRow w g ((fillN (bitsN n bt) k).set k c)) (hk : k < n) : ByteRow (w.setCell ⟨g, k, none⟩ (.int .u8 ((bitC (bt k)).toNat : Int))) g (fillN (bitsN n bt) (k + 1)) := by
  have hl : k < (bitsN n bt).length := by rw [bits_len]; exact hk
  have h2 := h.put (i := k) (by rw [List.length_set, part_len _ _ (by omega)]; exact hl) (bitsN n bt)[k]
  rw [part_put2 hl, bits_get hl] at h2
  exact h2
theorem row_step0 {w : World} {g k n : Nat} {bt : Nat → Bool} {c : UInt8} (h : ByteRow w g ((fillN (bitsN n bt) k).set k c)) (hk : k < n) (hc : c = bitC (bt k)) : ByteRow w g (fillN (bitsN n bt) (k + 1)) := by
  have hl : k < (bitsN n bt).length := by rw [bits_len]; exact hk
  have e : (fillN (bitsN n bt) k).set k c = fillN (bitsN n bt) (k + 1) := by rw [hc, ← bits_get hl, part_put hl]
  rw [← e]; exact h
set_option maxHeartbeats 1000000 in
theorem stateAt_any (i : Nat) (hi : i < 27) (w : World) : Calls Tryd.prog 89 #[.int .i64 (i : Int)] w fun e w' => (e = .returned (.agg #[.int .i64 (stX i), .int .i64 (stY i), .int .i64 (stZ i)]) ∧ Below w.heap.size w w') := by
  go_enter Tryd.func89, Tryd.ntmps89
  go_wp2_with fail
  exact bodyPost_ret (v := .agg #[.int .i64 (stX i), .int .i64 (stY i), .int .i64 (stZ i)]) (by simp [results, Tryd.results89, go_sem]; exact ⟨rfl, rfl, rfl⟩) rfl
    ⟨rfl, by first | exact below_n w _ | exact ((below_n w _).setCell (Nat.le_refl _) _) | exact (((below_n w _).setCell (Nat.le_refl _) _).setCell (Nat.le_refl _) _).setCell (Nat.le_refl _) _⟩
set_option maxHeartbeats 1000000 in
theorem l2At_any (i : Nat) (hi : i < 27) (w : World) : Calls Tryd.prog 59 #[.int .i64 (i : Int)] w fun e w' => (e = .returned (.agg #[.int .i64 (stX i), .int .i64 (stY i), .int .i64 (stZ i)]) ∧ Below w.heap.size w w') := by
  go_enter Tryd.func59, Tryd.ntmps59
  go_wp2_with fail
  exact bodyPost_ret (v := .agg #[.int .i64 (stX i), .int .i64 (stY i), .int .i64 (stZ i)]) (by simp [results, Tryd.results59, go_sem]; exact ⟨rfl, rfl, rfl⟩) rfl
    ⟨rfl, by first | exact below_n w _ | exact ((below_n w _).setCell (Nat.le_refl _) _) | exact (((below_n w _).setCell (Nat.le_refl _) _).setCell (Nat.le_refl _) _).setCell (Nat.le_refl _) _⟩
set_option maxHeartbeats 1000000 in
theorem l2Bit_any (b : Bool) (w : World) : Calls Tryd.prog 121 #[.bool b] w fun e w' => e = .returned (.int .u8 ((bitC b).toNat : Int)) ∧ w = w' := by
  cases b
  all_goals
    go_enter Tryd.func121, Tryd.ntmps121
    go_wp2_with fail
    go_ret
    exact ⟨rfl, rfl⟩
set_option maxRecDepth 100000 in
set_option maxHeartbeats 4000000 in
theorem bits_PredOf (n : Nat) (hn : n ≤ 1000) (bt : Nat → Bool) (v0 : Value) (w : World)
    (HF : ∀ i : Nat, i < n → ∀ W, Below w.heap.size w W → Calls Tryd.prog 87 #[.int .i64 (i : Int), v0] W fun e W' => e = .returned (.bool (bt i)) ∧ Below W.heap.size W W') :
    Calls Tryd.prog 119 #[.int .i64 (n : Int), .func (.func 87) #[] #[v0]] w fun e w' => (e = .returned (.string (bs (bitsN n bt))) ∧ Below w.heap.size w w') := by
  have hmk := run_make_row' (P := Tryd.prog) 22 5 (.int .u8 0) 1 Tryd.underlying22 u8_info rfl .i64 .i64 n (by omega) (by omega)
  have R0 : Hid (ByteRow (w.alloc (.cells (madeCells #[.int .u8 0] n) 5)) w.heap.size (fillN (bitsN n bt) 0)) := by rw [part_zero, bits_len]; exact byteRow_made w n
  have B0 := Lib.hid (below_n w (.cells (madeCells #[.int .u8 0] n) 5))
  have HH := Lib.hid HF
  clear HF
  go_enter Tryd.func119, Tryd.ntmps119
  go_wp2_with fail
  go_loopg [11] n (fun gk i wr => ∃ k : Nat, k + gk = n ∧ i = .int .i64 k ∧ Hid (ByteRow wr w.heap.size (fillN (bitsN n bt) k)) ∧ Hid (Below w.heap.size w wr))
  case atStart => exact ⟨0, by simp, rfl, R0, B0⟩
  case round =>
    clear R0 B0 hmk
    obtain ⟨k, hk, rfl, R, B⟩ := hrel
    by_cases hlt : k < n
    · have R1 := Lib.hid (row_step1 R.out hlt 48)
      have B1 := Lib.hid (B.out.setCell (p := ⟨w.heap.size, k, none⟩) (Nat.le_refl _) (.int .u8 48))
      obtain ⟨⟨cv, hc⟩, hf⟩ := R.out.any (i := k) (by rw [part_len _ _ (by rw [bits_len]; omega), bits_len]; exact hlt)
      have FX := Lib.hid (HH.out k hlt _ B1.out)
      cases hb : bt k
      · rw [hb] at FX
        have HB := Lib.hid hb
        clear hb R B
        go_wp2_with fail
        refine FX.out.mono ?_
        rintro e w2 ⟨rfl, hb2⟩
        have R2 : Hid (ByteRow w2 w.heap.size (fillN (bitsN n bt) (k + 1))) := row_step0 (R1.out.call hb2) hlt (by rw [HB.out]; rfl)
        have B2 := Lib.hid (below_2 B1.out hb2)
        clear hb2 R1 B1 FX hc hf
        go_wp2_with fail
        go_roundg (gk - 1)
        case measure => omega
        case rel => exact ⟨k + 1, by omega, by go_num, R2, B2⟩
      · rw [hb] at FX
        have HB := Lib.hid hb
        clear hb R B
        go_wp2_with fail
        refine FX.out.mono ?_
        rintro e w2 ⟨rfl, hb2⟩
        have r2 := R1.out.call hb2
        have hkl : k < ((fillN (bitsN n bt) k).set k 48).length := by rw [List.length_set, part_len _ _ (by rw [bits_len]; omega), bits_len]; exact hlt
        obtain ⟨⟨cv2, hc2⟩, hf2⟩ := r2.any (i := k) hkl
        have R2 : Hid (ByteRow (w2.setCell ⟨w.heap.size, k, none⟩ (.int .u8 49)) w.heap.size (fillN (bitsN n bt) (k + 1))) := by
          have := row_step2 r2 hlt
          rw [HB.out] at this
          exact this
        have B2 := Lib.hid ((below_2 B1.out hb2).setCell (p := ⟨w.heap.size, k, none⟩) (Nat.le_refl _) (.int .u8 49))
        clear hb2 R1 B1 FX hc hf r2 hkl
        go_wp2_with fail
        go_roundg (gk - 1)
        case measure => omega
        case rel => exact ⟨k + 1, by omega, by go_num, R2, B2⟩
    · obtain rfl : k = n := by omega
      have r := R.out
      have hpa := part_all (bitsN k bt)
      rw [bits_len] at hpa
      rw [hpa] at r
      have hback := bytes_back r (n := k) (by rw [bits_len]) k
      clear r R hpa hlt
      go_wp2_with fail
      go_ret
      exact ⟨rfl, B.out⟩
set_option maxHeartbeats 1000000 in
theorem set_PredOf (bt : Nat → Bool) (v0 : Value) (w : World)
    (HF : ∀ i : Nat, i < 27 → ∀ W, Below w.heap.size w W → Calls Tryd.prog 87 #[.int .i64 (i : Int), v0] W fun e W' => e = .returned (.bool (bt i)) ∧ Below W.heap.size W W') :
    Calls Tryd.prog 63 #[.func (.func 87) #[] #[v0]] w fun e w' => (e = .returned (.string (bs (bitsN 27 bt))) ∧ Below w.heap.size w w') := by
  have B := Lib.hid (bits_PredOf 27 (by omega) bt v0 w HF)
  clear HF
  go_enter Tryd.func63, Tryd.ntmps63
  go_wp2_with fail
  refine B.out.mono ?_
  rintro e w1 ⟨rfl, hb1⟩
  have B1 := Lib.hid hb1
  clear hb1
  go_wp2_with fail
  go_ret
  exact ⟨rfl, B1.out⟩
set_option maxHeartbeats 2000000 in
theorem predOf1_any (k : Nd) (hk : ok false 1 k = true) (i : Nat) (hi : i < 27) (c b : Nat) (W : World) (hc : W.cell? ⟨c, 0, none⟩ = some (.pointer (some ⟨b, 0, none⟩))) (hcl : c < W.heap.size) (hin : In W k b) :
    Calls Tryd.prog 87 #[.int .i64 (i : Int), .pointer (some ⟨c, 0, none⟩)] W fun e W' => e = .returned (.bool (tru (envOf (stX i) (stY i) (stZ i) 0 0 0) k)) ∧ Below W.heap.size W W' := by
  have s0 : small 0 := ⟨by omega, by omega⟩
  have TR := Lib.hid (fun eb w h1 h2 => truth_any (stX i) (stY i) (stZ i) 0 0 0 (stX_small i) (stY_small i) (stZ_small hi) s0 s0 s0 false eb k b w hk h1 h2)
  have SA := Lib.hid (fun w => stateAt_any i hi w)
  have EA := Lib.hid (fun w => envOf_any (stX i) (stY i) (stZ i) 0 0 0 w)
  have IN := Lib.hid hin
  generalize hxx : stX i = x at *
  generalize hyy : stY i = y at *
  generalize hzz : stZ i = z at *
  clear hxx hyy hzz hin s0
  go_enter Tryd.func87, Tryd.ntmps87
  go_wp2_with fail
  refine (SA.out _).mono ?_
  rintro e w1 ⟨rfl, hb1⟩
  replace hc := (hb1.cell (p := ⟨c, 0, none⟩) hcl).trans hc
  replace hcl := Nat.lt_of_lt_of_le hcl hb1.size
  replace IN := Lib.hid (IN.out.below hb1 (Nat.le_refl _))
  have B1 := Lib.hid hb1
  clear hb1
  go_wp2_with fail
  refine (EA.out _).mono ?_
  rintro e w2 ⟨rfl, hb2⟩
  replace hc := (hb2.cell (p := ⟨c, 0, none⟩) hcl).trans hc
  replace hcl := Nat.lt_of_lt_of_le hcl hb2.size
  replace IN := Lib.hid (IN.out.below hb2 (Nat.le_refl _))
  have B2 := Lib.hid (below_2 B1.out hb2)
  clear hb2 B1
  have hc2 : (w2.alloc (.cells #[.int .i64 x, .int .i64 y, .int .i64 z, .int .i64 0, .int .i64 0, .int .i64 0] 76)).cell? ⟨c, 0, none⟩ = some (.pointer (some ⟨b, 0, none⟩)) := (cellB hcl).trans hc
  go_wp2_with fail
  refine (TR.out w2.heap.size (w2.alloc (.cells #[.int .i64 x, .int .i64 y, .int .i64 z, .int .i64 0, .int .i64 0, .int .i64 0] 76)) (IN.out.below ((Below.refl _ _).alloc (Nat.le_refl _) _) (Nat.le_refl _)) (env_new w2 x y z 0 0 0)).mono ?_
  rintro e w4 ⟨rfl, n, rfl⟩
  go_wp2_with fail
  go_ret
  exact ⟨rfl, below_2 B2.out (((Below.refl _ _).alloc (Nat.le_refl _) _).trans (below_drewN _ _ _))⟩
set_option maxHeartbeats 2000000 in
theorem PredOf_any (S : ByteArray) (hS : S.size ≤ 1000000000000) (w : World) : Calls Tryd.prog 39 #[.string S] w fun e w' => (e = .returned (.tuple #[.string (bs (optB ((whole false 1 200 S.data.toList).map predOf))), .bool ((whole false 1 200 S.data.toList).map predOf).isSome]) ∧ Below w.heap.size w w') := by
  have R := Lib.hid (parseTest_any S hS w)
  cases ho : whole false 1 200 S.data.toList with
  | none =>
    rw [ho] at R
    clear ho
    simp only [Option.map_none, optB, Option.isSome_none] at R ⊢
    go_enter Tryd.func39, Tryd.ntmps39
    go_wp2_with fail
    refine R.out.mono ?_
    rintro e w1 ⟨hb1, rfl⟩
    have B1 := Lib.hid (below_2 hb1 (below_n w1 (.cells #[.pointer none] 73)))
    clear R hb1
    go_wp2_with fail
    go_ret2
    exact ⟨(by first | trivial | rfl), B1.out⟩
  | some k =>
    rw [ho] at R
    obtain ⟨_, hk, _⟩ := (whole_iff (by omega)).1 ho
    simp only [Option.map_some, optB, Option.isSome_some] at R ⊢
    have HK := Lib.hid hk
    clear ho hk
    go_enter Tryd.func39, Tryd.ntmps39
    go_wp2_with fail
    refine R.out.mono ?_
    rintro e w1 ⟨hb1, b, rfl, hin⟩
    have hk1 := Blk.new w1 73 #[.pointer (some ⟨b, 0, none⟩)]
    have I2 := Lib.hid (hin.below (below_n w1 (.cells #[.pointer (some ⟨b, 0, none⟩)] 73)) (Nat.le_refl _))
    have B1 := Lib.hid (below_2 hb1 (below_n w1 (.cells #[.pointer (some ⟨b, 0, none⟩)] 73)))
    have ST := Lib.hid (set_PredOf (fun i => tru (envOf (stX i) (stY i) (stZ i) 0 0 0) k) (.pointer (some ⟨w1.heap.size, 0, none⟩)) (w1.alloc (.cells #[.pointer (some ⟨b, 0, none⟩)] 73))
      (fun i hi W hW => predOf1_any k HK.out i hi w1.heap.size b W ((hW.cell (p := ⟨w1.heap.size, 0, none⟩) hk1.lt).trans (hk1.cell 0)) (Nat.lt_of_lt_of_le hk1.lt hW.size) (I2.out.below hW (Nat.le_refl _))))
    have hmf : ∀ (f : Fn) (first cap : Array Value) (w : World), (Instr.makeFunc f first cap).run Tryd.prog w = .ok (.func f first cap) w := fun _ _ _ _ => rfl
    clear R hb1 hin hk1
    go_wp2_with fail
    refine ST.out.mono ?_
    rintro e w2 ⟨rfl, hb2⟩
    have B2 := Lib.hid (below_2 B1.out hb2)
    clear hb2
    go_wp2_with fail
    go_ret2
    exact ⟨(by first | trivial | rfl), B2.out⟩
set_option maxRecDepth 100000 in
set_option maxHeartbeats 4000000 in
theorem l2Of_any (S : ByteArray) (hS : S.size ≤ 1000) (k : Nd) (hk : ok false 1 k = true) (ht : S.data.toList = k.text) (w : World) :
    Calls Tryd.prog 92 #[.string S] w fun e w' => (e = .returned (.string (bs (predOf k))) ∧ Below w.heap.size w w') := by
  have s0 : small 0 := ⟨by omega, by omega⟩
  have HO := Lib.hid (fun i (hi : i < 27) w => holdsS_any S (by omega) (stX i) (stY i) (stZ i) 0 0 0 (stX_small i) (stY_small i) (stZ_small hi) s0 s0 s0 false k 0 [] w hk (by rw [List.drop_zero, List.append_nil]; exact ht))
  have hmk := run_make_row' (P := Tryd.prog) 22 5 (.int .u8 0) 1 Tryd.underlying22 u8_info rfl .i64 .i64 27 (by omega) (by omega)
  simp only [Int.cast_ofNat_Int] at hmk
  show Calls Tryd.prog 92 #[.string S] w fun e w' => (e = .returned (.string (bs (bitsN 27 (fun i => tru (envOf (stX i) (stY i) (stZ i) 0 0 0) k)))) ∧ Below w.heap.size w w')
  obtain ⟨bt, hbt⟩ : ∃ bt : Nat → Bool, (fun i => tru (envOf (stX i) (stY i) (stZ i) 0 0 0) k) = bt := ⟨_, rfl⟩
  rw [hbt]
  have HBT := Lib.hid (fun i => congrFun hbt i)
  have R0 : Hid (ByteRow (w.alloc (.cells (madeCells #[.int .u8 0] 27) 5)) w.heap.size (fillN (bitsN 27 bt) 0)) := by rw [part_zero, bits_len]; exact byteRow_made w 27
  have B0 := Lib.hid (below_n w (.cells (madeCells #[.int .u8 0] 27) 5))
  clear hbt s0 ht hk
  go_enter Tryd.func92, Tryd.ntmps92
  go_wp2_with fail
  go_loopg [4] 27 (fun gk i wr => ∃ k : Nat, k + gk = 27 ∧ i = .int .i64 k ∧ Hid (ByteRow wr w.heap.size (fillN (bitsN 27 bt) k)) ∧ Hid (Below w.heap.size w wr))
  case atStart => exact ⟨0, rfl, rfl, R0, B0⟩
  case round =>
    clear R0 B0 hmk
    obtain ⟨j, hj, rfl, R, B⟩ := hrel
    by_cases hlt : j < 27
    · have AT := Lib.hid (fun w => l2At_any j hlt w)
      have ON := Lib.hid (fun w => one_any (stX j) (stY j) (stZ j) w)
      have HX := Lib.hid (fun w => HO.out j hlt w)
      have hbj : tru (envOf (stX j) (stY j) (stZ j) 0 0 0) k = bt j := HBT.out j
      rw [hbj] at HX
      have BI := Lib.hid (fun w => l2Bit_any (bt j) w)
      generalize (k.text.length : Int) = lk at *
      generalize hxx : stX j = x at *
      generalize hyy : stY j = y at *
      generalize hzz : stZ j = z at *
      clear hxx hyy hzz hbj
      go_wp2_with fail
      refine (AT.out _).mono ?_
      rintro e w1 ⟨rfl, hb1⟩
      have R1 := Lib.hid (R.out.call hb1)
      have B1 := Lib.hid (below_2 B.out hb1)
      clear hb1
      go_wp2_with fail
      refine (ON.out _).mono ?_
      rintro e w2 ⟨rfl, hb2⟩
      have R2 := Lib.hid (R1.out.call hb2)
      have B2 := Lib.hid (below_2 B1.out hb2)
      clear hb2
      go_wp2_with fail
      refine (HX.out _).mono ?_
      rintro e w3 ⟨rfl, hb3⟩
      have r3 := R2.out.call hb3
      have B3 := Lib.hid (below_2 B2.out hb3)
      have hkl : j < (fillN (bitsN 27 bt) j).length := by rw [part_len _ _ (by rw [bits_len]; omega), bits_len]; exact hlt
      obtain ⟨⟨cv, hc⟩, hf⟩ := r3.any (i := j) hkl
      have R4 := Lib.hid (row_step r3 hlt)
      have B4 := Lib.hid (B3.out.setCell (p := ⟨w.heap.size, j, none⟩) (Nat.le_refl _) (.int .u8 ((bitC (bt j)).toNat : Int)))
      clear hb3 r3 hkl R R1 R2 B B1 B2 B3
      go_wp2_with fail
      refine (BI.out _).mono ?_
      rintro e w' ⟨rfl, rfl⟩
      go_wp2_with fail
      go_roundg (gk - 1)
      case measure => omega
      case rel => exact ⟨j + 1, by omega, by go_num, R4, B4⟩
    · obtain rfl : j = 27 := by omega
      have r := R.out
      have hpa := part_all (bitsN 27 bt)
      rw [bits_len] at hpa
      rw [hpa] at r
      have hback := bytes_back r (n := 27) (by rw [bits_len]) 27
      clear r R hpa hlt
      go_wp2_with fail
      go_ret
      exact ⟨rfl, B.out⟩
set_option maxHeartbeats 1000000 in
theorem PredOfS_any (S : ByteArray) (hS : S.size ≤ 1000000000000) (w : World) : Calls Tryd.prog 40 #[.string S] w fun e w' => (e = .returned (.tuple #[.string (bs (optB ((whole false 1 200 S.data.toList).map predOf))), .bool ((whole false 1 200 S.data.toList).map predOf).isSome]) ∧ Below w.heap.size w w') := by
  have R := Lib.hid (TestValidS_any S w hS)
  cases ho : whole false 1 200 S.data.toList with
  | none =>
    rw [ho] at R
    clear ho
    simp only [Option.map_none, optB, Option.isSome_none] at R ⊢
    go_enter Tryd.func40, Tryd.ntmps40
    go_wp2_with fail
    refine R.out.mono ?_
    rintro e w1 ⟨rfl, m, rfl⟩
    go_wp2_with fail
    go_ret2
    exact ⟨(by first | trivial | rfl), below_drewN _ _ _⟩
  | some k =>
    rw [ho] at R
    obtain ⟨hl, hk, ht⟩ := (whole_iff (by omega)).1 ho
    have hz : S.size ≤ 1000 := by have := len_S S; omega
    have FX := Lib.hid (fun w => l2Of_any S hz k hk ht w)
    simp only [Option.map_some, optB, Option.isSome_some] at R ⊢
    clear ho hl hk ht
    go_enter Tryd.func40, Tryd.ntmps40
    go_wp2_with fail
    refine R.out.mono ?_
    rintro e w1 ⟨rfl, m, rfl⟩
    go_wp2_with fail
    refine (FX.out _).mono ?_
    rintro e w2 ⟨rfl, hb2⟩
    have B2 : Hid (Below w.heap.size w w2) := (below_drewN _ _ m).trans hb2
    clear hb2
    go_wp2_with fail
    go_ret2
    exact ⟨(by first | trivial | rfl), B2.out⟩

end Go.Proofs.YtccjmahhebiphaaDoor
