/- FormatDerivation, on both sides. -/
import Derived.Test.YtndlhdmpfnadcaaGreatDoorPly
import Derived.Test.YtndlhdmpfnadcaaGreatDoorJm
import Derived.Test.YtndlhdmpfnadcaaGreatDoorGy
import Derived.Maps.AppendAt
import Derived.Laws.OwnMore
namespace Go.Proofs.YtndlhdmpfnadcaaGreatDoor
open Go.RowKit
open Pl
set_option linter.unusedVariables false

theorem strx_info : (Tryz.prog.info? 9).map (fun i => (i.zero, i.size, i.bytes)) = some (some (.string ⟨#[]⟩), 1, 16) := by kernel_rfl
theorem one_newS (W : World) (a : Value) (t : TypeId) : ∀ j u, [a][j]? = some u → (W.alloc (.cells #[a] t)).cell? ((⟨W.heap.size, 0, none⟩ : Addr).add j) = some u := by
  intro j u h
  have e : (⟨W.heap.size, 0, none⟩ : Addr).add j = ⟨W.heap.size, j, none⟩ := by unfold Addr.add; split <;> simp_all
  rw [e, (Blk.new W t #[a]).cell j]
  simpa using h
theorem IR.at_ {W : World} {s : Option Addr} {n : Nat} {z : Nat → Int} (h : IR W s n z) {k : Nat} (hk : k < n) : ∃ b off, s = some ⟨b, off, none⟩ ∧ b < W.heap.size ∧ W.cell? ⟨b, off + k, none⟩ = some (.int .i64 (z k)) := by
  rcases h with h | ⟨b, off, hs, hlt, hc⟩
  · omega
  · exact ⟨b, off, hs, hlt, hc k hk⟩
set_option maxRecDepth 100000 in
set_option maxHeartbeats 16000000 in
theorem FormatDerivationS_any (s : Option Addr) (n c : Nat) (L : Nat → LnD) (hn : n ≤ 1048576) (hc : n ≤ c) (ho : ∀ i, i < n → okD (L i)) (w : World) (hI : LR w s n L) :
    Calls Tryz.prog 6 #[.slice s n c] w fun e w' => e = .returned (.string (bs (fdT L n))) ∧ Below w.heap.size w w' := by
  have HI := Lib.hid hI
  have HO := Lib.hid ho
  have H0 := Lib.hid (Below.refl w.heap.size w)
  obtain ⟨R9, hr9⟩ : ∃ r, bs (fdT L n) = r := ⟨_, rfl⟩
  rw [hr9]
  have HR9 := Lib.hid hr9
  clear hI ho hr9
  go_enter Tryz.func6, Tryz.ntmps6
  go_wp2_with fail
  go_loopg [3, 4] n (fun gk ov sv wr => ∃ (a : Nat) (T : ByteArray), a + gk = n ∧ sv = .int .i64 a ∧ ov = .string T ∧ Hid (T.data.toList = accT L a) ∧ Hid (Below w.heap.size w wr))
  case atStart => exact ⟨0, ⟨#[]⟩, by omega, rfl, rfl, Lib.hid rfl, H0⟩
  case round =>
    clear H0
    obtain ⟨a, T, ha, rfl, rfl, HT, HB⟩ := hrel
    obtain ⟨ga, hga⟩ : ∃ m, m = gk := ⟨_, rfl⟩
    rw [← hga] at ha
    by_cases hla : a < n
    · have hxa : (a : Int) < (n : Int) := by omega
      have hda : decide ((a : Int) < (n : Int)) = true := decide_eq_true hxa
      rcases HI.out with h0 | ⟨b, off, rfl, hlt, hcell⟩
      · omega
      obtain ⟨⟨x0, x1, x2, x3, x4, x5⟩, hir, hnc⟩ := hcell a hla
      have d0 := (HB.out.cell (p := ⟨b, off + a * 6, none⟩) hlt).trans x0
      have d5 := (HB.out.cell (p := ⟨b, off + a * 6 + 5, none⟩) hlt).trans x5
      have HX5 := Lib.hid x5
      have HIR := Lib.hid hir
      have OK := Lib.hid (HO.out a hla)
      have hTz : T.size ≤ 30000000000000 := by
        have := accT_len HO.out a (by omega)
        rw [← HT.out, len_S] at this
        have : a * 23068673 ≤ 1048576 * 23068673 := Nat.mul_le_mul_right _ (by omega)
        omega
      have hRz : (L a).R.size ≤ 1048576 := OK.out.1
      have hNz : (L a).n ≤ 1048576 := OK.out.2.1
      have t1 : T.size + 1 ≤ 9223372036854775807 := by omega
      have t2 : T.size + 1 + (L a).R.size ≤ 9223372036854775807 := by omega
      have t3 : T.size + (L a).R.size ≤ 9223372036854775807 := by omega
      -- the accumulated text, with the line's own beginning
      have HACC : Hid (∃ PA : List UInt8, PA.length ≤ 30000000000001 ∧ accT L (a + 1) = PA ++ lineT (L a) ∧ ((a = 0 ∧ PA = T.data.toList) ∨ (a ≠ 0 ∧ PA = T.data.toList ++ [32]))) := Lib.hid (by
        by_cases h : a = 0
        · subst h
          exact ⟨[], by simp, by simp [accT], .inl ⟨rfl, by rw [HT.out]; rfl⟩⟩
        · exact ⟨T.data.toList ++ [32], by rw [List.length_append, len_S]; simp; omega, by simp only [accT]; rw [if_neg h, HT.out], .inr ⟨h, rfl⟩⟩)
      clear x0 x1 x2 x3 x4 x5 hir HI hcell HO
      by_cases h0 : a = 0
      · subst h0
        simp only [Nat.zero_mul, Nat.add_zero] at d0 d5
        go_wp2_with fail
        go_loopg [3, 5] (L 0).n (fun gk ov sv wr => ∃ (k : Nat) (U : ByteArray), k + gk = (L 0).n ∧ sv = .int .i64 k ∧ ov = .string U ∧ Hid (∃ PA : List UInt8, PA.length ≤ 30000000000001 ∧ accT L (0 + 1) = PA ++ lineT (L 0) ∧ U.data.toList = PA ++ rfT (L 0) k) ∧ Hid (Below w.heap.size w wr))
        case atStart =>
          refine ⟨0, _, by omega, rfl, rfl, Lib.hid ?_, HB⟩
          obtain ⟨PA, hl, he, hp⟩ := HACC.out
          refine ⟨PA, hl, he, ?_⟩
          rw [rfT_zero]
          rcases hp with ⟨_, rfl⟩ | ⟨h, rfl⟩
          · rw [ByteArray.data_append, Array.toList_append]
          · exact absurd rfl h
        case round =>
          clear HB d0 d5
          obtain ⟨k, U, hk, rfl, rfl, HU, HB⟩ := hrel
          have d5 := (HB.out.cell (p := ⟨b, off + 0 * 6 + 5, none⟩) hlt).trans HX5.out
          simp only [Nat.zero_mul, Nat.add_zero] at d5
          by_cases hlk : k < (L 0).n
          · have hxk : (k : Int) < ((L 0).n : Int) := by omega
            obtain ⟨b2, off2, hs2, hlt2, hz0⟩ := HIR.out.at_ hlk
            have hz := (HB.out.cell (p := ⟨b2, off2 + k, none⟩) hlt2).trans hz0
            have hzb := OK.out.2.2 k hlk
            have DA := Lib.hid (fun w => dec_any ((L 0).z k) hzb.1 hzb.2 w)
            have hdl := itoa_len hzb.1 hzb.2
            have hdz : (bs (Lib.itoa ((L 0).z k))).size ≤ 20 := by rw [bs_size]; exact hdl
            have hUz : U.size ≤ 40000000000000 := by
              obtain ⟨PA, hl, _, he⟩ := HU.out
              have := rfT_len OK.out k (by omega)
              rw [← len_S, he, List.length_append]
              omega
            have HN : Hid (∃ PA : List UInt8, PA.length ≤ 30000000000001 ∧ accT L (0 + 1) = PA ++ lineT (L 0) ∧ (U ++ ⟨#[44]⟩ ++ bs (Lib.itoa ((L 0).z k))).data.toList = PA ++ rfT (L 0) (k + 1)) := Lib.hid (by
              obtain ⟨PA, hl, he, hu⟩ := HU.out
              refine ⟨PA, hl, he, ?_⟩
              rw [ByteArray.data_append, ByteArray.data_append, Array.toList_append, Array.toList_append, hu, rfT_succ, bs_list]
              simp)
            generalize bs (Lib.itoa ((L 0).z k)) = D at *
            generalize (L 0).z k = zk at *
            rw [hs2] at d5
            have t4 : U.size + 1 ≤ 9223372036854775807 := by omega
            have t5 : U.size + 1 + D.size ≤ 9223372036854775807 := by omega
            clear hzb hdl HU hz0
            go_wp2_with fail
            refine (DA.out _).mono ?_
            rintro e w1 ⟨rfl, hb⟩
            have B1 := Lib.hid (below_2 HB.out hb)
            clear hb
            go_wp2_with fail
            go_roundg (gk - 1)
            case measure => omega
            case rel => exact ⟨k + 1, _, by omega, by go_num, rfl, HN, B1⟩
          · obtain rfl : k = (L 0).n := by omega
            have HN : Hid (U.data.toList = accT L (0 + 1)) := Lib.hid (by
              obtain ⟨PA, hl, he, hu⟩ := HU.out
              rw [hu, he]
              rfl)
            clear HU
            go_wp2_with fail
            go_roundg (ga - 1)
            case measure => omega
            case rel => exact ⟨0 + 1, _, by omega, by go_num, rfl, HN, HB⟩
      · have hpos : 0 < a := by omega
        have gz : (0 : Int) < (a : Int) := by omega
        go_wp2_with fail
        go_loopg [3, 5] (L a).n (fun gk ov sv wr => ∃ (k : Nat) (U : ByteArray), k + gk = (L a).n ∧ sv = .int .i64 k ∧ ov = .string U ∧ Hid (∃ PA : List UInt8, PA.length ≤ 30000000000001 ∧ accT L (a + 1) = PA ++ lineT (L a) ∧ U.data.toList = PA ++ rfT (L a) k) ∧ Hid (Below w.heap.size w wr))
        case atStart =>
          refine ⟨0, _, by omega, rfl, rfl, Lib.hid ?_, HB⟩
          obtain ⟨PA, hl, he, hp⟩ := HACC.out
          refine ⟨PA, hl, he, ?_⟩
          rw [rfT_zero]
          rcases hp with ⟨h, rfl⟩ | ⟨_, rfl⟩
          · exact absurd h h0
          · simp only [ByteArray.data_append, Array.toList_append]
        case round =>
          clear HB d0 d5
          obtain ⟨k, U, hk, rfl, rfl, HU, HB⟩ := hrel
          have d5 := (HB.out.cell (p := ⟨b, off + a * 6 + 5, none⟩) hlt).trans HX5.out
          by_cases hlk : k < (L a).n
          · have hxk : (k : Int) < ((L a).n : Int) := by omega
            obtain ⟨b2, off2, hs2, hlt2, hz0⟩ := HIR.out.at_ hlk
            have hz := (HB.out.cell (p := ⟨b2, off2 + k, none⟩) hlt2).trans hz0
            have hzb := OK.out.2.2 k hlk
            have DA := Lib.hid (fun w => dec_any ((L a).z k) hzb.1 hzb.2 w)
            have hdl := itoa_len hzb.1 hzb.2
            have hdz : (bs (Lib.itoa ((L a).z k))).size ≤ 20 := by rw [bs_size]; exact hdl
            have hUz : U.size ≤ 40000000000000 := by
              obtain ⟨PA, hl, _, he⟩ := HU.out
              have := rfT_len OK.out k (by omega)
              rw [← len_S, he, List.length_append]
              omega
            have HN : Hid (∃ PA : List UInt8, PA.length ≤ 30000000000001 ∧ accT L (a + 1) = PA ++ lineT (L a) ∧ (U ++ ⟨#[44]⟩ ++ bs (Lib.itoa ((L a).z k))).data.toList = PA ++ rfT (L a) (k + 1)) := Lib.hid (by
              obtain ⟨PA, hl, he, hu⟩ := HU.out
              refine ⟨PA, hl, he, ?_⟩
              rw [ByteArray.data_append, ByteArray.data_append, Array.toList_append, Array.toList_append, hu, rfT_succ, bs_list]
              simp)
            generalize bs (Lib.itoa ((L a).z k)) = D at *
            generalize (L a).z k = zk at *
            rw [hs2] at d5
            have t4 : U.size + 1 ≤ 9223372036854775807 := by omega
            have t5 : U.size + 1 + D.size ≤ 9223372036854775807 := by omega
            clear hzb hdl HU hz0
            go_wp2_with fail
            refine (DA.out _).mono ?_
            rintro e w1 ⟨rfl, hb⟩
            have B1 := Lib.hid (below_2 HB.out hb)
            clear hb
            go_wp2_with fail
            go_roundg (gk - 1)
            case measure => omega
            case rel => exact ⟨k + 1, _, by omega, by go_num, rfl, HN, B1⟩
          · obtain rfl : k = (L a).n := by omega
            have HN : Hid (U.data.toList = accT L (a + 1)) := Lib.hid (by
              obtain ⟨PA, hl, he, hu⟩ := HU.out
              rw [hu, he]
              rfl)
            clear HU
            go_wp2_with fail
            go_roundg (ga - 1)
            case measure => omega
            case rel => exact ⟨a + 1, _, by omega, by go_num, rfl, HN, HB⟩
    · obtain rfl : a = n := by omega
      by_cases h0 : a = 0
      · subst h0
        have hf : R9 = ⟨#[45]⟩ := by rw [← HR9.out]; rfl
        subst hf
        clear HT HI HO HR9
        go_wp2_with fail
        go_ret
        exact ⟨rfl, HB.out⟩
      · have hf : T = R9 := by
          rw [← HR9.out]
          unfold fdT
          rw [if_neg h0, ← HT.out, bs_of]
        subst hf
        have gz : ((a : Int) == 0) = false := by simp; exact h0
        clear HT HI HO HR9
        go_wp2_with fail
        go_ret
        exact ⟨rfl, HB.out⟩
set_option maxRecDepth 100000 in
set_option maxHeartbeats 16000000 in
theorem FormatDerivation_any (s : Option Addr) (n c : Nat) (L : Nat → LnD) (hn : n ≤ 1048576) (hc : n ≤ c) (ho : ∀ i, i < n → okD (L i)) (w : World) (hI : LR w s n L) (ht : Tab w) :
    Calls Tryz.prog 5 #[.slice s n c] w fun e w' => e = .returned (.string (bs (fdT L n))) ∧ Below w.heap.size w w' := by
  have HI := Lib.hid hI
  have HO := Lib.hid ho
  have HTB := Lib.hid ht
  by_cases hn0 : n = 0
  · subst hn0
    have hf : bs (fdT L 0) = ⟨#[45]⟩ := rfl
    rw [hf]
    clear hI ho ht HI HO HTB
    go_enter Tryz.func5, Tryz.ntmps5
    go_wp2_with fail
    go_ret
    exact ⟨rfl, Below.refl _ _⟩
  have hn1 : ((n : Int) == 0) = false := by simp; exact hn0
  have H0 : Hid ((w.alloc (.cells #[] 9)).ownsRow w.heap.size 9 1 (.slice (some ⟨w.heap.size, 0, none⟩) 0 0) 0 (rowS (fun i => lineT (L i)) 0)) :=
    ⟨rfl, .inr ⟨w.heap.size, 0, #[], rfl, Nat.le_refl _, Blk.new w 9 #[], Nat.le_refl _, by simp [maxLen], rfl, rfl⟩⟩
  have B0 := Lib.hid (below_n w (.cells #[] 9))
  obtain ⟨R9, hr9⟩ : ∃ r, bs (fdT L n) = r := ⟨_, rfl⟩
  rw [hr9]
  have HR9 := Lib.hid hr9
  clear hI ho hr9 ht
  go_enter Tryz.func5, Tryz.ntmps5
  go_wp2_with fail
  go_loopg [3, 15] n (fun gk ov sv wr => ∃ a : Nat, a + gk = n ∧ sv = .int .i64 a ∧ Hid (wr.ownsRow w.heap.size 9 1 ov a (rowS (fun i => lineT (L i)) a)) ∧ Hid (Below w.heap.size w wr))
  case atStart => exact ⟨0, by omega, rfl, H0, B0⟩
  case round =>
    clear H0 B0 hn1
    obtain ⟨a, ha, rfl, hown, HB⟩ := hrel
    obtain ⟨ga, hga⟩ : ∃ m, m = gk := ⟨_, rfl⟩
    rw [← hga] at ha
    by_cases hla : a < n
    · have hxa : (a : Int) < (n : Int) := by omega
      have hda : decide ((a : Int) < (n : Int)) = true := decide_eq_true hxa
      rcases HI.out with h0 | ⟨b, off, rfl, hlt, hcell⟩
      · omega
      obtain ⟨⟨x0, x1, x2, x3, x4, x5⟩, hir, hnc⟩ := hcell a hla
      have d0 := (HB.out.cell (p := ⟨b, off + a * 6, none⟩) hlt).trans x0
      have d1 := (HB.out.cell (p := ⟨b, off + a * 6 + 1, none⟩) hlt).trans x1
      have d2 := (HB.out.cell (p := ⟨b, off + a * 6 + 2, none⟩) hlt).trans x2
      have d3 := (HB.out.cell (p := ⟨b, off + a * 6 + 3, none⟩) hlt).trans x3
      have d4 := (HB.out.cell (p := ⟨b, off + a * 6 + 4, none⟩) hlt).trans x4
      have d5 := (HB.out.cell (p := ⟨b, off + a * 6 + 5, none⟩) hlt).trans x5
      have HIR := Lib.hid hir
      have OK := Lib.hid (HO.out a hla)
      have hRz : (L a).R.size ≤ 1048576 := OK.out.1
      have hNz : (L a).n ≤ 1048576 := OK.out.2.1
      have hbx := below_n wr (.cells #[.string (L a).R, .string (L a).A, .string (L a).P, .string (L a).Q, .string (L a).B, .slice (L a).s (L a).n (L a).c] 28)
      have HBX := Lib.hid (below_2 HB.out hbx)
      have hownX := Lib.hid (row_call hown.out hbx)
      have kx := Blk.new wr 28 #[.string (L a).R, .string (L a).A, .string (L a).P, .string (L a).Q, .string (L a).B, .slice (L a).s (L a).n (L a).c]
      have k0 := kx.cell 0
      have k5 := kx.cell 5
      simp at k0 k5
      clear x0 x1 x2 x3 x4 x5 hir hcell kx hbx hown HB HI
      generalize hsl : (L a).s = sl at *
      clear hsl
      go_wp2_with fail
      go_loopg [6, 24] (L a).n (fun gk ov sv wr => ∃ (k : Nat) (U : ByteArray), k + gk = (L a).n ∧ sv = .int .i64 k ∧ ov = .string U ∧ Hid (U.data.toList = rfT (L a) k) ∧ Hid (wr.ownsRow w.heap.size 9 1 u3 a (rowS (fun i => lineT (L i)) a)) ∧ Hid (Below w.heap.size w wr))
      case atStart => exact ⟨0, _, by omega, rfl, rfl, Lib.hid (rfT_zero _).symm, hownX, HBX⟩
      case round =>
        clear HBX hownX k0 k5 d0 d1 d2 d3 d4 d5
        obtain ⟨k, U, hk, rfl, rfl, HU, hown, HB⟩ := hrel
        have hUz : U.size ≤ 30000000 := by
          have := rfT_len OK.out k (by omega)
          rw [← len_S, HU.out]
          omega
        by_cases hlk : k < (L a).n
        · have hxk : (k : Int) < ((L a).n : Int) := by omega
          obtain ⟨b2, off2, hs2, hlt2, hz0⟩ := HIR.out.at_ hlk
          have hz := (HB.out.cell (p := ⟨b2, off2 + k, none⟩) hlt2).trans hz0
          have hzb := OK.out.2.2 k hlk
          have DA := Lib.hid (fun w ht => itoa_any ((L a).z k) hzb.1 hzb.2 w ht)
          have hdz : (bs (Lib.itoa ((L a).z k))).size ≤ 20 := by rw [bs_size]; exact itoa_len hzb.1 hzb.2
          have HN : Hid ((U ++ ((⟨#[44]⟩ : ByteArray) ++ bs (Lib.itoa ((L a).z k)))).data.toList = rfT (L a) (k + 1)) := Lib.hid (by
            rw [ByteArray.data_append, ByteArray.data_append, Array.toList_append, Array.toList_append, HU.out, rfT_succ, bs_list]
            simp)
          generalize bs (Lib.itoa ((L a).z k)) = D at *
          generalize (L a).z k = zk at *
          subst hs2
          have t4 : 1 + D.size ≤ 9223372036854775807 := by omega
          have t5 : U.size + (1 + D.size) ≤ 9223372036854775807 := by omega
          clear hzb HU hz0
          go_wp2_with fail
          refine (DA.out _ (HTB.out.below HB.out)).mono ?_
          rintro e w1 ⟨rfl, hb⟩
          have B1 := Lib.hid (below_2 HB.out hb)
          have hown1 := Lib.hid (row_call hown.out hb)
          clear hb
          go_wp2_with fail
          go_roundg (gk - 1)
          case measure => omega
          case rel => exact ⟨k + 1, _, by omega, by go_num, rfl, HN, hown1, B1⟩
        · obtain rfl : k = (L a).n := by omega
          have HN : Hid (bs (lineT (L a)) = U) := Lib.hid (by
            rw [← bs_of U, HU.out]
            rfl)
          obtain ⟨i0, hi0, hz0, hz1, hz2⟩ := info_parts strx_info
          have HI0 := Lib.hid hi0
          have HZ0 := Lib.hid hz0
          have HZ1 := Lib.hid hz1
          have HZ2 := Lib.hid hz2
          have hsz := HB.out.size
          have hrow : ∀ g, u3.ownBlock = some g → w.heap.size ≤ g := fun g e => (hown.out.lt g e).1
          have HSC := Lib.hid (rowS_succ (fun i => lineT (L i)) a)
          clear HU hi0 hz0 hz1 hz2
          go_wp2_with (at_builtin; refine wpList_append_own _ rfl (.tmp 34) (.tmp 36) 30 rfl w.heap.size 9 i0 _ 1 16 Tryz.underlying30 HI0.out HZ0.out HZ1.out HZ2.out rfl (by decide) u3 a (rowS (fun i => lineT (L i)) a) rfl (hown.out.alloc _) ⟨wr.heap.size, 0, none⟩ 1 1 [.string U] rfl rfl ?c1 ?c2 ?c3 ?c4 ?c5 ?_)
          case c1 => exact one_newS wr (.string U) 9
          case c2 => simp [Value.oneCell']
          case c3 => simp only [maxLen]; omega
          case c4 => omega
          case c5 => first | (simp; done) | (simp; omega)
          intro v' w4 hown' hgr _
          have HO2 : Hid (w4.ownsRow w.heap.size 9 1 v' (a + 1) (rowS (fun i => lineT (L i)) (a + 1))) := by
            rw [HSC.out, HN.out]; exact hown'
          have HB4 := Lib.hid ((HB.out.alloc hsz (.cells #[.string U] 9)).trans (below_of_grown hgr w.heap.size (by simp; omega) hrow))
          clear hown' hgr hrow hown HB
          go_wp2_with fail
          go_roundg (ga - 1)
          case measure => omega
          case rel => exact ⟨a + 1, by omega, by go_num, HO2, HB4⟩
    · obtain rfl : a = n := by omega
      have hal := accT_len HO.out a (Nat.le_refl _)
      have hal2 : a * 23068673 ≤ 1048576 * 23068673 := Nat.mul_le_mul_right _ hn
      have JR := Lib.hid (join_rowS (fun i => lineT (L i)) a hn hown.out (by omega) (accT L a) (accT_join L a) (by omega))
      have hf : bs (accT L a) = R9 := by
        rw [← HR9.out]
        unfold fdT
        rw [if_neg hn0]
      rw [hf] at JR
      obtain ⟨a0, cap, hv, hcap, _⟩ := row_shape hown.out
      subst hv
      clear hown HI HO HR9 hf hal hal2
      go_wp2_with fail
      refine JR.out.mono ?_
      rintro e w5 ⟨rfl, hb5⟩
      have B5 := Lib.hid (below_2 HB.out hb5)
      clear hb5
      go_wp2_with fail
      go_ret
      exact ⟨rfl, B5.out⟩
end Go.Proofs.YtndlhdmpfnadcaaGreatDoor
