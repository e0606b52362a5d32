/- The law FnSetVar holds: for every input it returns true, and writes nothing that was there. No condition. -/
import Derived.Test.YtcdcgllodggebaaDrg
import Derived.Test.YtcdcgllodggebaaPp
import Derived.Test.YtcdcgllodggebaaShl
import Derived.Deep.RegionHeld3
import Derived.Deep.RegionWith
import Derived.Deep.LoopGhost
import Derived.Deep.DeepCutAuto
import Derived.Deep.CutBlock
namespace Go.Proofs.Ytcdcgllodggebaa.fnSetVar
open Go.ChangeShapes Go.WideShapes Go.ChangeAt Go.RowKit
open Go.ChangeMaps (open_string shut_string)

open Pl
set_option linter.unusedVariables false

theorem own : ownKnob Try.prog.godebug = none := by kernel_rfl
theorem laidOut : laidOutB Try.prog = true := by kernel_rfl

theorem put_back {x y z n : Int} {c : UInt8} (hc : c ∈ nmsN) : put1 c 120 (envOf x y z 0 0 0 c) (put1 c 120 n x) = x ∧ put1 c 121 (envOf x y z 0 0 0 c) (put1 c 121 n y) = y ∧ put1 c 122 (envOf x y z 0 0 0 c) (put1 c 122 n z) = z := by
  rcases nms_cases hc with rfl | rfl | rfl <;> simp [put1, envOf]

set_option maxRecDepth 100000 in
set_option maxHeartbeats 8000000 in
theorem walk (a0 : Option Addr) (len0 cap0 : Nat) (w : World) (hb0 : Bytes w a0 len0 w.heap.size) (hl0 : len0 ≤ cap0) (hc0 : cap0 ≤ 9223372036854775807) :
    Calls Try.prog 9 #[.slice a0 len0 cap0] w fun e w' => e = .returned (.bool true) ∧ Below w.heap.size w w' := by
  by_cases hbig : 1048576 < len0
  · clear hb0
    go_enter Try.func9, Try.ntmps9
    go_wp2_with fail
    go_ret
    exact ⟨rfl, by first | exact Below.refl _ _ | exact below_n _ _ | exact (below_n _ _).alloc (by simp) _⟩
  have D := Lib.hid (DrawSetVar_any a0 len0 cap0 w (by omega) hl0 hb0)
  clear hb0
  go_enter Try.func9, Try.ntmps9
  go_wp2_with fail
  refine D.out.mono ?_
  rintro e w1 ⟨V, x, y, z, n, hV, rfl, hb1⟩
  clear D
  have H : Sit w (w1.alloc (.cells #[.int .i64 x, .int .i64 y, .int .i64 z] 35)) [(⟨w1.heap.size, 0, none⟩, .int .i64 x), (⟨w1.heap.size, 1, none⟩, .int .i64 y), (⟨w1.heap.size, 2, none⟩, .int .i64 z)] := ((Sit.refl w).call hb1).box3 _
  obtain ⟨d0, d1, d2⟩ := H.c3
  clear hb1
  have hVs : V.size ≤ 1000 := by
    simp only [whichs, List.mem_cons, List.not_mem_nil, or_false] at hV
    rcases hV with rfl | rfl | rfl | rfl | rfl | rfl | rfl | rfl | rfl | rfl | rfl | rfl <;> decide
  clear hV
  have T := Lib.hid (fun w => SetVar_any x y z n V w)
  have TS := Lib.hid (fun w => SetVarS_any x y z n V (by omega) w)
  clear hVs
  obtain ⟨o, ho⟩ : ∃ o, varOf V.data.toList = o := ⟨_, rfl⟩
  obtain ⟨bb, hbb⟩ : ∃ o, (stB x y z && inB n) = o := ⟨_, rfl⟩
  simp only [ho, hbb] at T TS
  by_cases hok : svB o bb = true
  · obtain ⟨c, rfl⟩ : ∃ c, o = some c := by cases o; simp [svB] at hok; exact ⟨_, rfl⟩
    obtain rfl : bb = true := by simpa [svB] using hok
    simp only [sv1, svB, if_true, Option.isSome_some, Bool.true_and] at T TS
    obtain ⟨hv1, hcm⟩ := varOf_some ho
    obtain rfl := bytes_of hv1
    simp only [Bool.and_eq_true] at hbb
    obtain ⟨hst, hin⟩ := hbb
    have hns := inB_small.1 hin
    obtain ⟨sx, sy, sz⟩ := stB_small hst
    have hst2 : stB (put1 c 120 n x) (put1 c 121 n y) (put1 c 122 n z) = true := by
      simp only [stB, Bool.and_eq_true]
      exact ⟨inB_small.2 (put1_small hns sx), inB_small.2 (put1_small hns sy), inB_small.2 (put1_small hns sz)⟩
    have s0 : small 0 := ⟨by omega, by omega⟩
    have hgs := envOf_small sx sy sz s0 s0 s0 c
    obtain ⟨r1, r2, r3⟩ := put_back (x := x) (y := y) (z := z) (n := n) hcm
    have BK := Lib.hid (fun w => SetVar_any (put1 c 120 n x) (put1 c 121 n y) (put1 c 122 n z) (envOf x y z 0 0 0 c) ⟨#[c]⟩ w)
    have PGV := Lib.hid (fun w => ppGet_any c hcm x y z w)
    rw [show (⟨#[c]⟩ : ByteArray).data.toList = [c] from rfl, varOf_one hcm, hst2, inB_small.2 hgs] at BK
    simp only [sv1, svB, if_true, Option.isSome_some, Bool.and_true, r1, r2, r3] at BK
    rw [hst, if_pos rfl] at PGV
    have SV := Lib.hid (fun w => StateValid_any (put1 c 120 n x) (put1 c 121 n y) (put1 c 122 n z) w)
    rw [hst2] at SV
    -- what the letters give
    have hgx : ∀ d (hd : d ∈ nmsN), d = c → ∀ w, Calls Try.prog 37 #[.agg #[.int .i64 (put1 c 120 n x), .int .i64 (put1 c 121 n y), .int .i64 (put1 c 122 n z)], .string ⟨#[d]⟩] w fun e w' => (e = .returned (.int .i64 n) ∧ Below w.heap.size w w') := by
      rintro d hd rfl w
      have := ppGet_any d hd (put1 d 120 n x) (put1 d 121 n y) (put1 d 122 n z) w
      rw [hst2, if_pos rfl, envOf_put_self hd] at this
      exact this
    have hgy : ∀ d (hd : d ∈ nmsN), d ≠ c → ∀ w, Calls Try.prog 37 #[.agg #[.int .i64 (put1 c 120 n x), .int .i64 (put1 c 121 n y), .int .i64 (put1 c 122 n z)], .string ⟨#[d]⟩] w fun e w' => (e = .returned (.int .i64 (envOf x y z 0 0 0 d)) ∧ Below w.heap.size w w') := by
      intro d hd hne w
      have := ppGet_any d hd (put1 c 120 n x) (put1 c 121 n y) (put1 c 122 n z) w
      rw [hst2, if_pos rfl, envOf_put hcm hne] at this
      exact this
    have hgz : ∀ d (hd : d ∈ nmsN), ∀ w, Calls Try.prog 37 #[.agg #[.int .i64 x, .int .i64 y, .int .i64 z], .string ⟨#[d]⟩] w fun e w' => (e = .returned (.int .i64 (envOf x y z 0 0 0 d)) ∧ Below w.heap.size w w') := by
      intro d hd w
      have := ppGet_any d hd x y z w
      rw [hst, if_pos rfl] at this
      exact this
    obtain ⟨pa, ha⟩ : ∃ v, put1 c 120 n x = v := ⟨_, rfl⟩
    obtain ⟨pb, hb⟩ : ∃ v, put1 c 121 n y = v := ⟨_, rfl⟩
    obtain ⟨pc, hc⟩ : ∃ v, put1 c 122 n z = v := ⟨_, rfl⟩
    obtain ⟨g, hg⟩ : ∃ v, envOf x y z 0 0 0 c = v := ⟨_, rfl⟩
    simp only [ha, hb, hc, hg] at T TS BK SV hgx hgy PGV
    have GX := Lib.hid hgx
    have GY := Lib.hid hgy
    have GZ := Lib.hid hgz
    have q1 : (n != n) = false := by simp
    have q2 : (pa != pa) = false ∧ (pb != pb) = false ∧ (pc != pc) = false := by simp
    obtain ⟨q2a, q2b, q2c⟩ := q2
    clear ha hb hc hg hgx hgy hgz r1 r2 r3 hok ho hv1 hst hin sx sy sz hst2 s0 hgs hns
    go_wp2_with fail
    refine (T.out _).mono ?_
    rintro e w2 ⟨rfl, hb⟩
    replace H := H.call hb
    clear hb
    clear d0 d1 d2
    replace H := H.box3 (a := .int .i64 pa) (b := .int .i64 pb) (c := .int .i64 pc) 35
    obtain ⟨e0, e1, e2, d0, d1, d2⟩ := H.c6
    go_wp2_with fail
    refine (TS.out _).mono ?_
    rintro e w3 ⟨rfl, hb⟩
    replace H := H.call hb
    clear hb
    clear e0 e1 e2 d0 d1 d2
    replace H := H.box3 (a := .int .i64 pa) (b := .int .i64 pb) (c := .int .i64 pc) 35
    have f0 := H.get (p := ⟨w3.heap.size, 0, none⟩) (v := .int .i64 pa) (by simp)
    have f1 := H.get (p := ⟨w3.heap.size, 1, none⟩) (v := .int .i64 pb) (by simp)
    have f2 := H.get (p := ⟨w3.heap.size, 2, none⟩) (v := .int .i64 pc) (by simp)
    replace H : Sit w (w3.alloc (.cells #[.int .i64 pa, .int .i64 pb, .int .i64 pc] 35)) [(⟨w2.heap.size, 0, none⟩, .int .i64 pa), (⟨w2.heap.size, 1, none⟩, .int .i64 pb), (⟨w2.heap.size, 2, none⟩, .int .i64 pc), (⟨w1.heap.size, 0, none⟩, .int .i64 x), (⟨w1.heap.size, 1, none⟩, .int .i64 y), (⟨w1.heap.size, 2, none⟩, .int .i64 z)] := H.less (by simp)
    obtain ⟨e0, e1, e2, d0, d1, d2⟩ := H.c6
    clear T TS
    have HH := Lib.hid H
    go_wp2_with fail
    clear e0 e1 e2 d0 d1 d2 f0 f1 f2 H
    go_loopg [10] 3 (fun gk i wr => ∃ k : Nat, k + gk = 3 ∧ i = .int .i64 k ∧ Hid (Sit w wr [(⟨w2.heap.size, 0, none⟩, .int .i64 pa), (⟨w2.heap.size, 1, none⟩, .int .i64 pb), (⟨w2.heap.size, 2, none⟩, .int .i64 pc), (⟨w1.heap.size, 0, none⟩, .int .i64 x), (⟨w1.heap.size, 1, none⟩, .int .i64 y), (⟨w1.heap.size, 2, none⟩, .int .i64 z)]))
    case atStart => exact ⟨0, rfl, rfl, HH⟩
    case round =>
      clear HH
      obtain ⟨j, hj, rfl, HH⟩ := hrel
      have H := HH.out
      clear HH
      by_cases hlt : j < 3
      · have hex := extract_one (S := ⟨#[120, 121, 122]⟩) (k := j) hlt
        obtain ⟨d, hd⟩ : ∃ d, (⟨#[120, 121, 122]⟩ : ByteArray)[j]'hlt = d := ⟨_, rfl⟩
        have hdm : d ∈ nmsN := by rw [← hd]; exact List.getElem_mem (l := nmsN) (by exact hlt)
        rw [hd] at hex
        clear hd
        by_cases hdc : d = c
        · have G1 := Lib.hid (GX.out d hdm hdc)
          have c1 : (d == c) = true := by simp [hdc]
          have c2 : (d != c) = false := by simp [hdc]
          clear hdc
          obtain ⟨e0, e1, e2, d0, d1, d2⟩ := H.c6
          go_wp2_with fail
          refine region_class (fun W => Sit w W [(⟨w2.heap.size, 0, none⟩, .int .i64 pa), (⟨w2.heap.size, 1, none⟩, .int .i64 pb), (⟨w2.heap.size, 2, none⟩, .int .i64 pc), (⟨w1.heap.size, 0, none⟩, .int .i64 x), (⟨w1.heap.size, 1, none⟩, .int .i64 y), (⟨w1.heap.size, 2, none⟩, .int .i64 z)]) (by kernel_rfl) (by kernel_rfl) H.drew ?_
          clear e0 e1 e2 d0 d1 d2
          repeat (first | go_big_quiet_skip | (go_big_quiet_want; first | (apply quiet_value; (· (intro W hW; obtain ⟨e0, e1, e2, d0, d1, d2⟩ := hW.c6; go_simp; exact rfl)); simp only [Act.put, List.setIfInBounds_toArray, List.set_cons_zero, List.set_cons_succ]; go_big_quiet_on) | (apply quiet_call; (· (intro W hW; go_simp; exact ⟨rfl, rfl⟩)); (· (intro W hW; first | with_reducible exact (G1.out W).mono fun _ _ h => ⟨h.1, hW.call h.2⟩)); simp only [Act.put, List.setIfInBounds_toArray, List.set_cons_zero, List.set_cons_succ]; go_big_quiet_on)))
          refine wpQuiet_nil ?_
          intro wq hq
          clear H
          have H := hq
          clear hq
          obtain ⟨e0, e1, e2, d0, d1, d2⟩ := H.c6
          go_wp2_with fail
          go_roundg (gk - 1)
          case measure => omega
          case rel => exact ⟨j + 1, by omega, by go_num, H⟩
        · have G1 := Lib.hid (GY.out d hdm hdc)
          have G2 := Lib.hid (GZ.out d hdm)
          obtain ⟨v, hv⟩ : ∃ v, envOf x y z 0 0 0 d = v := ⟨_, rfl⟩
          rw [hv] at G1 G2
          have c1 : (d == c) = false := by simp [hdc]
          have c2 : (d != c) = true := by simp [hdc]
          have c3 : (v != v) = false := by simp
          clear hdc hv
          obtain ⟨e0, e1, e2, d0, d1, d2⟩ := H.c6
          go_wp2_with fail
          refine region_class (fun W => Sit w W [(⟨w2.heap.size, 0, none⟩, .int .i64 pa), (⟨w2.heap.size, 1, none⟩, .int .i64 pb), (⟨w2.heap.size, 2, none⟩, .int .i64 pc), (⟨w1.heap.size, 0, none⟩, .int .i64 x), (⟨w1.heap.size, 1, none⟩, .int .i64 y), (⟨w1.heap.size, 2, none⟩, .int .i64 z)]) (by kernel_rfl) (by kernel_rfl) H.drew ?_
          clear e0 e1 e2 d0 d1 d2
          repeat (first | go_big_quiet_skip | (go_big_quiet_want; first | (apply quiet_value; (· (intro W hW; obtain ⟨e0, e1, e2, d0, d1, d2⟩ := hW.c6; go_simp; exact rfl)); simp only [Act.put, List.setIfInBounds_toArray, List.set_cons_zero, List.set_cons_succ]; go_big_quiet_on) | (apply quiet_call; (· (intro W hW; go_simp; exact ⟨rfl, rfl⟩)); (· (intro W hW; first | with_reducible exact (G1.out W).mono fun _ _ h => ⟨h.1, hW.call h.2⟩ | with_reducible exact (G2.out W).mono fun _ _ h => ⟨h.1, hW.call h.2⟩)); simp only [Act.put, List.setIfInBounds_toArray, List.set_cons_zero, List.set_cons_succ]; go_big_quiet_on)))
          refine wpQuiet_nil ?_
          intro wq hq
          clear H
          have H := hq
          clear hq
          obtain ⟨e0, e1, e2, d0, d1, d2⟩ := H.c6
          go_wp2_with fail
          go_roundg (gk - 1)
          case measure => omega
          case rel => exact ⟨j + 1, by omega, by go_num, H⟩
      · obtain ⟨e0, e1, e2, d0, d1, d2⟩ := H.c6
        go_upto_region 14 with fail
        go_cut [12, 13] (fun s12 s13 wx => ∃ g : Nat, s12 = .pointer (some ⟨g, 0, none⟩) ∧ s13 = .bool true ∧ Hid (Sit w wx [(⟨w2.heap.size, 0, none⟩, .int .i64 pa), (⟨w2.heap.size, 1, none⟩, .int .i64 pb), (⟨w2.heap.size, 2, none⟩, .int .i64 pc), (⟨w1.heap.size, 0, none⟩, .int .i64 x), (⟨w1.heap.size, 1, none⟩, .int .i64 y), (⟨w1.heap.size, 2, none⟩, .int .i64 z)]) ∧ Hid (New w wx [(⟨w2.heap.size, 0, none⟩, .int .i64 pa), (⟨w2.heap.size, 1, none⟩, .int .i64 pb), (⟨w2.heap.size, 2, none⟩, .int .i64 pc), (⟨w1.heap.size, 0, none⟩, .int .i64 x), (⟨w1.heap.size, 1, none⟩, .int .i64 y), (⟨w1.heap.size, 2, none⟩, .int .i64 z)] g 35 #[.int .i64 x, .int .i64 y, .int .i64 z]))
        case first =>
          go_region_held3 (fun W => W.cell? ⟨w2.heap.size, 0, none⟩ = some (.int .i64 pa) ∧ W.cell? ⟨w2.heap.size, 1, none⟩ = some (.int .i64 pb) ∧ W.cell? ⟨w2.heap.size, 2, none⟩ = some (.int .i64 pc) ∧ W.cell? ⟨w1.heap.size, 0, none⟩ = some (.int .i64 x) ∧ W.cell? ⟨w1.heap.size, 1, none⟩ = some (.int .i64 y) ∧ W.cell? ⟨w1.heap.size, 2, none⟩ = some (.int .i64 z)) (first | with_reducible exact H.c6 | with_reducible exact (H.alloc _).c6 | with_reducible exact (H.put3 N _ _ _).c6 | with_reducible exact H.drew.c6 | with_reducible exact (H.alloc _).drew.c6) ((first | (go_at_call 37; refine (PGV.out _).mono ?_; rintro e wn ⟨rfl, hb⟩; first | (with_reducible have N' := N.call hb; have H' := H.call hb; clear N H hb g0 g1 g2 h0 h1 h2; have N := N'; have H := H'; clear N' H'; have g0 := N.blk.cell 0; have g1 := N.blk.cell 1; have g2 := N.blk.cell 2; have h0 := N.blk.frozen 0; have h1 := N.blk.frozen 1; have h2 := N.blk.frozen 2; simp at g0 g1 g2) | (with_reducible have H' := H.call hb; clear H hb; have H := H'; clear H') | (with_reducible have N := H.newa hb; have H' := H.calla hb; clear H hb; have H := H'; clear H'; have g0 := N.blk.cell 0; have g1 := N.blk.cell 1; have g2 := N.blk.cell 2; have h0 := N.blk.frozen 0; have h1 := N.blk.frozen 1; have h2 := N.blk.frozen 2; simp at g0 g1 g2) | (with_reducible have H' := H.calld hb; clear H hb; have H := H'; clear H') | (with_reducible have N := H.newad hb; have H' := H.callad hb; clear H hb; have H := H'; clear H'; have g0 := N.blk.cell 0; have g1 := N.blk.cell 1; have g2 := N.blk.cell 2; have h0 := N.blk.frozen 0; have h1 := N.blk.frozen 1; have h2 := N.blk.frozen 2; simp at g0 g1 g2)) | (go_at_call 36; refine (BK.out _).mono ?_; rintro e wn ⟨rfl, hb⟩; first | (with_reducible have N' := N.call hb; have H' := H.call hb; clear N H hb g0 g1 g2 h0 h1 h2; have N := N'; have H := H'; clear N' H'; have g0 := N.blk.cell 0; have g1 := N.blk.cell 1; have g2 := N.blk.cell 2; have h0 := N.blk.frozen 0; have h1 := N.blk.frozen 1; have h2 := N.blk.frozen 2; simp at g0 g1 g2) | (with_reducible have H' := H.call hb; clear H hb; have H := H'; clear H') | (with_reducible have N := H.newa hb; have H' := H.calla hb; clear H hb; have H := H'; clear H'; have g0 := N.blk.cell 0; have g1 := N.blk.cell 1; have g2 := N.blk.cell 2; have h0 := N.blk.frozen 0; have h1 := N.blk.frozen 1; have h2 := N.blk.frozen 2; simp at g0 g1 g2) | (with_reducible have H' := H.calld hb; clear H hb; have H := H'; clear H') | (with_reducible have N := H.newad hb; have H' := H.callad hb; clear H hb; have H := H'; clear H'; have g0 := N.blk.cell 0; have g1 := N.blk.cell 1; have g2 := N.blk.cell 2; have h0 := N.blk.frozen 0; have h1 := N.blk.frozen 1; have h2 := N.blk.frozen 2; simp at g0 g1 g2))))
          all_goals go_wp2_with fail
          all_goals go_meet
          all_goals first | exact ⟨_, rfl, rfl, H.alloc _, H.new _ _⟩ | exact ⟨_, rfl, rfl, H.put3 N _ _ _, N.put3 _ _ _⟩
        case rest =>
          obtain ⟨gb, rfl, rfl, HH, NN⟩ := hcut
          have H := HH.out.take3 NN.out
          clear HH NN e0 e1 e2 d0 d1 d2
          have e0 := H.get (p := ⟨w2.heap.size, 0, none⟩) (v := .int .i64 pa) (by simp)
          have e1 := H.get (p := ⟨w2.heap.size, 1, none⟩) (v := .int .i64 pb) (by simp)
          have e2 := H.get (p := ⟨w2.heap.size, 2, none⟩) (v := .int .i64 pc) (by simp)
          go_wp2_with fail
          refine (SV.out _).mono ?_
          rintro e w9 ⟨rfl, hb⟩
          replace H := H.call hb
          clear e0 e1 e2 hb
          have e0 := H.get (p := ⟨gb, 0, none⟩) (v := .int .i64 x) (by simp)
          have e1 := H.get (p := ⟨gb, 1, none⟩) (v := .int .i64 y) (by simp)
          have e2 := H.get (p := ⟨gb, 2, none⟩) (v := .int .i64 z) (by simp)
          have d0 := H.get (p := ⟨w1.heap.size, 0, none⟩) (v := .int .i64 x) (by simp)
          have d1 := H.get (p := ⟨w1.heap.size, 1, none⟩) (v := .int .i64 y) (by simp)
          have d2 := H.get (p := ⟨w1.heap.size, 2, none⟩) (v := .int .i64 z) (by simp)
          go_wp2_with fail
          go_ret
          exact ⟨ret_bool (by simp), H.below⟩
  · have hokf : svB o bb = false := by simpa using hok
    rw [hokf] at T TS
    obtain ⟨pa, ha⟩ : ∃ v, sv1 o bb 120 n x = v := ⟨_, rfl⟩
    obtain ⟨pb, hb⟩ : ∃ v, sv1 o bb 121 n y = v := ⟨_, rfl⟩
    obtain ⟨pc, hc⟩ : ∃ v, sv1 o bb 122 n z = v := ⟨_, rfl⟩
    simp only [ha, hb, hc] at T TS
    have q2 : (pa != pa) = false ∧ (pb != pb) = false ∧ (pc != pc) = false := by simp
    obtain ⟨q2a, q2b, q2c⟩ := q2
    have q3 : (pa == pa) = true ∧ (pb == pb) = true ∧ (pc == pc) = true := by simp
    obtain ⟨q3a, q3b, q3c⟩ := q3
    clear ha hb hc hok hokf ho hbb
    go_wp2_with fail
    refine (T.out _).mono ?_
    rintro e w2 ⟨rfl, hb⟩
    replace H := H.call hb
    clear hb
    clear d0 d1 d2
    replace H := H.box3 (a := .int .i64 pa) (b := .int .i64 pb) (c := .int .i64 pc) 35
    obtain ⟨e0, e1, e2, d0, d1, d2⟩ := H.c6
    go_wp2_with fail
    refine (TS.out _).mono ?_
    rintro e w3 ⟨rfl, hb⟩
    replace H := H.call hb
    clear hb
    clear e0 e1 e2 d0 d1 d2
    replace H := H.box3 (a := .int .i64 pa) (b := .int .i64 pb) (c := .int .i64 pc) 35
    have f0 := H.get (p := ⟨w3.heap.size, 0, none⟩) (v := .int .i64 pa) (by simp)
    have f1 := H.get (p := ⟨w3.heap.size, 1, none⟩) (v := .int .i64 pb) (by simp)
    have f2 := H.get (p := ⟨w3.heap.size, 2, none⟩) (v := .int .i64 pc) (by simp)
    replace H : Sit w (w3.alloc (.cells #[.int .i64 pa, .int .i64 pb, .int .i64 pc] 35)) [(⟨w2.heap.size, 0, none⟩, .int .i64 pa), (⟨w2.heap.size, 1, none⟩, .int .i64 pb), (⟨w2.heap.size, 2, none⟩, .int .i64 pc), (⟨w1.heap.size, 0, none⟩, .int .i64 x), (⟨w1.heap.size, 1, none⟩, .int .i64 y), (⟨w1.heap.size, 2, none⟩, .int .i64 z)] := H.less (by simp)
    obtain ⟨e0, e1, e2, d0, d1, d2⟩ := H.c6
    clear T TS
    go_wp2_with fail
    go_ret
    exact ⟨ret_bool (by first | rfl | simp), H.below⟩

set_option maxRecDepth 100000 in
theorem lifted (os : Os) (started : os.Started) (H : Type) (enc : TypeId × Value → H) :
    ReturnsInHanded {} Try.checked os 9 .any (Rows.fnSetVarSpec.pre6 enc Try.prog Try.f9 Rows.fnSetVarRow.domain false) (Rows.fnSetVarSpec.post enc Try.prog Try.f9 false true false false) := by
  refine returnsInHanded_of_change (C := Try.checked) own started (by kernel_rfl) Try.func9
    (ChangeSpec.witness6 (enc := enc) (C := Try.checked) false ⟨#[], #[.slice none 0 0], []⟩ 8 (by kernel_rfl) (by kernel_rfl) (by kernel_rfl) (by kernel_rfl)) ?_
  intro W base args ds gs before hval0 hW hcnd _
  have hval : ∀ (j : Nat) t v, Try.f9.params[j]? = some t → args[j]? = some v → Value.okWide Try.prog W .any base t v := hval0
  have hW' := hW
  obtain ⟨p, q, hA0, hV, rfl, hfz, hnd⟩ := hW
  have hA : DataW.TrodAll enc Try.prog W 0 (fun _ => true) true Try.f9.params.toList args.toList ds p := hA0
  rw [Try.params9] at hA hval
  obtain ⟨v0, vs0, d0, ds0, p0, q0, hargs, rfl, rfl, h0, r0⟩ := trodAll_cons hA
  obtain ⟨rfl, rfl, rfl⟩ := trodAll_nil r0
  obtain rfl : args = #[v0] := by cases args; simp_all
  obtain ⟨rfl, rfl⟩ := trodVars_none hV
  have k0 := h0
  have lt0 : ∀ x ∈ p0, x.block < W.heap.size := by obtain ⟨m, hm⟩ := k0; exact DataW.trod_lt m _ _ _ hm
  obtain ⟨a0, len0, cap0, rfl⟩ := okWide_slice Try.underlying22 (hval 0 22 v0 rfl rfl)
  obtain ⟨z0, w0⟩ : ∃ zs, IsRow .u8 W a0 len0 cap0 zs := by
    obtain ⟨fuel, hf⟩ := h0
    rcases open_ints Try.underlying22 Try.underlying5 (by kernel_rfl) hf with ⟨hcs, _⟩ | ⟨x, l, c, zs, hcs, _, hl, hm, hz, _, hcell, hwz⟩
    · simp [Value.cells] at hcs
      obtain ⟨rfl, rfl, rfl⟩ := hcs
      exact ⟨[], .inl ⟨rfl, rfl, rfl, rfl⟩⟩
    · simp [Value.cells] at hcs
      obtain ⟨rfl, rfl, rfl⟩ := hcs
      exact ⟨zs, .inr ⟨_, rfl, hl, hm, by simpa using hz, hcell, hwz⟩⟩
  obtain ⟨by0, lc0, cm0⟩ := bytes_of_row w0
  clear hA0 hval0
  refine (walk a0 len0 cap0 W by0 lc0 cm0).mono fun e W' ⟨he, bel⟩ => ?_
  subst he
  exact ⟨_, rfl, _, _, _, [], _, [], hW', trodAll_mk1 (shut_bool Try.underlying4 _), (trodAll_cons_mk (Below.trod laidOut (by kernel_rfl) (of_decide_eq_true (by kernel_rfl)) k0 bel lt0) trodAll_mk0), rfl, bel.frame _, fun h => by cases h⟩

theorem over : Rows.fnSetVarRow.holds Try.pinned (OpenSpec.ofChange Rows.fnSetVarSpec) :=
  OpenClaim.holds_of_wide 9 Try.f9 rfl rfl rfl rfl rfl rfl rfl ⟨rfl, rfl, rfl, rfl, rfl⟩ rfl rfl rfl rfl rfl (by kernel_rfl) Try.func9 (by kernel_rfl)
    (of_decide_eq_true (by kernel_rfl)) (by unfold Func.isWrapper; first | (rw [if_pos (by decide +kernel)]; kernel_rfl) | (rw [if_neg (by decide +kernel)]; exact ⟨rfl, rfl⟩))
    (fun os started H enc _ => lifted os started H enc)

/-- the statement -/
theorem proved : Rows.FnSetVarSaid := over
#print axioms proved
end Go.Proofs.Ytcdcgllodggebaa.fnSetVar
