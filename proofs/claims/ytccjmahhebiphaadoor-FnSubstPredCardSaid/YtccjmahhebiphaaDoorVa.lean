/- The program's own table of strides; the number of a state with another value of a variable; sets for some and for all values, the program's. -/
import Derived.Test.YtccjmahhebiphaaDoorPlv
import Derived.Test.YtccjmahhebiphaaDoorPd
import Derived.Test.YtccjmahhebiphaaDoorSv
import Derived.Test.YtccjmahhebiphaaDoorGx
namespace Go.Proofs.YtccjmahhebiphaaDoor
open Go.RowKit
open Pl

/-- what the program's own variable holds -/
def Str (w : World) : Prop := w.cell? ⟨0, 0, none⟩ = some (.int .i64 1) ∧ w.cell? ⟨0, 1, none⟩ = some (.int .i64 3) ∧ w.cell? ⟨0, 2, none⟩ = some (.int .i64 9)
theorem Str.lt {w : World} (h : Str w) : 0 < w.heap.size := World.block_lt_of_cell? w _ h.1
theorem Str.below {w w' : World} (h : Str w) (hb : Below w.heap.size w w') : Str w' :=
  ⟨(hb.cell (p := ⟨0, 0, none⟩) h.lt).trans h.1, (hb.cell (p := ⟨0, 1, none⟩) h.lt).trans h.2.1, (hb.cell (p := ⟨0, 2, none⟩) h.lt).trans h.2.2⟩
/-- the same as cells that are told of -/
def strs : List (Addr × Value) := [(⟨0, 0, none⟩, .int .i64 1), (⟨0, 1, none⟩, .int .i64 3), (⟨0, 2, none⟩, .int .i64 9)]
theorem Str.sit {w : World} (h : Str w) : Sit w w strs := ⟨Below.refl _ _, fun p hp => by
  have hl := h.lt
  simp only [strs, List.mem_cons, List.mem_nil_iff, or_false] at hp
  rcases hp with rfl | rfl | rfl
  · exact ⟨hl, h.1⟩
  · exact ⟨hl, h.2.1⟩
  · exact ⟨hl, h.2.2⟩⟩
theorem Sit.str {w W : World} {l : List (Addr × Value)} (H : Sit w W l) (h : ∀ p, p ∈ strs → p ∈ l) : Str W :=
  ⟨H.get (h _ (.head _)), H.get (h _ (.tail _ (.head _))), H.get (h _ (.tail _ (.tail _ (.head _))))⟩
theorem fnd_x : fnd nmsN 120 = 0 := by decide
theorem fnd_y : fnd nmsN 121 = 1 := by decide
theorem fnd_z : fnd nmsN 122 = 2 := by decide
theorem wrap_id {n : Int} (h1 : -1000 ≤ n) (h2 : n ≤ 1000) : IntKind.i64.wrap n = n := by unfold IntKind.wrap; simp [IntKind.bits, IntKind.signed]; omega
set_option maxHeartbeats 4000000 in
theorem withValue_any (c : UInt8) (hc : c ∈ nmsN) (i : Nat) (hi : i < 27) (n : Int) (hn : small n) (w : World) (hs : Str w) : Calls Tryd.prog 55 #[.int .i64 (i : Int), .int .i64 (fnd nmsN c), .int .i64 n] w fun e w' => e = .returned (.int .i64 (wv c i n : Int)) ∧ Below w.heap.size w w' := by
  have E := Lib.hid (wv_prog hc hi hn)
  obtain ⟨h0, h1, h2⟩ := hs
  obtain ⟨n0, n2⟩ := hn
  rcases nmsN_cases hc with rfl | rfl | rfl
  · rw [fnd_x]
    go_enter Tryd.func55, Tryd.ntmps55
    go_wp2_with fail
    go_quiet (fail)
    go_wp2_with fail
    go_ret
    exact ⟨ret_int (by have h := E.out; rw [show strd 120 = 1 from rfl] at h; omega), below_drewN _ _ _⟩
  · rw [fnd_y]
    go_enter Tryd.func55, Tryd.ntmps55
    go_wp2_with fail
    go_quiet (fail)
    go_wp2_with fail
    go_ret
    exact ⟨ret_int (by have h := E.out; rw [show strd 121 = 3 from rfl] at h; omega), below_drewN _ _ _⟩
  · rw [fnd_z]
    go_enter Tryd.func55, Tryd.ntmps55
    go_wp2_with fail
    go_quiet (fail)
    go_wp2_with fail
    go_ret
    exact ⟨ret_int (by have h := E.out; rw [show strd 122 = 9 from rfl] at h; omega), below_drewN _ _ _⟩
/-- sets for some or all values, as options -/
def smO (P V : ByteArray) (f : UInt8 → (Nat → Bool) → Nat → Bool) : Option (List UInt8) :=
  match varOf V.data.toList with
  | none => none
  | some c => if bOk 27 P.data.toList then some (bitsN 27 (f c (bt P.data.toList))) else none
theorem smO_bad {P V : ByteArray} {f : UInt8 → (Nat → Bool) → Nat → Bool} (h : bOk 27 P.data.toList = false) : smO P V f = none := by
  unfold smO
  cases varOf V.data.toList <;> simp [h]
theorem smO_no {P V : ByteArray} {f : UInt8 → (Nat → Bool) → Nat → Bool} (h : varOf V.data.toList = none) : smO P V f = none := by
  unfold smO
  rw [h]
theorem smO_yes {P V : ByteArray} {f : UInt8 → (Nat → Bool) → Nat → Bool} {c : UInt8} (h : varOf V.data.toList = some c) (hp : bOk 27 P.data.toList = true) : smO P V f = some (bitsN 27 (f c (bt P.data.toList))) := by
  unfold smO
  rw [h, hp]
  rfl
set_option maxHeartbeats 8000000 in
theorem SomeVar1_any (P : ByteArray) (hp : bOk 27 P.data.toList = true) (v : UInt8) (hv : v ∈ nmsN) (i : Nat) (hi : i < 27) (c d : Nat) (W0 : World) (hs : Str W0) (h1 : W0.cell? ⟨c, 0, none⟩ = some (.string P)) (h2 : W0.cell? ⟨d, 0, none⟩ = some (.int .i64 (fnd nmsN v))) :
    Calls Tryd.prog 64 #[.int .i64 (i : Int), .pointer (some ⟨c, 0, none⟩), .pointer (some ⟨d, 0, none⟩)] W0 fun e W' => e = .returned (.bool (smF v (bt P.data.toList) i)) ∧ Below W0.heap.size W0 W' := by
  have z0 := ok_size hp
  have l0 := wv_lt (c := v) hi sm0
  have l1 := wv_lt (c := v) hi sm1
  have l2 := wv_lt (c := v) hi sm2
  have V0 := Lib.hid (fun W hs => withValue_any v hv i hi 0 sm0 W hs)
  have V1 := Lib.hid (fun W hs => withValue_any v hv i hi 1 sm1 W hs)
  have V2 := Lib.hid (fun W hs => withValue_any v hv i hi 2 sm2 W hs)
  unfold smF
  generalize wv v i 0 = x0 at *
  generalize wv v i 1 = x1 at *
  generalize wv v i 2 = x2 at *
  have g0 : x0 < P.size := by omega
  have g1 : x1 < P.size := by omega
  have g2 : x2 < P.size := by omega
  generalize fnd nmsN v = vn at *
  have H : Sit W0 W0 ((⟨c, 0, none⟩, .string P) :: (⟨d, 0, none⟩, .int .i64 vn) :: strs) :=
    (hs.sit.more (p := ⟨d, 0, none⟩) (World.block_lt_of_cell? _ _ h2) h2).more (p := ⟨c, 0, none⟩) (World.block_lt_of_cell? _ _ h1) h1
  clear hs hv hi l0 l1 l2 h1 h2
  cases hb0 : bt P.data.toList x0
  · have c0 := bt_zero hp g0 hb0
    cases hb1 : bt P.data.toList x1
    · have c1 := bt_zero hp g1 hb1
      cases hb2 : bt P.data.toList x2
      · have c2 := bt_zero hp g2 hb2
        clear hb0 hb1 hb2 hp z0
        go_enter Tryd.func64, Tryd.ntmps64
        go_wp2_with fail
        refine region_class (fun W => Sit W0 W ((⟨c, 0, none⟩, .string P) :: (⟨d, 0, none⟩, .int .i64 vn) :: strs)) (by kernel_rfl) (by kernel_rfl) H.drew ?_
        repeat (first | go_big_quiet_skip | (go_big_quiet_want; first | (apply quiet_value; (· (intro W hW; (have d0 := hW.get (.head _); have d1 := hW.get (.tail _ (.head _))); go_simp; exact rfl)); simp only [Act.put, List.setIfInBounds_toArray, List.set_cons_zero, List.set_cons_succ]; go_big_quiet_on) | (apply quiet_call; (· (intro W hW; go_simp; exact ⟨rfl, rfl⟩)); (· (intro W hW; first | with_reducible exact ((V0.out W (hW.str (fun _ h => List.mem_cons_of_mem _ (List.mem_cons_of_mem _ h))))).mono fun _ _ h => ⟨h.1, hW.call h.2⟩ | with_reducible exact ((V1.out W (hW.str (fun _ h => List.mem_cons_of_mem _ (List.mem_cons_of_mem _ h))))).mono fun _ _ h => ⟨h.1, hW.call h.2⟩ | with_reducible exact ((V2.out W (hW.str (fun _ h => List.mem_cons_of_mem _ (List.mem_cons_of_mem _ h))))).mono fun _ _ h => ⟨h.1, hW.call h.2⟩)); simp only [Act.put, List.setIfInBounds_toArray, List.set_cons_zero, List.set_cons_succ]; go_big_quiet_on)))
        refine wpQuiet_nil ?_
        intro wq hq
        clear H
        have H := hq
        clear hq
        go_wp2_with fail
        go_ret
        exact ⟨ret_bool (by first | rfl | simp), H.below⟩
      · have c2 := bt_yes g2 hb2
        clear hb0 hb1 hb2 hp z0
        go_enter Tryd.func64, Tryd.ntmps64
        go_wp2_with fail
        refine region_class (fun W => Sit W0 W ((⟨c, 0, none⟩, .string P) :: (⟨d, 0, none⟩, .int .i64 vn) :: strs)) (by kernel_rfl) (by kernel_rfl) H.drew ?_
        repeat (first | go_big_quiet_skip | (go_big_quiet_want; first | (apply quiet_value; (· (intro W hW; (have d0 := hW.get (.head _); have d1 := hW.get (.tail _ (.head _))); go_simp; exact rfl)); simp only [Act.put, List.setIfInBounds_toArray, List.set_cons_zero, List.set_cons_succ]; go_big_quiet_on) | (apply quiet_call; (· (intro W hW; go_simp; exact ⟨rfl, rfl⟩)); (· (intro W hW; first | with_reducible exact ((V0.out W (hW.str (fun _ h => List.mem_cons_of_mem _ (List.mem_cons_of_mem _ h))))).mono fun _ _ h => ⟨h.1, hW.call h.2⟩ | with_reducible exact ((V1.out W (hW.str (fun _ h => List.mem_cons_of_mem _ (List.mem_cons_of_mem _ h))))).mono fun _ _ h => ⟨h.1, hW.call h.2⟩ | with_reducible exact ((V2.out W (hW.str (fun _ h => List.mem_cons_of_mem _ (List.mem_cons_of_mem _ h))))).mono fun _ _ h => ⟨h.1, hW.call h.2⟩)); simp only [Act.put, List.setIfInBounds_toArray, List.set_cons_zero, List.set_cons_succ]; go_big_quiet_on)))
        refine wpQuiet_nil ?_
        intro wq hq
        clear H
        have H := hq
        clear hq
        go_wp2_with fail
        go_ret
        exact ⟨ret_bool (by first | rfl | simp), H.below⟩
    · have c1 := bt_yes g1 hb1
      clear hb0 hb1 hp z0
      go_enter Tryd.func64, Tryd.ntmps64
      go_wp2_with fail
      refine region_class (fun W => Sit W0 W ((⟨c, 0, none⟩, .string P) :: (⟨d, 0, none⟩, .int .i64 vn) :: strs)) (by kernel_rfl) (by kernel_rfl) H.drew ?_
      repeat (first | go_big_quiet_skip | (go_big_quiet_want; first | (apply quiet_value; (· (intro W hW; (have d0 := hW.get (.head _); have d1 := hW.get (.tail _ (.head _))); go_simp; exact rfl)); simp only [Act.put, List.setIfInBounds_toArray, List.set_cons_zero, List.set_cons_succ]; go_big_quiet_on) | (apply quiet_call; (· (intro W hW; go_simp; exact ⟨rfl, rfl⟩)); (· (intro W hW; first | with_reducible exact ((V0.out W (hW.str (fun _ h => List.mem_cons_of_mem _ (List.mem_cons_of_mem _ h))))).mono fun _ _ h => ⟨h.1, hW.call h.2⟩ | with_reducible exact ((V1.out W (hW.str (fun _ h => List.mem_cons_of_mem _ (List.mem_cons_of_mem _ h))))).mono fun _ _ h => ⟨h.1, hW.call h.2⟩)); simp only [Act.put, List.setIfInBounds_toArray, List.set_cons_zero, List.set_cons_succ]; go_big_quiet_on)))
      refine wpQuiet_nil ?_
      intro wq hq
      clear H
      have H := hq
      clear hq
      go_wp2_with fail
      go_ret
      exact ⟨ret_bool (by first | rfl | simp), H.below⟩
  · have c0 := bt_yes g0 hb0
    clear hb0 hp z0
    go_enter Tryd.func64, Tryd.ntmps64
    go_wp2_with fail
    refine region_class (fun W => Sit W0 W ((⟨c, 0, none⟩, .string P) :: (⟨d, 0, none⟩, .int .i64 vn) :: strs)) (by kernel_rfl) (by kernel_rfl) H.drew ?_
    repeat (first | go_big_quiet_skip | (go_big_quiet_want; first | (apply quiet_value; (· (intro W hW; (have d0 := hW.get (.head _); have d1 := hW.get (.tail _ (.head _))); go_simp; exact rfl)); simp only [Act.put, List.setIfInBounds_toArray, List.set_cons_zero, List.set_cons_succ]; go_big_quiet_on) | (apply quiet_call; (· (intro W hW; go_simp; exact ⟨rfl, rfl⟩)); (· (intro W hW; first | with_reducible exact ((V0.out W (hW.str (fun _ h => List.mem_cons_of_mem _ (List.mem_cons_of_mem _ h))))).mono fun _ _ h => ⟨h.1, hW.call h.2⟩)); simp only [Act.put, List.setIfInBounds_toArray, List.set_cons_zero, List.set_cons_succ]; go_big_quiet_on)))
    refine wpQuiet_nil ?_
    intro wq hq
    clear H
    have H := hq
    clear hq
    go_wp2_with fail
    go_ret
    exact ⟨ret_bool (by first | rfl | simp), H.below⟩
set_option maxHeartbeats 8000000 in
theorem AllVar1_any (P : ByteArray) (hp : bOk 27 P.data.toList = true) (v : UInt8) (hv : v ∈ nmsN) (i : Nat) (hi : i < 27) (c d : Nat) (W0 : World) (hs : Str W0) (h1 : W0.cell? ⟨c, 0, none⟩ = some (.string P)) (h2 : W0.cell? ⟨d, 0, none⟩ = some (.int .i64 (fnd nmsN v))) :
    Calls Tryd.prog 65 #[.int .i64 (i : Int), .pointer (some ⟨c, 0, none⟩), .pointer (some ⟨d, 0, none⟩)] W0 fun e W' => e = .returned (.bool (alF v (bt P.data.toList) i)) ∧ Below W0.heap.size W0 W' := by
  have z0 := ok_size hp
  have l0 := wv_lt (c := v) hi sm0
  have l1 := wv_lt (c := v) hi sm1
  have l2 := wv_lt (c := v) hi sm2
  have V0 := Lib.hid (fun W hs => withValue_any v hv i hi 0 sm0 W hs)
  have V1 := Lib.hid (fun W hs => withValue_any v hv i hi 1 sm1 W hs)
  have V2 := Lib.hid (fun W hs => withValue_any v hv i hi 2 sm2 W hs)
  unfold alF
  generalize wv v i 0 = x0 at *
  generalize wv v i 1 = x1 at *
  generalize wv v i 2 = x2 at *
  have g0 : x0 < P.size := by omega
  have g1 : x1 < P.size := by omega
  have g2 : x2 < P.size := by omega
  generalize fnd nmsN v = vn at *
  have H : Sit W0 W0 ((⟨c, 0, none⟩, .string P) :: (⟨d, 0, none⟩, .int .i64 vn) :: strs) :=
    (hs.sit.more (p := ⟨d, 0, none⟩) (World.block_lt_of_cell? _ _ h2) h2).more (p := ⟨c, 0, none⟩) (World.block_lt_of_cell? _ _ h1) h1
  clear hs hv hi l0 l1 l2 h1 h2
  cases hb0 : bt P.data.toList x0
  · have c0 := bt_zero hp g0 hb0
    clear hb0 hp z0
    go_enter Tryd.func65, Tryd.ntmps65
    go_wp2_with fail
    refine region_class (fun W => Sit W0 W ((⟨c, 0, none⟩, .string P) :: (⟨d, 0, none⟩, .int .i64 vn) :: strs)) (by kernel_rfl) (by kernel_rfl) H.drew ?_
    repeat (first | go_big_quiet_skip | (go_big_quiet_want; first | (apply quiet_value; (· (intro W hW; (have d0 := hW.get (.head _); have d1 := hW.get (.tail _ (.head _))); go_simp; exact rfl)); simp only [Act.put, List.setIfInBounds_toArray, List.set_cons_zero, List.set_cons_succ]; go_big_quiet_on) | (apply quiet_call; (· (intro W hW; go_simp; exact ⟨rfl, rfl⟩)); (· (intro W hW; first | with_reducible exact ((V0.out W (hW.str (fun _ h => List.mem_cons_of_mem _ (List.mem_cons_of_mem _ h))))).mono fun _ _ h => ⟨h.1, hW.call h.2⟩)); simp only [Act.put, List.setIfInBounds_toArray, List.set_cons_zero, List.set_cons_succ]; go_big_quiet_on)))
    refine wpQuiet_nil ?_
    intro wq hq
    clear H
    have H := hq
    clear hq
    go_wp2_with fail
    go_ret
    exact ⟨ret_bool (by first | rfl | simp), H.below⟩
  · have c0 := bt_yes g0 hb0
    cases hb1 : bt P.data.toList x1
    · have c1 := bt_zero hp g1 hb1
      clear hb0 hb1 hp z0
      go_enter Tryd.func65, Tryd.ntmps65
      go_wp2_with fail
      refine region_class (fun W => Sit W0 W ((⟨c, 0, none⟩, .string P) :: (⟨d, 0, none⟩, .int .i64 vn) :: strs)) (by kernel_rfl) (by kernel_rfl) H.drew ?_
      repeat (first | go_big_quiet_skip | (go_big_quiet_want; first | (apply quiet_value; (· (intro W hW; (have d0 := hW.get (.head _); have d1 := hW.get (.tail _ (.head _))); go_simp; exact rfl)); simp only [Act.put, List.setIfInBounds_toArray, List.set_cons_zero, List.set_cons_succ]; go_big_quiet_on) | (apply quiet_call; (· (intro W hW; go_simp; exact ⟨rfl, rfl⟩)); (· (intro W hW; first | with_reducible exact ((V0.out W (hW.str (fun _ h => List.mem_cons_of_mem _ (List.mem_cons_of_mem _ h))))).mono fun _ _ h => ⟨h.1, hW.call h.2⟩ | with_reducible exact ((V1.out W (hW.str (fun _ h => List.mem_cons_of_mem _ (List.mem_cons_of_mem _ h))))).mono fun _ _ h => ⟨h.1, hW.call h.2⟩)); simp only [Act.put, List.setIfInBounds_toArray, List.set_cons_zero, List.set_cons_succ]; go_big_quiet_on)))
      refine wpQuiet_nil ?_
      intro wq hq
      clear H
      have H := hq
      clear hq
      go_wp2_with fail
      go_ret
      exact ⟨ret_bool (by first | rfl | simp), H.below⟩
    · have c1 := bt_yes g1 hb1
      cases hb2 : bt P.data.toList x2
      · have c2 := bt_zero hp g2 hb2
        clear hb0 hb1 hb2 hp z0
        go_enter Tryd.func65, Tryd.ntmps65
        go_wp2_with fail
        refine region_class (fun W => Sit W0 W ((⟨c, 0, none⟩, .string P) :: (⟨d, 0, none⟩, .int .i64 vn) :: strs)) (by kernel_rfl) (by kernel_rfl) H.drew ?_
        repeat (first | go_big_quiet_skip | (go_big_quiet_want; first | (apply quiet_value; (· (intro W hW; (have d0 := hW.get (.head _); have d1 := hW.get (.tail _ (.head _))); go_simp; exact rfl)); simp only [Act.put, List.setIfInBounds_toArray, List.set_cons_zero, List.set_cons_succ]; go_big_quiet_on) | (apply quiet_call; (· (intro W hW; go_simp; exact ⟨rfl, rfl⟩)); (· (intro W hW; first | with_reducible exact ((V0.out W (hW.str (fun _ h => List.mem_cons_of_mem _ (List.mem_cons_of_mem _ h))))).mono fun _ _ h => ⟨h.1, hW.call h.2⟩ | with_reducible exact ((V1.out W (hW.str (fun _ h => List.mem_cons_of_mem _ (List.mem_cons_of_mem _ h))))).mono fun _ _ h => ⟨h.1, hW.call h.2⟩ | with_reducible exact ((V2.out W (hW.str (fun _ h => List.mem_cons_of_mem _ (List.mem_cons_of_mem _ h))))).mono fun _ _ h => ⟨h.1, hW.call h.2⟩)); simp only [Act.put, List.setIfInBounds_toArray, List.set_cons_zero, List.set_cons_succ]; go_big_quiet_on)))
        refine wpQuiet_nil ?_
        intro wq hq
        clear H
        have H := hq
        clear hq
        go_wp2_with fail
        go_ret
        exact ⟨ret_bool (by first | rfl | simp), H.below⟩
      · have c2 := bt_yes g2 hb2
        clear hb0 hb1 hb2 hp z0
        go_enter Tryd.func65, Tryd.ntmps65
        go_wp2_with fail
        refine region_class (fun W => Sit W0 W ((⟨c, 0, none⟩, .string P) :: (⟨d, 0, none⟩, .int .i64 vn) :: strs)) (by kernel_rfl) (by kernel_rfl) H.drew ?_
        repeat (first | go_big_quiet_skip | (go_big_quiet_want; first | (apply quiet_value; (· (intro W hW; (have d0 := hW.get (.head _); have d1 := hW.get (.tail _ (.head _))); go_simp; exact rfl)); simp only [Act.put, List.setIfInBounds_toArray, List.set_cons_zero, List.set_cons_succ]; go_big_quiet_on) | (apply quiet_call; (· (intro W hW; go_simp; exact ⟨rfl, rfl⟩)); (· (intro W hW; first | with_reducible exact ((V0.out W (hW.str (fun _ h => List.mem_cons_of_mem _ (List.mem_cons_of_mem _ h))))).mono fun _ _ h => ⟨h.1, hW.call h.2⟩ | with_reducible exact ((V1.out W (hW.str (fun _ h => List.mem_cons_of_mem _ (List.mem_cons_of_mem _ h))))).mono fun _ _ h => ⟨h.1, hW.call h.2⟩ | with_reducible exact ((V2.out W (hW.str (fun _ h => List.mem_cons_of_mem _ (List.mem_cons_of_mem _ h))))).mono fun _ _ h => ⟨h.1, hW.call h.2⟩)); simp only [Act.put, List.setIfInBounds_toArray, List.set_cons_zero, List.set_cons_succ]; go_big_quiet_on)))
        refine wpQuiet_nil ?_
        intro wq hq
        clear H
        have H := hq
        clear hq
        go_wp2_with fail
        go_ret
        exact ⟨ret_bool (by first | rfl | simp), H.below⟩
set_option maxRecDepth 100000 in
set_option maxHeartbeats 8000000 in
theorem SomeVar_any (P V : ByteArray) (hP : P.size ≤ 1000000000000) (w : World) (hs : Str w) : Calls Tryd.prog 15 #[.string P, .string V] w fun e w' => (e = .returned (.tuple #[.string (bs (optB (smO P V smF))), .bool (smO P V smF).isSome]) ∧ Below w.heap.size w w') := by
  have PV := Lib.hid (fun w => PredValid_any P hP w)
  have IV := Lib.hid (fun w => isVar_any V w)
  have B1 := Lib.hid (below_n w (.cells #[.string P] 9))
  cases hp : bOk 27 P.data.toList
  · rw [smO_bad hp]
    rw [hp] at PV
    simp only [optB, Option.isSome_none]
    clear hs
    go_enter Tryd.func15, Tryd.ntmps15
    go_wp2_with fail
    refine (PV.out _).mono ?_
    rintro e w' ⟨rfl, rfl⟩
    go_wp2_with fail
    go_ret2
    exact ⟨(by first | trivial | rfl), B1.out⟩
  · cases hv : varOf V.data.toList with
    | none =>
      rw [smO_no hv]
      rw [hp] at PV
      rw [hv] at IV
      simp only [optB, Option.isSome_none] at IV ⊢
      clear hs
      go_enter Tryd.func15, Tryd.ntmps15
      go_wp2_with fail
      refine (PV.out _).mono ?_
      rintro e w' ⟨rfl, rfl⟩
      go_wp2_with fail
      refine (IV.out _).mono ?_
      rintro e w' ⟨rfl, rfl⟩
      go_wp2_with fail
      go_ret2
      exact ⟨(by first | trivial | rfl), B1.out⟩
    | some c =>
      rw [smO_yes hv hp]
      rw [hp] at PV
      rw [hv] at IV
      simp only [optB, Option.isSome_some] at IV ⊢
      obtain ⟨hvl, hcm⟩ := varOf_some hv
      obtain rfl := bytes_of hvl
      have hz1 : (⟨[c].toArray⟩ : ByteArray).size = 1 := rfl
      have hg1 : (⟨[c].toArray⟩ : ByteArray)[0] = c := rfl
      have hcv : 120 ≤ (c.toNat : Int) ∧ (c.toNat : Int) ≤ 122 ∧ (c.toNat : Int) - 120 = fnd nmsN c := by rcases nmsN_cases hcm with rfl | rfl | rfl <;> decide
      obtain ⟨q1, q2, q3⟩ := hcv
      have SL := Lib.hid (fun w => slot_lo (c.toNat : Int) q1 q2 w)
      rw [q3] at SL
      have B2 := Lib.hid ((below_n w (.cells #[.string P] 9)).alloc (by simp) (.cells #[.int .i64 (fnd nmsN c)] 3))
      have k1 : Blk ((w.alloc (.cells #[.string P] 9)).alloc (.cells #[.int .i64 (fnd nmsN c)] 3)) w.heap.size 9 #[.string P] := (Blk.new w _ _).alloc _
      have k2 : Blk ((w.alloc (.cells #[.string P] 9)).alloc (.cells #[.int .i64 (fnd nmsN c)] 3)) (w.heap.size + 1) 3 #[.int .i64 (fnd nmsN c)] := by
        have := Blk.new (w.alloc (.cells #[.string P] 9)) 3 #[.int .i64 (fnd nmsN c)]
        simp at this
        exact this
      have ST := Lib.hid (set_any 64 (enterF Tryd.func64 (by kernel_rfl) rfl) #[.pointer (some ⟨w.heap.size, 0, none⟩), .pointer (some ⟨w.heap.size + 1, 0, none⟩)] (smF c (bt P.data.toList)) ((w.alloc (.cells #[.string P] 9)).alloc (.cells #[.int .i64 (fnd nmsN c)] 3))
        (fun i hi W hW => SomeVar1_any P hp c hcm i hi w.heap.size (w.heap.size + 1) W (hs.below (below_2 B2.out hW)) ((hW.cell (p := ⟨w.heap.size, 0, none⟩) k1.lt).trans (k1.cell 0)) ((hW.cell (p := ⟨w.heap.size + 1, 0, none⟩) k2.lt).trans (k2.cell 0))))
      have hmf : ∀ (f : Fn) (first cap : Array Value) (w : World), (Instr.makeFunc f first cap).run Tryd.prog w = .ok (.func f first cap) w := fun _ _ _ _ => rfl
      generalize fnd nmsN c = vn at *
      clear hs hp hv hvl hcm q1 q2 q3 k1 k2
      go_enter Tryd.func15, Tryd.ntmps15
      go_wp2_with fail
      refine (PV.out _).mono ?_
      rintro e w' ⟨rfl, rfl⟩
      go_wp2_with fail
      refine (IV.out _).mono ?_
      rintro e w' ⟨rfl, rfl⟩
      go_wp2_with fail
      refine (SL.out _).mono ?_
      rintro e w' ⟨rfl, rfl⟩
      go_wp2_with fail
      refine ST.out.mono ?_
      rintro e w3 ⟨rfl, hb3⟩
      have B3 := Lib.hid (below_2 B2.out hb3)
      clear hb3
      go_wp2_with fail
      go_ret2
      exact ⟨(by first | trivial | rfl), B3.out⟩
set_option maxRecDepth 100000 in
set_option maxHeartbeats 8000000 in
theorem AllVar_any (P V : ByteArray) (hP : P.size ≤ 1000000000000) (w : World) (hs : Str w) : Calls Tryd.prog 16 #[.string P, .string V] w fun e w' => (e = .returned (.tuple #[.string (bs (optB (smO P V alF))), .bool (smO P V alF).isSome]) ∧ Below w.heap.size w w') := by
  have PV := Lib.hid (fun w => PredValid_any P hP w)
  have IV := Lib.hid (fun w => isVar_any V w)
  have B1 := Lib.hid (below_n w (.cells #[.string P] 9))
  cases hp : bOk 27 P.data.toList
  · rw [smO_bad hp]
    rw [hp] at PV
    simp only [optB, Option.isSome_none]
    clear hs
    go_enter Tryd.func16, Tryd.ntmps16
    go_wp2_with fail
    refine (PV.out _).mono ?_
    rintro e w' ⟨rfl, rfl⟩
    go_wp2_with fail
    go_ret2
    exact ⟨(by first | trivial | rfl), B1.out⟩
  · cases hv : varOf V.data.toList with
    | none =>
      rw [smO_no hv]
      rw [hp] at PV
      rw [hv] at IV
      simp only [optB, Option.isSome_none] at IV ⊢
      clear hs
      go_enter Tryd.func16, Tryd.ntmps16
      go_wp2_with fail
      refine (PV.out _).mono ?_
      rintro e w' ⟨rfl, rfl⟩
      go_wp2_with fail
      refine (IV.out _).mono ?_
      rintro e w' ⟨rfl, rfl⟩
      go_wp2_with fail
      go_ret2
      exact ⟨(by first | trivial | rfl), B1.out⟩
    | some c =>
      rw [smO_yes hv hp]
      rw [hp] at PV
      rw [hv] at IV
      simp only [optB, Option.isSome_some] at IV ⊢
      obtain ⟨hvl, hcm⟩ := varOf_some hv
      obtain rfl := bytes_of hvl
      have hz1 : (⟨[c].toArray⟩ : ByteArray).size = 1 := rfl
      have hg1 : (⟨[c].toArray⟩ : ByteArray)[0] = c := rfl
      have hcv : 120 ≤ (c.toNat : Int) ∧ (c.toNat : Int) ≤ 122 ∧ (c.toNat : Int) - 120 = fnd nmsN c := by rcases nmsN_cases hcm with rfl | rfl | rfl <;> decide
      obtain ⟨q1, q2, q3⟩ := hcv
      have SL := Lib.hid (fun w => slot_lo (c.toNat : Int) q1 q2 w)
      rw [q3] at SL
      have B2 := Lib.hid ((below_n w (.cells #[.string P] 9)).alloc (by simp) (.cells #[.int .i64 (fnd nmsN c)] 3))
      have k1 : Blk ((w.alloc (.cells #[.string P] 9)).alloc (.cells #[.int .i64 (fnd nmsN c)] 3)) w.heap.size 9 #[.string P] := (Blk.new w _ _).alloc _
      have k2 : Blk ((w.alloc (.cells #[.string P] 9)).alloc (.cells #[.int .i64 (fnd nmsN c)] 3)) (w.heap.size + 1) 3 #[.int .i64 (fnd nmsN c)] := by
        have := Blk.new (w.alloc (.cells #[.string P] 9)) 3 #[.int .i64 (fnd nmsN c)]
        simp at this
        exact this
      have ST := Lib.hid (set_any 65 (enterF Tryd.func65 (by kernel_rfl) rfl) #[.pointer (some ⟨w.heap.size, 0, none⟩), .pointer (some ⟨w.heap.size + 1, 0, none⟩)] (alF c (bt P.data.toList)) ((w.alloc (.cells #[.string P] 9)).alloc (.cells #[.int .i64 (fnd nmsN c)] 3))
        (fun i hi W hW => AllVar1_any P hp c hcm i hi w.heap.size (w.heap.size + 1) W (hs.below (below_2 B2.out hW)) ((hW.cell (p := ⟨w.heap.size, 0, none⟩) k1.lt).trans (k1.cell 0)) ((hW.cell (p := ⟨w.heap.size + 1, 0, none⟩) k2.lt).trans (k2.cell 0))))
      have hmf : ∀ (f : Fn) (first cap : Array Value) (w : World), (Instr.makeFunc f first cap).run Tryd.prog w = .ok (.func f first cap) w := fun _ _ _ _ => rfl
      generalize fnd nmsN c = vn at *
      clear hs hp hv hvl hcm q1 q2 q3 k1 k2
      go_enter Tryd.func16, Tryd.ntmps16
      go_wp2_with fail
      refine (PV.out _).mono ?_
      rintro e w' ⟨rfl, rfl⟩
      go_wp2_with fail
      refine (IV.out _).mono ?_
      rintro e w' ⟨rfl, rfl⟩
      go_wp2_with fail
      refine (SL.out _).mono ?_
      rintro e w' ⟨rfl, rfl⟩
      go_wp2_with fail
      refine ST.out.mono ?_
      rintro e w3 ⟨rfl, hb3⟩
      have B3 := Lib.hid (below_2 B2.out hb3)
      clear hb3
      go_wp2_with fail
      go_ret2
      exact ⟨(by first | trivial | rfl), B3.out⟩
end Go.Proofs.YtccjmahhebiphaaDoor
