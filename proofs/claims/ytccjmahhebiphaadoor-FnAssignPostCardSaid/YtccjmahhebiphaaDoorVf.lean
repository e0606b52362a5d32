/- Sets after an assignment, the program's. -/
import Derived.Test.YtccjmahhebiphaaDoorVe
namespace Go.Proofs.YtccjmahhebiphaaDoor
open Go.RowKit
open Pl
set_option linter.unusedVariables false

/-- an array of truth values -/
def bv (n : Nat) (f : Nat → Bool) : Array Value := ((List.range n).map (fun a => Value.bool (f a))).toArray
theorem bv_size (n : Nat) (f : Nat → Bool) : (bv n f).size = n := by simp [bv]
theorem bv_get {n : Nat} (f : Nat → Bool) {a : Nat} (ha : a < n) : (bv n f)[a]? = some (.bool (f a)) := by simp [bv, ha]
theorem bv_ext {n : Nat} {C : Array Value} (f : Nat → Bool) (hz : C.size = n) (h : ∀ i, i < n → C[i]? = some (.bool (f i))) : C = bv n f := by
  apply Array.ext
  · rw [hz, bv_size]
  · intro i h1 h2
    have := h i (by omega)
    have h3 := bv_get f (show i < n by omega)
    rw [Array.getElem?_eq_getElem h1] at this
    rw [Array.getElem?_eq_getElem h2] at h3
    exact Option.some.inj (this.trans h3.symm)
/-- what is marked so far -/
def poN (c : UInt8) (k : Nd) (b : Nat → Bool) (m j : Nat) : Bool := (List.range m).any fun i => toA c k i == j && b i
theorem poN_succ (c : UInt8) (k : Nd) (b : Nat → Bool) (m j : Nat) : poN c k b (m + 1) j = (poN c k b m j || (toA c k m == j && b m)) := by
  unfold poN
  rw [List.range_succ, List.any_append]
  simp
theorem poN_all (c : UInt8) (k : Nd) (b : Nat → Bool) (j : Nat) : poN c k b 27 j = postF c k b j := rfl
theorem made_bv (c : UInt8) (k : Nd) (b : Nat → Bool) : madeCells #[.bool false] 27 = bv 27 (poN c k b 0) := by
  apply bv_ext _ (size_madeCells _ _)
  intro i hi
  simp [madeCells, poN, hi, Nat.mod_one]
theorem poN_next (c : UInt8) (k : Nd) (b : Nat → Bool) (m : Nat) : (bv 27 (poN c k b m)).setIfInBounds (toA c k m) (.bool (poN c k b m (toA c k m) || b m)) = bv 27 (poN c k b (m + 1)) := by
  apply bv_ext _ (by simp [bv_size])
  intro j hj
  rw [poN_succ]
  by_cases h : j = toA c k m
  · subst h
    rw [Array.getElem?_setIfInBounds_self_of_lt (by rw [bv_size]; exact hj)]
    simp
  · rw [Array.getElem?_setIfInBounds_ne (fun e => h e.symm), bv_get _ hj]
    have : (toA c k m == j) = false := by simp; exact fun e => h e.symm
    rw [this]
    simp
set_option maxHeartbeats 4000000 in
theorem AssignPost1_any (i : Nat) (hi : i < 27) (d g : Nat) (r : Bool) (W0 : World) (h2 : W0.cell? ⟨d, 0, none⟩ = some (.slice (some ⟨g, 0, none⟩) 27 27)) (h3 : W0.cell? ⟨g, i, none⟩ = some (.bool r)) :
    Calls Tryd.prog 83 #[.int .i64 (i : Int), .pointer (some ⟨d, 0, none⟩)] W0 fun e W' => e = .returned (.bool r) ∧ Below W0.heap.size W0 W' := by
  have hi2 : (i : Int) < 27 := by omega
  go_enter Tryd.func83, Tryd.ntmps83
  go_wp2_with fail
  go_ret
  exact ⟨rfl, Below.refl _ _⟩
set_option maxRecDepth 100000 in
set_option maxHeartbeats 8000000 in
theorem AssignPost_any (P V E : ByteArray) (hP : P.size ≤ 1000000000000) (hE : E.size ≤ 1000000000000) (w : World) (hs : Str w) : Calls Tryd.prog 36 #[.string P, .string V, .string E] w fun e w' => (e = .returned (.tuple #[.string (bs (optB (asO P V E postF))), .bool (asO P V E postF).isSome]) ∧ Below w.heap.size w w') := by
  have PV := Lib.hid (fun w => PredValid_any P hP w)
  by_cases hno : varOf V.data.toList = none ∨ whole false 0 200 E.data.toList = none
  · rw [asO_no hno]
    simp only [optB, Option.isSome_none]
    have AN := Lib.hid (assigned_no V E hE w hno)
    clear hno hs PV
    go_enter Tryd.func36, Tryd.ntmps36
    go_wp2_with fail
    refine AN.out.mono ?_
    rintro e w2 ⟨rfl, hb2⟩
    have B2 := Lib.hid hb2
    clear AN hb2
    go_wp2_with fail
    go_ret2
    exact ⟨(by first | trivial | rfl), B2.out⟩
  · obtain ⟨c, hv⟩ : ∃ c, varOf V.data.toList = some c := by
      cases h : varOf V.data.toList with
      | none => exact absurd (.inl h) hno
      | some c => exact ⟨c, rfl⟩
    obtain ⟨kd, hk⟩ : ∃ k, whole false 0 200 E.data.toList = some k := by
      cases h : whole false 0 200 E.data.toList with
      | none => exact absurd (.inr h) hno
      | some k => exact ⟨k, rfl⟩
    obtain ⟨hvl, hcm⟩ := varOf_some hv
    obtain rfl := bytes_of hvl
    have AY := Lib.hid (assigned_yes c hcm E hE kd hk w hs)
    have hmf : ∀ (f : Fn) (first cap : Array Value) (w : World), (Instr.makeFunc f first cap).run Tryd.prog w = .ok (.func f first cap) w := fun _ _ _ _ => rfl
    cases hp : bOk 27 P.data.toList
    · rw [asO_bad hp]
      rw [hp] at PV
      simp only [optB, Option.isSome_none]
      clear hno hs hp hv hk hvl hcm hmf
      go_enter Tryd.func36, Tryd.ntmps36
      go_wp2_with fail
      refine AY.out.mono ?_
      rintro e w2 ⟨g, cap, hcap, rfl, H2⟩
      have B2 := Lib.hid H2.below
      clear AY H2
      go_wp2_with fail
      refine (PV.out _).mono ?_
      rintro e w' ⟨rfl, rfl⟩
      go_wp2_with fail
      go_ret2
      exact ⟨(by first | trivial | rfl), B2.out⟩
    · rw [asO_yes hv hk hp]
      rw [hp] at PV
      have z0 := ok_size hp
      have HP := Lib.hid hp
      simp only [optB, Option.isSome_some]
      have hmk := run_make_row' (P := Tryd.prog) 71 4 (.bool false) 1 Tryd.underlying71 boolx_info rfl .i64 .i64 27 (by omega) (by omega)
      simp only [Int.cast_ofNat_Int] at hmk
      rw [made_bv c kd (bt P.data.toList)] at hmk
      obtain ⟨bb, hbb⟩ : ∃ f : Nat → Bool, bt P.data.toList = f := ⟨_, rfl⟩
      have HBB := Lib.hid (fun i => congrFun hbb i)
      rw [hbb] at hmk ⊢
      clear hno hs hv hk hvl hcm hp hbb
      go_enter Tryd.func36, Tryd.ntmps36
      go_wp2_with fail
      refine AY.out.mono ?_
      rintro e w2 ⟨g, cap, hcap, rfl, H2⟩
      have HH2 := Lib.hid H2
      clear AY H2
      go_wp2_with fail
      refine (PV.out _).mono ?_
      rintro e w' ⟨rfl, rfl⟩
      have hgl := tos_ne HH2.out
      have K0 : Hid (Blk ((w2.alloc (.cells (bv 27 (poN c kd bb 0)) 4)).alloc (.cells #[.slice (some ⟨w2.heap.size, 0, none⟩) 27 27] 71)) w2.heap.size 4 (bv 27 (poN c kd bb 0))) := (Blk.new w2 _ _).alloc _
      have C0 : Hid (Sit w ((w2.alloc (.cells (bv 27 (poN c kd bb 0)) 4)).alloc (.cells #[.slice (some ⟨w2.heap.size, 0, none⟩) 27 27] 71)) ((⟨w2.heap.size + 1, 0, none⟩, .slice (some ⟨w2.heap.size, 0, none⟩) 27 27) :: tos g c kd)) := by
        have k2 := Blk.new (w2.alloc (.cells (bv 27 (poN c kd bb 0)) 4)) 71 #[.slice (some ⟨w2.heap.size, 0, none⟩) 27 27]
        have e : (w2.alloc (.cells (bv 27 (poN c kd bb 0)) 4)).heap.size = w2.heap.size + 1 := by simp
        rw [e] at k2
        exact ((HH2.out.alloc _).alloc _).more (p := ⟨w2.heap.size + 1, 0, none⟩) k2.lt (k2.cell 0)
      have hwl := HH2.out.below.size
      clear HH2
      go_wp2_with fail
      generalize w2.heap.size = s0 at *
      go_loopg [29] 27 (fun gk i wr => ∃ m : Nat, m + gk = 27 ∧ i = .int .i64 m ∧ Hid (Blk wr s0 4 (bv 27 (poN c kd bb m))) ∧ Hid (Sit w wr ((⟨s0 + 1, 0, none⟩, .slice (some ⟨s0, 0, none⟩) 27 27) :: tos g c kd)))
      case atStart => exact ⟨0, rfl, rfl, K0, C0⟩
      case round =>
        clear K0 C0 hmk
        obtain ⟨m, hm, rfl, K, C⟩ := hrel
        by_cases hlt : m < 27
        · have hlm : (m : Int) < 27 := by omega
          have d0 := C.out.get (.head _)
          have d1 := C.out.get (.tail _ (mem_tos (c := c) (k := kd) hlt))
          have hx := toA_lt (c := c) (k := kd) hlt
          have hxi : (toA c kd m : Int) < 27 := by omega
          have d2 := (K.out.cell (toA c kd m)).trans (bv_get _ hx)
          have df := K.out.frozen (toA c kd m)
          have k5 := K.out.drew.set_ (toA c kd m) (.bool (poN c kd bb m (toA c kd m) || bb m))
          rw [poN_next] at k5
          have C5 := C.out.drew.set (g := s0) hwl (fun p hp => by
            rcases List.mem_cons.1 hp with rfl | hp
            · show s0 + 1 ≠ s0; omega
            · obtain ⟨i, _, rfl⟩ := List.mem_map.1 hp
              show g ≠ s0; omega) (toA c kd m) (.bool (poN c kd bb m (toA c kd m) || bb m))
          have K5 := Lib.hid k5
          have HC5 := Lib.hid C5
          have hbm := HBB.out m
          have gm : m < P.size := by omega
          have e0 : wr.drew.frozen? ⟨s0, toA c kd m, none⟩ = false := df
          have e1 : wr.drew.cell? ⟨s0, toA c kd m, none⟩ = some (.bool (poN c kd bb m (toA c kd m))) := d2
          generalize toA c kd m = x at *
          generalize poN c kd bb m x = o at *
          clear k5 C5 hx hwl
          cases hb : bt P.data.toList m
          · have c0 := bt_zero HP.out gm hb
            rw [hb] at hbm
            rw [← hbm] at K5 HC5
            clear hb hbm z0
            cases o
            all_goals
              simp only [Bool.or_false] at K5 HC5
              go_wp2_with fail
              go_still_tail 13, (by kernel_rfl)
              all_goals go_wp2_with fail
              all_goals go_roundg (gk - 1)
              case measure => omega
              case rel => exact ⟨m + 1, by omega, by go_num, K5, HC5⟩
          · have c0 := bt_yes gm hb
            rw [hb] at hbm
            rw [← hbm] at K5 HC5
            clear hb hbm z0
            cases o
            all_goals
              simp only [Bool.or_true] at K5 HC5
              go_wp2_with fail
              go_still_tail 13, (by kernel_rfl)
              all_goals go_wp2_with fail
              all_goals go_roundg (gk - 1)
              case measure => omega
              case rel => exact ⟨m + 1, by omega, by go_num, K5, HC5⟩
        · obtain rfl : m = 27 := by omega
          have ST := Lib.hid (set_any 83 (enterF Tryd.func83 (by kernel_rfl) rfl) #[.pointer (some ⟨s0 + 1, 0, none⟩)] (postF c kd bb) wr
            (fun i hi W hW => AssignPost1_any i hi (s0 + 1) s0 (postF c kd bb i) W ((C.out.call hW).get (.head _)) ((hW.cell (p := ⟨s0, i, none⟩) K.out.lt).trans ((K.out.cell i).trans (bv_get _ hi)))))
          have BC := Lib.hid C.out.below
          clear K C hwl
          go_wp2_with fail
          refine ST.out.mono ?_
          rintro e w4 ⟨rfl, hb4⟩
          have B4 := Lib.hid (below_2 BC.out hb4)
          clear hb4
          go_wp2_with fail
          go_ret2
          exact ⟨(by first | trivial | rfl), B4.out⟩
end Go.Proofs.YtccjmahhebiphaaDoor
