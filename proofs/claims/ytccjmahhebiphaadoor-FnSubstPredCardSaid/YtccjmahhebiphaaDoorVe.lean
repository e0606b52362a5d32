/- Sets before and after an assignment, the program's. -/
import Derived.Test.YtccjmahhebiphaaDoorVa
import Derived.Test.YtccjmahhebiphaaDoorSs
import Derived.Test.YtccjmahhebiphaaDoorGy
import Derived.StillTailTactics
namespace Go.Proofs.YtccjmahhebiphaaDoor
open Go.RowKit
open Pl
set_option linter.unusedVariables false

theorem intx_info : (Tryd.prog.info? 3).map (fun i => (i.zero, i.size, i.bytes)) = some (some (.int .i64 0), 1, 8) := by kernel_rfl
theorem boolx_info : (Tryd.prog.info? 4).map (fun i => (i.zero, i.size, i.bytes)) = some (some (.bool false), 1, 1) := by kernel_rfl
theorem one_newI (W : World) (a : Value) (t : TypeId) : ∀ j u, [a][j]? = some u → (W.alloc (.cells #[a] t)).cell? ((⟨W.heap.size, 0, none⟩ : Addr).add j) = some u := by
  intro j u h
  have e : (⟨W.heap.size, 0, none⟩ : Addr).add j = ⟨W.heap.size, j, none⟩ := by unfold Addr.add; split <;> simp_all
  rw [e, (Blk.new W t #[a]).cell j]
  simpa using h
/-- where an assignment leads, as a row -/
def tosV (c : UInt8) (k : Nd) (m : Nat) : List Value := (List.range m).map fun i => Value.int .i64 (toA c k i : Int)
theorem tosV_succ (c : UInt8) (k : Nd) (m : Nat) : tosV c k (m + 1) = tosV c k m ++ [.int .i64 (toA c k m : Int)] := by simp [tosV, List.range_succ]
theorem tosV_len (c : UInt8) (k : Nd) (m : Nat) : (tosV c k m).length = m := by simp [tosV]
theorem tosV_get {c : UInt8} {k : Nd} {m i : Nat} (h : i < m) : (tosV c k m)[i]? = some (.int .i64 (toA c k i : Int)) := by simp [tosV, h]
def tos (g : Nat) (c : UInt8) (k : Nd) : List (Addr × Value) := (List.range 27).map fun i => (⟨g, i, none⟩, .int .i64 (toA c k i : Int))
theorem mem_tos {g i : Nat} {c : UInt8} {k : Nd} (h : i < 27) : ((⟨g, i, none⟩ : Addr), Value.int .i64 (toA c k i : Int)) ∈ tos g c k := List.mem_map.2 ⟨i, List.mem_range.2 h, rfl⟩
theorem tos_of {w W : World} {g cap base : Nat} {c : UInt8} {k : Nd} (hb : Below w.heap.size w W) (h : W.ownsRow base 3 1 (.slice (some ⟨g, 0, none⟩) 27 cap) 27 (tosV c k 27)) (hg : g < W.heap.size) : Sit w W (tos g c k) := by
  refine ⟨hb, fun p hp => ?_⟩
  obtain ⟨i, hi, rfl⟩ := List.mem_map.1 hp
  have hi := List.mem_range.1 hi
  have hc := h.cellAt i (by omega)
  exact ⟨hg, hc.trans (tosV_get hi)⟩
theorem tos_ne {w W : World} {g : Nat} {c : UInt8} {k : Nd} (H : Sit w W (tos g c k)) : g < W.heap.size := (H.cells _ (mem_tos (i := 0) (by omega))).1
set_option maxRecDepth 100000 in
set_option maxHeartbeats 4000000 in
theorem assigned_no (V E : ByteArray) (hE : E.size ≤ 1000000000000) (w : World) (h : varOf V.data.toList = none ∨ whole false 0 200 E.data.toList = none) :
    Calls Tryd.prog 76 #[.string V, .string E] w fun e w' => (e = .returned (.tuple #[.slice none 0 0, .bool false]) ∧ Below w.heap.size w w') := by
  have R := Lib.hid (parseExpr_any E hE w)
  have IV := Lib.hid (fun w => isVar_any V w)
  cases ho : whole false 0 200 E.data.toList with
  | none =>
    rw [ho] at R
    cases hv : varOf V.data.toList
    all_goals
      rw [hv] at IV
      simp only [Option.isSome_none, Option.isSome_some] at IV
      clear h hv ho
      go_enter Tryd.func76, Tryd.ntmps76
      go_wp2_with fail
      refine R.out.mono ?_
      rintro e w1 ⟨hb1, rfl⟩
      have B1 := Lib.hid hb1
      clear R hb1
      go_wp2_with fail
      refine (IV.out _).mono ?_
      rintro e w' ⟨rfl, rfl⟩
      go_wp2_with fail
      go_ret2
      exact ⟨(by first | trivial | rfl), B1.out⟩
  | some k =>
    have hv : varOf V.data.toList = none := by rcases h with h | h; exact h; rw [ho] at h; cases h
    rw [ho] at R
    rw [hv] at IV
    simp only [Option.isSome_none] at IV
    clear h hv ho
    go_enter Tryd.func76, Tryd.ntmps76
    go_wp2_with fail
    refine R.out.mono ?_
    rintro e w1 ⟨hb1, b, rfl, hin⟩
    have B1 := Lib.hid hb1
    clear R hb1 hin
    go_wp2_with fail
    refine (IV.out _).mono ?_
    rintro e w' ⟨rfl, rfl⟩
    go_wp2_with fail
    go_ret2
    exact ⟨(by first | trivial | rfl), B1.out⟩
set_option maxRecDepth 100000 in
set_option maxHeartbeats 8000000 in
theorem assigned_yes (c : UInt8) (hc : c ∈ nmsN) (E : ByteArray) (hE : E.size ≤ 1000000000000) (kd : Nd) (ho : whole false 0 200 E.data.toList = some kd) (w : World) (hs : Str w) :
    Calls Tryd.prog 76 #[.string ⟨#[c]⟩, .string E] w fun e w' => ∃ g cap, 27 ≤ cap ∧ e = .returned (.tuple #[.slice (some ⟨g, 0, none⟩) 27 cap, .bool true]) ∧ Sit w w' (tos g c kd) := by
  have R := Lib.hid (parseExpr_any E hE w)
  have IV := Lib.hid (fun w => isVar_any ⟨#[c]⟩ w)
  rw [show (⟨#[c]⟩ : ByteArray).data.toList = [c] from rfl, varOf_one hc] at IV
  rw [ho] at R
  obtain ⟨_, hk, _⟩ := (whole_iff (by omega)).1 ho
  simp only [Option.isSome_some] at IV
  have hz1 : (⟨#[c]⟩ : ByteArray).size = 1 := rfl
  have hg1 : (⟨#[c]⟩ : ByteArray)[0] = c := rfl
  obtain ⟨q1, q2, q3⟩ : 120 ≤ (c.toNat : Int) ∧ (c.toNat : Int) ≤ 122 ∧ (c.toNat : Int) - 120 = fnd nmsN c := by rcases nmsN_cases hc with rfl | rfl | rfl <;> decide
  have SL := Lib.hid (fun w => slot_lo (c.toNat : Int) q1 q2 w)
  rw [q3] at SL
  have AT := Lib.hid (fun i (hi : i < 27) w => stateAt_any i hi w)
  have EA := Lib.hid (fun x y z w => envOf_any x y z 0 0 0 w)
  have TR := Lib.hid (fun i (hi : i < 27) eb b w h1 h2 => value_any (stX i) (stY i) (stZ i) 0 0 0 (stX_small i) (stY_small i) (stZ_small hi) sm0 sm0 sm0 false eb kd b w hk h1 h2)
  have WV := Lib.hid (fun i hi n hn w hs => withValue_any c hc i hi n hn w hs)
  have SM := Lib.hid (fun i (hi : i < 27) => valA_small kd hi)
  have HS0 := Lib.hid hs
  generalize fnd nmsN c = vn at *
  clear hk ho q1 q2 q3 hs
  go_enter Tryd.func76, Tryd.ntmps76
  go_wp2_with fail
  refine R.out.mono ?_
  rintro e w1 ⟨hb1, b, rfl, hin⟩
  have B1 := Lib.hid hb1
  have IN1 := Lib.hid hin
  have S1 := Lib.hid (HS0.out.below hb1)
  clear R hb1 hin HS0
  go_wp2_with fail
  refine (IV.out _).mono ?_
  rintro e w' ⟨rfl, rfl⟩
  have H0 : Hid ((w1.alloc (.cells #[] 3)).ownsRow w1.heap.size 3 1 (.slice (some ⟨w1.heap.size, 0, none⟩) 0 0) 0 (tosV c kd 0)) :=
    ⟨rfl, .inr ⟨w1.heap.size, 0, #[], rfl, Nat.le_refl _, Blk.new w1 3 #[], Nat.le_refl _, by simp [maxLen], rfl, rfl⟩⟩
  have B0 := Lib.hid (below_n w1 (.cells #[] 3))
  clear IV
  go_wp2_with fail
  go_loopg [7, 8] 27 (fun gk v i wr => ∃ k : Nat, k + gk = 27 ∧ i = .int .i64 k ∧ Hid (wr.ownsRow w1.heap.size 3 1 v k (tosV c kd k)) ∧ Hid (Below w1.heap.size w1 wr))
  case atStart => exact ⟨0, rfl, rfl, H0, B0⟩
  case round =>
    clear H0 B0
    obtain ⟨k, hk, rfl, hown, HB⟩ := hrel
    by_cases hlt : k < 27
    · obtain ⟨i0, hi0, hz0, hz1', hz2⟩ := info_parts intx_info
      have HI := Lib.hid hi0
      have HZ0 := Lib.hid hz0
      have HZ1 := Lib.hid hz1'
      have HZ2 := Lib.hid hz2
      have hrow : ∀ g, u7.ownBlock = some g → w1.heap.size ≤ g := fun g e => (hown.out.lt g e).1
      have HROW := Lib.hid hrow
      have AK := Lib.hid (fun w => AT.out k hlt w)
      have TK := Lib.hid (fun eb b w h1 h2 => TR.out k hlt eb b w h1 h2)
      have WK := Lib.hid (fun w hs => WV.out k hlt _ (SM.out k hlt) w hs)
      have hto : wv c k (val (envOf (stX k) (stY k) (stZ k) 0 0 0) kd) = toA c kd k := rfl
      rw [hto] at WK
      have HSC := Lib.hid (tosV_succ c kd k)
      generalize val (envOf (stX k) (stY k) (stZ k) 0 0 0) kd = vv at *
      generalize stX k = x at *
      generalize stY k = y at *
      generalize stZ k = z at *
      generalize toA c kd k = tk at *
      clear hi0 hz0 hz1' hz2 hrow hto
      go_wp2_with fail
      refine (AK.out _).mono ?_
      rintro e w2 ⟨rfl, hb2⟩
      have HB2 := Lib.hid (below_2 HB.out hb2)
      have hown2 := Lib.hid (row_call hown.out hb2)
      clear hb2 hown HB AK
      go_wp2_with fail
      refine (EA.out x y z _).mono ?_
      rintro e w3 ⟨rfl, hb3⟩
      have HB3 := Lib.hid (below_2 HB2.out hb3)
      have hown3 := Lib.hid (row_call hown2.out hb3)
      clear hb3 hown2 HB2
      have hbe := below_n w3 (.cells #[.int .i64 x, .int .i64 y, .int .i64 z, .int .i64 0, .int .i64 0, .int .i64 0] 76)
      have HBE := Lib.hid (below_2 HB3.out hbe)
      have hownE := Lib.hid (row_call hown3.out hbe)
      clear hbe
      go_wp2_with fail
      refine (SL.out _).mono ?_
      rintro e w' ⟨rfl, rfl⟩
      go_wp2_with fail
      refine (TK.out w3.heap.size b _ (IN1.out.below HBE.out (Nat.le_refl _)) (env_new w3 x y z 0 0 0)).mono ?_
      rintro e w4 ⟨rfl, n4, rfl⟩
      have hbd := below_drewN (w3.alloc (.cells #[.int .i64 x, .int .i64 y, .int .i64 z, .int .i64 0, .int .i64 0, .int .i64 0] 76)).heap.size (w3.alloc (.cells #[.int .i64 x, .int .i64 y, .int .i64 z, .int .i64 0, .int .i64 0, .int .i64 0] 76)) n4
      have HB4 := Lib.hid (below_2 HBE.out hbd)
      have hown4 := Lib.hid (row_call hownE.out hbd)
      clear hbd hownE HBE hown3 HB3
      generalize (w3.alloc (.cells #[.int .i64 x, .int .i64 y, .int .i64 z, .int .i64 0, .int .i64 0, .int .i64 0] 76)).drewN n4 = w4 at *
      go_wp2_with fail
      refine (WK.out w4 (S1.out.below HB4.out)).mono ?_
      rintro e w5 ⟨rfl, hb5⟩
      have HB5 := Lib.hid (below_2 HB4.out hb5)
      have hown5 := Lib.hid (row_call hown4.out hb5)
      have hz5 := HB5.out.size
      clear hb5 hown4 HB4 TK WK EA
      have hrow := HROW.out
      go_wp2_with (at_builtin; refine wpList_append_own _ rfl (.tmp 28) (.tmp 36) 64 rfl w1.heap.size 3 i0 _ 1 8 Tryd.underlying64 HI.out HZ0.out HZ1.out HZ2.out rfl (by decide) u7 k (tosV c kd k) rfl (hown5.out.alloc _) ⟨w5.heap.size, 0, none⟩ 1 1 [.int .i64 (tk : Int)] rfl rfl ?c1 ?c2 ?c3 ?c4 ?c5 ?_)
      case c1 => exact one_newI w5 (.int .i64 (tk : Int)) 3
      case c2 => simp [Value.oneCell']
      case c3 => simp only [maxLen]; omega
      case c4 => omega
      case c5 => first | (simp; done) | (simp; omega)
      intro v' w6 hown' hgr _
      have HO : Hid (w6.ownsRow w1.heap.size 3 1 v' (k + 1) (tosV c kd (k + 1))) := by rw [HSC.out]; exact hown'
      have HB6 := Lib.hid ((HB5.out.alloc hz5 (.cells #[.int .i64 (tk : Int)] 3)).trans (below_of_grown hgr w1.heap.size (by simp; omega) hrow))
      clear hown' hgr hrow hown5 HB5
      go_wp2_with fail
      go_roundg (gk - 1)
      case measure => omega
      case rel => exact ⟨k + 1, by omega, by go_num, HO, HB6⟩
    · obtain rfl : k = 27 := by omega
      obtain ⟨g, cap, hv, _⟩ := hown.out.form (by omega)
      subst hv
      have hg := (hown.out.lt g rfl).2
      have hcap : 27 ≤ cap := by
        rcases hown.out.2 with ⟨h, _⟩ | ⟨_, _, _, h, _, _, h2, _⟩
        · cases h
        · injection h with _ _ h3; omega
      have HS := Lib.hid (tos_of (below_2 B1.out HB.out) hown.out hg)
      go_wp2_with fail
      exact bodyPost_ret (v := .tuple #[.slice (some ⟨g, 0, none⟩) 27 cap, .bool true]) (by simp [results, Tryd.results76, go_sem]) rfl ⟨g, cap, hcap, rfl, HS.out⟩
/-- sets before, sets after, as options -/
def asO (P V E : ByteArray) (F : UInt8 → Nd → (Nat → Bool) → Nat → Bool) : Option (List UInt8) :=
  match varOf V.data.toList, whole false 0 200 E.data.toList with
  | some c, some k => if bOk 27 P.data.toList then some (bitsN 27 (F c k (bt P.data.toList))) else none
  | _, _ => none
theorem asO_bad {P V E : ByteArray} {F : UInt8 → Nd → (Nat → Bool) → Nat → Bool} (h : bOk 27 P.data.toList = false) : asO P V E F = none := by
  unfold asO
  cases varOf V.data.toList <;> cases whole false 0 200 E.data.toList <;> simp [h]
theorem asO_no {P V E : ByteArray} {F : UInt8 → Nd → (Nat → Bool) → Nat → Bool} (h : varOf V.data.toList = none ∨ whole false 0 200 E.data.toList = none) : asO P V E F = none := by
  unfold asO
  rcases h with h | h
  · rw [h]
  · rw [h]
    cases varOf V.data.toList <;> rfl
theorem asO_yes {P V E : ByteArray} {F : UInt8 → Nd → (Nat → Bool) → Nat → Bool} {c : UInt8} {k : Nd} (h : varOf V.data.toList = some c) (he : whole false 0 200 E.data.toList = some k) (hp : bOk 27 P.data.toList = true) : asO P V E F = some (bitsN 27 (F c k (bt P.data.toList))) := by
  unfold asO
  rw [h, he, hp]
  rfl
set_option maxHeartbeats 4000000 in
theorem AssignPre1_any (P : ByteArray) (hp : bOk 27 P.data.toList = true) (i x : Nat) (hi : i < 27) (hx : x < 27) (c d g cap : Nat) (W0 : World) (h1 : W0.cell? ⟨c, 0, none⟩ = some (.string P)) (h2 : W0.cell? ⟨d, 0, none⟩ = some (.slice (some ⟨g, 0, none⟩) 27 cap)) (h3 : W0.cell? ⟨g, i, none⟩ = some (.int .i64 (x : Int))) :
    Calls Tryd.prog 77 #[.int .i64 (i : Int), .pointer (some ⟨c, 0, none⟩), .pointer (some ⟨d, 0, none⟩)] W0 fun e W' => e = .returned (.bool (bt P.data.toList x)) ∧ Below W0.heap.size W0 W' := by
  have z0 := ok_size hp
  have g0 : x < P.size := by omega
  have hi2 : (i : Int) < 27 := by omega
  cases hb : bt P.data.toList x
  · have c0 := bt_zero hp g0 hb
    clear hb hp z0
    go_enter Tryd.func77, Tryd.ntmps77
    go_wp2_with fail
    go_quiet (fail)
    go_wp2_with fail
    go_ret
    exact ⟨rfl, below_drewN _ _ _⟩
  · have c0 := bt_yes g0 hb
    clear hb hp z0
    go_enter Tryd.func77, Tryd.ntmps77
    go_wp2_with fail
    go_quiet (fail)
    go_wp2_with fail
    go_ret
    exact ⟨rfl, below_drewN _ _ _⟩
set_option maxRecDepth 100000 in
set_option maxHeartbeats 8000000 in
theorem AssignPre_any (P V E : ByteArray) (hP : P.size ≤ 1000000000000) (hE : E.size ≤ 1000000000000) (w : World) (hs : Str w) : Calls Tryd.prog 29 #[.string P, .string V, .string E] w fun e w' => (e = .returned (.tuple #[.string (bs (optB (asO P V E preF))), .bool (asO P V E preF).isSome]) ∧ Below w.heap.size w w') := by
  have PV := Lib.hid (fun w => PredValid_any P hP w)
  have k1 := Blk.new w 9 #[.string P]
  have B0 := Lib.hid (below_n w (.cells #[.string P] 9))
  have K1 := Lib.hid k1
  clear k1
  by_cases hno : varOf V.data.toList = none ∨ whole false 0 200 E.data.toList = none
  · rw [asO_no hno]
    simp only [optB, Option.isSome_none]
    have AN := Lib.hid (assigned_no V E hE (w.alloc (.cells #[.string P] 9)) hno)
    clear hno hs PV
    go_enter Tryd.func29, Tryd.ntmps29
    go_wp2_with fail
    refine AN.out.mono ?_
    rintro e w2 ⟨rfl, hb2⟩
    have B2 := Lib.hid (below_2 B0.out hb2)
    have B3 := Lib.hid (below_2 B2.out (below_n w2 (.cells #[.slice none 0 0] 64)))
    clear AN hb2
    go_wp2_with fail
    go_ret2
    exact ⟨(by first | trivial | rfl), B3.out⟩
  · obtain ⟨c, hv⟩ : ∃ c, varOf V.data.toList = some c := by
      cases h : varOf V.data.toList with
      | none => exact absurd (.inl h) hno
      | some c => exact ⟨c, rfl⟩
    obtain ⟨kd, hk⟩ : ∃ k, whole false 0 200 E.data.toList = some k := by
      cases h : whole false 0 200 E.data.toList with
      | none => exact absurd (.inr h) hno
      | some k => exact ⟨k, rfl⟩
    obtain ⟨hvl, hcm⟩ := varOf_some hv
    obtain rfl := bytes_of hvl
    have AY := Lib.hid (assigned_yes c hcm E hE kd hk (w.alloc (.cells #[.string P] 9)) (hs.below B0.out))
    have hmf : ∀ (f : Fn) (first cap : Array Value) (w : World), (Instr.makeFunc f first cap).run Tryd.prog w = .ok (.func f first cap) w := fun _ _ _ _ => rfl
    cases hp : bOk 27 P.data.toList
    · rw [asO_bad hp]
      rw [hp] at PV
      simp only [optB, Option.isSome_none]
      clear hno hs hp hv hk hvl hcm hmf
      go_enter Tryd.func29, Tryd.ntmps29
      go_wp2_with fail
      refine AY.out.mono ?_
      rintro e w2 ⟨g, cap, hcap, rfl, H2⟩
      have B2 := Lib.hid (below_2 B0.out H2.below)
      have B3 := Lib.hid (below_2 B2.out (below_n w2 (.cells #[.slice (some ⟨g, 0, none⟩) 27 cap] 64)))
      have kk := (K1.out.below H2.below (by simp)).alloc (.cells #[.slice (some ⟨g, 0, none⟩) 27 cap] 64)
      have c0 := kk.cell 0
      simp at c0
      clear AY H2 kk
      go_wp2_with fail
      refine (PV.out _).mono ?_
      rintro e w' ⟨rfl, rfl⟩
      go_wp2_with fail
      go_ret2
      exact ⟨(by first | trivial | rfl), B3.out⟩
    · rw [asO_yes hv hk hp]
      rw [hp] at PV
      simp only [optB, Option.isSome_some]
      have ST := Lib.hid (fun (w2 : World) (g cap : Nat) (H2 : Sit (w.alloc (.cells #[.string P] 9)) w2 (tos g c kd)) =>
        set_any 77 (enterF Tryd.func77 (by kernel_rfl) rfl) #[.pointer (some ⟨w.heap.size, 0, none⟩), .pointer (some ⟨w2.heap.size, 0, none⟩)] (preF c kd (bt P.data.toList)) (w2.alloc (.cells #[.slice (some ⟨g, 0, none⟩) 27 cap] 64))
          (fun i hi W hW => by
            have k2 := Blk.new w2 64 #[.slice (some ⟨g, 0, none⟩) 27 cap]
            have kk := (K1.out.below H2.below (by simp)).alloc (.cells #[.slice (some ⟨g, 0, none⟩) 27 cap] 64)
            have H3 := (H2.alloc (.cells #[.slice (some ⟨g, 0, none⟩) 27 cap] 64)).call hW
            exact AssignPre1_any P hp i (toA c kd i) hi (toA_lt hi) w.heap.size w2.heap.size g cap W ((hW.cell (p := ⟨w.heap.size, 0, none⟩) kk.lt).trans (kk.cell 0)) ((hW.cell (p := ⟨w2.heap.size, 0, none⟩) k2.lt).trans (k2.cell 0)) (H3.get (mem_tos hi))))
      clear hno hs hv hk hvl hcm hp
      go_enter Tryd.func29, Tryd.ntmps29
      go_wp2_with fail
      refine AY.out.mono ?_
      rintro e w2 ⟨g, cap, hcap, rfl, H2⟩
      have B2 := Lib.hid (below_2 B0.out H2.below)
      have B3 := Lib.hid (below_2 B2.out (below_n w2 (.cells #[.slice (some ⟨g, 0, none⟩) 27 cap] 64)))
      have kk := (K1.out.below H2.below (by simp)).alloc (.cells #[.slice (some ⟨g, 0, none⟩) 27 cap] 64)
      have c0 := kk.cell 0
      simp at c0
      have ST2 := Lib.hid (ST.out w2 g cap H2)
      clear AY H2 kk ST
      go_wp2_with fail
      refine (PV.out _).mono ?_
      rintro e w' ⟨rfl, rfl⟩
      go_wp2_with fail
      refine ST2.out.mono ?_
      rintro e w4 ⟨rfl, hb4⟩
      have B4 := Lib.hid (below_2 B3.out hb4)
      clear hb4
      go_wp2_with fail
      go_ret2
      exact ⟨(by first | trivial | rfl), B4.out⟩
end Go.Proofs.YtccjmahhebiphaaDoor
