/- The law FnExprValid holds: for every input it returns true, and writes nothing that was there. No condition. -/
import Derived.Test.YtcdcgllodggebaaPar
import Derived.Test.YtcdcgllodggebaaPlc
import Derived.Test.YtcdcgllodggebaaLwa
import Derived.Test.YtcdcgllodggebaaDre
import Derived.Test.YtcdcgllodggebaaShl
namespace Go.Proofs.Ytcdcgllodggebaa.fnExprValid
open Go.ChangeShapes Go.WideShapes Go.ChangeAt Go.RowKit
open Go.ChangeMaps (open_string shut_string)
open Pl
set_option linter.unusedVariables false

theorem own : ownKnob Try.prog.godebug = none := by kernel_rfl
theorem laidOut : laidOutB Try.prog = true := by kernel_rfl

/-- the letters that an operand may be -/
def leaves : List UInt8 := [120, 121, 122, 48, 49, 50]
theorem mem_leaves {c : UInt8} : hasB leaves c = (isV false c || isD c) := by
  have h1 : c ∈ leaves ↔ c ∈ nms false ∨ c ∈ ([48, 49, 50] : List UInt8) := by simp [leaves, nms, nmsN, or_assoc]
  rw [mem_nms, mem_digs] at h1
  unfold hasB
  rw [Bool.eq_iff_iff, decide_eq_true_iff, Bool.or_eq_true]
  exact h1

set_option maxHeartbeats 4000000 in
theorem walk (a0 : Option Addr) (len0 cap0 : Nat) (w : World) (hb0 : Bytes w a0 len0 w.heap.size) (hl0 : len0 ≤ cap0) (hc0 : cap0 ≤ 9223372036854775807) :
    Calls Try.prog 3 #[.slice a0 len0 cap0] w fun e w' => e = .returned (.bool true) ∧ Below w.heap.size w w' := by
  by_cases hbig : 1048576 < len0
  · clear hb0
    go_enter Try.func3, Try.ntmps3
    go_wp2_with fail
    go_ret
    exact ⟨rfl, Below.refl _ _⟩
  have D := Lib.hid (DrawExprValid_any a0 len0 cap0 w (by omega) hl0 hb0)
  clear hb0
  go_enter Try.func3, Try.ntmps3
  go_wp2_with fail
  refine D.out.mono ?_
  rintro e w1 ⟨S, hS, rfl, hb1⟩
  clear D
  go_wp2_with fail
  refine (ExprValid_any S (by omega) w1).mono ?_
  rintro e w2 ⟨rfl, hb2⟩
  have hW := chk_whole (most := 200) (l := S.data.toList)
  rw [len_S] at hW
  rw [hW]
  have hb3 := Lib.hid (hb1.trans (hb2.mono hb1.size))
  have HSV := Lib.hid (ExprValidS_any S w2 (by omega))
  rw [hW] at HSV
  clear hW hb1 hb2
  obtain ⟨o, ho⟩ : ∃ o, (chk S.data.toList 1 && decide (S.size ≤ 200)) = o := ⟨_, rfl⟩
  rw [ho] at HSV ⊢
  have HO := Lib.hid ho
  clear ho
  go_wp2_with fail
  refine HSV.out.mono ?_
  rintro e w3 ⟨rfl, m, rfl⟩
  clear HSV
  have hoo : (o != o) = false := by simp
  go_wp2_with fail
  have hS' : S.size ≤ 1000 := by omega
  clear hS hoo
  go_loop [5, 6, 7] (fun op gd i => ∃ (k : Nat) (z : Int) (b : Bool), k ≤ S.size ∧ op = .int .i64 z ∧ gd = .bool b ∧ i = .int .i64 (k : Int) ∧ z ≤ k + 1 ∧ -(k : Int) - 1 ≤ z ∧ Hid (chk S.data.toList 1 = (b && chk (S.data.toList.drop k) z))) (fun _ _ i => S.size - (intOf i).toNat)
  case atStart => exact ⟨0, 1, true, Nat.zero_le _, rfl, rfl, rfl, by omega, by omega, by simp [Hid]⟩
  case round =>
    obtain ⟨k, z, b, hk, rfl, rfl, rfl, hz1, hz2, hch⟩ := hrel
    by_cases hlt : k < S.size
    · have hex := extract_one hlt
      have hdr := drop_cons hlt
      obtain ⟨c, hc⟩ : ∃ c, S[k] = c := ⟨_, rfl⟩
      rw [hc] at hex hdr
      have HC : ∀ (b' : Bool) (z' : Int), (b && decide (0 < z) && (if isO c then true else isV false c || isD c)) = b' → (b && decide (0 < z) = true → z' = if isO c then z + 1 else z - 1) → Hid (chk S.data.toList 1 = (b' && chk (S.data.toList.drop (k + 1)) z')) := by
        intro b' z' h1 h2
        show _ = _
        rw [hch.out, hdr, ← h1]
        cases b
        · rfl
        · by_cases h0 : 0 < z
          · have h3 := h2 (by simp [h0])
            simp only [chk, h0, decide_true, Bool.true_and]
            rw [h3]
            by_cases hO : isO c = true
            · simp [hO]
            · simp [hO]
          · simp [chk, h0]
      have HH := Lib.hid HC
      clear HC hch hdr
      by_cases hO : isO c = true
      · rcases isO_cases hO with rfl | rfl | rfl
        all_goals
          clear hO
          cases b
          · go_wp2_with fail
            go_round
            case rel => exact ⟨k + 1, z + 1, false, by omega, rfl, rfl, by go_num, by omega, by omega, HH.out _ _ rfl (fun h => by cases h)⟩
            case measure => simp [intOf]; omega
          · by_cases h0 : 0 < z
            · go_wp2_with fail
              go_round
              case rel => exact ⟨k + 1, z + 1, true, by omega, rfl, rfl, by go_num, by omega, by omega, HH.out _ _ (by simp [h0, isO]) (fun _ => rfl)⟩
              case measure => simp [intOf]; omega
            · go_wp2_with fail
              go_round
              case rel => exact ⟨k + 1, z + 1, false, by omega, rfl, rfl, by go_num, by omega, by omega, HH.out _ _ (by simp [h0]) (fun h => by simp [h0] at h)⟩
              case measure => simp [intOf]; omega
      · have e1 := u8_ne 43 (fun e : c = _ => hO (by rw [e]; rfl)) (by decide)
        have e2 := u8_ne 45 (fun e : c = _ => hO (by rw [e]; rfl)) (by decide)
        have e3 := u8_ne 42 (fun e : c = _ => hO (by rw [e]; rfl)) (by decide)
        simp only [Int.cast_ofNat_Int] at e1 e2 e3
        have HOO := Lib.hid hO
        have hP : ∀ W, Calls Try.prog 16 #[.string ⟨#[120, 121, 122, 48, 49, 50]⟩, .string ⟨#[c]⟩] W fun e w' => e = .returned (.bool (isV false c || isD c)) ∧ W = w' := by
          intro W
          have := has_one ⟨#[120, 121, 122, 48, 49, 50]⟩ c (by decide) W
          rw [show (⟨#[120, 121, 122, 48, 49, 50]⟩ : ByteArray).data.toList = leaves from rfl, mem_leaves] at this
          exact this
        have HP := Lib.hid hP
        obtain ⟨lf, hlf⟩ : ∃ b, (isV false c || isD c) = b := ⟨_, rfl⟩
        rw [hlf] at HP
        have HLF := Lib.hid hlf
        clear hO hP hlf
        cases b
        · go_wp2_with fail
          go_round
          case rel => exact ⟨k + 1, z - 1, false, by omega, rfl, rfl, by go_num, by omega, by omega, HH.out _ _ rfl (fun h => by cases h)⟩
          case measure => simp [intOf]; omega
        · by_cases h0 : 0 < z
          · go_wp2_with fail
            refine (HP.out _).mono ?_
            rintro e w' ⟨rfl, rfl⟩
            go_wp2_with fail
            go_round
            case rel => exact ⟨k + 1, z - 1, lf, by omega, rfl, rfl, by go_num, by omega, by omega, HH.out _ _ (by simp [h0, HOO.out, HLF.out]) (fun _ => by simp [HOO.out])⟩
            case measure => simp [intOf]; omega
          · go_wp2_with fail
            go_round
            case rel => exact ⟨k + 1, z - 1, false, by omega, rfl, rfl, by go_num, by omega, by omega, HH.out _ _ (by simp [h0]) (fun h => by simp [h0] at h)⟩
            case measure => simp [intOf]; omega
    · have hE : chk S.data.toList 1 = (b && (z == 0)) := by
        rw [hch.out, List.drop_of_length_le (by rw [len_S]; omega)]
        rfl
      have hF : o = (b && (z == 0) && decide (S.size ≤ 200)) := by rw [← HO.out, hE]
      have HF := Lib.hid hF
      clear hch hE hF
      have hfin : ∀ m : Nat, Below w.heap.size w (w2.drewN m) := fun m => hb3.out.trans (below_drewN _ _ _)
      have HFIN := Lib.hid hfin
      clear hfin
      cases b
      · go_wp2_with fail
        go_ret
        exact ⟨ret_bool (by rw [HF.out]; rfl), HFIN.out _⟩
      · by_cases h0 : z = 0
        · subst h0
          go_wp2_with fail
          go_ret
          exact ⟨ret_bool (by rw [HF.out]; simp; omega), HFIN.out _⟩
        · have hz0 : (z == 0) = false := by simp; exact h0
          clear h0
          go_wp2_with fail
          go_ret
          exact ⟨ret_bool (by rw [HF.out, hz0]; rfl), HFIN.out _⟩

set_option maxRecDepth 100000 in
theorem lifted (os : Os) (started : os.Started) (H : Type) (enc : TypeId × Value → H) :
    ReturnsInHanded {} Try.checked os 3 .any (Rows.fnExprValidSpec.pre6 enc Try.prog Try.f3 Rows.fnExprValidRow.domain false) (Rows.fnExprValidSpec.post enc Try.prog Try.f3 false true false false) := by
  refine returnsInHanded_of_change (C := Try.checked) own started (by kernel_rfl) Try.func3
    (ChangeSpec.witness6 (enc := enc) (C := Try.checked) false ⟨#[], #[.slice none 0 0], []⟩ 8 (by kernel_rfl) (by kernel_rfl) (by kernel_rfl) (by kernel_rfl)) ?_
  intro W base args ds gs before hval0 hW hcnd _
  have hval : ∀ (j : Nat) t v, Try.f3.params[j]? = some t → args[j]? = some v → Value.okWide Try.prog W .any base t v := hval0
  have hW' := hW
  obtain ⟨p, q, hA0, hV, rfl, hfz, hnd⟩ := hW
  have hA : DataW.TrodAll enc Try.prog W 0 (fun _ => true) true Try.f3.params.toList args.toList ds p := hA0
  rw [Try.params3] at hA hval
  obtain ⟨v0, vs0, d0, ds0, p0, q0, hargs, rfl, rfl, h0, r0⟩ := trodAll_cons hA
  obtain ⟨rfl, rfl, rfl⟩ := trodAll_nil r0
  obtain rfl : args = #[v0] := by cases args; simp_all
  obtain ⟨rfl, rfl⟩ := trodVars_none hV
  obtain ⟨a0, len0, cap0, rfl⟩ := okWide_slice Try.underlying22 (hval 0 22 v0 rfl rfl)
  have k0 := h0
  have lt0 : ∀ x ∈ p0, x.block < W.heap.size := by obtain ⟨m, hm⟩ := k0; exact DataW.trod_lt m _ _ _ hm
  obtain ⟨z0, w0⟩ : ∃ zs, IsRow .u8 W a0 len0 cap0 zs := by
    obtain ⟨fuel, hf⟩ := h0
    rcases open_ints Try.underlying22 Try.underlying5 (by kernel_rfl) hf with ⟨hcs, _⟩ | ⟨x, l, c, zs, hcs, _, hl, hm, hz, _, hcell, hwz⟩
    · simp [Value.cells] at hcs
      obtain ⟨rfl, rfl, rfl⟩ := hcs
      exact ⟨[], .inl ⟨rfl, rfl, rfl, rfl⟩⟩
    · simp [Value.cells] at hcs
      obtain ⟨rfl, rfl, rfl⟩ := hcs
      exact ⟨zs, .inr ⟨_, rfl, hl, hm, by simpa using hz, hcell, hwz⟩⟩
  obtain ⟨by0, lc0, cm0⟩ := bytes_of_row w0
  clear hA0 hval0
  refine (walk a0 len0 cap0 W by0 lc0 cm0).mono fun e W' ⟨he, bel⟩ => ?_
  subst he
  exact ⟨_, rfl, _, _, _, [], _, [], hW', trodAll_mk1 (shut_bool Try.underlying4 _), (trodAll_cons_mk (Below.trod laidOut (by kernel_rfl) (of_decide_eq_true (by kernel_rfl)) k0 bel lt0) trodAll_mk0), rfl, bel.frame _, fun h => by cases h⟩

theorem over : Rows.fnExprValidRow.holds Try.pinned (OpenSpec.ofChange Rows.fnExprValidSpec) :=
  OpenClaim.holds_of_wide 3 Try.f3 rfl rfl rfl rfl rfl rfl rfl ⟨rfl, rfl, rfl, rfl, rfl⟩ rfl rfl rfl rfl rfl (by kernel_rfl) Try.func3 (by kernel_rfl)
    (of_decide_eq_true (by kernel_rfl)) (by unfold Func.isWrapper; first | (rw [if_pos (by decide +kernel)]; kernel_rfl) | (rw [if_neg (by decide +kernel)]; exact ⟨rfl, rfl⟩))
    (fun os started H enc _ => lifted os started H enc)

/-- the statement -/
theorem proved : Rows.FnExprValidSaid := over
#print axioms proved
end Go.Proofs.Ytcdcgllodggebaa.fnExprValid
