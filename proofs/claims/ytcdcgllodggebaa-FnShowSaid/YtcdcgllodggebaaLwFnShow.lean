/- The law FnShow holds: for every input it returns true, and writes nothing that was there. No condition. -/
import Derived.Test.YtcdcgllodggebaaShx
import Derived.Test.YtcdcgllodggebaaPld
import Derived.Test.YtcdcgllodggebaaDre
import Derived.Test.YtcdcgllodggebaaShl
namespace Go.Proofs.Ytcdcgllodggebaa.fnShow
open Go.ChangeShapes Go.WideShapes Go.ChangeAt Go.RowKit
open Go.ChangeMaps (open_string shut_string)
open Pl
set_option linter.unusedVariables false

theorem own : ownKnob Try.prog.godebug = none := by kernel_rfl
theorem laidOut : laidOutB Try.prog = true := by kernel_rfl

theorem below2 {a b c : World} (h1 : Below a.heap.size a b) (h2 : Below b.heap.size b c) : Below a.heap.size a c := h1.trans (h2.mono h1.size)
theorem bytes_later {w w' : World} {A : Option Addr} {n : Nat} (h : Bytes w A n w.heap.size) (hb : Below w.heap.size w w') : Bytes w' A n w'.heap.size := by
  have hz := hb.size
  rcases h with h | ⟨b, off, hA, hne, hlt, hc⟩
  · exact .inl h
  · refine .inr ⟨b, off, hA, by omega, by omega, fun i hi => ?_⟩
    obtain ⟨v, hv, hce⟩ := hc i hi
    exact ⟨v, hv, (hb.cell (p := ⟨b, off + i, none⟩) hlt).trans hce⟩

theorem bs_nil : (bs []).toList.isEmpty = true := by
  rw [← decide_eq_emptyBytes]
  exact decide_eq_true rfl
theorem bs_cons (c : UInt8) (l : List UInt8) : (bs (c :: l)).toList.isEmpty = false := by
  rw [← decide_eq_emptyBytes]
  refine decide_eq_false fun h => ?_
  have := congrArg ByteArray.size h
  rw [bs_size] at this
  exact absurd this (by simp)

/-- the letters that are no parentheses -/
def lets (l : List UInt8) : Nat := (l.filter fun c => c != 40 && c != 41).length
theorem lets_app (a b : List UInt8) : lets (a ++ b) = lets a + lets b := by simp [lets]
theorem lets_one (c : UInt8) : lets [c] = if c != 40 && c != 41 then 1 else 0 := by
  unfold lets
  simp only [List.filter]
  cases h : (c != 40 && c != 41) <;> rfl
theorem shE_lets : ∀ k : Nd, ok false 0 k = true → lets (shE k) = k.text.length ∧ (shE k).length = k.text.length + 2 * ((k.text.length - 1) / 2) ∧ k.text.length % 2 = 1 := by
  intro k
  induction k with
  | n0 c =>
    intro h
    have hc : (c != 40 && c != 41) = true := by
      cases hh : (c != 40 && c != 41)
      · simp only [Bool.and_eq_false_iff, bne_eq_false_iff_eq] at hh
        rcases hh with rfl | rfl <;> exact absurd h (by decide)
      · rfl
    refine ⟨?_, by simp [shE, Nd.text], rfl⟩
    show lets [c] = 1
    rw [lets_one, if_pos hc]
  | n2 o a b ha hb =>
    intro h
    simp only [ok, Bool.and_eq_true] at h
    obtain ⟨ho, h1, h2⟩ := h
    obtain ⟨a1, a2, a3⟩ := ha h1
    obtain ⟨b1, b2, b3⟩ := hb h2
    have e : shE (.n2 o a b) = [40] ++ (shE a ++ ([o] ++ (shE b ++ [41]))) := rfl
    have e40 : lets [40] = 0 := rfl
    have e41 : lets [41] = 0 := rfl
    have eo : lets [o] = 1 := by rcases isO_cases ho with rfl | rfl | rfl <;> rfl
    rw [e, lets_app, lets_app, lets_app, lets_app, e40, e41, eo]
    simp only [Nd.text, List.length_cons, List.length_append, List.length_nil]
    omega
  | n1 | n3 => intro h; simp [ok] at h

theorem take_snoc (s : ByteArray) (k : Nat) (h : k < s.size) : s.data.toList.take (k + 1) = s.data.toList.take k ++ [s[k]] := by
  rw [List.take_succ_eq_append_getElem (by rw [len_S]; exact h)]; rfl
theorem lets_le (l : List UInt8) : lets l ≤ l.length := List.length_filter_le _ _

set_option maxHeartbeats 8000000 in
theorem walk (a0 : Option Addr) (len0 cap0 : Nat) (a1 : Option Addr) (len1 cap1 : Nat) (w : World) (hb0 : Bytes w a0 len0 w.heap.size) (hl0 : len0 ≤ cap0) (hc0 : cap0 ≤ 9223372036854775807) (hb1 : Bytes w a1 len1 w.heap.size) (hl1 : len1 ≤ cap1) (hc1 : cap1 ≤ 9223372036854775807) :
    Calls Try.prog 5 #[.slice a0 len0 cap0, .slice a1 len1 cap1] w fun e w' => e = .returned (.bool true) ∧ Below w.heap.size w w' := by
  by_cases hbig : 1048576 < len0
  · clear hb0 hb1
    go_enter Try.func5, Try.ntmps5
    go_wp2_with fail
    go_ret
    exact ⟨rfl, Below.refl _ _⟩
  by_cases hbig1 : 1048576 < len1
  · clear hb0 hb1
    go_enter Try.func5, Try.ntmps5
    go_wp2_with fail
    go_ret
    exact ⟨rfl, Below.refl _ _⟩
  have D0 := Lib.hid (DrawShowExpr_any a0 len0 cap0 w (by omega) hl0 hb0)
  have HB1 := Lib.hid hb1
  clear hb0 hb1
  go_enter Try.func5, Try.ntmps5
  go_wp2_with fail
  refine D0.out.mono ?_
  rintro e w1 ⟨S, hS, rfl, hb1⟩
  have B1 := Lib.hid hb1
  clear D0 hb1
  go_wp2_with fail
  refine (ShowExpr_any S (by omega) w1).mono ?_
  rintro e w2 ⟨rfl, hb2⟩
  have B2 := Lib.hid (below2 B1.out hb2)
  clear hb2
  go_wp2_with fail
  refine (DrawShowTest_any a1 len1 cap1 w2 (by omega) hl1 (bytes_later HB1.out B2.out)).mono ?_
  rintro e w3 ⟨U, hU, rfl, hb3⟩
  have B3 := Lib.hid (below2 B2.out hb3)
  clear hb3
  go_wp2_with fail
  refine (ShowTest_any U (by omega) w3).mono ?_
  rintro e w4 ⟨rfl, hb4⟩
  have B4 := Lib.hid (below2 B3.out hb4)
  clear hb4
  have en0 := bs_nil
  have en1 := bs_cons
  have X1 := Lib.hid (fun w => ShowExprS_any S (by omega) w)
  have X2 := Lib.hid (fun w => ShowTestS_any U (by omega) w)
  have X3 := Lib.hid (fun w => ExprValid_any S (by omega) w)
  have X4 := Lib.hid (fun w => TestValid_any U (by omega) w)
  -- the test: what is shown, and whether it is valid
  obtain ⟨vt, hvt⟩ : ∃ v, (whole false 1 200 U.data.toList).isSome = v := ⟨_, rfl⟩
  obtain ⟨y, hy⟩ : ∃ y, shTO (whole false 1 200 U.data.toList) = y := ⟨_, rfl⟩
  have hty : (!y.isEmpty) = vt := by
    rw [← hvt, ← hy]
    cases h : whole false 1 200 U.data.toList with
    | none => rfl
    | some k =>
      obtain ⟨_, hk, _⟩ := (whole_iff (by omega)).1 h
      have hne : shT k ≠ [] := by rcases ok1_head hk with ⟨c, rfl, rfl | rfl⟩ | ⟨a, rfl, _⟩ | ⟨o, a, b, rfl, rfl | rfl, _⟩ | ⟨o, a, b, rfl, rfl | rfl, _⟩ <;> simp [shT]
      simp only [shTO, Option.isSome_some]
      cases hs : shT k with
      | nil => exact absurd hs hne
      | cons => rfl
  rw [hvt] at X4
  rw [hy] at X2 ⊢
  clear hvt hy
  obtain ⟨o, ho⟩ : ∃ o, whole false 0 200 S.data.toList = o := ⟨_, rfl⟩
  rw [ho] at X1 X3 ⊢
  have HO := Lib.hid ho
  clear ho
  cases y with
  | nil =>
    obtain rfl : vt = false := hty.symm
    clear hty
    cases o with
    | none =>
      simp only [shEO, Option.isSome_none] at X1 X3 ⊢
      go_wp2_with fail
      refine (X1.out _).mono ?_
      rintro e w5 ⟨rfl, n5, rfl⟩
      go_wp2_with fail
      refine (X2.out _).mono ?_
      rintro e w5 ⟨rfl, n6, rfl⟩
      go_wp2_with fail
      refine (X3.out _).mono ?_
      rintro e w5 ⟨rfl, hb5⟩
      have B5 := Lib.hid (below2 (B4.out.trans (below_drewN _ _ _)) hb5)
      clear hb5
      go_wp2_with fail
      refine (X4.out _).mono ?_
      rintro e w6 ⟨rfl, hb6⟩
      have B6 := Lib.hid (below2 B5.out hb6)
      clear hb6
      go_wp2_with fail
      go_ret
      exact ⟨rfl, B6.out⟩
    | some k =>
      obtain ⟨hk1, hk2, hk3⟩ := (whole_iff (by omega)).1 HO.out
      obtain ⟨l1, l2, l3⟩ := shE_lets k hk2
      have hsz : S.size = k.text.length := by rw [← len_S, hk3]
      obtain ⟨x, hx⟩ : ∃ x, shE k = x := ⟨_, rfl⟩
      simp only [shEO, Option.isSome_some, hx] at X1 X3 ⊢
      rw [hx] at l1 l2
      rw [← hsz] at l1 l2 l3
      have hne : x ≠ [] := by intro e; rw [e] at l2; simp at l2; omega
      obtain ⟨c1, x1, rfl⟩ : ∃ c1 x1, x = c1 :: x1 := by
        cases x with
        | nil => exact absurd rfl hne
        | cons c1 x1 => exact ⟨c1, x1, rfl⟩
      have L1 := Lib.hid l1
      have L2 := Lib.hid l2
      have L3 := Lib.hid l3
      clear l1 l2 l3 hne hx hk1 hk2 hk3 hsz
      go_wp2_with fail
      refine (X1.out _).mono ?_
      rintro e w5 ⟨rfl, n5, rfl⟩
      go_wp2_with fail
      refine (X2.out _).mono ?_
      rintro e w5 ⟨rfl, n6, rfl⟩
      go_wp2_with fail
      refine (X3.out _).mono ?_
      rintro e w5 ⟨rfl, hb5⟩
      have B5 := Lib.hid (below2 (B4.out.trans (below_drewN _ _ _)) hb5)
      clear hb5
      go_wp2_with fail
      refine (X4.out _).mono ?_
      rintro e w6 ⟨rfl, hb6⟩
      have B6 := Lib.hid (below2 B5.out hb6)
      clear hb6
      go_wp2_with fail
      clear X1 X2 X3 X4 en0 en1 B1 B2 B3 B4 B5 HB1
      obtain ⟨X, hX⟩ : ∃ X, bs (c1 :: x1) = X := ⟨_, rfl⟩
      have M1 : Hid (lets X.data.toList = S.size) := by rw [← hX]; exact L1.out
      have M2 : Hid (X.size = S.size + 2 * ((S.size - 1) / 2)) := by rw [← hX, bs_size]; exact L2.out
      have hXs : X.size ≤ 1000 := by have := M2.out; omega
      rw [hX]
      clear hX L1 L2
      go_loop [9, 10] (fun ls i => ∃ k n : Nat, k ≤ X.size ∧ n ≤ k ∧ ls = .int .i64 (n : Int) ∧ i = .int .i64 (k : Int) ∧ Hid (n = lets (X.data.toList.take k))) (fun _ i => X.size - (intOf i).toNat)
      case atStart => exact ⟨0, 0, Nat.zero_le _, Nat.le_refl _, rfl, rfl, rfl⟩
      case round =>
        obtain ⟨k, n, hk, hn, rfl, rfl, hl⟩ := hrel
        by_cases hlt : k < X.size
        · have hts := take_snoc X k hlt
          obtain ⟨c, hc⟩ : ∃ c, X[k] = c := ⟨_, rfl⟩
          rw [hc] at hts
          have hnext : lets (X.data.toList.take (k + 1)) = n + if c != 40 && c != 41 then 1 else 0 := by rw [hts, lets_app, lets_one, hl.out]
          have HN := Lib.hid hnext
          clear hnext hts hl
          by_cases h40 : c = 40
          · subst h40
            go_wp2_with fail
            go_round
            case rel => exact ⟨k + 1, n, by omega, by omega, rfl, by go_num, by rw [HN.out]; rfl⟩
            case measure => simp [intOf]; omega
          · have e40 := u8_ne 40 h40 (by decide)
            by_cases h41 : c = 41
            · subst h41
              clear h40 e40
              go_wp2_with fail
              go_round
              case rel => exact ⟨k + 1, n, by omega, by omega, rfl, by go_num, by rw [HN.out]; rfl⟩
              case measure => simp [intOf]; omega
            · have e41 := u8_ne 41 h41 (by decide)
              have hone : (c != 40 && c != 41) = true := by simp [h40, h41]
              have HO1 := Lib.hid hone
              simp only [Int.cast_ofNat_Int] at e40 e41
              have f40 : ((c.toNat : Int) != 40) = true := by rw [bne, e40]; rfl
              have f41 : ((c.toNat : Int) != 41) = true := by rw [bne, e41]; rfl
              clear h40 h41 hone
              go_wp2_with fail
              go_round
              case rel => exact ⟨k + 1, n + 1, by omega, by omega, by go_num, by go_num, by rw [HN.out, HO1.out]; rfl⟩
              case measure => simp [intOf]; omega
        · have hfin : n = S.size := by
            rw [hl.out, List.take_of_length_le (by rw [len_S]; omega)]
            exact M1.out
          subst hfin
          have m2 := M2.out
          have m3 := L3.out
          have g1 : 1 ≤ S.size := by omega
          have hE : (((X.size : Int) - (S.size : Int)) == 2 * (((S.size : Int) - 1) / 2)) = true := by simp; omega
          clear hl M1 M2 L3
          have M4 := Lib.hid m2
          have M5 := Lib.hid m3
          clear m2 m3
          go_wp2_with fail
          go_ret
          exact ⟨ret_bool (by first | rfl | (simp; have := M4.out; have := M5.out; omega)), B6.out⟩
  | cons c0 y0 =>
    obtain rfl : vt = true := hty.symm
    clear hty
    cases o with
    | none =>
      simp only [shEO, Option.isSome_none] at X1 X3 ⊢
      go_wp2_with fail
      refine (X1.out _).mono ?_
      rintro e w5 ⟨rfl, n5, rfl⟩
      go_wp2_with fail
      refine (X2.out _).mono ?_
      rintro e w5 ⟨rfl, n6, rfl⟩
      go_wp2_with fail
      refine (X3.out _).mono ?_
      rintro e w5 ⟨rfl, hb5⟩
      have B5 := Lib.hid (below2 (B4.out.trans (below_drewN _ _ _)) hb5)
      clear hb5
      go_wp2_with fail
      refine (X4.out _).mono ?_
      rintro e w6 ⟨rfl, hb6⟩
      have B6 := Lib.hid (below2 B5.out hb6)
      clear hb6
      go_wp2_with fail
      go_ret
      exact ⟨rfl, B6.out⟩
    | some k =>
      obtain ⟨hk1, hk2, hk3⟩ := (whole_iff (by omega)).1 HO.out
      obtain ⟨l1, l2, l3⟩ := shE_lets k hk2
      have hsz : S.size = k.text.length := by rw [← len_S, hk3]
      obtain ⟨x, hx⟩ : ∃ x, shE k = x := ⟨_, rfl⟩
      simp only [shEO, Option.isSome_some, hx] at X1 X3 ⊢
      rw [hx] at l1 l2
      rw [← hsz] at l1 l2 l3
      have hne : x ≠ [] := by intro e; rw [e] at l2; simp at l2; omega
      obtain ⟨c1, x1, rfl⟩ : ∃ c1 x1, x = c1 :: x1 := by
        cases x with
        | nil => exact absurd rfl hne
        | cons c1 x1 => exact ⟨c1, x1, rfl⟩
      have L1 := Lib.hid l1
      have L2 := Lib.hid l2
      have L3 := Lib.hid l3
      clear l1 l2 l3 hne hx hk1 hk2 hk3 hsz
      go_wp2_with fail
      refine (X1.out _).mono ?_
      rintro e w5 ⟨rfl, n5, rfl⟩
      go_wp2_with fail
      refine (X2.out _).mono ?_
      rintro e w5 ⟨rfl, n6, rfl⟩
      go_wp2_with fail
      refine (X3.out _).mono ?_
      rintro e w5 ⟨rfl, hb5⟩
      have B5 := Lib.hid (below2 (B4.out.trans (below_drewN _ _ _)) hb5)
      clear hb5
      go_wp2_with fail
      refine (X4.out _).mono ?_
      rintro e w6 ⟨rfl, hb6⟩
      have B6 := Lib.hid (below2 B5.out hb6)
      clear hb6
      go_wp2_with fail
      clear X1 X2 X3 X4 en0 en1 B1 B2 B3 B4 B5 HB1
      obtain ⟨X, hX⟩ : ∃ X, bs (c1 :: x1) = X := ⟨_, rfl⟩
      have M1 : Hid (lets X.data.toList = S.size) := by rw [← hX]; exact L1.out
      have M2 : Hid (X.size = S.size + 2 * ((S.size - 1) / 2)) := by rw [← hX, bs_size]; exact L2.out
      have hXs : X.size ≤ 1000 := by have := M2.out; omega
      rw [hX]
      clear hX L1 L2
      go_loop [9, 10] (fun ls i => ∃ k n : Nat, k ≤ X.size ∧ n ≤ k ∧ ls = .int .i64 (n : Int) ∧ i = .int .i64 (k : Int) ∧ Hid (n = lets (X.data.toList.take k))) (fun _ i => X.size - (intOf i).toNat)
      case atStart => exact ⟨0, 0, Nat.zero_le _, Nat.le_refl _, rfl, rfl, rfl⟩
      case round =>
        obtain ⟨k, n, hk, hn, rfl, rfl, hl⟩ := hrel
        by_cases hlt : k < X.size
        · have hts := take_snoc X k hlt
          obtain ⟨c, hc⟩ : ∃ c, X[k] = c := ⟨_, rfl⟩
          rw [hc] at hts
          have hnext : lets (X.data.toList.take (k + 1)) = n + if c != 40 && c != 41 then 1 else 0 := by rw [hts, lets_app, lets_one, hl.out]
          have HN := Lib.hid hnext
          clear hnext hts hl
          by_cases h40 : c = 40
          · subst h40
            go_wp2_with fail
            go_round
            case rel => exact ⟨k + 1, n, by omega, by omega, rfl, by go_num, by rw [HN.out]; rfl⟩
            case measure => simp [intOf]; omega
          · have e40 := u8_ne 40 h40 (by decide)
            by_cases h41 : c = 41
            · subst h41
              clear h40 e40
              go_wp2_with fail
              go_round
              case rel => exact ⟨k + 1, n, by omega, by omega, rfl, by go_num, by rw [HN.out]; rfl⟩
              case measure => simp [intOf]; omega
            · have e41 := u8_ne 41 h41 (by decide)
              have hone : (c != 40 && c != 41) = true := by simp [h40, h41]
              have HO1 := Lib.hid hone
              simp only [Int.cast_ofNat_Int] at e40 e41
              have f40 : ((c.toNat : Int) != 40) = true := by rw [bne, e40]; rfl
              have f41 : ((c.toNat : Int) != 41) = true := by rw [bne, e41]; rfl
              clear h40 h41 hone
              go_wp2_with fail
              go_round
              case rel => exact ⟨k + 1, n + 1, by omega, by omega, by go_num, by go_num, by rw [HN.out, HO1.out]; rfl⟩
              case measure => simp [intOf]; omega
        · have hfin : n = S.size := by
            rw [hl.out, List.take_of_length_le (by rw [len_S]; omega)]
            exact M1.out
          subst hfin
          have m2 := M2.out
          have m3 := L3.out
          have g1 : 1 ≤ S.size := by omega
          have hE : (((X.size : Int) - (S.size : Int)) == 2 * (((S.size : Int) - 1) / 2)) = true := by simp; omega
          clear hl M1 M2 L3
          have M4 := Lib.hid m2
          have M5 := Lib.hid m3
          clear m2 m3
          go_wp2_with fail
          go_ret
          exact ⟨ret_bool (by first | rfl | (simp; have := M4.out; have := M5.out; omega)), B6.out⟩

set_option maxRecDepth 100000 in
theorem lifted (os : Os) (started : os.Started) (H : Type) (enc : TypeId × Value → H) :
    ReturnsInHanded {} Try.checked os 5 .any (Rows.fnShowSpec.pre6 enc Try.prog Try.f5 Rows.fnShowRow.domain false) (Rows.fnShowSpec.post enc Try.prog Try.f5 false true false false) := by
  refine returnsInHanded_of_change (C := Try.checked) own started (by kernel_rfl) Try.func5
    (ChangeSpec.witness6 (enc := enc) (C := Try.checked) false ⟨#[], #[.slice none 0 0, .slice none 0 0], []⟩ 8 (by kernel_rfl) (by kernel_rfl) (by kernel_rfl) (by kernel_rfl)) ?_
  intro W base args ds gs before hval0 hW hcnd _
  have hval : ∀ (j : Nat) t v, Try.f5.params[j]? = some t → args[j]? = some v → Value.okWide Try.prog W .any base t v := hval0
  have hW' := hW
  obtain ⟨p, q, hA0, hV, rfl, hfz, hnd⟩ := hW
  have hA : DataW.TrodAll enc Try.prog W 0 (fun _ => true) true Try.f5.params.toList args.toList ds p := hA0
  rw [Try.params5] at hA hval
  obtain ⟨v0, vs0, d0, ds0, p0, q0, hargs, rfl, rfl, h0, r0⟩ := trodAll_cons hA
  obtain ⟨v1, vs1, d1, ds1, p1, q1, rfl, rfl, rfl, h1, r1⟩ := trodAll_cons r0
  obtain ⟨rfl, rfl, rfl⟩ := trodAll_nil r1
  obtain rfl : args = #[v0, v1] := by cases args; simp_all
  obtain ⟨rfl, rfl⟩ := trodVars_none hV
  obtain ⟨a0, len0, cap0, rfl⟩ := okWide_slice Try.underlying22 (hval 0 22 v0 rfl rfl)
  have k0 := h0
  have lt0 : ∀ x ∈ p0, x.block < W.heap.size := by obtain ⟨m, hm⟩ := k0; exact DataW.trod_lt m _ _ _ hm
  obtain ⟨z0, w0⟩ : ∃ zs, IsRow .u8 W a0 len0 cap0 zs := by
    obtain ⟨fuel, hf⟩ := h0
    rcases open_ints Try.underlying22 Try.underlying5 (by kernel_rfl) hf with ⟨hcs, _⟩ | ⟨x, l, c, zs, hcs, _, hl, hm, hz, _, hcell, hwz⟩
    · simp [Value.cells] at hcs
      obtain ⟨rfl, rfl, rfl⟩ := hcs
      exact ⟨[], .inl ⟨rfl, rfl, rfl, rfl⟩⟩
    · simp [Value.cells] at hcs
      obtain ⟨rfl, rfl, rfl⟩ := hcs
      exact ⟨zs, .inr ⟨_, rfl, hl, hm, by simpa using hz, hcell, hwz⟩⟩
  obtain ⟨by0, lc0, cm0⟩ := bytes_of_row w0
  obtain ⟨a1, len1, cap1, rfl⟩ := okWide_slice Try.underlying22 (hval 1 22 v1 rfl rfl)
  have k1 := h1
  have lt1 : ∀ x ∈ p1, x.block < W.heap.size := by obtain ⟨m, hm⟩ := k1; exact DataW.trod_lt m _ _ _ hm
  obtain ⟨z1, w1⟩ : ∃ zs, IsRow .u8 W a1 len1 cap1 zs := by
    obtain ⟨fuel, hf⟩ := h1
    rcases open_ints Try.underlying22 Try.underlying5 (by kernel_rfl) hf with ⟨hcs, _⟩ | ⟨x, l, c, zs, hcs, _, hl, hm, hz, _, hcell, hwz⟩
    · simp [Value.cells] at hcs
      obtain ⟨rfl, rfl, rfl⟩ := hcs
      exact ⟨[], .inl ⟨rfl, rfl, rfl, rfl⟩⟩
    · simp [Value.cells] at hcs
      obtain ⟨rfl, rfl, rfl⟩ := hcs
      exact ⟨zs, .inr ⟨_, rfl, hl, hm, by simpa using hz, hcell, hwz⟩⟩
  obtain ⟨by1, lc1, cm1⟩ := bytes_of_row w1
  clear hA0 hval0
  refine (walk a0 len0 cap0 a1 len1 cap1 W by0 lc0 cm0 by1 lc1 cm1).mono fun e W' ⟨he, bel⟩ => ?_
  subst he
  exact ⟨_, rfl, _, _, _, [], _, [], hW', trodAll_mk1 (shut_bool Try.underlying4 _), (trodAll_cons_mk (Below.trod laidOut (by kernel_rfl) (of_decide_eq_true (by kernel_rfl)) k0 bel lt0) (trodAll_cons_mk (Below.trod laidOut (by kernel_rfl) (of_decide_eq_true (by kernel_rfl)) k1 bel lt1) trodAll_mk0)), rfl, bel.frame _, fun h => by cases h⟩

theorem over : Rows.fnShowRow.holds Try.pinned (OpenSpec.ofChange Rows.fnShowSpec) :=
  OpenClaim.holds_of_wide 5 Try.f5 rfl rfl rfl rfl rfl rfl rfl ⟨rfl, rfl, rfl, rfl, rfl⟩ rfl rfl rfl rfl rfl (by kernel_rfl) Try.func5 (by kernel_rfl)
    (of_decide_eq_true (by kernel_rfl)) (by unfold Func.isWrapper; first | (rw [if_pos (by decide +kernel)]; kernel_rfl) | (rw [if_neg (by decide +kernel)]; exact ⟨rfl, rfl⟩))
    (fun os started H enc _ => lifted os started H enc)

/-- the statement -/
theorem proved : Rows.FnShowSaid := over
#print axioms proved
end Go.Proofs.Ytcdcgllodggebaa.fnShow
