/- An expression in place of a variable: the program's and the reference's. -/
import Derived.Test.YtccjmahhebiphaaDoorRep
import Derived.Test.YtccjmahhebiphaaDoorSv
import Derived.Test.YtccjmahhebiphaaDoorSpb
import Derived.Test.YtccjmahhebiphaaDoorPar
namespace Go.Proofs.YtccjmahhebiphaaDoor
open Go.RowKit
open Pl

/-- what is returned for a text -/
def sbV (l : List UInt8) : Value := if l.length ≤ 200 then .tuple #[.string (bs l), .bool true] else .tuple #[.string (bs []), .bool false]
/-- what is returned for a text, a variable and an expression -/
def sbO (so : Nat) (S V B : ByteArray) : Value :=
  match whole false so 200 S.data.toList, varOf V.data.toList, whole false 0 200 B.data.toList with
  | some _, some c, some _ => sbV (sub c B.data.toList S.data.toList)
  | _, _, _ => .tuple #[.string (bs []), .bool false]
theorem take_snoc {S : ByteArray} {k : Nat} (h : k < S.size) {c : UInt8} (hc : S[k] = c) : S.data.toList.take (k + 1) = S.data.toList.take k ++ [c] := by
  have hl : k < S.data.toList.length := by have := len_S S; omega
  rw [List.take_add_one, List.getElem?_eq_getElem hl]
  subst hc
  rfl
theorem sub_size {S B T : ByteArray} {c : UInt8} {k : Nat} (hS : S.size ≤ 2000) (hB : B.size ≤ 2000) (h : T.data.toList = sub c B.data.toList (S.data.toList.take k)) : T.size ≤ 4002000 := by
  have h1 := sub_len c B.data.toList (S.data.toList.take k)
  rw [← h, len_S, len_S] at h1
  have h2 : (S.data.toList.take k).length ≤ 2000 := by rw [List.length_take, len_S]; omega
  have h3 : (S.data.toList.take k).length * (B.size + 1) ≤ 2000 * 2001 := Nat.mul_le_mul h2 (by omega)
  omega
theorem subst_any (S B : ByteArray) (c : UInt8) (hS : S.size ≤ 1000000) (hB : B.size ≤ 1000000) (w : World) (hm : Most w) :
    Calls Tryd.prog 111 #[.string S, .string ⟨#[c]⟩, .string B] w fun e w' => e = .returned (sbV (sub c B.data.toList S.data.toList)) ∧ Below w.heap.size w w' := by
  have R := Lib.hid (replace_one S B c hS hB w hm)
  generalize sub c B.data.toList S.data.toList = l at *
  have hz := bs_size l
  by_cases h : l.length ≤ 200
  · rw [sbV, if_pos h]
    have h2 : (bs l).size ≤ 200 := by omega
    clear h hz hm
    generalize bs l = X at *
    go_enter Tryd.func111, Tryd.ntmps111
    go_wp2_with fail
    refine R.out.mono ?_
    rintro e w1 ⟨rfl, hb⟩
    go_wp2_with fail
    go_ret2
    exact ⟨(by first | trivial | rfl), hb⟩
  · rw [sbV, if_neg h]
    have h2 : 200 < (bs l).size := by omega
    clear h hz hm
    generalize bs l = X at *
    go_enter Tryd.func111, Tryd.ntmps111
    go_wp2_with fail
    refine R.out.mono ?_
    rintro e w1 ⟨rfl, hb⟩
    go_wp2_with fail
    go_ret2
    exact ⟨(by first | trivial | rfl), hb⟩
set_option maxHeartbeats 2000000 in
theorem l1Subst_any (S B : ByteArray) (c : UInt8) (hS : S.size ≤ 2000) (hB : B.size ≤ 2000) (w : World) :
    Calls Tryd.prog 112 #[.string S, .int .u8 c.toNat, .string B] w fun e w' => e = .returned (.string (bs (sub c B.data.toList S.data.toList))) ∧ w = w' := by
  go_enter Tryd.func112, Tryd.ntmps112
  go_wp2_with fail
  go_loop [7, 8] (fun o i => ∃ (k : Nat) (T : ByteArray), k ≤ S.size ∧ i = .int .i64 k ∧ o = .string T ∧ Hid (T.data.toList = sub c B.data.toList (S.data.toList.take k))) (fun _ i => S.size - (intOf i).toNat)
  case atStart => exact ⟨0, ⟨#[]⟩, by omega, rfl, rfl, by simp [Hid, sub]⟩
  case round =>
    obtain ⟨k, T, hk, rfl, rfl, HT⟩ := hrel
    by_cases hlt : k < S.size
    · have hex := extract_one hlt
      have t0 := sub_size hS hB HT.out
      have t1 : T.size + 1 ≤ 9223372036854775807 := by omega
      have t2 : T.size + B.size ≤ 9223372036854775807 := by omega
      obtain ⟨d, hd⟩ : ∃ d, S[k] = d := ⟨_, rfl⟩
      rw [hd] at hex
      have HN := Lib.hid (take_snoc hlt hd)
      by_cases hcd : d = c
      · have q0 : ((d.toNat : Int) == (c.toNat : Int)) = true := by rw [hcd]; simp
        have HR : Hid ((T ++ B).data.toList = sub c B.data.toList (S.data.toList.take (k + 1))) := by
          show _ = _
          rw [HN.out, sub_append, sub_cons, if_pos hcd, sub_nil, ← HT.out]
          simp
        clear hcd HN HT
        go_wp2_with fail
        go_round
        case rel => exact ⟨k + 1, T ++ B, by omega, by go_num, rfl, HR⟩
        case measure => simp [intOf]; omega
      · have q0 : ((d.toNat : Int) == (c.toNat : Int)) = false := by
          simp only [beq_eq_false_iff_ne]; intro e; exact hcd (UInt8.toNat_inj.1 (by omega))
        have HR : Hid ((T ++ ⟨#[d]⟩).data.toList = sub c B.data.toList (S.data.toList.take (k + 1))) := by
          show _ = _
          rw [HN.out, sub_append, sub_cons, if_neg hcd, sub_nil, ← HT.out]
          simp
        clear hcd HN HT
        go_wp2_with fail
        go_round
        case rel => exact ⟨k + 1, T ++ ⟨#[d]⟩, by omega, by go_num, rfl, HR⟩
        case measure => simp [intOf]; omega
    · have HE : Hid (T = bs (sub c B.data.toList S.data.toList)) := by
        show _ = _
        have := HT.out
        rw [List.take_of_length_le (by rw [len_S]; omega)] at this
        rw [← this, bs_of]
      clear HT
      obtain rfl : k = S.size := by omega
      clear hlt hk
      go_wp2_with fail
      go_ret
      exact ⟨by rw [HE.out]; rfl, rfl⟩
theorem SubstTest_any (S V B : ByteArray) (hS : S.size ≤ 1000000) (hB : B.size ≤ 1000000) (w : World) (hm : Most w) :
    Calls Tryd.prog 50 #[.string S, .string V, .string B] w fun e w' => e = .returned (sbO 1 S V B) ∧ Below w.heap.size w w' := by
  have E1 := Lib.hid (fun w => TestValid_any S (by omega) w)
  have E2 := Lib.hid (fun w => isVar_any V w)
  have E3 := Lib.hid (fun w => ExprValid_any B (by omega) w)
  have M := Lib.hid hm
  clear hm
  unfold sbO
  cases h1 : whole false 1 200 S.data.toList with
  | none =>
    simp only [h1, Option.isSome_none] at E1
    clear E2 E3 h1
    go_enter Tryd.func50, Tryd.ntmps50
    go_wp2_with fail
    refine (E1.out _).mono ?_
    rintro e w1 ⟨rfl, hb⟩
    go_wp2_with fail
    go_ret2
    exact ⟨(by first | trivial | rfl), hb⟩
  | some k1 =>
    simp only [h1, Option.isSome_some] at E1
    clear h1
    cases h2 : varOf V.data.toList with
    | none =>
      simp only [h2, Option.isSome_none] at E2
      clear E3 h2
      go_enter Tryd.func50, Tryd.ntmps50
      go_wp2_with fail
      refine (E1.out _).mono ?_
      rintro e w1 ⟨rfl, hb⟩
      go_wp2_with fail
      refine (E2.out _).mono ?_
      rintro e w2 ⟨rfl, rfl⟩
      go_wp2_with fail
      go_ret2
      exact ⟨(by first | trivial | rfl), hb⟩
    | some c =>
      simp only [h2, Option.isSome_some] at E2
      obtain ⟨hv, _⟩ := varOf_some h2
      obtain rfl := bytes_of hv
      clear h2 hv
      cases h3 : whole false 0 200 B.data.toList with
      | none =>
        simp only [h3, Option.isSome_none] at E3
        clear h3
        go_enter Tryd.func50, Tryd.ntmps50
        go_wp2_with fail
        refine (E1.out _).mono ?_
        rintro e w1 ⟨rfl, hb⟩
        have B1 := Lib.hid hb
        clear hb
        go_wp2_with fail
        refine (E2.out _).mono ?_
        rintro e w2 ⟨rfl, rfl⟩
        go_wp2_with fail
        refine (E3.out _).mono ?_
        rintro e w3 ⟨rfl, hb⟩
        have B3 := Lib.hid (below_2 B1.out hb)
        clear hb
        go_wp2_with fail
        go_ret2
        exact ⟨(by first | trivial | rfl), B3.out⟩
      | some k3 =>
        simp only [h3, Option.isSome_some] at E3
        clear h3
        have X4 := Lib.hid (fun w hm => subst_any S B c hS hB w hm)
        simp only []
        generalize hU : sbV (sub c B.data.toList S.data.toList) = U at *
        obtain ⟨ux, ub, rfl⟩ : ∃ (x : ByteArray) (b : Bool), U = .tuple #[.string x, .bool b] := by
          rw [← hU]; unfold sbV; split
          · exact ⟨_, _, rfl⟩
          · exact ⟨_, _, rfl⟩
        clear hU
        go_enter Tryd.func50, Tryd.ntmps50
        go_wp2_with fail
        refine (E1.out _).mono ?_
        rintro e w1 ⟨rfl, hb⟩
        have B1 := Lib.hid hb
        clear hb
        go_wp2_with fail
        refine (E2.out _).mono ?_
        rintro e w2 ⟨rfl, rfl⟩
        go_wp2_with fail
        refine (E3.out _).mono ?_
        rintro e w3 ⟨rfl, hb⟩
        have B3 := Lib.hid (below_2 B1.out hb)
        clear hb
        go_wp2_with fail
        refine (X4.out _ (M.out.below B3.out)).mono ?_
        rintro e w4 ⟨rfl, hb⟩
        have B4 := Lib.hid (below_2 B3.out hb)
        clear hb
        go_wp2_with fail
        go_ret2
        exact ⟨(by first | trivial | rfl), B4.out⟩
theorem SubstTestS_any (S V B : ByteArray) (hS : S.size ≤ 2000) (hV : V.size ≤ 1000) (hB : B.size ≤ 2000) (w : World) :
    Calls Tryd.prog 51 #[.string S, .string V, .string B] w fun e w' => e = .returned (sbO 1 S V B) ∧ Below w.heap.size w w' := by
  have E1 := Lib.hid (fun w => TestValidS_any S w (by omega))
  have E2 := Lib.hid (fun w => l1Var_any V (by omega) w)
  have E3 := Lib.hid (fun w => ExprValidS_any B w (by omega))
  unfold sbO
  cases h1 : whole false 1 200 S.data.toList with
  | none =>
    simp only [h1, Option.isSome_none] at E1
    clear E2 E3 h1
    go_enter Tryd.func51, Tryd.ntmps51
    go_wp2_with fail
    refine (E1.out _).mono ?_
    rintro e w1 ⟨rfl, m, rfl⟩
    go_wp2_with fail
    go_ret2
    exact ⟨(by first | trivial | rfl), below_drewN _ _ _⟩
  | some k1 =>
    simp only [h1, Option.isSome_some] at E1
    clear h1
    cases h3 : whole false 0 200 B.data.toList with
    | none =>
      simp only [h3, Option.isSome_none] at E3
      clear h3 E2
      go_enter Tryd.func51, Tryd.ntmps51
      go_wp2_with fail
      refine (E1.out _).mono ?_
      rintro e w1 ⟨rfl, m, rfl⟩
      go_wp2_with fail
      refine (E3.out _).mono ?_
      rintro e w3 ⟨rfl, m3, rfl⟩
      go_wp2_with fail
      go_ret2
      refine ⟨?_, below_drewN _ _ _⟩
      cases varOf V.data.toList <;> rfl
    | some k3 =>
      simp only [h3, Option.isSome_some] at E3
      clear h3
      cases h2 : varOf V.data.toList with
      | none =>
        simp only [h2, varNo] at E2
        clear h2
        go_enter Tryd.func51, Tryd.ntmps51
        go_wp2_with fail
        refine (E1.out _).mono ?_
        rintro e w1 ⟨rfl, m, rfl⟩
        go_wp2_with fail
        refine (E3.out _).mono ?_
        rintro e w3 ⟨rfl, m3, rfl⟩
        go_wp2_with fail
        refine (E2.out _).mono ?_
        rintro e w2 ⟨rfl, rfl⟩
        go_wp2_with fail
        go_ret2
        exact ⟨(by first | trivial | rfl), below_drewN _ _ _⟩
      | some c =>
        simp only [h2, varNo] at E2
        obtain ⟨hv, hn⟩ := varOf_some h2
        obtain rfl := bytes_of hv
        clear h2 hv
        have hf0 : 0 ≤ fnd nmsN c := fnd_mem.2 hn
        have hf1 := fnd_range c nmsN
        generalize fnd nmsN c = z at *
        have X4 := Lib.hid (fun w => l1Subst_any S B c hS hB w)
        simp only []
        generalize sub c B.data.toList S.data.toList = l at *
        have hz := bs_size l
        by_cases h : l.length ≤ 200
        · rw [sbV, if_pos h]
          have h2 : (bs l).size ≤ 200 := by omega
          clear h hz hn hf1
          generalize bs l = X at *
          go_enter Tryd.func51, Tryd.ntmps51
          go_wp2_with fail
          refine (E1.out _).mono ?_
          rintro e w1 ⟨rfl, m, rfl⟩
          go_wp2_with fail
          refine (E3.out _).mono ?_
          rintro e w3 ⟨rfl, m3, rfl⟩
          go_wp2_with fail
          refine (E2.out _).mono ?_
          rintro e w2 ⟨rfl, rfl⟩
          go_wp2_with fail
          refine (X4.out _).mono ?_
          rintro e w4 ⟨rfl, rfl⟩
          go_wp2_with fail
          go_ret2
          exact ⟨(by first | trivial | rfl), below_drewN _ _ _⟩
        · rw [sbV, if_neg h]
          have h2 : 200 < (bs l).size := by omega
          clear h hz hn hf1
          generalize bs l = X at *
          go_enter Tryd.func51, Tryd.ntmps51
          go_wp2_with fail
          refine (E1.out _).mono ?_
          rintro e w1 ⟨rfl, m, rfl⟩
          go_wp2_with fail
          refine (E3.out _).mono ?_
          rintro e w3 ⟨rfl, m3, rfl⟩
          go_wp2_with fail
          refine (E2.out _).mono ?_
          rintro e w2 ⟨rfl, rfl⟩
          go_wp2_with fail
          refine (X4.out _).mono ?_
          rintro e w4 ⟨rfl, rfl⟩
          go_wp2_with fail
          go_ret2
          exact ⟨(by first | trivial | rfl), below_drewN _ _ _⟩

end Go.Proofs.YtccjmahhebiphaaDoor
