/- An expression in place of a variable: the program's and the reference's. -/
import Derived.Test.YtndlhdmpfnadcaaDoorRep
import Derived.Test.YtndlhdmpfnadcaaDoorSv
import Derived.Test.YtndlhdmpfnadcaaDoorSpb
import Derived.Test.YtndlhdmpfnadcaaDoorPar
namespace Go.Proofs.YtndlhdmpfnadcaaDoor
open Go.RowKit
open Pl

/-- what is returned for a text -/
def sbV (l : List UInt8) : Value := if l.length ≤ 200 then .tuple #[.string (bs l), .bool true] else .tuple #[.string (bs []), .bool false]
/-- what is returned for a text, a variable and an expression -/
def sbO (so : Nat) (S V B : ByteArray) : Value :=
  match whole false so 200 S.data.toList, varOf V.data.toList, whole false 0 200 B.data.toList with
  | some _, some c, some _ => sbV (sub c B.data.toList S.data.toList)
  | _, _, _ => .tuple #[.string (bs []), .bool false]
theorem take_snoc {S : ByteArray} {k : Nat} (h : k < S.size) {c : UInt8} (hc : S[k] = c) : S.data.toList.take (k + 1) = S.data.toList.take k ++ [c] := by
  have hl : k < S.data.toList.length := by have := len_S S; omega
  rw [List.take_add_one, List.getElem?_eq_getElem hl]
  subst hc
  rfl
theorem sub_size {S B T : ByteArray} {c : UInt8} {k : Nat} (hS : S.size ≤ 2000) (hB : B.size ≤ 2000) (h : T.data.toList = sub c B.data.toList (S.data.toList.take k)) : T.size ≤ 4002000 := by
  have h1 := sub_len c B.data.toList (S.data.toList.take k)
  rw [← h, len_S, len_S] at h1
  have h2 : (S.data.toList.take k).length ≤ 2000 := by rw [List.length_take, len_S]; omega
  have h3 : (S.data.toList.take k).length * (B.size + 1) ≤ 2000 * 2001 := Nat.mul_le_mul h2 (by omega)
  omega
set_option maxHeartbeats 2000000 in
theorem l1Subst_any (S B : ByteArray) (c : UInt8) (hS : S.size ≤ 2000) (hB : B.size ≤ 2000) (w : World) :
    Calls Tryd.prog 55 #[.string S, .int .u8 c.toNat, .string B] w fun e w' => e = .returned (.string (bs (sub c B.data.toList S.data.toList))) ∧ w = w' := by
  go_enter Tryd.func55, Tryd.ntmps55
  go_wp2_with fail
  go_loop [7, 8] (fun o i => ∃ (k : Nat) (T : ByteArray), k ≤ S.size ∧ i = .int .i64 k ∧ o = .string T ∧ Hid (T.data.toList = sub c B.data.toList (S.data.toList.take k))) (fun _ i => S.size - (intOf i).toNat)
  case atStart => exact ⟨0, ⟨#[]⟩, by omega, rfl, rfl, by simp [Hid, sub]⟩
  case round =>
    obtain ⟨k, T, hk, rfl, rfl, HT⟩ := hrel
    by_cases hlt : k < S.size
    · have hex := extract_one hlt
      have t0 := sub_size hS hB HT.out
      have t1 : T.size + 1 ≤ 9223372036854775807 := by omega
      have t2 : T.size + B.size ≤ 9223372036854775807 := by omega
      obtain ⟨d, hd⟩ : ∃ d, S[k] = d := ⟨_, rfl⟩
      rw [hd] at hex
      have HN := Lib.hid (take_snoc hlt hd)
      by_cases hcd : d = c
      · have q0 : ((d.toNat : Int) == (c.toNat : Int)) = true := by rw [hcd]; simp
        have HR : Hid ((T ++ B).data.toList = sub c B.data.toList (S.data.toList.take (k + 1))) := by
          show _ = _
          rw [HN.out, sub_append, sub_cons, if_pos hcd, sub_nil, ← HT.out]
          simp
        clear hcd HN HT
        go_wp2_with fail
        go_round
        case rel => exact ⟨k + 1, T ++ B, by omega, by go_num, rfl, HR⟩
        case measure => simp [intOf]; omega
      · have q0 : ((d.toNat : Int) == (c.toNat : Int)) = false := by
          simp only [beq_eq_false_iff_ne]; intro e; exact hcd (UInt8.toNat_inj.1 (by omega))
        have HR : Hid ((T ++ ⟨#[d]⟩).data.toList = sub c B.data.toList (S.data.toList.take (k + 1))) := by
          show _ = _
          rw [HN.out, sub_append, sub_cons, if_neg hcd, sub_nil, ← HT.out]
          simp
        clear hcd HN HT
        go_wp2_with fail
        go_round
        case rel => exact ⟨k + 1, T ++ ⟨#[d]⟩, by omega, by go_num, rfl, HR⟩
        case measure => simp [intOf]; omega
    · have HE : Hid (T = bs (sub c B.data.toList S.data.toList)) := by
        show _ = _
        have := HT.out
        rw [List.take_of_length_le (by rw [len_S]; omega)] at this
        rw [← this, bs_of]
      clear HT
      obtain rfl : k = S.size := by omega
      clear hlt hk
      go_wp2_with fail
      go_ret
      exact ⟨by rw [HE.out]; rfl, rfl⟩

end Go.Proofs.YtndlhdmpfnadcaaDoor
