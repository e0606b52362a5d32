/- A list of bytes as a string; where a node's parts lie in a text. -/
import Derived.Test.YtppcghklkldnaaaSt
import Derived.Test.YtppcghklkldnaaaPlb
namespace Go.Proofs.Ytppcghklkldnaaa
open Go.RowKit
open Pl

def bs (l : List UInt8) : ByteArray := ⟨l.toArray⟩
theorem bs_size (l : List UInt8) : (bs l).size = l.length := by show l.toArray.size = _; simp
theorem bs_app (a b : List UInt8) : bs a ++ bs b = bs (a ++ b) := by unfold bs; rw [ByteArray.mk_append_mk]
theorem bs_list (l : List UInt8) : (bs l).data.toList = l := rfl
theorem bs_of (S : ByteArray) : bs S.data.toList = S := by unfold bs; rfl

/-- where a node's parts lie in a text -/
theorem parts_two {S : ByteArray} {p : Nat} {o : UInt8} {a b : Nd} {r : List UInt8} (hd : S.data.toList.drop p = (Nd.n2 o a b).text ++ r) :
    ∃ hp : p < S.size, S[p] = o ∧ S.data.toList.drop (p + 1) = a.text ++ (b.text ++ r) ∧ S.data.toList.drop (p + 1 + a.text.length) = b.text ++ r ∧ p + 1 + a.text.length + b.text.length ≤ S.size ∧ (p : Int) + (Nd.n2 o a b).text.length = (p : Int) + 1 + a.text.length + b.text.length := by
  have hlen := len_S S
  simp only [Nd.text, List.cons_append, List.append_assoc] at hd
  have hll := congrArg List.length hd
  simp only [List.length_drop, List.length_cons, List.length_append] at hll
  have hp : p < S.size := by omega
  have h1 := drop_cons hp
  rw [hd] at h1
  simp only [List.cons.injEq] at h1
  have hd1 := h1.2.symm
  refine ⟨hp, h1.1.symm, hd1, by rw [← List.drop_drop, hd1]; simp, by omega, by simp [Nd.text]; omega⟩
theorem parts_one {S : ByteArray} {p : Nat} {o : UInt8} {a : Nd} {r : List UInt8} (hd : S.data.toList.drop p = (Nd.n1 o a).text ++ r) :
    ∃ hp : p < S.size, S[p] = o ∧ S.data.toList.drop (p + 1) = a.text ++ r ∧ p + 1 + a.text.length ≤ S.size ∧ (p : Int) + (Nd.n1 o a).text.length = (p : Int) + 1 + a.text.length := by
  have hlen := len_S S
  simp only [Nd.text, List.cons_append] at hd
  have hll := congrArg List.length hd
  simp only [List.length_drop, List.length_cons, List.length_append] at hll
  have hp : p < S.size := by omega
  have h1 := drop_cons hp
  rw [hd] at h1
  simp only [List.cons.injEq] at h1
  exact ⟨hp, h1.1.symm, h1.2.symm, by omega, by simp [Nd.text]; omega⟩
theorem parts_nil {S : ByteArray} {p : Nat} {c : UInt8} {r : List UInt8} (hd : S.data.toList.drop p = (Nd.n0 c).text ++ r) : ∃ hp : p < S.size, S[p] = c := by
  have hlen := len_S S
  have hll := congrArg List.length hd
  simp [Nd.text] at hll
  have hp : p < S.size := by omega
  have h1 := drop_cons hp
  rw [hd] at h1
  simp [Nd.text] at h1
  exact ⟨hp, h1.1.symm⟩

theorem bs_cons (o : UInt8) (a : List UInt8) : bs (o :: a) = (⟨#[o]⟩ : ByteArray) ++ bs a := by
  rw [show (⟨#[o]⟩ : ByteArray) = bs [o] from rfl, bs_app]; rfl
theorem bs_two (o : UInt8) (a b : Nd) : bs (Nd.n2 o a b).text = (⟨#[o]⟩ : ByteArray) ++ bs a.text ++ bs b.text := by
  rw [show (⟨#[o]⟩ : ByteArray) = bs [o] from rfl, bs_app, bs_app]; rfl

end Go.Proofs.Ytppcghklkldnaaa
