/- What the reference says of programs: plainness, loops, reads and writes, parts, heads. -/
import Derived.Test.YtndlhdmpfnadcaaGreatDoorSz
namespace Go.Proofs.YtndlhdmpfnadcaaGreatDoor
open Go.RowKit
open Pl

theorem plain_iff (l : List Nd) : cntN (inO (bs [47, 126])) l = 0 ↔ fnd (l.map Nd.op) 47 < 0 ∧ fnd (l.map Nd.op) 126 < 0 := by
  rw [cntN_zero]
  have key : ∀ c : UInt8, fnd (l.map Nd.op) c < 0 ↔ ∀ x ∈ l, x.op ≠ c := by
    intro c
    rw [← Int.not_le, fnd_mem]
    simp
  rw [key, key]
  constructor
  · intro h
    refine ⟨fun x hx e => ?_, fun x hx e => ?_⟩
    · have h1 := h x hx
      have h2 : inO (bs [47, 126]) x.op = true := mem_in.2 (by simp [e])
      rw [h1] at h2; cases h2
    · have h1 := h x hx
      have h2 : inO (bs [47, 126]) x.op = true := mem_in.2 (by simp [e])
      rw [h1] at h2; cases h2
  · rintro ⟨h1, h2⟩ x hx
    cases hb : inO (bs [47, 126]) x.op
    · rfl
    · have := mem_in.1 hb
      simp at this
      rcases this with h | h
      · exact absurd h (h1 x hx)
      · exact absurd h (h2 x hx)
theorem cntN_take {f : UInt8 → Bool} {l : List Nd} {j : Nat} (h : j < l.length) : cntN f (l.take (j + 1)) = cntN f (l.take j) + (if f l[j].op then 1 else 0) := by
  rw [List.take_succ_eq_append_getElem h, cntN_append]
  simp [cntN]
theorem catN_take {f : Nd → List UInt8} {l : List Nd} {j : Nat} (h : j < l.length) : catN f (l.take (j + 1)) = catN f (l.take j) ++ f l[j] := by
  rw [List.take_succ_eq_append_getElem h, catN_append]
  simp [catN]
theorem catN_take_le {f : Nd → List UInt8} {l : List Nd} {j : Nat} : (catN f (l.take j)).length ≤ (catN f l).length := by
  have : catN f l = catN f (l.take j) ++ catN f (l.drop j) := by rw [← catN_append, List.take_append_drop]
  rw [this, List.length_append]
  omega
theorem head_pos {wd : Bool} {x : Nd} (h : ok wd 2 x = true) (ho : x.op = 97) : 1 ≤ (headN x).length := by
  rcases ok2_head h with rfl | ⟨v, e, rfl, hv, he⟩ | ⟨o, a, b, rfl, h2, _⟩ | ⟨t, a, b, rfl, _⟩ | ⟨t, a, rfl, _⟩ | ⟨t, rfl, _⟩
  · exact absurd ho (by decide)
  · simp only [headN, if_true, List.length_append, Nd.text, List.length_cons, List.length_nil]; omega
  · rcases h2 with rfl | rfl <;> exact absurd ho (by simp [Nd.op])
  · exact absurd ho (by simp [Nd.op])
  · exact absurd ho (by simp [Nd.op])
  · exact absurd ho (by simp [Nd.op])
theorem ext_from {l : List UInt8} (h : 1 ≤ l.length) : (bs l).extract 1 (bs l).size = bs (l.drop 1) :=
  extract_nd (l := l.drop 1) (r := []) (by rw [bs_list, List.append_nil]) (by rw [bs_size, List.length_drop]; omega)
theorem ext_to {l : List UInt8} (h : 1 ≤ l.length) : (bs l).extract 0 1 = bs (l.take 1) :=
  extract_nd (l := l.take 1) (r := l.drop 1) (by rw [bs_list, List.drop_zero, List.take_append_drop]) (by rw [List.length_take]; omega)
theorem bs_get {l : List UInt8} {j : Nat} (h : j < l.length) : (bs l)[j]'(by rw [bs_size]; exact h) = l[j] := by
  show (bs l).data[j] = _
  simp [bs]

end Go.Proofs.YtndlhdmpfnadcaaGreatDoor
