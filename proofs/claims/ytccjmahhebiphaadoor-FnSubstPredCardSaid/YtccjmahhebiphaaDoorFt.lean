/- Folded tests: the program's and the reference's. -/
import Derived.Test.YtccjmahhebiphaaDoorFo
import Derived.Test.YtccjmahhebiphaaDoorGa
namespace Go.Proofs.YtccjmahhebiphaaDoor
open Go.RowKit
open Pl

theorem isC_beq (c : UInt8) (k : Nd) : ((bs k.text).toList == [c]) = isC c k ∧ ([c] == (bs k.text).toList) = isC c k := by
  have h : (k.text = [c]) ↔ isC c k = true := isC_text
  rw [ByteArray.toList_eq, bs_list]
  cases hc : isC c k
  · rw [hc] at h
    have h2 : k.text ≠ [c] := fun e => by have := h.1 e; cases this
    exact ⟨by simpa using h2, by simpa using fun e => h2 e.symm⟩
  · have h2 := h.2 hc
    rw [h2]; simp
theorem below_of_drewN {w w' : World} (h : ∃ m, w' = w.drewN m) : Below w.heap.size w w' := by obtain ⟨m, rfl⟩ := h; exact below_drewN _ _ _
theorem isC_bs {c : UInt8} {k : Nd} (h : isC c k = true) : bs k.text = ⟨#[c]⟩ := by rw [isC_eq h]; rfl
theorem vars_out {ns l : List UInt8} {o : UInt8} (h : o ∉ ns) : vars ns (o :: l) = vars ns l := by
  unfold vars
  apply List.filter_congr
  intro c hc
  have : c ≠ o := by rintro rfl; exact h hc
  simp [this]
theorem dg3_iff {o : UInt8} {x y : Nd} (ho : o = 61 ∨ o = 60) (hx : ok false 0 x = true) (hy : ok false 0 y = true) : (isDg x && isDg y) = true ↔ (x.text.length = 1 ∧ y.text.length = 1) ∧ vars nmsW (Nd.n2 o x y).text = [] := by
  rw [dg_iff hx hy]
  have h : o ∉ nmsW := by rcases ho with rfl | rfl <;> decide
  simp only [Nd.text, vars_out h]
  exact ⟨fun ⟨a, b, c⟩ => ⟨⟨a, b⟩, c⟩, fun ⟨⟨a, b⟩, c⟩ => ⟨a, b, c⟩⟩
theorem bs_one (o : UInt8) (a : Nd) : bs (Nd.n1 o a).text = (⟨#[o]⟩ : ByteArray) ++ bs a.text := by
  rw [show (⟨#[o]⟩ : ByteArray) = bs [o] from rfl, bs_app]; rfl

end Go.Proofs.YtccjmahhebiphaaDoor
