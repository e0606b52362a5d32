/- Folded expressions: the program's and the reference's. -/
import Derived.Test.YtndlhdmpfnadcaaDoorGb
import Derived.Test.YtndlhdmpfnadcaaDoorGa
import Derived.Test.YtndlhdmpfnadcaaDoorVr
import Derived.Test.YtndlhdmpfnadcaaDoorGe
import Derived.Test.YtndlhdmpfnadcaaDoorGc
namespace Go.Proofs.YtndlhdmpfnadcaaDoor
open Go.RowKit
open Pl

theorem enc_op {o : UInt8} (h : isO o = true) : Utf8.encode (IntKind.i32.wrap (o.toNat : Int)) = ⟨#[o]⟩ ∧ Utf8.encode (wrap32 (o.toNat : Int)) = ⟨#[o]⟩ := by
  rcases isO_cases h with rfl | rfl | rfl
  · exact ⟨by kernel_rfl, by kernel_rfl⟩
  · exact ⟨by kernel_rfl, by kernel_rfl⟩
  · exact ⟨by kernel_rfl, by kernel_rfl⟩
theorem isV_of_D' {c : UInt8} (h : isD c = true) : isV true c = false := by
  have h1 := isD_range h
  cases hv : isV true c with
  | false => rfl
  | true =>
    have hm := (mem_nms (wd := true)).2 hv
    simp only [nms, if_true, nmsW, List.mem_cons, List.not_mem_nil, or_false] at hm
    rcases hm with rfl | rfl | rfl | rfl | rfl | rfl <;> simp at h1
theorem dg_iff {x y : Nd} (hx : ok false 0 x = true) (hy : ok false 0 y = true) : (isDg x && isDg y) = true ↔ x.text.length = 1 ∧ y.text.length = 1 ∧ vars nmsW (x.text ++ y.text) = [] := by
  have big : ∀ {o : UInt8} {a b : Nd}, (Nd.n2 o a b).text.length ≠ 1 := by
    intro o a b h
    have := text_pos a
    have := text_pos b
    simp only [Nd.text, List.length_cons, List.length_append] at h
    omega
  cases x with
  | n1 o a => simp [ok] at hx
  | n3 o a b c => simp [ok] at hx
  | n2 o a b => simp only [isDg, Bool.false_and, Bool.false_eq_true, false_iff]; exact fun h => big h.1
  | n0 c =>
    cases y with
    | n1 o a => simp [ok] at hy
    | n3 o a b c => simp [ok] at hy
    | n2 o a b => simp only [isDg, Bool.and_false, Bool.false_eq_true, false_iff]; exact fun h => big h.2.1
    | n0 d =>
      simp only [ok, Bool.or_eq_true] at hx hy
      simp only [isDg, Nd.text, List.length_singleton, true_and, Bool.and_eq_true]
      constructor
      · rintro ⟨h1, h2⟩
        rw [List.eq_nil_iff_forall_not_mem]
        intro v hv
        obtain ⟨hv1, hv2⟩ := mem_vars.1 hv
        have hvv : isV true v = true := mem_nms.1 (show v ∈ nms true from hv1)
        simp only [List.cons_append, List.nil_append, List.mem_cons, List.not_mem_nil, or_false] at hv2
        rcases hv2 with rfl | rfl
        · rw [isV_of_D' h1] at hvv; cases hvv
        · rw [isV_of_D' h2] at hvv; cases hvv
      · intro h
        have hno : ∀ e, e = c ∨ e = d → isV false e = true → False := fun e he hv => by
          have : e ∈ vars nmsW ([c] ++ [d]) := mem_vars.2 ⟨show e ∈ nms true from mem_nms.2 (isV_wide hv true), by simp; exact he⟩
          rw [h] at this; cases this
        exact ⟨hx.resolve_left (fun h1 => hno c (.inl rfl) h1), hy.resolve_left (fun h1 => hno d (.inr rfl) h1)⟩
theorem env_zero : envOf 0 0 0 0 0 0 = fun _ => 0 := by
  funext c; unfold envOf; repeat' split
  all_goals rfl
theorem fold_two_yes {o : UInt8} {a b : Nd} (h : (isDg (fold a) && isDg (fold b)) = true) : fold (.n2 o a b) = .n0 (digOf (val (fun _ => 0) (.n2 o (fold a) (fold b)))) := by
  show (if (isDg (fold a) && isDg (fold b)) = true then _ else _) = _
  rw [if_pos h]
theorem fold_two_no {o : UInt8} {a b : Nd} (h : (isDg (fold a) && isDg (fold b)) = false) : fold (.n2 o a b) = .n2 o (fold a) (fold b) := by
  show (if (isDg (fold a) && isDg (fold b)) = true then _ else _) = _
  rw [if_neg (by rw [h]; decide)]


end Go.Proofs.YtndlhdmpfnadcaaDoor
