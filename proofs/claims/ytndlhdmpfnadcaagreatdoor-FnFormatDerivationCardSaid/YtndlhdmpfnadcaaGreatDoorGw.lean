/- XGw: XRw XRwb put together. -/
import Derived.Test.YtndlhdmpfnadcaaGreatDoorHd
import Derived.Test.YtndlhdmpfnadcaaGreatDoorPar
/- Rewritings of a statement: the program's and the reference's. -/
namespace Go.Proofs.YtndlhdmpfnadcaaGreatDoor
open Go.RowKit
open Pl

theorem bs_cat (a b : List UInt8) : bs (a ++ b) = bs a ++ bs b := (bs_app a b).symm
theorem bs_lit (a : UInt8) (b : List UInt8) : bs (a :: b) = (⟨#[a]⟩ : ByteArray) ++ bs b := bs_cons a b
theorem swap_text (t a b : Nd) : bs (Nd.n3 63 (.n1 33 t) b a).text = (⟨#[63, 33]⟩ : ByteArray) ++ bs t.text ++ bs b.text ++ bs a.text := by
  rw [show (⟨#[63, 33]⟩ : ByteArray) = bs [63, 33] from rfl, bs_app, bs_app, bs_app]
  congr 1
  simp [Nd.text]
theorem unroll_text (t p : Nd) : bs (Nd.n3 63 t (.n2 59 p (.n2 64 t p)) (.n0 115)).text = (⟨#[63]⟩ : ByteArray) ++ bs t.text ++ ⟨#[59]⟩ ++ bs p.text ++ bs (Nd.n2 64 t p).text ++ ⟨#[115]⟩ := by
  rw [show (⟨#[63]⟩ : ByteArray) = bs [63] from rfl, show (⟨#[59]⟩ : ByteArray) = bs [59] from rfl, show (⟨#[115]⟩ : ByteArray) = bs [115] from rfl, bs_app, bs_app, bs_app, bs_app, bs_app]
  congr 1
  simp [Nd.text]
theorem push_text (t a b c : Nd) : bs (Nd.n3 63 t (.n2 59 a c) (.n2 59 b c)).text = (⟨#[63]⟩ : ByteArray) ++ bs t.text ++ ⟨#[59]⟩ ++ bs a.text ++ bs c.text ++ ⟨#[59]⟩ ++ bs b.text ++ bs c.text := by
  rw [show (⟨#[63]⟩ : ByteArray) = bs [63] from rfl, show (⟨#[59]⟩ : ByteArray) = bs [59] from rfl, bs_app, bs_app, bs_app, bs_app, bs_app, bs_app, bs_app]
  congr 1
  simp [Nd.text]
theorem op_ne63 {k : Nd} (hk : ok false 2 k = true) (h : ∀ t a b, k ≠ .n3 63 t a b) : k.op ≠ 63 := by
  rcases ok2_head hk with rfl | ⟨v, e, rfl, hv, he⟩ | ⟨o, a, b, rfl, ho, ha, hb⟩ | ⟨t, a, b, rfl, h1, h2, h3⟩ | ⟨t, a, rfl, h1, h2⟩ | ⟨t, rfl, h1⟩
  · decide
  · simp [Nd.op]
  · rcases ho with rfl | rfl <;> simp [Nd.op]
  · exact absurd rfl (h t a b)
  · simp [Nd.op]
  · simp [Nd.op]
theorem whole_keep {k : Nd} (h : ok false 2 k = true) : whole false 2 200 k.text = if k.text.length ≤ 200 then some k else none := by
  by_cases hl : k.text.length ≤ 200
  · rw [if_pos hl, whole_text h hl]
  · rw [if_neg hl, whole, if_neg hl]


end Go.Proofs.YtndlhdmpfnadcaaGreatDoor

/- Rewritings of a statement: the reference's. -/
namespace Go.Proofs.YtndlhdmpfnadcaaGreatDoor
open Go.RowKit
open Pl

theorem op_at {S : ByteArray} {k : Nd} (ht : S.data.toList = k.text) : ∃ h : 0 < S.size, S[0] = k.op := by
  have hz : S.size = k.text.length := by rw [← ht, len_S]
  have hp0 : 0 < S.size := by rw [hz]; exact text_pos k
  refine ⟨hp0, ?_⟩
  have h1 : S.data.toList[0]'(by rw [len_S]; exact hp0) = k.text[0]'(text_pos k) := by simp only [ht]
  have h2 : k.text[0]'(text_pos k) = k.op := by cases k <;> rfl
  exact h1.trans h2
theorem row_form {w : World} {base : Nat} {t : TypeId} {v : Value} {n : Nat} {xs : List Value} (h : w.ownsRow base t 1 v n xs) (hn : 0 < n) : ∃ g cap, v = .slice (some ⟨g, 0, none⟩) n cap ∧ n ≤ cap ∧ g < w.heap.size ∧ base ≤ g := by
  obtain ⟨g, cap, hv, _⟩ := h.form hn
  subst hv
  have hg := h.lt g rfl
  refine ⟨g, cap, rfl, ?_, hg.2, hg.1⟩
  rcases h.2 with ⟨h, _⟩ | ⟨_, _, _, h, _, _, h2, _⟩
  · cases h
  · injection h with _ _ h3; omega

theorem drew_below {w w' : World} (h : ∃ m, w' = w.drewN m) : Below w.heap.size w w' := by obtain ⟨m, rfl⟩ := h; exact below_drewN _ _ _

end Go.Proofs.YtndlhdmpfnadcaaGreatDoor
