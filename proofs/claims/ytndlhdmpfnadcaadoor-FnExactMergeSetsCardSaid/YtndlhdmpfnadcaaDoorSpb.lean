/- The reference's values and truths: the contracts of l1Value and l1Holds. -/
import Derived.Test.YtndlhdmpfnadcaaDoorSpa
import Derived.Test.YtndlhdmpfnadcaaDoorGb
import Derived.Test.YtndlhdmpfnadcaaDoorTree
namespace Go.Proofs.YtndlhdmpfnadcaaDoor
open Go.RowKit
open Pl

theorem find_w (c : UInt8) (v : Int) (h : fnd nmsW c = v) : ∀ W, Calls Tryd.prog 50 #[.string ⟨#[120, 121, 122, 88, 89, 90]⟩, .int .u8 c.toNat] W fun e w' => e = .returned (.int .i64 v) ∧ W = w' := by
  intro W
  have := find_any ⟨#[120, 121, 122, 88, 89, 90]⟩ c (by decide) W
  rw [show (⟨#[120, 121, 122, 88, 89, 90]⟩ : ByteArray).data.toList = nmsW from rfl, h] at this
  exact this


end Go.Proofs.YtndlhdmpfnadcaaDoor
