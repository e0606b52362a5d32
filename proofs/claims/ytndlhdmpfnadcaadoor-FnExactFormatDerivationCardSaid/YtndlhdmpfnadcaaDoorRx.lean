/- Relations as texts: whether they are, put together, compared, counted, asked for a pair. -/
import Derived.Test.YtndlhdmpfnadcaaDoorGa
import Derived.Test.YtndlhdmpfnadcaaDoorHs
import Derived.Test.YtndlhdmpfnadcaaDoorRo
import Derived.Test.YtndlhdmpfnadcaaDoorRq
namespace Go.Proofs.YtndlhdmpfnadcaaDoor
open Go.RowKit
open Pl

theorem okR_size {P : ByteArray} (hp : bOk 729 P.data.toList = true) : P.size = 729 := by rw [← len_S, bOk_len hp]
def bothR (P Q : ByteArray) (f : Bool → Bool → Bool) : Option (List UInt8) :=
  if bOk 729 P.data.toList && bOk 729 Q.data.toList then some (opT f P.data.toList Q.data.toList) else none
def notR (P : ByteArray) : Option (List UInt8) := if bOk 729 P.data.toList then some (ngT P.data.toList) else none
theorem bothR_yes {P Q : ByteArray} (f : Bool → Bool → Bool) (hp : bOk 729 P.data.toList = true) (hq : bOk 729 Q.data.toList = true) : bothR P Q f = some (opT f P.data.toList Q.data.toList) := by unfold bothR; rw [hp, hq]; rfl
theorem bothR_no {P Q : ByteArray} (f : Bool → Bool → Bool) (h : (bOk 729 P.data.toList && bOk 729 Q.data.toList) = false) : bothR P Q f = none := by unfold bothR; rw [h]; rfl
theorem notR_yes {P : ByteArray} (hp : bOk 729 P.data.toList = true) : notR P = some (ngT P.data.toList) := by unfold notR; rw [hp]; rfl
theorem notR_no {P : ByteArray} (hp : bOk 729 P.data.toList = false) : notR P = none := by unfold notR; rw [hp]; rfl
theorem winR_no {p q : List UInt8} {i : Nat} (hi : i < 729) (h1 : bt p i = true) (h2 : bt q i = false) : winR p q = false := by
  cases h : winR p q
  · rfl
  · have := winR_iff.1 h i hi h1
    rw [h2] at this; cases this
def winRO (p q : List UInt8) : Bool := bOk 729 p && bOk 729 q && winR p q
theorem winR_eq {P : ByteArray} {q : List UInt8} (hp : bOk 729 P.data.toList = true) : ((bs (bitsN 729 (fun i => bt P.data.toList i && bt q i))).toList == P.toList) = winR P.data.toList q := by
  rw [Bool.eq_iff_iff, beq_iff_eq, ByteArray.toList_eq, ByteArray.toList_eq, bs_list]
  exact winR_and hp
def cntRO (l : List UInt8) : Int := if bOk 729 l then (cntR l : Int) else -1
theorem count_ofR {l : List UInt8} (h : bOk 729 l = true) : l.count 49 = cntR l := by
  unfold cntR
  rw [← cnt_bits, bits_of h]
def turnR (P : ByteArray) : Option (List UInt8) := if bOk 729 P.data.toList then some (trnT P.data.toList) else none
theorem turnR_yes {P : ByteArray} (hp : bOk 729 P.data.toList = true) : turnR P = some (trnT P.data.toList) := by unfold turnR; rw [hp]; rfl
theorem turnR_no {P : ByteArray} (hp : bOk 729 P.data.toList = false) : turnR P = none := by unfold turnR; rw [hp]; rfl
def closeR (P : ByteArray) : Option (List UInt8) := if bOk 729 P.data.toList then some (cloT P.data.toList) else none
theorem closeR_yes {P : ByteArray} (hp : bOk 729 P.data.toList = true) : closeR P = some (cloT P.data.toList) := by unfold closeR; rw [hp]; rfl
theorem closeR_no {P : ByteArray} (hp : bOk 729 P.data.toList = false) : closeR P = none := by unfold closeR; rw [hp]; rfl
def thenR (P Q : ByteArray) : Option (List UInt8) := if bOk 729 P.data.toList && bOk 729 Q.data.toList then some (cmpT P.data.toList Q.data.toList) else none
theorem thenR_yes {P Q : ByteArray} (hp : bOk 729 P.data.toList = true) (hq : bOk 729 Q.data.toList = true) : thenR P Q = some (cmpT P.data.toList Q.data.toList) := by unfold thenR; rw [hp, hq]; rfl
theorem thenR_no {P Q : ByteArray} (h : (bOk 729 P.data.toList && bOk 729 Q.data.toList) = false) : thenR P Q = none := by unfold thenR; rw [h]; rfl

end Go.Proofs.YtndlhdmpfnadcaaDoor
