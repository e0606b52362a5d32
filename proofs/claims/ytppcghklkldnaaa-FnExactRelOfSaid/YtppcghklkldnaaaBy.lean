/- Rows of bytes that a call has made: []byte(s), a store, string(b). -/
import Derived.Test.YtppcghklkldnaaaRows
import Derived.Test.YtppcghklkldnaaaKit
import Derived.Laws.IdiomStrings
import Derived.Below
namespace Go.Proofs.Ytppcghklkldnaaa
open Go.RowKit
open Pl

/-- block g begins with these bytes, which may be written -/
structure ByteRow (w : World) (g : Nat) (l : List UInt8) : Prop where
  lt : g < w.heap.size
  cell : ∀ i (h : i < l.length), w.cell? ⟨g, i, none⟩ = some (.int .u8 (l[i].toNat : Int))
  free : ∀ i, i < l.length → w.frozen? ⟨g, i, none⟩ = false
section
variable {w w' : World} {g : Nat} {l : List UInt8}
theorem ByteRow.at_ (h : ByteRow w g l) {i : Nat} {c : UInt8} (hi : i < l.length) (hc : l[i] = c) : w.cell? ⟨g, i, none⟩ = some (.int .u8 (c.toNat : Int)) := by rw [h.cell i hi, hc]
theorem ByteRow.keep (h : ByteRow w g l) (hz : w.heap.size ≤ w'.heap.size) (hb : w'.heap[g]? = w.heap[g]?) : ByteRow w' g l :=
  ⟨Nat.lt_of_lt_of_le h.lt hz, fun i hi => (World.cell?_of_block (a := ⟨g, i, none⟩) hb).trans (h.cell i hi), fun i hi => (World.frozen?_of_block (a := ⟨g, i, none⟩) hb).trans (h.free i hi)⟩
theorem ByteRow.below {B : Nat} (h : ByteRow w g l) (hb : Below B w w') (hg : g < B) : ByteRow w' g l := h.keep hb.size (hb.block g hg)
theorem ByteRow.call (h : ByteRow w g l) (hb : Below w.heap.size w w') : ByteRow w' g l := h.below hb h.lt
theorem ByteRow.far (h : ByteRow w g l) {p : Addr} (hp : g ≠ p.block) (u : Value) : ByteRow (w.setCell p u) g l :=
  h.keep (by simp [World.setCell]) (Below.heap_setCell w p u g hp)
theorem ByteRow.drewN (h : ByteRow w g l) (n : Nat) : ByteRow (w.drewN n) g l := h.keep (Nat.le_refl _) rfl
theorem ByteRow.drew (h : ByteRow w g l) : ByteRow w.drew g l := h.keep (Nat.le_refl _) rfl
theorem ByteRow.alloc (h : ByteRow w g l) (o : Obj) : ByteRow (w.alloc o) g l := h.keep (by simp) (Below.heap_alloc w o g h.lt)
theorem ByteRow.put (h : ByteRow w g l) {i : Nat} (hi : i < l.length) (c : UInt8) : ByteRow (w.setCell ⟨g, i, none⟩ (.int .u8 (c.toNat : Int))) g (l.set i c) := by
  refine ⟨by simpa [World.setCell] using h.lt, fun j hj => ?_, fun j hj => ?_⟩
  · have hj' : j < l.length := by simpa using hj
    by_cases hij : i = j
    · subst hij
      rw [List.getElem_set_self]
      exact World.cell?_setCell_same w _ _ (h.cell i hi)
    · rw [List.getElem_set_ne (by omega)]
      exact (World.cell?_setCell_other w _ _ _ (by intro e; injection e; omega)).trans (h.cell j hj')
  · rw [World.frozen?_setCell]
    exact h.free j (by simpa using hj)
end

theorem bytes_new (w : World) (s : ByteArray) : ∃ (cap : Nat) (w' : World), (convert 9 25 (.string s)).run Try.prog w = .ok (.slice (some ⟨w.heap.size, 0, none⟩) s.size cap) w' ∧ ByteRow w' w.heap.size s.data.toList ∧ Below w.heap.size w w' := by
  refine ⟨_, _, run_bytes_of_string w 9 25 5 s Try.underlying9 Try.underlying25 Try.underlying5, ?_, ?_⟩
  · generalize grownCap w s.size 0 5 = cap
    have hb : (w.drew.alloc (.cells (bytesRow s cap) 5 ((bytesRow s cap).size, (bytesRow s cap).size + 1))).heap[w.heap.size]? = some (.cells (bytesRow s cap) 5 ((bytesRow s cap).size, (bytesRow s cap).size + 1)) := by
      show (w.heap.push _)[w.heap.size]? = _
      simp
    have hz : s.size ≤ (bytesRow s cap).size := by
      have : s.data.size = s.size := rfl
      simp [bytesRow]
    refine ⟨by show w.heap.size < (w.heap.push _).size; simp, fun i hi => ?_, fun i hi => ?_⟩
    · have hi' : i < s.size := by simpa using hi
      have hd : i < s.data.size := hi'
      rw [cell_of_row _ _ i _ _ _ hb]
      simp [bytesRow, Array.getElem?_append, hi']
    · have hi' : i < s.size := by simpa using hi
      unfold World.frozen?
      rw [hb]
      simp
      omega
  · exact ((Below.refl _ _ : Below w.heap.size w w).trans (⟨rfl, rfl, rfl, Nat.le_refl _, fun _ _ => rfl⟩ : Below w.heap.size w w.drew)).alloc (Nat.le_refl _) _

theorem bytes_back {w : World} {g : Nat} {l : List UInt8} (h : ByteRow w g l) {n : Nat} (hn : n = l.length) (cap : Nat) :
    (convert 25 9 (.slice (some ⟨g, 0, none⟩) n cap)).run Try.prog w = .ok (.string ⟨l.toArray⟩) w := by
  subst hn
  exact run_convert_bytes_back w 25 9 5 ⟨g, 0, none⟩ cap l Try.underlying25 Try.underlying5 Try.underlying9 (fun j hj => by
    have : (⟨g, 0, none⟩ : Addr).add j = ⟨g, j, none⟩ := by unfold Addr.add; split <;> simp_all
    rw [this]; exact h.cell j hj)

end Go.Proofs.Ytppcghklkldnaaa
