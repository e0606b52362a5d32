/- The head and the parts of a program: the reference's. -/
import Derived.Test.YtehpmglbbalelaaSpc
import Derived.Test.YtehpmglbbalelaaGa
import Derived.Test.YtehpmglbbalelaaGb
import Derived.Maps.AppendAt
import Derived.Laws.OwnMore
import Derived.Deep.LoopGhost
namespace Go.Proofs.Ytehpmglbbalelaa
open Go.RowKit
open Pl

/-- what a node's cells hold -/
theorem In.op {w : World} {k : Nd} {b : Nat} (h : In w k b) : b < w.heap.size ∧ w.cell? ⟨b, 0, none⟩ = some (.int .u8 k.op.toNat) ∧ w.cell? ⟨b, 2, none⟩ = some (.string (bs k.text)) := by
  cases k with
  | n0 o => exact ⟨h.1, h.2.1, h.2.2.2⟩
  | n1 o x => obtain ⟨g, c, p, h, _⟩ := h; exact ⟨h.1, h.2.1, h.2.2.2⟩
  | n2 o x y => obtain ⟨g, c, p, q, h, _⟩ := h; exact ⟨h.1, h.2.1, h.2.2.2⟩
  | n3 o x y z => obtain ⟨g, c, p, q, r, h, _⟩ := h; exact ⟨h.1, h.2.1, h.2.2.2⟩
theorem ownsRow_drewN {w : World} {base : Nat} {e : TypeId} {size : Nat} {v : Value} {n : Nat} {xs : List Value} (h : w.ownsRow base e size v n xs) (m : Nat) : (w.drewN m).ownsRow base e size v n xs := h
theorem extract_nd {S : ByteArray} {p n : Nat} {l r : List UInt8} (h : S.data.toList.drop p = l ++ r) (hn : n = p + l.length) : S.extract p n = bs l := by
  subst hn
  apply ByteArray.ext
  apply Array.toList_inj.1
  simp only [bs, ByteArray.data_extract, Array.toList_extract, List.extract_eq_take_drop]
  rw [h, show p + l.length - p = l.length by omega]
  simp

set_option maxHeartbeats 1000000 in
theorem ProgramValidS_free (S : ByteArray) (w : World) : Calls Try.prog 9 #[.string S] w fun e w' => (e = .returned (.bool (whole false 2 200 S.data.toList).isSome) ∧ ∃ m, w' = w.drewN m) := by
  have hW := endOf_whole (wd := false) (so := 2) (most := 200) (l := S.data.toList) (by omega)
  rw [len_S] at hW
  by_cases hbig : S.size ≤ 200
  · have E := Lib.hid (prog_all S (by omega) false 0 w (by omega) (by omega))
    simp only [hbig, decide_true, Bool.true_and] at hW
    rw [← hW]
    clear hW
    generalize endOf false 2 S.data.toList 0 = z at *
    go_enter Try.func9, Try.ntmps9
    go_wp2_with fail
    refine E.out.mono ?_
    rintro e w' ⟨rfl, m, rfl⟩
    go_wp2_with fail
    go_ret
    exact ⟨rfl, _, rfl⟩
  · simp only [hbig, decide_false, Bool.false_and] at hW
    rw [← hW]
    clear hW
    go_enter Try.func9, Try.ntmps9
    go_wp2_with fail
    go_ret
    exact ⟨rfl, 0, rfl⟩
theorem ProgramValidS_any (S : ByteArray) (w : World) (_ : S.size ≤ 1000000000000) : Calls Try.prog 9 #[.string S] w fun e w' => (e = .returned (.bool (whole false 2 200 S.data.toList).isSome) ∧ ∃ m, w' = w.drewN m) := ProgramValidS_free S w
def sv (k : Nd) : Value := .string (bs k.text)
/-- the parts, in a row that the call has made -/
def PartsPost (w : World) (ps : List Nd) (e : Ending) (w' : World) : Prop :=
  ∃ v, e = .returned v ∧ w'.ownsRow w.heap.size 9 1 v ps.length (ps.map sv) ∧ Below w.heap.size w w'
theorem str_info : (Try.prog.info? 9).map (fun i => (i.zero, i.size, i.bytes)) = some (some (.string ⟨#[]⟩), 1, 16) := by kernel_rfl
theorem one_new (W : World) (a : Value) (t : TypeId) : ∀ j u, [a][j]? = some u → (W.alloc (.cells #[a] t)).cell? ((⟨W.heap.size, 0, none⟩ : Addr).add j) = some u := by
  intro j u h
  have e : (⟨W.heap.size, 0, none⟩ : Addr).add j = ⟨W.heap.size, j, none⟩ := by unfold Addr.add; split <;> simp_all
  rw [e, (Blk.new W t #[a]).cell j]
  simpa using h

end Go.Proofs.Ytehpmglbbalelaa
