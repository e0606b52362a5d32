/- strings.ReplaceAll at one letter. -/
import Derived.Test.YtcdcgllodggebaaDoorKit
import Derived.Test.YtcdcgllodggebaaDoorChecked
import Derived.Test.YtcdcgllodggebaaDoorPlf
import Derived.Test.YtcdcgllodggebaaDoorBs
import Derived.Ground.NamesProg
import Derived.Shelf.Lay
import Derived.Shelf.Strings.SplitShaped
namespace Go.Proofs
open Go.RowKit Go.Shelf Go.Lib
shelf_lay LaysM.n155 Nm 155 at Tryd as Tryd.laysM155
theorem Tryd.extra155 : Builder.Extra Tryd.prog Tryd.laysM155_ren where
  sizeBuilder := by kernel_rfl
  liesBuilder := by kernel_rfl
  t5 := Tryd.laysM155.t5
  a5 := Tryd.laysM155.a5
  z5 := Tryd.laysM155.z5
  v5 := Tryd.laysM155.v5
  infoByte := by kernel_rfl
  cellsByte := by kernel_rfl
  sizeByte := by kernel_rfl
  neB5 := by decide
namespace YtcdcgllodggebaaDoor
open Pl

theorem sub_len (v : UInt8) (b : List UInt8) : ∀ l : List UInt8, (sub v b l).length ≤ l.length * (b.length + 1)
  | [] => by simp [sub]
  | c :: l => by
    have ih := sub_len v b l
    rw [sub_cons, List.length_append, List.length_cons, Nat.add_mul]
    split
    · omega
    · simp only [List.length_singleton]; omega
theorem sub_same (v : UInt8) : ∀ l : List UInt8, sub v [v] l = l
  | [] => rfl
  | c :: l => by
    rw [sub_cons, sub_same v l]
    split
    · next h => rw [h]; rfl
    · rfl
theorem replaceK_ne {c d : UInt8} (h : d ≠ c) (new l : List UInt8) (k : Nat) : Lib.replaceK [c] new k (d :: l) = d :: Lib.replaceK [c] new k l := by
  have hp : ([c] : List UInt8).isPrefixOf (d :: l) = false := by simp [List.isPrefixOf, Ne.symm h]
  have hix : Lib.index (d :: l) [c] = if Lib.index l [c] == -1 then -1 else Lib.index l [c] + 1 := by rw [Lib.index, hp]; simp
  cases k with
  | zero => rfl
  | succ k =>
    by_cases hm : Lib.index l [c] = -1
    · rw [Lib.replaceK, Lib.replaceK, hix]
      simp [hm]
    · have hge := Lib.index_ge l [c]
      obtain ⟨j, hj⟩ : ∃ j : Nat, Lib.index l [c] = j := ⟨(Lib.index l [c]).toNat, by omega⟩
      have hix' : Lib.index (d :: l) [c] = ((j + 1 : Nat) : Int) := by rw [hix, if_neg (fun e => hm (beq_iff_eq.1 e)), hj]; omega
      rw [Lib.replaceK_hit _ _ _ _ _ hix', Lib.replaceK_hit _ _ _ _ _ hj]
      simp
theorem replaceK_sub (c : UInt8) (new : List UInt8) : ∀ l : List UInt8, Lib.replaceK [c] new (Lib.count l [c]) l = sub c new l
  | [] => by rw [Lib.count_one]; rfl
  | d :: l => by
    rw [sub_cons]
    by_cases h : d = c
    · subst h
      have hix : Lib.index (d :: l) [d] = ((0 : Nat) : Int) := by rw [Lib.index]; simp [List.isPrefixOf]
      rw [Lib.count_cons_eq, Nat.add_comm 1, Lib.replaceK_hit _ _ _ _ _ hix, if_pos rfl]
      simp [replaceK_sub d new l]
    · rw [Lib.count_cons_ne _ _ _ h, replaceK_ne h, if_neg h, replaceK_sub c new l]
      rfl
theorem replaceAll_sub (c : UInt8) (new l : List UInt8) : Lib.replaceAll l [c] new = sub c new l := by
  unfold Lib.replaceAll Lib.replace
  split
  · next h =>
    rw [← beq_iff_eq.1 h, sub_same]
  · have hn : Lib.replaceNum l [c] (-1) = Lib.count l [c] := by unfold Lib.replaceNum; rw [if_pos (.inl (by decide))]
    rw [hn, replaceK_sub]

/-- where the library keeps a number -/
def most : Addr := ⟨Tryd.laysM155_ren.g 1, 0, none⟩
/-- that place holds a number, and lies among what was there -/
def Most (w : World) : Prop := ∃ m, w.cell? most = some (.int .i64 m)
theorem most_of_shape {w : World} (h : w.ShapedOpen Tryd.prog) : Most w := Tryd.laysM155.s1_3 w h
theorem Most.lt {w : World} (h : Most w) : most.block < w.heap.size := by
  obtain ⟨m, hm⟩ := h
  exact World.block_lt_of_cell? w _ hm
theorem Most.below {w w' : World} (h : Most w) (hb : Below w.heap.size w w') : Most w' := by
  have hl := h.lt
  obtain ⟨m, hm⟩ := h
  exact ⟨m, (hb.cell hl).trans hm⟩
theorem replace_one (S B : ByteArray) (c : UInt8) (hS : S.size ≤ 1000000) (hB : B.size ≤ 1000000) (w : World) (hm : Most w) :
    Calls Tryd.prog 41 #[.string S, .string ⟨#[c]⟩, .string B] w fun e w' => e = .returned (.string (bs (sub c B.data.toList S.data.toList))) ∧ Below w.heap.size w w' := by
  obtain ⟨m, hm⟩ := hm
  have hc : Lib.countB S ⟨#[c]⟩ ≤ 1000000 := by
    have := Lib.countB_mul_le ⟨#[c]⟩ (Nat.le_refl 1) S.size S (Nat.le_refl _)
    have h1 : (⟨#[c]⟩ : ByteArray).size = 1 := rfl
    rw [h1] at this
    omega
  have hl : Lib.countB S ⟨#[c]⟩ * B.size ≤ 1000000 * 1000000 := Nat.mul_le_mul hc hB
  refine (Any.strings_ReplaceAll { Tryd.laysM155 with } Tryd.extra155 S ⟨#[c]⟩ B m w (by omega) hm (Nat.le_refl 1) (by omega)).mono ?_
  rintro e w' ⟨rfl, hb⟩
  refine ⟨?_, hb⟩
  have := replaceAll_sub c B.data.toList S.data.toList
  show Ending.returned (.string ⟨(Lib.replaceAll S.data.toList [c] B.data.toList).toArray⟩) = _
  rw [this]
  rfl
end YtcdcgllodggebaaDoor
end Go.Proofs
