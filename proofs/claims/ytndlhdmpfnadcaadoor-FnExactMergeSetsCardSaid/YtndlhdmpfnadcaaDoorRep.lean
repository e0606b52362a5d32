/- strings.ReplaceAll at one letter. -/
import Derived.Test.YtndlhdmpfnadcaaDoorGb
import Derived.Test.YtndlhdmpfnadcaaDoorChecked
import Derived.Test.YtndlhdmpfnadcaaDoorGa
import Derived.Shelf.Strings.SplitShaped
namespace Go.Proofs
open Go.RowKit Go.Shelf Go.Lib
def Tryd.laysM155_ren : Go.Shelf.Ren := ⟨fun | 155 => 32 | 154 => 43 | 138 => 57 | 165 => 24 | 143 => 58 | 166 => 25 | 197 => 59 | 169 => 26 | 195 => 66 | 218 => 67 | 240 => 34 | 241 => 35 | 219 => 68 | 260 => 69 | 276 => 48 | 277 => 49 | 217 => 72 | 225 => 73 | 224 => 74 | 267 => 75 | 266 => 76 | 314 => 77 | n => n, fun | 9 => 9 | 3 => 3 | 4 => 4 | 72 => 52 | 0 => 0 | 76 => 56 | 105 => 92 | 21 => 21 | 5 => 5 | 70 => 50 | 20 => 20 | 37 => 48 | 75 => 55 | 127 => 68 | 164 => 80 | 46 => 100 | 119 => 105 | 139 => 108 | 138 => 107 | 146 => 111 | 51 => 97 | 80 => 58 | n => n, fun | 1 => 1 | 3 => 2 | 4 => 3 | n => n⟩
theorem Tryd.laysM155 : Go.Proofs.LaysM.n155 Tryd.prog Tryd.laysM155_ren := {
  mixed := by kernel_rfl
  f138 := Tryd.func57.trans (congrArg some (by kernel_rfl))
  f143 := Tryd.func58.trans (congrArg some (by kernel_rfl))
  f154 := Tryd.func43.trans (congrArg some (by kernel_rfl))
  f155 := Tryd.func32.trans (congrArg some (by kernel_rfl))
  f165 := Tryd.func24.trans (congrArg some (by kernel_rfl))
  f166 := Tryd.func25.trans (congrArg some (by kernel_rfl))
  f169 := Tryd.func26.trans (congrArg some (by kernel_rfl))
  f195 := Tryd.func66.trans (congrArg some (by kernel_rfl))
  f197 := Tryd.func59.trans (congrArg some (by kernel_rfl))
  f217 := Tryd.func72.trans (congrArg some (by kernel_rfl))
  f218 := Tryd.func67.trans (congrArg some (by kernel_rfl))
  f219 := Tryd.func68.trans (congrArg some (by kernel_rfl))
  f224 := Tryd.func74.trans (congrArg some (by kernel_rfl))
  f225 := Tryd.func73.trans (congrArg some (by kernel_rfl))
  f240 := Tryd.func34.trans (congrArg some (by kernel_rfl))
  f241 := Tryd.func35.trans (congrArg some (by kernel_rfl))
  f260 := Tryd.func69.trans (congrArg some (by kernel_rfl))
  f266 := Tryd.func76.trans (congrArg some (by kernel_rfl))
  f267 := Tryd.func75.trans (congrArg some (by kernel_rfl))
  f276 := Tryd.func48.trans (congrArg some (by kernel_rfl))
  f277 := Tryd.func49.trans (congrArg some (by kernel_rfl))
  f314 := Tryd.func77.trans (congrArg some (by kernel_rfl))
  t0 := Tryd.underlying0
  a0 := Tryd.isAgg0
  z0 := Tryd.sizeOf0
  v0 := Tryd.zeroValue0
  t3 := Tryd.underlying3
  a3 := Tryd.isAgg3
  z3 := Tryd.sizeOf3
  v3 := Tryd.zeroValue3
  t4 := Tryd.underlying4
  a4 := Tryd.isAgg4
  z4 := Tryd.sizeOf4
  v4 := Tryd.zeroValue4
  t5 := Tryd.underlying5
  a5 := Tryd.isAgg5
  z5 := Tryd.sizeOf5
  v5 := Tryd.zeroValue5
  t9 := Tryd.underlying9
  a9 := Tryd.isAgg9
  z9 := Tryd.sizeOf9
  v9 := Tryd.zeroValue9
  t20 := Tryd.underlying20
  a20 := Tryd.isAgg20
  z20 := Tryd.sizeOf20
  v20 := Tryd.zeroValue20
  t21 := Tryd.underlying21
  a21 := Tryd.isAgg21
  z21 := Tryd.sizeOf21
  v21 := Tryd.zeroValue21
  t37 := Tryd.underlying48
  a37 := Tryd.isAgg48
  z37 := Tryd.sizeOf48
  v37 := Tryd.zeroValue48
  t46 := Tryd.underlying100
  a46 := Tryd.isAgg100
  z46 := Tryd.sizeOf100
  v46 := Tryd.zeroValue100
  t51 := Tryd.underlying97
  a51 := Tryd.isAgg97
  z51 := Tryd.sizeOf97
  v51 := Tryd.zeroValue97
  t70 := Tryd.underlying50
  a70 := Tryd.isAgg50
  z70 := Tryd.sizeOf50
  v70 := Tryd.zeroValue50
  t72 := Tryd.underlying52
  a72 := Tryd.isAgg52
  z72 := Tryd.sizeOf52
  v72 := Tryd.zeroValue52
  t75 := Tryd.underlying55
  a75 := Tryd.isAgg55
  z75 := Tryd.sizeOf55
  v75 := Tryd.zeroValue55
  t76 := Tryd.underlying56
  a76 := Tryd.isAgg56
  z76 := Tryd.sizeOf56
  v76 := Tryd.zeroValue56
  t105 := Tryd.underlying92
  a105 := Tryd.isAgg92
  z105 := Tryd.sizeOf92
  v105 := Tryd.zeroValue92
  t119 := Tryd.underlying105
  a119 := Tryd.isAgg105
  z119 := Tryd.sizeOf105
  t127 := Tryd.underlying68
  a127 := Tryd.isAgg68
  z127 := Tryd.sizeOf68
  v127 := Tryd.zeroValue68
  t138 := Tryd.underlying107
  a138 := Tryd.isAgg107
  z138 := Tryd.sizeOf107
  v138 := Tryd.zeroValue107
  t139 := Tryd.underlying108
  a139 := Tryd.isAgg108
  z139 := Tryd.sizeOf108
  v139 := Tryd.zeroValue108
  t146 := Tryd.underlying111
  a146 := Tryd.isAgg111
  z146 := Tryd.sizeOf111
  v146 := Tryd.zeroValue111
  t164 := Tryd.underlying80
  a164 := Tryd.isAgg80
  z164 := Tryd.sizeOf80
  v164 := Tryd.zeroValue80
  g1 := by kernel_rfl
  g3 := by kernel_rfl
  g4 := by kernel_rfl
  t80 := Tryd.underlying58
  a80 := Tryd.isAgg58
  z80 := Tryd.sizeOf58
  v80 := Tryd.zeroValue58
  i0 := by kernel_rfl
  i3 := by kernel_rfl
  i4 := by kernel_rfl
  i5 := by kernel_rfl
  i9 := by kernel_rfl
  i20 := by kernel_rfl
  i21 := by kernel_rfl
  i37 := by kernel_rfl
  i46 := by kernel_rfl
  i51 := by kernel_rfl
  i70 := by kernel_rfl
  i72 := by kernel_rfl
  i75 := by kernel_rfl
  i76 := by kernel_rfl
  i80 := by kernel_rfl
  i105 := by kernel_rfl
  i127 := by kernel_rfl
  i138 := by kernel_rfl
  i139 := by kernel_rfl
  i146 := by kernel_rfl
  i164 := by kernel_rfl
  m1 := by kernel_rfl
  s1_3 := fun w h => Go.Proofs.cell_of_shapedOpen_int (zero := #[.int .i64 0]) (t := 3) h (of_decide_eq_true (by kernel_rfl)) (by kernel_rfl) rfl (by kernel_rfl) (by kernel_rfl) Tryd.underlying3
  m3 := by kernel_rfl
  m4 := by kernel_rfl }
theorem Tryd.extra155 : Builder.Extra Tryd.prog Tryd.laysM155_ren := {
  sizeBuilder := by kernel_rfl
  liesBuilder := by kernel_rfl
  t5 := Tryd.underlying5
  a5 := Tryd.isAgg5
  z5 := Tryd.sizeOf5
  v5 := Tryd.zeroValue5
  infoByte := by kernel_rfl
  cellsByte := by kernel_rfl
  sizeByte := by kernel_rfl
  neB5 := by decide }
namespace YtndlhdmpfnadcaaDoor
open Pl

theorem sub_len (v : UInt8) (b : List UInt8) : ∀ l : List UInt8, (sub v b l).length ≤ l.length * (b.length + 1)
  | [] => by simp [sub]
  | c :: l => by
    have ih := sub_len v b l
    rw [sub_cons, List.length_append, List.length_cons, Nat.add_mul]
    split
    · omega
    · simp only [List.length_singleton]; omega
theorem sub_same (v : UInt8) : ∀ l : List UInt8, sub v [v] l = l
  | [] => rfl
  | c :: l => by
    rw [sub_cons, sub_same v l]
    split
    · next h => rw [h]; rfl
    · rfl
theorem replaceK_ne {c d : UInt8} (h : d ≠ c) (new l : List UInt8) (k : Nat) : Lib.replaceK [c] new k (d :: l) = d :: Lib.replaceK [c] new k l := by
  have hp : ([c] : List UInt8).isPrefixOf (d :: l) = false := by simp [List.isPrefixOf, Ne.symm h]
  have hix : Lib.index (d :: l) [c] = if Lib.index l [c] == -1 then -1 else Lib.index l [c] + 1 := by rw [Lib.index, hp]; simp
  cases k with
  | zero => rfl
  | succ k =>
    by_cases hm : Lib.index l [c] = -1
    · rw [Lib.replaceK, Lib.replaceK, hix]
      simp [hm]
    · have hge := Lib.index_ge l [c]
      obtain ⟨j, hj⟩ : ∃ j : Nat, Lib.index l [c] = j := ⟨(Lib.index l [c]).toNat, by omega⟩
      have hix' : Lib.index (d :: l) [c] = ((j + 1 : Nat) : Int) := by rw [hix, if_neg (fun e => hm (beq_iff_eq.1 e)), hj]; omega
      rw [Lib.replaceK_hit _ _ _ _ _ hix', Lib.replaceK_hit _ _ _ _ _ hj]
      simp
theorem replaceK_sub (c : UInt8) (new : List UInt8) : ∀ l : List UInt8, Lib.replaceK [c] new (Lib.count l [c]) l = sub c new l
  | [] => by rw [Lib.count_one]; rfl
  | d :: l => by
    rw [sub_cons]
    by_cases h : d = c
    · subst h
      have hix : Lib.index (d :: l) [d] = ((0 : Nat) : Int) := by rw [Lib.index]; simp [List.isPrefixOf]
      rw [Lib.count_cons_eq, Nat.add_comm 1, Lib.replaceK_hit _ _ _ _ _ hix, if_pos rfl]
      simp [replaceK_sub d new l]
    · rw [Lib.count_cons_ne _ _ _ h, replaceK_ne h, if_neg h, replaceK_sub c new l]
      rfl
theorem replaceAll_sub (c : UInt8) (new l : List UInt8) : Lib.replaceAll l [c] new = sub c new l := by
  unfold Lib.replaceAll Lib.replace
  split
  · next h =>
    rw [← beq_iff_eq.1 h, sub_same]
  · have hn : Lib.replaceNum l [c] (-1) = Lib.count l [c] := by unfold Lib.replaceNum; rw [if_pos (.inl (by decide))]
    rw [hn, replaceK_sub]

/-- where the library keeps a number -/
def most : Addr := ⟨Tryd.laysM155_ren.g 1, 0, none⟩
/-- that place holds a number, and lies among what was there -/
def Most (w : World) : Prop := ∃ m, w.cell? most = some (.int .i64 m)
theorem most_of_shape {w : World} (h : w.ShapedOpen Tryd.prog) : Most w := Tryd.laysM155.s1_3 w h
theorem Most.lt {w : World} (h : Most w) : most.block < w.heap.size := by
  obtain ⟨m, hm⟩ := h
  exact World.block_lt_of_cell? w _ hm
theorem Most.below {w w' : World} (h : Most w) (hb : Below w.heap.size w w') : Most w' := by
  have hl := h.lt
  obtain ⟨m, hm⟩ := h
  exact ⟨m, (hb.cell hl).trans hm⟩
theorem replace_one (S B : ByteArray) (c : UInt8) (hS : S.size ≤ 1000000) (hB : B.size ≤ 1000000) (w : World) (hm : Most w) :
    Calls Tryd.prog 32 #[.string S, .string ⟨#[c]⟩, .string B] w fun e w' => e = .returned (.string (bs (sub c B.data.toList S.data.toList))) ∧ Below w.heap.size w w' := by
  obtain ⟨m, hm⟩ := hm
  have hc : Lib.countB S ⟨#[c]⟩ ≤ 1000000 := by
    have := Lib.countB_mul_le ⟨#[c]⟩ (Nat.le_refl 1) S.size S (Nat.le_refl _)
    have h1 : (⟨#[c]⟩ : ByteArray).size = 1 := rfl
    rw [h1] at this
    omega
  have hl : Lib.countB S ⟨#[c]⟩ * B.size ≤ 1000000 * 1000000 := Nat.mul_le_mul hc hB
  refine (Any.strings_ReplaceAll { Tryd.laysM155 with } Tryd.extra155 S ⟨#[c]⟩ B m w (by omega) hm (Nat.le_refl 1) (by omega)).mono ?_
  rintro e w' ⟨rfl, hb⟩
  refine ⟨?_, hb⟩
  have := replaceAll_sub c B.data.toList S.data.toList
  show Ending.returned (.string ⟨(Lib.replaceAll S.data.toList [c] B.data.toList).toArray⟩) = _
  rw [this]
  rfl
end YtndlhdmpfnadcaaDoor
end Go.Proofs
