/- strings.ReplaceAll at one letter. -/
import Derived.Test.YtccjmahhebiphaaDoorGb
import Derived.Test.YtccjmahhebiphaaDoorChecked
import Derived.Test.YtccjmahhebiphaaDoorGa
import Derived.Shelf.Strings.SplitShaped
namespace Go.Proofs
open Go.RowKit Go.Shelf Go.Lib
def Tryd.laysM155_ren : Go.Shelf.Ren := ⟨fun | 155 => 144 | 154 => 151 | 138 => 72 | 165 => 158 | 143 => 124 | 166 => 159 | 197 => 160 | 169 => 161 | 195 => 122 | 218 => 123 | 240 => 164 | 241 => 165 | 219 => 145 | 260 => 166 | 276 => 167 | 277 => 168 | 217 => 152 | 225 => 153 | 224 => 154 | 267 => 155 | 266 => 162 | 314 => 163 | n => n, fun | 9 => 9 | 3 => 3 | 4 => 4 | 72 => 127 | 0 => 0 | 76 => 131 | 105 => 133 | 21 => 21 | 5 => 5 | 70 => 125 | 20 => 20 | 37 => 22 | 75 => 130 | 127 => 139 | 164 => 140 | 46 => 122 | 119 => 143 | 139 => 146 | 138 => 145 | 146 => 137 | 51 => 136 | 80 => 135 | n => n, fun | 1 => 1 | 3 => 2 | 4 => 3 | n => n⟩
theorem Tryd.laysM155 : Go.Proofs.LaysM.n155 Tryd.prog Tryd.laysM155_ren := {
  mixed := by kernel_rfl
  f138 := Tryd.func72.trans (congrArg some (by kernel_rfl))
  f143 := Tryd.func124.trans (congrArg some (by kernel_rfl))
  f154 := Tryd.func151.trans (congrArg some (by kernel_rfl))
  f155 := Tryd.func144.trans (congrArg some (by kernel_rfl))
  f165 := Tryd.func158.trans (congrArg some (by kernel_rfl))
  f166 := Tryd.func159.trans (congrArg some (by kernel_rfl))
  f169 := Tryd.func161.trans (congrArg some (by kernel_rfl))
  f195 := Tryd.func122.trans (congrArg some (by kernel_rfl))
  f197 := Tryd.func160.trans (congrArg some (by kernel_rfl))
  f217 := Tryd.func152.trans (congrArg some (by kernel_rfl))
  f218 := Tryd.func123.trans (congrArg some (by kernel_rfl))
  f219 := Tryd.func145.trans (congrArg some (by kernel_rfl))
  f224 := Tryd.func154.trans (congrArg some (by kernel_rfl))
  f225 := Tryd.func153.trans (congrArg some (by kernel_rfl))
  f240 := Tryd.func164.trans (congrArg some (by kernel_rfl))
  f241 := Tryd.func165.trans (congrArg some (by kernel_rfl))
  f260 := Tryd.func166.trans (congrArg some (by kernel_rfl))
  f266 := Tryd.func162.trans (congrArg some (by kernel_rfl))
  f267 := Tryd.func155.trans (congrArg some (by kernel_rfl))
  f276 := Tryd.func167.trans (congrArg some (by kernel_rfl))
  f277 := Tryd.func168.trans (congrArg some (by kernel_rfl))
  f314 := Tryd.func163.trans (congrArg some (by kernel_rfl))
  t0 := Tryd.underlying0
  a0 := Tryd.isAgg0
  z0 := Tryd.sizeOf0
  v0 := Tryd.zeroValue0
  t3 := Tryd.underlying3
  a3 := Tryd.isAgg3
  z3 := Tryd.sizeOf3
  v3 := Tryd.zeroValue3
  t4 := Tryd.underlying4
  a4 := Tryd.isAgg4
  z4 := Tryd.sizeOf4
  v4 := Tryd.zeroValue4
  t5 := Tryd.underlying5
  a5 := Tryd.isAgg5
  z5 := Tryd.sizeOf5
  v5 := Tryd.zeroValue5
  t9 := Tryd.underlying9
  a9 := Tryd.isAgg9
  z9 := Tryd.sizeOf9
  v9 := Tryd.zeroValue9
  t20 := Tryd.underlying20
  a20 := Tryd.isAgg20
  z20 := Tryd.sizeOf20
  v20 := Tryd.zeroValue20
  t21 := Tryd.underlying21
  a21 := Tryd.isAgg21
  z21 := Tryd.sizeOf21
  v21 := Tryd.zeroValue21
  t37 := Tryd.underlying22
  a37 := Tryd.isAgg22
  z37 := Tryd.sizeOf22
  v37 := Tryd.zeroValue22
  t46 := Tryd.underlying122
  a46 := Tryd.isAgg122
  z46 := Tryd.sizeOf122
  v46 := Tryd.zeroValue122
  t51 := Tryd.underlying136
  a51 := Tryd.isAgg136
  z51 := Tryd.sizeOf136
  v51 := Tryd.zeroValue136
  t70 := Tryd.underlying125
  a70 := Tryd.isAgg125
  z70 := Tryd.sizeOf125
  v70 := Tryd.zeroValue125
  t72 := Tryd.underlying127
  a72 := Tryd.isAgg127
  z72 := Tryd.sizeOf127
  v72 := Tryd.zeroValue127
  t75 := Tryd.underlying130
  a75 := Tryd.isAgg130
  z75 := Tryd.sizeOf130
  v75 := Tryd.zeroValue130
  t76 := Tryd.underlying131
  a76 := Tryd.isAgg131
  z76 := Tryd.sizeOf131
  v76 := Tryd.zeroValue131
  t105 := Tryd.underlying133
  a105 := Tryd.isAgg133
  z105 := Tryd.sizeOf133
  v105 := Tryd.zeroValue133
  t119 := Tryd.underlying143
  a119 := Tryd.isAgg143
  z119 := Tryd.sizeOf143
  t127 := Tryd.underlying139
  a127 := Tryd.isAgg139
  z127 := Tryd.sizeOf139
  v127 := Tryd.zeroValue139
  t138 := Tryd.underlying145
  a138 := Tryd.isAgg145
  z138 := Tryd.sizeOf145
  v138 := Tryd.zeroValue145
  t139 := Tryd.underlying146
  a139 := Tryd.isAgg146
  z139 := Tryd.sizeOf146
  v139 := Tryd.zeroValue146
  t146 := Tryd.underlying137
  a146 := Tryd.isAgg137
  z146 := Tryd.sizeOf137
  v146 := Tryd.zeroValue137
  t164 := Tryd.underlying140
  a164 := Tryd.isAgg140
  z164 := Tryd.sizeOf140
  v164 := Tryd.zeroValue140
  g1 := by kernel_rfl
  g3 := by kernel_rfl
  g4 := by kernel_rfl
  t80 := Tryd.underlying135
  a80 := Tryd.isAgg135
  z80 := Tryd.sizeOf135
  v80 := Tryd.zeroValue135
  i0 := by kernel_rfl
  i3 := by kernel_rfl
  i4 := by kernel_rfl
  i5 := by kernel_rfl
  i9 := by kernel_rfl
  i20 := by kernel_rfl
  i21 := by kernel_rfl
  i37 := by kernel_rfl
  i46 := by kernel_rfl
  i51 := by kernel_rfl
  i70 := by kernel_rfl
  i72 := by kernel_rfl
  i75 := by kernel_rfl
  i76 := by kernel_rfl
  i80 := by kernel_rfl
  i105 := by kernel_rfl
  i127 := by kernel_rfl
  i138 := by kernel_rfl
  i139 := by kernel_rfl
  i146 := by kernel_rfl
  i164 := by kernel_rfl
  m1 := by kernel_rfl
  s1_3 := fun w h => Go.Proofs.cell_of_shapedOpen_int (zero := #[.int .i64 0]) (t := 3) h (of_decide_eq_true (by kernel_rfl)) (by kernel_rfl) rfl (by kernel_rfl) (by kernel_rfl) Tryd.underlying3
  m3 := by kernel_rfl
  m4 := by kernel_rfl }
theorem Tryd.extra155 : Builder.Extra Tryd.prog Tryd.laysM155_ren := {
  sizeBuilder := by kernel_rfl
  liesBuilder := by kernel_rfl
  t5 := Tryd.underlying5
  a5 := Tryd.isAgg5
  z5 := Tryd.sizeOf5
  v5 := Tryd.zeroValue5
  infoByte := by kernel_rfl
  cellsByte := by kernel_rfl
  sizeByte := by kernel_rfl
  neB5 := by decide }
namespace YtccjmahhebiphaaDoor
open Pl

theorem sub_len (v : UInt8) (b : List UInt8) : ∀ l : List UInt8, (sub v b l).length ≤ l.length * (b.length + 1)
  | [] => by simp [sub]
  | c :: l => by
    have ih := sub_len v b l
    rw [sub_cons, List.length_append, List.length_cons, Nat.add_mul]
    split
    · omega
    · simp only [List.length_singleton]; omega
theorem sub_same (v : UInt8) : ∀ l : List UInt8, sub v [v] l = l
  | [] => rfl
  | c :: l => by
    rw [sub_cons, sub_same v l]
    split
    · next h => rw [h]; rfl
    · rfl
theorem replaceK_ne {c d : UInt8} (h : d ≠ c) (new l : List UInt8) (k : Nat) : Lib.replaceK [c] new k (d :: l) = d :: Lib.replaceK [c] new k l := by
  have hp : ([c] : List UInt8).isPrefixOf (d :: l) = false := by simp [List.isPrefixOf, Ne.symm h]
  have hix : Lib.index (d :: l) [c] = if Lib.index l [c] == -1 then -1 else Lib.index l [c] + 1 := by rw [Lib.index, hp]; simp
  cases k with
  | zero => rfl
  | succ k =>
    by_cases hm : Lib.index l [c] = -1
    · rw [Lib.replaceK, Lib.replaceK, hix]
      simp [hm]
    · have hge := Lib.index_ge l [c]
      obtain ⟨j, hj⟩ : ∃ j : Nat, Lib.index l [c] = j := ⟨(Lib.index l [c]).toNat, by omega⟩
      have hix' : Lib.index (d :: l) [c] = ((j + 1 : Nat) : Int) := by rw [hix, if_neg (fun e => hm (beq_iff_eq.1 e)), hj]; omega
      rw [Lib.replaceK_hit _ _ _ _ _ hix', Lib.replaceK_hit _ _ _ _ _ hj]
      simp
theorem replaceK_sub (c : UInt8) (new : List UInt8) : ∀ l : List UInt8, Lib.replaceK [c] new (Lib.count l [c]) l = sub c new l
  | [] => by rw [Lib.count_one]; rfl
  | d :: l => by
    rw [sub_cons]
    by_cases h : d = c
    · subst h
      have hix : Lib.index (d :: l) [d] = ((0 : Nat) : Int) := by rw [Lib.index]; simp [List.isPrefixOf]
      rw [Lib.count_cons_eq, Nat.add_comm 1, Lib.replaceK_hit _ _ _ _ _ hix, if_pos rfl]
      simp [replaceK_sub d new l]
    · rw [Lib.count_cons_ne _ _ _ h, replaceK_ne h, if_neg h, replaceK_sub c new l]
      rfl
theorem replaceAll_sub (c : UInt8) (new l : List UInt8) : Lib.replaceAll l [c] new = sub c new l := by
  unfold Lib.replaceAll Lib.replace
  split
  · next h =>
    rw [← beq_iff_eq.1 h, sub_same]
  · have hn : Lib.replaceNum l [c] (-1) = Lib.count l [c] := by unfold Lib.replaceNum; rw [if_pos (.inl (by decide))]
    rw [hn, replaceK_sub]

/-- where the library keeps a number -/
def most : Addr := ⟨Tryd.laysM155_ren.g 1, 0, none⟩
/-- that place holds a number, and lies among what was there -/
def Most (w : World) : Prop := ∃ m, w.cell? most = some (.int .i64 m)
theorem most_of_shape {w : World} (h : w.ShapedOpen Tryd.prog) : Most w := Tryd.laysM155.s1_3 w h
theorem Most.lt {w : World} (h : Most w) : most.block < w.heap.size := by
  obtain ⟨m, hm⟩ := h
  exact World.block_lt_of_cell? w _ hm
theorem Most.below {w w' : World} (h : Most w) (hb : Below w.heap.size w w') : Most w' := by
  have hl := h.lt
  obtain ⟨m, hm⟩ := h
  exact ⟨m, (hb.cell hl).trans hm⟩
theorem replace_one (S B : ByteArray) (c : UInt8) (hS : S.size ≤ 1000000) (hB : B.size ≤ 1000000) (w : World) (hm : Most w) :
    Calls Tryd.prog 144 #[.string S, .string ⟨#[c]⟩, .string B] w fun e w' => e = .returned (.string (bs (sub c B.data.toList S.data.toList))) ∧ Below w.heap.size w w' := by
  obtain ⟨m, hm⟩ := hm
  have hc : Lib.countB S ⟨#[c]⟩ ≤ 1000000 := by
    have := Lib.countB_mul_le ⟨#[c]⟩ (Nat.le_refl 1) S.size S (Nat.le_refl _)
    have h1 : (⟨#[c]⟩ : ByteArray).size = 1 := rfl
    rw [h1] at this
    omega
  have hl : Lib.countB S ⟨#[c]⟩ * B.size ≤ 1000000 * 1000000 := Nat.mul_le_mul hc hB
  refine (Any.strings_ReplaceAll { Tryd.laysM155 with } Tryd.extra155 S ⟨#[c]⟩ B m w (by omega) hm (Nat.le_refl 1) (by omega)).mono ?_
  rintro e w' ⟨rfl, hb⟩
  refine ⟨?_, hb⟩
  have := replaceAll_sub c B.data.toList S.data.toList
  show Ending.returned (.string ⟨(Lib.replaceAll S.data.toList [c] B.data.toList).toArray⟩) = _
  rw [this]
  rfl
end YtccjmahhebiphaaDoor
end Go.Proofs
