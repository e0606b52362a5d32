/- strings.Join at any row of texts, strconv.Itoa. -/
import Derived.Test.YtndlhdmpfnadcaaGreatDoorGb
import Derived.Test.YtndlhdmpfnadcaaGreatDoorChecked
import Derived.Test.YtndlhdmpfnadcaaGreatDoorRows
import Derived.Test.YtndlhdmpfnadcaaGreatDoorGw
import Derived.Shelf.Strings.OnBuilder
import Derived.Shelf.Strconv.Itoa3
import Derived.Lib.AppendIntMem
namespace Go.Proofs
open Go.RowKit Go.Shelf Go.Lib
def Tryz.lays156_ren : Go.Shelf.Ren := ⟨fun | 156 => 9 | 165 => 16 | 166 => 17 | 169 => 18 | 240 => 31 | 241 => 32 | 276 => 55 | 277 => 56 | n => n, fun | 31 => 30 | 9 => 9 | 3 => 3 | 4 => 4 | 0 => 0 | 20 => 20 | 72 => 40 | 76 => 44 | 70 => 38 | 37 => 22 | 75 => 43 | 127 => 58 | 164 => 84 | 5 => 5 | 80 => 46 | n => n, fun | n => n⟩
theorem Tryz.lays156 : Go.Proofs.Lays.n156 Tryz.prog Tryz.lays156_ren := {
  mixed := by kernel_rfl
  f156 := Tryz.func9.trans (congrArg some (by kernel_rfl))
  f165 := Tryz.func16.trans (congrArg some (by kernel_rfl))
  f166 := Tryz.func17.trans (congrArg some (by kernel_rfl))
  f169 := Tryz.func18.trans (congrArg some (by kernel_rfl))
  f240 := Tryz.func31.trans (congrArg some (by kernel_rfl))
  f241 := Tryz.func32.trans (congrArg some (by kernel_rfl))
  f276 := Tryz.func55.trans (congrArg some (by kernel_rfl))
  f277 := Tryz.func56.trans (congrArg some (by kernel_rfl))
  t0 := Tryz.underlying0
  a0 := Tryz.isAgg0
  z0 := Tryz.sizeOf0
  v0 := Tryz.zeroValue0
  t3 := Tryz.underlying3
  a3 := Tryz.isAgg3
  z3 := Tryz.sizeOf3
  v3 := Tryz.zeroValue3
  t4 := Tryz.underlying4
  a4 := Tryz.isAgg4
  z4 := Tryz.sizeOf4
  v4 := Tryz.zeroValue4
  t9 := Tryz.underlying9
  a9 := Tryz.isAgg9
  z9 := Tryz.sizeOf9
  v9 := Tryz.zeroValue9
  t20 := Tryz.underlying20
  a20 := Tryz.isAgg20
  z20 := Tryz.sizeOf20
  v20 := Tryz.zeroValue20
  t31 := Tryz.underlying30
  a31 := Tryz.isAgg30
  z31 := Tryz.sizeOf30
  v31 := Tryz.zeroValue30
  t37 := Tryz.underlying22
  a37 := Tryz.isAgg22
  z37 := Tryz.sizeOf22
  v37 := Tryz.zeroValue22
  t70 := Tryz.underlying38
  a70 := Tryz.isAgg38
  z70 := Tryz.sizeOf38
  v70 := Tryz.zeroValue38
  t72 := Tryz.underlying40
  a72 := Tryz.isAgg40
  z72 := Tryz.sizeOf40
  v72 := Tryz.zeroValue40
  t75 := Tryz.underlying43
  a75 := Tryz.isAgg43
  z75 := Tryz.sizeOf43
  v75 := Tryz.zeroValue43
  t76 := Tryz.underlying44
  a76 := Tryz.isAgg44
  z76 := Tryz.sizeOf44
  v76 := Tryz.zeroValue44
  t127 := Tryz.underlying58
  a127 := Tryz.isAgg58
  z127 := Tryz.sizeOf58
  v127 := Tryz.zeroValue58
  t164 := Tryz.underlying84
  a164 := Tryz.isAgg84
  z164 := Tryz.sizeOf84
  v164 := Tryz.zeroValue84 }

def Tryz.laysM171_ren : Go.Shelf.Ren := ⟨fun | 171 => 8 | 243 => 15 | 246 => 30 | 283 => 51 | 284 => 52 | 285 => 53 | 286 => 54 | 129 => 79 | 317 => 78 | 318 => 80 | 319 => 81 | 320 => 82 | 337 => 96 | 338 => 97 | n => n, fun | 3 => 3 | 9 => 9 | 2 => 2 | 4 => 4 | 171 => 78 | 0 => 0 | 53 => 79 | 37 => 22 | 5 => 5 | 173 => 82 | 212 => 107 | 51 => 108 | 20 => 20 | 213 => 109 | 46 => 76 | 232 => 125 | 233 => 126 | n => n, fun | 17 => 0 | 18 => 2 | 19 => 3 | n => n⟩
theorem Tryz.laysM171 : Go.Proofs.LaysM.n171 Tryz.prog Tryz.laysM171_ren := {
  mixed := by kernel_rfl
  f129 := Tryz.func79.trans (congrArg some (by kernel_rfl))
  f171 := Tryz.func8.trans (congrArg some (by kernel_rfl))
  f243 := Tryz.func15.trans (congrArg some (by kernel_rfl))
  f246 := Tryz.func30.trans (congrArg some (by kernel_rfl))
  f283 := Tryz.func51.trans (congrArg some (by kernel_rfl))
  f284 := Tryz.func52.trans (congrArg some (by kernel_rfl))
  f285 := Tryz.func53.trans (congrArg some (by kernel_rfl))
  f286 := Tryz.func54.trans (congrArg some (by kernel_rfl))
  f317 := Tryz.func78.trans (congrArg some (by kernel_rfl))
  f318 := Tryz.func80.trans (congrArg some (by kernel_rfl))
  f319 := Tryz.func81.trans (congrArg some (by kernel_rfl))
  f320 := Tryz.func82.trans (congrArg some (by kernel_rfl))
  f337 := Tryz.func96.trans (congrArg some (by kernel_rfl))
  f338 := Tryz.func97.trans (congrArg some (by kernel_rfl))
  t0 := Tryz.underlying0
  a0 := Tryz.isAgg0
  z0 := Tryz.sizeOf0
  v0 := Tryz.zeroValue0
  t2 := Tryz.underlying2
  a2 := Tryz.isAgg2
  z2 := Tryz.sizeOf2
  v2 := Tryz.zeroValue2
  t3 := Tryz.underlying3
  a3 := Tryz.isAgg3
  z3 := Tryz.sizeOf3
  v3 := Tryz.zeroValue3
  t4 := Tryz.underlying4
  a4 := Tryz.isAgg4
  z4 := Tryz.sizeOf4
  v4 := Tryz.zeroValue4
  t5 := Tryz.underlying5
  a5 := Tryz.isAgg5
  z5 := Tryz.sizeOf5
  v5 := Tryz.zeroValue5
  t9 := Tryz.underlying9
  a9 := Tryz.isAgg9
  z9 := Tryz.sizeOf9
  v9 := Tryz.zeroValue9
  t20 := Tryz.underlying20
  a20 := Tryz.isAgg20
  z20 := Tryz.sizeOf20
  v20 := Tryz.zeroValue20
  t37 := Tryz.underlying22
  a37 := Tryz.isAgg22
  z37 := Tryz.sizeOf22
  v37 := Tryz.zeroValue22
  t46 := Tryz.underlying76
  a46 := Tryz.isAgg76
  z46 := Tryz.sizeOf76
  v46 := Tryz.zeroValue76
  t51 := Tryz.underlying108
  a51 := Tryz.isAgg108
  z51 := Tryz.sizeOf108
  v51 := Tryz.zeroValue108
  t53 := Tryz.underlying79
  a53 := Tryz.isAgg79
  z53 := Tryz.sizeOf79
  v53 := Tryz.zeroValue79
  t171 := Tryz.underlying78
  a171 := Tryz.isAgg78
  z171 := Tryz.sizeOf78
  v171 := Tryz.zeroValue78
  t173 := Tryz.underlying82
  a173 := Tryz.isAgg82
  z173 := Tryz.sizeOf82
  v173 := Tryz.zeroValue82
  t212 := Tryz.underlying107
  a212 := Tryz.isAgg107
  z212 := Tryz.sizeOf107
  v212 := Tryz.zeroValue107
  t213 := Tryz.underlying109
  a213 := Tryz.isAgg109
  z213 := Tryz.sizeOf109
  t232 := Tryz.underlying125
  a232 := Tryz.isAgg125
  z232 := Tryz.sizeOf125
  v232 := Tryz.zeroValue125
  t233 := Tryz.underlying126
  a233 := Tryz.isAgg126
  z233 := Tryz.sizeOf126
  v233 := Tryz.zeroValue126
  g17 := by kernel_rfl
  g18 := by kernel_rfl
  g19 := by kernel_rfl
  i0 := by kernel_rfl
  i2 := by kernel_rfl
  i3 := by kernel_rfl
  i4 := by kernel_rfl
  i5 := by kernel_rfl
  i9 := by kernel_rfl
  i20 := by kernel_rfl
  i37 := by kernel_rfl
  i46 := by kernel_rfl
  i51 := by kernel_rfl
  i53 := by kernel_rfl
  i171 := by kernel_rfl
  i173 := by kernel_rfl
  i212 := by kernel_rfl
  i232 := by kernel_rfl
  i233 := by kernel_rfl
  m17 := by kernel_rfl
  m18 := by kernel_rfl
  m19 := by kernel_rfl }

theorem Tryz.extra156 : Builder.Extra Tryz.prog Tryz.lays156_ren := {
  sizeBuilder := by kernel_rfl
  liesBuilder := by kernel_rfl
  t5 := Tryz.underlying5
  a5 := Tryz.isAgg5
  z5 := Tryz.sizeOf5
  v5 := Tryz.zeroValue5
  infoByte := by kernel_rfl
  cellsByte := by kernel_rfl
  sizeByte := by kernel_rfl
  neB5 := by decide }
namespace YtndlhdmpfnadcaaGreatDoor
open Pl

/-- the cells of a row of texts -/
def rowS (T : Nat → List UInt8) (n : Nat) : List Value := (List.range n).map (fun j => .string (bs (T j)))
theorem rowS_succ (T : Nat → List UInt8) (n : Nat) : rowS T (n + 1) = rowS T n ++ [.string (bs (T n))] := by simp [rowS, List.range_succ]
theorem join_rowS {w : World} {base : Nat} {v : Value} (T : Nat → List UInt8) (n : Nat) (hn : n ≤ 1048576) (h : w.ownsRow base 9 1 v n (rowS T n)) (hne : 0 < n) (J : List UInt8) (hJ : Lib.join ((List.range n).map T) [32] = J) (hl : J.length ≤ 100000000000000) :
    Calls Tryz.prog 9 #[v, .string ⟨#[32]⟩] w fun e w' => e = .returned (.string (bs J)) ∧ Below w.heap.size w w' := by
  obtain ⟨g, cap, hv, hc, hg, hb⟩ := row_form h hne
  subst hv
  have hj : Lib.join (((List.range n).map (fun j => bs (T j))).map (·.data.toList)) (⟨#[32]⟩ : ByteArray).data.toList = J := by
    rw [← hJ, List.map_map]
    rfl
  have JJ := Any.strings_Join (P := Tryz.prog) (ρ := Tryz.lays156_ren) Tryz.lays156 Tryz.extra156 g 0 cap ((List.range n).map (fun j => bs (T j))) ⟨#[32]⟩ w
    (fun j x hx => by
      have hjn : j < n := by
        have : j < ((List.range n).map (fun j => bs (T j))).length := (List.getElem?_eq_some_iff.1 hx).1
        simpa using this
      have h1 := h.cellAt j (by omega)
      rw [Nat.zero_add]
      rw [h1]
      simp [hjn] at hx
      simp [rowS, hjn, hx])
    hg (by simp; omega) (by simpa using hc) (by rw [hj]; omega)
  rw [hj, List.length_map, List.length_range] at JJ
  exact JJ
/-- the library's table of powers -/
def tabName : String := (Rows.fnFormatDerivationRow.laid.getD 2 ("", .nil)).1
def Tab (w : World) : Prop := Lib.TabIs Tryz.prog w tabName .u64 Lib.pow10Tab
theorem Tab.below {w w' : World} (h : Tab w) (hb : Below w.heap.size w w') : Tab w' := by
  unfold Tab Lib.TabIs World.var? at *
  cases hg : Tryz.prog.globalNamed tabName with
  | none => simp [hg] at h
  | some g =>
    simp only [hg, Option.bind_some] at h ⊢
    have hlt : g < w.heap.size := by
      rcases Nat.lt_or_ge g w.heap.size with h' | h'
      · exact h'
      · rw [Array.getElem?_eq_none h'] at h; simp at h
    rw [hb.block g hlt]
    exact h
theorem itoa_any (n : Int) (h0 : -9223372036854775808 ≤ n) (h1 : n ≤ 9223372036854775807) (w : World) (ht : Tab w) :
    Calls Tryz.prog 8 #[.int .i64 n] w fun e w' => e = .returned (.string (bs (Lib.itoa n))) ∧ Below w.heap.size w w' := by
  refine (Any.strconv_Itoa (P := Tryz.prog) (ρ := Tryz.laysM171_ren) Tryz.laysM171 n h0 h1 w ht).mono ?_
  rintro e w' ⟨rfl, k, os, rfl⟩
  exact ⟨rfl, Lib.below_grow _ _ (Nat.le_refl _) _ _⟩
end YtndlhdmpfnadcaaGreatDoor
end Go.Proofs
