/- strings.Join at rows of texts. -/
import Derived.Test.YtppcghklkldnaaaKit
import Derived.Test.YtppcghklkldnaaaChecked
import Derived.Test.YtppcghklkldnaaaPln
import Derived.Test.YtppcghklkldnaaaBs
import Derived.Test.YtppcghklkldnaaaRwb
import Derived.Shelf.Strings.OnBuilder
namespace Go.Proofs
open Go.RowKit Go.Shelf Go.Lib
def Try.lays156_ren : Go.Shelf.Ren := ⟨fun | 156 => 94 | 165 => 130 | 166 => 131 | 169 => 132 | 240 => 149 | 241 => 150 | 276 => 161 | 277 => 162 | n => n, fun | 31 => 27 | 9 => 9 | 3 => 3 | 4 => 4 | 0 => 0 | 20 => 20 | 72 => 101 | 76 => 105 | 70 => 99 | 37 => 25 | 75 => 104 | 127 => 128 | 164 => 133 | 5 => 5 | 80 => 50 | n => n, fun | n => n⟩
theorem Try.lays156 : Go.Proofs.Lays.n156 Try.prog Try.lays156_ren := {
  mixed := by kernel_rfl
  f156 := Try.func94.trans (congrArg some (by kernel_rfl))
  f165 := Try.func130.trans (congrArg some (by kernel_rfl))
  f166 := Try.func131.trans (congrArg some (by kernel_rfl))
  f169 := Try.func132.trans (congrArg some (by kernel_rfl))
  f240 := Try.func149.trans (congrArg some (by kernel_rfl))
  f241 := Try.func150.trans (congrArg some (by kernel_rfl))
  f276 := Try.func161.trans (congrArg some (by kernel_rfl))
  f277 := Try.func162.trans (congrArg some (by kernel_rfl))
  t0 := Try.underlying0
  a0 := Try.isAgg0
  z0 := Try.sizeOf0
  v0 := Try.zeroValue0
  t3 := Try.underlying3
  a3 := Try.isAgg3
  z3 := Try.sizeOf3
  v3 := Try.zeroValue3
  t4 := Try.underlying4
  a4 := Try.isAgg4
  z4 := Try.sizeOf4
  v4 := Try.zeroValue4
  t9 := Try.underlying9
  a9 := Try.isAgg9
  z9 := Try.sizeOf9
  v9 := Try.zeroValue9
  t20 := Try.underlying20
  a20 := Try.isAgg20
  z20 := Try.sizeOf20
  v20 := Try.zeroValue20
  t31 := Try.underlying27
  a31 := Try.isAgg27
  z31 := Try.sizeOf27
  v31 := Try.zeroValue27
  t37 := Try.underlying25
  a37 := Try.isAgg25
  z37 := Try.sizeOf25
  v37 := Try.zeroValue25
  t70 := Try.underlying99
  a70 := Try.isAgg99
  z70 := Try.sizeOf99
  v70 := Try.zeroValue99
  t72 := Try.underlying101
  a72 := Try.isAgg101
  z72 := Try.sizeOf101
  v72 := Try.zeroValue101
  t75 := Try.underlying104
  a75 := Try.isAgg104
  z75 := Try.sizeOf104
  v75 := Try.zeroValue104
  t76 := Try.underlying105
  a76 := Try.isAgg105
  z76 := Try.sizeOf105
  v76 := Try.zeroValue105
  t127 := Try.underlying128
  a127 := Try.isAgg128
  z127 := Try.sizeOf128
  v127 := Try.zeroValue128
  t164 := Try.underlying133
  a164 := Try.isAgg133
  z164 := Try.sizeOf133
  v164 := Try.zeroValue133 }

theorem Try.extra156 : Builder.Extra Try.prog Try.lays156_ren := {
  sizeBuilder := by kernel_rfl
  liesBuilder := by kernel_rfl
  t5 := Try.underlying5
  a5 := Try.isAgg5
  z5 := Try.sizeOf5
  v5 := Try.zeroValue5
  infoByte := by kernel_rfl
  cellsByte := by kernel_rfl
  sizeByte := by kernel_rfl
  neB5 := by decide }
namespace Ytppcghklkldnaaa
open Pl

theorem inter_jn (js : List Nat) : Lib.join (js.map stT) [32] = jn js := by
  cases js with
  | nil => rfl
  | cons a r =>
    rw [List.map_cons, Lib.join_cons]
    induction r generalizing a with
    | nil => simp [jn, Lib.joinTail]
    | cons b r ih =>
      have := ih b
      rw [jn, ← this]
      simp [Lib.joinTail]
/-- the cells of a row of states' texts -/
def rowT (js : List Nat) : List Value := js.map (fun j => .string (bs (stT j)))
theorem rowT_snoc (js : List Nat) (j : Nat) : rowT (js ++ [j]) = rowT js ++ [.string (bs (stT j))] := by simp [rowT]
theorem join_row {w : World} {base : Nat} {v : Value} (js : List Nat) (hl : js.length ≤ 27) (h : w.ownsRow base 9 1 v js.length (rowT js)) (hne : 0 < js.length) :
    Calls Try.prog 94 #[v, .string ⟨#[32]⟩] w fun e w' => e = .returned (.string (bs (jn js))) ∧ Below w.heap.size w w' := by
  obtain ⟨g, cap, hv, hc, hg, hb⟩ := row_form h hne
  subst hv
  have hj : Lib.join ((js.map (fun j => bs (stT j))).map (·.data.toList)) (⟨#[32]⟩ : ByteArray).data.toList = jn js := by
    rw [← inter_jn, List.map_map]
    rfl
  have J := Any.strings_Join (P := Try.prog) (ρ := Try.lays156_ren) Try.lays156 Try.extra156 g 0 cap (js.map (fun j => bs (stT j))) ⟨#[32]⟩ w
    (fun j x hx => by
      have h1 := h.cellAt j (by
        have : j < (js.map (fun j => bs (stT j))).length := (List.getElem?_eq_some_iff.1 hx).1
        simpa using this)
      rw [Nat.zero_add]
      rw [h1]
      simp only [rowT, List.getElem?_map] at hx ⊢
      cases hjs : js[j]? with
      | none => rw [hjs] at hx; cases hx
      | some a => rw [hjs] at hx; simp at hx; rw [← hx]; rfl)
    hg (by simp; omega) (by simpa using hc) (by
      rw [hj]
      have := jn_len (js := js) (by intro e; rw [e] at hne; simp at hne)
      omega)
  rw [hj, List.length_map] at J
  exact J

end Ytppcghklkldnaaa
end Go.Proofs
