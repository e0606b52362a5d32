/- strings.Join at rows of texts. -/
import Derived.Test.YtppcghklkldnaabKit
import Derived.Test.YtppcghklkldnaabChecked
import Derived.Test.YtppcghklkldnaabPln
import Derived.Test.YtppcghklkldnaabBs
import Derived.Test.YtppcghklkldnaabRwb
import Derived.Shelf.Strings.OnBuilder
namespace Go.Proofs
open Go.RowKit Go.Shelf Go.Lib
def Try.lays156_ren : Go.Shelf.Ren := ⟨fun | 156 => 72 | 165 => 103 | 166 => 104 | 169 => 105 | 240 => 127 | 241 => 128 | 276 => 139 | 277 => 140 | n => n, fun | 31 => 70 | 9 => 9 | 3 => 3 | 4 => 4 | 0 => 0 | 20 => 20 | 72 => 90 | 76 => 94 | 70 => 88 | 37 => 22 | 75 => 93 | 127 => 115 | 164 => 128 | 5 => 5 | 80 => 78 | n => n, fun | n => n⟩
theorem Try.lays156 : Go.Proofs.Lays.n156 Try.prog Try.lays156_ren := {
  mixed := by kernel_rfl
  f156 := Try.func72.trans (congrArg some (by kernel_rfl))
  f165 := Try.func103.trans (congrArg some (by kernel_rfl))
  f166 := Try.func104.trans (congrArg some (by kernel_rfl))
  f169 := Try.func105.trans (congrArg some (by kernel_rfl))
  f240 := Try.func127.trans (congrArg some (by kernel_rfl))
  f241 := Try.func128.trans (congrArg some (by kernel_rfl))
  f276 := Try.func139.trans (congrArg some (by kernel_rfl))
  f277 := Try.func140.trans (congrArg some (by kernel_rfl))
  t0 := Try.underlying0
  a0 := Try.isAgg0
  z0 := Try.sizeOf0
  v0 := Try.zeroValue0
  t3 := Try.underlying3
  a3 := Try.isAgg3
  z3 := Try.sizeOf3
  v3 := Try.zeroValue3
  t4 := Try.underlying4
  a4 := Try.isAgg4
  z4 := Try.sizeOf4
  v4 := Try.zeroValue4
  t9 := Try.underlying9
  a9 := Try.isAgg9
  z9 := Try.sizeOf9
  v9 := Try.zeroValue9
  t20 := Try.underlying20
  a20 := Try.isAgg20
  z20 := Try.sizeOf20
  v20 := Try.zeroValue20
  t31 := Try.underlying70
  a31 := Try.isAgg70
  z31 := Try.sizeOf70
  v31 := Try.zeroValue70
  t37 := Try.underlying22
  a37 := Try.isAgg22
  z37 := Try.sizeOf22
  v37 := Try.zeroValue22
  t70 := Try.underlying88
  a70 := Try.isAgg88
  z70 := Try.sizeOf88
  v70 := Try.zeroValue88
  t72 := Try.underlying90
  a72 := Try.isAgg90
  z72 := Try.sizeOf90
  v72 := Try.zeroValue90
  t75 := Try.underlying93
  a75 := Try.isAgg93
  z75 := Try.sizeOf93
  v75 := Try.zeroValue93
  t76 := Try.underlying94
  a76 := Try.isAgg94
  z76 := Try.sizeOf94
  v76 := Try.zeroValue94
  t127 := Try.underlying115
  a127 := Try.isAgg115
  z127 := Try.sizeOf115
  v127 := Try.zeroValue115
  t164 := Try.underlying128
  a164 := Try.isAgg128
  z164 := Try.sizeOf128
  v164 := Try.zeroValue128 }

theorem Try.extra156 : Builder.Extra Try.prog Try.lays156_ren := {
  sizeBuilder := by kernel_rfl
  liesBuilder := by kernel_rfl
  t5 := Try.underlying5
  a5 := Try.isAgg5
  z5 := Try.sizeOf5
  v5 := Try.zeroValue5
  infoByte := by kernel_rfl
  cellsByte := by kernel_rfl
  sizeByte := by kernel_rfl
  neB5 := by decide }
namespace Ytppcghklkldnaab
open Pl

theorem inter_jn (js : List Nat) : Lib.join (js.map stT) [32] = jn js := by
  cases js with
  | nil => rfl
  | cons a r =>
    rw [List.map_cons, Lib.join_cons]
    induction r generalizing a with
    | nil => simp [jn, Lib.joinTail]
    | cons b r ih =>
      have := ih b
      rw [jn, ← this]
      simp [Lib.joinTail]
/-- the cells of a row of states' texts -/
def rowT (js : List Nat) : List Value := js.map (fun j => .string (bs (stT j)))
theorem rowT_snoc (js : List Nat) (j : Nat) : rowT (js ++ [j]) = rowT js ++ [.string (bs (stT j))] := by simp [rowT]
theorem join_row {w : World} {base : Nat} {v : Value} (js : List Nat) (hl : js.length ≤ 27) (h : w.ownsRow base 9 1 v js.length (rowT js)) (hne : 0 < js.length) :
    Calls Try.prog 72 #[v, .string ⟨#[32]⟩] w fun e w' => e = .returned (.string (bs (jn js))) ∧ Below w.heap.size w w' := by
  obtain ⟨g, cap, hv, hc, hg, hb⟩ := row_form h hne
  subst hv
  have hj : Lib.join ((js.map (fun j => bs (stT j))).map (·.data.toList)) (⟨#[32]⟩ : ByteArray).data.toList = jn js := by
    rw [← inter_jn, List.map_map]
    rfl
  have J := Any.strings_Join (P := Try.prog) (ρ := Try.lays156_ren) Try.lays156 Try.extra156 g 0 cap (js.map (fun j => bs (stT j))) ⟨#[32]⟩ w
    (fun j x hx => by
      have h1 := h.cellAt j (by
        have : j < (js.map (fun j => bs (stT j))).length := (List.getElem?_eq_some_iff.1 hx).1
        simpa using this)
      rw [Nat.zero_add]
      rw [h1]
      simp only [rowT, List.getElem?_map] at hx ⊢
      cases hjs : js[j]? with
      | none => rw [hjs] at hx; cases hx
      | some a => rw [hjs] at hx; simp at hx; rw [← hx]; rfl)
    hg (by simp; omega) (by simpa using hc) (by
      rw [hj]
      have := jn_len (js := js) (by intro e; rw [e] at hne; simp at hne)
      omega)
  rw [hj, List.length_map] at J
  exact J

end Ytppcghklkldnaab
end Go.Proofs
