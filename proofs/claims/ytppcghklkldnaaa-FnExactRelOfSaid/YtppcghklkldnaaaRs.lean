/- Rows of strings that a call has made: their shape, how they last, how they are written. -/
import Derived.Test.YtppcghklkldnaaaRwb
import Derived.Test.YtppcghklkldnaaaEa
namespace Go.Proofs.Ytppcghklkldnaaa
open Go.RowKit
open Pl

theorem row_shape {w : World} {base : Nat} {t : TypeId} {v : Value} {n : Nat} {xs : List Value} (h : w.ownsRow base t 1 v n xs) :
    ∃ a cap, v = .slice a n cap ∧ n ≤ cap ∧ (0 < n → ∃ g, a = some ⟨g, 0, none⟩ ∧ base ≤ g ∧ g < w.heap.size) := by
  by_cases hn : 0 < n
  · obtain ⟨g, cap, rfl, hc, hg, hb⟩ := row_form h hn
    exact ⟨_, cap, rfl, hc, fun _ => ⟨g, rfl, hb, hg⟩⟩
  · rcases h.2 with ⟨rfl, rfl⟩ | ⟨g, cap, cur, rfl, hb, _, hc, _⟩
    · exact ⟨none, 0, rfl, Nat.le_refl _, fun h => absurd h hn⟩
    · exact ⟨_, cap, rfl, hc, fun h => absurd h hn⟩
theorem row_call {w w' : World} {base : Nat} {e : TypeId} {size : Nat} {v : Value} {n : Nat} {xs : List Value} (h : w.ownsRow base e size v n xs) (hb : Below w.heap.size w w') : w'.ownsRow base e size v n xs :=
  h.kept (grown_of_below hb none) (by cases v.ownBlock <;> simp)
/-- a row that is turned from the left -/
def mix (f h : Nd → Value) (ps : List Nd) (j : Nat) : List Value := (ps.take j).map f ++ (ps.drop j).map h
theorem mix_zero (f h : Nd → Value) (ps : List Nd) : mix f h ps 0 = ps.map h := by simp [mix]
theorem mix_all (f h : Nd → Value) (ps : List Nd) : mix f h ps ps.length = ps.map f := by simp [mix]
theorem mix_get {f h : Nd → Value} {ps : List Nd} {j : Nat} (hj : j < ps.length) : (mix f h ps j)[j]? = some (h ps[j]) := by
  have hl : ((ps.take j).map f).length = j := by rw [List.length_map, List.length_take]; omega
  unfold mix
  rw [List.getElem?_append_right (by omega), hl, Nat.sub_self, List.drop_eq_getElem_cons hj]
  rfl
theorem mix_set {f h : Nd → Value} {ps : List Nd} {j : Nat} (hj : j < ps.length) : (mix f h ps j).set j (f ps[j]) = mix f h ps (j + 1) := by
  have hl : ((ps.take j).map f).length = j := by rw [List.length_map, List.length_take]; omega
  unfold mix
  rw [List.set_append, if_neg (by omega), hl, Nat.sub_self, List.drop_eq_getElem_cons hj, List.map_cons, List.set_cons_zero, List.take_succ_eq_append_getElem hj, List.map_append, List.append_assoc]
  rfl
theorem nd_lt {k : Nd} {S : ByteArray} (ht : S.data.toList = k.text) : S = bs k.text := by rw [← ht, bs_of]
end Go.Proofs.Ytppcghklkldnaaa
