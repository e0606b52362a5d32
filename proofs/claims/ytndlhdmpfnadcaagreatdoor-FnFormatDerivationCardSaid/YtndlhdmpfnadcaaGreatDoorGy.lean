/- XGy: XEa XRs put together. -/
import Derived.Test.YtndlhdmpfnadcaaGreatDoorHd
import Derived.Test.YtndlhdmpfnadcaaGreatDoorGa
import Derived.Test.YtndlhdmpfnadcaaGreatDoorGw
/- The parts of a statement in memory; a closure called for each statement. -/
namespace Go.Proofs.YtndlhdmpfnadcaaGreatDoor
open Go.RowKit
open Pl

theorem In.op1 {w : World} {o : UInt8} {a : Nd} {b : Nat} (h : In w (.n1 o a) b) : ∃ g c p, b < w.heap.size ∧ g < w.heap.size ∧ 1 ≤ c ∧ w.cell? ⟨b, 0, none⟩ = some (.int .u8 o.toNat) ∧ w.cell? ⟨b, 1, none⟩ = some (.slice (some ⟨g, 0, none⟩) 1 c) ∧ w.cell? ⟨g, 0, none⟩ = some (.pointer (some ⟨p, 0, none⟩)) ∧ In w a p := by
  obtain ⟨g, c, p, ⟨hb, h1, h2, _⟩, hg, hc, h5, ia⟩ := h
  exact ⟨g, c, p, hb, hg, hc, h1, h2, h5, ia⟩
theorem flat_len {x : Nd} : ∀ {ps : List Nd}, x ∈ ps → x.text.length ≤ (flatN ps).length := by
  intro ps
  induction ps with
  | nil => intro h; simp at h
  | cons y ps ih =>
    intro h
    simp only [flatN, List.length_append]
    rcases List.mem_cons.1 h with rfl | h
    · omega
    · have := ih h; omega
theorem prt_short {k x : Nd} (hx : x ∈ prt k) : x.text.length + 1 ≤ k.text.length := by
  have h1 := congrArg List.length (head_text k)
  have := flat_len hx
  simp only [List.length_cons, List.length_append] at h1
  omega
theorem stmL_take {ps : List Nd} {j : Nat} (h : j < ps.length) : stmL (ps.take (j + 1)) = stmL (ps.take j) ++ stm ps[j] := by
  rw [List.take_succ_eq_append_getElem h, stmL_append]
  simp [stmL]
theorem stmL_le {ps : List Nd} {j : Nat} : (stmL (ps.take j)).length ≤ (stmL ps).length := by
  have : stmL ps = stmL (ps.take j) ++ stmL (ps.drop j) := by rw [← stmL_append, List.take_append_drop]
  rw [this, List.length_append]
  omega
/-- a call of a function that has a body: it is entered -/
theorem enterF {P : Program} {f : FuncId} {fn : Func} {c : Code} (hf : P.funcs[f]? = some fn) (hname : (fn.name == "runtime.NumGoroutine") = false) (hb : fn.body = some c) (args : Array Value) (w : World) :
    (callFunc f args).run P w = .ok (.enter f args) w := by
  have h1 : fn.name ≠ "runtime.NumGoroutine" := by simpa using hname
  simp [callFunc, hf, h1, hb]

end Go.Proofs.YtndlhdmpfnadcaaGreatDoor

/- Rows of strings that a call has made: their shape, how they last, how they are written. -/
namespace Go.Proofs.YtndlhdmpfnadcaaGreatDoor
open Go.RowKit
open Pl

theorem row_shape {w : World} {base : Nat} {t : TypeId} {v : Value} {n : Nat} {xs : List Value} (h : w.ownsRow base t 1 v n xs) :
    ∃ a cap, v = .slice a n cap ∧ n ≤ cap ∧ (0 < n → ∃ g, a = some ⟨g, 0, none⟩ ∧ base ≤ g ∧ g < w.heap.size) := by
  by_cases hn : 0 < n
  · obtain ⟨g, cap, rfl, hc, hg, hb⟩ := row_form h hn
    exact ⟨_, cap, rfl, hc, fun _ => ⟨g, rfl, hb, hg⟩⟩
  · rcases h.2 with ⟨rfl, rfl⟩ | ⟨g, cap, cur, rfl, hb, _, hc, _⟩
    · exact ⟨none, 0, rfl, Nat.le_refl _, fun h => absurd h hn⟩
    · exact ⟨_, cap, rfl, hc, fun h => absurd h hn⟩
theorem row_call {w w' : World} {base : Nat} {e : TypeId} {size : Nat} {v : Value} {n : Nat} {xs : List Value} (h : w.ownsRow base e size v n xs) (hb : Below w.heap.size w w') : w'.ownsRow base e size v n xs :=
  h.kept (grown_of_below hb none) (by cases v.ownBlock <;> simp)
/-- a row that is turned from the left -/
def mix (f h : Nd → Value) (ps : List Nd) (j : Nat) : List Value := (ps.take j).map f ++ (ps.drop j).map h
theorem mix_zero (f h : Nd → Value) (ps : List Nd) : mix f h ps 0 = ps.map h := by simp [mix]
theorem mix_all (f h : Nd → Value) (ps : List Nd) : mix f h ps ps.length = ps.map f := by simp [mix]
theorem mix_get {f h : Nd → Value} {ps : List Nd} {j : Nat} (hj : j < ps.length) : (mix f h ps j)[j]? = some (h ps[j]) := by
  have hl : ((ps.take j).map f).length = j := by rw [List.length_map, List.length_take]; omega
  unfold mix
  rw [List.getElem?_append_right (by omega), hl, Nat.sub_self, List.drop_eq_getElem_cons hj]
  rfl
theorem mix_set {f h : Nd → Value} {ps : List Nd} {j : Nat} (hj : j < ps.length) : (mix f h ps j).set j (f ps[j]) = mix f h ps (j + 1) := by
  have hl : ((ps.take j).map f).length = j := by rw [List.length_map, List.length_take]; omega
  unfold mix
  rw [List.set_append, if_neg (by omega), hl, Nat.sub_self, List.drop_eq_getElem_cons hj, List.map_cons, List.set_cons_zero, List.take_succ_eq_append_getElem hj, List.map_append, List.append_assoc]
  rfl
theorem nd_lt {k : Nd} {S : ByteArray} (ht : S.data.toList = k.text) : S = bs k.text := by rw [← ht, bs_of]
end Go.Proofs.YtndlhdmpfnadcaaGreatDoor
