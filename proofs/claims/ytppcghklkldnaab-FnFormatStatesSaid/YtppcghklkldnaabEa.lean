/- The parts of a statement in memory; a closure called for each statement. -/
import Derived.Test.YtppcghklkldnaabHd
import Derived.Test.YtppcghklkldnaabPlk
namespace Go.Proofs.Ytppcghklkldnaab
open Go.RowKit
open Pl

theorem In.op1 {w : World} {o : UInt8} {a : Nd} {b : Nat} (h : In w (.n1 o a) b) : ∃ g c p, b < w.heap.size ∧ g < w.heap.size ∧ 1 ≤ c ∧ w.cell? ⟨b, 0, none⟩ = some (.int .u8 o.toNat) ∧ w.cell? ⟨b, 1, none⟩ = some (.slice (some ⟨g, 0, none⟩) 1 c) ∧ w.cell? ⟨g, 0, none⟩ = some (.pointer (some ⟨p, 0, none⟩)) ∧ In w a p := by
  obtain ⟨g, c, p, ⟨hb, h1, h2, _⟩, hg, hc, h5, ia⟩ := h
  exact ⟨g, c, p, hb, hg, hc, h1, h2, h5, ia⟩
theorem flat_len {x : Nd} : ∀ {ps : List Nd}, x ∈ ps → x.text.length ≤ (flatN ps).length := by
  intro ps
  induction ps with
  | nil => intro h; simp at h
  | cons y ps ih =>
    intro h
    simp only [flatN, List.length_append]
    rcases List.mem_cons.1 h with rfl | h
    · omega
    · have := ih h; omega
theorem prt_short {k x : Nd} (hx : x ∈ prt k) : x.text.length + 1 ≤ k.text.length := by
  have h1 := congrArg List.length (head_text k)
  have := flat_len hx
  simp only [List.length_cons, List.length_append] at h1
  omega
theorem stmL_take {ps : List Nd} {j : Nat} (h : j < ps.length) : stmL (ps.take (j + 1)) = stmL (ps.take j) ++ stm ps[j] := by
  rw [List.take_succ_eq_append_getElem h, stmL_append]
  simp [stmL]
theorem stmL_le {ps : List Nd} {j : Nat} : (stmL (ps.take j)).length ≤ (stmL ps).length := by
  have : stmL ps = stmL (ps.take j) ++ stmL (ps.drop j) := by rw [← stmL_append, List.take_append_drop]
  rw [this, List.length_append]
  omega
/-- a call of a function that has a body: it is entered -/
theorem enterF {P : Program} {f : FuncId} {fn : Func} {c : Code} (hf : P.funcs[f]? = some fn) (hname : (fn.name == "runtime.NumGoroutine") = false) (hb : fn.body = some c) (args : Array Value) (w : World) :
    (callFunc f args).run P w = .ok (.enter f args) w := by
  have h1 : fn.name ≠ "runtime.NumGoroutine" := by simpa using hname
  simp [callFunc, hf, h1, hb]

end Go.Proofs.Ytppcghklkldnaab
