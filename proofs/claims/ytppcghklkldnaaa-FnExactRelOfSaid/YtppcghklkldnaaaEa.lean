/- The parts of a statement in memory; a closure called for each statement. -/
import Derived.Test.YtppcghklkldnaaaHd
import Derived.Test.YtppcghklkldnaaaPlk
namespace Go.Proofs.Ytppcghklkldnaaa
open Go.RowKit
open Pl

theorem In.op1 {w : World} {o : UInt8} {a : Nd} {b : Nat} (h : In w (.n1 o a) b) : ∃ g c p, b < w.heap.size ∧ g < w.heap.size ∧ 1 ≤ c ∧ w.cell? ⟨b, 0, none⟩ = some (.int .u8 o.toNat) ∧ w.cell? ⟨b, 1, none⟩ = some (.slice (some ⟨g, 0, none⟩) 1 c) ∧ w.cell? ⟨g, 0, none⟩ = some (.pointer (some ⟨p, 0, none⟩)) ∧ In w a p := by
  obtain ⟨g, c, p, ⟨hb, h1, h2, _⟩, hg, hc, h5, ia⟩ := h
  exact ⟨g, c, p, hb, hg, hc, h1, h2, h5, ia⟩
set_option maxHeartbeats 1000000 in
theorem parts_59 (w : World) (b g c : Nat) (h1 : w.cell? ⟨b, 0, none⟩ = some (.int .u8 59)) (h2 : w.cell? ⟨b, 1, none⟩ = some (.slice (some ⟨g, 0, none⟩) 2 c)) : Calls Try.prog 65 #[.pointer (some ⟨b, 0, none⟩)] w fun e w' => e = .returned (.slice (some ⟨g, 0, none⟩) 2 c) ∧ w = w' := by
  go_enter Try.func65, Try.ntmps65
  go_wp2_with fail
  go_ret
  exact ⟨rfl, rfl⟩
set_option maxHeartbeats 1000000 in
theorem parts_47 (w : World) (b g c : Nat) (h1 : w.cell? ⟨b, 0, none⟩ = some (.int .u8 47)) (h2 : w.cell? ⟨b, 1, none⟩ = some (.slice (some ⟨g, 0, none⟩) 2 c)) : Calls Try.prog 65 #[.pointer (some ⟨b, 0, none⟩)] w fun e w' => e = .returned (.slice (some ⟨g, 0, none⟩) 2 c) ∧ w = w' := by
  go_enter Try.func65, Try.ntmps65
  go_wp2_with fail
  go_ret
  exact ⟨rfl, rfl⟩
set_option maxHeartbeats 1000000 in
theorem parts_63 (w : World) (b g c : Nat) (hc : 3 ≤ c) (h1 : w.cell? ⟨b, 0, none⟩ = some (.int .u8 63)) (h2 : w.cell? ⟨b, 1, none⟩ = some (.slice (some ⟨g, 0, none⟩) 3 c)) : Calls Try.prog 65 #[.pointer (some ⟨b, 0, none⟩)] w fun e w' => e = .returned (.slice (some ⟨g, 1, none⟩) 2 (c - 1)) ∧ w = w' := by
  go_enter Try.func65, Try.ntmps65
  go_wp2_with fail
  go_ret
  exact ⟨rfl, rfl⟩
set_option maxHeartbeats 1000000 in
theorem parts_64 (w : World) (b g c : Nat) (hc : 2 ≤ c) (h1 : w.cell? ⟨b, 0, none⟩ = some (.int .u8 64)) (h2 : w.cell? ⟨b, 1, none⟩ = some (.slice (some ⟨g, 0, none⟩) 2 c)) : Calls Try.prog 65 #[.pointer (some ⟨b, 0, none⟩)] w fun e w' => e = .returned (.slice (some ⟨g, 1, none⟩) 1 (c - 1)) ∧ w = w' := by
  go_enter Try.func65, Try.ntmps65
  go_wp2_with fail
  go_ret
  exact ⟨rfl, rfl⟩
set_option maxHeartbeats 1000000 in
theorem parts_115 (w : World) (b : Nat) (h1 : w.cell? ⟨b, 0, none⟩ = some (.int .u8 115)) : Calls Try.prog 65 #[.pointer (some ⟨b, 0, none⟩)] w fun e w' => e = .returned (.slice none 0 0) ∧ w = w' := by
  go_enter Try.func65, Try.ntmps65
  go_wp2_with fail
  go_ret
  exact ⟨rfl, rfl⟩
set_option maxHeartbeats 1000000 in
theorem parts_97 (w : World) (b : Nat) (h1 : w.cell? ⟨b, 0, none⟩ = some (.int .u8 97)) : Calls Try.prog 65 #[.pointer (some ⟨b, 0, none⟩)] w fun e w' => e = .returned (.slice none 0 0) ∧ w = w' := by
  go_enter Try.func65, Try.ntmps65
  go_wp2_with fail
  go_ret
  exact ⟨rfl, rfl⟩
set_option maxHeartbeats 1000000 in
theorem parts_126 (w : World) (b : Nat) (h1 : w.cell? ⟨b, 0, none⟩ = some (.int .u8 126)) : Calls Try.prog 65 #[.pointer (some ⟨b, 0, none⟩)] w fun e w' => e = .returned (.slice none 0 0) ∧ w = w' := by
  go_enter Try.func65, Try.ntmps65
  go_wp2_with fail
  go_ret
  exact ⟨rfl, rfl⟩
/-- a row of pointers to nodes -/
def Row (w : World) (ps : List Nd) (a : Option Addr) (cap : Nat) : Prop :=
  ps.length ≤ cap ∧ ∀ j (hj : j < ps.length), ∃ g off p, a = some ⟨g, off, none⟩ ∧ g < w.heap.size ∧ w.cell? ⟨g, off + j, none⟩ = some (.pointer (some ⟨p, 0, none⟩)) ∧ In w ps[j] p
theorem row_none (w : World) : Row w [] none 0 := ⟨Nat.le_refl _, fun j hj => absurd hj (by simp)⟩
theorem row_two {w : World} {x y : Nd} {g off cap p q : Nat} (hg : g < w.heap.size) (hc : 2 ≤ cap) (h1 : w.cell? ⟨g, off, none⟩ = some (.pointer (some ⟨p, 0, none⟩))) (h2 : w.cell? ⟨g, off + 1, none⟩ = some (.pointer (some ⟨q, 0, none⟩))) (ip : In w x p) (iq : In w y q) : Row w [x, y] (some ⟨g, off, none⟩) cap :=
  ⟨hc, fun j hj => match j, hj with
    | 0, _ => ⟨g, off, p, rfl, hg, h1, ip⟩
    | 1, _ => ⟨g, off, q, rfl, hg, h2, iq⟩⟩
theorem row_one {w : World} {x : Nd} {g off cap p : Nat} (hg : g < w.heap.size) (hc : 1 ≤ cap) (h1 : w.cell? ⟨g, off, none⟩ = some (.pointer (some ⟨p, 0, none⟩))) (ip : In w x p) : Row w [x] (some ⟨g, off, none⟩) cap :=
  ⟨hc, fun j hj => match j, hj with
    | 0, _ => ⟨g, off, p, rfl, hg, h1, ip⟩⟩
theorem parts_all {wd : Bool} {k : Nd} {b : Nat} {w : World} (hok : ok wd 2 k = true) (hin : In w k b) :
    ∃ a cap, Row w (prt k) a cap ∧ ∀ W, Below w.heap.size w W → Calls Try.prog 65 #[.pointer (some ⟨b, 0, none⟩)] W fun e w' => e = .returned (.slice a (prt k).length cap) ∧ W = w' := by
  rcases ok2_head hok with rfl | ⟨v, e, rfl, hv, he⟩ | ⟨o, x, y, rfl, ho, hx, hy⟩ | ⟨t, x, y, rfl, ht, hx, hy⟩ | ⟨t, x, rfl, ht, hx⟩ | ⟨t, rfl, ht⟩
  · obtain ⟨hb0, h1, _⟩ := hin.op
    exact ⟨none, 0, row_none w, fun W hW => parts_115 W b ((hW.cell (p := ⟨b, 0, none⟩) hb0).trans h1)⟩
  · obtain ⟨hb0, h1, _⟩ := hin.op
    exact ⟨none, 0, row_none w, fun W hW => parts_97 W b ((hW.cell (p := ⟨b, 0, none⟩) hb0).trans h1)⟩
  · have hp : prt (.n2 o x y) = [x, y] := by rcases ho with rfl | rfl <;> rfl
    obtain ⟨g, c, pb, qb, ⟨hb0, h1, h2, _⟩, hg0, hc, h5, h6, ip, iq⟩ := hin
    rw [hp]
    refine ⟨some ⟨g, 0, none⟩, c, row_two hg0 hc h5 h6 ip iq, fun W hW => ?_⟩
    have c1 := (hW.cell (p := ⟨b, 0, none⟩) hb0).trans h1
    have c2 := (hW.cell (p := ⟨b, 1, none⟩) hb0).trans h2
    rcases ho with rfl | rfl
    · exact parts_59 W b g c c1 c2
    · exact parts_47 W b g c c1 c2
  · obtain ⟨g, c, pb, qb, rb, ⟨hb0, h1, h2, _⟩, hg0, hc, h5, h6, h7, it, ip, iq⟩ := hin
    exact ⟨some ⟨g, 1, none⟩, c - 1, row_two hg0 (by omega) h6 h7 ip iq, fun W hW => parts_63 W b g c hc ((hW.cell (p := ⟨b, 0, none⟩) hb0).trans h1) ((hW.cell (p := ⟨b, 1, none⟩) hb0).trans h2)⟩
  · obtain ⟨g, c, pb, qb, ⟨hb0, h1, h2, _⟩, hg0, hc, h5, h6, it, ip⟩ := hin
    exact ⟨some ⟨g, 1, none⟩, c - 1, row_one hg0 (by omega) h6 ip, fun W hW => parts_64 W b g c hc ((hW.cell (p := ⟨b, 0, none⟩) hb0).trans h1) ((hW.cell (p := ⟨b, 1, none⟩) hb0).trans h2)⟩
  · obtain ⟨hb0, h1, _⟩ := hin.op
    exact ⟨none, 0, row_none w, fun W hW => parts_126 W b ((hW.cell (p := ⟨b, 0, none⟩) hb0).trans h1)⟩
theorem flat_len {x : Nd} : ∀ {ps : List Nd}, x ∈ ps → x.text.length ≤ (flatN ps).length := by
  intro ps
  induction ps with
  | nil => intro h; simp at h
  | cons y ps ih =>
    intro h
    simp only [flatN, List.length_append]
    rcases List.mem_cons.1 h with rfl | h
    · omega
    · have := ih h; omega
theorem prt_short {k x : Nd} (hx : x ∈ prt k) : x.text.length + 1 ≤ k.text.length := by
  have h1 := congrArg List.length (head_text k)
  have := flat_len hx
  simp only [List.length_cons, List.length_append] at h1
  omega
theorem stmL_take {ps : List Nd} {j : Nat} (h : j < ps.length) : stmL (ps.take (j + 1)) = stmL (ps.take j) ++ stm ps[j] := by
  rw [List.take_succ_eq_append_getElem h, stmL_append]
  simp [stmL]
theorem stmL_le {ps : List Nd} {j : Nat} : (stmL (ps.take j)).length ≤ (stmL ps).length := by
  have : stmL ps = stmL (ps.take j) ++ stmL (ps.drop j) := by rw [← stmL_append, List.take_append_drop]
  rw [this, List.length_append]
  omega
/-- a call of a function that has a body: it is entered -/
theorem enterF {P : Program} {f : FuncId} {fn : Func} {c : Code} (hf : P.funcs[f]? = some fn) (hname : (fn.name == "runtime.NumGoroutine") = false) (hb : fn.body = some c) (args : Array Value) (w : World) :
    (callFunc f args).run P w = .ok (.enter f args) w := by
  have h1 : fn.name ≠ "runtime.NumGoroutine" := by simpa using hname
  simp [callFunc, hf, h1, hb]
set_option maxRecDepth 100000 in
set_option maxHeartbeats 4000000 in
theorem each_any (F : FuncId) (hent : ∀ (args : Array Value) (w : World), (callFunc F args).run Try.prog w = .ok (.enter F args) w) (caps : Array Value) (w0 : World) (J : List Nd → World → Prop) (M L : Nat)
    (HF : ∀ k b dn W, dn.length < M → k.text.length ≤ L → ok false 2 k = true → In w0 k b → Below w0.heap.size w0 W → J dn W → Calls Try.prog F (#[.pointer (some ⟨b, 0, none⟩)] ++ caps) W fun e W' => e = .returned (.tuple #[]) ∧ Below w0.heap.size w0 W' ∧ J (dn ++ [k]) W') :
    ∀ (n : Nat) (k : Nd) (b : Nat) (dn : List Nd) (W : World), k.text.length ≤ n → n ≤ L → dn.length + (stm k).length ≤ M → ok false 2 k = true → In w0 k b → Below w0.heap.size w0 W → J dn W →
    Calls Try.prog 73 #[.pointer (some ⟨b, 0, none⟩), .func (.func F) #[] caps] W fun e W' => e = .returned (.tuple #[]) ∧ Below w0.heap.size w0 W' ∧ J (dn ++ stm k) W' := by
  intro n
  induction n with
  | zero => intro k b dn W h; have := text_pos k; omega
  | succ n ih =>
    intro k b dn W hl hn hM hok hin hB hJ
    obtain ⟨a, cap, ⟨hcap, hrow⟩, hP⟩ := parts_all hok hin
    have H1 := Lib.hid (HF k b dn W (by have := stm_pos k; omega) (by omega) hok hin hB hJ)
    have hps : ∀ x ∈ prt k, ok false 2 x = true ∧ x.text.length ≤ n := fun x hx => ⟨prt_ok hok x hx, by have := prt_short hx; omega⟩
    rw [stm_eq]
    rw [stm_eq] at hM
    have hz : (prt k).length ≤ 2 := prt_len
    have HPS := Lib.hid hps
    have HR := Lib.hid hrow
    have HP := Lib.hid hP
    have IH := Lib.hid ih
    clear hps hrow hP ih hB hJ HF hin hl hok
    generalize prt k = ps at *
    obtain ⟨N, hN⟩ : ∃ N, N = ps.length := ⟨_, rfl⟩
    rw [← hN] at HP hcap hz
    have HN := Lib.hid hN
    have HM : Hid (dn.length + (k :: stmL ps).length ≤ M) := hM
    clear hN hM
    go_enter Try.func73, Try.ntmps73
    go_wp2_with fail
    refine H1.out.mono ?_
    rintro e w1 ⟨rfl, hb1, hj1⟩
    have B1 := Lib.hid hb1
    have J1 : Hid (J (dn ++ (k :: stmL (ps.take 0))) w1) := hj1
    clear hb1 hj1 H1
    go_wp2_with fail
    refine (HP.out _ B1.out).mono ?_
    rintro e w' ⟨rfl, rfl⟩
    go_wp2_with fail
    go_loopg [12] N (fun gk i wr => ∃ j : Nat, j + gk = N ∧ i = .int .i64 j ∧ Hid (Below w0.heap.size w0 wr) ∧ Hid (J (dn ++ (k :: stmL (ps.take j))) wr))
    case atStart => exact ⟨0, by omega, rfl, B1, J1⟩
    case round =>
      clear B1 J1
      obtain ⟨j, hj, rfl, HB, HJ⟩ := hrel
      by_cases hlt : j < N
      · have hjp : j < ps.length := by rw [← HN.out]; exact hlt
        obtain ⟨g, off, p, rfl, hg, hc, hin⟩ := HR.out j hjp
        obtain ⟨hok1, hl1⟩ := HPS.out ps[j] (List.getElem_mem _)
        have hc' := (HB.out.cell (p := ⟨g, off + j, none⟩) hg).trans hc
        have FX := Lib.hid (IH.out ps[j] p _ wr hl1 (by omega) (by
          have h1 := HM.out
          have h2 := stmL_take hjp
          have h3 := stmL_le (ps := ps) (j := j + 1)
          have h4 := congrArg List.length h2
          simp only [List.length_append, List.length_cons] at h1 h4 ⊢
          omega) hok1 hin HB.out HJ.out)
        have hT : dn ++ (k :: stmL (ps.take (j + 1))) = dn ++ (k :: stmL (ps.take j)) ++ stm ps[j] := by rw [stmL_take hjp]; exact (List.append_assoc dn (k :: _) _).symm
        have HT := Lib.hid hT
        clear hin hc hok1 hl1 HB HJ hT
        go_wp2_with fail
        refine FX.out.mono ?_
        rintro e w2 ⟨rfl, hb2, hj2⟩
        have B2 := Lib.hid hb2
        have J2 : Hid (J (dn ++ (k :: stmL (ps.take (j + 1)))) w2) := by rw [HT.out]; exact hj2
        clear hb2 hj2 FX HT
        go_wp2_with fail
        go_roundg (gk - 1)
        case measure => omega
        case rel => exact ⟨j + 1, by omega, by go_num, B2, J2⟩
      · have e : ps.take j = ps := List.take_of_length_le (by rw [← HN.out]; omega)
        rw [e] at HJ
        clear e
        go_wp2_with fail
        go_end0
        exact ⟨rfl, HB.out, HJ.out⟩

end Go.Proofs.Ytppcghklkldnaaa
