/- Rewritings of a statement: the reference's. -/
import Derived.Test.YtelnigihmdlfiaaRw
namespace Go.Proofs.Ytelnigihmdlfiaa
open Go.RowKit
open Pl

theorem op_at {S : ByteArray} {k : Nd} (ht : S.data.toList = k.text) : ∃ h : 0 < S.size, S[0] = k.op := by
  have hz : S.size = k.text.length := by rw [← ht, len_S]
  have hp0 : 0 < S.size := by rw [hz]; exact text_pos k
  refine ⟨hp0, ?_⟩
  have h1 : S.data.toList[0]'(by rw [len_S]; exact hp0) = k.text[0]'(text_pos k) := by simp only [ht]
  have h2 : k.text[0]'(text_pos k) = k.op := by cases k <;> rfl
  exact h1.trans h2
theorem row_form {w : World} {base : Nat} {t : TypeId} {v : Value} {n : Nat} {xs : List Value} (h : w.ownsRow base t 1 v n xs) (hn : 0 < n) : ∃ g cap, v = .slice (some ⟨g, 0, none⟩) n cap ∧ n ≤ cap ∧ g < w.heap.size ∧ base ≤ g := by
  obtain ⟨g, cap, hv, _⟩ := h.form hn
  subst hv
  have hg := h.lt g rfl
  refine ⟨g, cap, rfl, ?_, hg.2, hg.1⟩
  rcases h.2 with ⟨h, _⟩ | ⟨_, _, _, h, _, _, h2, _⟩
  · cases h
  · injection h with _ _ h3; omega

theorem drew_below {w w' : World} (h : ∃ m, w' = w.drewN m) : Below w.heap.size w w' := by obtain ⟨m, rfl⟩ := h; exact below_drewN _ _ _
set_option maxHeartbeats 2000000 in
theorem resultS_any (o : Option Nd) (hok : ∀ k, o = some k → ok false 2 k = true) (w : World) : Calls Try.prog 74 #[.string (bs (optT o)), .bool o.isSome] w fun e w' => (e = .returned (.tuple #[.string (bs (optT (keepS o))), .bool (keepS o).isSome]) ∧ Below w.heap.size w w') := by
  cases o with
  | none =>
    simp only [optT, keepS, Option.isSome_none]
    go_enter Try.func74, Try.ntmps74
    go_wp2_with fail
    go_ret2
    exact ⟨(by first | trivial | rfl), Below.refl _ _⟩
  | some k =>
    simp only [optT, keepS, Option.isSome_some]
    have hk := hok k rfl
    have hz := bs_size k.text
    have R := Lib.hid (ProgramValidS_free (bs k.text) w)
    rw [bs_list, whole_keep hk] at R
    by_cases h2 : k.text.length ≤ 200
    · rw [if_pos h2] at R ⊢
      simp only [Option.isSome_some] at R ⊢
      clear hk hz h2 hok
      generalize bs k.text = K at *
      go_enter Try.func74, Try.ntmps74
      go_wp2_with fail
      refine R.out.mono ?_
      rintro e w1 ⟨rfl, hb1⟩
      have B1 := Lib.hid (drew_below hb1)
      clear R hb1
      go_wp2_with fail
      go_ret2
      exact ⟨(by first | trivial | rfl), B1.out⟩
    · rw [if_neg h2] at R ⊢
      simp only [Option.isSome_none] at R ⊢
      clear hk hz h2 hok
      generalize bs k.text = K at *
      go_enter Try.func74, Try.ntmps74
      go_wp2_with fail
      refine R.out.mono ?_
      rintro e w1 ⟨rfl, hb1⟩
      have B1 := Lib.hid (drew_below hb1)
      clear R hb1
      go_wp2_with fail
      go_ret2
      exact ⟨(by first | trivial | rfl), B1.out⟩
set_option maxRecDepth 100000 in
set_option maxHeartbeats 4000000 in
theorem oneS_swap (S : ByteArray) (hS : S.size ≤ 1000) (k : Nd) (hk : ok false 2 k = true) (ht : S.data.toList = k.text) (w : World) :
    Calls Try.prog 75 #[.string S, .string ⟨#[115, 119, 97, 112]⟩] w fun e w' => (e = .returned (.tuple #[.string (bs (optT (swapN k))), .bool (swapN k).isSome]) ∧ Below w.heap.size w w') := by
  have PT := Lib.hid (fun w => partsS_any S (by omega) false k hk ht w)
  have HT := Lib.hid (fun w => headTextS_any S (by omega) k hk ht w)
  obtain ⟨hp0, hc0⟩ := op_at ht
  have hlen : k.text.length ≤ 1000 := by rw [← ht, len_S]; exact hS
  have hSb := Lib.hid (show S = bs k.text by rw [← ht, bs_of])
  rcases ok2_head hk with rfl | ⟨v, e, rfl, hv, he⟩ | ⟨o, a, b, rfl, ho, ha, hb⟩ | ⟨t, a, b, rfl, h1, h2, h3⟩ | ⟨t, a, rfl, h1, h2⟩ | ⟨t, rfl, h1⟩
  · skip
    simp only [Nd.op] at hc0
    clear ht hk
    try simp only [optT, swapN]
    try simp only [Option.isSome_none]
    go_enter Try.func75, Try.ntmps75
    go_wp2_with fail
    refine (PT.out _).mono ?_
    rintro e w1 ⟨v, rfl, hown, hb⟩
    have B1 := Lib.hid hb
    clear hown hb
    go_wp2_with fail
    go_ret2
    exact ⟨(by first | trivial | rfl), B1.out⟩
  · skip
    simp only [Nd.op] at hc0
    clear ht hk
    try simp only [optT, swapN]
    try simp only [Option.isSome_none]
    go_enter Try.func75, Try.ntmps75
    go_wp2_with fail
    refine (PT.out _).mono ?_
    rintro e w1 ⟨v, rfl, hown, hb⟩
    have B1 := Lib.hid hb
    clear hown hb
    go_wp2_with fail
    go_ret2
    exact ⟨(by first | trivial | rfl), B1.out⟩
  · rcases ho with rfl | rfl
    all_goals
      simp only [Nd.op] at hc0
      clear ht hk
      try simp only [optT, swapN]
      try simp only [Option.isSome_none]
      go_enter Try.func75, Try.ntmps75
      go_wp2_with fail
      refine (PT.out _).mono ?_
      rintro e w1 ⟨v, rfl, hown, hb⟩
      have B1 := Lib.hid hb
      clear hown hb
      go_wp2_with fail
      go_ret2
      exact ⟨(by first | trivial | rfl), B1.out⟩
  · simp only [Nd.op] at hc0
    simp only [show prt (.n3 63 t a b) = [a, b] from rfl] at PT
    simp only [show headN (.n3 63 t a b) = t.text from rfl] at HT
    simp only [Nd.text, List.length_cons, List.length_append] at hlen
    have hr : bs (optT (swapN (.n3 63 t a b))) = (⟨#[63, 33]⟩ : ByteArray) ++ bs t.text ++ bs b.text ++ bs a.text := swap_text t a b
    have hs : (swapN (.n3 63 t a b)).isSome = true := rfl
    rw [hr, hs]
    have s1 : (bs t.text).size ≤ 1000 := by rw [bs_size]; omega
    have s2 : (bs a.text).size ≤ 1000 := by rw [bs_size]; omega
    have s3 : (bs b.text).size ≤ 1000 := by rw [bs_size]; omega
    clear hr hs hlen hk ht h1 h2 h3 hSb
    generalize hT : bs t.text = T at *
    have GT := Lib.hid hT
    clear hT
    generalize hA : bs a.text = A at *
    have GA := Lib.hid hA
    clear hA
    generalize hB : bs b.text = B at *
    have GB := Lib.hid hB
    clear hB
    go_enter Try.func75, Try.ntmps75
    go_wp2_with fail
    refine (PT.out _).mono ?_
    rintro e w1 ⟨v, rfl, hown, hb⟩
    obtain ⟨g, cap, rfl, hcap, hg, hg2⟩ := row_form hown (by simp)
    have c1 : w1.cell? ⟨g, 0, none⟩ = some (.string A) := by rw [← GA.out]; exact hown.cellAt 0 (by simp)
    have c2 : w1.cell? ⟨g, 1, none⟩ = some (.string B) := by rw [← GB.out]; exact hown.cellAt 1 (by simp)
    simp only [List.length_cons, List.length_nil, Nat.zero_add] at hcap
    have B1 := Lib.hid hb
    clear hown hb PT
    have z0 : ¬ (9223372036854775807 < 2 + T.size) := by omega
    have z1 : ¬ (9223372036854775807 < 2 + T.size + B.size) := by omega
    have z2 : ¬ (9223372036854775807 < 2 + T.size + B.size + A.size) := by omega
    go_wp2_with fail
    go_quiet (first | (go_at_call 105; exact Calls.quiet_of (HT.out _)))
    go_wp2_with fail
    go_ret2
    exact ⟨(by first | trivial | rfl), B1.out.trans (below_drewN _ _ _)⟩
  · skip
    simp only [Nd.op] at hc0
    clear ht hk
    try simp only [optT, swapN]
    try simp only [Option.isSome_none]
    go_enter Try.func75, Try.ntmps75
    go_wp2_with fail
    refine (PT.out _).mono ?_
    rintro e w1 ⟨v, rfl, hown, hb⟩
    have B1 := Lib.hid hb
    clear hown hb
    go_wp2_with fail
    go_ret2
    exact ⟨(by first | trivial | rfl), B1.out⟩
  · skip
    simp only [Nd.op] at hc0
    clear ht hk
    try simp only [optT, swapN]
    try simp only [Option.isSome_none]
    go_enter Try.func75, Try.ntmps75
    go_wp2_with fail
    refine (PT.out _).mono ?_
    rintro e w1 ⟨v, rfl, hown, hb⟩
    have B1 := Lib.hid hb
    clear hown hb
    go_wp2_with fail
    go_ret2
    exact ⟨(by first | trivial | rfl), B1.out⟩
set_option maxHeartbeats 2000000 in
theorem SwapBranchesS_any (S : ByteArray) (hS : S.size ≤ 1000000000000) (w : World) : Calls Try.prog 12 #[.string S] w fun e w' => (e = .returned (.tuple #[.string (bs (optT (rewr swapN S.data.toList))), .bool (rewr swapN S.data.toList).isSome]) ∧ Below w.heap.size w w') := by
  have AL : Calls Try.prog 36 #[.string S, .string ⟨#[115, 119, 97, 112]⟩] w fun e w' => (e = .returned (.tuple #[.string (bs (optT (rewr swapN S.data.toList))), .bool (rewr swapN S.data.toList).isSome]) ∧ Below w.heap.size w w') := by
    have R := Lib.hid (ProgramValidS_any S w hS)
    cases ho : whole false 2 200 S.data.toList with
    | none =>
      have hr : rewr swapN S.data.toList = none := by simp [rewr, ho]
      rw [hr]
      rw [ho] at R
      clear ho hr
      simp only [optT, Option.isSome_none] at R ⊢
      go_enter Try.func36, Try.ntmps36
      go_wp2_with fail
      refine R.out.mono ?_
      rintro e w1 ⟨rfl, hb1⟩
      have B1 := Lib.hid (drew_below hb1)
      clear R hb1
      go_wp2_with fail
      go_ret2
      exact ⟨(by first | trivial | rfl), B1.out⟩
    | some k =>
      have hr : rewr swapN S.data.toList = keepS (swapN k) := by simp [rewr, ho]
      rw [hr]
      rw [ho] at R
      simp only [Option.isSome_some] at R
      obtain ⟨hl, hk, ht⟩ := (whole_iff (by omega)).1 ho
      have hz : S.size ≤ 1000 := by have := len_S S; omega
      have FX := Lib.hid (fun w => oneS_swap S hz k hk ht w)
      have RS := Lib.hid (fun w => resultS_any (swapN k) (fun k' h => swapN_ok hk h) w)
      clear ho hr hl hk ht hz
      generalize swapN k = o at *
      generalize keepS o = q at *
      go_enter Try.func36, Try.ntmps36
      go_wp2_with fail
      refine R.out.mono ?_
      rintro e w1 ⟨rfl, hb1⟩
      have B1 := Lib.hid (drew_below hb1)
      clear R hb1
      go_wp2_with fail
      refine (FX.out _).mono ?_
      rintro e w2 ⟨rfl, hb2⟩
      have B2 := Lib.hid (below_2 B1.out hb2)
      clear hb2
      go_wp2_with fail
      refine (RS.out _).mono ?_
      rintro e w3 ⟨rfl, hb3⟩
      have B3 := Lib.hid (below_2 B2.out hb3)
      clear hb3
      go_wp2_with fail
      go_ret2
      exact ⟨(by first | trivial | rfl), B3.out⟩
  have AH := Lib.hid AL
  clear AL
  generalize (rewr swapN S.data.toList) = o at *
  go_enter Try.func12, Try.ntmps12
  go_wp2_with fail
  refine AH.out.mono ?_
  rintro e w1 ⟨rfl, hb1⟩
  have B1 := Lib.hid hb1
  clear hb1
  go_wp2_with fail
  go_ret2
  exact ⟨(by first | trivial | rfl), B1.out⟩
set_option maxRecDepth 100000 in
set_option maxHeartbeats 4000000 in
theorem oneS_unroll (S : ByteArray) (hS : S.size ≤ 1000) (k : Nd) (hk : ok false 2 k = true) (ht : S.data.toList = k.text) (w : World) :
    Calls Try.prog 75 #[.string S, .string ⟨#[117, 110, 114, 111, 108, 108]⟩] w fun e w' => (e = .returned (.tuple #[.string (bs (optT (unrollN k))), .bool (unrollN k).isSome]) ∧ Below w.heap.size w w') := by
  have PT := Lib.hid (fun w => partsS_any S (by omega) false k hk ht w)
  have HT := Lib.hid (fun w => headTextS_any S (by omega) k hk ht w)
  obtain ⟨hp0, hc0⟩ := op_at ht
  have hlen : k.text.length ≤ 1000 := by rw [← ht, len_S]; exact hS
  have hSb := Lib.hid (show S = bs k.text by rw [← ht, bs_of])
  rcases ok2_head hk with rfl | ⟨v, e, rfl, hv, he⟩ | ⟨o, a, b, rfl, ho, ha, hb⟩ | ⟨t, a, b, rfl, h1, h2, h3⟩ | ⟨t, a, rfl, h1, h2⟩ | ⟨t, rfl, h1⟩
  · skip
    simp only [Nd.op] at hc0
    clear ht hk
    try simp only [optT, unrollN]
    try simp only [Option.isSome_none]
    go_enter Try.func75, Try.ntmps75
    go_wp2_with fail
    refine (PT.out _).mono ?_
    rintro e w1 ⟨v, rfl, hown, hb⟩
    have B1 := Lib.hid hb
    clear hown hb
    go_wp2_with fail
    go_ret2
    exact ⟨(by first | trivial | rfl), B1.out⟩
  · skip
    simp only [Nd.op] at hc0
    clear ht hk
    try simp only [optT, unrollN]
    try simp only [Option.isSome_none]
    go_enter Try.func75, Try.ntmps75
    go_wp2_with fail
    refine (PT.out _).mono ?_
    rintro e w1 ⟨v, rfl, hown, hb⟩
    have B1 := Lib.hid hb
    clear hown hb
    go_wp2_with fail
    go_ret2
    exact ⟨(by first | trivial | rfl), B1.out⟩
  · rcases ho with rfl | rfl
    all_goals
      simp only [Nd.op] at hc0
      clear ht hk
      try simp only [optT, unrollN]
      try simp only [Option.isSome_none]
      go_enter Try.func75, Try.ntmps75
      go_wp2_with fail
      refine (PT.out _).mono ?_
      rintro e w1 ⟨v, rfl, hown, hb⟩
      have B1 := Lib.hid hb
      clear hown hb
      go_wp2_with fail
      go_ret2
      exact ⟨(by first | trivial | rfl), B1.out⟩
  · skip
    simp only [Nd.op] at hc0
    clear ht hk
    try simp only [optT, unrollN]
    try simp only [Option.isSome_none]
    go_enter Try.func75, Try.ntmps75
    go_wp2_with fail
    refine (PT.out _).mono ?_
    rintro e w1 ⟨v, rfl, hown, hb⟩
    have B1 := Lib.hid hb
    clear hown hb
    go_wp2_with fail
    go_ret2
    exact ⟨(by first | trivial | rfl), B1.out⟩
  · simp only [Nd.op] at hc0
    simp only [show prt (.n2 64 t a) = [a] from rfl] at PT
    simp only [show headN (.n2 64 t a) = t.text from rfl] at HT
    simp only [Nd.text, List.length_cons, List.length_append] at hlen
    have hr : bs (optT (unrollN (.n2 64 t a))) = (⟨#[63]⟩ : ByteArray) ++ bs t.text ++ ⟨#[59]⟩ ++ bs a.text ++ bs (Nd.n2 64 t a).text ++ ⟨#[115]⟩ := unroll_text t a
    rw [← hSb.out] at hr
    have hs : (unrollN (.n2 64 t a)).isSome = true := rfl
    rw [hr, hs]
    have s1 : (bs t.text).size ≤ 1000 := by rw [bs_size]; omega
    have s2 : (bs a.text).size ≤ 1000 := by rw [bs_size]; omega
    clear hr hs hlen hk ht h1 h2 hSb
    generalize hT : bs t.text = T at *
    have GT := Lib.hid hT
    clear hT
    generalize hA : bs a.text = A at *
    have GA := Lib.hid hA
    clear hA
    go_enter Try.func75, Try.ntmps75
    go_wp2_with fail
    refine (PT.out _).mono ?_
    rintro e w1 ⟨v, rfl, hown, hb⟩
    obtain ⟨g, cap, rfl, hcap, hg, hg2⟩ := row_form hown (by simp)
    have c1 : w1.cell? ⟨g, 0, none⟩ = some (.string A) := by rw [← GA.out]; exact hown.cellAt 0 (by simp)
    simp only [List.length_cons, List.length_nil, Nat.zero_add] at hcap
    have B1 := Lib.hid hb
    clear hown hb PT
    have z0 : ¬ (9223372036854775807 < 1 + T.size) := by omega
    have z1 : ¬ (9223372036854775807 < 1 + T.size + 1) := by omega
    have z2 : ¬ (9223372036854775807 < 1 + T.size + 1 + A.size) := by omega
    have z3 : ¬ (9223372036854775807 < 1 + T.size + 1 + A.size + S.size) := by omega
    have z4 : ¬ (9223372036854775807 < 1 + T.size + 1 + A.size + S.size + 1) := by omega
    go_wp2_with fail
    go_quiet (first | (go_at_call 105; exact Calls.quiet_of (HT.out _)))
    go_wp2_with fail
    go_ret2
    exact ⟨(by first | trivial | rfl), B1.out.trans (below_drewN _ _ _)⟩
  · skip
    simp only [Nd.op] at hc0
    clear ht hk
    try simp only [optT, unrollN]
    try simp only [Option.isSome_none]
    go_enter Try.func75, Try.ntmps75
    go_wp2_with fail
    refine (PT.out _).mono ?_
    rintro e w1 ⟨v, rfl, hown, hb⟩
    have B1 := Lib.hid hb
    clear hown hb
    go_wp2_with fail
    go_ret2
    exact ⟨(by first | trivial | rfl), B1.out⟩
set_option maxHeartbeats 2000000 in
theorem UnrollLoopS_any (S : ByteArray) (hS : S.size ≤ 1000000000000) (w : World) : Calls Try.prog 14 #[.string S] w fun e w' => (e = .returned (.tuple #[.string (bs (optT (rewr unrollN S.data.toList))), .bool (rewr unrollN S.data.toList).isSome]) ∧ Below w.heap.size w w') := by
  have AL : Calls Try.prog 36 #[.string S, .string ⟨#[117, 110, 114, 111, 108, 108]⟩] w fun e w' => (e = .returned (.tuple #[.string (bs (optT (rewr unrollN S.data.toList))), .bool (rewr unrollN S.data.toList).isSome]) ∧ Below w.heap.size w w') := by
    have R := Lib.hid (ProgramValidS_any S w hS)
    cases ho : whole false 2 200 S.data.toList with
    | none =>
      have hr : rewr unrollN S.data.toList = none := by simp [rewr, ho]
      rw [hr]
      rw [ho] at R
      clear ho hr
      simp only [optT, Option.isSome_none] at R ⊢
      go_enter Try.func36, Try.ntmps36
      go_wp2_with fail
      refine R.out.mono ?_
      rintro e w1 ⟨rfl, hb1⟩
      have B1 := Lib.hid (drew_below hb1)
      clear R hb1
      go_wp2_with fail
      go_ret2
      exact ⟨(by first | trivial | rfl), B1.out⟩
    | some k =>
      have hr : rewr unrollN S.data.toList = keepS (unrollN k) := by simp [rewr, ho]
      rw [hr]
      rw [ho] at R
      simp only [Option.isSome_some] at R
      obtain ⟨hl, hk, ht⟩ := (whole_iff (by omega)).1 ho
      have hz : S.size ≤ 1000 := by have := len_S S; omega
      have FX := Lib.hid (fun w => oneS_unroll S hz k hk ht w)
      have RS := Lib.hid (fun w => resultS_any (unrollN k) (fun k' h => unrollN_ok hk h) w)
      clear ho hr hl hk ht hz
      generalize unrollN k = o at *
      generalize keepS o = q at *
      go_enter Try.func36, Try.ntmps36
      go_wp2_with fail
      refine R.out.mono ?_
      rintro e w1 ⟨rfl, hb1⟩
      have B1 := Lib.hid (drew_below hb1)
      clear R hb1
      go_wp2_with fail
      refine (FX.out _).mono ?_
      rintro e w2 ⟨rfl, hb2⟩
      have B2 := Lib.hid (below_2 B1.out hb2)
      clear hb2
      go_wp2_with fail
      refine (RS.out _).mono ?_
      rintro e w3 ⟨rfl, hb3⟩
      have B3 := Lib.hid (below_2 B2.out hb3)
      clear hb3
      go_wp2_with fail
      go_ret2
      exact ⟨(by first | trivial | rfl), B3.out⟩
  have AH := Lib.hid AL
  clear AL
  generalize (rewr unrollN S.data.toList) = o at *
  go_enter Try.func14, Try.ntmps14
  go_wp2_with fail
  refine AH.out.mono ?_
  rintro e w1 ⟨rfl, hb1⟩
  have B1 := Lib.hid hb1
  clear hb1
  go_wp2_with fail
  go_ret2
  exact ⟨(by first | trivial | rfl), B1.out⟩
set_option maxRecDepth 100000 in
set_option maxHeartbeats 4000000 in
theorem oneS_push (S : ByteArray) (hS : S.size ≤ 1000) (k : Nd) (hk : ok false 2 k = true) (ht : S.data.toList = k.text) (w : World) :
    Calls Try.prog 75 #[.string S, .string ⟨#[112, 117, 115, 104]⟩] w fun e w' => (e = .returned (.tuple #[.string (bs (optT (pushN k))), .bool (pushN k).isSome]) ∧ Below w.heap.size w w') := by
  have PT := Lib.hid (fun w => partsS_any S (by omega) false k hk ht w)
  have HT := Lib.hid (fun w => headTextS_any S (by omega) k hk ht w)
  obtain ⟨hp0, hc0⟩ := op_at ht
  have hlen : k.text.length ≤ 1000 := by rw [← ht, len_S]; exact hS
  have hSb := Lib.hid (show S = bs k.text by rw [← ht, bs_of])
  rcases ok2_head hk with rfl | ⟨v, e, rfl, hv, he⟩ | ⟨o, a, b, rfl, ho, ha, hb⟩ | ⟨t, a, b, rfl, h1, h2, h3⟩ | ⟨t, a, rfl, h1, h2⟩ | ⟨t, rfl, h1⟩
  · skip
    simp only [Nd.op] at hc0
    clear ht hk
    try simp only [optT, pushN]
    try simp only [Option.isSome_none]
    go_enter Try.func75, Try.ntmps75
    go_wp2_with fail
    refine (PT.out _).mono ?_
    rintro e w1 ⟨v, rfl, hown, hb⟩
    have B1 := Lib.hid hb
    clear hown hb
    go_wp2_with fail
    go_ret2
    exact ⟨(by first | trivial | rfl), B1.out⟩
  · skip
    simp only [Nd.op] at hc0
    clear ht hk
    try simp only [optT, pushN]
    try simp only [Option.isSome_none]
    go_enter Try.func75, Try.ntmps75
    go_wp2_with fail
    refine (PT.out _).mono ?_
    rintro e w1 ⟨v, rfl, hown, hb⟩
    have B1 := Lib.hid hb
    clear hown hb
    go_wp2_with fail
    go_ret2
    exact ⟨(by first | trivial | rfl), B1.out⟩
  · rcases ho with rfl | rfl
    · simp only [Nd.op] at hc0
      simp only [show prt (.n2 59 a b) = [a, b] from rfl] at PT
      simp only [Nd.text, List.length_cons, List.length_append] at hlen
      have s2 : (bs a.text).size ≤ 1000 := by rw [bs_size]; omega
      have s4 : (bs b.text).size ≤ 1000 := by rw [bs_size]; omega
      obtain ⟨hx0, hxc⟩ := op_at (S := bs a.text) (k := a) rfl
      by_cases hx : ∃ t c d, a = .n3 63 t c d
      · obtain ⟨t, c, d, rfl⟩ := hx
        have PX := Lib.hid (fun w => partsS_any (bs (Nd.n3 63 t c d).text) (by omega) false _ ha rfl w)
        have HX := Lib.hid (fun w => headTextS_any (bs (Nd.n3 63 t c d).text) (by omega) _ ha rfl w)
        simp only [show prt (.n3 63 t c d) = [c, d] from rfl] at PX
        simp only [show headN (.n3 63 t c d) = t.text from rfl] at HX
        simp only [Nd.op] at hxc
        have hr : bs (optT (pushN (.n2 59 (.n3 63 t c d) b))) = (⟨#[63]⟩ : ByteArray) ++ bs t.text ++ ⟨#[59]⟩ ++ bs c.text ++ bs b.text ++ ⟨#[59]⟩ ++ bs d.text ++ bs b.text := push_text t c d b
        have hs : (pushN (.n2 59 (.n3 63 t c d) b)).isSome = true := rfl
        rw [hr, hs]
        have s1 : (bs t.text).size ≤ 1000 := by rw [bs_size]; simp only [Nd.text, List.length_cons, List.length_append] at hlen; omega
        have s3 : (bs c.text).size ≤ 1000 := by rw [bs_size]; simp only [Nd.text, List.length_cons, List.length_append] at hlen; omega
        have s5 : (bs d.text).size ≤ 1000 := by rw [bs_size]; simp only [Nd.text, List.length_cons, List.length_append] at hlen; omega
        clear hr hs hlen hk ht ha hb HT hSb
        generalize hX : bs (Nd.n3 63 t c d).text = X at *
        have GX := Lib.hid hX
        clear hX
        generalize hT : bs t.text = T at *
        have GT := Lib.hid hT
        clear hT
        generalize hA : bs c.text = A at *
        have GA := Lib.hid hA
        clear hA
        generalize hB : bs d.text = B at *
        have GB := Lib.hid hB
        clear hB
        generalize hC : bs b.text = C at *
        have GC := Lib.hid hC
        clear hC
        go_enter Try.func75, Try.ntmps75
        go_wp2_with fail
        refine (PT.out _).mono ?_
        rintro e w1 ⟨v, rfl, hown, hb⟩
        obtain ⟨g, cap, rfl, hcap, hg, hg2⟩ := row_form hown (by simp)
        have c1 : w1.cell? ⟨g, 0, none⟩ = some (.string X) := by rw [← GX.out]; exact hown.cellAt 0 (by simp)
        have c2 : w1.cell? ⟨g, 1, none⟩ = some (.string C) := by rw [← GC.out]; exact hown.cellAt 1 (by simp)
        simp only [List.length_cons, List.length_nil, Nat.zero_add] at hcap
        have B1 := Lib.hid hb
        clear hown hb PT
        go_wp2_with fail
        refine (PX.out _).mono ?_
        rintro e w2 ⟨v2, rfl, hown2, hb2⟩
        obtain ⟨g2, cap2, rfl, hcap2, hg3, hg4⟩ := row_form hown2 (by simp)
        have c3 : w2.cell? ⟨g2, 0, none⟩ = some (.string A) := by rw [← GA.out]; exact hown2.cellAt 0 (by simp)
        have c4 : w2.cell? ⟨g2, 1, none⟩ = some (.string B) := by rw [← GB.out]; exact hown2.cellAt 1 (by simp)
        simp only [List.length_cons, List.length_nil, Nat.zero_add] at hcap2
        replace c1 := (hb2.cell (p := ⟨g, 0, none⟩) hg).trans c1
        replace c2 := (hb2.cell (p := ⟨g, 1, none⟩) hg).trans c2
        have B2 := Lib.hid (below_2 B1.out hb2)
        clear hown2 hb2 PX
        have z0 : ¬ (9223372036854775807 < 1 + T.size) := by omega
        have z1 : ¬ (9223372036854775807 < 1 + T.size + 1) := by omega
        have z2 : ¬ (9223372036854775807 < 1 + T.size + 1 + A.size) := by omega
        have z3 : ¬ (9223372036854775807 < 1 + T.size + 1 + A.size + C.size) := by omega
        have z4 : ¬ (9223372036854775807 < 1 + T.size + 1 + A.size + C.size + 1) := by omega
        have z5 : ¬ (9223372036854775807 < 1 + T.size + 1 + A.size + C.size + 1 + B.size) := by omega
        have z6 : ¬ (9223372036854775807 < 1 + T.size + 1 + A.size + C.size + 1 + B.size + C.size) := by omega
        go_wp2_with fail
        go_quiet (first | (go_at_call 105; exact Calls.quiet_of (HX.out _)))
        go_wp2_with fail
        go_ret2
        exact ⟨(by first | trivial | rfl), B2.out.trans (below_drewN _ _ _)⟩
      · have hop := op_ne63 ha (fun t a b h => hx ⟨t, a, b, h⟩)
        have hr : pushN (.n2 59 a b) = none := by
          cases a with
          | n3 o t a b =>
            simp only [ok, Bool.and_eq_true, beq_iff_eq] at ha
            obtain ⟨rfl, _⟩ := ha
            exact absurd ⟨t, a, b, rfl⟩ hx
          | n0 | n1 | n2 => rfl
        rw [hr]
        have e1 := u8_ne 63 hop (by decide)
        simp only [Int.cast_ofNat_Int] at e1
        have e2 : ((a.op.toNat : Int) != 63) = true := by simpa using e1
        generalize a.op = xo at *
        simp only [optT, Option.isSome_none]
        clear hr hx ha hb hk hlen ht hop hSb
        generalize hX : bs a.text = X at *
        have GX := Lib.hid hX
        clear hX
        go_enter Try.func75, Try.ntmps75
        go_wp2_with fail
        refine (PT.out _).mono ?_
        rintro e w1 ⟨v, rfl, hown, hb⟩
        obtain ⟨g, cap, rfl, hcap, hg, hg2⟩ := row_form hown (by simp)
        have c1 : w1.cell? ⟨g, 0, none⟩ = some (.string X) := by rw [← GX.out]; exact hown.cellAt 0 (by simp)
        simp only [List.length_cons, List.length_nil, Nat.zero_add] at hcap
        have B1 := Lib.hid hb
        clear hown hb PT
        go_wp2_with fail
        go_ret2
        exact ⟨(by first | trivial | rfl), B1.out⟩
    · have hr : pushN (.n2 47 a b) = none := by cases a <;> rfl
      rw [hr]
      simp only [Nd.op] at hc0
      clear ht hk
      try simp only [optT]
      try simp only [Option.isSome_none]
      go_enter Try.func75, Try.ntmps75
      go_wp2_with fail
      refine (PT.out _).mono ?_
      rintro e w1 ⟨v, rfl, hown, hb⟩
      have B1 := Lib.hid hb
      clear hown hb
      go_wp2_with fail
      go_ret2
      exact ⟨(by first | trivial | rfl), B1.out⟩
  · skip
    simp only [Nd.op] at hc0
    clear ht hk
    try simp only [optT, pushN]
    try simp only [Option.isSome_none]
    go_enter Try.func75, Try.ntmps75
    go_wp2_with fail
    refine (PT.out _).mono ?_
    rintro e w1 ⟨v, rfl, hown, hb⟩
    have B1 := Lib.hid hb
    clear hown hb
    go_wp2_with fail
    go_ret2
    exact ⟨(by first | trivial | rfl), B1.out⟩
  · skip
    have hr : pushN (.n2 64 t a) = none := by cases t <;> rfl
    rw [hr]
    clear hr
    simp only [Nd.op] at hc0
    clear ht hk
    try simp only [optT]
    try simp only [Option.isSome_none]
    go_enter Try.func75, Try.ntmps75
    go_wp2_with fail
    refine (PT.out _).mono ?_
    rintro e w1 ⟨v, rfl, hown, hb⟩
    have B1 := Lib.hid hb
    clear hown hb
    go_wp2_with fail
    go_ret2
    exact ⟨(by first | trivial | rfl), B1.out⟩
  · skip
    simp only [Nd.op] at hc0
    clear ht hk
    try simp only [optT, pushN]
    try simp only [Option.isSome_none]
    go_enter Try.func75, Try.ntmps75
    go_wp2_with fail
    refine (PT.out _).mono ?_
    rintro e w1 ⟨v, rfl, hown, hb⟩
    have B1 := Lib.hid hb
    clear hown hb
    go_wp2_with fail
    go_ret2
    exact ⟨(by first | trivial | rfl), B1.out⟩
set_option maxHeartbeats 2000000 in
theorem PushAfterS_any (S : ByteArray) (hS : S.size ≤ 1000000000000) (w : World) : Calls Try.prog 16 #[.string S] w fun e w' => (e = .returned (.tuple #[.string (bs (optT (rewr pushN S.data.toList))), .bool (rewr pushN S.data.toList).isSome]) ∧ Below w.heap.size w w') := by
  have AL : Calls Try.prog 36 #[.string S, .string ⟨#[112, 117, 115, 104]⟩] w fun e w' => (e = .returned (.tuple #[.string (bs (optT (rewr pushN S.data.toList))), .bool (rewr pushN S.data.toList).isSome]) ∧ Below w.heap.size w w') := by
    have R := Lib.hid (ProgramValidS_any S w hS)
    cases ho : whole false 2 200 S.data.toList with
    | none =>
      have hr : rewr pushN S.data.toList = none := by simp [rewr, ho]
      rw [hr]
      rw [ho] at R
      clear ho hr
      simp only [optT, Option.isSome_none] at R ⊢
      go_enter Try.func36, Try.ntmps36
      go_wp2_with fail
      refine R.out.mono ?_
      rintro e w1 ⟨rfl, hb1⟩
      have B1 := Lib.hid (drew_below hb1)
      clear R hb1
      go_wp2_with fail
      go_ret2
      exact ⟨(by first | trivial | rfl), B1.out⟩
    | some k =>
      have hr : rewr pushN S.data.toList = keepS (pushN k) := by simp [rewr, ho]
      rw [hr]
      rw [ho] at R
      simp only [Option.isSome_some] at R
      obtain ⟨hl, hk, ht⟩ := (whole_iff (by omega)).1 ho
      have hz : S.size ≤ 1000 := by have := len_S S; omega
      have FX := Lib.hid (fun w => oneS_push S hz k hk ht w)
      have RS := Lib.hid (fun w => resultS_any (pushN k) (fun k' h => pushN_ok hk h) w)
      clear ho hr hl hk ht hz
      generalize pushN k = o at *
      generalize keepS o = q at *
      go_enter Try.func36, Try.ntmps36
      go_wp2_with fail
      refine R.out.mono ?_
      rintro e w1 ⟨rfl, hb1⟩
      have B1 := Lib.hid (drew_below hb1)
      clear R hb1
      go_wp2_with fail
      refine (FX.out _).mono ?_
      rintro e w2 ⟨rfl, hb2⟩
      have B2 := Lib.hid (below_2 B1.out hb2)
      clear hb2
      go_wp2_with fail
      refine (RS.out _).mono ?_
      rintro e w3 ⟨rfl, hb3⟩
      have B3 := Lib.hid (below_2 B2.out hb3)
      clear hb3
      go_wp2_with fail
      go_ret2
      exact ⟨(by first | trivial | rfl), B3.out⟩
  have AH := Lib.hid AL
  clear AL
  generalize (rewr pushN S.data.toList) = o at *
  go_enter Try.func16, Try.ntmps16
  go_wp2_with fail
  refine AH.out.mono ?_
  rintro e w1 ⟨rfl, hb1⟩
  have B1 := Lib.hid hb1
  clear hb1
  go_wp2_with fail
  go_ret2
  exact ⟨(by first | trivial | rfl), B1.out⟩

end Go.Proofs.Ytelnigihmdlfiaa
