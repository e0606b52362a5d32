/- What the program says of programs: size, loops, plainness, what is read and written. -/
import Derived.Test.YtppcghklkldnaaaEa
import Derived.Test.YtppcghklkldnaaaPar
import Derived.Test.YtppcghklkldnaaaVr
import Derived.StillTailTactics
namespace Go.Proofs.Ytppcghklkldnaaa
open Go.RowKit
open Pl

def oI (o : Option Nd) (f : Nd → Nat) : Int :=
  match o with
  | some k => f k
  | none => -1
def oL (o : Option Nd) (f : Nd → List UInt8) : List UInt8 :=
  match o with
  | some k => f k
  | none => []
set_option maxRecDepth 100000 in
set_option maxHeartbeats 1000000 in
theorem indexByte_one (s : ByteArray) (c : UInt8) (w : World) :
    Calls Try.prog 120 #[.string s, .int .u8 (c.toNat : Int)] w fun e w' => e = .returned (.int .i64 (fnd s.data.toList c)) ∧ w = w' := by
  go_enter Try.func120, Try.ntmps120
  go_wp2
  rw [run_callFunc_extern Try.func159 (by kernel_rfl) (by kernel_rfl) (by kernel_rfl) (e := Extern.BytealgIndexByte.indexByte) (by kernel_rfl), Lib.run_indexByteString]
  simp only [Result.andThen]
  rw [Oper.upon_value]
  go_wp2
  go_ret
  exact ⟨ret_int (by rw [indexByte_fnd]), rfl⟩
set_option maxHeartbeats 1000000 in
theorem size1_any (c b m : Nat) (hm : m < 1000000) (W : World) (hk : Blk W c 3 #[.int .i64 (m : Int)]) : Calls Try.prog 74 #[.pointer (some ⟨b, 0, none⟩), .pointer (some ⟨c, 0, none⟩)] W fun e W' => e = .returned (.tuple #[]) ∧ W' = W.setCell ⟨c, 0, none⟩ (.int .i64 ((m : Int) + 1)) := by
  have h0 := hk.cell 0
  have f0 := hk.frozen 0
  simp at h0
  clear hk
  go_enter Try.func74, Try.ntmps74
  go_wp2_with fail
  go_end0
  exact ⟨rfl, rfl⟩
set_option maxHeartbeats 2000000 in
theorem SizeOf_any (S : ByteArray) (hS : S.size ≤ 1000000000000) (w : World) : Calls Try.prog 29 #[.string S] w fun e w' => (e = .returned (.int .i64 (oI (whole false 2 200 S.data.toList) (fun k => (stm k).length))) ∧ Below w.heap.size w w') := by
  have R := Lib.hid (parseProg_any S hS w)
  cases ho : whole false 2 200 S.data.toList with
  | none =>
    rw [ho] at R
    clear ho
    simp only [oI] at R ⊢
    go_enter Try.func29, Try.ntmps29
    go_wp2_with fail
    refine R.out.mono ?_
    rintro e w1 ⟨hb1, rfl⟩
    have B1 := Lib.hid hb1
    clear R hb1
    go_wp2_with fail
    go_ret
    exact ⟨rfl, B1.out⟩
  | some k =>
    rw [ho] at R
    obtain ⟨hl, hk, ht⟩ := (whole_iff (by omega)).1 ho
    rw [ht] at hl
    have EA := Lib.hid (fun w0 b c (hc : w0.heap.size ≤ c) (hin : In w0 k b) W (hB : Below w0.heap.size w0 W) (hJ : Blk W c 3 #[.int .i64 0]) => each_any 74 (enterF Try.func74 (by kernel_rfl) rfl) #[.pointer (some ⟨c, 0, none⟩)] w0 (fun dn W => Blk W c 3 #[.int .i64 (dn.length : Int)]) 200 200
      (fun k b dn W hd _ _ _ hB hJ => (size1_any c b dn.length (by omega) W hJ).mono fun e W' h => ⟨h.1, by rw [h.2]; exact hB.setCell hc _, by
        rw [h.2]
        have := hJ.set_ 0 (.int .i64 ((dn.length : Int) + 1))
        simpa using this⟩) 200 k b [] W hl (by omega) (by have := stm_len k; simp; omega) hk hin hB (by simpa using hJ))
    simp only [oI] at R ⊢
    have hmf : ∀ (f : Fn) (first cap : Array Value) (w : World), (Instr.makeFunc f first cap).run Try.prog w = .ok (.func f first cap) w := fun _ _ _ _ => rfl
    clear ho hl hk ht
    go_enter Try.func29, Try.ntmps29
    go_wp2_with fail
    refine R.out.mono ?_
    rintro e w1 ⟨hb1, b, rfl, hin⟩
    have B1 := Lib.hid hb1
    have I1 := Lib.hid hin
    clear R hb1 hin
    go_wp2_with fail
    refine (EA.out w1 b w1.heap.size (Nat.le_refl _) I1.out _ (below_n _ _) (Blk.new _ _ _)).mono ?_
    rintro e w2 ⟨rfl, hb2, hj2⟩
    have c2 := hj2.cell 0
    simp at c2
    have B2 := Lib.hid (below_2 B1.out hb2)
    clear hb2 hj2 EA
    go_wp2_with fail
    go_ret
    exact ⟨rfl, B2.out⟩
set_option maxRecDepth 100000 in
set_option maxHeartbeats 4000000 in
theorem rds1_any (c : Nat) (k : Nd) (b : Nat) (A : ByteArray) (W : World) (hok : ok false 2 k = true) (hl : k.text.length ≤ 1000) (hA : A.size ≤ 1000000) (hin : In W k b) (hk : Blk W c 9 #[.string A]) :
    Calls Try.prog 81 #[.pointer (some ⟨b, 0, none⟩), .pointer (some ⟨c, 0, none⟩)] W fun e W' => e = .returned (.tuple #[]) ∧ Blk W' c 9 #[.string (A ++ bs (rdsN k))] ∧ Below c W W' := by
  have h0 := hk.cell 0
  have f0 := hk.frozen 0
  simp at h0
  have hst : ∀ n (T : ByteArray), Blk ((W.drewN n).setCell ⟨c, 0, none⟩ (.string (A ++ T))) c 9 #[.string (A ++ T)] ∧ Below c W ((W.drewN n).setCell ⟨c, 0, none⟩ (.string (A ++ T))) := by
    intro n T
    refine ⟨?_, ((Below.refl c W).trans (below_drewN c W n)).setCell (p := ⟨c, 0, none⟩) (Nat.le_refl _) _⟩
    have := (hk.drewN n).set_ 0 (.string (A ++ T))
    simpa using this
  have HS := Lib.hid hst
  have HK := Lib.hid hk
  have e0 : A ++ bs [] = A := by apply ByteArray.ext; simp [bs]
  clear hst hk
  rcases ok2_head hok with rfl | ⟨v, e, rfl, hv, he⟩ | ⟨o, x, y, rfl, ho, hx, hy⟩ | ⟨t, x, y, rfl, ht, hx, hy⟩ | ⟨t, x, rfl, ht, hx⟩ | ⟨t, rfl, ht⟩
  · obtain ⟨_, h1, _⟩ := hin.op
    have hf : rdsN (.n0 115) = [] := rfl
    rw [hf, e0]
    clear hin hok hl hf e0
    simp only [Nd.op, UInt8.reduceToNat] at h1
    go_enter Try.func81, Try.ntmps81
    go_wp2_with fail
    go_end0
    exact ⟨rfl, HK.out, Below.refl _ _⟩
  · obtain ⟨g, cp, pb, qb, ⟨_, h1, h2, _⟩, _, hc2, h5, h6, ip, iq⟩ := hin
    simp only [UInt8.reduceToNat] at h1
    simp only [Nd.text, List.length_cons, List.length_append] at hl
    have t1 : W.cell? ⟨qb, 2, none⟩ = some (.string (bs e.text)) := iq.op.2.2
    have hf : rdsN (.n2 97 (.n0 v) e) = e.text := by first | rfl | simp [rdsN, headN, Nd.op, Nd.text]
    rw [hf]
    have hz : (bs e.text).size ≤ 1000 := by rw [bs_size]; first | omega | (simp; done) | (simp; omega)
    clear hok hl hf e0 ip iq HK
    generalize bs e.text = T at *
    have z0 : ¬ (9223372036854775807 < A.size + T.size) := by omega
    go_enter Try.func81, Try.ntmps81
    go_wp2_with fail
    have f0' : W.drew.frozen? ⟨c, 0, none⟩ = false := f0
    have h0' : W.drew.cell? ⟨c, 0, none⟩ = some (.string A) := h0
    go_still_tail 11, (by kernel_rfl)
    all_goals go_wp2_with fail
    all_goals go_end0
    all_goals exact ⟨rfl, (HS.out 1 T).1, (HS.out 1 T).2⟩
  · obtain ⟨_, h1, _⟩ := hin.op
    have hf : rdsN (.n2 o x y) = [] := by rcases ho with rfl | rfl <;> rfl
    rw [hf, e0]
    clear hin hok hl hx hy hf e0
    rcases ho with rfl | rfl
    all_goals
      simp only [Nd.op, UInt8.reduceToNat] at h1
      go_enter Try.func81, Try.ntmps81
      go_wp2_with fail
      go_end0
      exact ⟨rfl, HK.out, Below.refl _ _⟩
  · obtain ⟨g, cp, pb, qb, rb, ⟨_, h1, h2, _⟩, _, hc2, h5, h6, h7, ip, iq, _⟩ := hin
    simp only [UInt8.reduceToNat] at h1
    simp only [Nd.text, List.length_cons, List.length_append] at hl
    have t1 : W.cell? ⟨pb, 2, none⟩ = some (.string (bs t.text)) := ip.op.2.2
    have hf : rdsN (.n3 63 t x y) = t.text := by first | rfl | simp [rdsN, headN, Nd.op, Nd.text]
    rw [hf]
    have hz : (bs t.text).size ≤ 1000 := by rw [bs_size]; first | omega | (simp; done) | (simp; omega)
    clear hok hl hf e0 ip iq HK
    generalize bs t.text = T at *
    have z0 : ¬ (9223372036854775807 < A.size + T.size) := by omega
    go_enter Try.func81, Try.ntmps81
    go_wp2_with fail
    have f0' : W.drew.frozen? ⟨c, 0, none⟩ = false := f0
    have h0' : W.drew.cell? ⟨c, 0, none⟩ = some (.string A) := h0
    go_still_tail 11, (by kernel_rfl)
    all_goals go_wp2_with fail
    all_goals go_end0
    all_goals exact ⟨rfl, (HS.out 1 T).1, (HS.out 1 T).2⟩
  · obtain ⟨g, cp, pb, qb, ⟨_, h1, h2, _⟩, _, hc2, h5, h6, ip, iq⟩ := hin
    simp only [UInt8.reduceToNat] at h1
    simp only [Nd.text, List.length_cons, List.length_append] at hl
    have t1 : W.cell? ⟨pb, 2, none⟩ = some (.string (bs t.text)) := ip.op.2.2
    have hf : rdsN (.n2 64 t x) = t.text := by first | rfl | simp [rdsN, headN, Nd.op, Nd.text]
    rw [hf]
    have hz : (bs t.text).size ≤ 1000 := by rw [bs_size]; first | omega | (simp; done) | (simp; omega)
    clear hok hl hf e0 ip iq HK
    generalize bs t.text = T at *
    have z0 : ¬ (9223372036854775807 < A.size + T.size) := by omega
    go_enter Try.func81, Try.ntmps81
    go_wp2_with fail
    have f0' : W.drew.frozen? ⟨c, 0, none⟩ = false := f0
    have h0' : W.drew.cell? ⟨c, 0, none⟩ = some (.string A) := h0
    go_still_tail 11, (by kernel_rfl)
    all_goals go_wp2_with fail
    all_goals go_end0
    all_goals exact ⟨rfl, (HS.out 1 T).1, (HS.out 1 T).2⟩
  · obtain ⟨g, cp, pb, _, _, hc2, h1, h2, h5, ip⟩ := hin.op1
    simp only [UInt8.reduceToNat] at h1
    simp only [Nd.text, List.length_cons] at hl
    have t1 : W.cell? ⟨pb, 2, none⟩ = some (.string (bs t.text)) := ip.op.2.2
    have hf : rdsN (.n1 126 t) = t.text := by first | rfl | simp [rdsN, headN, Nd.op, Nd.text]
    rw [hf]
    have hz : (bs t.text).size ≤ 1000 := by rw [bs_size]; first | omega | (simp; done) | (simp; omega)
    clear hok hl hf e0 hin ip HK
    generalize bs t.text = T at *
    have z0 : ¬ (9223372036854775807 < A.size + T.size) := by omega
    go_enter Try.func81, Try.ntmps81
    go_wp2_with fail
    have f0' : W.drew.frozen? ⟨c, 0, none⟩ = false := f0
    have h0' : W.drew.cell? ⟨c, 0, none⟩ = some (.string A) := h0
    go_still_tail 11, (by kernel_rfl)
    all_goals go_wp2_with fail
    all_goals go_end0
    all_goals exact ⟨rfl, (HS.out 1 T).1, (HS.out 1 T).2⟩
set_option maxRecDepth 100000 in
set_option maxHeartbeats 4000000 in
theorem wrs1_any (c : Nat) (k : Nd) (b : Nat) (A : ByteArray) (W : World) (hok : ok false 2 k = true) (hl : k.text.length ≤ 1000) (hA : A.size ≤ 1000000) (hin : In W k b) (hk : Blk W c 9 #[.string A]) :
    Calls Try.prog 83 #[.pointer (some ⟨b, 0, none⟩), .pointer (some ⟨c, 0, none⟩)] W fun e W' => e = .returned (.tuple #[]) ∧ Blk W' c 9 #[.string (A ++ bs (wrsN k))] ∧ Below c W W' := by
  have h0 := hk.cell 0
  have f0 := hk.frozen 0
  simp at h0
  have hst : ∀ n (T : ByteArray), Blk ((W.drewN n).setCell ⟨c, 0, none⟩ (.string (A ++ T))) c 9 #[.string (A ++ T)] ∧ Below c W ((W.drewN n).setCell ⟨c, 0, none⟩ (.string (A ++ T))) := by
    intro n T
    refine ⟨?_, ((Below.refl c W).trans (below_drewN c W n)).setCell (p := ⟨c, 0, none⟩) (Nat.le_refl _) _⟩
    have := (hk.drewN n).set_ 0 (.string (A ++ T))
    simpa using this
  have HS := Lib.hid hst
  have HK := Lib.hid hk
  have e0 : A ++ bs [] = A := by apply ByteArray.ext; simp [bs]
  clear hst hk
  rcases ok2_head hok with rfl | ⟨v, e, rfl, hv, he⟩ | ⟨o, x, y, rfl, ho, hx, hy⟩ | ⟨t, x, y, rfl, ht, hx, hy⟩ | ⟨t, x, rfl, ht, hx⟩ | ⟨t, rfl, ht⟩
  · obtain ⟨_, h1, _⟩ := hin.op
    have hf : wrsN (.n0 115) = [] := rfl
    rw [hf, e0]
    clear hin hok hl hf e0
    simp only [Nd.op, UInt8.reduceToNat] at h1
    go_enter Try.func83, Try.ntmps83
    go_wp2_with fail
    go_end0
    exact ⟨rfl, HK.out, Below.refl _ _⟩
  · obtain ⟨g, cp, pb, qb, ⟨_, h1, h2, _⟩, _, hc2, h5, h6, ip, iq⟩ := hin
    simp only [UInt8.reduceToNat] at h1
    simp only [Nd.text, List.length_cons, List.length_append] at hl
    have t1 : W.cell? ⟨pb, 2, none⟩ = some (.string (bs [v])) := ip.op.2.2
    have hf : wrsN (.n2 97 (.n0 v) e) = [v] := by first | rfl | simp [wrsN, headN, Nd.op, Nd.text]
    rw [hf]
    have hz : (bs [v]).size ≤ 1000 := by rw [bs_size]; first | omega | (simp; done) | (simp; omega)
    clear hok hl hf e0 ip iq HK
    generalize bs [v] = T at *
    have z0 : ¬ (9223372036854775807 < A.size + T.size) := by omega
    go_enter Try.func83, Try.ntmps83
    go_wp2_with fail
    have f0' : W.drew.frozen? ⟨c, 0, none⟩ = false := f0
    have h0' : W.drew.cell? ⟨c, 0, none⟩ = some (.string A) := h0
    go_still_tail 11, (by kernel_rfl)
    all_goals go_wp2_with fail
    all_goals go_end0
    all_goals exact ⟨rfl, (HS.out 1 T).1, (HS.out 1 T).2⟩
  · obtain ⟨_, h1, _⟩ := hin.op
    have hf : wrsN (.n2 o x y) = [] := by rcases ho with rfl | rfl <;> rfl
    rw [hf, e0]
    clear hin hok hl hx hy hf e0
    rcases ho with rfl | rfl
    all_goals
      simp only [Nd.op, UInt8.reduceToNat] at h1
      go_enter Try.func83, Try.ntmps83
      go_wp2_with fail
      go_end0
      exact ⟨rfl, HK.out, Below.refl _ _⟩
  · obtain ⟨_, h1, _⟩ := hin.op
    have hf : wrsN (.n3 63 t x y) = [] := rfl
    rw [hf, e0]
    clear hin hok hl hf e0
    simp only [Nd.op, UInt8.reduceToNat] at h1
    go_enter Try.func83, Try.ntmps83
    go_wp2_with fail
    go_end0
    exact ⟨rfl, HK.out, Below.refl _ _⟩
  · obtain ⟨_, h1, _⟩ := hin.op
    have hf : wrsN (.n2 64 t x) = [] := rfl
    rw [hf, e0]
    clear hin hok hl hf e0
    simp only [Nd.op, UInt8.reduceToNat] at h1
    go_enter Try.func83, Try.ntmps83
    go_wp2_with fail
    go_end0
    exact ⟨rfl, HK.out, Below.refl _ _⟩
  · obtain ⟨_, h1, _⟩ := hin.op
    have hf : wrsN (.n1 126 t) = [] := rfl
    rw [hf, e0]
    clear hin hok hl hf e0
    simp only [Nd.op, UInt8.reduceToNat] at h1
    go_enter Try.func83, Try.ntmps83
    go_wp2_with fail
    go_end0
    exact ⟨rfl, HK.out, Below.refl _ _⟩
set_option maxHeartbeats 2000000 in
theorem ReadsOf_any (S : ByteArray) (hS : S.size ≤ 1000000000000) (w : World) : Calls Try.prog 40 #[.string S] w fun e w' => (e = .returned (.string (bs (oL (whole false 2 200 S.data.toList) (fun k => vars nmsN (catN rdsN (stm k)))))) ∧ Below w.heap.size w w') := by
  have R := Lib.hid (parseProg_any S hS w)
  cases ho : whole false 2 200 S.data.toList with
  | none =>
    rw [ho] at R
    clear ho
    simp only [oL] at R ⊢
    go_enter Try.func40, Try.ntmps40
    go_wp2_with fail
    refine R.out.mono ?_
    rintro e w1 ⟨hb1, rfl⟩
    have B1 := Lib.hid hb1
    clear R hb1
    go_wp2_with fail
    go_ret
    exact ⟨rfl, B1.out⟩
  | some k =>
    rw [ho] at R
    obtain ⟨hl, hk, ht⟩ := (whole_iff (by omega)).1 ho
    rw [ht] at hl
    have EA := Lib.hid (fun w0 b c (hc : w0.heap.size ≤ c) (hin : In w0 k b) W (hB : Below w0.heap.size w0 W) (hJ : Blk W c 9 #[.string ⟨#[]⟩]) => each_any 81 (enterF Try.func81 (by kernel_rfl) rfl) #[.pointer (some ⟨c, 0, none⟩)] w0 (fun dn W => Blk W c 9 #[.string (bs (catN rdsN dn))] ∧ (catN rdsN dn).length ≤ 200 * dn.length) 200 200
      (fun k b dn W hd hl hok hin hB hJ => (rds1_any c k b (bs (catN rdsN dn)) W hok (by omega) (by rw [bs_size]; omega) (hin.below hB (Nat.le_refl _)) hJ.1).mono fun e W' h => ⟨h.1, hB.trans (h.2.2.mono hc), by
        have e1 : bs (catN rdsN dn) ++ bs (rdsN k) = bs (catN rdsN (dn ++ [k])) := by rw [bs_app, catN_append]; simp [catN]
        rw [← e1]; exact h.2.1, by
        have h1 := rds_head k
        have h2 := headN_le k
        rw [catN_append]
        simp only [catN, List.length_append, List.length_cons, List.length_nil]
        omega⟩) 200 k b [] W hl (by omega) (by have := stm_len k; simp; omega) hk hin hB (by exact ⟨hJ, Nat.zero_le _⟩))
    simp only [oL] at R ⊢
    have hmf : ∀ (f : Fn) (first cap : Array Value) (w : World), (Instr.makeFunc f first cap).run Try.prog w = .ok (.func f first cap) w := fun _ _ _ _ => rfl
    clear ho hl hk ht
    go_enter Try.func40, Try.ntmps40
    go_wp2_with fail
    refine R.out.mono ?_
    rintro e w1 ⟨hb1, b, rfl, hin⟩
    have B1 := Lib.hid hb1
    have I1 := Lib.hid hin
    clear R hb1 hin
    go_wp2_with fail
    refine (EA.out w1 b w1.heap.size (Nat.le_refl _) I1.out _ (below_n _ _) (Blk.new _ _ _)).mono ?_
    rintro e w2 ⟨rfl, hb2, hj2⟩
    have c2 := hj2.1.cell 0
    simp at c2
    have B2 := Lib.hid (below_2 B1.out hb2)
    clear hb2 hj2 EA
    go_wp2_with fail
    refine (lettersIn_any _ _).mono ?_
    rintro e w3 ⟨rfl, hb3⟩
    have B3 := Lib.hid (below_2 B2.out hb3)
    clear hb3
    go_wp2_with fail
    go_ret
    exact ⟨rfl, B3.out⟩
set_option maxHeartbeats 2000000 in
theorem WritesOf_any (S : ByteArray) (hS : S.size ≤ 1000000000000) (w : World) : Calls Try.prog 41 #[.string S] w fun e w' => (e = .returned (.string (bs (oL (whole false 2 200 S.data.toList) (fun k => vars nmsN (catN wrsN (stm k)))))) ∧ Below w.heap.size w w') := by
  have R := Lib.hid (parseProg_any S hS w)
  cases ho : whole false 2 200 S.data.toList with
  | none =>
    rw [ho] at R
    clear ho
    simp only [oL] at R ⊢
    go_enter Try.func41, Try.ntmps41
    go_wp2_with fail
    refine R.out.mono ?_
    rintro e w1 ⟨hb1, rfl⟩
    have B1 := Lib.hid hb1
    clear R hb1
    go_wp2_with fail
    go_ret
    exact ⟨rfl, B1.out⟩
  | some k =>
    rw [ho] at R
    obtain ⟨hl, hk, ht⟩ := (whole_iff (by omega)).1 ho
    rw [ht] at hl
    have EA := Lib.hid (fun w0 b c (hc : w0.heap.size ≤ c) (hin : In w0 k b) W (hB : Below w0.heap.size w0 W) (hJ : Blk W c 9 #[.string ⟨#[]⟩]) => each_any 83 (enterF Try.func83 (by kernel_rfl) rfl) #[.pointer (some ⟨c, 0, none⟩)] w0 (fun dn W => Blk W c 9 #[.string (bs (catN wrsN dn))] ∧ (catN wrsN dn).length ≤ 200 * dn.length) 200 200
      (fun k b dn W hd hl hok hin hB hJ => (wrs1_any c k b (bs (catN wrsN dn)) W hok (by omega) (by rw [bs_size]; omega) (hin.below hB (Nat.le_refl _)) hJ.1).mono fun e W' h => ⟨h.1, hB.trans (h.2.2.mono hc), by
        have e1 : bs (catN wrsN dn) ++ bs (wrsN k) = bs (catN wrsN (dn ++ [k])) := by rw [bs_app, catN_append]; simp [catN]
        rw [← e1]; exact h.2.1, by
        have h1 := wrs_head k
        have h2 := headN_le k
        rw [catN_append]
        simp only [catN, List.length_append, List.length_cons, List.length_nil]
        omega⟩) 200 k b [] W hl (by omega) (by have := stm_len k; simp; omega) hk hin hB (by exact ⟨hJ, Nat.zero_le _⟩))
    simp only [oL] at R ⊢
    have hmf : ∀ (f : Fn) (first cap : Array Value) (w : World), (Instr.makeFunc f first cap).run Try.prog w = .ok (.func f first cap) w := fun _ _ _ _ => rfl
    clear ho hl hk ht
    go_enter Try.func41, Try.ntmps41
    go_wp2_with fail
    refine R.out.mono ?_
    rintro e w1 ⟨hb1, b, rfl, hin⟩
    have B1 := Lib.hid hb1
    have I1 := Lib.hid hin
    clear R hb1 hin
    go_wp2_with fail
    refine (EA.out w1 b w1.heap.size (Nat.le_refl _) I1.out _ (below_n _ _) (Blk.new _ _ _)).mono ?_
    rintro e w2 ⟨rfl, hb2, hj2⟩
    have c2 := hj2.1.cell 0
    simp at c2
    have B2 := Lib.hid (below_2 B1.out hb2)
    clear hb2 hj2 EA
    go_wp2_with fail
    refine (lettersIn_any _ _).mono ?_
    rintro e w3 ⟨rfl, hb3⟩
    have B3 := Lib.hid (below_2 B2.out hb3)
    clear hb3
    go_wp2_with fail
    go_ret
    exact ⟨rfl, B3.out⟩
/-- the first letter is one of some -/
def inO (O : ByteArray) (c : UInt8) : Bool := decide (0 ≤ fnd O.data.toList c)
set_option maxHeartbeats 2000000 in
theorem count1_any (O : ByteArray) (c1 c2 m : Nat) (hm : m < 1000000) (k : Nd) (b : Nat) (W : World) (hin : In W k b) (ho : W.cell? ⟨c1, 0, none⟩ = some (.string O)) (hk : Blk W c2 3 #[.int .i64 (m : Int)]) :
    Calls Try.prog 119 #[.pointer (some ⟨b, 0, none⟩), .pointer (some ⟨c1, 0, none⟩), .pointer (some ⟨c2, 0, none⟩)] W fun e W' => e = .returned (.tuple #[]) ∧ Blk W' c2 3 #[.int .i64 ((m + (if inO O k.op then 1 else 0) : Nat) : Int)] ∧ Below c2 W W' := by
  obtain ⟨_, h1, _⟩ := hin.op
  have IB := Lib.hid (indexByte_one O k.op)
  have h0 := hk.cell 0
  have f0 := hk.frozen 0
  simp at h0
  have HK := Lib.hid hk
  obtain ⟨iv, hiv⟩ : ∃ v, inO O k.op = v := ⟨_, rfl⟩
  rw [hiv]
  unfold inO at hiv
  generalize fnd O.data.toList k.op = v at *
  generalize k.op = o at *
  clear hin hk
  cases iv
  · have q1 : ¬ 0 ≤ v := by simpa using hiv
    have HV := Lib.hid hiv
    clear hiv
    go_enter Try.func119, Try.ntmps119
    go_wp2_with fail
    go_quiet ((go_at_call 120; exact quiet_off (IB.out _)))
    go_wp2_with fail
    go_end0
    exact ⟨rfl, HK.out.drewN _, below_drewN _ _ _⟩
  · have q1 : 0 ≤ v := by simpa using hiv
    have HV := Lib.hid hiv
    clear hiv
    go_enter Try.func119, Try.ntmps119
    go_wp2_with fail
    go_quiet ((go_at_call 120; exact quiet_off (IB.out _)))
    go_wp2_with fail
    go_end0
    refine ⟨rfl, ?_, ((Below.refl c2 W).trans (below_drewN c2 W _)).setCell (p := ⟨c2, 0, none⟩) (Nat.le_refl _) _⟩
    have := (HK.out.drewN nq).set_ 0 (.int .i64 ((m : Int) + 1))
    simpa using this
set_option maxHeartbeats 2000000 in
theorem countOp_any (O : ByteArray) (k : Nd) (b : Nat) (w : World) (hok : ok false 2 k = true) (hl : k.text.length ≤ 200) (hin : In w k b) :
    Calls Try.prog 70 #[.pointer (some ⟨b, 0, none⟩), .string O] w fun e w' => e = .returned (.int .i64 (cntN (inO O) (stm k))) ∧ Below w.heap.size w w' := by
  have EA := Lib.hid (fun W (hB : Below w.heap.size w W) (hJ : Blk W (w.heap.size + 1) 3 #[.int .i64 0] ∧ W.cell? ⟨w.heap.size, 0, none⟩ = some (.string O)) =>
    each_any 119 (enterF Try.func119 (by kernel_rfl) rfl) #[.pointer (some ⟨w.heap.size, 0, none⟩), .pointer (some ⟨w.heap.size + 1, 0, none⟩)] w
      (fun dn W => Blk W (w.heap.size + 1) 3 #[.int .i64 (cntN (inO O) dn : Nat)] ∧ W.cell? ⟨w.heap.size, 0, none⟩ = some (.string O)) 200 200
      (fun k b dn W hd _ _ hin hB hJ => (count1_any O w.heap.size (w.heap.size + 1) (cntN (inO O) dn) (by have := cntN_le (inO O) dn; omega) k b W (hin.below hB (Nat.le_refl _)) hJ.2 hJ.1).mono fun e W' h => ⟨h.1, hB.trans (h.2.2.mono (by omega)), by
        rw [cntN_append]
        simpa [cntN] using h.2.1, (h.2.2.cell (p := ⟨w.heap.size, 0, none⟩) (Nat.lt_succ_self _)).trans hJ.2⟩) 200 k b [] W hl (by omega) (by have := stm_len k; simp; omega) hok hin hB hJ)
  have hmf : ∀ (f : Fn) (first cap : Array Value) (w : World), (Instr.makeFunc f first cap).run Try.prog w = .ok (.func f first cap) w := fun _ _ _ _ => rfl
  clear hin hok hl
  go_enter Try.func70, Try.ntmps70
  go_wp2_with fail
  refine (EA.out ((w.alloc (.cells #[.string O] 9)).alloc (.cells #[.int .i64 0] 3)) ((below_n w _).alloc (by simp) _) ⟨?_, ?_⟩).mono ?_
  · have := Blk.new (w.alloc (.cells #[.string O] 9)) 3 #[.int .i64 0]
    simp at this
    exact this
  · simp
  rintro e w2 ⟨rfl, hb2, hj2⟩
  have c2 := hj2.1.cell 0
  simp at c2
  have B2 := Lib.hid hb2
  clear hb2 hj2 EA
  go_wp2_with fail
  go_ret
  exact ⟨rfl, B2.out⟩
def oB (o : Option Nd) (f : Nd → Bool) : Bool :=
  match o with
  | some k => f k
  | none => false
set_option maxHeartbeats 2000000 in
theorem LoopCount_any (S : ByteArray) (hS : S.size ≤ 1000000000000) (w : World) : Calls Try.prog 35 #[.string S] w fun e w' => (e = .returned (.int .i64 (oI (whole false 2 200 S.data.toList) (fun k => cntN (inO ⟨#[64]⟩) (stm k)))) ∧ Below w.heap.size w w') := by
  have R := Lib.hid (parseProg_any S hS w)
  cases ho : whole false 2 200 S.data.toList with
  | none =>
    rw [ho] at R
    clear ho
    simp only [oI] at R ⊢
    go_enter Try.func35, Try.ntmps35
    go_wp2_with fail
    refine R.out.mono ?_
    rintro e w1 ⟨hb1, rfl⟩
    have B1 := Lib.hid hb1
    clear R hb1
    go_wp2_with fail
    go_ret
    exact ⟨rfl, B1.out⟩
  | some k =>
    rw [ho] at R
    obtain ⟨hl, hk, ht⟩ := (whole_iff (by omega)).1 ho
    rw [ht] at hl
    have CO := Lib.hid (fun b w h => countOp_any ⟨#[64]⟩ k b w hk hl h)
    simp only [oI] at R ⊢
    clear ho hl hk ht
    generalize cntN (inO ⟨#[64]⟩) (stm k) = m at *
    go_enter Try.func35, Try.ntmps35
    go_wp2_with fail
    refine R.out.mono ?_
    rintro e w1 ⟨hb1, b, rfl, hin⟩
    have B1 := Lib.hid hb1
    have I1 := Lib.hid hin
    clear R hb1 hin
    go_wp2_with fail
    refine (CO.out _ _ I1.out).mono ?_
    rintro e w2 ⟨rfl, hb2⟩
    have B2 := Lib.hid (below_2 B1.out hb2)
    clear hb2 CO
    go_wp2_with fail
    go_ret
    exact ⟨rfl, B2.out⟩
set_option maxHeartbeats 2000000 in
theorem IsPlain_any (S : ByteArray) (hS : S.size ≤ 1000000000000) (w : World) : Calls Try.prog 24 #[.string S] w fun e w' => (e = .returned (.bool (oB (whole false 2 200 S.data.toList) (fun k => decide (cntN (inO ⟨#[47, 126]⟩) (stm k) = 0)))) ∧ Below w.heap.size w w') := by
  have R := Lib.hid (parseProg_any S hS w)
  cases ho : whole false 2 200 S.data.toList with
  | none =>
    rw [ho] at R
    clear ho
    simp only [oB] at R ⊢
    go_enter Try.func24, Try.ntmps24
    go_wp2_with fail
    refine R.out.mono ?_
    rintro e w1 ⟨hb1, rfl⟩
    have B1 := Lib.hid hb1
    clear R hb1
    go_wp2_with fail
    go_ret
    exact ⟨rfl, B1.out⟩
  | some k =>
    rw [ho] at R
    obtain ⟨hl, hk, ht⟩ := (whole_iff (by omega)).1 ho
    rw [ht] at hl
    have CO := Lib.hid (fun b w h => countOp_any ⟨#[47, 126]⟩ k b w hk hl h)
    simp only [oB] at R ⊢
    clear ho hl hk ht
    generalize cntN (inO ⟨#[47, 126]⟩) (stm k) = m at *
    go_enter Try.func24, Try.ntmps24
    go_wp2_with fail
    refine R.out.mono ?_
    rintro e w1 ⟨hb1, b, rfl, hin⟩
    have B1 := Lib.hid hb1
    have I1 := Lib.hid hin
    clear R hb1 hin
    go_wp2_with fail
    refine (CO.out _ _ I1.out).mono ?_
    rintro e w2 ⟨rfl, hb2⟩
    have B2 := Lib.hid (below_2 B1.out hb2)
    clear hb2 CO
    go_wp2_with fail
    go_ret
    exact ⟨ret_bool (by first | rfl | (simp; done) | (rw [Bool.eq_iff_iff]; simp)), B2.out⟩

end Go.Proofs.Ytppcghklkldnaaa
