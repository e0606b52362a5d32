/- The reference's values and truths: the contracts of l1Value and l1Holds. -/
import Derived.Test.YtndlhdmpfnadcaaGreatDoorSpa
import Derived.Test.YtndlhdmpfnadcaaGreatDoorGb
import Derived.Test.YtndlhdmpfnadcaaGreatDoorTree
namespace Go.Proofs.YtndlhdmpfnadcaaGreatDoor
open Go.RowKit
open Pl

theorem find_w (c : UInt8) (v : Int) (h : fnd nmsW c = v) : ∀ W, Calls Tryz.prog 87 #[.string ⟨#[120, 121, 122, 88, 89, 90]⟩, .int .u8 c.toNat] W fun e w' => e = .returned (.int .i64 v) ∧ W = w' := by
  intro W
  have := find_any ⟨#[120, 121, 122, 88, 89, 90]⟩ c (by decide) W
  rw [show (⟨#[120, 121, 122, 88, 89, 90]⟩ : ByteArray).data.toList = nmsW from rfl, h] at this
  exact this

set_option maxHeartbeats 1000000 in
theorem valueS_120 (S : ByteArray) (hS : S.size ≤ 1000000) (x y z X Y Z : Int) (p : Nat) (w : World) (hp : p < S.size) (hc : S[p] = 120) :
    Calls Tryz.prog 84 #[.string S, .int .i64 (p : Int), .agg #[.int .i64 x, .int .i64 y, .int .i64 z, .int .i64 X, .int .i64 Y, .int .i64 Z]] w fun e w' => (e = .returned (.tuple #[.int .i64 x, .int .i64 ((p : Int) + 1)]) ∧ Below w.heap.size w w') := by
  have HF := Lib.hid (find_w 120 0 (by decide))
  go_enter Tryz.func84, Tryz.ntmps84
  go_wp2_with fail
  refine (HF.out _).mono ?_
  rintro e w' ⟨rfl, rfl⟩
  go_wp2_with fail
  go_ret2
  exact ⟨rfl, (Below.refl _ _).alloc (Nat.le_refl _) _⟩

set_option maxHeartbeats 1000000 in
theorem valueS_121 (S : ByteArray) (hS : S.size ≤ 1000000) (x y z X Y Z : Int) (p : Nat) (w : World) (hp : p < S.size) (hc : S[p] = 121) :
    Calls Tryz.prog 84 #[.string S, .int .i64 (p : Int), .agg #[.int .i64 x, .int .i64 y, .int .i64 z, .int .i64 X, .int .i64 Y, .int .i64 Z]] w fun e w' => (e = .returned (.tuple #[.int .i64 y, .int .i64 ((p : Int) + 1)]) ∧ Below w.heap.size w w') := by
  have HF := Lib.hid (find_w 121 1 (by decide))
  go_enter Tryz.func84, Tryz.ntmps84
  go_wp2_with fail
  refine (HF.out _).mono ?_
  rintro e w' ⟨rfl, rfl⟩
  go_wp2_with fail
  go_ret2
  exact ⟨rfl, (Below.refl _ _).alloc (Nat.le_refl _) _⟩

set_option maxHeartbeats 1000000 in
theorem valueS_122 (S : ByteArray) (hS : S.size ≤ 1000000) (x y z X Y Z : Int) (p : Nat) (w : World) (hp : p < S.size) (hc : S[p] = 122) :
    Calls Tryz.prog 84 #[.string S, .int .i64 (p : Int), .agg #[.int .i64 x, .int .i64 y, .int .i64 z, .int .i64 X, .int .i64 Y, .int .i64 Z]] w fun e w' => (e = .returned (.tuple #[.int .i64 z, .int .i64 ((p : Int) + 1)]) ∧ Below w.heap.size w w') := by
  have HF := Lib.hid (find_w 122 2 (by decide))
  go_enter Tryz.func84, Tryz.ntmps84
  go_wp2_with fail
  refine (HF.out _).mono ?_
  rintro e w' ⟨rfl, rfl⟩
  go_wp2_with fail
  go_ret2
  exact ⟨rfl, (Below.refl _ _).alloc (Nat.le_refl _) _⟩

set_option maxHeartbeats 1000000 in
theorem valueS_88 (S : ByteArray) (hS : S.size ≤ 1000000) (x y z X Y Z : Int) (p : Nat) (w : World) (hp : p < S.size) (hc : S[p] = 88) :
    Calls Tryz.prog 84 #[.string S, .int .i64 (p : Int), .agg #[.int .i64 x, .int .i64 y, .int .i64 z, .int .i64 X, .int .i64 Y, .int .i64 Z]] w fun e w' => (e = .returned (.tuple #[.int .i64 X, .int .i64 ((p : Int) + 1)]) ∧ Below w.heap.size w w') := by
  have HF := Lib.hid (find_w 88 3 (by decide))
  go_enter Tryz.func84, Tryz.ntmps84
  go_wp2_with fail
  refine (HF.out _).mono ?_
  rintro e w' ⟨rfl, rfl⟩
  go_wp2_with fail
  go_ret2
  exact ⟨rfl, (Below.refl _ _).alloc (Nat.le_refl _) _⟩

set_option maxHeartbeats 1000000 in
theorem valueS_89 (S : ByteArray) (hS : S.size ≤ 1000000) (x y z X Y Z : Int) (p : Nat) (w : World) (hp : p < S.size) (hc : S[p] = 89) :
    Calls Tryz.prog 84 #[.string S, .int .i64 (p : Int), .agg #[.int .i64 x, .int .i64 y, .int .i64 z, .int .i64 X, .int .i64 Y, .int .i64 Z]] w fun e w' => (e = .returned (.tuple #[.int .i64 Y, .int .i64 ((p : Int) + 1)]) ∧ Below w.heap.size w w') := by
  have HF := Lib.hid (find_w 89 4 (by decide))
  go_enter Tryz.func84, Tryz.ntmps84
  go_wp2_with fail
  refine (HF.out _).mono ?_
  rintro e w' ⟨rfl, rfl⟩
  go_wp2_with fail
  go_ret2
  exact ⟨rfl, (Below.refl _ _).alloc (Nat.le_refl _) _⟩

set_option maxHeartbeats 1000000 in
theorem valueS_90 (S : ByteArray) (hS : S.size ≤ 1000000) (x y z X Y Z : Int) (p : Nat) (w : World) (hp : p < S.size) (hc : S[p] = 90) :
    Calls Tryz.prog 84 #[.string S, .int .i64 (p : Int), .agg #[.int .i64 x, .int .i64 y, .int .i64 z, .int .i64 X, .int .i64 Y, .int .i64 Z]] w fun e w' => (e = .returned (.tuple #[.int .i64 Z, .int .i64 ((p : Int) + 1)]) ∧ Below w.heap.size w w') := by
  have HF := Lib.hid (find_w 90 5 (by decide))
  go_enter Tryz.func84, Tryz.ntmps84
  go_wp2_with fail
  refine (HF.out _).mono ?_
  rintro e w' ⟨rfl, rfl⟩
  go_wp2_with fail
  go_ret2
  exact ⟨rfl, (Below.refl _ _).alloc (Nat.le_refl _) _⟩

set_option maxHeartbeats 1000000 in
theorem valueS_dig (S : ByteArray) (hS : S.size ≤ 1000000) (x y z X Y Z : Int) (p : Nat) (w : World) (c : UInt8) (hp : p < S.size) (hc : S[p] = c) (hd : isD c = true) :
    Calls Tryz.prog 84 #[.string S, .int .i64 (p : Int), .agg #[.int .i64 x, .int .i64 y, .int .i64 z, .int .i64 X, .int .i64 Y, .int .i64 Z]] w fun e w' => (e = .returned (.tuple #[.int .i64 ((c.toNat : Int) - 48), .int .i64 ((p : Int) + 1)]) ∧ Below w.heap.size w w') := by
  have hr := isD_range hd
  obtain ⟨r1, r2⟩ := hr
  have hv : isV true c = false := by
    cases hv : isV true c
    · rfl
    · have := isV_cases hv; omega
  have HF := Lib.hid (find_w c (-1) (fnd_nmsW_neg hv))
  clear hv hd
  go_enter Tryz.func84, Tryz.ntmps84
  go_wp2_with fail
  refine (HF.out _).mono ?_
  rintro e w' ⟨rfl, rfl⟩
  go_wp2_with fail
  go_ret2
  exact ⟨rfl, (Below.refl _ _).alloc (Nat.le_refl _) _⟩

set_option maxHeartbeats 4000000 in
theorem valueS_any (S : ByteArray) (hS : S.size ≤ 1000000) (x y z X Y Z : Int) (hx : small x) (hy : small y) (hz : small z) (hX : small X) (hY : small Y) (hZ : small Z) (wd : Bool) :
    ∀ (k : Nd) (p : Nat) (r : List UInt8) (w : World), ok wd 0 k = true → S.data.toList.drop p = k.text ++ r →
    Calls Tryz.prog 84 #[.string S, .int .i64 (p : Int), .agg #[.int .i64 x, .int .i64 y, .int .i64 z, .int .i64 X, .int .i64 Y, .int .i64 Z]] w fun e w' =>
      (e = .returned (.tuple #[.int .i64 (val (envOf x y z X Y Z) k), .int .i64 ((p : Int) + k.text.length)]) ∧ Below w.heap.size w w') := by
  have hlen := len_S S
  intro k
  induction k with
  | n0 c =>
    intro p r w hok hd
    have hp : p < S.size := by
      have := congrArg List.length hd
      simp [Nd.text] at this
      omega
    have hc : S[p] = c := by
      have h1 := drop_cons hp
      rw [hd] at h1
      simp [Nd.text] at h1
      exact h1.1.symm
    simp only [ok, Bool.or_eq_true] at hok
    by_cases hdg : isD c = true
    · have hval : val (envOf x y z X Y Z) (.n0 c) = (c.toNat : Int) - 48 := by simp [val, hdg]
      rw [hval]
      exact valueS_dig S hS x y z X Y Z p w c hp hc hdg
    · have hv : isV true c = true := by
        have h1 := hok.resolve_right hdg
        simp only [isV, Bool.or_eq_true, Bool.and_eq_true] at h1 ⊢
        rcases h1 with h1 | h1
        · exact .inl h1
        · exact .inr ⟨trivial, h1.2⟩
      have hval : val (envOf x y z X Y Z) (.n0 c) = envOf x y z X Y Z c := by simp [val, hdg]
      rw [hval]
      rcases fnd_nmsW hv with ⟨_, rfl⟩ | ⟨_, rfl⟩ | ⟨_, rfl⟩ | ⟨_, rfl⟩ | ⟨_, rfl⟩ | ⟨_, rfl⟩
      · exact valueS_120 S hS x y z X Y Z p w hp hc
      · exact valueS_121 S hS x y z X Y Z p w hp hc
      · exact valueS_122 S hS x y z X Y Z p w hp hc
      · exact valueS_88 S hS x y z X Y Z p w hp hc
      · exact valueS_89 S hS x y z X Y Z p w hp hc
      · exact valueS_90 S hS x y z X Y Z p w hp hc
  | n1 | n3 => intro p r w hok; simp [ok] at hok
  | n2 o a b iha ihb =>
    intro p r w hok hd
    simp only [ok, Bool.and_eq_true] at hok
    obtain ⟨ho, ha, hb⟩ := hok
    simp only [Nd.text, List.cons_append, List.append_assoc] at hd
    have hll := congrArg List.length hd
    simp only [List.length_drop, List.length_cons, List.length_append] at hll
    have hp : p < S.size := by omega
    have hc : S[p] = o ∧ S.data.toList.drop (p + 1) = a.text ++ (b.text ++ r) := by
      have h1 := drop_cons hp
      rw [hd] at h1
      simp only [List.cons.injEq] at h1
      exact ⟨h1.1.symm, h1.2.symm⟩
    obtain ⟨hc, hd1⟩ := hc
    have hd2 : S.data.toList.drop (p + 1 + a.text.length) = b.text ++ r := by rw [← List.drop_drop, hd1]; simp
    obtain ⟨sa1, sa2⟩ := val_small (envOf_small hx hy hz hX hY hZ) a
    obtain ⟨sb1, sb2⟩ := val_small (envOf_small hx hy hz hX hY hZ) b
    have hv : isV true o = false := by rcases isO_cases ho with rfl | rfl | rfl <;> rfl
    have HF := Lib.hid (find_w o (-1) (fnd_nmsW_neg hv))
    have A1 := Lib.hid (fun w => iha (p + 1) (b.text ++ r) w ha hd1)
    have B1 := Lib.hid (fun w => ihb (p + 1 + a.text.length) r w hb hd2)
    have ql : p + 1 + a.text.length + b.text.length ≤ S.size := by omega
    have qf : (p : Int) + (Nd.n2 o a b).text.length = (p : Int) + 1 + a.text.length + b.text.length := by simp [Nd.text]; omega
    rw [qf]
    have hval : val (envOf x y z X Y Z) (.n2 o a b) = if o == 43 then (val (envOf x y z X Y Z) a + val (envOf x y z X Y Z) b) % 3 else if o == 45 then (val (envOf x y z X Y Z) a - val (envOf x y z X Y Z) b + 3) % 3 else val (envOf x y z X Y Z) a * val (envOf x y z X Y Z) b % 3 := rfl
    rw [hval]
    clear hd hd1 hd2 hll iha ihb hv qf hval hlen
    generalize a.text.length = la at *
    generalize b.text.length = lb at *
    generalize hva : val (envOf x y z X Y Z) a = va at *
    generalize hvb : val (envOf x y z X Y Z) b = vb at *
    have m1 : 0 ≤ va * vb := Int.mul_nonneg sa1 sb1
    have m2 : va * vb ≤ 4 := by
      have := Int.mul_le_mul sa2 sb2 sb1 (by omega : (0 : Int) ≤ 2)
      omega
    clear hva hvb
    rcases isO_cases ho with rfl | rfl | rfl
    all_goals
      clear ho
      go_enter Tryz.func84, Tryz.ntmps84
      go_wp2_with fail
      refine (HF.out _).mono ?_
      rintro e w' ⟨rfl, rfl⟩
      go_wp2_with fail
      refine (A1.out _).mono ?_
      rintro e w1 ⟨rfl, hb1⟩
      have k1 : Blk w1 w.heap.size 90 #[.int .i64 x, .int .i64 y, .int .i64 z, .int .i64 X, .int .i64 Y, .int .i64 Z] := (Blk.new w _ _).below hb1 (by simp)
      have d0 := k1.cell 0
      have d1 := k1.cell 1
      have d2 := k1.cell 2
      have d3 := k1.cell 3
      have d4 := k1.cell 4
      have d5 := k1.cell 5
      simp at d0 d1 d2 d3 d4 d5
      clear k1
      go_wp2_with fail
      refine (B1.out _).mono ?_
      rintro e w2 ⟨rfl, hb2⟩
      clear d0 d1 d2 d3 d4 d5
      go_wp2_with fail
      go_ret2
      exact ⟨(by first | trivial | rfl), ((Below.refl _ _).alloc (Nat.le_refl _) _).trans ((hb1.mono (by simp)).trans (hb2.mono (by have := hb1.size; simp at this; omega)))⟩
set_option maxHeartbeats 4000000 in
theorem holdsS_any (S : ByteArray) (hS : S.size ≤ 1000000) (x y z X Y Z : Int) (hx : small x) (hy : small y) (hz : small z) (hX : small X) (hY : small Y) (hZ : small Z) (wd : Bool) :
    ∀ (k : Nd) (p : Nat) (r : List UInt8) (w : World), ok wd 1 k = true → S.data.toList.drop p = k.text ++ r →
    Calls Tryz.prog 59 #[.string S, .int .i64 (p : Int), .agg #[.int .i64 x, .int .i64 y, .int .i64 z, .int .i64 X, .int .i64 Y, .int .i64 Z]] w fun e w' =>
      (e = .returned (.tuple #[.bool (tru (envOf x y z X Y Z) k), .int .i64 ((p : Int) + k.text.length)]) ∧ Below w.heap.size w w') := by
  have hlen := len_S S
  intro k
  induction k with
  | n0 c =>
    intro p r w hok hd
    have hp : p < S.size := by
      have := congrArg List.length hd
      simp [Nd.text] at this
      omega
    have hc : S[p] = c := by
      have h1 := drop_cons hp
      rw [hd] at h1
      simp [Nd.text] at h1
      exact h1.1.symm
    simp only [ok, Bool.or_eq_true, beq_iff_eq] at hok
    clear hd hlen
    rcases hok with rfl | rfl
    all_goals
      go_enter Tryz.func59, Tryz.ntmps59
      go_wp2_with fail
      go_ret2
      exact ⟨(by first | trivial | rfl), (Below.refl _ _).alloc (Nat.le_refl _) _⟩
  | n1 o a iha =>
    intro p r w hok hd
    simp only [ok, Bool.and_eq_true, beq_iff_eq] at hok
    obtain ⟨rfl, ha⟩ := hok
    simp only [Nd.text, List.cons_append] at hd
    have hll := congrArg List.length hd
    simp only [List.length_drop, List.length_cons, List.length_append] at hll
    have hp : p < S.size := by omega
    have hc : S[p] = 33 ∧ S.data.toList.drop (p + 1) = a.text ++ r := by
      have h1 := drop_cons hp
      rw [hd] at h1
      simp only [List.cons.injEq] at h1
      exact ⟨h1.1.symm, h1.2.symm⟩
    obtain ⟨hc, hd1⟩ := hc
    have A1 := Lib.hid (fun w => iha (p + 1) r w ha hd1)
    have ql : p + 1 + a.text.length ≤ S.size := by omega
    have qf : (p : Int) + (Nd.n1 33 a).text.length = (p : Int) + 1 + a.text.length := by simp [Nd.text]; omega
    rw [qf]
    clear hd hd1 hll iha qf hlen
    generalize a.text.length = la at *
    have htv : tru (envOf x y z X Y Z) (.n1 33 a) = !tru (envOf x y z X Y Z) a := rfl
    rw [htv]
    clear htv
    generalize tru (envOf x y z X Y Z) a = va at *
    go_enter Tryz.func59, Tryz.ntmps59
    go_wp2_with fail
    refine (A1.out _).mono ?_
    rintro e w1 ⟨rfl, hb1⟩
    go_wp2_with fail
    go_ret2
    exact ⟨(by first | trivial | rfl), ((Below.refl _ _).alloc (Nat.le_refl _) _).trans (hb1.mono (by simp))⟩
  | n3 => intro p r w hok; simp [ok] at hok
  | n2 o a b iha ihb =>
    intro p r w hok hd
    simp only [ok, Bool.and_eq_true, Bool.or_eq_true, beq_iff_eq] at hok
    simp only [Nd.text, List.cons_append, List.append_assoc] at hd
    have hll := congrArg List.length hd
    simp only [List.length_drop, List.length_cons, List.length_append] at hll
    have hp : p < S.size := by omega
    have hc : S[p] = o ∧ S.data.toList.drop (p + 1) = a.text ++ (b.text ++ r) := by
      have h1 := drop_cons hp
      rw [hd] at h1
      simp only [List.cons.injEq] at h1
      exact ⟨h1.1.symm, h1.2.symm⟩
    obtain ⟨hc, hd1⟩ := hc
    have hd2 : S.data.toList.drop (p + 1 + a.text.length) = b.text ++ r := by rw [← List.drop_drop, hd1]; simp
    have ql : p + 1 + a.text.length + b.text.length ≤ S.size := by omega
    have qf : (p : Int) + (Nd.n2 o a b).text.length = (p : Int) + 1 + a.text.length + b.text.length := by simp [Nd.text]; omega
    rw [qf]
    have htv : tru (envOf x y z X Y Z) (.n2 o a b) = if o == 61 then val (envOf x y z X Y Z) a == val (envOf x y z X Y Z) b else if o == 60 then decide (val (envOf x y z X Y Z) a < val (envOf x y z X Y Z) b) else if o == 38 then tru (envOf x y z X Y Z) a && tru (envOf x y z X Y Z) b else tru (envOf x y z X Y Z) a || tru (envOf x y z X Y Z) b := rfl
    rw [htv]
    clear htv qf hd
    rcases hok with ⟨ho, ha, hb⟩ | ⟨ho, ha, hb⟩
    · have A1 := Lib.hid (fun w => valueS_any S hS x y z X Y Z hx hy hz hX hY hZ wd a (p + 1) (b.text ++ r) w ha hd1)
      have B1 := Lib.hid (fun w => valueS_any S hS x y z X Y Z hx hy hz hX hY hZ wd b (p + 1 + a.text.length) r w hb hd2)
      clear hd1 hd2 hll iha ihb hlen
      generalize a.text.length = la at *
      generalize b.text.length = lb at *
      generalize hva : val (envOf x y z X Y Z) a = va at *
      generalize hvb : val (envOf x y z X Y Z) b = vb at *
      clear hva hvb
      generalize tru (envOf x y z X Y Z) a = ta at *
      generalize tru (envOf x y z X Y Z) b = tb at *
      rcases ho with rfl | rfl
      · cases hcmp : (va == vb)
        all_goals
          go_enter Tryz.func59, Tryz.ntmps59
          go_wp2_with fail
          refine (A1.out _).mono ?_
          rintro e w1 ⟨rfl, hb1⟩
          have k1 : Blk w1 w.heap.size 90 #[.int .i64 x, .int .i64 y, .int .i64 z, .int .i64 X, .int .i64 Y, .int .i64 Z] := (Blk.new w _ _).below hb1 (by simp)
          have d0 := k1.cell 0
          have d1 := k1.cell 1
          have d2 := k1.cell 2
          have d3 := k1.cell 3
          have d4 := k1.cell 4
          have d5 := k1.cell 5
          simp at d0 d1 d2 d3 d4 d5
          clear k1
          go_wp2_with fail
          refine (B1.out _).mono ?_
          rintro e w2 ⟨rfl, hb2⟩
          clear d0 d1 d2 d3 d4 d5
          go_wp2_with fail
          go_ret2
          exact ⟨(by first | trivial | rfl | simp), ((Below.refl _ _).alloc (Nat.le_refl _) _).trans ((hb1.mono (by simp)).trans (hb2.mono (by have := hb1.size; simp at this; omega)))⟩
      · cases hcmp : decide (va < vb)
        all_goals
          have hlt := hcmp
          simp only [decide_eq_true_eq, decide_eq_false_iff_not] at hlt
          go_enter Tryz.func59, Tryz.ntmps59
          go_wp2_with fail
          refine (A1.out _).mono ?_
          rintro e w1 ⟨rfl, hb1⟩
          have k1 : Blk w1 w.heap.size 90 #[.int .i64 x, .int .i64 y, .int .i64 z, .int .i64 X, .int .i64 Y, .int .i64 Z] := (Blk.new w _ _).below hb1 (by simp)
          have d0 := k1.cell 0
          have d1 := k1.cell 1
          have d2 := k1.cell 2
          have d3 := k1.cell 3
          have d4 := k1.cell 4
          have d5 := k1.cell 5
          simp at d0 d1 d2 d3 d4 d5
          clear k1
          go_wp2_with fail
          refine (B1.out _).mono ?_
          rintro e w2 ⟨rfl, hb2⟩
          clear d0 d1 d2 d3 d4 d5
          go_wp2_with fail
          go_ret2
          exact ⟨(by first | trivial | rfl | simp), ((Below.refl _ _).alloc (Nat.le_refl _) _).trans ((hb1.mono (by simp)).trans (hb2.mono (by have := hb1.size; simp at this; omega)))⟩
    · have A1 := Lib.hid (fun w => iha (p + 1) (b.text ++ r) w ha hd1)
      have B1 := Lib.hid (fun w => ihb (p + 1 + a.text.length) r w hb hd2)
      clear hd1 hd2 hll iha ihb hlen
      generalize a.text.length = la at *
      generalize b.text.length = lb at *
      generalize tru (envOf x y z X Y Z) a = ta at *
      generalize tru (envOf x y z X Y Z) b = tb at *
      rcases ho with rfl | rfl
      all_goals
        cases ta <;> cases tb
        all_goals
          go_enter Tryz.func59, Tryz.ntmps59
          go_wp2_with fail
          refine (A1.out _).mono ?_
          rintro e w1 ⟨rfl, hb1⟩
          have k1 : Blk w1 w.heap.size 90 #[.int .i64 x, .int .i64 y, .int .i64 z, .int .i64 X, .int .i64 Y, .int .i64 Z] := (Blk.new w _ _).below hb1 (by simp)
          have d0 := k1.cell 0
          have d1 := k1.cell 1
          have d2 := k1.cell 2
          have d3 := k1.cell 3
          have d4 := k1.cell 4
          have d5 := k1.cell 5
          simp at d0 d1 d2 d3 d4 d5
          clear k1
          go_wp2_with fail
          refine (B1.out _).mono ?_
          rintro e w2 ⟨rfl, hb2⟩
          clear d0 d1 d2 d3 d4 d5
          go_wp2_with fail
          go_ret2
          exact ⟨(by first | trivial | rfl | simp), ((Below.refl _ _).alloc (Nat.le_refl _) _).trans ((hb1.mono (by simp)).trans (hb2.mono (by have := hb1.size; simp at this; omega)))⟩

end Go.Proofs.YtndlhdmpfnadcaaGreatDoor
