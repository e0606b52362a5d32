/- Drawn states and letters. -/
import Derived.Test.YtppcghklkldnaaaDre
import Derived.Test.YtppcghklkldnaaaEvd
namespace Go.Proofs.Ytppcghklkldnaaa
open Go.RowKit
open Pl

theorem grown_put {a b : World} {g r : Nat} (h : a.grownBy b (some g)) (hr : a.heap.size ≤ r) (i : Nat) (v : Value) : a.grownBy (b.setCell ⟨r, i, none⟩ v) (some g) :=
  grown_step h (grownBy_setCell b ⟨r, i, none⟩ v) (fun x e => .inr (by injection e with e; subst e; exact hr))
def Ints (cs : Array Value) : Prop := ∀ (i : Nat) (v : Value), cs[i]? = some v → ∃ n, v = .int .i64 n
theorem ints3 (a b c : Int) : Ints #[.int .i64 a, .int .i64 b, .int .i64 c] := by
  intro i v h
  rcases i with _ | _ | _ | i
  · exact ⟨a, by simpa using h.symm⟩
  · exact ⟨b, by simpa using h.symm⟩
  · exact ⟨c, by simpa using h.symm⟩
  · simp at h
/-- a write to a block of numbers does not touch the source -/
theorem Rnd.put {w : World} {g p r : Nat} {t : TypeId} {cs : Array Value} (h : Rnd w g p) (hk : Blk w r t cs) (hi : Ints cs) (hne : g ≠ r) (i : Nat) (v : Value) : Rnd (w.setCell ⟨r, i, none⟩ v) g p := by
  obtain ⟨A, n, cap, hb, hn, hy⟩ := h
  refine ⟨A, n, cap, hb.far (p := ⟨r, i, none⟩) hne v, hn, ?_⟩
  by_cases hn0 : n = 0
  · exact .inl hn0
  rcases hy with hy | ⟨b, off, hA, hbg, hlt, hc⟩
  · exact .inl hy
  · have hbr : b ≠ r := by
      rintro rfl
      obtain ⟨u, _, hu⟩ := hc 0 (by omega)
      rw [hk.cell] at hu
      obtain ⟨m, hm⟩ := hi _ _ hu
      cases hm
    refine .inr ⟨b, off, hA, hbg, ?_, fun j hj => ?_⟩
    · have := (grownBy_setCell w ⟨r, i, none⟩ v).size
      omega
    · obtain ⟨u, hu, hcu⟩ := hc j hj
      exact ⟨u, hu, (World.cell?_of_block (a := ⟨b, off + j, none⟩) (Below.heap_setCell w ⟨r, i, none⟩ v b hbr)).trans hcu⟩

/-- three numbers written into a block of three -/
theorem put3 {w w1 : World} {g q r : Nat} {t : TypeId} {x y z : Int} (G : w.grownBy w1 (some g)) (R : Rnd w1 g q) (hk : Blk w1 r t #[.int .i64 x, .int .i64 y, .int .i64 z]) (hr : w.heap.size ≤ r) (hne : g ≠ r) (a b c : Int) :
    ∃ w2, ((w1.setCell ⟨r, 0, none⟩ (.int .i64 a)).setCell ⟨r, 1, none⟩ (.int .i64 b)).setCell ⟨r, 2, none⟩ (.int .i64 c) = w2 ∧ w.grownBy w2 (some g) ∧ Rnd w2 g q ∧
      w2.cell? ⟨r, 0, none⟩ = some (.int .i64 a) ∧ w2.cell? ⟨r, 1, none⟩ = some (.int .i64 b) ∧ w2.cell? ⟨r, 2, none⟩ = some (.int .i64 c) := by
  have ka := hk.set_ 0 (.int .i64 a)
  have kb := ka.set_ 1 (.int .i64 b)
  have kc := kb.set_ 2 (.int .i64 c)
  have ra := R.put hk (ints3 _ _ _) hne 0 (.int .i64 a)
  have rb := ra.put ka (by simpa using ints3 _ _ _) hne 1 (.int .i64 b)
  have rc := rb.put kb (by simpa using ints3 _ _ _) hne 2 (.int .i64 c)
  refine ⟨_, rfl, grown_put (grown_put (grown_put G hr 0 (.int .i64 a)) hr 1 (.int .i64 b)) hr 2 (.int .i64 c), rc, ?_, ?_, ?_⟩
  · rw [kc.cell]; simp
  · rw [kc.cell]; simp
  · rw [kc.cell]; simp

/-- a drawn state -/
def SpotPost (w : World) (g p k : Nat) (e : Ending) (w' : World) : Prop :=
  ∃ x y z : Int, e = .returned (.agg #[.int .i64 x, .int .i64 y, .int .i64 z]) ∧ Drew w g p k w'

set_option maxHeartbeats 1000000 in
theorem spot_any (g p : Nat) (w : World) (hp : p ≤ 999999000) (hR : Rnd w g p) :
    Calls Try.prog 95 #[.pointer (some ⟨g, 0, none⟩)] w (SpotPost w g p 3) := by
  have HR := Lib.hid (hR.alloc (.cells #[.int .i64 0, .int .i64 0, .int .i64 0] 40))
  have hne : g ≠ w.heap.size := by have := hR.lt; omega
  have G := Lib.hid (World.grownBy_alloc w (.cells #[.int .i64 0, .int .i64 0, .int .i64 0] 40) (some g))
  have K := Lib.hid (Blk.new w 40 #[.int .i64 0, .int .i64 0, .int .i64 0])
  clear hR
  go_enter Try.func95, Try.ntmps95
  go_wp2_with fail
  refine (pick_any g p 3 _ (by omega) (by omega) HR.out).mono ?_
  rintro e w0 ⟨v0, _, rfl, hg0, q0, qa0, qb0, hr0⟩
  have R0 := Lib.hid hr0
  have K0 := Lib.hid (K.out.grown hg0 (by intro e; injection e with e; exact hne e.symm))
  have G0 := Lib.hid (grown_trans G.out hg0)
  clear hr0 hg0 HR K G
  go_wp2_with fail
  refine (pick_any g q0 3 _ (by omega) (by omega) R0.out).mono ?_
  rintro e w1 ⟨v1, _, rfl, hg1, q1, qa1, qb1, hr1⟩
  have R1 := Lib.hid hr1
  have K1 := Lib.hid (K0.out.grown hg1 (by intro e; injection e with e; exact hne e.symm))
  have G1 := Lib.hid (grown_trans G0.out hg1)
  clear hr1 hg1 K0 G0 R0
  go_wp2_with fail
  refine (pick_any g q1 3 _ (by omega) (by omega) R1.out).mono ?_
  rintro e w2 ⟨v2, _, rfl, hg2, q2, qa2, qb2, hr2⟩
  have R2 := Lib.hid hr2
  have k2 := K1.out.grown hg2 (by intro e; injection e with e; exact hne e.symm)
  have G2 := Lib.hid (grown_trans G1.out hg2)
  have c0 := k2.cell 0
  have c1 := k2.cell 1
  have c2 := k2.cell 2
  have f0 := k2.frozen 0
  have f1 := k2.frozen 1
  have f2 := k2.frozen 2
  simp at c0 c1 c2
  have K2 := Lib.hid k2
  clear hr2 hg2 K1 G1 R1 k2
  go_wp2_with fail
  obtain ⟨w3, hw3, g3, r3, d0, d1, d2⟩ := put3 G2.out R2.out K2.out (Nat.le_refl _) hne v0 v1 v2
  rw [hw3]
  exact bodyPost_ret (v := .agg #[.int .i64 v0, .int .i64 v1, .int .i64 v2]) (by simp [results, Try.results95, go_sem, d0, d1, d2]) rfl
    ⟨v0, v1, v2, rfl, g3, q2, by omega, by omega, r3⟩

end Go.Proofs.Ytppcghklkldnaaa
