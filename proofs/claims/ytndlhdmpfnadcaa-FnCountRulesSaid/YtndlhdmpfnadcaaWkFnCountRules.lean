/- The walk of the law FnCountRules. -/
import Derived.Test.YtndlhdmpfnadcaaGs
namespace Go.Proofs.Ytndlhdmpfnadcaa.fnCountRules
open Go.RowKit
open Pl
set_option linter.unusedVariables false
theorem take_LR {W : World} {s : Option Addr} {n k : Nat} {L : Nat → LnD} (h : LR W s n L) (hk : k ≤ n) : LR W s k L := by
  rcases h with h | ⟨b, off, hs, hlt, hc⟩
  · exact .inl (by omega)
  · exact .inr ⟨b, off, hs, hlt, fun i hi => hc i (by omega)⟩
theorem drop_LR {W : World} {b off n k : Nat} {L : Nat → LnD} (h : LR W (some ⟨b, off, none⟩) n L) (hk : k ≤ n) : LR W (some ⟨b, off + k * 6, none⟩) (n - k) (fun i => L (k + i)) := by
  rcases h with h | ⟨b', off', hs, hlt, hc⟩
  · exact .inl (by omega)
  · cases hs
    refine .inr ⟨b, off + k * 6, rfl, hlt, fun i hi => ?_⟩
    have := hc (k + i) (by omega)
    rw [show off + (k + i) * 6 = off + k * 6 + i * 6 by omega] at this
    exact this
theorem cnt_add (p : Nat → Bool) (a : Nat) : ∀ b, cnt (a + b) p = cnt a p + cnt b (fun i => p (a + i))
  | 0 => rfl
  | b + 1 => by
    have h := cnt_succ (a + b) p
    have h2 := cnt_succ b (fun i => p (a + i))
    have ih := cnt_add p a b
    rw [show a + (b + 1) = a + b + 1 by omega]
    omega
theorem cnt_most (p : Nat → Bool) : ∀ n, cnt n p ≤ n
  | 0 => Nat.le_refl _
  | n + 1 => by
    have h := cnt_succ n p
    have := cnt_most p n
    have : (if p n then 1 else 0) ≤ 1 := by split <;> omega
    omega
structure CrS (w : World) (r n : Nat) (L : Nat → LnD) (W : World) : Prop where
  lr : LR W (some ⟨r, 0, none⟩) n L
  bl : Below w.heap.size w W
theorem CrS.call {w W W' : World} {r n : Nat} {L : Nat → LnD} (h : CrS w r n L W) (hb : Below W.heap.size W W') : CrS w r n L W' := ⟨h.lr.call hb, below_2 h.bl hb⟩
theorem CrS.drew {w W : World} {r n : Nat} {L : Nat → LnD} (h : CrS w r n L W) : CrS w r n L W.drew := h.call (below_drew _ _)
set_option maxRecDepth 100000 in
set_option maxHeartbeats 16000000 in
theorem walk (a0 : Option Addr) (len0 cap0 : Nat) (w : World) (hb0 : Bytes w a0 len0 w.heap.size) (hl0 : len0 ≤ cap0) (hc0 : cap0 ≤ 9223372036854775807) :
    Calls Try.prog 4 #[.slice a0 len0 cap0] w fun e w' => e = .returned (.bool true) ∧ Below w.heap.size w w' := by
  by_cases hbig : 1048576 < len0
  · clear hb0
    go_enter Try.func4, Try.ntmps4
    go_wp2_with fail
    go_ret
    exact ⟨rfl, by first | exact Below.refl _ _ | exact below_n _ _ | exact (below_n _ _).alloc (by simp) _⟩
  have D := Lib.hid (DrawCountRules_any a0 len0 cap0 w (by omega) hl0 hb0)
  clear hb0
  go_enter Try.func4, Try.ntmps4
  go_wp2_with fail
  refine D.out.mono ?_
  rintro e w1 ⟨r, n, c, L, S, rfl, hol, hn1, hn2, hnc, hcm, zS, hb1⟩
  have H : CrS w r n L w1 := ⟨hol.lr, hb1⟩
  obtain ⟨k, hk⟩ : ∃ k, k = n / 2 := ⟨_, rfl⟩
  have hck : ¬ (c = k) := by omega
  have hq : (n : Int) / 2 = (k : Int) := by omega
  have CA := Lib.hid (fun W (h : CrS w r n L W) => CountRules_any (some ⟨r, 0, none⟩) n c L S (by omega) hnc W h.lr)
  have CS := Lib.hid (fun W (h : CrS w r n L W) => CountRulesS_any (some ⟨r, 0, none⟩) n c L S (by omega) hnc W h.lr)
  have C1 := Lib.hid (fun W (h : CrS w r n L W) => CountRules_any (some ⟨r, 0, none⟩) k c L S (by omega) (by omega) W (take_LR h.lr (by omega)))
  have C2 := Lib.hid (fun W (h : CrS w r n L W) => CountRules_any (some ⟨r, 0 + k * 6, none⟩) (n - k) (c - k) (fun i => L (k + i)) S (by omega) (by omega) W (drop_LR h.lr (by omega)))
  have hsum := cnt_add (isR L S) k (n - k)
  rw [show k + (n - k) = n by omega] at hsum
  have hle := cnt_most (isR L S) n
  change cnt n (isR L S) = cnt k (isR L S) + cnt (n - k) (isR (fun i => L (k + i)) S) at hsum
  generalize cnt n (isR L S) = m at *
  generalize cnt k (isR L S) = m1 at *
  generalize cnt (n - k) (isR (fun i => L (k + i)) S) = m2 at *
  simp only [Nat.zero_add] at C2
  have q1 : (((m : Nat) : Int) != (m : Int)) = false := by simp
  have s1 : (m1 : Int) + (m2 : Int) = (m : Int) := by omega
  have s2 : IntKind.i64.wrap (m : Int) = (m : Int) := IntWalk.i64_in _ (by omega)
  have s4 : decide ((m : Int) ≥ 0) = true := by simp
  have s5 : decide ((m : Int) ≤ (n : Int)) = true := by simp; omega
  have s6 : decide ((0 : Int) ≤ (m : Int)) = true := by simp
  have z1 : (0 : Int) ≤ (k : Int) := by omega
  have z2 : (k : Int) ≤ (c : Int) := by omega
  have z3 : (k : Int) ≤ (n : Int) := by omega
  have z4 : (n : Int) ≤ (c : Int) := by omega
  clear D hol hb1 hsum hk
  go_wp2_with fail
  refine (CA.out _ H).mono ?_
  rintro e w2 ⟨rfl, hb⟩
  replace H := H.call hb
  clear hb
  go_wp2_with fail
  refine (CS.out _ H).mono ?_
  rintro e w3 ⟨rfl, hb⟩
  replace H := H.call hb
  clear hb
  go_wp2_with fail
  refine region_class (CrS w r n L) (by kernel_rfl) (by kernel_rfl) H.drew ?_
  repeat (first | go_big_quiet_skip | (go_big_quiet_want; first | (apply quiet_value; (· (intro W hW; skip; go_simp; exact rfl)); simp only [Act.put, List.setIfInBounds_toArray, List.set_cons_zero, List.set_cons_succ]; go_big_quiet_on) | (apply quiet_call; (· (intro W hW; go_simp; exact ⟨rfl, rfl⟩)); (· (intro W hW; first | with_reducible exact ((C1.out W hW)).mono fun _ _ h => ⟨h.1, hW.call h.2⟩ | with_reducible exact ((C2.out W hW)).mono fun _ _ h => ⟨h.1, hW.call h.2⟩)); simp only [Act.put, List.setIfInBounds_toArray, List.set_cons_zero, List.set_cons_succ]; go_big_quiet_on)))
  refine wpQuiet_nil ?_
  intro wq hq
  clear H
  have H := hq
  clear hq
  go_wp2_with fail
  go_ret
  exact ⟨ret_bool (by first | rfl | simp), H.bl⟩

end Go.Proofs.Ytndlhdmpfnadcaa.fnCountRules
