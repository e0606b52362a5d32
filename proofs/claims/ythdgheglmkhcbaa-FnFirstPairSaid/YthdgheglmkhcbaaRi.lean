/- What a loop can do, from all states. -/
import Derived.Test.YthdgheglmkhcbaaRg
namespace Go.Proofs.Ythdgheglmkhcbaa
open Go.RowKit
open Pl

def wh2 (m en : Nat) (fb hf g : Nat → Nat) (i : Nat) : Nat → Nat := if ((hf i &&& m) &&& (fb 27 ||| en)) == 0 then g else upd g 27 (g 27 ||| 2 ^ i)
def wh3 (m : Nat) (fb hf g : Nat → Nat) (i : Nat) : Nat → Nat := if ((hf i &&& m) &&& fb 28) == 0 then g else upd g 28 (g 28 ||| 2 ^ i)
def whN (m en : Nat) (fb hf : Nat → Nat) : Nat → Nat → Nat
  | 0 => fun _ => 0
  | i + 1 => wh3 m fb hf (wh2 m en fb hf (upd (whN m en fb hf i) i (adn (hf i) m)) i) i
theorem whN_small {m en : Nat} {fb hf : Nat → Nat} (hh : ∀ i, i < 27 → hf i < 134217728) (i : Nat) : i ≤ 27 → M29 (whN m en fb hf i) := by
  induction i with
  | zero => intro _ a _; show 0 < _; decide
  | succ i ih =>
    intro hi
    have h1 := (ih (by omega)).upd i (adn_lt m (hh i (by omega)))
    have h2 : M29 (wh2 m en fb hf (upd (whN m en fb hf i) i (adn (hf i) m)) i) := by
      unfold wh2
      split
      · exact h1
      · exact h1.upd 27 (or_lt (h1 27 (by omega)) (p27 (by omega)))
    rw [whN]
    unfold wh3
    split
    · exact h2
    · exact h2.upd 28 (or_lt (h2 28 (by omega)) (p27 (by omega)))
set_option maxRecDepth 100000 in
set_option maxHeartbeats 16000000 in
theorem l4While_walk (fb : Nat → Nat) (hb : M29 fb) (m en : Nat) (hm : m < 134217728) (hen : en < 134217728) (hf : Nat → Nat) (hhf : ∀ i : Nat, i < 27 → hf i < 134217728)
    (EN : ∀ w, Calls Try.prog 187 #[.int .i64 (m : Int), .agg (av 29 fb)] w fun e w' => (e = .returned (.int .i64 (en : Nat)) ∧ Below w.heap.size w w'))
    (HD : ∀ i : Nat, i < 27 → ∀ w, Calls Try.prog 188 #[.int .i64 (m : Int), .agg (av 29 fb), .int .i64 (i : Int)] w fun e w' => (e = .returned (.int .i64 (hf i : Nat)) ∧ Below w.heap.size w w')) (w : World) :
    Calls Try.prog 175 #[.int .i64 (m : Int), .agg (av 29 fb)] w fun e w' => (e = .returned (.agg (av 29 (whN m en fb hf 27))) ∧ Below w.heap.size w w') := by
  have SM := Lib.hid (fun i (hi : i ≤ 27) => whN_small (m := m) (en := en) (fb := fb) (hf := hf) hhf i hi)
  have FB := Lib.hid hb
  have HF := Lib.hid hhf
  have EN := Lib.hid EN
  have HD := Lib.hid HD
  obtain ⟨V, hV⟩ : ∃ V, av 29 fb = V := ⟨_, rfl⟩
  rw [hV] at EN HD ⊢
  have HV := Lib.hid hV
  have SZV : Hid ((Try.prog.info? 95).map (·.size) = some V.size) := by rw [← hV, av_size]; exact all_size
  clear hb hhf hV
  obtain ⟨VE, hVE⟩ : ∃ V, av 29 (whN m en fb hf 27) = V := ⟨_, rfl⟩
  rw [hVE]
  have HVE := Lib.hid hVE
  clear hVE
  have kb0 : Blk ((w.alloc (.cells V 95)).alloc (.cells #[.int .i64 0, .int .i64 0, .int .i64 0, .int .i64 0, .int .i64 0, .int .i64 0, .int .i64 0, .int .i64 0, .int .i64 0, .int .i64 0, .int .i64 0, .int .i64 0, .int .i64 0, .int .i64 0, .int .i64 0, .int .i64 0, .int .i64 0, .int .i64 0, .int .i64 0, .int .i64 0, .int .i64 0, .int .i64 0, .int .i64 0, .int .i64 0, .int .i64 0, .int .i64 0, .int .i64 0, .int .i64 0, .int .i64 0] 95)) (w.heap.size) 95 V := by
    have h0 := Blk.new w 95 V
    have hz : w.heap.size = w.heap.size := by simp
    rw [hz] at h0
    exact (h0.alloc _)
  have kr : Blk ((w.alloc (.cells V 95)).alloc (.cells #[.int .i64 0, .int .i64 0, .int .i64 0, .int .i64 0, .int .i64 0, .int .i64 0, .int .i64 0, .int .i64 0, .int .i64 0, .int .i64 0, .int .i64 0, .int .i64 0, .int .i64 0, .int .i64 0, .int .i64 0, .int .i64 0, .int .i64 0, .int .i64 0, .int .i64 0, .int .i64 0, .int .i64 0, .int .i64 0, .int .i64 0, .int .i64 0, .int .i64 0, .int .i64 0, .int .i64 0, .int .i64 0, .int .i64 0] 95)) (w.heap.size + 1) 95 #[.int .i64 0, .int .i64 0, .int .i64 0, .int .i64 0, .int .i64 0, .int .i64 0, .int .i64 0, .int .i64 0, .int .i64 0, .int .i64 0, .int .i64 0, .int .i64 0, .int .i64 0, .int .i64 0, .int .i64 0, .int .i64 0, .int .i64 0, .int .i64 0, .int .i64 0, .int .i64 0, .int .i64 0, .int .i64 0, .int .i64 0, .int .i64 0, .int .i64 0, .int .i64 0, .int .i64 0, .int .i64 0, .int .i64 0] := by
    have h0 := Blk.new (w.alloc (.cells V 95)) 95 #[.int .i64 0, .int .i64 0, .int .i64 0, .int .i64 0, .int .i64 0, .int .i64 0, .int .i64 0, .int .i64 0, .int .i64 0, .int .i64 0, .int .i64 0, .int .i64 0, .int .i64 0, .int .i64 0, .int .i64 0, .int .i64 0, .int .i64 0, .int .i64 0, .int .i64 0, .int .i64 0, .int .i64 0, .int .i64 0, .int .i64 0, .int .i64 0, .int .i64 0, .int .i64 0, .int .i64 0, .int .i64 0, .int .i64 0]
    have hz : (w.alloc (.cells V 95)).heap.size = w.heap.size + 1 := by simp
    rw [hz] at h0
    exact h0
  have kz : Blk (((w.alloc (.cells V 95)).alloc (.cells #[.int .i64 0, .int .i64 0, .int .i64 0, .int .i64 0, .int .i64 0, .int .i64 0, .int .i64 0, .int .i64 0, .int .i64 0, .int .i64 0, .int .i64 0, .int .i64 0, .int .i64 0, .int .i64 0, .int .i64 0, .int .i64 0, .int .i64 0, .int .i64 0, .int .i64 0, .int .i64 0, .int .i64 0, .int .i64 0, .int .i64 0, .int .i64 0, .int .i64 0, .int .i64 0, .int .i64 0, .int .i64 0, .int .i64 0] 95)).alloc (.cells #[.int .i64 0, .int .i64 0, .int .i64 0, .int .i64 0, .int .i64 0, .int .i64 0, .int .i64 0, .int .i64 0, .int .i64 0, .int .i64 0, .int .i64 0, .int .i64 0, .int .i64 0, .int .i64 0, .int .i64 0, .int .i64 0, .int .i64 0, .int .i64 0, .int .i64 0, .int .i64 0, .int .i64 0, .int .i64 0, .int .i64 0, .int .i64 0, .int .i64 0, .int .i64 0, .int .i64 0, .int .i64 0, .int .i64 0] 95)) (w.heap.size + 2) 95 #[.int .i64 0, .int .i64 0, .int .i64 0, .int .i64 0, .int .i64 0, .int .i64 0, .int .i64 0, .int .i64 0, .int .i64 0, .int .i64 0, .int .i64 0, .int .i64 0, .int .i64 0, .int .i64 0, .int .i64 0, .int .i64 0, .int .i64 0, .int .i64 0, .int .i64 0, .int .i64 0, .int .i64 0, .int .i64 0, .int .i64 0, .int .i64 0, .int .i64 0, .int .i64 0, .int .i64 0, .int .i64 0, .int .i64 0] := by
    have h0 := Blk.new ((w.alloc (.cells V 95)).alloc (.cells #[.int .i64 0, .int .i64 0, .int .i64 0, .int .i64 0, .int .i64 0, .int .i64 0, .int .i64 0, .int .i64 0, .int .i64 0, .int .i64 0, .int .i64 0, .int .i64 0, .int .i64 0, .int .i64 0, .int .i64 0, .int .i64 0, .int .i64 0, .int .i64 0, .int .i64 0, .int .i64 0, .int .i64 0, .int .i64 0, .int .i64 0, .int .i64 0, .int .i64 0, .int .i64 0, .int .i64 0, .int .i64 0, .int .i64 0] 95)) 95 #[.int .i64 0, .int .i64 0, .int .i64 0, .int .i64 0, .int .i64 0, .int .i64 0, .int .i64 0, .int .i64 0, .int .i64 0, .int .i64 0, .int .i64 0, .int .i64 0, .int .i64 0, .int .i64 0, .int .i64 0, .int .i64 0, .int .i64 0, .int .i64 0, .int .i64 0, .int .i64 0, .int .i64 0, .int .i64 0, .int .i64 0, .int .i64 0, .int .i64 0, .int .i64 0, .int .i64 0, .int .i64 0, .int .i64 0]
    have hz : ((w.alloc (.cells V 95)).alloc (.cells #[.int .i64 0, .int .i64 0, .int .i64 0, .int .i64 0, .int .i64 0, .int .i64 0, .int .i64 0, .int .i64 0, .int .i64 0, .int .i64 0, .int .i64 0, .int .i64 0, .int .i64 0, .int .i64 0, .int .i64 0, .int .i64 0, .int .i64 0, .int .i64 0, .int .i64 0, .int .i64 0, .int .i64 0, .int .i64 0, .int .i64 0, .int .i64 0, .int .i64 0, .int .i64 0, .int .i64 0, .int .i64 0, .int .i64 0] 95)).heap.size = w.heap.size + 2 := by simp
    rw [hz] at h0
    exact h0
  have KZ := Lib.hid kz
  have H0 : Hid (S4 w ((((w.alloc (.cells V 95)).alloc (.cells #[.int .i64 0, .int .i64 0, .int .i64 0, .int .i64 0, .int .i64 0, .int .i64 0, .int .i64 0, .int .i64 0, .int .i64 0, .int .i64 0, .int .i64 0, .int .i64 0, .int .i64 0, .int .i64 0, .int .i64 0, .int .i64 0, .int .i64 0, .int .i64 0, .int .i64 0, .int .i64 0, .int .i64 0, .int .i64 0, .int .i64 0, .int .i64 0, .int .i64 0, .int .i64 0, .int .i64 0, .int .i64 0, .int .i64 0] 95)).alloc (.cells #[.int .i64 0, .int .i64 0, .int .i64 0, .int .i64 0, .int .i64 0, .int .i64 0, .int .i64 0, .int .i64 0, .int .i64 0, .int .i64 0, .int .i64 0, .int .i64 0, .int .i64 0, .int .i64 0, .int .i64 0, .int .i64 0, .int .i64 0, .int .i64 0, .int .i64 0, .int .i64 0, .int .i64 0, .int .i64 0, .int .i64 0, .int .i64 0, .int .i64 0, .int .i64 0, .int .i64 0, .int .i64 0, .int .i64 0] 95)).setRow (w.heap.size + 2) #[.int .i64 0, .int .i64 0, .int .i64 0, .int .i64 0, .int .i64 0, .int .i64 0, .int .i64 0, .int .i64 0, .int .i64 0, .int .i64 0, .int .i64 0, .int .i64 0, .int .i64 0, .int .i64 0, .int .i64 0, .int .i64 0, .int .i64 0, .int .i64 0, .int .i64 0, .int .i64 0, .int .i64 0, .int .i64 0, .int .i64 0, .int .i64 0, .int .i64 0, .int .i64 0, .int .i64 0, .int .i64 0, .int .i64 0]) [(w.heap.size, V)] (w.heap.size + 1) (w.heap.size + 2) (whN m en fb hf 0)) := by
    refine ⟨fun p hp => ?_, ⟨_, rfl, (kr.alloc _).row_ne (by omega) _⟩, ?_, by omega, by omega, ((((Below.refl w.heap.size w).alloc (by first | exact Nat.le_refl _ | (simp; done) | (simp; omega)) (.cells V 95)).alloc (by first | exact Nat.le_refl _ | (simp; done) | (simp; omega)) (.cells #[.int .i64 0, .int .i64 0, .int .i64 0, .int .i64 0, .int .i64 0, .int .i64 0, .int .i64 0, .int .i64 0, .int .i64 0, .int .i64 0, .int .i64 0, .int .i64 0, .int .i64 0, .int .i64 0, .int .i64 0, .int .i64 0, .int .i64 0, .int .i64 0, .int .i64 0, .int .i64 0, .int .i64 0, .int .i64 0, .int .i64 0, .int .i64 0, .int .i64 0, .int .i64 0, .int .i64 0, .int .i64 0, .int .i64 0] 95)).alloc (by first | exact Nat.le_refl _ | (simp; done) | (simp; omega)) (.cells #[.int .i64 0, .int .i64 0, .int .i64 0, .int .i64 0, .int .i64 0, .int .i64 0, .int .i64 0, .int .i64 0, .int .i64 0, .int .i64 0, .int .i64 0, .int .i64 0, .int .i64 0, .int .i64 0, .int .i64 0, .int .i64 0, .int .i64 0, .int .i64 0, .int .i64 0, .int .i64 0, .int .i64 0, .int .i64 0, .int .i64 0, .int .i64 0, .int .i64 0, .int .i64 0, .int .i64 0, .int .i64 0, .int .i64 0] 95)).trans (below_row (by omega) _)⟩
    · simp only [List.mem_cons, List.not_mem_nil, or_false] at hp
      obtain rfl := hp
      · exact ⟨(kb0.alloc _).row_ne (by show _ ≠ _; omega) _, by show _ ≠ _; omega⟩
    · rw [← (show #[.int .i64 0, .int .i64 0, .int .i64 0, .int .i64 0, .int .i64 0, .int .i64 0, .int .i64 0, .int .i64 0, .int .i64 0, .int .i64 0, .int .i64 0, .int .i64 0, .int .i64 0, .int .i64 0, .int .i64 0, .int .i64 0, .int .i64 0, .int .i64 0, .int .i64 0, .int .i64 0, .int .i64 0, .int .i64 0, .int .i64 0, .int .i64 0, .int .i64 0, .int .i64 0, .int .i64 0, .int .i64 0, .int .i64 0] = av 29 (whN m en fb hf 0) from av2_zero)]; exact kz.row _
  clear kz kr kb0
  have KX : Hid (Blk ((((w.alloc (.cells V 95)).alloc (.cells #[.int .i64 0, .int .i64 0, .int .i64 0, .int .i64 0, .int .i64 0, .int .i64 0, .int .i64 0, .int .i64 0, .int .i64 0, .int .i64 0, .int .i64 0, .int .i64 0, .int .i64 0, .int .i64 0, .int .i64 0, .int .i64 0, .int .i64 0, .int .i64 0, .int .i64 0, .int .i64 0, .int .i64 0, .int .i64 0, .int .i64 0, .int .i64 0, .int .i64 0, .int .i64 0, .int .i64 0, .int .i64 0, .int .i64 0] 95)).alloc (.cells #[.int .i64 0, .int .i64 0, .int .i64 0, .int .i64 0, .int .i64 0, .int .i64 0, .int .i64 0, .int .i64 0, .int .i64 0, .int .i64 0, .int .i64 0, .int .i64 0, .int .i64 0, .int .i64 0, .int .i64 0, .int .i64 0, .int .i64 0, .int .i64 0, .int .i64 0, .int .i64 0, .int .i64 0, .int .i64 0, .int .i64 0, .int .i64 0, .int .i64 0, .int .i64 0, .int .i64 0, .int .i64 0, .int .i64 0] 95)).setRow (w.heap.size + 2) #[.int .i64 0, .int .i64 0, .int .i64 0, .int .i64 0, .int .i64 0, .int .i64 0, .int .i64 0, .int .i64 0, .int .i64 0, .int .i64 0, .int .i64 0, .int .i64 0, .int .i64 0, .int .i64 0, .int .i64 0, .int .i64 0, .int .i64 0, .int .i64 0, .int .i64 0, .int .i64 0, .int .i64 0, .int .i64 0, .int .i64 0, .int .i64 0, .int .i64 0, .int .i64 0, .int .i64 0, .int .i64 0, .int .i64 0]) w.heap.size 95 V) := (H0.out.boxes (w.heap.size, V) (by simp)).1
  go_enter Try.func175, Try.ntmps175
  go_wp2_with (first | (refine wpList_store_row rfl 95 (.tmp 5) (.tmp 9) rfl (w.heap.size + 2) #[.int .i64 0, .int .i64 0, .int .i64 0, .int .i64 0, .int .i64 0, .int .i64 0, .int .i64 0, .int .i64 0, .int .i64 0, .int .i64 0, .int .i64 0, .int .i64 0, .int .i64 0, .int .i64 0, .int .i64 0, .int .i64 0, .int .i64 0, .int .i64 0, .int .i64 0, .int .i64 0, .int .i64 0, .int .i64 0, .int .i64 0, .int .i64 0, .int .i64 0, .int .i64 0, .int .i64 0, .int .i64 0, .int .i64 0] rfl rfl 95 #[.int .i64 0, .int .i64 0, .int .i64 0, .int .i64 0, .int .i64 0, .int .i64 0, .int .i64 0, .int .i64 0, .int .i64 0, .int .i64 0, .int .i64 0, .int .i64 0, .int .i64 0, .int .i64 0, .int .i64 0, .int .i64 0, .int .i64 0, .int .i64 0, .int .i64 0, .int .i64 0, .int .i64 0, .int .i64 0, .int .i64 0, .int .i64 0, .int .i64 0, .int .i64 0, .int .i64 0, .int .i64 0, .int .i64 0] KZ.out all_size rfl z2_one ?_) | (refine wpList_load_row rfl 95 (.tmp 3) rfl w.heap.size rfl 95 V (0, 0) _ KX.out Try.underlying95 rfl SZV.out ?_))
  clear KZ
  clear KX
  have H := H0.out
  clear H0
  refine (EN.out _).mono ?_
  rintro e w2 ⟨rfl, hb⟩
  have H0 := Lib.hid (H.call hb)
  clear hb H EN
  go_wp2_with fail
  go_loopg [7] 27 (fun gk sv wr => ∃ a : Nat, a + gk = 27 ∧ sv = .int .i64 a ∧ Hid (S4 w wr [(w.heap.size, V)] (w.heap.size + 1) (w.heap.size + 2) (whN m en fb hf a)))
  case atStart => exact ⟨0, rfl, rfl, H0⟩
  case round =>
    clear H0
    obtain ⟨a, ha, rfl, HH⟩ := hrel
    have H := HH.out
    clear HH
    by_cases hla : a < 27
    · have hM := SM.out a (by omega)
      have I1 := Lib.hid (fun w => HD.out a hla w)
      have NX0 : whN m en fb hf (a + 1) = wh3 m fb hf (wh2 m en fb hf (Proofs.Ythdgheglmkhcbaa.upd (whN m en fb hf a) a (adn (hf a) m)) a) a := rfl
      obtain ⟨g, hg⟩ : ∃ g, whN m en fb hf a = g := ⟨_, rfl⟩
      rw [hg] at hM NX0 H
      have KX := Lib.hid (H.boxes (w.heap.size, V) (by simp)).1
      have hxa : (a : Int) < 27 := by omega
      have hha := HF.out a hla
      have had := adn_int (hf a) m hha hm
      have hx2 : ((bits BinOp.and IntKind.i64 (bits BinOp.and IntKind.i64 ((hf a : Nat) : Int) (m : Nat)) (bits BinOp.or IntKind.i64 ((fb 27 : Nat) : Int) (en : Nat))) == 0) = (((hf a &&& m) &&& (fb 27 ||| en)) == 0) := by
        rw [and_int _ m hha hm, or_int _ en (FB.out 27 (by omega)) hen, and_int _ _ (and_lt _ hha) (or_lt (FB.out 27 (by omega)) hen)]
        apply bool_ext; rw [beq_iff_eq, beq_iff_eq]; omega
      have hx3 : ((bits BinOp.and IntKind.i64 (bits BinOp.and IntKind.i64 ((hf a : Nat) : Int) (m : Nat)) ((fb 28 : Nat) : Int)) == 0) = (((hf a &&& m) &&& fb 28) == 0) := by
        rw [and_int _ m hha hm, and_int _ _ (and_lt _ hha) (FB.out 28 (by omega))]
        apply bool_ext; rw [beq_iff_eq, beq_iff_eq]; omega
      clear hg hha
      go_wp2_with (refine wpList_load_row rfl 95 (.tmp 3) rfl w.heap.size rfl 95 V (0, 0) _ KX.out Try.underlying95 rfl SZV.out ?_)
      refine (I1.out _).mono ?_
      rintro e w1 ⟨rfl, hbb⟩
      replace H := H.call hbb
      clear hbb KX
      have cb := H.box (b := w.heap.size) (g := fb) (by rw [HV.out]; simp) (i := 27) (by omega)
      have cd := H.box (b := w.heap.size) (g := fb) (by rw [HV.out]; simp) (i := 28) (by omega)
      obtain ⟨hc, hfz, _, _⟩ := H.get (i := a) (by omega)
      obtain ⟨jc, jf, _, _⟩ := H.get (i := 27) (by omega)
      obtain ⟨kc, kf, _, _⟩ := H.get (i := 28) (by omega)
      cases hb2 : ((hf a &&& m) &&& (fb 27 ||| en)) == 0
      · cases hb3 : ((hf a &&& m) &&& fb 28) == 0
        · as_aux_lemma =>
            have g27 : Proofs.Ythdgheglmkhcbaa.upd g a (adn (hf a) m) 27 = g 27 := upd_ne (by omega)
            have g28 : Proofs.Ythdgheglmkhcbaa.upd g a (adn (hf a) m) 28 = g 28 := upd_ne (by omega)
            have H1 := H.putI a had
            generalize Proofs.Ythdgheglmkhcbaa.upd g a (adn (hf a) m) = g1 at *
            have H2 := H1.putI 27 (or_pow (g 27) a (hM 27 (by omega)) hla)
            have e28 : Proofs.Ythdgheglmkhcbaa.upd g1 27 (g 27 ||| 2 ^ a) 28 = g 28 := (upd_ne (by decide)).trans g28
            have hnx : wh2 m en fb hf g1 a = Proofs.Ythdgheglmkhcbaa.upd g1 27 (g 27 ||| 2 ^ a) := by unfold wh2; rw [hb2, g27]; rfl
            rw [hnx] at NX0
            generalize Proofs.Ythdgheglmkhcbaa.upd g1 27 (g 27 ||| 2 ^ a) = g2 at *
            have H3 := H2.putI 28 (or_pow (g 28) a (hM 28 (by omega)) hla)
            have hny : wh3 m fb hf g2 a = Proofs.Ythdgheglmkhcbaa.upd g2 28 (g 28 ||| 2 ^ a) := by unfold wh3; rw [hb3, e28]; rfl
            rw [hny] at NX0
            have H4 := Lib.hid (H3.less (g := whN m en fb hf (a + 1)) (fun i _ => by rw [NX0]))
            simp only [hb2] at hx2
            simp only [hb3] at hx3
            clear hb2 hb3 hny NX0 hM H1 H2 H3 H had e28 g27 g28
            try clear hnx
            try clear hg2
            go_wp2_with fail
            go_roundg (gk - 1)
            case measure => omega
            case rel =>
              refine ⟨a + 1, by omega, by go_num, ?_⟩
              with_reducible exact H4
        · as_aux_lemma =>
            have g27 : Proofs.Ythdgheglmkhcbaa.upd g a (adn (hf a) m) 27 = g 27 := upd_ne (by omega)
            have g28 : Proofs.Ythdgheglmkhcbaa.upd g a (adn (hf a) m) 28 = g 28 := upd_ne (by omega)
            have H1 := H.putI a had
            generalize Proofs.Ythdgheglmkhcbaa.upd g a (adn (hf a) m) = g1 at *
            have H2 := H1.putI 27 (or_pow (g 27) a (hM 27 (by omega)) hla)
            have e28 : Proofs.Ythdgheglmkhcbaa.upd g1 27 (g 27 ||| 2 ^ a) 28 = g 28 := (upd_ne (by decide)).trans g28
            have hnx : wh2 m en fb hf g1 a = Proofs.Ythdgheglmkhcbaa.upd g1 27 (g 27 ||| 2 ^ a) := by unfold wh2; rw [hb2, g27]; rfl
            rw [hnx] at NX0
            generalize Proofs.Ythdgheglmkhcbaa.upd g1 27 (g 27 ||| 2 ^ a) = g2 at *
            have H3 := H2
            have hny : wh3 m fb hf g2 a = g2 := by unfold wh3; rw [hb3]; rfl
            rw [hny] at NX0
            have H4 := Lib.hid (H3.less (g := whN m en fb hf (a + 1)) (fun i _ => by rw [NX0]))
            simp only [hb2] at hx2
            simp only [hb3] at hx3
            clear hb2 hb3 hny NX0 hM H1 H2 H3 H had e28 g27 g28
            try clear hnx
            try clear hg2
            go_wp2_with fail
            go_roundg (gk - 1)
            case measure => omega
            case rel =>
              refine ⟨a + 1, by omega, by go_num, ?_⟩
              with_reducible exact H4
      · cases hb3 : ((hf a &&& m) &&& fb 28) == 0
        · as_aux_lemma =>
            have g27 : Proofs.Ythdgheglmkhcbaa.upd g a (adn (hf a) m) 27 = g 27 := upd_ne (by omega)
            have g28 : Proofs.Ythdgheglmkhcbaa.upd g a (adn (hf a) m) 28 = g 28 := upd_ne (by omega)
            have H1 := H.putI a had
            generalize Proofs.Ythdgheglmkhcbaa.upd g a (adn (hf a) m) = g1 at *
            have hnx : wh2 m en fb hf g1 a = g1 := by unfold wh2; rw [hb2]; rfl
            rw [hnx] at NX0
            have H2 := H1
            have e28 := g28
            obtain ⟨g2, hg2⟩ : ∃ g2, g1 = g2 := ⟨_, rfl⟩
            rw [hg2] at H2 NX0 e28
            have H3 := H2.putI 28 (or_pow (g 28) a (hM 28 (by omega)) hla)
            have hny : wh3 m fb hf g2 a = Proofs.Ythdgheglmkhcbaa.upd g2 28 (g 28 ||| 2 ^ a) := by unfold wh3; rw [hb3, e28]; rfl
            rw [hny] at NX0
            have H4 := Lib.hid (H3.less (g := whN m en fb hf (a + 1)) (fun i _ => by rw [NX0]))
            simp only [hb2] at hx2
            simp only [hb3] at hx3
            clear hb2 hb3 hny NX0 hM H1 H2 H3 H had e28 g27 g28
            try clear hnx
            try clear hg2
            go_wp2_with fail
            go_roundg (gk - 1)
            case measure => omega
            case rel =>
              refine ⟨a + 1, by omega, by go_num, ?_⟩
              with_reducible exact H4
        · as_aux_lemma =>
            have g27 : Proofs.Ythdgheglmkhcbaa.upd g a (adn (hf a) m) 27 = g 27 := upd_ne (by omega)
            have g28 : Proofs.Ythdgheglmkhcbaa.upd g a (adn (hf a) m) 28 = g 28 := upd_ne (by omega)
            have H1 := H.putI a had
            generalize Proofs.Ythdgheglmkhcbaa.upd g a (adn (hf a) m) = g1 at *
            have hnx : wh2 m en fb hf g1 a = g1 := by unfold wh2; rw [hb2]; rfl
            rw [hnx] at NX0
            have H2 := H1
            have e28 := g28
            obtain ⟨g2, hg2⟩ : ∃ g2, g1 = g2 := ⟨_, rfl⟩
            rw [hg2] at H2 NX0 e28
            have H3 := H2
            have hny : wh3 m fb hf g2 a = g2 := by unfold wh3; rw [hb3]; rfl
            rw [hny] at NX0
            have H4 := Lib.hid (H3.less (g := whN m en fb hf (a + 1)) (fun i _ => by rw [NX0]))
            simp only [hb2] at hx2
            simp only [hb3] at hx3
            clear hb2 hb3 hny NX0 hM H1 H2 H3 H had e28 g27 g28
            try clear hnx
            try clear hg2
            go_wp2_with fail
            go_roundg (gk - 1)
            case measure => omega
            case rel =>
              refine ⟨a + 1, by omega, by go_num, ?_⟩
              with_reducible exact H4
    · obtain rfl : a = 27 := by omega
      clear hla SM FB HF HD
      have k3 := H.loc
      rw [HVE.out] at k3
      have hz : VE.size = 29 := by rw [← HVE.out]; exact av_size _ _
      have h1 : VE.all (·.oneCell') = true := by rw [← HVE.out]; exact av_one _ _
      have hi : (Try.prog.info? 95).map (·.size) = some VE.size := by rw [hz]; exact all_size
      obtain ⟨old, hoz, k2⟩ := H.res
      have kE := setRow_heap wr (w.heap.size + 1) _ VE 95 (0, 0) k2
      have BE : Hid (Below w.heap.size w (wr.setRow (w.heap.size + 1) VE)) := H.below.trans (below_row (by first | omega | exact Nat.le_refl _) VE)
      have X := Lib.hid (And.intro k3 (And.intro k2 (And.intro hi (And.intro (hoz.trans hz.symm) (And.intro h1 kE)))))
      clear k3 k2 hoz kE hz h1 hi H HVE
      go_wp2_with (first | (refine wpList_load_row rfl 95 (.tmp 5) rfl (w.heap.size + 2) rfl 95 VE (0, 0) _ X.out.1 Try.underlying95 rfl X.out.2.2.1 ?_) | (refine wpList_store_row rfl 95 (.tmp 4) (.tmp 57) rfl (w.heap.size + 1) VE rfl rfl 95 old X.out.2.1 X.out.2.2.1 X.out.2.2.2.1 X.out.2.2.2.2.1 ?_))
      exact bodyPost_ret (v := .agg VE) (results_cell_row rfl _ _ (w.heap.size + 1) 95 VE (0, 0) _ rfl X.out.2.2.2.2.2 Try.underlying95 rfl X.out.2.2.1) rfl ⟨rfl, BE.out⟩
theorem l4While_any (fb : Nat → Nat) (hb : M29 fb) (m : Nat) (hm : m < 134217728) : ∃ f, M29 f ∧ ∀ w, Calls Try.prog 175 #[.int .i64 (m : Int), .agg (av 29 fb)] w fun e w' => (e = .returned (.agg (av 29 f)) ∧ Below w.heap.size w w') := by
  obtain ⟨en, hen, EN⟩ := l4Endless_any fb hb m hm
  have HD := fun (i : Nat) (hi : i < 27) => l4Heads_any fb hb m hm i hi
  obtain ⟨hf, hhf⟩ : ∃ hf : Nat → Nat, ∀ i : Nat, i < 27 → hf i < 134217728 ∧ ∀ w, Calls Try.prog 188 #[.int .i64 (m : Int), .agg (av 29 fb), .int .i64 (i : Int)] w fun e w' => (e = .returned (.int .i64 (hf i : Nat)) ∧ Below w.heap.size w w') :=
    ⟨fun i => if h : i < 27 then (HD i h).choose else 0, fun i hi => by have h := (HD i hi).choose_spec; simpa only [hi, dite_true] using h⟩
  exact ⟨whN m en fb hf 27, whN_small (fun i hi => (hhf i hi).1) 27 (Nat.le_refl _), fun w => l4While_walk fb hb m en hm hen hf (fun i hi => (hhf i hi).1) EN (fun i hi => (hhf i hi).2) w⟩

end Go.Proofs.Ythdgheglmkhcbaa
