/- RelOf of the program. -/
import Derived.Test.YtccjmahhebiphaaDoorPd
import Derived.Test.YtccjmahhebiphaaDoorGy
namespace Go.Proofs.YtccjmahhebiphaaDoor
open Go.RowKit
open Pl

set_option maxHeartbeats 4000000 in
theorem makeRel1_any (F : FuncId) (hent : ∀ (args : Array Value) (w : World), (callFunc F args).run Tryd.prog w = .ok (.enter F args) w) (caps : Array Value) (rb : Nat → Nat → Bool) (n : Nat) (hn : n < 729) (d : Nat) (W : World) (hd : W.cell? ⟨d, 0, none⟩ = some (.func (.func F) #[] caps))
    (HF : ∀ (i j : Nat), i < 27 → j < 27 → ∀ I J : Int, I = (i : Int) → J = (j : Int) → Calls Tryd.prog F (#[.int .i64 I, .int .i64 J] ++ caps) W fun e W' => e = .returned (.bool (rb i j)) ∧ Below W.heap.size W W') :
    Calls Tryd.prog 136 #[.int .i64 (n : Int), .pointer (some ⟨d, 0, none⟩)] W fun e W' => e = .returned (.bool (rb (n / 27) (n % 27))) ∧ Below W.heap.size W W' := by
  have FX := Lib.hid (HF (n / 27) (n % 27) (by omega) (by omega) ((n : Int) / 27) ((n : Int) % 27) (by omega) (by omega))
  clear HF
  generalize rb (n / 27) (n % 27) = r at *
  go_enter Tryd.func136, Tryd.ntmps136
  go_wp2_with fail
  refine FX.out.mono ?_
  rintro e w1 ⟨rfl, hb1⟩
  have B1 := Lib.hid hb1
  clear hb1
  go_wp2_with fail
  go_ret
  exact ⟨rfl, B1.out⟩
set_option maxHeartbeats 4000000 in
theorem makeRel_any (F : FuncId) (hent : ∀ (args : Array Value) (w : World), (callFunc F args).run Tryd.prog w = .ok (.enter F args) w) (caps : Array Value) (rb : Nat → Nat → Bool) (w : World)
    (HF : ∀ (i j : Nat), i < 27 → j < 27 → ∀ I J : Int, I = (i : Int) → J = (j : Int) → ∀ W, Below w.heap.size w W → Calls Tryd.prog F (#[.int .i64 I, .int .i64 J] ++ caps) W fun e W' => e = .returned (.bool (rb i j)) ∧ Below W.heap.size W W') :
    Calls Tryd.prog 98 #[.func (.func F) #[] caps] w fun e w' => (e = .returned (.string (bs (bitsN 729 (fun n => rb (n / 27) (n % 27))))) ∧ Below w.heap.size w w') := by
  have k1 := Blk.new w 86 #[.func (.func F) #[] caps]
  have B0 := Lib.hid (below_n w (.cells #[.func (.func F) #[] caps] 86))
  have ST := Lib.hid (bits_any 136 (enterF Tryd.func136 (by kernel_rfl) rfl) #[.pointer (some ⟨w.heap.size, 0, none⟩)] 729 (by omega) (fun n => rb (n / 27) (n % 27)) (w.alloc (.cells #[.func (.func F) #[] caps] 86))
    (fun n hn W hW => makeRel1_any F hent caps rb n hn w.heap.size W ((hW.cell (p := ⟨w.heap.size, 0, none⟩) k1.lt).trans (k1.cell 0)) (fun i j hi hj I J hI hJ => HF i j hi hj I J hI hJ W (below_2 B0.out hW))))
  have hmf : ∀ (f : Fn) (first cap : Array Value) (w : World), (Instr.makeFunc f first cap).run Tryd.prog w = .ok (.func f first cap) w := fun _ _ _ _ => rfl
  simp only [Int.cast_ofNat_Int] at ST
  clear k1 HF
  go_enter Tryd.func98, Tryd.ntmps98
  go_wp2_with fail
  refine ST.out.mono ?_
  rintro e w1 ⟨rfl, hb1⟩
  have B1 := Lib.hid (below_2 B0.out hb1)
  clear hb1
  go_wp2_with fail
  go_ret
  exact ⟨rfl, B1.out⟩

end Go.Proofs.YtccjmahhebiphaaDoor
