/- RelOf of the program. -/
import Derived.Test.YthdgheglmkhcbaaPd
import Derived.Test.YthdgheglmkhcbaaGy
namespace Go.Proofs.Ythdgheglmkhcbaa
open Go.RowKit
open Pl

set_option maxHeartbeats 4000000 in
theorem relOf1_any (k : Nd) (hk : ok true 1 k = true) (i j : Nat) (hi : i < 27) (hj : j < 27) (I J : Int) (hI : I = (i : Int)) (hJ : J = (j : Int)) (c b : Nat) (W : World) (hc : W.cell? ⟨c, 0, none⟩ = some (.pointer (some ⟨b, 0, none⟩))) (hcl : c < W.heap.size) (hin : In W k b) :
    Calls Try.prog 75 #[.int .i64 I, .int .i64 J, .pointer (some ⟨c, 0, none⟩)] W fun e W' => e = .returned (.bool (relB k i j)) ∧ Below W.heap.size W W' := by
  subst hI
  subst hJ
  have TR := Lib.hid (fun eb w h1 h2 => truth_any (stX i) (stY i) (stZ i) (stX j) (stY j) (stZ j) (stX_small i) (stY_small i) (stZ_small hi) (stX_small j) (stY_small j) (stZ_small hj) true eb k b w hk h1 h2)
  have SA := Lib.hid (fun w => stateAt_any i hi w)
  have SB := Lib.hid (fun w => stateAt_any j hj w)
  have EA := Lib.hid (fun w => envOf_any (stX i) (stY i) (stZ i) (stX j) (stY j) (stZ j) w)
  have IN := Lib.hid hin
  unfold relB
  generalize stX i = x at *
  generalize stY i = y at *
  generalize stZ i = z at *
  generalize stX j = x' at *
  generalize stY j = y' at *
  generalize stZ j = z' at *
  generalize tru (envOf x y z x' y' z') k = bb at *
  clear hin
  go_enter Try.func75, Try.ntmps75
  go_wp2_with fail
  refine (SA.out _).mono ?_
  rintro e w1 ⟨rfl, hb1⟩
  replace hc := (hb1.cell (p := ⟨c, 0, none⟩) hcl).trans hc
  replace hcl := Nat.lt_of_lt_of_le hcl hb1.size
  replace IN := Lib.hid (IN.out.below hb1 (Nat.le_refl _))
  have B1 := Lib.hid hb1
  clear hb1
  go_wp2_with fail
  refine (SB.out _).mono ?_
  rintro e w2 ⟨rfl, hb2⟩
  replace hc := (hb2.cell (p := ⟨c, 0, none⟩) hcl).trans hc
  replace hcl := Nat.lt_of_lt_of_le hcl hb2.size
  replace IN := Lib.hid (IN.out.below hb2 (Nat.le_refl _))
  have B2 := Lib.hid (below_2 B1.out hb2)
  clear hb2
  go_wp2_with fail
  refine (EA.out _).mono ?_
  rintro e w3 ⟨rfl, hb3⟩
  replace hc := (hb3.cell (p := ⟨c, 0, none⟩) hcl).trans hc
  replace hcl := Nat.lt_of_lt_of_le hcl hb3.size
  replace IN := Lib.hid (IN.out.below hb3 (Nat.le_refl _))
  have B3 := Lib.hid (below_2 B2.out hb3)
  clear hb3
  have hc2 : (w3.alloc (.cells #[.int .i64 x, .int .i64 y, .int .i64 z, .int .i64 x', .int .i64 y', .int .i64 z'] 66)).cell? ⟨c, 0, none⟩ = some (.pointer (some ⟨b, 0, none⟩)) := (cellB hcl).trans hc
  go_wp2_with fail
  refine (TR.out w3.heap.size (w3.alloc (.cells #[.int .i64 x, .int .i64 y, .int .i64 z, .int .i64 x', .int .i64 y', .int .i64 z'] 66)) (IN.out.below ((Below.refl _ _).alloc (Nat.le_refl _) _) (Nat.le_refl _)) (env_new w3 x y z x' y' z')).mono ?_
  rintro e w4 ⟨rfl, n, rfl⟩
  go_wp2_with fail
  go_ret
  exact ⟨rfl, below_2 B3.out (((Below.refl _ _).alloc (Nat.le_refl _) _).trans (below_drewN _ _ _))⟩
set_option maxHeartbeats 4000000 in
theorem makeRel1_any (F : FuncId) (hent : ∀ (args : Array Value) (w : World), (callFunc F args).run Try.prog w = .ok (.enter F args) w) (caps : Array Value) (rb : Nat → Nat → Bool) (n : Nat) (hn : n < 729) (d : Nat) (W : World) (hd : W.cell? ⟨d, 0, none⟩ = some (.func (.func F) #[] caps))
    (HF : ∀ (i j : Nat), i < 27 → j < 27 → ∀ I J : Int, I = (i : Int) → J = (j : Int) → Calls Try.prog F (#[.int .i64 I, .int .i64 J] ++ caps) W fun e W' => e = .returned (.bool (rb i j)) ∧ Below W.heap.size W W') :
    Calls Try.prog 134 #[.int .i64 (n : Int), .pointer (some ⟨d, 0, none⟩)] W fun e W' => e = .returned (.bool (rb (n / 27) (n % 27))) ∧ Below W.heap.size W W' := by
  have FX := Lib.hid (HF (n / 27) (n % 27) (by omega) (by omega) ((n : Int) / 27) ((n : Int) % 27) (by omega) (by omega))
  clear HF
  generalize rb (n / 27) (n % 27) = r at *
  go_enter Try.func134, Try.ntmps134
  go_wp2_with fail
  refine FX.out.mono ?_
  rintro e w1 ⟨rfl, hb1⟩
  have B1 := Lib.hid hb1
  clear hb1
  go_wp2_with fail
  go_ret
  exact ⟨rfl, B1.out⟩
set_option maxHeartbeats 4000000 in
theorem makeRel_any (F : FuncId) (hent : ∀ (args : Array Value) (w : World), (callFunc F args).run Try.prog w = .ok (.enter F args) w) (caps : Array Value) (rb : Nat → Nat → Bool) (w : World)
    (HF : ∀ (i j : Nat), i < 27 → j < 27 → ∀ I J : Int, I = (i : Int) → J = (j : Int) → ∀ W, Below w.heap.size w W → Calls Try.prog F (#[.int .i64 I, .int .i64 J] ++ caps) W fun e W' => e = .returned (.bool (rb i j)) ∧ Below W.heap.size W W') :
    Calls Try.prog 74 #[.func (.func F) #[] caps] w fun e w' => (e = .returned (.string (bs (bitsN 729 (fun n => rb (n / 27) (n % 27))))) ∧ Below w.heap.size w w') := by
  have k1 := Blk.new w 71 #[.func (.func F) #[] caps]
  have B0 := Lib.hid (below_n w (.cells #[.func (.func F) #[] caps] 71))
  have ST := Lib.hid (bits_any 134 (enterF Try.func134 (by kernel_rfl) rfl) #[.pointer (some ⟨w.heap.size, 0, none⟩)] 729 (by omega) (fun n => rb (n / 27) (n % 27)) (w.alloc (.cells #[.func (.func F) #[] caps] 71))
    (fun n hn W hW => makeRel1_any F hent caps rb n hn w.heap.size W ((hW.cell (p := ⟨w.heap.size, 0, none⟩) k1.lt).trans (k1.cell 0)) (fun i j hi hj I J hI hJ => HF i j hi hj I J hI hJ W (below_2 B0.out hW))))
  have hmf : ∀ (f : Fn) (first cap : Array Value) (w : World), (Instr.makeFunc f first cap).run Try.prog w = .ok (.func f first cap) w := fun _ _ _ _ => rfl
  simp only [Int.cast_ofNat_Int] at ST
  clear k1 HF
  go_enter Try.func74, Try.ntmps74
  go_wp2_with fail
  refine ST.out.mono ?_
  rintro e w1 ⟨rfl, hb1⟩
  have B1 := Lib.hid (below_2 B0.out hb1)
  clear hb1
  go_wp2_with fail
  go_ret
  exact ⟨rfl, B1.out⟩
set_option maxRecDepth 100000 in
set_option maxHeartbeats 4000000 in
theorem RelOf_any (S : ByteArray) (hS : S.size ≤ 1000000000000) (w : World) : Calls Try.prog 16 #[.string S] w fun e w' => (e = .returned (.tuple #[.string (bs (optB ((whole true 1 200 S.data.toList).map relOf))), .bool ((whole true 1 200 S.data.toList).map relOf).isSome]) ∧ Below w.heap.size w w') := by
  have R := Lib.hid (parseWideTest_any S hS w)
  cases ho : whole true 1 200 S.data.toList with
  | none =>
    rw [ho] at R
    clear ho
    simp only [Option.map_none, optB, Option.isSome_none] at R ⊢
    go_enter Try.func16, Try.ntmps16
    go_wp2_with fail
    refine R.out.mono ?_
    rintro e w1 ⟨hb1, rfl⟩
    have B1 := Lib.hid (below_2 hb1 (below_n w1 (.cells #[.pointer none] 62)))
    clear R hb1
    go_wp2_with fail
    go_ret2
    exact ⟨(by first | trivial | rfl), B1.out⟩
  | some k =>
    rw [ho] at R
    obtain ⟨_, hk, _⟩ := (whole_iff (by omega)).1 ho
    simp only [Option.map_some, optB, Option.isSome_some] at R ⊢
    have HK := Lib.hid hk
    obtain ⟨RO, hRO⟩ : ∃ r, relOf k = r := ⟨_, rfl⟩
    rw [hRO]
    have HRO := Lib.hid hRO
    clear ho hk hRO
    go_enter Try.func16, Try.ntmps16
    go_wp2_with fail
    refine R.out.mono ?_
    rintro e w1 ⟨hb1, b, rfl, hin⟩
    have hk1 := Blk.new w1 62 #[.pointer (some ⟨b, 0, none⟩)]
    have I2 := Lib.hid (hin.below (below_n w1 (.cells #[.pointer (some ⟨b, 0, none⟩)] 62)) (Nat.le_refl _))
    have B1 := Lib.hid (below_2 hb1 (below_n w1 (.cells #[.pointer (some ⟨b, 0, none⟩)] 62)))
    have ST := Lib.hid (makeRel_any 75 (enterF Try.func75 (by kernel_rfl) rfl) #[.pointer (some ⟨w1.heap.size, 0, none⟩)] (relB k) (w1.alloc (.cells #[.pointer (some ⟨b, 0, none⟩)] 62))
      (fun i j hi hj I J hI hJ W hW => relOf1_any k HK.out i j hi hj I J hI hJ w1.heap.size b W ((hW.cell (p := ⟨w1.heap.size, 0, none⟩) hk1.lt).trans (hk1.cell 0)) (Nat.lt_of_lt_of_le hk1.lt hW.size) (I2.out.below hW (Nat.le_refl _))))
    have hmf : ∀ (f : Fn) (first cap : Array Value) (w : World), (Instr.makeFunc f first cap).run Try.prog w = .ok (.func f first cap) w := fun _ _ _ _ => rfl
    have hro : bitsN 729 (fun n => relB k (n / 27) (n % 27)) = relOf k := by rw [relOf]
    rw [hro] at ST
    rw [HRO.out] at ST
    clear R hb1 hin hk1 hro
    go_wp2_with fail
    refine ST.out.mono ?_
    rintro e w2 ⟨rfl, hb2⟩
    have B2 := Lib.hid (below_2 B1.out hb2)
    clear hb2
    go_wp2_with fail
    go_ret2
    exact ⟨(by first | trivial | rfl), B2.out⟩

end Go.Proofs.Ythdgheglmkhcbaa
