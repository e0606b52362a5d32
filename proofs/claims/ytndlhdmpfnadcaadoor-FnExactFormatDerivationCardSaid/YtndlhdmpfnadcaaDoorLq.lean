/- Rows of ints: the law's own copies and comparisons. -/
import Derived.Test.YtndlhdmpfnadcaaDoorLp
import Derived.Deep.OwnRows
namespace Go.Proofs.YtndlhdmpfnadcaaDoor
open Go.RowKit
open Pl
set_option linter.unusedVariables false

/-- an array of ints -/
def iv (n : Nat) (f : Nat → Int) : Array Value := ((List.range n).map (fun a => Value.int .i64 (f a))).toArray
theorem iv_size (n : Nat) (f : Nat → Int) : (iv n f).size = n := by simp [iv]
theorem iv_get {n : Nat} (f : Nat → Int) {a : Nat} (ha : a < n) : (iv n f)[a]? = some (.int .i64 (f a)) := by simp [iv, ha]
theorem iv_congr {n : Nat} {f g : Nat → Int} (h : ∀ a, a < n → f a = g a) : iv n f = iv n g := by
  unfold iv
  congr 1
  apply List.map_congr_left
  intro a ha
  rw [h a (by simpa using ha)]
theorem iv_ext {n : Nat} {C : Array Value} (f : Nat → Int) (hz : C.size = n) (h : ∀ i, i < n → C[i]? = some (.int .i64 (f i))) : C = iv n f := by
  apply Array.ext
  · rw [hz, iv_size]
  · intro i h1 h2
    have := h i (by omega)
    have h3 := iv_get f (show i < n by omega)
    rw [Array.getElem?_eq_getElem h1] at this
    rw [Array.getElem?_eq_getElem h2] at h3
    exact Option.some.inj (this.trans h3.symm)
/-- what is copied so far -/
def cpF (z : Nat → Int) (i : Nat) : Nat → Int := fun a => if a < i then z a else 0
theorem cpF_next {n : Nat} (z : Nat → Int) {i : Nat} (hi : i < n) : (iv n (cpF z i)).setIfInBounds i (.int .i64 (z i)) = iv n (cpF z (i + 1)) := by
  apply iv_ext _ (by simp [iv_size])
  intro j hj
  by_cases h : j = i
  · subst h
    rw [Array.getElem?_setIfInBounds_self_of_lt (by rw [iv_size]; exact hj)]
    simp [cpF]
  · rw [Array.getElem?_setIfInBounds_ne (fun e => h e.symm), iv_get _ hj]
    have : (j < i) ↔ (j < i + 1) := by omega
    simp [cpF, this]
theorem cpF_all {n : Nat} (z : Nat → Int) : iv n (cpF z n) = iv n z := iv_congr (fun a ha => if_pos ha)
theorem made_iv (n : Nat) (z : Nat → Int) : madeCells #[.int .i64 0] n = iv n (cpF z 0) := by
  apply iv_ext _ (size_madeCells _ _)
  intro i hi
  simp [madeCells, cpF, hi, Nat.mod_one]
/-- a row of ints that can be read -/
def IR (W : World) (s : Option Addr) (n : Nat) (z : Nat → Int) : Prop :=
  n = 0 ∨ ∃ b off, s = some ⟨b, off, none⟩ ∧ b < W.heap.size ∧ ∀ i, i < n → W.cell? ⟨b, off + i, none⟩ = some (.int .i64 (z i))
theorem IR.call {W W' : World} {s : Option Addr} {n : Nat} {z : Nat → Int} (h : IR W s n z) (hb : Below W.heap.size W W') : IR W' s n z := by
  rcases h with h | ⟨b, off, hs, hlt, hc⟩
  · exact .inl h
  · exact .inr ⟨b, off, hs, Nat.lt_of_lt_of_le hlt hb.size, fun i hi => (hb.cell (p := ⟨b, off + i, none⟩) hlt).trans (hc i hi)⟩
theorem IR.setCell {W : World} {g : Nat} {n : Nat} {z : Nat → Int} (h : IR W (some ⟨g, 0, none⟩) n z) {p : Addr} (hp : g ≠ p.block) (u : Value) : IR (W.setCell p u) (some ⟨g, 0, none⟩) n z := by
  rcases h with h | ⟨b, off, hs, hlt, hc⟩
  · exact .inl h
  · cases hs
    exact .inr ⟨g, 0, rfl, by simpa [World.setCell] using hlt, fun i hi => (World.cell?_of_block (Below.heap_setCell _ _ _ _ (by exact hp))).trans (hc i hi)⟩
theorem IR.of_blk {W : World} {g : Nat} {t : TypeId} {n : Nat} {z : Nat → Int} (h : Blk W g t (iv n z)) : IR W (some ⟨g, 0, none⟩) n z :=
  .inr ⟨g, 0, rfl, h.lt, fun i hi => by rw [Nat.zero_add]; exact (h.cell i).trans (iv_get z hi)⟩
theorem infoI : (Tryd.prog.info? 3).map (fun i => (i.zero, i.size, i.bytes)) = some (some (.int .i64 0), 1, 8) := by kernel_rfl
set_option maxRecDepth 100000 in
set_option maxHeartbeats 8000000 in
theorem toIntS_any (s : Option Addr) (n c : Nat) (z : Nat → Int) (hn : n ≤ 1048576) (hc : n ≤ c) (w : World) (hI : IR w s n z) :
    Calls Tryd.prog 22 #[.slice s n c] w fun e w' => e = .returned (.slice (some ⟨w.heap.size, 0, none⟩) n n) ∧ IR w' (some ⟨w.heap.size, 0, none⟩) n z ∧ Below w.heap.size w w' := by
  have hmk := Go.run_make_row' (P := Tryd.prog) 33 3 (.int .i64 0) 8 Tryd.underlying33 infoI rfl .i64 .i64 n (by omega) (by omega)
  have K0 := Lib.hid (Blk.new w 3 (madeCells #[.int .i64 0] n))
  rw [made_iv n z] at K0
  rw [made_iv n z] at hmk
  have B0 : Hid (Below w.heap.size w (w.alloc (.cells (iv n (cpF z 0)) 3))) := below_n w _
  have HI := Lib.hid hI
  clear hI
  go_enter Tryd.func22, Tryd.ntmps22
  go_wp2_with fail
  go_loopg [4] n (fun gk sv wr => ∃ a : Nat, a + gk = n ∧ sv = .int .i64 a ∧ Hid (Blk wr w.heap.size 3 (iv n (cpF z a))) ∧ Hid (Below w.heap.size w wr))
  case atStart => exact ⟨0, by omega, rfl, K0, B0⟩
  case round =>
    clear K0 B0 hmk
    obtain ⟨a, ha, rfl, K, B⟩ := hrel
    by_cases hla : a < n
    · have hxa : (a : Int) < (n : Int) := by omega
      rcases HI.out with h0 | ⟨b, off, rfl, hlt, hcell⟩
      · omega
      have hd := (B.out.cell (p := ⟨b, off + a, none⟩) hlt).trans (hcell a hla)
      have hcc := (K.out.cell a).trans (iv_get _ hla)
      have hf := K.out.frozen a
      have k5 := K.out.set_ a (.int .i64 (z a))
      rw [cpF_next z hla] at k5
      have K5 := Lib.hid k5
      have B5 := Lib.hid (B.out.setCell (p := ⟨w.heap.size, a, none⟩) (Nat.le_refl _) (.int .i64 (z a)))
      clear k5 K B HI hcell hlt
      go_wp2_with fail
      go_roundg (gk - 1)
      case measure => omega
      case rel => exact ⟨a + 1, by omega, by go_num, K5, B5⟩
    · obtain rfl : a = n := by omega
      rw [cpF_all z] at K
      clear HI hla
      go_wp2_with fail
      go_ret
      exact ⟨rfl, IR.of_blk K.out, B.out⟩
set_option maxRecDepth 100000 in
set_option maxHeartbeats 8000000 in
theorem eqIntS_any (s t : Option Addr) (n c d : Nat) (z : Nat → Int) (hn : n ≤ 1048576) (hc : n ≤ c) (hd : n ≤ d) (w : World) (hI : IR w s n z) (hJ : IR w t n z) :
    Calls Tryd.prog 27 #[.slice s n c, .slice t n d] w fun e w' => e = .returned (.bool true) ∧ Below w.heap.size w w' := by
  have HI := Lib.hid hI
  have HJ := Lib.hid hJ
  have H0 := Lib.hid (Sit.refl w)
  clear hI hJ
  go_enter Tryd.func27, Tryd.ntmps27
  go_wp2_with fail
  go_loopg [5] n (fun gk sv wr => ∃ a : Nat, a + gk = n ∧ sv = .int .i64 a ∧ Hid (Sit w wr []))
  case atStart => exact ⟨0, by omega, rfl, H0⟩
  case round =>
    clear H0
    obtain ⟨a, ha, rfl, HH⟩ := hrel
    by_cases hla : a < n
    · have hxa : (a : Int) < (n : Int) := by omega
      rcases HI.out with h0 | ⟨b, off, rfl, hlt, hcell⟩
      · omega
      rcases HJ.out with h0 | ⟨b', off', rfl, hlt', hcell'⟩
      · omega
      have H := (HH.out.more (p := ⟨b, off + a, none⟩) (Nat.lt_of_lt_of_le hlt HH.out.below.size) ((HH.out.below.cell (p := ⟨b, off + a, none⟩) hlt).trans (hcell a hla))).more (p := ⟨b', off' + a, none⟩) (Nat.lt_of_lt_of_le hlt' HH.out.below.size) ((HH.out.below.cell (p := ⟨b', off' + a, none⟩) hlt').trans (hcell' a hla))
      generalize z a = x at *
      have q1 : (x != x) = false := by simp
      clear HI HJ HH hcell hcell' hlt hlt'
      go_wp2_with fail
      refine region_class (fun W => Sit w W [(⟨b', off' + a, none⟩, .int .i64 x), (⟨b, off + a, none⟩, .int .i64 x)]) (by kernel_rfl) (by kernel_rfl) H.drew ?_
      repeat (first | go_big_quiet_skip | (go_big_quiet_want; first | (apply quiet_value; (· (intro W hW; (have d0 := hW.get (p := ⟨b, off + a, none⟩) (v := .int .i64 x) (by simp); have d1 := hW.get (p := ⟨b', off' + a, none⟩) (v := .int .i64 x) (by simp)); go_simp; exact rfl)); simp only [Act.put, List.setIfInBounds_toArray, List.set_cons_zero, List.set_cons_succ]; go_big_quiet_on) | (apply quiet_call; (· (intro W hW; go_simp; exact ⟨rfl, rfl⟩)); (· (intro W hW; first | with_reducible exact ((hW.out W)).mono fun _ _ h => ⟨h.1, hW.call h.2⟩)); simp only [Act.put, List.setIfInBounds_toArray, List.set_cons_zero, List.set_cons_succ]; go_big_quiet_on)))
      refine wpQuiet_nil ?_
      intro wq hq
      clear H
      have H := hq
      clear hq
      go_wp2_with fail
      go_roundg (gk - 1)
      case measure => omega
      case rel => exact ⟨a + 1, by omega, by go_num, Lib.hid (H.less (by simp))⟩
    · obtain rfl : a = n := by omega
      clear HI HJ hla
      go_wp2_with fail
      go_ret
      exact ⟨rfl, HH.out.below⟩
end Go.Proofs.YtndlhdmpfnadcaaDoor
