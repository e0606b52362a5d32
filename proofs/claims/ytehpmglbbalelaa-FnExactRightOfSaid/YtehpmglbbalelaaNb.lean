/- strings.NewReplacer at six single letters, and what its first use makes of it. -/
import Derived.Test.YtehpmglbbalelaaNr
import Derived.Test.YtehpmglbbalelaaGc
import Derived.Test.YtehpmglbbalelaaGb
import Derived.Deep.WholeRow
import Derived.Laws.Tables
import Derived.Maps.AppendAt
import Derived.Laws.AppendOwnNone
namespace Go.Proofs.Ytehpmglbbalelaa
open Go.RowKit
open Pl
set_option linter.unusedVariables false

/-- the six letters of the replacer -/
def Six (w : World) (b : Nat) : Prop := b < w.heap.size ∧ w.cell? ⟨b, 0, none⟩ = some (.string ⟨#[120]⟩) ∧ w.cell? ⟨b, 1, none⟩ = some (.string ⟨#[88]⟩) ∧ w.cell? ⟨b, 2, none⟩ = some (.string ⟨#[121]⟩) ∧ w.cell? ⟨b, 3, none⟩ = some (.string ⟨#[89]⟩) ∧ w.cell? ⟨b, 4, none⟩ = some (.string ⟨#[122]⟩) ∧ w.cell? ⟨b, 5, none⟩ = some (.string ⟨#[90]⟩)
theorem Six.call {w w' : World} {b : Nat} (h : Six w b) (hb : Below w.heap.size w w') : Six w' b := by
  obtain ⟨hl, c0, c1, c2, c3, c4, c5⟩ := h
  exact ⟨Nat.lt_of_lt_of_le hl hb.size, (hb.cell (p := ⟨b, 0, none⟩) hl).trans c0, (hb.cell (p := ⟨b, 1, none⟩) hl).trans c1, (hb.cell (p := ⟨b, 2, none⟩) hl).trans c2, (hb.cell (p := ⟨b, 3, none⟩) hl).trans c3, (hb.cell (p := ⟨b, 4, none⟩) hl).trans c4, (hb.cell (p := ⟨b, 5, none⟩) hl).trans c5⟩
/-- a table of 256 bytes -/
def t8 (f : Nat → Nat) : Array Value := ((List.range 256).map (fun a => Value.int .u8 (f a : Nat))).toArray
theorem t8_size (f : Nat → Nat) : (t8 f).size = 256 := by simp [t8]
theorem t8_get (f : Nat → Nat) {a : Nat} (ha : a < 256) : (t8 f)[a]? = some (.int .u8 (f a : Nat)) := by simp [t8, ha]
theorem t8_ext {f : Nat → Nat} {V : Array Value} (hz : V.size = 256) (h : ∀ a, a < 256 → V[a]? = some (.int .u8 (f a : Nat))) : V = t8 f := by
  apply Array.ext_getElem?
  intro a
  by_cases ha : a < 256
  · rw [h a ha, t8_get _ ha]
  · rw [Array.getElem?_eq_none (by omega), Array.getElem?_eq_none (by rw [t8_size]; omega)]
def upd8 (f : Nat → Nat) (i v : Nat) : Nat → Nat := fun a => if a = i then v else f a
theorem t8_put {f : Nat → Nat} {i : Nat} (hi : i < 256) (v : Nat) : (t8 f).setIfInBounds i (.int .u8 (v : Nat)) = t8 (upd8 f i v) := by
  apply t8_ext (by rw [Array.size_setIfInBounds, t8_size])
  intro a ha
  by_cases e : i = a
  · subst e
    rw [Array.getElem?_setIfInBounds_self_of_lt (by rw [t8_size]; exact hi)]
    simp [upd8]
  · rw [Array.getElem?_setIfInBounds_ne e, t8_get _ ha]
    simp [upd8, show a ≠ i from fun h => e h.symm]
theorem t8_congr {f g : Nat → Nat} (h : ∀ a, a < 256 → f a = g a) : t8 f = t8 g := t8_ext (t8_size _) (fun a ha => by rw [t8_get _ ha, h a ha])
theorem t8_one (f : Nat → Nat) : (t8 f).all (·.oneCell') = true := by
  rw [Array.all_eq_true_iff_forall_mem]
  intro v hv
  simp only [t8, List.mem_toArray, List.mem_map] at hv
  obtain ⟨i, _, rfl⟩ := hv
  rfl
/-- a byte's number, up to i -/
def idF (i : Nat) : Nat → Nat := fun a => if a < i then a else 0
/-- the letters that are changed first -/
def ltF (k : Nat) : Nat → Nat :=
  if k = 0 then (fun a => a) else if k = 1 then upd8 (fun a => a) 122 90 else if k = 2 then upd8 (upd8 (fun a => a) 122 90) 121 89 else upd8 (upd8 (upd8 (fun a => a) 122 90) 121 89) 120 88
theorem ltF_3 : ltF 3 = upd8 (upd8 (upd8 (fun a => a) 122 90) 121 89) 120 88 := rfl
theorem id_next (a : Nat) : t8 (upd8 (idF a) a a) = t8 (idF (a + 1)) := t8_congr (fun x hx => by
  unfold upd8 idF
  by_cases e : x = a
  · rw [if_pos e, if_pos (by omega), e]
  · rw [if_neg e]
    by_cases h : x < a
    · rw [if_pos h, if_pos (by omega)]
    · rw [if_neg h, if_neg (by omega)])
theorem id_all : t8 (idF 256) = t8 (ltF 0) := t8_congr (fun x hx => by unfold idF; rw [if_pos hx]; rfl)
theorem ltF_upc (c : UInt8) : ltF 3 c.toNat = (upc c).toNat := by
  have h256 := UInt8.toNat_lt c
  by_cases h : 120 ≤ c.toNat ∧ c.toNat ≤ 122
  · have h2 := (upc_yes h.1 h.2)
    rw [h2.1, h2.2]
    have : c.toNat = 120 ∨ c.toNat = 121 ∨ c.toNat = 122 := by omega
    rw [ltF_3]
    rcases this with e | e | e <;> rw [e] <;> rfl
  · rw [upc_no h]
    rw [ltF_3]
    simp only [upd8]
    rw [if_neg (by omega), if_neg (by omega), if_neg (by omega)]
theorem tbl_of {w : World} {h : Nat} {t : TypeId} (hk : Blk w h t (t8 (ltF 3))) : Tbl w h := by
  refine ⟨hk.lt, fun c => ?_⟩
  have h256 := UInt8.toNat_lt c
  rw [hk.cell, t8_get _ (by omega), ltF_upc]
theorem zc8 : Try.zeroCells78 = t8 (fun _ => 0) := by kernel_rfl
theorem zero8 : (Try.prog.info? 78).map (fun i => (i.zero, i.size)) = some (some (.agg (t8 (fun _ => 0))), 256) := by kernel_rfl
set_option maxRecDepth 100000 in
set_option maxHeartbeats 16000000 in
theorem build_any (g b cap : Nat) (w : World) (hk : w.cell? ⟨g, 4, none⟩ = some (.slice (some ⟨b, 0, none⟩) 6 cap)) (hs : Six w b) :
    Calls Try.prog 28 #[.pointer (some ⟨g, 0, none⟩)] w fun e w' => ∃ h, e = .returned (.iface 79 (.pointer (some ⟨h, 0, none⟩))) ∧ w.heap.size ≤ h ∧ Tbl w' h ∧ Below w.heap.size w w' := by
  have HS := Lib.hid hs
  have Z := Lib.hid (zero_of_info zero8)
  clear hs
  obtain ⟨hl, c0, c1, c2, c3, c4, c5⟩ := HS.out
  go_enter Try.func28, Try.ntmps28
  go_wp2_with fail
  go_loopg [4, 5] 3 (fun gk av iv wr => ∃ a : Nat, a + gk = 3 ∧ av = .bool true ∧ iv = .int .i64 ((2 * a : Nat) : Int) ∧ Hid (w = wr))
  case atStart => exact ⟨0, rfl, rfl, rfl, Lib.hid rfl⟩
  case round =>
    obtain ⟨a, ha, rfl, rfl, HW⟩ := hrel
    obtain rfl := HW.out
    by_cases h3 : a < 3
    · have h012 : a = 0 ∨ a = 1 ∨ a = 2 := by omega
      rcases h012 with rfl | rfl | rfl
      · go_wp2_with fail
        go_roundg (gk - 1)
        case measure => omega
        case rel => exact ⟨1, by omega, rfl, by go_num, Lib.hid rfl⟩
      · go_wp2_with fail
        go_roundg (gk - 1)
        case measure => omega
        case rel => exact ⟨2, by omega, rfl, by go_num, Lib.hid rfl⟩
      · go_wp2_with fail
        go_roundg (gk - 1)
        case measure => omega
        case rel => exact ⟨3, by omega, rfl, by go_num, Lib.hid rfl⟩
    · obtain rfl : a = 3 := by omega
      have hst : (storeCells ⟨w.heap.size, 0, none⟩ Try.zeroCells78.toList).run Try.prog (w.alloc (.cells Try.zeroCells78 78)) = .ok () (w.alloc (.cells Try.zeroCells78 78)) := by
        rw [zc8]
        exact run_storeCells_new (P := Try.prog) w _ _ _ (by rw [t8_size]; exact Z.out.2) rfl (t8_one _)
      have K0 : Hid (Blk (w.alloc (.cells Try.zeroCells78 78)) w.heap.size 78 (t8 (idF 0))) := by
        have := Blk.new w 78 Try.zeroCells78
        rw [show t8 (idF 0) = Try.zeroCells78 from (zc8.trans (t8_congr (fun a _ => rfl))).symm]
        exact this
      have B0 := Lib.hid (below_n w (.cells Try.zeroCells78 78))
      go_wp2_with fail
      clear hst
      go_loopg [61] 256 (fun gk iv wr => ∃ a : Nat, a + gk = 256 ∧ iv = .int .i64 a ∧ Hid (Blk wr w.heap.size 78 (t8 (idF a))) ∧ Hid (Below w.heap.size w wr))
      case atStart => exact ⟨0, rfl, rfl, K0, B0⟩
      case round =>
        clear K0 B0
        obtain ⟨a, ha, rfl, K, B⟩ := hrel
        by_cases hla : a < 256
        · have hxa : (a : Int) < 256 := by omega
          have hda : decide ((a : Int) < 256) = true := decide_eq_true hxa
          have hw8 : IntKind.u8.wrap (a : Int) = (a : Int) := IntWalk.u8_in _ (by omega)
          have d0 : wr.cell? ⟨w.heap.size, a, none⟩ = some (.int .u8 (idF a a : Nat)) := (K.out.cell a).trans (t8_get _ hla)
          have f0 := K.out.frozen a
          have hk2 := K.out.set_ a (.int .u8 (a : Nat))
          rw [t8_put hla, id_next] at hk2
          have K2 := Lib.hid hk2
          have B2 := Lib.hid (B.out.setCell (p := ⟨w.heap.size, a, none⟩) (Nat.le_refl _) (.int .u8 (a : Nat)))
          clear hk2 K B
          go_wp2_with fail
          go_roundg (gk - 1)
          case measure => omega
          case rel => exact ⟨a + 1, by omega, by go_num, K2, B2⟩
        · obtain rfl : a = 256 := by omega
          have K3 : Hid (Blk wr w.heap.size 78 (t8 (ltF 0))) := by rw [← id_all]; exact K.out
          have B3 := B
          clear K B
          go_wp2_with fail
          go_loopg [8] 3 (fun gk iv wr => ∃ a : Nat, a + gk = 3 ∧ iv = .int .i64 (4 - 2 * (a : Int)) ∧ Hid (Blk wr w.heap.size 78 (t8 (ltF a))) ∧ Hid (Below w.heap.size w wr))
          case atStart => exact ⟨0, rfl, rfl, K3, B3⟩
          case round =>
            clear K3 B3
            obtain ⟨a, ha, rfl, K, B⟩ := hrel
            obtain ⟨_, e0, e1, e2, e3, e4, e5⟩ := HS.out.call B.out
            by_cases h3 : a < 3
            · have h012 : a = 0 ∨ a = 1 ∨ a = 2 := by omega
              rcases h012 with rfl | rfl | rfl
              · have d0 : wr.cell? ⟨w.heap.size, 122, none⟩ = some (.int .u8 (ltF 0 122 : Nat)) := (K.out.cell 122).trans (t8_get _ (by decide))
                have f0 := K.out.frozen 122
                have hk2 := K.out.set_ 122 (.int .u8 (90 : Nat))
                rw [t8_put (by decide)] at hk2
                have K2 : Hid (Blk (wr.setCell ⟨w.heap.size, 122, none⟩ (.int .u8 90)) w.heap.size 78 (t8 (ltF 1))) := hk2
                have B2 := Lib.hid (B.out.setCell (p := ⟨w.heap.size, 122, none⟩) (Nat.le_refl _) (.int .u8 90))
                clear hk2 K B
                obtain ⟨U, zu, ⟨pu, gu⟩, eu⟩ : ∃ U : ByteArray, U.size = 1 ∧ (∃ h : 0 < U.size, U[0] = 122) ∧ wr.cell? ⟨b, 4, none⟩ = some (.string U) := ⟨⟨#[122]⟩, rfl, ⟨by decide, rfl⟩, e4⟩
                obtain ⟨V, zv, ⟨pv, gv⟩, ev⟩ : ∃ U : ByteArray, U.size = 1 ∧ (∃ h : 0 < U.size, U[0] = 90) ∧ wr.cell? ⟨b, 5, none⟩ = some (.string U) := ⟨⟨#[90]⟩, rfl, ⟨by decide, rfl⟩, e5⟩
                clear e0 e1 e2 e3 e4 e5 c0 c1 c2 c3 c4 c5
                go_wp2_with fail
                go_roundg (gk - 1)
                case measure => omega
                case rel => exact ⟨1, by omega, by go_num, K2, B2⟩
              · have d0 : wr.cell? ⟨w.heap.size, 121, none⟩ = some (.int .u8 (ltF 1 121 : Nat)) := (K.out.cell 121).trans (t8_get _ (by decide))
                have f0 := K.out.frozen 121
                have hk2 := K.out.set_ 121 (.int .u8 (89 : Nat))
                rw [t8_put (by decide)] at hk2
                have K2 : Hid (Blk (wr.setCell ⟨w.heap.size, 121, none⟩ (.int .u8 89)) w.heap.size 78 (t8 (ltF 2))) := hk2
                have B2 := Lib.hid (B.out.setCell (p := ⟨w.heap.size, 121, none⟩) (Nat.le_refl _) (.int .u8 89))
                clear hk2 K B
                obtain ⟨U, zu, ⟨pu, gu⟩, eu⟩ : ∃ U : ByteArray, U.size = 1 ∧ (∃ h : 0 < U.size, U[0] = 121) ∧ wr.cell? ⟨b, 2, none⟩ = some (.string U) := ⟨⟨#[121]⟩, rfl, ⟨by decide, rfl⟩, e2⟩
                obtain ⟨V, zv, ⟨pv, gv⟩, ev⟩ : ∃ U : ByteArray, U.size = 1 ∧ (∃ h : 0 < U.size, U[0] = 89) ∧ wr.cell? ⟨b, 3, none⟩ = some (.string U) := ⟨⟨#[89]⟩, rfl, ⟨by decide, rfl⟩, e3⟩
                clear e0 e1 e2 e3 e4 e5 c0 c1 c2 c3 c4 c5
                go_wp2_with fail
                go_roundg (gk - 1)
                case measure => omega
                case rel => exact ⟨2, by omega, by go_num, K2, B2⟩
              · have d0 : wr.cell? ⟨w.heap.size, 120, none⟩ = some (.int .u8 (ltF 2 120 : Nat)) := (K.out.cell 120).trans (t8_get _ (by decide))
                have f0 := K.out.frozen 120
                have hk2 := K.out.set_ 120 (.int .u8 (88 : Nat))
                rw [t8_put (by decide)] at hk2
                have K2 : Hid (Blk (wr.setCell ⟨w.heap.size, 120, none⟩ (.int .u8 88)) w.heap.size 78 (t8 (ltF 3))) := hk2
                have B2 := Lib.hid (B.out.setCell (p := ⟨w.heap.size, 120, none⟩) (Nat.le_refl _) (.int .u8 88))
                clear hk2 K B
                obtain ⟨U, zu, ⟨pu, gu⟩, eu⟩ : ∃ U : ByteArray, U.size = 1 ∧ (∃ h : 0 < U.size, U[0] = 120) ∧ wr.cell? ⟨b, 0, none⟩ = some (.string U) := ⟨⟨#[120]⟩, rfl, ⟨by decide, rfl⟩, e0⟩
                obtain ⟨V, zv, ⟨pv, gv⟩, ev⟩ : ∃ U : ByteArray, U.size = 1 ∧ (∃ h : 0 < U.size, U[0] = 88) ∧ wr.cell? ⟨b, 1, none⟩ = some (.string U) := ⟨⟨#[88]⟩, rfl, ⟨by decide, rfl⟩, e1⟩
                clear e0 e1 e2 e3 e4 e5 c0 c1 c2 c3 c4 c5
                go_wp2_with fail
                go_roundg (gk - 1)
                case measure => omega
                case rel => exact ⟨3, by omega, by go_num, K2, B2⟩
            · obtain rfl : a = 3 := by omega
              go_wp2_with fail
              go_ret
              exact ⟨w.heap.size, rfl, Nat.le_refl _, tbl_of K.out, B.out⟩
theorem Six.far {w : World} {b : Nat} (h : Six w b) {p : Addr} (hne : b ≠ p.block) (u : Value) : Six (w.setCell p u) b := by
  obtain ⟨hl, c0, c1, c2, c3, c4, c5⟩ := h
  have e : ∀ j : Nat, (w.setCell p u).cell? ⟨b, j, none⟩ = w.cell? ⟨b, j, none⟩ := fun j => World.cell?_setCell_other _ _ _ _ (fun e => hne (by rw [e]))
  exact ⟨by simpa [World.setCell] using hl, (e 0).trans c0, (e 1).trans c1, (e 2).trans c2, (e 3).trans c3, (e 4).trans c4, (e 5).trans c5⟩
theorem Tbl.far {w : World} {h : Nat} (t : Tbl w h) {p : Addr} (hne : h ≠ p.block) (u : Value) : Tbl (w.setCell p u) h :=
  ⟨by simpa [World.setCell] using t.1, fun c => (World.cell?_setCell_other _ _ _ _ (fun e => hne (by rw [e]))).trans (t.2 c)⟩
set_option maxRecDepth 100000 in
set_option maxHeartbeats 8000000 in
theorem once_any (g b cap : Nat) (c0 c1 c2 c3 : Value) (w : World) (hk : Blk w g 55 #[c0, c1, c2, c3, .slice (some ⟨b, 0, none⟩) 6 cap]) (hs : Six w b) :
    Calls Try.prog 24 #[.pointer (some ⟨g, 0, none⟩)] w fun e w' => ∃ h wb, e = .returned (.tuple #[]) ∧ w.heap.size ≤ h ∧ Tbl wb h ∧ Below w.heap.size w wb ∧ w' = (wb.setCell ⟨g, 3, none⟩ (.iface 79 (.pointer (some ⟨h, 0, none⟩)))).setCell ⟨g, 4, none⟩ (.slice none 0 0) := by
  have BA := Lib.hid (build_any g b cap w (hk.cell 4) hs)
  have HK := Lib.hid hk
  clear hk hs
  go_enter Try.func24, Try.ntmps24
  go_wp2_with fail
  refine BA.out.mono ?_
  rintro e wb ⟨h, rfl, hh, hT, hb⟩
  have K := HK.out.below hb HK.out.lt
  have K2 := K.set_ 3 (.iface 79 (.pointer (some ⟨h, 0, none⟩)))
  have d3 := K.cell 3
  have f3 := K.frozen 3
  have d4 := K2.cell 4
  have f4 := K2.frozen 4
  simp at d3 d4
  have HT := Lib.hid hT
  have HB := Lib.hid hb
  clear K K2 hT hb BA HK
  go_wp2_with fail
  go_end0
  exact ⟨h, wb, rfl, hh, HT.out, HB.out, rfl⟩
set_option maxRecDepth 100000 in
set_option maxHeartbeats 16000000 in
theorem slow_any (g b cap : Nat) (c2 c3 : Value) (w : World) (hk : Blk w g 55 #[.int .u32 0, .int .i32 0, c2, c3, .slice (some ⟨b, 0, none⟩) 6 cap]) (hs : Six w b) (hbg : b ≠ g) :
    Calls Try.prog 27 #[.pointer (some ⟨g, 0, none⟩), .func (.func 24) #[.pointer (some ⟨g, 0, none⟩)] #[]] w fun e w' => e = .returned (.tuple #[]) ∧ ∃ h, w.heap.size ≤ h ∧ Tbl w' h ∧ w.grownBy w' (some g) ∧ w'.cell? ⟨g, 3, none⟩ = some (.iface 79 (.pointer (some ⟨h, 0, none⟩))) := by
  have hc1 := hk.cell 1
  have hf1 := hk.frozen 1
  simp at hc1
  have k1 : Blk (w.setCell ⟨g, 1, none⟩ (.int .i32 1)) g 55 #[.int .u32 0, .int .i32 1, c2, c3, .slice (some ⟨b, 0, none⟩) 6 cap] := by
    have := hk.set_ 1 (.int .i32 1)
    simpa using this
  have hl := run_call_load (P := Try.prog) Try.func30 (by kernel_rfl) (by kernel_rfl) (by kernel_rfl) .u32 (by kernel_rfl) (w := w.setCell ⟨g, 1, none⟩ (.int .i32 1)) (a := ⟨g, 0, none⟩) (x := 0) (k1.cell 0)
  have hnot : ∀ (x : Bool) (w : World), (Op.unary .not (.bool x)).run Try.prog w = .ok (.bool (!x)) w := fun _ _ => rfl
  have ON := Lib.hid (once_any g b cap _ _ _ _ _ k1 (hs.far (p := ⟨g, 1, none⟩) hbg _))
  have K1 := Lib.hid k1
  have HL := Lib.hid hk.lt
  clear hk hs k1
  go_enter_defers Try.func27, Try.ntmps27
  go_wp2_with (first | (go_at_call 31; refine (lock_free ⟨g, 1, none⟩ _ hc1 hf1).mono ?_; rintro e w' ⟨rfl, rfl⟩) | (go_at_call 26; go_in) | (go_at_call 24; refine ON.out.mono ?_; rintro e w' ⟨h, wb, rfl, hh, hT, hb, rfl⟩))
  have hsz : w.heap.size = (w.setCell ⟨g, 1, none⟩ (.int .i32 1)).heap.size := by simp [World.setCell]
  have hgw := HL.out
  have KB := K1.out.below hb K1.out.lt
  have K3 : Blk ((wb.setCell ⟨g, 3, none⟩ (.iface 79 (.pointer (some ⟨h, 0, none⟩)))).setCell ⟨g, 4, none⟩ (.slice none 0 0)) g 55 #[.int .u32 0, .int .i32 1, c2, .iface 79 (.pointer (some ⟨h, 0, none⟩)), .slice none 0 0] := by
    have := (KB.set_ 3 (.iface 79 (.pointer (some ⟨h, 0, none⟩)))).set_ 4 (.slice none 0 0)
    simpa using this
  have G3 : w.grownBy ((wb.setCell ⟨g, 3, none⟩ (.iface 79 (.pointer (some ⟨h, 0, none⟩)))).setCell ⟨g, 4, none⟩ (.slice none 0 0)) (some g) :=
    grown_trans (grown_trans (grown_trans (grownBy_setCell w ⟨g, 1, none⟩ _) (grown_of_below hb (some g))) (grownBy_setCell wb ⟨g, 3, none⟩ _)) (grownBy_setCell _ ⟨g, 4, none⟩ _)
  have hhg : h ≠ g := by omega
  have T3 : Tbl ((wb.setCell ⟨g, 3, none⟩ (.iface 79 (.pointer (some ⟨h, 0, none⟩)))).setCell ⟨g, 4, none⟩ (.slice none 0 0)) h := (hT.far (p := ⟨g, 3, none⟩) hhg _).far (p := ⟨g, 4, none⟩) hhg _
  generalize (wb.setCell ⟨g, 3, none⟩ (.iface 79 (.pointer (some ⟨h, 0, none⟩)))).setCell ⟨g, 4, none⟩ (.slice none 0 0) = w3 at *
  -- the door: two deferred calls, the last laid first
  refine leaves_cons (f := 33) (args := #[.pointer (some ⟨g, 0, none⟩), .bool true]) (by simp) (by simp [go_sem]) ?_
  refine (store_deferred ⟨g, 0, none⟩ (.int .u32 0) .returning _ (K3.cell 0) (K3.frozen 0)).mono ?_
  rintro e u' w'' ⟨rfl, rfl, rfl⟩
  have K4 : Blk (w3.drew.setCell ⟨g, 0, none⟩ (.int .u32 1)) g 55 #[.int .u32 1, .int .i32 1, c2, .iface 79 (.pointer (some ⟨h, 0, none⟩)), .slice none 0 0] := by
    have := Blk.set_ (w := w3.drew) (show Blk w3.drew g 55 _ from K3) 0 (.int .u32 1)
    simpa using this
  refine leaves_cons (f := 32) (args := #[.pointer (some ⟨g, 1, none⟩)]) (by simp [settle]) (by simp [go_sem]) ?_
  refine (unlock_deferred ⟨g, 1, none⟩ _ _ (K4.cell 1) (K4.frozen 1)).mono ?_
  rintro e u' w'' ⟨rfl, rfl, rfl⟩
  have K5 : Blk ((w3.drew.setCell ⟨g, 0, none⟩ (.int .u32 1)).setCell ⟨g, 1, none⟩ (.int .i32 0)) g 55 #[.int .u32 1, .int .i32 0, c2, .iface 79 (.pointer (some ⟨h, 0, none⟩)), .slice none 0 0] := by
    have := K4.set_ 1 (.int .i32 0)
    simpa using this
  have G5 : w.grownBy ((w3.drew.setCell ⟨g, 0, none⟩ (.int .u32 1)).setCell ⟨g, 1, none⟩ (.int .i32 0)) (some g) :=
    grown_trans (grown_trans (grown_below G3 (below_drew _ _)) (grownBy_setCell _ ⟨g, 0, none⟩ _)) (grownBy_setCell _ ⟨g, 1, none⟩ _)
  have T5 : Tbl ((w3.drew.setCell ⟨g, 0, none⟩ (.int .u32 1)).setCell ⟨g, 1, none⟩ (.int .i32 0)) h := (Tbl.far (w := w3.drew) (T3) (p := ⟨g, 0, none⟩) hhg _).far (p := ⟨g, 1, none⟩) hhg _
  have hx := K5.cell 3
  exact ⟨_, results_none rfl _ _ _, rfl, h, by omega, T5, G5, hx⟩
set_option maxRecDepth 100000 in
set_option maxHeartbeats 8000000 in
theorem do_any (g b cap : Nat) (c2 c3 : Value) (w : World) (hk : Blk w g 55 #[.int .u32 0, .int .i32 0, c2, c3, .slice (some ⟨b, 0, none⟩) 6 cap]) (hs : Six w b) (hbg : b ≠ g) :
    Calls Try.prog 23 #[.pointer (some ⟨g, 0, none⟩), .func (.func 24) #[.pointer (some ⟨g, 0, none⟩)] #[]] w fun e w' => e = .returned (.tuple #[]) ∧ ∃ h, w.heap.size ≤ h ∧ Tbl w' h ∧ w.grownBy w' (some g) ∧ w'.cell? ⟨g, 3, none⟩ = some (.iface 79 (.pointer (some ⟨h, 0, none⟩))) := by
  have hl := run_call_load (P := Try.prog) Try.func30 (by kernel_rfl) (by kernel_rfl) (by kernel_rfl) .u32 (by kernel_rfl) (w := w) (a := ⟨g, 0, none⟩) (x := 0) (hk.cell 0)
  have hnot : ∀ (x : Bool) (w : World), (Op.unary .not (.bool x)).run Try.prog w = .ok (.bool (!x)) w := fun _ _ => rfl
  have SL := Lib.hid (slow_any g b cap c2 c3 w hk hs hbg)
  clear hk hs
  go_enter Try.func23, Try.ntmps23
  go_wp2_with (first | (go_at_call 27; refine SL.out.mono ?_; rintro e w' ⟨rfl, hx⟩; have HX := Lib.hid hx; clear hx) | (go_at_call 26; go_in))
  go_end0
  exact ⟨rfl, HX.out⟩
set_option maxRecDepth 100000 in
set_option maxHeartbeats 8000000 in
theorem replace_any (g b cap : Nat) (c2 c3 : Value) (S : ByteArray) (hS : S.size ≤ 1000000) (w : World) (hk : Blk w g 55 #[.int .u32 0, .int .i32 0, c2, c3, .slice (some ⟨b, 0, none⟩) 6 cap]) (hs : Six w b) (hbg : b ≠ g) :
    Calls Try.prog 17 #[.pointer (some ⟨g, 0, none⟩), .string S] w fun e w' => e = .returned (.string (bs (S.data.toList.map upc))) ∧ w.grownBy w' (some g) := by
  have hmf : ∀ (fn : Fn) (first cap : Array Value) (w : World), (Instr.makeFunc fn first cap).run Try.prog w = .ok (.func fn first cap) w := fun _ _ _ _ => rfl
  have hm : ∀ (a : Addr) (w : World), (method 257 79 (.pointer (some a)) "Replace").run Try.prog w = .ok (90, .pointer (some a)) w := fun _ _ => by kernel_rfl
  have DO := Lib.hid (do_any g b cap c2 c3 w hk hs hbg)
  have RP := Lib.hid (fun h w hT => rep_any h S hS w hT)
  generalize bs (S.data.toList.map upc) = R at *
  clear hk hs
  go_enter Try.func17, Try.ntmps17
  go_wp2_with fail
  refine DO.out.mono ?_
  rintro e w1 ⟨rfl, h, hh, hT, hG, hc⟩
  have HT := Lib.hid hT
  have HG := Lib.hid hG
  clear hT hG DO
  go_wp2_with fail
  refine (RP.out h _ HT.out).mono ?_
  rintro e w2 ⟨rfl, hb⟩
  have HB := Lib.hid hb
  clear hb
  go_wp2_with fail
  go_ret
  exact ⟨rfl, grown_below HG.out HB.out⟩
def NewPost (w : World) (e : Ending) (w' : World) : Prop := ∃ g b2 cap c2 c3, e = .returned (.pointer (some ⟨g, 0, none⟩)) ∧ w.heap.size ≤ g ∧ b2 ≠ g ∧ Blk w' g 55 #[.int .u32 0, .int .i32 0, c2, c3, .slice (some ⟨b2, 0, none⟩) 6 cap] ∧ Six w' b2 ∧ Below w.heap.size w w'
theorem infoS8 : (Try.prog.info? 9).map (fun i => (i.zero, i.size, i.bytes)) = some (some (.string ⟨#[]⟩), 1, 16) := by kernel_rfl
def six : List Value := [.string ⟨#[120]⟩, .string ⟨#[88]⟩, .string ⟨#[121]⟩, .string ⟨#[89]⟩, .string ⟨#[122]⟩, .string ⟨#[90]⟩]
theorem six_news {w : World} {b : Nat} (h : Six w b) : ∀ j u, six[j]? = some u → w.cell? ((⟨b, 0, none⟩ : Addr).add j) = some u := by
  obtain ⟨hl, c0, c1, c2, c3, c4, c5⟩ := h
  intro j u hu
  have e : (⟨b, 0, none⟩ : Addr).add j = ⟨b, j, none⟩ := by unfold Addr.add; split <;> simp_all
  rw [e]
  match j, hu with
  | 0, hu => cases hu; exact c0
  | 1, hu => cases hu; exact c1
  | 2, hu => cases hu; exact c2
  | 3, hu => cases hu; exact c3
  | 4, hu => cases hu; exact c4
  | 5, hu => cases hu; exact c5
theorem six_own {w : World} {base : Nat} {v : Value} (h : w.ownsRow base 9 1 v 6 six) : ∃ b cap, v = .slice (some ⟨b, 0, none⟩) 6 cap ∧ base ≤ b ∧ Six w b := by
  rcases h.2 with ⟨_, h2⟩ | ⟨g, cap, cur, rfl, hb, hg, hc, hm, hs, ht⟩
  · omega
  · have hk : Blk w g 9 cur := hg
    have hx : ∀ j, j < 6 → w.cell? ⟨g, j, none⟩ = six[j]? := fun j hj => by
      rw [hk.cell, ← ht, List.getElem?_take, if_pos (by omega), Array.getElem?_toList]
    exact ⟨g, cap, rfl, hb, hk.lt, hx 0 (by decide), hx 1 (by decide), hx 2 (by decide), hx 3 (by decide), hx 4 (by decide), hx 5 (by decide)⟩
set_option maxRecDepth 100000 in
set_option maxHeartbeats 8000000 in
theorem newrep_any (b : Nat) (w : World) (hs : Six w b) :
    Calls Try.prog 16 #[.slice (some ⟨b, 0, none⟩) 6 6] w (NewPost w) := by
  obtain ⟨i0, hi0, hz0, hz1, hz2⟩ : ∃ i, Try.prog.info? 9 = some i ∧ i.zero = some (.string ⟨#[]⟩) ∧ i.size = 1 ∧ i.bytes = 16 := by
    have h := infoS8
    cases hq : Try.prog.info? 9 with
    | none => simp [hq] at h
    | some i => simp [hq] at h; exact ⟨i, rfl, h.1, h.2.1, h.2.2⟩
  have J0 := Lib.hid hi0
  have J1 := Lib.hid hz0
  have J2 := Lib.hid hz1
  have J3 := Lib.hid hz2
  have HN := Lib.hid (six_news hs)
  clear hi0 hz0 hz1 hz2 hs
  go_enter Try.func16, Try.ntmps16
  go_wp2_with (at_builtin
               refine wpList_append_own_at _ rfl (.const (.slice none 0 0)) (.tmp 8) 39 rfl w.heap.size 9 i0 _ 1 16 Try.underlying39 J0.out J1.out J2.out J3.out rfl (by decide) (.slice none 0 0) 0 [] rfl (World.ownsRow_nil _ _ _ _) ⟨b, 0, none⟩ 6 6 six rfl rfl HN.out (by intro u hu; simp [six] at hu; rcases hu with rfl | rfl | rfl | rfl | rfl | rfl <;> rfl) (by simp only [maxLen]; omega) (by omega) (Nat.le_refl _) ?_
               intro v1 w1 hown1 hgr1 _ _
               rw [Nat.zero_add, List.nil_append] at hown1
               obtain ⟨b2, cap, rfl, hb2, hs2⟩ := six_own hown1
               have B1 := Lib.hid ((Below.refl w.heap.size w).grown hgr1 (Nat.le_refl _) (fun k e => by cases e))
               have S1 := Lib.hid hs2
               have hl2 : b2 < w1.heap.size := hs2.1
               have hsz : w.heap.size ≤ w1.heap.size := B1.out.size
               clear hown1 hgr1 hs2)
  go_ret
  exact ⟨_, b2, cap, _, _, rfl, hsz, by omega, Blk.new w1 _ _, S1.out.call (below_n w1 _), below_2 B1.out (below_n w1 _)⟩
set_option maxRecDepth 100000 in
set_option maxHeartbeats 8000000 in
theorem right_any (S : ByteArray) (hS : S.size ≤ 1000000) (w : World) :
    Calls Try.prog 12 #[.string S] w fun e w' => e = .returned (.string (bs (S.data.toList.map upc))) ∧ Below w.heap.size w w' := by
  have hs : Six (w.alloc (.cells #[.string ⟨#[120]⟩, .string ⟨#[88]⟩, .string ⟨#[121]⟩, .string ⟨#[89]⟩, .string ⟨#[122]⟩, .string ⟨#[90]⟩] 9)) w.heap.size := by
    have k := Blk.new w 9 #[.string ⟨#[120]⟩, .string ⟨#[88]⟩, .string ⟨#[121]⟩, .string ⟨#[89]⟩, .string ⟨#[122]⟩, .string ⟨#[90]⟩]
    exact ⟨k.lt, k.cell 0, k.cell 1, k.cell 2, k.cell 3, k.cell 4, k.cell 5⟩
  have NR := Lib.hid (newrep_any w.heap.size _ hs)
  have RP := Lib.hid (fun g b cap c2 c3 w hk hs hbg => replace_any g b cap c2 c3 S hS w hk hs hbg)
  generalize bs (S.data.toList.map upc) = R at *
  clear hs
  go_enter Try.func12, Try.ntmps12
  go_wp2_with fail
  refine NR.out.mono ?_
  rintro e w1 ⟨g, b2, cap, c2, c3, rfl, hg, hbg, hk, hs, hb⟩
  have RG := Lib.hid (RP.out g b2 cap c2 c3 w1 hk hs hbg)
  have B1 := Lib.hid (below_a1 (Below.refl _ w) hb)
  have hge : w.heap.size ≤ g := by simp at hg; omega
  clear RP NR hk hs hb
  go_wp2_with fail
  refine RG.out.mono ?_
  rintro e w2 ⟨rfl, hG⟩
  have B2 : Hid (Below w.heap.size w w2) := Lib.hid (B1.out.grown hG B1.out.size (fun k e => by cases e; exact hge))
  clear RG hG
  go_wp2_with fail
  go_ret
  exact ⟨rfl, B2.out⟩
end Go.Proofs.Ytehpmglbbalelaa
