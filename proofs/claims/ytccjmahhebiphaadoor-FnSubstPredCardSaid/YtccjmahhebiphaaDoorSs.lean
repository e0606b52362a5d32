/- The list of all states; FoldExpr of both sides. -/
import Derived.Test.YtccjmahhebiphaaDoorFo
import Derived.Test.YtccjmahhebiphaaDoorPp
import Derived.Maps.AppendAt
import Derived.Laws.OwnMore
namespace Go.Proofs.YtccjmahhebiphaaDoor
open Go.RowKit
open Pl

def stV (i : Nat) : List Value := [.int .i64 ((i : Int) % 3), .int .i64 ((i : Int) / 3 % 3), .int .i64 ((i : Int) / 9)]
def stsV (k : Nat) : List Value := (List.range k).flatMap stV
theorem stsV_succ (k : Nat) : stsV (k + 1) = stsV k ++ stV k := by simp [stsV, List.range_succ]
theorem stsV_len : ∀ k, (stsV k).length = k * 3
  | 0 => rfl
  | k + 1 => by rw [stsV_succ, List.length_append, stsV_len k]; simp [stV]; omega
theorem stsV_get : ∀ i, i < 27 → (stsV 27)[i * 3]? = some (.int .i64 ((i : Int) % 3)) ∧ (stsV 27)[i * 3 + 1]? = some (.int .i64 ((i : Int) / 3 % 3)) ∧ (stsV 27)[i * 3 + 2]? = some (.int .i64 ((i : Int) / 9)) := by
  intro i hi
  have h : i = 0 ∨ i = 1 ∨ i = 2 ∨ i = 3 ∨ i = 4 ∨ i = 5 ∨ i = 6 ∨ i = 7 ∨ i = 8 ∨ i = 9 ∨ i = 10 ∨ i = 11 ∨ i = 12 ∨ i = 13 ∨ i = 14 ∨ i = 15 ∨ i = 16 ∨ i = 17 ∨ i = 18 ∨ i = 19 ∨ i = 20 ∨ i = 21 ∨ i = 22 ∨ i = 23 ∨ i = 24 ∨ i = 25 ∨ i = 26 := by omega
  rcases h with rfl | rfl | rfl | rfl | rfl | rfl | rfl | rfl | rfl | rfl | rfl | rfl | rfl | rfl | rfl | rfl | rfl | rfl | rfl | rfl | rfl | rfl | rfl | rfl | rfl | rfl | rfl <;> exact ⟨rfl, rfl, rfl⟩
/-- the cells of the list of all states at block g -/
def sts (g : Nat) : List (Addr × Value) := (List.range 27).flatMap fun i => [(⟨g, i * 3, none⟩, .int .i64 ((i : Int) % 3)), (⟨g, i * 3 + 1, none⟩, .int .i64 ((i : Int) / 3 % 3)), (⟨g, i * 3 + 2, none⟩, .int .i64 ((i : Int) / 9))]
theorem mem_sts {g i : Nat} (hi : i < 27) : ((⟨g, i * 3, none⟩ : Addr), Value.int .i64 ((i : Int) % 3)) ∈ sts g ∧ ((⟨g, i * 3 + 1, none⟩ : Addr), Value.int .i64 ((i : Int) / 3 % 3)) ∈ sts g ∧ ((⟨g, i * 3 + 2, none⟩ : Addr), Value.int .i64 ((i : Int) / 9)) ∈ sts g :=
  ⟨List.mem_flatMap.2 ⟨i, List.mem_range.2 hi, by simp⟩, List.mem_flatMap.2 ⟨i, List.mem_range.2 hi, by simp⟩, List.mem_flatMap.2 ⟨i, List.mem_range.2 hi, by simp⟩⟩
theorem sts_of {w W : World} {g cap : Nat} {base : Nat} (hb : Below w.heap.size w W) (h : W.ownsRow base 42 3 (.slice (some ⟨g, 0, none⟩) 27 cap) 27 (stsV 27)) (hg : g < W.heap.size) : Sit w W (sts g) := by
  refine ⟨hb, fun p hp => ?_⟩
  obtain ⟨i, hi, hp⟩ := List.mem_flatMap.1 hp
  have hi := List.mem_range.1 hi
  obtain ⟨a, b, c⟩ := stsV_get i hi
  simp only [List.mem_cons, List.not_mem_nil, or_false] at hp
  rcases hp with rfl | rfl | rfl
  · exact ⟨hg, (h.cellAt (i * 3) (by omega)).trans a⟩
  · exact ⟨hg, (h.cellAt (i * 3 + 1) (by omega)).trans b⟩
  · exact ⟨hg, (h.cellAt (i * 3 + 2) (by omega)).trans c⟩
theorem three_new (W : World) (a b c : Value) (t : TypeId) : ∀ j u, [a, b, c][j]? = some u → (W.alloc (.cells #[a, b, c] t)).cell? ((⟨W.heap.size, 0, none⟩ : Addr).add j) = some u := by
  intro j u h
  have e : (⟨W.heap.size, 0, none⟩ : Addr).add j = ⟨W.heap.size, j, none⟩ := by unfold Addr.add; split <;> simp_all
  rw [e, (Blk.new W t #[a, b, c]).cell j]
  simpa using h

theorem state_info : (Tryd.prog.info? 42).map (fun i => (i.zero, i.size, i.bytes)) = some (some (.agg #[.int .i64 0, .int .i64 0, .int .i64 0]), 3, 24) := by kernel_rfl
set_option maxRecDepth 100000 in
set_option maxHeartbeats 2000000 in
theorem ppStates_any (w : World) : Calls Tryd.prog 31 #[] w fun e w' => ∃ g cap, 27 ≤ cap ∧ e = .returned (.slice (some ⟨g, 0, none⟩) 27 cap) ∧ Sit w w' (sts g) := by
  go_enter Tryd.func31, Tryd.ntmps31
  go_wp2_with fail
  have h0 : (w.alloc (.cells #[] 42)).ownsRow w.heap.size 42 3 (.slice (some ⟨w.heap.size, 0, none⟩) 0 0) 0 (stsV 0) :=
    ⟨rfl, .inr ⟨w.heap.size, 0, #[], rfl, Nat.le_refl _, Blk.new w 42 #[], Nat.le_refl _, by simp [maxLen], rfl, rfl⟩⟩
  have H0 := Lib.hid h0
  have B0 := Lib.hid (below_n w (.cells #[] 42))
  clear h0
  go_loopg [1, 2] 27 (fun gk v i wr => ∃ k : Nat, k + gk = 27 ∧ i = .int .i64 k ∧ Hid (wr.ownsRow w.heap.size 42 3 v k (stsV k)) ∧ Hid (Below w.heap.size w wr))
  case atStart => exact ⟨0, rfl, rfl, H0, B0⟩
  case round =>
    clear H0 B0
    obtain ⟨k, hk, rfl, hown, HB⟩ := hrel
    by_cases hlt : k < 27
    · obtain ⟨i0, hi0, hz0, hz1, hz2⟩ := info_parts state_info
      have HI := Lib.hid hi0
      have HZ0 := Lib.hid hz0
      have HZ1 := Lib.hid hz1
      have HZ2 := Lib.hid hz2
      clear hi0 hz0 hz1 hz2
      have hz := HB.out.size
      have hrow : ∀ g, u1.ownBlock = some g → w.heap.size ≤ g := fun g e => (hown.out.lt g e).1
      go_wp2_with (at_builtin; refine wpList_append_own _ rfl (.tmp 8) (.tmp 17) 39 rfl w.heap.size 42 i0 _ 3 24 Tryd.underlying39 HI.out HZ0.out HZ1.out HZ2.out rfl (by decide) u1 k (stsV k) rfl (hown.out.alloc _) ⟨wr.heap.size, 0, none⟩ 1 1 (stV k) rfl rfl ?c1 ?c2 ?c3 ?c4 ?c5 ?_)
      case c1 => exact three_new wr _ _ _ 42
      case c2 => simp [stV, Value.oneCell']
      case c3 => simp only [maxLen]; omega
      case c4 => omega
      case c5 => simp; omega
      intro v' w2 hown' hgr _
      rw [← stsV_succ] at hown'
      have HO := Lib.hid hown'
      have HB2 := Lib.hid ((HB.out.alloc hz (.cells (stV k).toArray 42)).trans (below_of_grown hgr w.heap.size (by simp; omega) hrow))
      clear hown' hgr hrow
      go_wp2_with fail
      go_roundg (gk - 1)
      case measure => omega
      case rel => exact ⟨k + 1, by omega, by go_num, HO, HB2⟩
    · obtain rfl : k = 27 := by omega
      obtain ⟨g, cap, hv, _⟩ := hown.out.form (by omega)
      subst hv
      have hg := (hown.out.lt g rfl).2
      have hcap : 27 ≤ cap := by
        rcases hown.out.2 with ⟨h, _⟩ | ⟨_, _, _, h, _, _, h2, _⟩
        · cases h
        · injection h with _ _ h3; omega
      have HS := Lib.hid (sts_of HB.out hown.out hg)
      go_wp2_with fail
      go_ret
      exact ⟨g, cap, hcap, rfl, HS.out⟩
/-- what FoldExpr hands back -/
def foO (o : Option Nd) : List UInt8 :=
  match o with
  | some k => (fold k).text
  | none => []

end Go.Proofs.YtccjmahhebiphaaDoor
