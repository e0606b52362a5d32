/- The source of drawn data: the contracts of l14Open, pick, of, num. -/
import Derived.Test.YtppcghklkldnaaaRows
import Derived.Test.YtppcghklkldnaaaKit
import Derived.WalkLawsBesides
import Derived.Deep.QuietTactic
import Derived.BigQuiet
namespace Go.Proofs.Ytppcghklkldnaaa
open Go.RowKit
open Pl

/-- a row of n bytes of memory, none of them in block g -/
def Bytes (w : World) (A : Option Addr) (n : Nat) (g : Nat) : Prop :=
  n = 0 ∨ ∃ b off, A = some ⟨b, off, none⟩ ∧ b ≠ g ∧ b < w.heap.size ∧ ∀ i, i < n → ∃ v : Nat, v ≤ 255 ∧ w.cell? ⟨b, off + i, none⟩ = some (.int .u8 (v : Int))
/-- the source lies at block g; p numbers have been drawn -/
def Rnd (w : World) (g p : Nat) : Prop :=
  ∃ A n cap, Blk w g 95 #[.slice A n cap, .int .i64 (p : Int)] ∧ n ≤ 2000 ∧ Bytes w A n g

theorem Bytes.keep {w w' : World} {A : Option Addr} {n g : Nat} (h : Bytes w A n g) (hg : w.grownBy w' (some g)) : Bytes w' A n g := by
  rcases h with h | ⟨b, off, hA, hne, hlt, hc⟩
  · exact .inl h
  · exact .inr ⟨b, off, hA, hne, Nat.lt_of_lt_of_le hlt hg.size, fun i hi => by
      obtain ⟨v, hv, hcell⟩ := hc i hi
      exact ⟨v, hv, hg.cell hcell (by intro e; injection e with e; exact hne e)⟩⟩

/-- what a drawing call leaves: the source moved on by at most k, nothing else of what was there turned -/
def Drew (w : World) (g p k : Nat) (w' : World) : Prop := w.grownBy w' (some g) ∧ ∃ q, p ≤ q ∧ q ≤ p + k ∧ Rnd w' g q

def InRange (k v : Int) : Prop := 0 ≤ v ∧ (1 ≤ k → v < k) ∧ (k < 1 → v = 0)

theorem ofInt_i64 (a : Nat) (ha : a < 9223372036854775808) : (BitVec.ofInt 64 (a : Int)).toNat = a := by
  rw [BitVec.ofInt_natCast, BitVec.toNat_ofNat]; exact Nat.mod_eq_of_lt (by omega)
theorem xor_nat (a : Nat) (ha : a < 1000000000000) : ∃ N : Nat, bits .xor .i64 (a : Int) ((a : Int) / 64) = (N : Int) := by
  have hb : a / 64 ≤ a := Nat.div_le_self _ _
  have hx : a ^^^ (a / 64) < 2 ^ 63 := Nat.xor_lt_two_pow (by omega) (by omega)
  refine ⟨a ^^^ (a / 64), ?_⟩
  have h64 : (a : Int) / 64 = ((a / 64 : Nat) : Int) := rfl
  rw [h64]
  show IntKind.i64.wrap ((BitVec.ofInt 64 (a : Int) ^^^ BitVec.ofInt 64 ((a / 64 : Nat) : Int)).toNat : Int) = _
  rw [BitVec.toNat_xor, ofInt_i64 a (by omega), ofInt_i64 (a / 64) (by omega), IntKind.wrap_i64]
  omega

set_option maxHeartbeats 2000000 in
theorem pick_any (g p : Nat) (k : Int) (w : World) (hp : p ≤ 1000000000) (hk : k ≤ 1000000) (h : Rnd w g p) :
    Calls Try.prog 72 #[.pointer (some ⟨g, 0, none⟩), .int .i64 k] w fun e w' => ∃ v, InRange k v ∧ e = .returned (.int .i64 v) ∧ Drew w g p 1 w' := by
  obtain ⟨A, n, cap, hb, hn, hby⟩ := h
  have c0 := hb.cell 0
  have c1 := hb.cell 1
  have f1 := hb.frozen 1
  simp at c0 c1
  have hdrew : ∀ m, Drew w g p 1 ((w.drewN m).setCell ⟨g, 1, none⟩ (.int .i64 ((p : Int) + 1))) := by
    intro m
    have hg : w.grownBy ((w.drewN m).setCell ⟨g, 1, none⟩ (.int .i64 ((p : Int) + 1))) (some g) := by
      have g1 : w.grownBy (w.drewN m) (some g) := grownBy_drewN w m (some g)
      exact grown_step g1 (grownBy_setCell (w.drewN m) ⟨g, 1, none⟩ (.int .i64 ((p : Int) + 1))) (fun x e => .inl e)
    refine ⟨hg, p + 1, by omega, by omega, A, n, cap, ?_, hn, hby.keep hg⟩
    have := (hb.drewN m).set_ 1 (.int .i64 ((p : Int) + 1))
    simpa using this
  have HD := Lib.hid hdrew
  clear hdrew hb
  by_cases hk1 : k < 1
  · clear hby
    go_enter Try.func72, Try.ntmps72
    go_wp2_with fail
    go_ret
    exact ⟨0, ⟨by omega, by omega, fun _ => rfl⟩, rfl, HD.out 0⟩
  by_cases hn0 : n = 0
  · subst hn0
    clear hby
    go_enter Try.func72, Try.ntmps72
    go_wp2_with fail
    go_ret
    exact ⟨0, ⟨by omega, by omega, fun _ => rfl⟩, rfl, HD.out 0⟩
  obtain ⟨b, off, rfl, hne, hlt, hcell⟩ := hby.resolve_left hn0
  have hnz : ((n : Int) == 0) = false := by simp; omega
  by_cases hpn : p < n
  · obtain ⟨v, hv, hc⟩ := hcell p hpn
    have ll : 0 ≤ (v : Int) % k := Int.emod_nonneg _ (by omega)
    have lu : (v : Int) % k < k := Int.emod_lt_of_pos _ (by omega)
    clear hcell hn0
    go_enter Try.func72, Try.ntmps72
    go_wp2_with fail
    go_ret
    exact ⟨(v : Int) % k, ⟨ll, fun _ => lu, fun h => by omega⟩, rfl, HD.out 0⟩
  · obtain ⟨j1, hj1⟩ : ∃ j, j = p % n := ⟨_, rfl⟩
    obtain ⟨j2, hj2⟩ : ∃ j, j = (p * 7 + 3) % n := ⟨_, rfl⟩
    have l1 : j1 < n := by rw [hj1]; exact Nat.mod_lt _ (by omega)
    have l2 : j2 < n := by rw [hj2]; exact Nat.mod_lt _ (by omega)
    obtain ⟨v1, hv1, hc1⟩ := hcell j1 l1
    obtain ⟨v2, hv2, hc2⟩ := hcell j2 l2
    have s1 : (p : Int) % (n : Int) = (j1 : Int) := by rw [hj1]; rfl
    have s2 : ((p : Int) * 7 + 3) % (n : Int) = (j2 : Int) := by rw [hj2]; rfl
    have t1 : (off : Nat) + j1 = off + j1 := rfl
    obtain ⟨d, hd⟩ : ∃ d, d = p / n := ⟨_, rfl⟩
    have s3 : (p : Int) / (n : Int) = (d : Int) := by rw [hd]; rfl
    have hdl : d ≤ p := by rw [hd]; exact Nat.div_le_self _ _
    clear hcell hn0 hj1 hj2 hd t1
    go_enter Try.func72, Try.ntmps72
    go_wp2_with fail
    go_quiet (fail)
    go_wp2_with fail
    go_ret
    obtain ⟨N, hN⟩ := xor_nat (v1 * 131 + v2 * 1117 + p * 29 + d * 53) (by omega)
    have hX : ((v1 * 131 + v2 * 1117 + p * 29 + d * 53 : Nat) : Int) = (v1 : Int) * 131 + v2 * 1117 + p * 29 + d * 53 := by omega
    rw [hX] at hN
    refine ⟨(N : Int).tmod k, ⟨Int.tmod_nonneg _ (by omega), fun _ => Int.tmod_lt_of_pos _ (by omega), fun h => by omega⟩, ?_, HD.out nq⟩
    exact ret_int (by rw [hN])

set_option maxHeartbeats 1000000 in
theorem of_any (g p lb : Nat) (ss : List ByteArray) (w : World) (hp : p ≤ 1000000000) (h : Rnd w g p) (hl : 1 ≤ ss.length) (hl2 : ss.length ≤ 1000) (hne : lb ≠ g)
    (hb : Blk w lb 9 ((ss.map Value.string).toArray)) :
    Calls Try.prog 96 #[.pointer (some ⟨g, 0, none⟩), .slice (some ⟨lb, 0, none⟩) ss.length ss.length] w fun e w' => ∃ s, s ∈ ss ∧ e = .returned (.string s) ∧ Drew w g p 1 w' := by
  have R := Lib.hid (pick_any g p (ss.length : Int) w hp (by omega) h)
  clear h
  go_enter Try.func96, Try.ntmps96
  go_wp2_with fail
  refine R.out.mono ?_
  rintro e w' ⟨v, ⟨hv0, hv1, _⟩, rfl, hd⟩
  have hv1' := hv1 (by omega)
  obtain ⟨j, rfl⟩ := Int.eq_ofNat_of_zero_le hv0
  have hj : j < ss.length := by omega
  have hb' : Blk w' lb 9 ((ss.map Value.string).toArray) := hb.grown hd.1 (by intro e; injection e with e; exact hne e)
  have hc : w'.cell? ⟨lb, j, none⟩ = some (.string ss[j]) := by rw [hb'.cell]; simp [hj]
  have HD := Lib.hid hd
  clear hv1 hb hb' hd R
  go_wp2_with fail
  go_ret
  exact ⟨ss[j], List.getElem_mem hj, rfl, HD.out⟩

set_option maxHeartbeats 1000000 in
theorem num_any (g p lb : Nat) (ss : List Int) (w : World) (hp : p ≤ 1000000000) (h : Rnd w g p) (hl : 1 ≤ ss.length) (hl2 : ss.length ≤ 1000) (hne : lb ≠ g)
    (hb : Blk w lb 3 ((ss.map (Value.int .i64)).toArray)) :
    Calls Try.prog 97 #[.pointer (some ⟨g, 0, none⟩), .slice (some ⟨lb, 0, none⟩) ss.length ss.length] w fun e w' => ∃ s, s ∈ ss ∧ e = .returned (.int .i64 s) ∧ Drew w g p 1 w' := by
  have R := Lib.hid (pick_any g p (ss.length : Int) w hp (by omega) h)
  clear h
  go_enter Try.func97, Try.ntmps97
  go_wp2_with fail
  refine R.out.mono ?_
  rintro e w' ⟨v, ⟨hv0, hv1, _⟩, rfl, hd⟩
  have hv1' := hv1 (by omega)
  obtain ⟨j, rfl⟩ := Int.eq_ofNat_of_zero_le hv0
  have hj : j < ss.length := by omega
  have hb' : Blk w' lb 3 ((ss.map (Value.int .i64)).toArray) := hb.grown hd.1 (by intro e; injection e with e; exact hne e)
  have hc : w'.cell? ⟨lb, j, none⟩ = some (.int .i64 ss[j]) := by rw [hb'.cell]; simp [hj]
  have HD := Lib.hid hd
  clear hv1 hb hb' hd R
  go_wp2_with fail
  go_ret
  exact ⟨ss[j], List.getElem_mem hj, rfl, HD.out⟩

set_option maxHeartbeats 1000000 in
theorem open_any (A : Option Addr) (n cap : Nat) (w : World) (hn : n ≤ 4000000000000) (hc : n ≤ cap) (h : Bytes w A n w.heap.size) :
    Calls Try.prog 64 #[.slice A n cap] w fun e w' => (e = .returned (.pointer (some ⟨w.heap.size, 0, none⟩)) ∧ Rnd w' w.heap.size 0 ∧ Below w.heap.size w w') := by
  have hr : ∀ m, m ≤ n → m ≤ 2000 → Rnd (w.alloc (.cells #[.slice A m cap, .int .i64 0] 95)) w.heap.size 0 := by
    intro m hm hm2
    refine ⟨A, m, cap, Blk.new w _ _, hm2, ?_⟩
    rcases h with h | ⟨b, off, hA, hne, hlt, hcell⟩
    · exact .inl (by omega)
    · exact .inr ⟨b, off, hA, hne, by simp; omega, fun i hi => by
        obtain ⟨v, hv, hce⟩ := hcell i (by omega)
        exact ⟨v, hv, (World.cell?_of_block (a := ⟨b, off + i, none⟩) (Below.heap_alloc w _ b hlt)).trans hce⟩⟩
  have HR := Lib.hid hr
  by_cases hbig : 2000 < n
  · obtain ⟨b, off, rfl, hne, hlt, hcell⟩ := h.resolve_left (by omega)
    clear hr hcell
    have q1 : (2000 : Int) ≤ (cap : Int) := by omega
    go_enter Try.func64, Try.ntmps64
    go_wp2_with fail
    go_ret
    exact ⟨rfl, HR.out 2000 (by omega) (by omega), (Below.refl _ _).alloc (Nat.le_refl _) _⟩
  · clear hr h
    go_enter Try.func64, Try.ntmps64
    go_wp2_with fail
    go_ret
    exact ⟨rfl, HR.out n (by omega) (by omega), (Below.refl _ _).alloc (Nat.le_refl _) _⟩

theorem conv_one (n : Int) (W : World) : (convert 25 9 (.slice (some ⟨W.heap.size, 0, none⟩) 1 1)).run Try.prog (W.alloc (.cells #[.int .u8 n] 5)) = .ok (.string ⟨#[UInt8.ofNat n.toNat]⟩) (W.alloc (.cells #[.int .u8 n] 5)) :=
  run_convert_bytes_arg (P := Try.prog) _ 25 5 Try.underlying25 Try.underlying5 W.heap.size 0 1 1 [n] rfl (fun i hi => by
    obtain rfl : i = 0 := by omega
    rw [(Blk.new W _ _).cell]
    rfl) 9 Try.underlying9

set_option maxRecDepth 100000 in
set_option maxHeartbeats 1000000 in
theorem dec_small (n : Int) (c : UInt8) (h0 : 0 ≤ n) (h1 : n ≤ 9) (hc : UInt8.ofNat (48 + n).toNat = c) (w : World) :
    Calls Try.prog 128 #[.int .i64 n] w fun e w' => (e = .returned (.string ⟨#[c]⟩) ∧ Below w.heap.size w w') := by
  have kc : ∀ W : World, (convert 25 9 (.slice (some ⟨W.heap.size, 0, none⟩) 1 1)).run Try.prog (W.alloc (.cells #[.int .u8 (48 + n)] 5)) = .ok (.string ⟨#[c]⟩) (W.alloc (.cells #[.int .u8 (48 + n)] 5)) := fun W => by
    rw [← hc]; exact conv_one (48 + n) W
  clear hc
  go_enter Try.func128, Try.ntmps128
  go_wp2_with fail
  refine wp_loop_once ?_
  go_wp2_with fail
  go_ret
  exact ⟨rfl, (Below.refl _ _).alloc (Nat.le_refl _) _⟩

end Go.Proofs.Ytppcghklkldnaaa
