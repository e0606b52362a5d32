/- XGc: XDra XDrb XDrc XDrd XShl XDre XDrp put together. -/
import Derived.Test.YtndlhdmpfnadcaaGreatDoorRows
import Derived.Test.YtndlhdmpfnadcaaGreatDoorGb
import Derived.WalkLawsBesides
import Derived.Deep.QuietTactic
import Derived.BigQuiet
import Derived.Deep.RegionWith
import Derived.Deep.RegionHeld3
import Derived.ProofKit
import Derived.OpenShut
import Derived.ShutString
import Derived.ChangeOld
/- The source of drawn data: the contracts of l14Open, pick, of, num. -/
namespace Go.Proofs.YtndlhdmpfnadcaaGreatDoor
open Go.RowKit
open Pl

/-- a row of n bytes of memory, none of them in block g -/
def Bytes (w : World) (A : Option Addr) (n : Nat) (g : Nat) : Prop :=
  n = 0 ∨ ∃ b off, A = some ⟨b, off, none⟩ ∧ b ≠ g ∧ b < w.heap.size ∧ ∀ i, i < n → ∃ v : Nat, v ≤ 255 ∧ w.cell? ⟨b, off + i, none⟩ = some (.int .u8 (v : Int))
/-- the source lies at block g; p numbers have been drawn -/
def Rnd (w : World) (g p : Nat) : Prop :=
  ∃ A n cap, Blk w g 48 #[.slice A n cap, .int .i64 (p : Int)] ∧ n ≤ 2000 ∧ Bytes w A n g

theorem Bytes.keep {w w' : World} {A : Option Addr} {n g : Nat} (h : Bytes w A n g) (hg : w.grownBy w' (some g)) : Bytes w' A n g := by
  rcases h with h | ⟨b, off, hA, hne, hlt, hc⟩
  · exact .inl h
  · exact .inr ⟨b, off, hA, hne, Nat.lt_of_lt_of_le hlt hg.size, fun i hi => by
      obtain ⟨v, hv, hcell⟩ := hc i hi
      exact ⟨v, hv, hg.cell hcell (by intro e; injection e with e; exact hne e)⟩⟩

/-- what a drawing call leaves: the source moved on by at most k, nothing else of what was there turned -/
def Drew (w : World) (g p k : Nat) (w' : World) : Prop := w.grownBy w' (some g) ∧ ∃ q, p ≤ q ∧ q ≤ p + k ∧ Rnd w' g q

def InRange (k v : Int) : Prop := 0 ≤ v ∧ (1 ≤ k → v < k) ∧ (k < 1 → v = 0)

theorem ofInt_i64 (a : Nat) (ha : a < 9223372036854775808) : (BitVec.ofInt 64 (a : Int)).toNat = a := by
  rw [BitVec.ofInt_natCast, BitVec.toNat_ofNat]; exact Nat.mod_eq_of_lt (by omega)
theorem xor_nat (a : Nat) (ha : a < 1000000000000) : ∃ N : Nat, bits .xor .i64 (a : Int) ((a : Int) / 64) = (N : Int) := by
  have hb : a / 64 ≤ a := Nat.div_le_self _ _
  have hx : a ^^^ (a / 64) < 2 ^ 63 := Nat.xor_lt_two_pow (by omega) (by omega)
  refine ⟨a ^^^ (a / 64), ?_⟩
  have h64 : (a : Int) / 64 = ((a / 64 : Nat) : Int) := rfl
  rw [h64]
  show IntKind.i64.wrap ((BitVec.ofInt 64 (a : Int) ^^^ BitVec.ofInt 64 ((a / 64 : Nat) : Int)).toNat : Int) = _
  rw [BitVec.toNat_xor, ofInt_i64 a (by omega), ofInt_i64 (a / 64) (by omega), IntKind.wrap_i64]
  omega

set_option maxHeartbeats 2000000 in
theorem pick_any (g p : Nat) (k : Int) (w : World) (hp : p ≤ 1000000000) (hk : k ≤ 1000000) (h : Rnd w g p) :
    Calls Tryz.prog 13 #[.pointer (some ⟨g, 0, none⟩), .int .i64 k] w fun e w' => ∃ v, InRange k v ∧ e = .returned (.int .i64 v) ∧ Drew w g p 1 w' := by
  obtain ⟨A, n, cap, hb, hn, hby⟩ := h
  have c0 := hb.cell 0
  have c1 := hb.cell 1
  have f1 := hb.frozen 1
  simp at c0 c1
  have hdrew : ∀ m, Drew w g p 1 ((w.drewN m).setCell ⟨g, 1, none⟩ (.int .i64 ((p : Int) + 1))) := by
    intro m
    have hg : w.grownBy ((w.drewN m).setCell ⟨g, 1, none⟩ (.int .i64 ((p : Int) + 1))) (some g) := by
      have g1 : w.grownBy (w.drewN m) (some g) := grownBy_drewN w m (some g)
      exact grown_step g1 (grownBy_setCell (w.drewN m) ⟨g, 1, none⟩ (.int .i64 ((p : Int) + 1))) (fun x e => .inl e)
    refine ⟨hg, p + 1, by omega, by omega, A, n, cap, ?_, hn, hby.keep hg⟩
    have := (hb.drewN m).set_ 1 (.int .i64 ((p : Int) + 1))
    simpa using this
  have HD := Lib.hid hdrew
  clear hdrew hb
  by_cases hk1 : k < 1
  · clear hby
    go_enter Tryz.func13, Tryz.ntmps13
    go_wp2_with fail
    go_ret
    exact ⟨0, ⟨by omega, by omega, fun _ => rfl⟩, rfl, HD.out 0⟩
  by_cases hn0 : n = 0
  · subst hn0
    clear hby
    go_enter Tryz.func13, Tryz.ntmps13
    go_wp2_with fail
    go_ret
    exact ⟨0, ⟨by omega, by omega, fun _ => rfl⟩, rfl, HD.out 0⟩
  obtain ⟨b, off, rfl, hne, hlt, hcell⟩ := hby.resolve_left hn0
  have hnz : ((n : Int) == 0) = false := by simp; omega
  by_cases hpn : p < n
  · obtain ⟨v, hv, hc⟩ := hcell p hpn
    have ll : 0 ≤ (v : Int) % k := Int.emod_nonneg _ (by omega)
    have lu : (v : Int) % k < k := Int.emod_lt_of_pos _ (by omega)
    clear hcell hn0
    go_enter Tryz.func13, Tryz.ntmps13
    go_wp2_with fail
    go_ret
    exact ⟨(v : Int) % k, ⟨ll, fun _ => lu, fun h => by omega⟩, rfl, HD.out 0⟩
  · obtain ⟨j1, hj1⟩ : ∃ j, j = p % n := ⟨_, rfl⟩
    obtain ⟨j2, hj2⟩ : ∃ j, j = (p * 7 + 3) % n := ⟨_, rfl⟩
    have l1 : j1 < n := by rw [hj1]; exact Nat.mod_lt _ (by omega)
    have l2 : j2 < n := by rw [hj2]; exact Nat.mod_lt _ (by omega)
    obtain ⟨v1, hv1, hc1⟩ := hcell j1 l1
    obtain ⟨v2, hv2, hc2⟩ := hcell j2 l2
    have s1 : (p : Int) % (n : Int) = (j1 : Int) := by rw [hj1]; rfl
    have s2 : ((p : Int) * 7 + 3) % (n : Int) = (j2 : Int) := by rw [hj2]; rfl
    have t1 : (off : Nat) + j1 = off + j1 := rfl
    obtain ⟨d, hd⟩ : ∃ d, d = p / n := ⟨_, rfl⟩
    have s3 : (p : Int) / (n : Int) = (d : Int) := by rw [hd]; rfl
    have hdl : d ≤ p := by rw [hd]; exact Nat.div_le_self _ _
    clear hcell hn0 hj1 hj2 hd t1
    go_enter Tryz.func13, Tryz.ntmps13
    go_wp2_with fail
    go_quiet (fail)
    go_wp2_with fail
    go_ret
    obtain ⟨N, hN⟩ := xor_nat (v1 * 131 + v2 * 1117 + p * 29 + d * 53) (by omega)
    have hX : ((v1 * 131 + v2 * 1117 + p * 29 + d * 53 : Nat) : Int) = (v1 : Int) * 131 + v2 * 1117 + p * 29 + d * 53 := by omega
    rw [hX] at hN
    refine ⟨(N : Int).tmod k, ⟨Int.tmod_nonneg _ (by omega), fun _ => Int.tmod_lt_of_pos _ (by omega), fun h => by omega⟩, ?_, HD.out nq⟩
    exact ret_int (by rw [hN])

set_option maxHeartbeats 1000000 in
theorem of_any (g p lb : Nat) (ss : List ByteArray) (w : World) (hp : p ≤ 1000000000) (h : Rnd w g p) (hl : 1 ≤ ss.length) (hl2 : ss.length ≤ 1000) (hne : lb ≠ g)
    (hb : Blk w lb 9 ((ss.map Value.string).toArray)) :
    Calls Tryz.prog 25 #[.pointer (some ⟨g, 0, none⟩), .slice (some ⟨lb, 0, none⟩) ss.length ss.length] w fun e w' => ∃ s, s ∈ ss ∧ e = .returned (.string s) ∧ Drew w g p 1 w' := by
  have R := Lib.hid (pick_any g p (ss.length : Int) w hp (by omega) h)
  clear h
  go_enter Tryz.func25, Tryz.ntmps25
  go_wp2_with fail
  refine R.out.mono ?_
  rintro e w' ⟨v, ⟨hv0, hv1, _⟩, rfl, hd⟩
  have hv1' := hv1 (by omega)
  obtain ⟨j, rfl⟩ := Int.eq_ofNat_of_zero_le hv0
  have hj : j < ss.length := by omega
  have hb' : Blk w' lb 9 ((ss.map Value.string).toArray) := hb.grown hd.1 (by intro e; injection e with e; exact hne e)
  have hc : w'.cell? ⟨lb, j, none⟩ = some (.string ss[j]) := by rw [hb'.cell]; simp [hj]
  have HD := Lib.hid hd
  clear hv1 hb hb' hd R
  go_wp2_with fail
  go_ret
  exact ⟨ss[j], List.getElem_mem hj, rfl, HD.out⟩

set_option maxHeartbeats 1000000 in
theorem num_any (g p lb : Nat) (ss : List Int) (w : World) (hp : p ≤ 1000000000) (h : Rnd w g p) (hl : 1 ≤ ss.length) (hl2 : ss.length ≤ 1000) (hne : lb ≠ g)
    (hb : Blk w lb 3 ((ss.map (Value.int .i64)).toArray)) :
    Calls Tryz.prog 29 #[.pointer (some ⟨g, 0, none⟩), .slice (some ⟨lb, 0, none⟩) ss.length ss.length] w fun e w' => ∃ s, s ∈ ss ∧ e = .returned (.int .i64 s) ∧ Drew w g p 1 w' := by
  have R := Lib.hid (pick_any g p (ss.length : Int) w hp (by omega) h)
  clear h
  go_enter Tryz.func29, Tryz.ntmps29
  go_wp2_with fail
  refine R.out.mono ?_
  rintro e w' ⟨v, ⟨hv0, hv1, _⟩, rfl, hd⟩
  have hv1' := hv1 (by omega)
  obtain ⟨j, rfl⟩ := Int.eq_ofNat_of_zero_le hv0
  have hj : j < ss.length := by omega
  have hb' : Blk w' lb 3 ((ss.map (Value.int .i64)).toArray) := hb.grown hd.1 (by intro e; injection e with e; exact hne e)
  have hc : w'.cell? ⟨lb, j, none⟩ = some (.int .i64 ss[j]) := by rw [hb'.cell]; simp [hj]
  have HD := Lib.hid hd
  clear hv1 hb hb' hd R
  go_wp2_with fail
  go_ret
  exact ⟨ss[j], List.getElem_mem hj, rfl, HD.out⟩

set_option maxHeartbeats 1000000 in
theorem open_any (A : Option Addr) (n cap : Nat) (w : World) (hn : n ≤ 4000000000000) (hc : n ≤ cap) (h : Bytes w A n w.heap.size) :
    Calls Tryz.prog 11 #[.slice A n cap] w fun e w' => (e = .returned (.pointer (some ⟨w.heap.size, 0, none⟩)) ∧ Rnd w' w.heap.size 0 ∧ Below w.heap.size w w') := by
  have hr : ∀ m, m ≤ n → m ≤ 2000 → Rnd (w.alloc (.cells #[.slice A m cap, .int .i64 0] 48)) w.heap.size 0 := by
    intro m hm hm2
    refine ⟨A, m, cap, Blk.new w _ _, hm2, ?_⟩
    rcases h with h | ⟨b, off, hA, hne, hlt, hcell⟩
    · exact .inl (by omega)
    · exact .inr ⟨b, off, hA, hne, by simp; omega, fun i hi => by
        obtain ⟨v, hv, hce⟩ := hcell i (by omega)
        exact ⟨v, hv, (World.cell?_of_block (a := ⟨b, off + i, none⟩) (Below.heap_alloc w _ b hlt)).trans hce⟩⟩
  have HR := Lib.hid hr
  by_cases hbig : 2000 < n
  · obtain ⟨b, off, rfl, hne, hlt, hcell⟩ := h.resolve_left (by omega)
    clear hr hcell
    have q1 : (2000 : Int) ≤ (cap : Int) := by omega
    go_enter Tryz.func11, Tryz.ntmps11
    go_wp2_with fail
    go_ret
    exact ⟨rfl, HR.out 2000 (by omega) (by omega), (Below.refl _ _).alloc (Nat.le_refl _) _⟩
  · clear hr h
    go_enter Tryz.func11, Tryz.ntmps11
    go_wp2_with fail
    go_ret
    exact ⟨rfl, HR.out n (by omega) (by omega), (Below.refl _ _).alloc (Nat.le_refl _) _⟩

theorem conv_one (n : Int) (W : World) : (convert 22 9 (.slice (some ⟨W.heap.size, 0, none⟩) 1 1)).run Tryz.prog (W.alloc (.cells #[.int .u8 n] 5)) = .ok (.string ⟨#[UInt8.ofNat n.toNat]⟩) (W.alloc (.cells #[.int .u8 n] 5)) :=
  run_convert_bytes_arg (P := Tryz.prog) _ 22 5 Tryz.underlying22 Tryz.underlying5 W.heap.size 0 1 1 [n] rfl (fun i hi => by
    obtain rfl : i = 0 := by omega
    rw [(Blk.new W _ _).cell]
    rfl) 9 Tryz.underlying9

set_option maxRecDepth 100000 in
set_option maxHeartbeats 1000000 in
theorem dec_small (n : Int) (c : UInt8) (h0 : 0 ≤ n) (h1 : n ≤ 9) (hc : UInt8.ofNat (48 + n).toNat = c) (w : World) :
    Calls Tryz.prog 10 #[.int .i64 n] w fun e w' => (e = .returned (.string ⟨#[c]⟩) ∧ Below w.heap.size w w') := by
  have kc : ∀ W : World, (convert 22 9 (.slice (some ⟨W.heap.size, 0, none⟩) 1 1)).run Tryz.prog (W.alloc (.cells #[.int .u8 (48 + n)] 5)) = .ok (.string ⟨#[c]⟩) (W.alloc (.cells #[.int .u8 (48 + n)] 5)) := fun W => by
    rw [← hc]; exact conv_one (48 + n) W
  clear hc
  go_enter Tryz.func10, Tryz.ntmps10
  go_wp2_with fail
  refine wp_loop_once ?_
  go_wp2_with fail
  go_ret
  exact ⟨rfl, (Below.refl _ _).alloc (Nat.le_refl _) _⟩

end Go.Proofs.YtndlhdmpfnadcaaGreatDoor

/- Drawn expressions and tests: strings of a bounded length, not empty; nothing that was there turns but the source. -/
namespace Go.Proofs.YtndlhdmpfnadcaaGreatDoor
open Go.RowKit
open Pl

def cst : Nat → Nat
  | 0 => 4
  | d + 1 => 4 * cst d
theorem cst_pos : ∀ d, 4 ≤ cst d
  | 0 => Nat.le_refl _
  | d + 1 => by have := cst_pos d; simp only [cst]; omega

theorem Rnd.lt {w : World} {g p : Nat} (h : Rnd w g p) : g < w.heap.size := by obtain ⟨A, n, cap, hb, _⟩ := h; exact hb.lt
theorem Rnd.keep {w w' : World} {g p : Nat} (h : Rnd w g p) (hg : w.grownBy w' none) : Rnd w' g p := by
  obtain ⟨A, n, cap, hb, hn, hy⟩ := h
  exact ⟨A, n, cap, hb.grown hg (by simp), hn, hy.keep ⟨hg.os, hg.tape, hg.output, hg.size, fun k hk _ => hg.block k hk (by simp)⟩⟩
theorem Rnd.alloc {w : World} {g p : Nat} (h : Rnd w g p) (o : Obj) : Rnd (w.alloc o) g p := h.keep (World.grownBy_alloc w o none)
theorem Rnd.drewN {w : World} {g p : Nat} (h : Rnd w g p) (n : Nat) : Rnd (w.drewN n) g p := h.keep (grownBy_drewN w n none)
theorem Rnd.below {w w' : World} {g p : Nat} (h : Rnd w g p) (hb : Below w.heap.size w w') : Rnd w' g p := h.keep (grown_of_below hb none)
theorem grown_trans {a b c : World} {g : Nat} (h : a.grownBy b (some g)) (k : b.grownBy c (some g)) : a.grownBy c (some g) := grown_step h k (fun _ e => .inl e)
theorem grown_below {a b c : World} {g : Nat} (h : a.grownBy b (some g)) (k : Below b.heap.size b c) : a.grownBy c (some g) := grown_step h (grown_of_below k none) (fun _ e => by cases e)
theorem grown_alloc {a c : World} {g : Nat} {o : Obj} (k : (a.alloc o).grownBy c (some g)) : a.grownBy c (some g) := grown_trans (World.grownBy_alloc a o (some g)) k

/-- a drawn string -/
def StrPost (w : World) (g p n k : Nat) (e : Ending) (w' : World) : Prop :=
  ∃ S : ByteArray, 1 ≤ S.size ∧ S.size ≤ n ∧ e = .returned (.string S) ∧ Drew w g p k w'
theorem strPost_mk {w w' : World} {g p n k q : Nat} {S : ByteArray} {e : Ending} (he : e = .returned (.string S)) (h1 : 1 ≤ S.size) (h2 : S.size ≤ n) (hg : w.grownBy w' (some g)) (hr : Rnd w' g q) (hp : p ≤ q) (hq : q ≤ p + k) : StrPost w g p n k e w' :=
  ⟨S, h1, h2, he, hg, q, hp, hq, hr⟩
theorem size_one (c : UInt8) : (⟨#[c]⟩ : ByteArray).size = 1 := rfl
theorem size_extract (S : ByteArray) (a b : Nat) (h : b ≤ S.size) : (S.extract a b).size = b - a := by rw [ByteArray.size_extract]; omega
theorem size_append (A B : ByteArray) : (A ++ B).size = A.size + B.size := ByteArray.size_append

set_option maxHeartbeats 4000000 in
theorem draw_any (names : ByteArray) (hn1 : 1 ≤ names.size) (hn2 : names.size ≤ 6) (g : Nat) : ∀ (d p : Nat) (z : Int) (w : World), z = d → p + cst d ≤ 1000000000 → d ≤ 100 → Rnd w g p →
    Calls Tryz.prog 57 #[.pointer (some ⟨g, 0, none⟩), .int .i64 z, .string names] w (StrPost w g p (cst d) (cst d)) := by
  intro d
  induction d with
  | zero =>
    intro p z w hz hp hd hR
    obtain rfl : z = 0 := hz
    simp only [cst] at hp ⊢
    have HR := Lib.hid hR
    clear hR
    go_enter Tryz.func57, Tryz.ntmps57
    go_wp2_with fail
    refine (pick_any g p ((names.size : Int) + 2) w (by omega) (by omega) HR.out).mono ?_
    rintro e wa ⟨va, ⟨vaa, vba, _⟩, rfl, hga, qa, qaa, qba, hra⟩
    have vca := vba (by omega)
    have Ra := Lib.hid hra
    have Ga := Lib.hid hga
    clear vba hra hga
    obtain ⟨j, rfl⟩ := Int.eq_ofNat_of_zero_le vaa
    by_cases hj : j < names.size
    · go_wp2_with fail
      go_ret
      exact strPost_mk rfl (by rw [size_extract _ _ _ (by omega)]; omega) (by rw [size_extract _ _ _ (by omega)]; omega) Ga.out Ra.out (by omega) (by omega)
    · go_wp2_with fail
      refine (pick_any g qa 3 wa (by omega) (by omega) Ra.out).mono ?_
      rintro e wb ⟨vb, ⟨vab, vbb, _⟩, rfl, hgb, qb, qab, qbb, hrb⟩
      have vcb := vbb (by omega)
      have Rb := Lib.hid hrb
      have Gb := Lib.hid hgb
      clear vbb hrb hgb
      go_wp2_with fail
      refine (dec_small vb _ (by omega) (by omega) rfl _).mono ?_
      rintro e wc ⟨rfl, hbc⟩
      have BC := Lib.hid hbc
      clear hbc
      go_wp2_with fail
      go_ret
      exact strPost_mk rfl (Nat.le_refl _) (by rw [size_one]; omega) (grown_below (grown_trans Ga.out Gb.out) BC.out) (Rb.out.below BC.out) (by omega) (by omega)
  | succ d ih =>
    intro p z w hz hp hd hR
    have hcp := cst_pos d
    simp only [cst] at hp ⊢
    have HR := Lib.hid hR
    have IH := Lib.hid ih
    have hz0 : ¬ z ≤ 0 := by omega
    have hz1 : z ≤ 200 := by omega
    have HZ : Hid (z - 1 = (d : Int)) := by show z - 1 = _; omega
    clear hR ih hz
    generalize cst d = cd at *
    go_enter Tryz.func57, Tryz.ntmps57
    go_wp2_with fail
    refine (pick_any g p 3 w (by omega) (by omega) HR.out).mono ?_
    rintro e w0 ⟨v0, ⟨va0, vb0, _⟩, rfl, hg0, q0, qa0, qb0, hr0⟩
    have vc0 := vb0 (by omega)
    have R0 := Lib.hid hr0
    have G0 := Lib.hid hg0
    clear vb0 hr0 hg0
    by_cases hv : v0 = 0
    · subst hv
      go_wp2_with fail
      refine (pick_any g q0 ((names.size : Int) + 2) w0 (by omega) (by omega) R0.out).mono ?_
      rintro e wa ⟨va, ⟨vaa, vba, _⟩, rfl, hga, qa, qaa, qba, hra⟩
      have vca := vba (by omega)
      have Ra := Lib.hid hra
      have Ga := Lib.hid hga
      clear vba hra hga
      obtain ⟨j, rfl⟩ := Int.eq_ofNat_of_zero_le vaa
      by_cases hj : j < names.size
      · go_wp2_with fail
        go_ret
        exact strPost_mk rfl (by rw [size_extract _ _ _ (by omega)]; omega) (by rw [size_extract _ _ _ (by omega)]; omega) (grown_trans G0.out Ga.out) Ra.out (by omega) (by omega)
      · go_wp2_with fail
        refine (pick_any g qa 3 wa (by omega) (by omega) Ra.out).mono ?_
        rintro e wb ⟨vb, ⟨vab, vbb, _⟩, rfl, hgb, qb, qab, qbb, hrb⟩
        have vcb := vbb (by omega)
        have Rb := Lib.hid hrb
        have Gb := Lib.hid hgb
        clear vbb hrb hgb
        go_wp2_with fail
        refine (dec_small vb _ (by omega) (by omega) rfl _).mono ?_
        rintro e wc ⟨rfl, hbc⟩
        have BC := Lib.hid hbc
        clear hbc
        go_wp2_with fail
        go_ret
        exact strPost_mk rfl (Nat.le_refl _) (by rw [size_one]; omega) (grown_below (grown_trans (grown_trans G0.out Ga.out) Gb.out) BC.out) (Rb.out.below BC.out) (by omega) (by omega)
    · have hv' : (v0 == 0) = false := by simp; exact hv
      clear hv
      go_wp2_with fail
      refine (of_any g q0 w0.heap.size [⟨#[43]⟩, ⟨#[45]⟩, ⟨#[42]⟩, ⟨#[43]⟩] (w0.alloc _) (by omega) (R0.out.alloc _) (by decide) (by decide) (by have := R0.out.lt; omega) (Blk.new w0 _ _)).mono ?_
      rintro e w1 ⟨s1, hs1, rfl, hg1, q1, qa1, qb1, hr1⟩
      have R1 := Lib.hid hr1
      have G1 := Lib.hid (grown_alloc hg1)
      have S1 := Lib.hid hs1
      clear hr1 hg1 hs1
      have hs1 : s1.size = 1 := by
        have := S1.out
        simp at this
        rcases this with rfl | rfl | rfl | rfl <;> rfl
      have t1 : s1.size ≤ 1 := by omega
      have t0 : 1 ≤ s1.size := by omega
      clear hs1
      go_wp2_with fail
      refine (IH.out q1 _ w1 HZ.out (by omega) (by omega) R1.out).mono ?_
      rintro e w2 ⟨s2, sa2, sb2, rfl, hg2, q2, qa2, qb2, hr2⟩
      have R2 := Lib.hid hr2
      have G2 := Lib.hid hg2
      clear hr2 hg2
      have t2 : s1.size + s2.size ≤ 9223372036854775807 := by omega
      go_wp2_with fail
      refine (IH.out q2 _ w2 HZ.out (by omega) (by omega) R2.out).mono ?_
      rintro e w3 ⟨s3, sa3, sb3, rfl, hg3, q3, qa3, qb3, hr3⟩
      have R3 := Lib.hid hr3
      have G3 := Lib.hid hg3
      clear hr3 hg3
      have t3 : (s1 ++ s2).size + s3.size ≤ 9223372036854775807 := by rw [size_append]; omega
      go_wp2_with fail
      go_ret
      exact strPost_mk rfl (by rw [size_append, size_append]; omega) (by rw [size_append, size_append]; omega) (grown_trans (grown_trans (grown_trans G0.out G1.out) G2.out) G3.out) R3.out (by omega) (by omega)

end Go.Proofs.YtndlhdmpfnadcaaGreatDoor

/- Drawn tests. -/
namespace Go.Proofs.YtndlhdmpfnadcaaGreatDoor
open Go.RowKit
open Pl

def cstT : Nat → Nat
  | 0 => 64
  | d + 1 => 4 * cstT d
theorem cstT_pos : ∀ d, 64 ≤ cstT d
  | 0 => Nat.le_refl _
  | d + 1 => by have := cstT_pos d; simp only [cstT]; omega

set_option maxHeartbeats 4000000 in
theorem drawTest_any (names : ByteArray) (hn1 : 1 ≤ names.size) (hn2 : names.size ≤ 6) (g : Nat) : ∀ (d p : Nat) (z : Int) (w : World), z = d → p + cstT d ≤ 1000000000 → d ≤ 100 → Rnd w g p →
    Calls Tryz.prog 34 #[.pointer (some ⟨g, 0, none⟩), .int .i64 z, .string names] w (StrPost w g p (cstT d) (cstT d)) := by
  intro d
  induction d with
  | zero =>
    intro p z w hz hp hd hR
    obtain rfl : z = 0 := hz
    simp only [cstT] at hp ⊢
    have HR := Lib.hid hR
    clear hR
    go_enter Tryz.func34, Tryz.ntmps34
    go_wp2_with fail
    refine (pick_any g p 8 w (by omega) (by omega) HR.out).mono ?_
    rintro e w0 ⟨v0, ⟨va0, vb0, _⟩, rfl, hg0, q0, qa0, qb0, hr0⟩
    have vc0 := vb0 (by omega)
    have R0 := Lib.hid hr0
    have G0 := Lib.hid hg0
    clear vb0 hr0 hg0
    go_wp2_with fail
    refine (pick_any g q0 10 w0 (by omega) (by omega) R0.out).mono ?_
    rintro e w1 ⟨v1, ⟨va1, vb1, _⟩, rfl, hg1, q1, qa1, qb1, hr1⟩
    have vc1 := vb1 (by omega)
    have R1 := Lib.hid hr1
    have G1 := Lib.hid hg1
    clear vb1 hr1 hg1
    by_cases hv : v1 = 0
    · subst hv
      go_wp2_with fail
      refine (of_any g q1 w1.heap.size [⟨#[116]⟩, ⟨#[102]⟩] (w1.alloc _) (by omega) (R1.out.alloc _) (by decide) (by decide) (by have := R1.out.lt; omega) (Blk.new w1 _ _)).mono ?_
      rintro e w2 ⟨s2, hs2, rfl, hg2, q2, qa2, qb2, hr2⟩
      have R2 := Lib.hid hr2
      have G2 := Lib.hid (grown_alloc hg2)
      have hz2 : 1 ≤ s2.size ∧ s2.size ≤ 1 := by
        simp only [List.mem_cons, List.not_mem_nil, or_false] at hs2
        rcases hs2 with rfl | rfl <;> decide
      obtain ⟨hz2a, hz2b⟩ := hz2
      clear hr2 hg2 hs2
      go_wp2_with fail
      go_ret
      exact strPost_mk rfl (by omega) (by omega) (grown_trans (grown_trans G0.out G1.out) G2.out) R2.out (by omega) (by omega)
    · have hv' : (v1 == 0) = false := by simp; exact hv
      clear hv
      go_wp2_with fail
      refine (of_any g q1 w1.heap.size [⟨#[61]⟩, ⟨#[60]⟩] (w1.alloc _) (by omega) (R1.out.alloc _) (by decide) (by decide) (by have := R1.out.lt; omega) (Blk.new w1 _ _)).mono ?_
      rintro e w2 ⟨s2, hs2, rfl, hg2, q2, qa2, qb2, hr2⟩
      have R2 := Lib.hid hr2
      have G2 := Lib.hid (grown_alloc hg2)
      have hz2 : 1 ≤ s2.size ∧ s2.size ≤ 1 := by
        simp only [List.mem_cons, List.not_mem_nil, or_false] at hs2
        rcases hs2 with rfl | rfl <;> decide
      obtain ⟨hz2a, hz2b⟩ := hz2
      clear hr2 hg2 hs2
      go_wp2_with fail
      refine (draw_any names hn1 hn2 g 1 q2 1 w2 rfl (by simp only [cst]; omega) (by omega) R2.out).mono ?_
      rintro e w3 ⟨s3, sa3, sb3, rfl, hg3, q3, qa3, qb3, hr3⟩
      have R3 := Lib.hid hr3
      have G3 := Lib.hid hg3
      clear hr3 hg3
      simp only [cst] at sb3 qb3
      have t3 : s2.size + s3.size ≤ 9223372036854775807 := by omega
      go_wp2_with fail
      refine (draw_any names hn1 hn2 g 1 q3 1 w3 rfl (by simp only [cst]; omega) (by omega) R3.out).mono ?_
      rintro e w4 ⟨s4, sa4, sb4, rfl, hg4, q4, qa4, qb4, hr4⟩
      have R4 := Lib.hid hr4
      have G4 := Lib.hid hg4
      clear hr4 hg4
      simp only [cst] at sb4 qb4
      have t4 : (s2 ++ s3).size + s4.size ≤ 9223372036854775807 := by rw [size_append]; omega
      go_wp2_with fail
      go_ret
      exact strPost_mk rfl (by rw [size_append, size_append]; omega) (by rw [size_append, size_append]; omega) (grown_trans (grown_trans (grown_trans (grown_trans G0.out G1.out) G2.out) G3.out) G4.out) R4.out (by omega) (by omega)
  | succ d ih =>
    intro p z w hz hp hd hR
    have hcp := cstT_pos d
    simp only [cstT] at hp ⊢
    have HR := Lib.hid hR
    have IH := Lib.hid ih
    have hz0 : ¬ z ≤ 0 := by omega
    have hz1 : z ≤ 200 := by omega
    have HZ : Hid (z - 1 = (d : Int)) := by show z - 1 = _; omega
    clear hR ih hz
    generalize cstT d = cd at *
    go_enter Tryz.func34, Tryz.ntmps34
    go_wp2_with fail
    refine (pick_any g p 8 w (by omega) (by omega) HR.out).mono ?_
    rintro e w0 ⟨v0, ⟨va0, vb0, _⟩, rfl, hg0, q0, qa0, qb0, hr0⟩
    have vc0 := vb0 (by omega)
    have R0 := Lib.hid hr0
    have G0 := Lib.hid hg0
    clear vb0 hr0 hg0
    by_cases hk4 : v0 < 4
    · go_wp2_with fail
      refine (pick_any g q0 10 w0 (by omega) (by omega) R0.out).mono ?_
      rintro e w1 ⟨v1, ⟨va1, vb1, _⟩, rfl, hg1, q1, qa1, qb1, hr1⟩
      have vc1 := vb1 (by omega)
      have R1 := Lib.hid hr1
      have G1 := Lib.hid hg1
      clear vb1 hr1 hg1
      by_cases hv : v1 = 0
      · subst hv
        go_wp2_with fail
        refine (of_any g q1 w1.heap.size [⟨#[116]⟩, ⟨#[102]⟩] (w1.alloc _) (by omega) (R1.out.alloc _) (by decide) (by decide) (by have := R1.out.lt; omega) (Blk.new w1 _ _)).mono ?_
        rintro e w2 ⟨s2, hs2, rfl, hg2, q2, qa2, qb2, hr2⟩
        have R2 := Lib.hid hr2
        have G2 := Lib.hid (grown_alloc hg2)
        have hz2 : 1 ≤ s2.size ∧ s2.size ≤ 1 := by
          simp only [List.mem_cons, List.not_mem_nil, or_false] at hs2
          rcases hs2 with rfl | rfl <;> decide
        obtain ⟨hz2a, hz2b⟩ := hz2
        clear hr2 hg2 hs2
        go_wp2_with fail
        go_ret
        exact strPost_mk rfl (by omega) (by omega) (grown_trans (grown_trans G0.out G1.out) G2.out) R2.out (by omega) (by omega)
      · have hv' : (v1 == 0) = false := by simp; exact hv
        clear hv
        go_wp2_with fail
        refine (of_any g q1 w1.heap.size [⟨#[61]⟩, ⟨#[60]⟩] (w1.alloc _) (by omega) (R1.out.alloc _) (by decide) (by decide) (by have := R1.out.lt; omega) (Blk.new w1 _ _)).mono ?_
        rintro e w2 ⟨s2, hs2, rfl, hg2, q2, qa2, qb2, hr2⟩
        have R2 := Lib.hid hr2
        have G2 := Lib.hid (grown_alloc hg2)
        have hz2 : 1 ≤ s2.size ∧ s2.size ≤ 1 := by
          simp only [List.mem_cons, List.not_mem_nil, or_false] at hs2
          rcases hs2 with rfl | rfl <;> decide
        obtain ⟨hz2a, hz2b⟩ := hz2
        clear hr2 hg2 hs2
        go_wp2_with fail
        refine (draw_any names hn1 hn2 g 1 q2 1 w2 rfl (by simp only [cst]; omega) (by omega) R2.out).mono ?_
        rintro e w3 ⟨s3, sa3, sb3, rfl, hg3, q3, qa3, qb3, hr3⟩
        have R3 := Lib.hid hr3
        have G3 := Lib.hid hg3
        clear hr3 hg3
        simp only [cst] at sb3 qb3
        have t3 : s2.size + s3.size ≤ 9223372036854775807 := by omega
        go_wp2_with fail
        refine (draw_any names hn1 hn2 g 1 q3 1 w3 rfl (by simp only [cst]; omega) (by omega) R3.out).mono ?_
        rintro e w4 ⟨s4, sa4, sb4, rfl, hg4, q4, qa4, qb4, hr4⟩
        have R4 := Lib.hid hr4
        have G4 := Lib.hid hg4
        clear hr4 hg4
        simp only [cst] at sb4 qb4
        have t4 : (s2 ++ s3).size + s4.size ≤ 9223372036854775807 := by rw [size_append]; omega
        go_wp2_with fail
        go_ret
        exact strPost_mk rfl (by rw [size_append, size_append]; omega) (by rw [size_append, size_append]; omega) (grown_trans (grown_trans (grown_trans (grown_trans G0.out G1.out) G2.out) G3.out) G4.out) R4.out (by omega) (by omega)
    by_cases hk5 : v0 < 5
    · go_wp2_with fail
      refine (IH.out q0 _ w0 HZ.out (by omega) (by omega) R0.out).mono ?_
      rintro e w1 ⟨s1, sa1, sb1, rfl, hg1, q1, qa1, qb1, hr1⟩
      have R1 := Lib.hid hr1
      have G1 := Lib.hid hg1
      clear hr1 hg1
      have t1 : 1 + s1.size ≤ 9223372036854775807 := by omega
      go_wp2_with fail
      go_ret
      exact strPost_mk rfl (by rw [size_append]; omega) (by rw [size_append, size_one]; omega) (grown_trans G0.out G1.out) R1.out (by omega) (by omega)
    · go_wp2_with fail
      refine (of_any g q0 w0.heap.size [⟨#[38]⟩, ⟨#[124]⟩] (w0.alloc _) (by omega) (R0.out.alloc _) (by decide) (by decide) (by have := R0.out.lt; omega) (Blk.new w0 _ _)).mono ?_
      rintro e w1 ⟨s1, hs1, rfl, hg1, q1, qa1, qb1, hr1⟩
      have R1 := Lib.hid hr1
      have G1 := Lib.hid (grown_alloc hg1)
      have hz1 : 1 ≤ s1.size ∧ s1.size ≤ 1 := by
        simp only [List.mem_cons, List.not_mem_nil, or_false] at hs1
        rcases hs1 with rfl | rfl <;> decide
      obtain ⟨hz1a, hz1b⟩ := hz1
      clear hr1 hg1 hs1
      go_wp2_with fail
      refine (IH.out q1 _ w1 HZ.out (by omega) (by omega) R1.out).mono ?_
      rintro e w2 ⟨s2, sa2, sb2, rfl, hg2, q2, qa2, qb2, hr2⟩
      have R2 := Lib.hid hr2
      have G2 := Lib.hid hg2
      clear hr2 hg2
      have t2 : s1.size + s2.size ≤ 9223372036854775807 := by omega
      go_wp2_with fail
      refine (IH.out q2 _ w2 HZ.out (by omega) (by omega) R2.out).mono ?_
      rintro e w3 ⟨s3, sa3, sb3, rfl, hg3, q3, qa3, qb3, hr3⟩
      have R3 := Lib.hid hr3
      have G3 := Lib.hid hg3
      clear hr3 hg3
      have t3 : (s1 ++ s2).size + s3.size ≤ 9223372036854775807 := by rw [size_append]; omega
      go_wp2_with fail
      go_ret
      exact strPost_mk rfl (by rw [size_append, size_append]; omega) (by rw [size_append, size_append]; omega) (grown_trans (grown_trans (grown_trans G0.out G1.out) G2.out) G3.out) R3.out (by omega) (by omega)

end Go.Proofs.YtndlhdmpfnadcaaGreatDoor

/- A drawn text that is sometimes spoilt; drawn states and letters. -/
namespace Go.Proofs.YtndlhdmpfnadcaaGreatDoor
open Go.RowKit
open Pl

/-- a drawn string that may be empty -/
def TxtPost (w : World) (g p n k : Nat) (e : Ending) (w' : World) : Prop :=
  ∃ S : ByteArray, S.size ≤ n ∧ e = .returned (.string S) ∧ Drew w g p k w'
theorem txtPost_mk {w w' : World} {g p n k q : Nat} {S : ByteArray} {e : Ending} (he : e = .returned (.string S)) (h2 : S.size ≤ n) (hg : w.grownBy w' (some g)) (hr : Rnd w' g q) (hp : p ≤ q) (hq : q ≤ p + k) : TxtPost w g p n k e w' :=
  ⟨S, h2, he, hg, q, hp, hq, hr⟩

end Go.Proofs.YtndlhdmpfnadcaaGreatDoor

/- What a law's walk is told of a slice of bytes that came in, and what drawing asks of it. -/
namespace Go.Proofs.YtndlhdmpfnadcaaGreatDoor
open Go.ChangeShapes Go.WideShapes Go.ChangeAt Go.RowKit

/-- it is nil; or it leads to a row of 'cap' cells, the numbers 'zs' (the first 'len' are its elements), each fitting its kind -/
def IsRow (k : IntKind) (w : World) (a : Option Addr) (len cap : Nat) (zs : List Int) : Prop :=
  (a = none ∧ len = 0 ∧ cap = 0 ∧ zs = []) ∨
  ∃ x, a = some x ∧ len ≤ cap ∧ cap ≤ maxLen ∧ zs.length = cap ∧ (∀ i, i < zs.length → w.cell? (x.add i) = some (.int k (zs.getD i 0))) ∧ ∀ n ∈ zs, (Lit.int k n).wf = true

theorem bytes_of_row {w : World} {a : Option Addr} {len cap : Nat} {zs : List Int} (h : IsRow .u8 w a len cap zs) : Bytes w a len w.heap.size ∧ len ≤ cap ∧ cap ≤ 9223372036854775807 := by
  rcases h with ⟨rfl, rfl, rfl, rfl⟩ | ⟨x, rfl, hl, hm, hz, hcell, hwz⟩
  · exact ⟨.inl rfl, Nat.le_refl _, by omega⟩
  · unfold maxLen at hm
    refine ⟨?_, hl, by omega⟩
    by_cases h0 : len = 0
    · exact .inl h0
    · obtain ⟨b, off, spot⟩ := x
      have hc := hcell 0 (by omega)
      have hspot : spot = none := by simpa [Addr.add] using World.cell?_spot hc
      subst hspot
      have hadd : ∀ i, (⟨b, off, none⟩ : Addr).add i = ⟨b, off + i, none⟩ := by intro i; unfold Addr.add; split <;> simp_all
      have hlt := World.block_lt_of_cell? w _ hc
      rw [hadd] at hlt
      refine .inr ⟨b, off, rfl, by show b ≠ _; have : b < w.heap.size := hlt; omega, hlt, fun i hi => ?_⟩
      have hci := hcell i (by omega)
      rw [hadd] at hci
      have hwf := hwz (zs.getD i 0) (by rw [List.getD_eq_getElem?_getD, List.getElem?_eq_getElem (by omega), Option.getD_some]; exact List.getElem_mem _)
      have hb := bounds_u8 hwf
      refine ⟨(zs.getD i 0).toNat, by omega, ?_⟩
      rw [hci, Int.toNat_of_nonneg (by omega)]

end Go.Proofs.YtndlhdmpfnadcaaGreatDoor

/- Drawn arguments: a string of a bounded length, in a world in which nothing that was there has turned. -/
namespace Go.Proofs.YtndlhdmpfnadcaaGreatDoor
open Go.RowKit
open Pl

def TxtAny (w : World) (n : Nat) (e : Ending) (w' : World) : Prop := ∃ S : ByteArray, S.size ≤ n ∧ e = .returned (.string S) ∧ Below w.heap.size w w'
/-- what begins with a new source and draws from it turns nothing that was there -/
theorem below_drawn {w w1 w2 : World} (hb : Below w.heap.size w w1) (hg : w1.grownBy w2 (some w.heap.size)) : Below w.heap.size w w2 :=
  hb.trans (below_of_grown hg w.heap.size hb.size (fun g e => by injection e with e; omega))


end Go.Proofs.YtndlhdmpfnadcaaGreatDoor

/- Drawn programs: strings of a bounded length; nothing that was there turns but the source. -/
namespace Go.Proofs.YtndlhdmpfnadcaaGreatDoor
open Go.RowKit
open Pl

def cstP : Nat → Nat
  | 0 => 400
  | d + 1 => 4 * cstP d
theorem cstP_pos : ∀ d, 400 ≤ cstP d
  | 0 => Nat.le_refl _
  | d + 1 => by have := cstP_pos d; simp only [cstP]; omega
set_option maxHeartbeats 4000000 in
theorem setDraw_any (names : ByteArray) (hn1 : 1 ≤ names.size) (hn2 : names.size ≤ 6) (g p : Nat) (w : World) (hp : p ≤ 999990000) (hR : Rnd w g p) :
    Calls Tryz.prog 33 #[.pointer (some ⟨g, 0, none⟩), .string names] w (StrPost w g p 20 20) := by
  have HR := Lib.hid hR
  clear hR
  go_enter Tryz.func33, Tryz.ntmps33
  go_wp2_with fail
  refine (pick_any g p (names.size : Int) w (by omega) (by omega) HR.out).mono ?_
  rintro e w0 ⟨v0, ⟨va0, vb0, _⟩, rfl, hg0, q0, qa0, qb0, hr0⟩
  have vc0 := vb0 (by omega)
  have R0 := Lib.hid hr0
  have G0 := Lib.hid hg0
  clear vb0 hr0 hg0
  obtain ⟨j, rfl⟩ := Int.eq_ofNat_of_zero_le va0
  have hj : j < names.size := by omega
  obtain ⟨V, hV⟩ : ∃ V, names.extract j (j + 1) = V := ⟨_, rfl⟩
  have hV1 : V.size = 1 := by rw [← hV, size_extract _ _ _ (by omega)]; omega
  have HV := Lib.hid hV
  have v1a : 1 ≤ V.size := by omega
  have v1b : V.size ≤ 1 := by omega
  clear hV hV1
  go_wp2_with fail
  try rw [HV.out]
  refine (pick_any g q0 4 w0 (by omega) (by omega) R0.out).mono ?_
  rintro e w1 ⟨v1, ⟨va1, vb1, _⟩, rfl, hg1, q1, qa1, qb1, hr1⟩
  have vc1 := vb1 (by omega)
  have R1 := Lib.hid hr1
  have G1 := Lib.hid (grown_trans G0.out hg1)
  clear vb1 hr1 hg1
  by_cases h0 : v1 = 0
  · subst h0
    have t0 : 1 + V.size ≤ 9223372036854775807 := by omega
    go_wp2_with fail
    refine (of_any g q1 w1.heap.size [⟨#[43]⟩, ⟨#[45]⟩] (w1.alloc _) (by omega) (R1.out.alloc _) (by decide) (by decide) (by have := R1.out.lt; omega) (Blk.new w1 _ _)).mono ?_
    rintro e w2 ⟨s2, hs2, rfl, hg2, q2, qa2, qb2, hr2⟩
    have R2 := Lib.hid hr2
    have G2 := Lib.hid (grown_trans G1.out (grown_alloc hg2))
    clear hr2 hg2
    have hz2 : 1 ≤ s2.size ∧ s2.size ≤ 1 := by
      simp only [List.mem_cons, List.not_mem_nil, or_false] at hs2
      rcases hs2 with rfl | rfl <;> decide
    obtain ⟨hza2, hzb2⟩ := hz2
    clear hs2
    have t1 : 1 + V.size + s2.size ≤ 9223372036854775807 := by omega
    have t2 : 1 + V.size + s2.size + V.size ≤ 9223372036854775807 := by omega
    have t3 : 1 + V.size + s2.size + V.size + 1 ≤ 9223372036854775807 := by omega
    go_wp2_with fail
    refine (pick_any g q2 2 w2 (by omega) (by omega) R2.out).mono ?_
    rintro e w3 ⟨v3, ⟨va3, vb3, _⟩, rfl, hg3, q3, qa3, qb3, hr3⟩
    have vc3 := vb3 (by omega)
    have R3 := Lib.hid hr3
    have G3 := Lib.hid (grown_trans G2.out hg3)
    clear vb3 hr3 hg3
    go_wp2_with fail
    refine (dec_small (1 + v3) _ (by omega) (by omega) rfl _).mono ?_
    rintro e w4 ⟨rfl, hb4⟩
    have B4 := Lib.hid hb4
    clear hb4
    go_wp2_with fail
    go_ret
    exact strPost_mk rfl (by simp only [size_append, size_one]; omega) (by simp only [size_append, size_one]; omega) (grown_below G3.out B4.out) (R3.out.below B4.out) (by omega) (by omega)
  have e0 : (v1 == 0) = false := by simp; exact h0
  by_cases h1 : v1 = 1
  · subst h1
    clear h0 e0
    have t0 : 1 + V.size ≤ 9223372036854775807 := by omega
    have t1 : 1 + V.size + 1 ≤ 9223372036854775807 := by omega
    go_wp2_with fail
    refine (pick_any g q1 3 w1 (by omega) (by omega) R1.out).mono ?_
    rintro e w3 ⟨v3, ⟨va3, vb3, _⟩, rfl, hg3, q3, qa3, qb3, hr3⟩
    have vc3 := vb3 (by omega)
    have R3 := Lib.hid hr3
    have G3 := Lib.hid (grown_trans G1.out hg3)
    clear vb3 hr3 hg3
    go_wp2_with fail
    refine (dec_small v3 _ (by omega) (by omega) rfl _).mono ?_
    rintro e w4 ⟨rfl, hb4⟩
    have B4 := Lib.hid hb4
    clear hb4
    go_wp2_with fail
    go_ret
    exact strPost_mk rfl (by simp only [size_append, size_one]; omega) (by simp only [size_append, size_one]; omega) (grown_below G3.out B4.out) (R3.out.below B4.out) (by omega) (by omega)
  have e1 : (v1 == 1) = false := by simp; exact h1
  clear h0 h1
  have t0 : 1 + V.size ≤ 9223372036854775807 := by omega
  go_wp2_with fail
  refine (draw_any names hn1 hn2 g 1 q1 1 w1 rfl (by simp only [cst]; omega) (by omega) R1.out).mono ?_
  rintro e w3 ⟨s3, sa3, sb3, rfl, hg3, q3, qa3, qb3, hr3⟩
  have R3 := Lib.hid hr3
  have G3 := Lib.hid (grown_trans G1.out hg3)
  clear hr3 hg3
  simp only [cst] at sb3 qb3
  have t1 : 1 + V.size + s3.size ≤ 9223372036854775807 := by omega
  go_wp2_with fail
  go_ret
  exact strPost_mk rfl (by simp only [size_append, size_one]; omega) (by simp only [size_append, size_one]; omega) G3.out R3.out (by omega) (by omega)
set_option maxHeartbeats 8000000 in
theorem progDraw_any (names : ByteArray) (hn1 : 1 ≤ names.size) (hn2 : names.size ≤ 6) (plain : Bool) (g : Nat) : ∀ (d p : Nat) (z : Int) (w : World), z = d → p + cstP d ≤ 900000000 → d ≤ 20 → cstP d ≤ 100000000 → Rnd w g p →
    Calls Tryz.prog 42 #[.pointer (some ⟨g, 0, none⟩), .int .i64 z, .bool plain, .string names] w (StrPost w g p (cstP d) (cstP d)) := by
  intro d
  induction d with
  | zero =>
    intro p z w hz hp hd hcd hR
    obtain rfl : z = 0 := hz
    simp only [cstP] at hp hcd ⊢
    have HR := Lib.hid hR
    clear hR
    go_enter Tryz.func42, Tryz.ntmps42
    go_wp2_with fail
    refine (pick_any g p 12 w (by omega) (by omega) HR.out).mono ?_
    rintro e w0 ⟨v0, ⟨va0, vb0, _⟩, rfl, hg0, q0, qa0, qb0, hr0⟩
    have vc0 := vb0 (by omega)
    have R0 := Lib.hid hr0
    have G0 := Lib.hid hg0
    clear vb0 hr0 hg0
    go_wp2_with fail
    refine (pick_any g q0 8 w0 (by omega) (by omega) R0.out).mono ?_
    rintro e w1 ⟨v1, ⟨va1, vb1, _⟩, rfl, hg1, q1, qa1, qb1, hr1⟩
    have vc1 := vb1 (by omega)
    have R1 := Lib.hid hr1
    have G1 := Lib.hid (grown_trans G0.out hg1)
    clear vb1 hr1 hg1
    by_cases hv : v1 = 0
    · subst hv
      go_wp2_with fail
      go_ret
      exact strPost_mk rfl (by decide) (by rw [size_one]; omega) G1.out R1.out (by omega) (by omega)
    · have hv' : (v1 == 0) = false := by simp; exact hv
      clear hv
      go_wp2_with fail
      refine (setDraw_any names hn1 hn2 g q1 w1 (by omega) R1.out).mono ?_
      rintro e w2 ⟨s2, sa2, sb2, rfl, hg2, q2, qa2, qb2, hr2⟩
      have R2 := Lib.hid hr2
      have G2 := Lib.hid (grown_trans G1.out hg2)
      clear hr2 hg2
      go_wp2_with fail
      go_ret
      exact strPost_mk rfl (by omega) (by omega) G2.out R2.out (by omega) (by omega)
  | succ d ih =>
    intro p z w hz hp hd hcd hR
    have hcp := cstP_pos d
    simp only [cstP] at hp hcd ⊢
    have HR := Lib.hid hR
    have IH := Lib.hid ih
    have hz0 : ¬ z ≤ 0 := by omega
    have hz1 : z ≤ 200 := by omega
    have HZ : Hid (z - 1 = (d : Int)) := by show z - 1 = _; omega
    clear hR ih hz
    generalize cstP d = cd at *
    go_enter Tryz.func42, Tryz.ntmps42
    go_wp2_with fail
    refine (pick_any g p 12 w (by omega) (by omega) HR.out).mono ?_
    rintro e w0 ⟨v0, ⟨va0, vb0, _⟩, rfl, hg0, q0, qa0, qb0, hr0⟩
    have vc0 := vb0 (by omega)
    have R0 := Lib.hid hr0
    have G0 := Lib.hid hg0
    clear vb0 hr0 hg0
    by_cases k2 : v0 < 2
    · skip
      go_wp2_with fail
      refine (pick_any g q0 8 w0 (by omega) (by omega) R0.out).mono ?_
      rintro e w1 ⟨v1, ⟨va1, vb1, _⟩, rfl, hg1, q1, qa1, qb1, hr1⟩
      have vc1 := vb1 (by omega)
      have R1 := Lib.hid hr1
      have G1 := Lib.hid (grown_trans G0.out hg1)
      clear vb1 hr1 hg1
      by_cases hv : v1 = 0
      · subst hv
        go_wp2_with fail
        go_ret
        exact strPost_mk rfl (by decide) (by rw [size_one]; omega) G1.out R1.out (by omega) (by omega)
      · have hv' : (v1 == 0) = false := by simp; exact hv
        clear hv
        go_wp2_with fail
        refine (setDraw_any names hn1 hn2 g q1 w1 (by omega) R1.out).mono ?_
        rintro e w2 ⟨s2, sa2, sb2, rfl, hg2, q2, qa2, qb2, hr2⟩
        have R2 := Lib.hid hr2
        have G2 := Lib.hid (grown_trans G1.out hg2)
        clear hr2 hg2
        go_wp2_with fail
        go_ret
        exact strPost_mk rfl (by omega) (by omega) G2.out R2.out (by omega) (by omega)
    by_cases k6 : v0 < 6
    · skip
      go_wp2_with fail
      refine (IH.out q0 _ w0 HZ.out (by omega) (by omega) (by omega) R0.out).mono ?_
      rintro e w1 ⟨s1, sa1, sb1, rfl, hg1, q1, qa1, qb1, hr1⟩
      have R1 := Lib.hid hr1
      have G1 := Lib.hid (grown_trans G0.out hg1)
      clear hr1 hg1
      have t1 : 1 + s1.size ≤ 9223372036854775807 := by omega
      go_wp2_with fail
      refine (IH.out q1 _ w1 HZ.out (by omega) (by omega) (by omega) R1.out).mono ?_
      rintro e w2 ⟨s2, sa2, sb2, rfl, hg2, q2, qa2, qb2, hr2⟩
      have R2 := Lib.hid hr2
      have G2 := Lib.hid (grown_trans G1.out hg2)
      clear hr2 hg2
      have t2 : 1 + s1.size + s2.size ≤ 9223372036854775807 := by omega
      go_wp2_with fail
      go_ret
      exact strPost_mk rfl (by simp only [size_append, size_one]; omega) (by simp only [size_append, size_one]; omega) G2.out R2.out (by omega) (by omega)
    by_cases k8 : v0 < 8
    · skip
      go_wp2_with fail
      refine (drawTest_any names hn1 hn2 g 1 q0 1 w0 rfl (by simp only [cstT]; omega) (by omega) R0.out).mono ?_
      rintro e w1 ⟨s1, sa1, sb1, rfl, hg1, q1, qa1, qb1, hr1⟩
      have R1 := Lib.hid hr1
      have G1 := Lib.hid (grown_trans G0.out hg1)
      clear hr1 hg1
      simp only [cstT] at sb1 qb1
      go_wp2_with fail
      refine (IH.out q1 _ w1 HZ.out (by omega) (by omega) (by omega) R1.out).mono ?_
      rintro e w2 ⟨s2, sa2, sb2, rfl, hg2, q2, qa2, qb2, hr2⟩
      have R2 := Lib.hid hr2
      have G2 := Lib.hid (grown_trans G1.out hg2)
      clear hr2 hg2
      have t1 : 1 + s1.size ≤ 9223372036854775807 := by omega
      have t2 : 1 + s1.size + s2.size ≤ 9223372036854775807 := by omega
      go_wp2_with fail
      refine (IH.out q2 _ w2 HZ.out (by omega) (by omega) (by omega) R2.out).mono ?_
      rintro e w3 ⟨s3, sa3, sb3, rfl, hg3, q3, qa3, qb3, hr3⟩
      have R3 := Lib.hid hr3
      have G3 := Lib.hid (grown_trans G2.out hg3)
      clear hr3 hg3
      have t3 : 1 + s1.size + s2.size + s3.size ≤ 9223372036854775807 := by omega
      go_wp2_with fail
      go_ret
      exact strPost_mk rfl (by simp only [size_append, size_one]; omega) (by simp only [size_append, size_one]; omega) G3.out R3.out (by omega) (by omega)
    by_cases k10 : v0 < 10
    · skip
      go_wp2_with fail
      refine (drawTest_any names hn1 hn2 g 1 q0 1 w0 rfl (by simp only [cstT]; omega) (by omega) R0.out).mono ?_
      rintro e w1 ⟨s1, sa1, sb1, rfl, hg1, q1, qa1, qb1, hr1⟩
      have R1 := Lib.hid hr1
      have G1 := Lib.hid (grown_trans G0.out hg1)
      clear hr1 hg1
      simp only [cstT] at sb1 qb1
      have t1 : 1 + s1.size ≤ 9223372036854775807 := by omega
      go_wp2_with fail
      refine (IH.out q1 _ w1 HZ.out (by omega) (by omega) (by omega) R1.out).mono ?_
      rintro e w2 ⟨s2, sa2, sb2, rfl, hg2, q2, qa2, qb2, hr2⟩
      have R2 := Lib.hid hr2
      have G2 := Lib.hid (grown_trans G1.out hg2)
      clear hr2 hg2
      have t2 : 1 + s1.size + s2.size ≤ 9223372036854775807 := by omega
      go_wp2_with fail
      go_ret
      exact strPost_mk rfl (by simp only [size_append, size_one]; omega) (by simp only [size_append, size_one]; omega) G2.out R2.out (by omega) (by omega)
    cases plain
    · by_cases k11 : v0 < 11
      · skip
        go_wp2_with fail
        refine (IH.out q0 _ w0 HZ.out (by omega) (by omega) (by omega) R0.out).mono ?_
        rintro e w1 ⟨s1, sa1, sb1, rfl, hg1, q1, qa1, qb1, hr1⟩
        have R1 := Lib.hid hr1
        have G1 := Lib.hid (grown_trans G0.out hg1)
        clear hr1 hg1
        have t1 : 1 + s1.size ≤ 9223372036854775807 := by omega
        go_wp2_with fail
        refine (IH.out q1 _ w1 HZ.out (by omega) (by omega) (by omega) R1.out).mono ?_
        rintro e w2 ⟨s2, sa2, sb2, rfl, hg2, q2, qa2, qb2, hr2⟩
        have R2 := Lib.hid hr2
        have G2 := Lib.hid (grown_trans G1.out hg2)
        clear hr2 hg2
        have t2 : 1 + s1.size + s2.size ≤ 9223372036854775807 := by omega
        go_wp2_with fail
        go_ret
        exact strPost_mk rfl (by simp only [size_append, size_one]; omega) (by simp only [size_append, size_one]; omega) G2.out R2.out (by omega) (by omega)
      · skip
        go_wp2_with fail
        refine (drawTest_any names hn1 hn2 g 1 q0 1 w0 rfl (by simp only [cstT]; omega) (by omega) R0.out).mono ?_
        rintro e w1 ⟨s1, sa1, sb1, rfl, hg1, q1, qa1, qb1, hr1⟩
        have R1 := Lib.hid hr1
        have G1 := Lib.hid (grown_trans G0.out hg1)
        clear hr1 hg1
        simp only [cstT] at sb1 qb1
        have t1 : 1 + s1.size ≤ 9223372036854775807 := by omega
        go_wp2_with fail
        go_ret
        exact strPost_mk rfl (by simp only [size_append, size_one]; omega) (by simp only [size_append, size_one]; omega) G1.out R1.out (by omega) (by omega)
    · skip
      go_wp2_with fail
      refine (drawTest_any names hn1 hn2 g 1 q0 1 w0 rfl (by simp only [cstT]; omega) (by omega) R0.out).mono ?_
      rintro e w1 ⟨s1, sa1, sb1, rfl, hg1, q1, qa1, qb1, hr1⟩
      have R1 := Lib.hid hr1
      have G1 := Lib.hid (grown_trans G0.out hg1)
      clear hr1 hg1
      simp only [cstT] at sb1 qb1
      have t1 : 1 + s1.size ≤ 9223372036854775807 := by omega
      go_wp2_with fail
      refine (IH.out q1 _ w1 HZ.out (by omega) (by omega) (by omega) R1.out).mono ?_
      rintro e w2 ⟨s2, sa2, sb2, rfl, hg2, q2, qa2, qb2, hr2⟩
      have R2 := Lib.hid hr2
      have G2 := Lib.hid (grown_trans G1.out hg2)
      clear hr2 hg2
      have t2 : 1 + s1.size + s2.size ≤ 9223372036854775807 := by omega
      go_wp2_with fail
      go_ret
      exact strPost_mk rfl (by simp only [size_append, size_one]; omega) (by simp only [size_append, size_one]; omega) G2.out R2.out (by omega) (by omega)

end Go.Proofs.YtndlhdmpfnadcaaGreatDoor
