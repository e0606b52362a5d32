/- XGq: XBd XBe XBf put together. -/
import Derived.Test.YtndlhdmpfnadcaaGreatDoorOl
import Derived.Test.YtndlhdmpfnadcaaGreatDoorLk
import Derived.StillTailTactics
import Derived.Deep.RegionHeld3
/- The lines of the weakest triple of two programs: what is kept while they are built; the lines of sequences. -/
namespace Go.Proofs.YtndlhdmpfnadcaaGreatDoor
open Go.RowKit
open Pl
set_option linter.unusedVariables false

/-- a list of lines whose relations are relations -/
structure OB (B : Nat) (W : World) (v : Value) (n : Nat) (L : Nat → LnD) : Prop where
  ol : OL B W v n L
  bit : ∀ i, i < n → bOk 729 (L i).A.data.toList = true
  pp : ∀ i, i < n → 1 ≤ (L i).P.size ∧ (L i).P.size ≤ 900 ∧ (L i).n ≤ 900
theorem OB.call {B : Nat} {W W' : World} {v : Value} {n : Nat} {L : Nat → LnD} (h : OB B W v n L) (hb : Below W.heap.size W W') : OB B W' v n L := ⟨h.ol.call hb, h.bit, h.pp⟩
/-- neither the list's row nor its lines' numbers lie in block g -/
def AvL (v : Value) (n : Nat) (L : Nat → LnD) (g : Nat) : Prop := v.ownBlock ≠ some g ∧ ∀ i, i < n → ∀ a, (L i).s = some a → a.block ≠ g
/-- what a function that lengthens a list leaves -/
structure BdR (B : Nat) (w : World) (v : Value) (n : Nat) (L : Nat → LnD) (m : Nat) (w' : World) (v' : Value) (n' : Nat) (L' : Nat → LnD) : Prop where
  ob : OB B w' v' n' L'
  gl : GL w v w' v'
  av : ∀ g, g < w.heap.size → AvL v n L g → AvL v' n' L' g
  le : n ≤ n'
  top : n' = n ∨ n' ≤ m
def BdPost (B : Nat) (w : World) (v : Value) (n : Nat) (L : Nat → LnD) (m : Nat) (e : Ending) (w' : World) : Prop := ∃ v' n' L', e = .returned v' ∧ 1 ≤ n' ∧ BdR B w v n L m w' v' n' L'
theorem BdR.refl {B : Nat} {w : World} {v : Value} {n m : Nat} {L : Nat → LnD} (h : OB B w v n L) : BdR B w v n L m w v n L := ⟨h, GL.refl _ _, fun _ _ h => h, Nat.le_refl _, .inl rfl⟩
theorem BdR.pre {B : Nat} {w w1 w' : World} {v v' : Value} {n n' m : Nat} {L L' : Nat → LnD} (hb : Below w.heap.size w w1) (h : BdR B w1 v n L m w' v' n' L') : BdR B w v n L m w' v' n' L' :=
  ⟨h.ob, GL.pre hb h.gl, fun g hg ha => h.av g (Nat.lt_of_lt_of_le hg hb.size) ha, h.le, h.top⟩
theorem BdR.call {B : Nat} {w w1 w' : World} {v v' : Value} {n n' m : Nat} {L L' : Nat → LnD} (h : BdR B w v n L m w1 v' n' L') (hb : Below w1.heap.size w1 w') : BdR B w v n L m w' v' n' L' :=
  ⟨h.ob.call hb, h.gl.call hb, h.av, h.le, h.top⟩
/-- a line added to a list -/
theorem put_bd {B : Nat} {w w' : World} {v : Value} {n : Nat} {L : Nat → LnD} {R A P Q T : ByteArray} {rn : Nat} {rz : Nat → Int} {e : Ending} (hO : OB B w v n L) (h : PutPost B w v n L R A P Q T rn rz e w') (hA : bOk 729 A.data.toList = true) (hP : 1 ≤ P.size ∧ P.size ≤ 900) (hrn : rn ≤ 900) :
    ∃ v' L', e = .returned v' ∧ BdR B w v n L (n + 1) w' v' (n + 1) L' := by
  obtain ⟨v', s', c', he, ho, hg, hf⟩ := h
  refine ⟨v', _, he, ⟨ho, fun i hi => ?_, fun i hi => ?_⟩, hg, fun g hlt ha => ⟨?_, fun i hi a e => ?_⟩, by omega, .inr (Nat.le_refl _)⟩
  · by_cases e : i = n
    · subst e; rw [show updL L i _ i = _ from if_pos rfl]; exact hA
    · rw [show updL L n _ i = L i from if_neg e]; exact hO.bit i (by omega)
  · by_cases e : i = n
    · subst e; rw [show updL L i _ i = _ from if_pos rfl]; exact ⟨hP.1, hP.2, hrn⟩
    · rw [show updL L n _ i = L i from if_neg e]; exact hO.pp i (by omega)
  · rcases hg.lies with h | ⟨g', h, hge⟩
    · rw [h]; exact ha.1
    · rw [h]; intro e; cases e; omega
  · by_cases e2 : i = n
    · subst e2
      rw [show updL L i _ i = _ from if_pos rfl] at e
      have := hf a e
      omega
    · rw [show updL L n _ i = L i from if_neg e2] at e
      exact ha.2 i (by omega) a e
theorem BdR.trans {B : Nat} {w w1 w2 : World} {v v1 v2 : Value} {n n1 n2 m m1 m2 : Nat} {L L1 L2 : Nat → LnD} (h : BdR B w v n L m1 w1 v1 n1 L1) (k : BdR B w1 v1 n1 L1 m2 w2 v2 n2 L2) (hm : n2 = n ∨ n2 ≤ m) : BdR B w v n L m w2 v2 n2 L2 :=
  ⟨k.ob, h.gl.trans k.gl, fun g hg ha => k.av g (Nat.lt_of_lt_of_le hg h.gl.grown.size) (h.av g hg ha), Nat.le_trans h.le k.le, hm⟩
theorem BdR.top_ {B : Nat} {w w' : World} {v v' : Value} {n n' m m' : Nat} {L L' : Nat → LnD} (h : BdR B w v n L m w' v' n' L') (hm : n' = n ∨ n' ≤ m') : BdR B w v n L m' w' v' n' L' := ⟨h.ob, h.gl, h.av, h.le, hm⟩
/-- a row that the list avoids -/
theorem BdR.row {B : Nat} {w w' : World} {v v' u : Value} {n n' m : Nat} {L L' : Nat → LnD} (h : BdR B w v n L m w' v' n' L') {base size k : Nat} {e : TypeId} {xs : List Value} (hk : w.ownsRow base e size u k xs) (ha : ∀ g, u.ownBlock = some g → AvL v n L g) :
    w'.ownsRow base e size u k xs ∧ ∀ g, u.ownBlock = some g → AvL v' n' L' g :=
  ⟨h.gl.row hk (fun g hg => (ha g hg).1), fun g hg => h.av g (hk.lt g hg).2 (ha g hg)⟩
/-- another row written -/
theorem OB.other {B : Nat} {W W' : World} {v : Value} {n : Nat} {L : Nat → LnD} {r : Option Nat} (h : OB B W v n L) (hg : W.grownBy W' r) (ha : ∀ g, r = some g → AvL v n L g) : OB B W' v n L := by
  refine ⟨⟨h.ol.own.kept hg ?_, fun i hi => ?_⟩, h.bit, h.pp⟩
  · cases hv : v.ownBlock with
    | none => simp
    | some k => exact .inr (fun e => (ha _ e.symm).1 hv)
  · have x := h.ol.ln i hi
    refine ⟨x.szR, x.szA, x.szP, x.szQ, x.szB, x.szn, x.cap, x.nil, x.z, x.ir.grown hg (fun a ea e => (ha _ e).2 i hi a ea rfl), fun a ea => ⟨Nat.lt_of_lt_of_le (x.far a ea).1 hg.size, (x.far a ea).2⟩⟩
theorem BdR.other {B : Nat} {w W W' : World} {v v' : Value} {n n' m : Nat} {L L' : Nat → LnD} {r : Option Nat} (h : BdR B w v n L m W v' n' L') (hg : W.grownBy W' r) (ha : ∀ g, r = some g → AvL v' n' L' g) (hr : ∀ g, r = some g → w.heap.size ≤ g) : BdR B w v n L m W' v' n' L' := by
  refine ⟨h.ob.other hg ha, ⟨⟨hg.os.trans h.gl.grown.os, hg.tape.trans h.gl.grown.tape, hg.output.trans h.gl.grown.output, Nat.le_trans h.gl.grown.size hg.size, fun k hk hne => ?_⟩, h.gl.lies⟩, h.av, h.le, h.top⟩
  refine (hg.block k (Nat.lt_of_lt_of_le hk h.gl.grown.size) (fun e => ?_)).trans (h.gl.grown.block k hk hne)
  have := hr k e.symm
  omega
/-- blocks made later are avoided -/
theorem OB.new {B : Nat} {w : World} {v : Value} {n : Nat} {L : Nat → LnD} (h : OB B w v n L) {g : Nat} (hg : w.heap.size ≤ g) : AvL v n L g :=
  ⟨fun e => by have := h.ol.lt g e; omega, fun i hi a e => by have := ((h.ol.ln i hi).far a e).1; omega⟩
/-- the last line's relation -/
theorem OB.last {B : Nat} {w : World} {v : Value} {m : Nat} {L : Nat → LnD} (h : OB B w v (m + 1) L) : ∃ g c, v = .slice (some ⟨g, 0, none⟩) (m + 1) c ∧ m + 1 ≤ c ∧ c ≤ 9223372036854775807 ∧ g < w.heap.size ∧ bOk 729 (L m).A.data.toList = true ∧ w.cell? ⟨g, m * 6 + 1, none⟩ = some (.string (L m).A) ∧ (w.cell? ⟨g, m * 6, none⟩ = some (.string (L m).R) ∧ w.cell? ⟨g, m * 6 + 2, none⟩ = some (.string (L m).P) ∧ w.cell? ⟨g, m * 6 + 3, none⟩ = some (.string (L m).Q) ∧ w.cell? ⟨g, m * 6 + 4, none⟩ = some (.string (L m).B) ∧ w.cell? ⟨g, m * 6 + 5, none⟩ = some (.slice (L m).s (L m).n (L m).c)) := by
  obtain ⟨s, c, rfl, hc, hcm, hx⟩ := h.ol.form
  obtain ⟨g, rfl, _, hg, hcell⟩ := hx (by omega)
  refine ⟨g, c, rfl, hc, hcm, hg, h.bit m (by omega), hcell m 1 (by omega) (by omega), ?_, hcell m 2 (by omega) (by omega), hcell m 3 (by omega) (by omega), hcell m 4 (by omega) (by omega), hcell m 5 (by omega) (by omega)⟩
  simpa [fldV] using hcell m 0 (by omega) (by omega)
/-- the two parts, in their row -/
theorem two_row {w : World} {base : Nat} {v : Value} {x y : Nd} (h : w.ownsRow base 9 1 v 2 ([x, y].map sv)) : ∃ g c, v = .slice (some ⟨g, 0, none⟩) 2 c ∧ 2 ≤ c ∧ c ≤ 9223372036854775807 ∧ base ≤ g ∧ g < w.heap.size ∧ w.cell? ⟨g, 0, none⟩ = some (.string (bs x.text)) ∧ w.cell? ⟨g, 1, none⟩ = some (.string (bs y.text)) := by
  rcases h.2 with ⟨_, h2⟩ | ⟨g, cap, cur, rfl, hb, hg, hc, hm, hs, ht⟩
  · omega
  · refine ⟨g, cap, rfl, hc, by simpa [maxLen] using hm, hb, Blk.lt hg, ?_, ?_⟩
    · rw [Blk.cell hg]
      have h1 : ([x, y].map sv)[0]? = some (sv x) := rfl
      rw [← ht, List.getElem?_take, if_pos (by omega), Array.getElem?_toList] at h1
      exact h1
    · rw [Blk.cell hg]
      have h1 : ([x, y].map sv)[1]? = some (sv y) := rfl
      rw [← ht, List.getElem?_take, if_pos (by omega), Array.getElem?_toList] at h1
      exact h1
theorem two_cell {w : World} {base g c : Nat} {x y : Nd} (h : w.ownsRow base 9 1 (.slice (some ⟨g, 0, none⟩) 2 c) 2 ([x, y].map sv)) : w.cell? ⟨g, 0, none⟩ = some (.string (bs x.text)) ∧ w.cell? ⟨g, 1, none⟩ = some (.string (bs y.text)) := by
  obtain ⟨g', c', e, _, _, _, _, h1, h2⟩ := two_row h
  cases e
  exact ⟨h1, h2⟩
theorem ir_two (W : World) (a b : Nat) : IR (W.alloc (.cells #[.int .i64 (a : Int), .int .i64 (b : Int)] 3)) (some ⟨W.heap.size, 0, none⟩) 2 (fun k => if k = 0 then (a : Int) else (b : Int)) := by
  refine .inr ⟨W.heap.size, 0, rfl, by simp, fun i hi => ?_⟩
  rw [Nat.zero_add, (Blk.new W _ _).cell i]
  match i, hi with
  | 0, _ => rfl
  | 1, _ => rfl
theorem ir_one (W : World) (a : Nat) : IR (W.alloc (.cells #[.int .i64 (a : Int)] 3)) (some ⟨W.heap.size, 0, none⟩) 1 (fun _ => (a : Int)) := by
  refine .inr ⟨W.heap.size, 0, rfl, by simp, fun i hi => ?_⟩
  rw [Nat.zero_add, (Blk.new W _ _).cell i]
  match i, hi with
  | 0, _ => rfl
/-- the contract of l9Build for programs of at most z letters -/
def BdC (z : Nat) : Prop := ∀ (k j : Nd) (P Q T : ByteArray) (B : Nat) (v : Value) (n : Nat) (L : Nat → LnD) (w : World), k.text.length ≤ z → ok false 2 k = true → P.data.toList = k.text → P.size ≤ 200 → ok false 2 j = true → Q.data.toList = j.text → Q.size ≤ 200 → bOk 729 T.data.toList = true → n ≤ 2000 → OB B w v n L → B ≤ w.heap.size →
  Calls Tryz.prog 23 #[v, .string P, .string Q, .string T] w (BdPost B w v n L (60 + 5 * P.size))
theorem big_ne {n : Nat} (h : n ≤ 60) : ¬ ((60 : Int) < (n : Int)) := by omega
theorem bit_size {T : ByteArray} (h : bOk 729 T.data.toList = true) : T.size ≤ 1000 := by have := okR_size h; omega
theorem isSome_of {k : Nd} {P : ByteArray} (hk : ok false 2 k = true) (ht : P.data.toList = k.text) (hP : P.size ≤ 200) : (whole false 2 200 P.data.toList).isSome = true := by
  rw [ht, whole_text hk (by rw [← ht, len_S]; exact hP)]; rfl
/-- one line by a rule without refs -/
theorem put_nil {B : Nat} {v : Value} {n : Nat} {L : Nat → LnD} (R A P Q T : ByteArray) (w : World) (hO : OB B w v n L) (hB : B ≤ w.heap.size) (hn : n ≤ 5000) (hR : R.size ≤ 1000 ∧ R.data.toList.all (fun c => c != 32 && c != 44) = true) (hA : bOk 729 A.data.toList = true) (hP : 1 ≤ P.size ∧ P.size ≤ 900) (hQ : Q.size ≤ 1000) (hT : T.size ≤ 1000) :
    Calls Tryz.prog 40 #[v, .string R, .string A, .string P, .string Q, .string T, .slice none 0 0] w fun e w' => ∃ v' L', e = .returned v' ∧ BdR B w v n L (n + 1) w' v' (n + 1) L' :=
  (l9Put_any B v n L R A P Q T none 0 0 (fun _ => 0) w hO.ol hB hn hR (bit_size hA) (Nat.le_trans hP.2 (by decide)) hQ hT (by omega) (fun k hk => absurd hk (by omega)) (.inl rfl) (fun _ => rfl)).mono fun _ _ h => put_bd hO h hA hP (by omega)
/-- one line with refs -/
theorem put_refs {B : Nat} {v : Value} {n : Nat} {L : Nat → LnD} (R A P Q T : ByteArray) (ad : Addr) (rn rc : Nat) (rz : Nat → Int) (w : World) (hO : OB B w v n L) (hB : B ≤ w.heap.size) (hn : n ≤ 5000) (hR : R.size ≤ 1000 ∧ R.data.toList.all (fun c => c != 32 && c != 44) = true) (hA : bOk 729 A.data.toList = true) (hP : 1 ≤ P.size ∧ P.size ≤ 900) (hQ : Q.size ≤ 1000) (hT : T.size ≤ 1000) (hrn : rn ≤ 900) (hz : ∀ k, k < rn → 0 ≤ rz k ∧ rz k ≤ 100000) (hI : IR w (some ad) rn rz) :
    Calls Tryz.prog 40 #[v, .string R, .string A, .string P, .string Q, .string T, .slice (some ad) rn rc] w fun e w' => ∃ v' L', e = .returned v' ∧ BdR B w v n L (n + 1) w' v' (n + 1) L' :=
  (l9Put_any B v n L R A P Q T (some ad) rn rc rz w hO.ol hB hn hR (bit_size hA) (Nat.le_trans hP.2 (by decide)) hQ hT (Nat.le_trans hrn (by decide)) (fun k hk => ⟨by have := (hz k hk).1; omega, by have := (hz k hk).2; omega⟩) hI (fun h => by cases h)).mono fun _ _ h => put_bd hO h hA hP (by omega)
set_option maxRecDepth 100000 in
set_option maxHeartbeats 16000000 in
theorem build_seq (z : Nat) (ih : BdC z) (x y x' y' : Nd) (P Q T : ByteArray) (B : Nat) (s : Option Addr) (n c : Nat) (L : Nat → LnD) (w : World) (hz : (Nd.n2 59 x y).text.length ≤ z + 1) (hk : ok false 2 (.n2 59 x y) = true) (ht : P.data.toList = (Nd.n2 59 x y).text) (hP : P.size ≤ 200) (hj : ok false 2 (.n2 59 x' y') = true) (hu : Q.data.toList = (Nd.n2 59 x' y').text) (hQ : Q.size ≤ 200) (hT : bOk 729 T.data.toList = true) (hn : n ≤ 60) (hO : OB B w (.slice s n c) n L) (hB : B ≤ w.heap.size) :
    Calls Tryz.prog 23 #[.slice s n c, .string P, .string Q, .string T] w (BdPost B w (.slice s n c) n L (60 + 5 * P.size)) := by
  have hp1 : prt (Nd.n2 59 x y) = [x, y] := rfl
  have hp2 : prt (Nd.n2 59 x' y') = [x', y'] := rfl
  have PF := Lib.hid (fun w => PairFree_any P Q T (isSome_of hk ht hP) (isSome_of hj hu hQ) hT w)
  have PA := Lib.hid (fun w => partsS_any P (by omega) false _ hk ht w)
  have PB := Lib.hid (fun w => partsS_any Q (by omega) false _ hj hu w)
  rw [hp1] at PA
  rw [hp2] at PB
  have hx : ok false 2 x = true ∧ ok false 2 y = true := by simpa [ok] using hk
  have hx' : ok false 2 x' = true ∧ ok false 2 y' = true := by simpa [ok] using hj
  have hlen : x.text.length + y.text.length + 1 = P.size := by rw [← len_S, ht]; simp [Nd.text]
  have hlen' : x'.text.length + y'.text.length + 1 = Q.size := by rw [← len_S, hu]; simp [Nd.text]
  have hz2 : x.text.length ≤ z ∧ y.text.length ≤ z := by simp [Nd.text] at hz; omega
  have IY := Lib.hid (fun v n L w a b c => ih y y' (bs y.text) (bs y'.text) T B v n L w hz2.2 hx.2 (bs_list _) (by rw [bs_size]; omega) hx'.2 (bs_list _) (by rw [bs_size]; omega) hT a b c)
  have IX := Lib.hid (fun A v n L w hA a b c => ih x x' (bs x.text) (bs x'.text) A B v n L w hz2.1 hx.1 (bs_list _) (by rw [bs_size]; omega) hx'.1 (bs_list _) (by rw [bs_size]; omega) hA a b c)
  rw [bs_size] at IY
  simp only [bs_size] at IX
  have HL := Lib.hid hlen
  have hP1 : 1 ≤ P.size := by omega
  have hQ1 : 1 ≤ Q.size := by omega
  have c0 : P[0]'(hP1) = 59 := by
    have h : P.data.toList[0]? = some 59 := by rw [ht]; rfl
    have h1 : 0 < P.data.toList.length := by rw [len_S]; omega
    rw [List.getElem?_eq_getElem h1] at h
    exact Option.some.inj h
  have d0 : Q[0]'(hQ1) = 59 := by
    have h : Q.data.toList[0]? = some 59 := by rw [hu]; rfl
    have h1 : 0 < Q.data.toList.length := by rw [len_S]; omega
    rw [List.getElem?_eq_getElem h1] at h
    exact Option.some.inj h
  have SM := Lib.hid (fun w => by have := l9Small_any P hP1 w; rw [c0] at this; exact this)
  have HT := Lib.hid hT
  have HO := Lib.hid hO
  have hbig := big_ne hn
  have HB := Lib.hid hB
  have hts := bit_size hT
  clear hz hk ht hj hu hx hx' hz2 hT hO ih hlen hlen' hB hp1 hp2
  go_enter Tryz.func23, Tryz.ntmps23
  go_wp2_with fail
  refine (PF.out _).mono ?_
  rintro e w1 ⟨S1, hS1, rfl, hb1⟩
  have HO1 := Lib.hid (HO.out.call hb1)
  have B1 := Lib.hid hb1
  clear hb1 hS1
  go_wp2_with fail
  refine (SM.out _).mono ?_
  rintro e w1' ⟨rfl, rfl⟩
  go_wp2_with fail
  refine (PA.out _).mono ?_
  rintro e w2 ⟨va, rfl, hra, hb2⟩
  have HA := Lib.hid hra
  have HO2 := Lib.hid (HO1.out.call hb2)
  have B2 := Lib.hid (below_2 B1.out hb2)
  clear hra hb2
  go_wp2_with fail
  refine (PB.out _).mono ?_
  rintro e w3 ⟨vb, rfl, hrb, hb3⟩
  have HA3 := Lib.hid (row_call HA.out hb3)
  have HO3 := Lib.hid (HO2.out.call hb3)
  have B3 := Lib.hid (below_2 B2.out hb3)
  obtain ⟨ga, ca, rfl, ha1, ha2, ha3, ha4, ax, ay⟩ := two_row (show w3.ownsRow _ _ 1 va 2 ([x, y].map sv) from HA3.out)
  obtain ⟨gb, cb, rfl, ha5, ha6, ha7, ha8, bx, by_⟩ := two_row (show w3.ownsRow _ _ 1 vb 2 ([x', y'].map sv) from hrb)
  have HR := Lib.hid hrb
  have VA := Lib.hid (HO1.out.new ha3)
  have VB := Lib.hid (HO2.out.new ha7)
  clear hrb hb3 PA PB PF SM
  go_wp2_with fail
  go_still_tail 8, (by kernel_rfl)
  clear ax ay bx by_
  go_wp2_with fail
  refine (IY.out (.slice s n c) n L w3.drew (by omega) (HO3.out.call (below_drew _ _)) (Nat.le_trans HB.out B3.out.size)).mono ?_
  rintro e w4 ⟨v1, n1, L1, rfl, hp, h1⟩
  obtain ⟨r1, av1⟩ := h1.row (row_call HA3.out (below_drew _ _)) (by intro g e; cases e; exact VA.out)
  obtain ⟨r2, av2⟩ := h1.row (row_call HR.out (below_drew _ _)) (by intro g e; cases e; exact VB.out)
  obtain ⟨m1, rfl⟩ : ∃ m, n1 = m + 1 := ⟨n1 - 1, by omega⟩
  obtain ⟨g1, c1, rfl, hc1, hc2, hg1, hbit1, hA1, _⟩ := h1.ob.last
  obtain ⟨ax, _⟩ := two_cell (show w4.ownsRow _ _ 1 _ 2 ([x, y].map sv) from r1)
  obtain ⟨bx, _⟩ := two_cell (show w4.ownsRow _ _ 1 _ 2 ([x', y'].map sv) from r2)
  have hn1 : m1 + 1 ≤ 1060 := by have := h1.top; have := HL.out; omega
  have H1 := Lib.hid h1
  have RA1 := Lib.hid r1
  have RB1 := Lib.hid r2
  have AV1 := Lib.hid av1
  have AV2 := Lib.hid av2
  have HBT := Lib.hid hbit1
  clear h1 r1 r2 av1 av2 hp hbit1 IY HA3 HR VA VB
  have i0 : (0 : Int) ≤ (m1 : Int) := by omega
  have i1 : (m1 : Int) < (m1 : Int) + 1 := by omega
  generalize (L1 m1).A = A1 at *
  go_wp2_with fail
  go_still_tail 12, (by kernel_rfl)
  clear ax bx hA1
  go_wp2_with fail
  have HB4 : Hid (B ≤ w4.heap.size) := Nat.le_trans (Nat.le_trans HB.out B3.out.size) H1.out.gl.grown.size
  refine (IX.out A1 _ (m1 + 1) L1 w4.drew HBT.out (by omega) (H1.out.ob.call (below_drew _ _)) HB4.out).mono ?_
  rintro e w5 ⟨v2, n2, L2, rfl, hp, h2⟩
  obtain ⟨m2, rfl⟩ : ∃ m, n2 = m + 1 := ⟨n2 - 1, by omega⟩
  obtain ⟨g2, c2, rfl, hd1, hd2, hg2, hbit2, hA2, _⟩ := h2.ob.last
  have hn2 : m2 + 1 ≤ 1060 := by have := h2.top; have := HL.out; omega
  have htop : m2 + 1 + 1 ≤ 60 + 5 * P.size := by have := h2.top; have := H1.out.top; have := HL.out; omega
  have H2 := Lib.hid (BdR.trans (m := 2000) H1.out (BdR.pre (below_drew _ _) h2) (.inr (by omega)))
  have O2 := Lib.hid (h2.ob.call ((Below.refl _ w5).alloc (Nat.le_refl _) (.cells #[.int .i64 (m2 : Int), .int .i64 (m1 : Int)] 3)))
  have HB5 : Hid (B ≤ w5.heap.size) := Nat.le_trans HB4.out h2.gl.grown.size
  generalize (L2 m2).A = A2 at *
  have PU := Lib.hid (put_refs (L := L2) ⟨#[115, 101, 113]⟩ A2 P Q T ⟨w5.heap.size, 0, none⟩ 2 2 _ _ O2.out (Nat.le_trans HB5.out (by simp)) (by omega) (by decide) hbit2 (by omega) (by omega) hts (by omega) (fun k hk => by split <;> omega) (ir_two w5 m2 m1))
  clear h2 hp hbit2 HBT IX O2
  have j0 : (0 : Int) ≤ (m2 : Int) := by omega
  have j1 : (m2 : Int) < (m2 : Int) + 1 := by omega
  go_wp2_with fail
  refine PU.out.mono ?_
  rintro e w6 ⟨v3, L3, rfl, h3⟩
  go_wp2_with fail
  go_ret
  exact ⟨_, _, _, rfl, by omega, BdR.pre (B3.out.trans (below_drew _ _)) (BdR.trans H2.out (BdR.pre ((Below.refl _ w5).alloc (Nat.le_refl _) _) h3) (.inr htop))⟩
end Go.Proofs.YtndlhdmpfnadcaaGreatDoor

/- The lines of the weakest triple of two programs: those of two ifs. -/
namespace Go.Proofs.YtndlhdmpfnadcaaGreatDoor
open Go.RowKit
open Pl
set_option linter.unusedVariables false

theorem below_da (w : World) (o : Obj) : Below w.heap.size w (w.drew.alloc o) := (below_drew _ _).trans ((Below.refl _ w.drew).alloc (Nat.le_refl _) o)
theorem base_le {w : World} {b b' : Nat} {e : TypeId} {size : Nat} {v : Value} {n : Nat} {xs : List Value} (h : w.ownsRow b e size v n xs) (hb : b' ≤ b) : w.ownsRow b' e size v n xs := by
  refine ⟨h.1, h.2.imp id ?_⟩
  rintro ⟨g, cap, cur, h1, h2, h3⟩
  exact ⟨g, cap, cur, h1, Nat.le_trans hb h2, h3⟩
/-- a relation -/
def BitP (w : World) (e : Ending) (w' : World) : Prop := ∃ S : ByteArray, bOk 729 S.data.toList = true ∧ e = .returned (.string S) ∧ Below w.heap.size w w'
theorem bitp_mk {w w' : World} {e : Ending} {f : Nat → Bool} {n : Nat} (hn : n = 729) (h : e = .returned (.string (bs (bitsN n f))) ∧ Below w.heap.size w w') : BitP w e w' :=
  ⟨_, by rw [bs_list, hn]; exact bits_ok _ _, h.1, h.2⟩
theorem not_bit {P : ByteArray} (h : bOk 729 P.data.toList = true) (w : World) : Calls Tryz.prog 39 #[.string P] w (BitP w) :=
  (l2Not_any P h (by have := okR_size h; omega) w).mono fun _ _ x => bitp_mk (okR_size h) x
theorem and_bitp {P Q : ByteArray} (h : bOk 729 P.data.toList = true) (k : bOk 729 Q.data.toList = true) (w : World) : Calls Tryz.prog 37 #[.string P, .string Q] w (BitP w) :=
  (l2And_any P Q ((okR_size h).trans (okR_size k).symm) (by have := okR_size h; omega) w).mono fun _ _ x => bitp_mk (okR_size h) x
theorem or_bitp {P Q : ByteArray} (h : bOk 729 P.data.toList = true) (k : bOk 729 Q.data.toList = true) (w : World) : Calls Tryz.prog 27 #[.string P, .string Q] w (BitP w) :=
  (l2Or_any P Q ((okR_size h).trans (okR_size k).symm) (by have := okR_size h; omega) w).mono fun _ _ x => bitp_mk (okR_size h) x
/-- a growing row of ints of the call's own -/
theorem zs_snoc (n : Nat) (z : Nat → Int) (x : Int) : zsL n z ++ [.int .i64 x] = zsL (n + 1) (fun k => if k = n then x else z k) := by
  unfold zsL iv
  rw [List.toList_toArray, List.toList_toArray, List.range_succ, List.map_append]
  congr 1
  · exact List.map_congr_left (fun j hj => by have := List.mem_range.1 hj; show _ = Value.int .i64 (if j = n then x else z j); rw [if_neg (by omega)])
  · simp
theorem int_new (W : World) (a : Int) (t : TypeId) : ∀ j u, [Value.int .i64 a][j]? = some u → (W.alloc (.cells #[.int .i64 a] t)).cell? ((⟨W.heap.size, 0, none⟩ : Addr).add j) = some u := by
  intro j u h
  have e : (⟨W.heap.size, 0, none⟩ : Addr).add j = ⟨W.heap.size, j, none⟩ := by unfold Addr.add; split <;> simp_all
  rw [e, (Blk.new W t #[.int .i64 a]).cell j]
  simpa using h
/-- what a round keeps -/
structure IfR (B : Nat) (w : World) (v : Value) (n : Nat) (L : Nat → LnD) (M i b5 ga ca gb cb : Nat) (x y x' y' : Nd) (W : World) (v' : Value) (n' : Nat) (L' : Nat → LnD) (vt : Value) (zs : Nat → Int) : Prop where
  bd : BdR B w v n L 2000 W v' n' L'
  le : n' ≤ M + i
  bw : w.heap.size ≤ b5
  b5s : b5 ≤ W.heap.size
  ra : W.ownsRow w.heap.size 9 1 (.slice (some ⟨ga, 0, none⟩) 2 ca) 2 ([x, y].map sv)
  va : AvL v' n' L' ga
  ga5 : ga < b5
  rb : W.ownsRow w.heap.size 9 1 (.slice (some ⟨gb, 0, none⟩) 2 cb) 2 ([x', y'].map sv)
  vb : AvL v' n' L' gb
  gb5 : gb < b5
  at_ : W.ownsRow b5 3 1 vt i (zsL i zs)
  avt : ∀ g, vt.ownBlock = some g → AvL v' n' L' g
  zs : ∀ k, k < i → 0 ≤ zs k ∧ zs k ≤ 100000
theorem IfR.call {B n M i b5 ga ca gb cb n' : Nat} {w W W' : World} {v v' vt : Value} {L L' : Nat → LnD} {x y x' y' : Nd} {zs : Nat → Int} (h : IfR B w v n L M i b5 ga ca gb cb x y x' y' W v' n' L' vt zs) (hb : Below W.heap.size W W') : IfR B w v n L M i b5 ga ca gb cb x y x' y' W' v' n' L' vt zs :=
  ⟨h.bd.call hb, h.le, h.bw, Nat.le_trans h.b5s hb.size, row_call h.ra hb, h.va, h.ga5, row_call h.rb hb, h.vb, h.gb5, row_call h.at_ hb, h.avt, h.zs⟩
/-- lines added -/
theorem IfR.bdr {B n M i b5 ga ca gb cb n' n2 m2 : Nat} {w W W' : World} {v v' v2 vt : Value} {L L' L2 : Nat → LnD} {x y x' y' : Nd} {zs : Nat → Int} (h : IfR B w v n L M i b5 ga ca gb cb x y x' y' W v' n' L' vt zs) (k : BdR B W v' n' L' m2 W' v2 n2 L2) (hm : n2 ≤ 2000) {M' : Nat} (hM : n2 ≤ M' + i) : IfR B w v n L M' i b5 ga ca gb cb x y x' y' W' v2 n2 L2 vt zs :=
  have ra := k.row h.ra (fun g e => by cases e; exact h.va)
  have rb := k.row h.rb (fun g e => by cases e; exact h.vb)
  have rt := k.row h.at_ h.avt
  ⟨h.bd.trans k (.inr hm), hM, h.bw, Nat.le_trans h.b5s k.gl.grown.size, ra.1, ra.2 _ rfl, h.ga5, rb.1, rb.2 _ rfl, h.gb5, rt.1, rt.2, h.zs⟩
/-- a number added to the row of ints -/
theorem IfR.put {B n M i b5 ga ca gb cb n' : Nat} {w W W' : World} {v v' vt vt' : Value} {L L' : Nat → LnD} {x y x' y' : Nd} {zs : Nat → Int} (h : IfR B w v n L (M + 1) i b5 ga ca gb cb x y x' y' W v' n' L' vt zs) (z : Nat) (hz : z ≤ 100000) (hown : W'.ownsRow b5 3 1 vt' (i + 1) (zsL i zs ++ [.int .i64 (z : Int)])) (hg : W.grownBy W' vt.ownBlock) (hat : vt'.ownBlock = vt.ownBlock ∨ vt'.ownBlock = some W.heap.size) : IfR B w v n L M (i + 1) b5 ga ca gb cb x y x' y' W' v' n' L' vt' (fun k => if k = i then (z : Int) else zs k) := by
  have hlow : ∀ g, vt.ownBlock = some g → b5 ≤ g := fun g e => (h.at_.lt g e).1
  refine ⟨h.bd.other hg h.avt (fun g e => Nat.le_trans h.bw (hlow g e)), by have := h.le; omega, h.bw, Nat.le_trans h.b5s hg.size, h.ra.kept hg (.inr ?_), h.va, h.ga5, h.rb.kept hg (.inr ?_), h.vb, h.gb5, by rw [← zs_snoc]; exact hown, fun g e => ?_, fun k hk => ?_⟩
  · intro e; have := hlow ga e.symm; have := h.ga5; omega
  · intro e; have := hlow gb e.symm; have := h.gb5; omega
  · rcases hat with e2 | e2
    · exact h.avt g (e2 ▸ e)
    · rw [e2] at e; cases e; exact h.bd.ob.new (Nat.le_refl _)
  · by_cases e : k = i
    · rw [if_pos e]; omega
    · rw [if_neg e]; exact h.zs k (by omega)
set_option maxRecDepth 100000 in
set_option maxHeartbeats 32000000 in
set_option pp.deepTerms true in
set_option pp.maxSteps 200000 in
theorem ifs_any (z : Nat) (ih : BdC z) (t x y t' x' y' : Nd) (P Q T : ByteArray) (B : Nat) (s : Option Addr) (n c : Nat) (L : Nat → LnD) (w : World) (hz : (Nd.n3 63 t x y).text.length ≤ z + 1) (hk : ok false 2 (.n3 63 t x y) = true) (ht : P.data.toList = (Nd.n3 63 t x y).text) (hP : P.size ≤ 200) (hj : ok false 2 (.n3 63 t' x' y') = true) (hu : Q.data.toList = (Nd.n3 63 t' x' y').text) (hQ : Q.size ≤ 200) (hT : bOk 729 T.data.toList = true) (hn : n ≤ 60) (hO : OB B w (.slice s n c) n L) (hB : B ≤ w.heap.size) :
    Calls Tryz.prog 47 #[.slice s n c, .string P, .string Q, .string T] w (BdPost B w (.slice s n c) n L (60 + 5 * P.size)) := by
  have hp1 : prt (Nd.n3 63 t x y) = [x, y] := rfl
  have hp2 : prt (Nd.n3 63 t' x' y') = [x', y'] := rfl
  have hh1 : headN (Nd.n3 63 t x y) = t.text := rfl
  have hh2 : headN (Nd.n3 63 t' x' y') = t'.text := rfl
  have PA := Lib.hid (fun w => partsS_any P (by omega) false _ hk ht w)
  have PB := Lib.hid (fun w => partsS_any Q (by omega) false _ hj hu w)
  have HA := Lib.hid (fun w => headTextS_any P (by omega) _ hk ht w)
  have HB' := Lib.hid (fun w => headTextS_any Q (by omega) _ hj hu w)
  rw [hp1] at PA
  rw [hp2] at PB
  rw [hh1] at HA
  rw [hh2] at HB'
  have hx : ok false 1 t = true ∧ ok false 2 x = true ∧ ok false 2 y = true := by simpa [ok] using hk
  have hx' : ok false 1 t' = true ∧ ok false 2 x' = true ∧ ok false 2 y' = true := by simpa [ok] using hj
  have hlen : t.text.length + x.text.length + y.text.length + 1 = P.size := by rw [← len_S, ht]; simp [Nd.text]; omega
  have hlen' : t'.text.length + x'.text.length + y'.text.length + 1 = Q.size := by rw [← len_S, hu]; simp [Nd.text]; omega
  have hz2 : x.text.length ≤ z ∧ y.text.length ≤ z := by simp [Nd.text] at hz; omega
  have hxp := text_pos x
  have hyp := text_pos y
  have htp := text_pos t
  have T1 := Lib.hid (fun w => l9Test_any (bs t.text) (by rw [bs_size]; omega) t hx.1 (bs_list _) false w)
  have T2 := Lib.hid (fun w => l9Test_any (bs t'.text) (by rw [bs_size]; omega) t' hx'.1 (bs_list _) true w)
  obtain ⟨M, hM⟩ : ∃ M, M = 45 + 5 * P.size := ⟨_, rfl⟩
  have I0 : Hid (∀ v n L w, n ≤ 2000 → OB B w v n L → B ≤ w.heap.size → Calls Tryz.prog 23 #[v, .string (bs x.text), .string (bs x'.text), .string T] w (BdPost B w v n L M)) := fun v n L w h4 h5 h6 =>
    (ih x x' (bs x.text) (bs x'.text) T B v n L w hz2.1 hx.2.1 (bs_list _) (by rw [bs_size]; omega) hx'.2.1 (bs_list _) (by rw [bs_size]; omega) hT h4 h5 h6).mono fun _ _ ⟨v', n', L', e, hp, hr⟩ => ⟨v', n', L', e, hp, hr.top_ (by have := hr.top; rw [bs_size] at this; omega)⟩
  have Z0a : 1 ≤ (bs x.text).size ∧ (bs x.text).size ≤ 200 := by rw [bs_size]; omega
  have Z0b : (bs x'.text).size ≤ 200 := by rw [bs_size]; omega
  have I1 : Hid (∀ v n L w, n ≤ 2000 → OB B w v n L → B ≤ w.heap.size → Calls Tryz.prog 23 #[v, .string (bs x.text), .string (bs y'.text), .string T] w (BdPost B w v n L M)) := fun v n L w h4 h5 h6 =>
    (ih x y' (bs x.text) (bs y'.text) T B v n L w hz2.1 hx.2.1 (bs_list _) (by rw [bs_size]; omega) hx'.2.2 (bs_list _) (by rw [bs_size]; omega) hT h4 h5 h6).mono fun _ _ ⟨v', n', L', e, hp, hr⟩ => ⟨v', n', L', e, hp, hr.top_ (by have := hr.top; rw [bs_size] at this; omega)⟩
  have Z1a : 1 ≤ (bs x.text).size ∧ (bs x.text).size ≤ 200 := by rw [bs_size]; omega
  have Z1b : (bs y'.text).size ≤ 200 := by rw [bs_size]; omega
  have I2 : Hid (∀ v n L w, n ≤ 2000 → OB B w v n L → B ≤ w.heap.size → Calls Tryz.prog 23 #[v, .string (bs y.text), .string (bs x'.text), .string T] w (BdPost B w v n L M)) := fun v n L w h4 h5 h6 =>
    (ih y x' (bs y.text) (bs x'.text) T B v n L w hz2.2 hx.2.2 (bs_list _) (by rw [bs_size]; omega) hx'.2.1 (bs_list _) (by rw [bs_size]; omega) hT h4 h5 h6).mono fun _ _ ⟨v', n', L', e, hp, hr⟩ => ⟨v', n', L', e, hp, hr.top_ (by have := hr.top; rw [bs_size] at this; omega)⟩
  have Z2a : 1 ≤ (bs y.text).size ∧ (bs y.text).size ≤ 200 := by rw [bs_size]; omega
  have Z2b : (bs x'.text).size ≤ 200 := by rw [bs_size]; omega
  have I3 : Hid (∀ v n L w, n ≤ 2000 → OB B w v n L → B ≤ w.heap.size → Calls Tryz.prog 23 #[v, .string (bs y.text), .string (bs y'.text), .string T] w (BdPost B w v n L M)) := fun v n L w h4 h5 h6 =>
    (ih y y' (bs y.text) (bs y'.text) T B v n L w hz2.2 hx.2.2 (bs_list _) (by rw [bs_size]; omega) hx'.2.2 (bs_list _) (by rw [bs_size]; omega) hT h4 h5 h6).mono fun _ _ ⟨v', n', L', e, hp, hr⟩ => ⟨v', n', L', e, hp, hr.top_ (by have := hr.top; rw [bs_size] at this; omega)⟩
  have Z3a : 1 ≤ (bs y.text).size ∧ (bs y.text).size ≤ 200 := by rw [bs_size]; omega
  have Z3b : (bs y'.text).size ≤ 200 := by rw [bs_size]; omega
  obtain ⟨i0, hi0, hz0, hz1, hz2'⟩ := info_parts infoI
  have J0 := Lib.hid hi0
  have J1 := Lib.hid hz0
  have J2 := Lib.hid hz1
  have J3 := Lib.hid hz2'
  clear hi0 hz0 hz1 hz2'
  have HT := Lib.hid hT
  have HO := Lib.hid hO
  have HB := Lib.hid hB
  have hts := bit_size hT
  have hP1 : 1 ≤ P.size := by omega
  have hMn : n ≤ M := by omega
  have hM2 : M ≤ 1045 := by omega
  clear hz hk ht hj hu hx hx' hz2 hT hO ih hlen hlen' hB hp1 hp2 hh1 hh2 hxp hyp htp
  go_enter Tryz.func47, Tryz.ntmps47
  go_wp2_with fail
  refine (PA.out _).mono ?_
  rintro e w1 ⟨va, rfl, hra, hb1⟩
  have HO1 := Lib.hid (HO.out.call hb1)
  have B1 := Lib.hid hb1
  have RA1 := Lib.hid hra
  clear hra hb1
  go_wp2_with fail
  refine (PB.out _).mono ?_
  rintro e w2 ⟨vb, rfl, hrb, hb2⟩
  have HO2 := Lib.hid (HO1.out.call hb2)
  have B2 := Lib.hid (below_2 B1.out hb2)
  obtain ⟨ga, ca, rfl, ha1, ha2, ha3, ha4, _, _⟩ := two_row (show w2.ownsRow _ _ 1 va 2 ([x, y].map sv) from row_call RA1.out hb2)
  obtain ⟨gb, cb, rfl, ha5, ha6, ha7, ha8, _, _⟩ := two_row (show w2.ownsRow _ _ 1 vb 2 ([x', y'].map sv) from hrb)
  have RA2 := Lib.hid (row_call RA1.out hb2)
  have RB2 := Lib.hid hrb
  have VA := Lib.hid (HO.out.new ha3)
  have VB := Lib.hid (HO1.out.new ha7)
  clear hrb hb2 PA PB RA1
  go_wp2_with fail
  refine (HA.out _).mono ?_
  rintro e w' ⟨rfl, m1, rfl⟩
  have HO3 := Lib.hid (HO2.out.call (below_drewN _ _ m1))
  have B3 := Lib.hid (B2.out.trans (below_drewN _ _ m1))
  have RA3 := Lib.hid (row_call RA2.out (below_drewN _ _ m1))
  have RB3 := Lib.hid (row_call RB2.out (below_drewN _ _ m1))
  have hge : w2.heap.size ≤ (w2.drewN m1).heap.size := Nat.le_refl _
  clear HO2 B2 RA2 RB2
  go_wp2_with fail
  refine (T1.out _).mono ?_
  rintro e w4 ⟨U1, hU1, rfl, hb4⟩
  have U1b := Lib.hid hU1
  have HO4 := Lib.hid (HO3.out.call hb4)
  have B4 := Lib.hid (below_2 B3.out hb4)
  have RA4 := Lib.hid (row_call RA3.out hb4)
  have RB4 := Lib.hid (row_call RB3.out hb4)
  have hge4 : w2.heap.size ≤ w4.heap.size := Nat.le_trans hge hb4.size
  clear HO3 B3 RA3 RB3 hb4 hge hU1
  go_wp2_with fail
  refine (HB'.out _).mono ?_
  rintro e w' ⟨rfl, m2, rfl⟩
  have HO5 := Lib.hid (HO4.out.call (below_drewN _ _ m2))
  have B5 := Lib.hid (B4.out.trans (below_drewN _ _ m2))
  have RA5 := Lib.hid (row_call RA4.out (below_drewN _ _ m2))
  have RB5 := Lib.hid (row_call RB4.out (below_drewN _ _ m2))
  have hge5 : w2.heap.size ≤ (w4.drewN m2).heap.size := hge4
  clear HO4 B4 RA4 RB4 hge4
  go_wp2_with fail
  refine (T2.out _).mono ?_
  rintro e w6 ⟨U2, hU2, rfl, hb6⟩
  have U2b := Lib.hid hU2
  have HO6 := Lib.hid (HO5.out.call hb6)
  have B6 := Lib.hid (below_2 B5.out hb6)
  have RA6 := Lib.hid (row_call RA5.out hb6)
  have RB6 := Lib.hid (row_call RB5.out hb6)
  have hge6 : w2.heap.size ≤ w6.heap.size := Nat.le_trans hge5 hb6.size
  clear HO5 B5 RA5 RB5 hb6 hge5 hU2 T1 T2 HA HB'
  go_wp2_with fail
  refine (many_noughts _).mono ?_
  rintro e w' ⟨Z0, hZ0, rfl, rfl⟩
  have Z0b := Lib.hid hZ0
  have hal : Below w6.heap.size w6 (w6.alloc (.cells #[] 3)) := (Below.refl _ w6).alloc (Nat.le_refl _) _
  have IF0 : Hid (IfR B w (.slice s n c) n L M 0 w6.heap.size ga ca gb cb x y x' y' (w6.alloc (.cells #[] 3)) (.slice s n c) n L (.slice (some ⟨w6.heap.size, 0, none⟩) 0 0) (fun _ => 0)) :=
    ⟨BdR.pre (B6.out.trans (hal.mono B6.out.size)) (BdR.refl (HO6.out.call hal)), by omega, B6.out.size, by simp, row_call (base_le RA6.out (Nat.le_refl _)) hal, VA.out, by omega, row_call (base_le RB6.out B1.out.size) hal, VB.out, by omega, World.ownsRow_made w6 #[] 0 (Nat.le_refl _) (by simp [maxLen]) rfl, fun g e => by cases e; exact HO6.out.new (Nat.le_refl _), fun k hk => absurd hk (by omega)⟩
  clear hZ0 hal HO6 RA6 RB6 VA VB HO HO1
  go_wp2_with fail
  go_loopg [0, 13, 14, 15] 4 (fun gk s0 s13 s14 s15 wr => ∃ (i : Nat) (n' : Nat) (L' : Nat → LnD) (Z : ByteArray) (zs : Nat → Int) (v' vt : Value), i + gk = 4 ∧ v' = s0 ∧ vt = s14 ∧ s15 = .int .i64 i ∧ s13 = .string Z ∧ Hid (bOk 729 Z.data.toList = true) ∧ Hid (IfR B w (.slice s n c) n L M i w6.heap.size ga ca gb cb x y x' y' wr v' n' L' vt zs))
  case atStart => exact ⟨0, n, L, Z0, _, _, _, rfl, rfl, rfl, rfl, rfl, Z0b, IF0⟩
  case round =>
    clear IF0 Z0b
    obtain ⟨i, n', L', Z, zs, v', vt, hi, rfl, rfl, rfl, rfl, Zb, IF⟩ := hrel
    by_cases hlt : i < 4
    · have h4 : i = 0 ∨ i = 1 ∨ i = 2 ∨ i = 3 := by omega
      rcases h4 with rfl | rfl | rfl | rfl
      · have hle := IF.out.le
        go_wp2_with fail
        refine (and_bitp U1b.out U2b.out _).mono ?_
        rintro e wa1 ⟨G2, hG2, rfl, hb1⟩
        have G2b := Lib.hid hG2
        have IF1 := Lib.hid (IF.out.call hb1)
        clear hG2 hb1 IF
        obtain ⟨ax, _⟩ := two_cell IF1.out.ra
        obtain ⟨bx, _⟩ := two_cell IF1.out.rb
        have q1 : (0 : Int).tdiv 2 = 0 := by decide
        have q2 : (0 : Int).tmod 2 = 0 := by decide
        have q3 : IntKind.i64.wrap ((0 : Int).tdiv 2) = 0 := by kernel_rfl
        have q4 : IntKind.i64.wrap ((0 : Int).tmod 2) = 0 := by kernel_rfl
        have q5 : IntKind.i64.wrap 0 = 0 := by kernel_rfl
        have q6 : IntKind.i64.wrap 1 = 1 := by kernel_rfl
        go_wp2_with fail
        go_still_tail 12, (by kernel_rfl)
        clear ax bx
        go_wp2_with fail
        have IFd := Lib.hid (IF1.out.call (below_drew _ _))
        clear IF1
        refine (I0.out _ n' L' _ (by omega) IFd.out.bd.ob (Nat.le_trans (Nat.le_trans HB.out IFd.out.bw) IFd.out.b5s)).mono ?_
        rintro e wc ⟨v1, n1, L1, rfl, hp, h1⟩
        have IFe := Lib.hid (IFd.out.bdr h1 (by have := h1.top; omega) (M' := M) (by have := h1.top; omega))
        have ht1 := h1.top
        clear h1 IFd
        obtain ⟨m1, rfl⟩ : ∃ m, n1 = m + 1 := ⟨n1 - 1, by omega⟩
        obtain ⟨g1, c1, rfl, hd1, hd2, hg1, hbt, hA, hR, hP', hQ', hB', hS'⟩ := IFe.out.bd.ob.last
        have hm1 : m1 + 1 ≤ M + 0 := IFe.out.le
        have j0 : (0 : Int) ≤ (m1 : Int) := by omega
        have j1 : (m1 : Int) < (m1 : Int) + 1 := by omega
        have HBt := Lib.hid hbt
        clear hbt ht1
        generalize (L1 m1).A = A1 at *
        generalize (L1 m1).R = R1 at *
        generalize (L1 m1).P = P1 at *
        generalize (L1 m1).Q = Q1 at *
        generalize (L1 m1).B = E1 at *
        generalize (L1 m1).s = s1 at *
        generalize (L1 m1).n = k1 at *
        generalize (L1 m1).c = l1 at *
        go_wp2_with fail
        refine (and_bitp HBt.out G2b.out _).mono ?_
        rintro e wd ⟨S2, hS2, rfl, hbd⟩
        have S2b := Lib.hid hS2
        have IFf := Lib.hid ((IFe.out.call ((Below.refl _ wc).alloc (Nat.le_refl _) _)).call hbd)
        clear IFe hS2 hbd hA hR hP' hQ' hB' hS' HBt
        obtain ⟨ax, _⟩ := two_cell IFf.out.ra
        obtain ⟨bx, _⟩ := two_cell IFf.out.rb
        have q7 : IntKind.i64.wrap ((m1 : Int) + 1 - 1) = (m1 : Int) := by rw [show (m1 : Int) + 1 - 1 = m1 by omega]; exact i64_id _ (by omega) (by omega)
        have q8 : (m1 : Int) + 1 - 1 = (m1 : Int) := by omega
        have q9 : IntKind.i64.wrap (m1 : Int) = (m1 : Int) := i64_id _ (by omega) (by omega)
        have IFe1 := Lib.hid (IFf.out.call (below_drew _ _))
        have IFe2 := Lib.hid (IFf.out.call ((Below.refl _ wd).alloc (Nat.le_refl _) (.cells #[.int .i64 (m1 : Int)] 3)))
        have IFg := Lib.hid (IFe2.out.call (below_drew _ _))
        have PU := Lib.hid (put_refs (L := L1) ⟨#[119, 101, 97, 107]⟩ S2 (bs x.text) (bs x'.text) T ⟨wd.heap.size, 0, none⟩ 1 1 _ _ IFg.out.bd.ob (Nat.le_trans (Nat.le_trans HB.out IFg.out.bw) IFg.out.b5s) (by omega) (by decide) S2b.out (by omega) (by omega) hts (by omega) (fun k hk => by omega) ((ir_one wd m1).call (below_drew _ _)))
        go_wp2_with fail
        go_region_held3 (fun W => W.cell? ⟨ga, 0, none⟩ = some (.string (bs x.text)) ∧ W.cell? ⟨gb, 0, none⟩ = some (.string (bs x'.text))) (first | with_reducible exact ⟨ax, bx⟩ | with_reducible exact ⟨(two_cell IFe1.out.ra).1, (two_cell IFe1.out.rb).1⟩ | with_reducible exact ⟨(two_cell IFe2.out.ra).1, (two_cell IFe2.out.rb).1⟩ | with_reducible exact ⟨(two_cell IFg.out.ra).1, (two_cell IFg.out.rb).1⟩ | exact ⟨(two_cell IFh.out.ra).1, (two_cell IFh.out.rb).1⟩) ((first | (go_at_call 40; refine PU.out.mono ?_; rintro e wf ⟨v3, L3, rfl, h3⟩; have IFh := Lib.hid (IFg.out.bdr h3 (by omega) (M' := M + 1) (by omega)))))
        clear ax bx IFf IFe1 IFe2
        clear h3 IFg PU q7 q8 q9 j0 j1
        obtain ⟨g3, c3, rfl, hd3, hd4, hg3, _, _, _⟩ := IFh.out.bd.ob.last
        have IFi := Lib.hid (IFh.out.call ((Below.refl _ wf).alloc (Nat.le_refl _) (.cells #[.int .i64 ((m1 : Int) + 1)] 3)))
        clear IFh
        go_wp2_with (at_builtin
                     refine wpList_append_own_at _ rfl (.tmp 91) (.tmp 95) 26 rfl w6.heap.size 3 i0 _ 1 8 Tryz.underlying26 J0.out J1.out J2.out J3.out rfl (by decide) vt 0 (zsL 0 zs) rfl IFi.out.at_ ⟨wf.heap.size, 0, none⟩ 1 1 [.int .i64 ((m1 : Int) + 1)] rfl rfl (int_new wf _ _) (by intro u hu; simp at hu; subst hu; rfl) (by simp only [maxLen]; omega) (by omega) IFi.out.b5s ?_
                     intro vt2 wg hown hgr _ hat)
        rw [show ((m1 : Int) + 1) = ((m1 + 1 : Nat) : Int) by omega] at hown
        have IFj := Lib.hid (IFi.out.put (m1 + 1) (by omega) hown hgr hat)
        clear IFi hown hgr hat
        refine (or_bitp Zb.out S2b.out _).mono ?_
        rintro e wh ⟨Z2, hZ2, rfl, hbh⟩
        have Z2b := Lib.hid hZ2
        have IFk := Lib.hid (IFj.out.call hbh)
        clear IFj hZ2 hbh
        go_wp2_with fail
        go_roundg (gk - 1)
        case measure => omega
        case rel => exact ⟨0 + 1, _, _, Z2, _, _, _, by omega, rfl, rfl, by go_num, rfl, Z2b, IFk⟩
      · have hle := IF.out.le
        go_wp2_with fail
        refine (not_bit U2b.out _).mono ?_
        rintro e wa1 ⟨N2, hN2, rfl, hb1⟩
        have N2b := Lib.hid hN2
        have IF1 := Lib.hid (IF.out.call hb1)
        clear hN2 hb1 IF
        go_wp2_with fail
        refine (and_bitp U1b.out N2b.out _).mono ?_
        rintro e wa2 ⟨G2, hG2, rfl, hb2⟩
        have G2b := Lib.hid hG2
        have IF2 := Lib.hid (IF1.out.call hb2)
        clear hG2 hb2 IF1
        obtain ⟨ax, _⟩ := two_cell IF2.out.ra
        obtain ⟨_, bx⟩ := two_cell IF2.out.rb
        have q1 : (1 : Int).tdiv 2 = 0 := by decide
        have q2 : (1 : Int).tmod 2 = 1 := by decide
        have q3 : IntKind.i64.wrap ((1 : Int).tdiv 2) = 0 := by kernel_rfl
        have q4 : IntKind.i64.wrap ((1 : Int).tmod 2) = 1 := by kernel_rfl
        have q5 : IntKind.i64.wrap 0 = 0 := by kernel_rfl
        have q6 : IntKind.i64.wrap 1 = 1 := by kernel_rfl
        go_wp2_with fail
        go_still_tail 12, (by kernel_rfl)
        clear ax bx
        go_wp2_with fail
        have IFd := Lib.hid (IF2.out.call (below_drew _ _))
        clear IF2
        refine (I1.out _ n' L' _ (by omega) IFd.out.bd.ob (Nat.le_trans (Nat.le_trans HB.out IFd.out.bw) IFd.out.b5s)).mono ?_
        rintro e wc ⟨v1, n1, L1, rfl, hp, h1⟩
        have IFe := Lib.hid (IFd.out.bdr h1 (by have := h1.top; omega) (M' := M) (by have := h1.top; omega))
        have ht1 := h1.top
        clear h1 IFd
        obtain ⟨m1, rfl⟩ : ∃ m, n1 = m + 1 := ⟨n1 - 1, by omega⟩
        obtain ⟨g1, c1, rfl, hd1, hd2, hg1, hbt, hA, hR, hP', hQ', hB', hS'⟩ := IFe.out.bd.ob.last
        have hm1 : m1 + 1 ≤ M + 1 := IFe.out.le
        have j0 : (0 : Int) ≤ (m1 : Int) := by omega
        have j1 : (m1 : Int) < (m1 : Int) + 1 := by omega
        have HBt := Lib.hid hbt
        clear hbt ht1
        generalize (L1 m1).A = A1 at *
        generalize (L1 m1).R = R1 at *
        generalize (L1 m1).P = P1 at *
        generalize (L1 m1).Q = Q1 at *
        generalize (L1 m1).B = E1 at *
        generalize (L1 m1).s = s1 at *
        generalize (L1 m1).n = k1 at *
        generalize (L1 m1).c = l1 at *
        go_wp2_with fail
        refine (and_bitp HBt.out G2b.out _).mono ?_
        rintro e wd ⟨S2, hS2, rfl, hbd⟩
        have S2b := Lib.hid hS2
        have IFf := Lib.hid ((IFe.out.call ((Below.refl _ wc).alloc (Nat.le_refl _) _)).call hbd)
        clear IFe hS2 hbd hA hR hP' hQ' hB' hS' HBt
        obtain ⟨ax, _⟩ := two_cell IFf.out.ra
        obtain ⟨_, bx⟩ := two_cell IFf.out.rb
        have q7 : IntKind.i64.wrap ((m1 : Int) + 1 - 1) = (m1 : Int) := by rw [show (m1 : Int) + 1 - 1 = m1 by omega]; exact i64_id _ (by omega) (by omega)
        have q8 : (m1 : Int) + 1 - 1 = (m1 : Int) := by omega
        have q9 : IntKind.i64.wrap (m1 : Int) = (m1 : Int) := i64_id _ (by omega) (by omega)
        have IFe1 := Lib.hid (IFf.out.call (below_drew _ _))
        have IFe2 := Lib.hid (IFf.out.call ((Below.refl _ wd).alloc (Nat.le_refl _) (.cells #[.int .i64 (m1 : Int)] 3)))
        have IFg := Lib.hid (IFe2.out.call (below_drew _ _))
        have PU := Lib.hid (put_refs (L := L1) ⟨#[119, 101, 97, 107]⟩ S2 (bs x.text) (bs y'.text) T ⟨wd.heap.size, 0, none⟩ 1 1 _ _ IFg.out.bd.ob (Nat.le_trans (Nat.le_trans HB.out IFg.out.bw) IFg.out.b5s) (by omega) (by decide) S2b.out (by omega) (by omega) hts (by omega) (fun k hk => by omega) ((ir_one wd m1).call (below_drew _ _)))
        go_wp2_with fail
        go_region_held3 (fun W => W.cell? ⟨ga, 0, none⟩ = some (.string (bs x.text)) ∧ W.cell? ⟨gb, 1, none⟩ = some (.string (bs y'.text))) (first | with_reducible exact ⟨ax, bx⟩ | with_reducible exact ⟨(two_cell IFe1.out.ra).1, (two_cell IFe1.out.rb).2⟩ | with_reducible exact ⟨(two_cell IFe2.out.ra).1, (two_cell IFe2.out.rb).2⟩ | with_reducible exact ⟨(two_cell IFg.out.ra).1, (two_cell IFg.out.rb).2⟩ | exact ⟨(two_cell IFh.out.ra).1, (two_cell IFh.out.rb).2⟩) ((first | (go_at_call 40; refine PU.out.mono ?_; rintro e wf ⟨v3, L3, rfl, h3⟩; have IFh := Lib.hid (IFg.out.bdr h3 (by omega) (M' := M + 1) (by omega)))))
        clear ax bx IFf IFe1 IFe2
        clear h3 IFg PU q7 q8 q9 j0 j1
        obtain ⟨g3, c3, rfl, hd3, hd4, hg3, _, _, _⟩ := IFh.out.bd.ob.last
        have IFi := Lib.hid (IFh.out.call ((Below.refl _ wf).alloc (Nat.le_refl _) (.cells #[.int .i64 ((m1 : Int) + 1)] 3)))
        clear IFh
        go_wp2_with (at_builtin
                     refine wpList_append_own_at _ rfl (.tmp 91) (.tmp 95) 26 rfl w6.heap.size 3 i0 _ 1 8 Tryz.underlying26 J0.out J1.out J2.out J3.out rfl (by decide) vt 1 (zsL 1 zs) rfl IFi.out.at_ ⟨wf.heap.size, 0, none⟩ 1 1 [.int .i64 ((m1 : Int) + 1)] rfl rfl (int_new wf _ _) (by intro u hu; simp at hu; subst hu; rfl) (by simp only [maxLen]; omega) (by omega) IFi.out.b5s ?_
                     intro vt2 wg hown hgr _ hat)
        rw [show ((m1 : Int) + 1) = ((m1 + 1 : Nat) : Int) by omega] at hown
        have IFj := Lib.hid (IFi.out.put (m1 + 1) (by omega) hown hgr hat)
        clear IFi hown hgr hat
        refine (or_bitp Zb.out S2b.out _).mono ?_
        rintro e wh ⟨Z2, hZ2, rfl, hbh⟩
        have Z2b := Lib.hid hZ2
        have IFk := Lib.hid (IFj.out.call hbh)
        clear IFj hZ2 hbh
        go_wp2_with fail
        go_roundg (gk - 1)
        case measure => omega
        case rel => exact ⟨1 + 1, _, _, Z2, _, _, _, by omega, rfl, rfl, by go_num, rfl, Z2b, IFk⟩
      · have hle := IF.out.le
        go_wp2_with fail
        refine (not_bit U1b.out _).mono ?_
        rintro e wa1 ⟨G1, hG1, rfl, hb1⟩
        have G1b := Lib.hid hG1
        have IF1 := Lib.hid (IF.out.call hb1)
        clear hG1 hb1 IF
        go_wp2_with fail
        refine (and_bitp G1b.out U2b.out _).mono ?_
        rintro e wa2 ⟨G2, hG2, rfl, hb2⟩
        have G2b := Lib.hid hG2
        have IF2 := Lib.hid (IF1.out.call hb2)
        clear hG2 hb2 IF1
        obtain ⟨_, ax⟩ := two_cell IF2.out.ra
        obtain ⟨bx, _⟩ := two_cell IF2.out.rb
        have q1 : (2 : Int).tdiv 2 = 1 := by decide
        have q2 : (2 : Int).tmod 2 = 0 := by decide
        have q3 : IntKind.i64.wrap ((2 : Int).tdiv 2) = 1 := by kernel_rfl
        have q4 : IntKind.i64.wrap ((2 : Int).tmod 2) = 0 := by kernel_rfl
        have q5 : IntKind.i64.wrap 0 = 0 := by kernel_rfl
        have q6 : IntKind.i64.wrap 1 = 1 := by kernel_rfl
        go_wp2_with fail
        go_still_tail 12, (by kernel_rfl)
        clear ax bx
        go_wp2_with fail
        have IFd := Lib.hid (IF2.out.call (below_drew _ _))
        clear IF2
        refine (I2.out _ n' L' _ (by omega) IFd.out.bd.ob (Nat.le_trans (Nat.le_trans HB.out IFd.out.bw) IFd.out.b5s)).mono ?_
        rintro e wc ⟨v1, n1, L1, rfl, hp, h1⟩
        have IFe := Lib.hid (IFd.out.bdr h1 (by have := h1.top; omega) (M' := M) (by have := h1.top; omega))
        have ht1 := h1.top
        clear h1 IFd
        obtain ⟨m1, rfl⟩ : ∃ m, n1 = m + 1 := ⟨n1 - 1, by omega⟩
        obtain ⟨g1, c1, rfl, hd1, hd2, hg1, hbt, hA, hR, hP', hQ', hB', hS'⟩ := IFe.out.bd.ob.last
        have hm1 : m1 + 1 ≤ M + 2 := IFe.out.le
        have j0 : (0 : Int) ≤ (m1 : Int) := by omega
        have j1 : (m1 : Int) < (m1 : Int) + 1 := by omega
        have HBt := Lib.hid hbt
        clear hbt ht1
        generalize (L1 m1).A = A1 at *
        generalize (L1 m1).R = R1 at *
        generalize (L1 m1).P = P1 at *
        generalize (L1 m1).Q = Q1 at *
        generalize (L1 m1).B = E1 at *
        generalize (L1 m1).s = s1 at *
        generalize (L1 m1).n = k1 at *
        generalize (L1 m1).c = l1 at *
        go_wp2_with fail
        refine (and_bitp HBt.out G2b.out _).mono ?_
        rintro e wd ⟨S2, hS2, rfl, hbd⟩
        have S2b := Lib.hid hS2
        have IFf := Lib.hid ((IFe.out.call ((Below.refl _ wc).alloc (Nat.le_refl _) _)).call hbd)
        clear IFe hS2 hbd hA hR hP' hQ' hB' hS' HBt
        obtain ⟨_, ax⟩ := two_cell IFf.out.ra
        obtain ⟨bx, _⟩ := two_cell IFf.out.rb
        have q7 : IntKind.i64.wrap ((m1 : Int) + 1 - 1) = (m1 : Int) := by rw [show (m1 : Int) + 1 - 1 = m1 by omega]; exact i64_id _ (by omega) (by omega)
        have q8 : (m1 : Int) + 1 - 1 = (m1 : Int) := by omega
        have q9 : IntKind.i64.wrap (m1 : Int) = (m1 : Int) := i64_id _ (by omega) (by omega)
        have IFe1 := Lib.hid (IFf.out.call (below_drew _ _))
        have IFe2 := Lib.hid (IFf.out.call ((Below.refl _ wd).alloc (Nat.le_refl _) (.cells #[.int .i64 (m1 : Int)] 3)))
        have IFg := Lib.hid (IFe2.out.call (below_drew _ _))
        have PU := Lib.hid (put_refs (L := L1) ⟨#[119, 101, 97, 107]⟩ S2 (bs y.text) (bs x'.text) T ⟨wd.heap.size, 0, none⟩ 1 1 _ _ IFg.out.bd.ob (Nat.le_trans (Nat.le_trans HB.out IFg.out.bw) IFg.out.b5s) (by omega) (by decide) S2b.out (by omega) (by omega) hts (by omega) (fun k hk => by omega) ((ir_one wd m1).call (below_drew _ _)))
        go_wp2_with fail
        go_region_held3 (fun W => W.cell? ⟨ga, 1, none⟩ = some (.string (bs y.text)) ∧ W.cell? ⟨gb, 0, none⟩ = some (.string (bs x'.text))) (first | with_reducible exact ⟨ax, bx⟩ | with_reducible exact ⟨(two_cell IFe1.out.ra).2, (two_cell IFe1.out.rb).1⟩ | with_reducible exact ⟨(two_cell IFe2.out.ra).2, (two_cell IFe2.out.rb).1⟩ | with_reducible exact ⟨(two_cell IFg.out.ra).2, (two_cell IFg.out.rb).1⟩ | exact ⟨(two_cell IFh.out.ra).2, (two_cell IFh.out.rb).1⟩) ((first | (go_at_call 40; refine PU.out.mono ?_; rintro e wf ⟨v3, L3, rfl, h3⟩; have IFh := Lib.hid (IFg.out.bdr h3 (by omega) (M' := M + 1) (by omega)))))
        clear ax bx IFf IFe1 IFe2
        clear h3 IFg PU q7 q8 q9 j0 j1
        obtain ⟨g3, c3, rfl, hd3, hd4, hg3, _, _, _⟩ := IFh.out.bd.ob.last
        have IFi := Lib.hid (IFh.out.call ((Below.refl _ wf).alloc (Nat.le_refl _) (.cells #[.int .i64 ((m1 : Int) + 1)] 3)))
        clear IFh
        go_wp2_with (at_builtin
                     refine wpList_append_own_at _ rfl (.tmp 91) (.tmp 95) 26 rfl w6.heap.size 3 i0 _ 1 8 Tryz.underlying26 J0.out J1.out J2.out J3.out rfl (by decide) vt 2 (zsL 2 zs) rfl IFi.out.at_ ⟨wf.heap.size, 0, none⟩ 1 1 [.int .i64 ((m1 : Int) + 1)] rfl rfl (int_new wf _ _) (by intro u hu; simp at hu; subst hu; rfl) (by simp only [maxLen]; omega) (by omega) IFi.out.b5s ?_
                     intro vt2 wg hown hgr _ hat)
        rw [show ((m1 : Int) + 1) = ((m1 + 1 : Nat) : Int) by omega] at hown
        have IFj := Lib.hid (IFi.out.put (m1 + 1) (by omega) hown hgr hat)
        clear IFi hown hgr hat
        refine (or_bitp Zb.out S2b.out _).mono ?_
        rintro e wh ⟨Z2, hZ2, rfl, hbh⟩
        have Z2b := Lib.hid hZ2
        have IFk := Lib.hid (IFj.out.call hbh)
        clear IFj hZ2 hbh
        go_wp2_with fail
        go_roundg (gk - 1)
        case measure => omega
        case rel => exact ⟨2 + 1, _, _, Z2, _, _, _, by omega, rfl, rfl, by go_num, rfl, Z2b, IFk⟩
      · have hle := IF.out.le
        go_wp2_with fail
        refine (not_bit U1b.out _).mono ?_
        rintro e wa1 ⟨G1, hG1, rfl, hb1⟩
        have G1b := Lib.hid hG1
        have IF1 := Lib.hid (IF.out.call hb1)
        clear hG1 hb1 IF
        go_wp2_with fail
        refine (not_bit U2b.out _).mono ?_
        rintro e wa2 ⟨N2, hN2, rfl, hb2⟩
        have N2b := Lib.hid hN2
        have IF2 := Lib.hid (IF1.out.call hb2)
        clear hN2 hb2 IF1
        go_wp2_with fail
        refine (and_bitp G1b.out N2b.out _).mono ?_
        rintro e wa3 ⟨G2, hG2, rfl, hb3⟩
        have G2b := Lib.hid hG2
        have IF3 := Lib.hid (IF2.out.call hb3)
        clear hG2 hb3 IF2
        obtain ⟨_, ax⟩ := two_cell IF3.out.ra
        obtain ⟨_, bx⟩ := two_cell IF3.out.rb
        have q1 : (3 : Int).tdiv 2 = 1 := by decide
        have q2 : (3 : Int).tmod 2 = 1 := by decide
        have q3 : IntKind.i64.wrap ((3 : Int).tdiv 2) = 1 := by kernel_rfl
        have q4 : IntKind.i64.wrap ((3 : Int).tmod 2) = 1 := by kernel_rfl
        have q5 : IntKind.i64.wrap 0 = 0 := by kernel_rfl
        have q6 : IntKind.i64.wrap 1 = 1 := by kernel_rfl
        go_wp2_with fail
        go_still_tail 12, (by kernel_rfl)
        clear ax bx
        go_wp2_with fail
        have IFd := Lib.hid (IF3.out.call (below_drew _ _))
        clear IF3
        refine (I3.out _ n' L' _ (by omega) IFd.out.bd.ob (Nat.le_trans (Nat.le_trans HB.out IFd.out.bw) IFd.out.b5s)).mono ?_
        rintro e wc ⟨v1, n1, L1, rfl, hp, h1⟩
        have IFe := Lib.hid (IFd.out.bdr h1 (by have := h1.top; omega) (M' := M) (by have := h1.top; omega))
        have ht1 := h1.top
        clear h1 IFd
        obtain ⟨m1, rfl⟩ : ∃ m, n1 = m + 1 := ⟨n1 - 1, by omega⟩
        obtain ⟨g1, c1, rfl, hd1, hd2, hg1, hbt, hA, hR, hP', hQ', hB', hS'⟩ := IFe.out.bd.ob.last
        have hm1 : m1 + 1 ≤ M + 3 := IFe.out.le
        have j0 : (0 : Int) ≤ (m1 : Int) := by omega
        have j1 : (m1 : Int) < (m1 : Int) + 1 := by omega
        have HBt := Lib.hid hbt
        clear hbt ht1
        generalize (L1 m1).A = A1 at *
        generalize (L1 m1).R = R1 at *
        generalize (L1 m1).P = P1 at *
        generalize (L1 m1).Q = Q1 at *
        generalize (L1 m1).B = E1 at *
        generalize (L1 m1).s = s1 at *
        generalize (L1 m1).n = k1 at *
        generalize (L1 m1).c = l1 at *
        go_wp2_with fail
        refine (and_bitp HBt.out G2b.out _).mono ?_
        rintro e wd ⟨S2, hS2, rfl, hbd⟩
        have S2b := Lib.hid hS2
        have IFf := Lib.hid ((IFe.out.call ((Below.refl _ wc).alloc (Nat.le_refl _) _)).call hbd)
        clear IFe hS2 hbd hA hR hP' hQ' hB' hS' HBt
        obtain ⟨_, ax⟩ := two_cell IFf.out.ra
        obtain ⟨_, bx⟩ := two_cell IFf.out.rb
        have q7 : IntKind.i64.wrap ((m1 : Int) + 1 - 1) = (m1 : Int) := by rw [show (m1 : Int) + 1 - 1 = m1 by omega]; exact i64_id _ (by omega) (by omega)
        have q8 : (m1 : Int) + 1 - 1 = (m1 : Int) := by omega
        have q9 : IntKind.i64.wrap (m1 : Int) = (m1 : Int) := i64_id _ (by omega) (by omega)
        have IFe1 := Lib.hid (IFf.out.call (below_drew _ _))
        have IFe2 := Lib.hid (IFf.out.call ((Below.refl _ wd).alloc (Nat.le_refl _) (.cells #[.int .i64 (m1 : Int)] 3)))
        have IFg := Lib.hid (IFe2.out.call (below_drew _ _))
        have PU := Lib.hid (put_refs (L := L1) ⟨#[119, 101, 97, 107]⟩ S2 (bs y.text) (bs y'.text) T ⟨wd.heap.size, 0, none⟩ 1 1 _ _ IFg.out.bd.ob (Nat.le_trans (Nat.le_trans HB.out IFg.out.bw) IFg.out.b5s) (by omega) (by decide) S2b.out (by omega) (by omega) hts (by omega) (fun k hk => by omega) ((ir_one wd m1).call (below_drew _ _)))
        go_wp2_with fail
        go_region_held3 (fun W => W.cell? ⟨ga, 1, none⟩ = some (.string (bs y.text)) ∧ W.cell? ⟨gb, 1, none⟩ = some (.string (bs y'.text))) (first | with_reducible exact ⟨ax, bx⟩ | with_reducible exact ⟨(two_cell IFe1.out.ra).2, (two_cell IFe1.out.rb).2⟩ | with_reducible exact ⟨(two_cell IFe2.out.ra).2, (two_cell IFe2.out.rb).2⟩ | with_reducible exact ⟨(two_cell IFg.out.ra).2, (two_cell IFg.out.rb).2⟩ | exact ⟨(two_cell IFh.out.ra).2, (two_cell IFh.out.rb).2⟩) ((first | (go_at_call 40; refine PU.out.mono ?_; rintro e wf ⟨v3, L3, rfl, h3⟩; have IFh := Lib.hid (IFg.out.bdr h3 (by omega) (M' := M + 1) (by omega)))))
        clear ax bx IFf IFe1 IFe2
        clear h3 IFg PU q7 q8 q9 j0 j1
        obtain ⟨g3, c3, rfl, hd3, hd4, hg3, _, _, _⟩ := IFh.out.bd.ob.last
        have IFi := Lib.hid (IFh.out.call ((Below.refl _ wf).alloc (Nat.le_refl _) (.cells #[.int .i64 ((m1 : Int) + 1)] 3)))
        clear IFh
        go_wp2_with (at_builtin
                     refine wpList_append_own_at _ rfl (.tmp 91) (.tmp 95) 26 rfl w6.heap.size 3 i0 _ 1 8 Tryz.underlying26 J0.out J1.out J2.out J3.out rfl (by decide) vt 3 (zsL 3 zs) rfl IFi.out.at_ ⟨wf.heap.size, 0, none⟩ 1 1 [.int .i64 ((m1 : Int) + 1)] rfl rfl (int_new wf _ _) (by intro u hu; simp at hu; subst hu; rfl) (by simp only [maxLen]; omega) (by omega) IFi.out.b5s ?_
                     intro vt2 wg hown hgr _ hat)
        rw [show ((m1 : Int) + 1) = ((m1 + 1 : Nat) : Int) by omega] at hown
        have IFj := Lib.hid (IFi.out.put (m1 + 1) (by omega) hown hgr hat)
        clear IFi hown hgr hat
        refine (or_bitp Zb.out S2b.out _).mono ?_
        rintro e wh ⟨Z2, hZ2, rfl, hbh⟩
        have Z2b := Lib.hid hZ2
        have IFk := Lib.hid (IFj.out.call hbh)
        clear IFj hZ2 hbh
        go_wp2_with fail
        go_roundg (gk - 1)
        case measure => omega
        case rel => exact ⟨3 + 1, _, _, Z2, _, _, _, by omega, rfl, rfl, by go_num, rfl, Z2b, IFk⟩
    · obtain rfl : i = 4 := by omega
      obtain ⟨s4, c4, rfl, hc4, hc5, hir, hf4, _⟩ := own_ir IF.out.at_
      rcases hir with h | ⟨b4, o4, rfl, hlt4, hcl⟩
      · omega
      have hle := IF.out.le
      have PU := Lib.hid (put_refs (L := L') ⟨#[105, 102]⟩ Z P Q T ⟨b4, o4, none⟩ 4 c4 zs wr IF.out.bd.ob (Nat.le_trans (Nat.le_trans HB.out IF.out.bw) IF.out.b5s) (by omega) (by decide) Zb.out (by omega) (by omega) hts (by omega) IF.out.zs (.inr ⟨b4, o4, rfl, hlt4, hcl⟩))
      have BD := Lib.hid IF.out.bd
      clear IF hcl hf4
      go_wp2_with fail
      refine PU.out.mono ?_
      rintro e w9 ⟨v9, L9, rfl, h9⟩
      go_wp2_with fail
      go_ret
      exact ⟨_, _, _, rfl, by omega, BD.out.trans h9 (.inr (by omega))⟩
end Go.Proofs.YtndlhdmpfnadcaaGreatDoor

/- The lines of the weakest triple of two programs: all of them. -/
namespace Go.Proofs.YtndlhdmpfnadcaaGreatDoor
open Go.RowKit
open Pl
set_option linter.unusedVariables false

theorem byte_at {k : Nd} {P : ByteArray} (ht : P.data.toList = k.text) (h1 : 1 ≤ P.size) {c : UInt8} (h : k.text[0]? = some c) : P[0]'h1 = c := by
  have h2 : P.data.toList[0]? = some c := by rw [ht]; exact h
  have h3 : 0 < P.data.toList.length := by rw [len_S]; omega
  rw [List.getElem?_eq_getElem h3] at h2
  exact Option.some.inj h2
/-- a program by its first letter -/
theorem seq_of {k : Nd} (hk : ok false 2 k = true) (h : k.text[0]? = some 59) : ∃ x y, k = .n2 59 x y := by
  cases k with
  | n0 c => simp [ok] at hk; subst hk; simp [Nd.text] at h
  | n1 o a => simp [ok] at hk; obtain ⟨rfl, _⟩ := hk; simp [Nd.text] at h
  | n2 o a b => simp [Nd.text] at h; subst h; exact ⟨a, b, rfl⟩
  | n3 o a b c => simp [ok] at hk; obtain ⟨rfl, _⟩ := hk; simp [Nd.text] at h
theorem if_of {k : Nd} (hk : ok false 2 k = true) (h : k.text[0]? = some 63) : ∃ t x y, k = .n3 63 t x y := by
  cases k with
  | n0 c => simp [ok] at hk; subst hk; simp [Nd.text] at h
  | n1 o a => simp [ok] at hk; obtain ⟨rfl, _⟩ := hk; simp [Nd.text] at h
  | n2 o a b =>
    simp [Nd.text] at h
    subst h
    simp [ok] at hk
  | n3 o a b c => simp [Nd.text] at h; subst h; exact ⟨a, b, c, rfl⟩
set_option maxHeartbeats 4000000 in
theorem build_full (P Q T : ByteArray) (B : Nat) (s : Option Addr) (n c m : Nat) (L : Nat → LnD) (w : World) (hn : ¬ n ≤ 60) (hn2 : n ≤ 2000) (hO : OB B w (.slice s n c) n L) :
    Calls Tryz.prog 23 #[.slice s n c, .string P, .string Q, .string T] w (BdPost B w (.slice s n c) n L m) := by
  have HO := Lib.hid hO
  have hbig : (60 : Int) < (n : Int) := by omega
  clear hO
  go_enter Tryz.func23, Tryz.ntmps23
  go_wp2_with fail
  go_ret
  exact ⟨_, _, _, rfl, by omega, BdR.refl HO.out⟩
set_option maxRecDepth 100000 in
set_option maxHeartbeats 8000000 in
theorem build_set (k j : Nd) (P Q T : ByteArray) (B : Nat) (s : Option Addr) (n c : Nat) (L : Nat → LnD) (w : World) (hk : ok false 2 k = true) (ht : P.data.toList = k.text) (hP : P.size ≤ 200) (hj : ok false 2 j = true) (hu : Q.data.toList = j.text) (hQ : Q.size ≤ 200) (hT : bOk 729 T.data.toList = true) (hn : n ≤ 60) (hO : OB B w (.slice s n c) n L) (hB : B ≤ w.heap.size) (hP1 : 1 ≤ P.size) (hQ1 : 1 ≤ Q.size) (hs1 : (P[0] == 115 || P[0] == 97) = true) (hs2 : (Q[0] == 115 || Q[0] == 97) = true) :
    Calls Tryz.prog 23 #[.slice s n c, .string P, .string Q, .string T] w (BdPost B w (.slice s n c) n L (60 + 5 * P.size)) := by
  have PF := Lib.hid (fun w => PairFree_any P Q T (isSome_of hk ht hP) (isSome_of hj hu hQ) hT w)
  have SP := Lib.hid (fun w => l9Small_any P hP1 w)
  have SQ := Lib.hid (fun w => l9Small_any Q hQ1 w)
  have HO := Lib.hid hO
  have HB := Lib.hid hB
  have hbig := big_ne hn
  have hts := bit_size hT
  obtain ⟨p0, hp0⟩ : ∃ x, P[0] = x := ⟨_, rfl⟩
  obtain ⟨q0, hq0⟩ : ∃ x, Q[0] = x := ⟨_, rfl⟩
  rw [hs1] at SP
  rw [hs2] at SQ
  clear hs1 hs2
  clear hk ht hj hu hT hO hB
  go_enter Tryz.func23, Tryz.ntmps23
  go_wp2_with fail
  refine (PF.out _).mono ?_
  rintro e w1 ⟨S1, hS1, rfl, hb1⟩
  have O1 := Lib.hid (HO.out.call hb1)
  have B1 := Lib.hid hb1
  have PU := Lib.hid (put_nil (L := L) ⟨#[115, 101, 116]⟩ S1 P Q T w1 O1.out (Nat.le_trans HB.out hb1.size) (by omega) (by decide) hS1 (by omega) (by omega) hts)
  clear hb1 hS1
  go_wp2_with fail
  refine (SP.out _).mono ?_
  rintro e w' ⟨rfl, rfl⟩
  go_wp2_with fail
  refine (SQ.out _).mono ?_
  rintro e w' ⟨rfl, rfl⟩
  go_wp2_with fail
  refine PU.out.mono ?_
  rintro e w2 ⟨v2, L2, rfl, h2⟩
  go_wp2_with fail
  go_ret
  exact ⟨_, _, _, rfl, by omega, (BdR.pre B1.out h2).top_ (.inr (by omega))⟩
set_option maxRecDepth 100000 in
set_option maxHeartbeats 8000000 in
theorem build_run1 (k j : Nd) (P Q T : ByteArray) (B : Nat) (s : Option Addr) (n c : Nat) (L : Nat → LnD) (w : World) (hk : ok false 2 k = true) (ht : P.data.toList = k.text) (hP : P.size ≤ 200) (hj : ok false 2 j = true) (hu : Q.data.toList = j.text) (hQ : Q.size ≤ 200) (hT : bOk 729 T.data.toList = true) (hn : n ≤ 60) (hO : OB B w (.slice s n c) n L) (hB : B ≤ w.heap.size) (hP1 : 1 ≤ P.size) (hQ1 : 1 ≤ Q.size) (hs1 : (P[0] == 115 || P[0] == 97) = true) (hs2 : (Q[0] == 115 || Q[0] == 97) = false) :
    Calls Tryz.prog 23 #[.slice s n c, .string P, .string Q, .string T] w (BdPost B w (.slice s n c) n L (60 + 5 * P.size)) := by
  have PF := Lib.hid (fun w => PairFree_any P Q T (isSome_of hk ht hP) (isSome_of hj hu hQ) hT w)
  have SP := Lib.hid (fun w => l9Small_any P hP1 w)
  have SQ := Lib.hid (fun w => l9Small_any Q hQ1 w)
  have HO := Lib.hid hO
  have HB := Lib.hid hB
  have hbig := big_ne hn
  have hts := bit_size hT
  obtain ⟨p0, hp0⟩ : ∃ x, P[0] = x := ⟨_, rfl⟩
  obtain ⟨q0, hq0⟩ : ∃ x, Q[0] = x := ⟨_, rfl⟩
  rw [hs1] at SP
  rw [hs2] at SQ
  have x1 : ¬ p0 = 59 := by rw [← hp0]; intro e; rw [e] at hs1; revert hs1; decide
  have x2 : ¬ p0 = 63 := by rw [← hp0]; intro e; rw [e] at hs1; revert hs1; decide
  have e1 := u8_ne 59 (show ¬ p0 = 59 from x1) (by decide)
  simp only [Int.cast_ofNat_Int] at e1
  have e2 := u8_ne 63 (show ¬ p0 = 63 from x2) (by decide)
  simp only [Int.cast_ofNat_Int] at e2
  clear hs1 hs2 x1 x2
  clear hk ht hj hu hT hO hB
  go_enter Tryz.func23, Tryz.ntmps23
  go_wp2_with fail
  refine (PF.out _).mono ?_
  rintro e w1 ⟨S1, hS1, rfl, hb1⟩
  have O1 := Lib.hid (HO.out.call hb1)
  have B1 := Lib.hid hb1
  have PU := Lib.hid (put_nil (L := L) ⟨#[114, 117, 110]⟩ S1 P Q T w1 O1.out (Nat.le_trans HB.out hb1.size) (by omega) (by decide) hS1 (by omega) (by omega) hts)
  clear hb1 hS1
  go_wp2_with fail
  refine (SP.out _).mono ?_
  rintro e w' ⟨rfl, rfl⟩
  go_wp2_with fail
  refine (SQ.out _).mono ?_
  rintro e w' ⟨rfl, rfl⟩
  go_wp2_with fail
  refine PU.out.mono ?_
  rintro e w2 ⟨v2, L2, rfl, h2⟩
  go_wp2_with fail
  go_ret
  exact ⟨_, _, _, rfl, by omega, (BdR.pre B1.out h2).top_ (.inr (by omega))⟩
set_option maxRecDepth 100000 in
set_option maxHeartbeats 8000000 in
theorem build_run2 (k j : Nd) (P Q T : ByteArray) (B : Nat) (s : Option Addr) (n c : Nat) (L : Nat → LnD) (w : World) (hk : ok false 2 k = true) (ht : P.data.toList = k.text) (hP : P.size ≤ 200) (hj : ok false 2 j = true) (hu : Q.data.toList = j.text) (hQ : Q.size ≤ 200) (hT : bOk 729 T.data.toList = true) (hn : n ≤ 60) (hO : OB B w (.slice s n c) n L) (hB : B ≤ w.heap.size) (hP1 : 1 ≤ P.size) (hQ1 : 1 ≤ Q.size) (hs1 : (P[0] == 115 || P[0] == 97) = false) (h1 : P[0] = 59) (h2 : ¬ Q[0] = 59) :
    Calls Tryz.prog 23 #[.slice s n c, .string P, .string Q, .string T] w (BdPost B w (.slice s n c) n L (60 + 5 * P.size)) := by
  have PF := Lib.hid (fun w => PairFree_any P Q T (isSome_of hk ht hP) (isSome_of hj hu hQ) hT w)
  have SP := Lib.hid (fun w => l9Small_any P hP1 w)
  have SQ := Lib.hid (fun w => l9Small_any Q hQ1 w)
  have HO := Lib.hid hO
  have HB := Lib.hid hB
  have hbig := big_ne hn
  have hts := bit_size hT
  obtain ⟨p0, hp0⟩ : ∃ x, P[0] = x := ⟨_, rfl⟩
  obtain ⟨q0, hq0⟩ : ∃ x, Q[0] = x := ⟨_, rfl⟩
  rw [hs1] at SP
  rw [h1] at hp0
  subst hp0
  have x1 : ¬ q0 = 59 := by rw [← hq0]; exact h2
  have e1 := u8_ne 59 (show ¬ q0 = 59 from x1) (by decide)
  simp only [Int.cast_ofNat_Int] at e1
  clear hs1 h2 x1
  clear hk ht hj hu hT hO hB
  go_enter Tryz.func23, Tryz.ntmps23
  go_wp2_with fail
  refine (PF.out _).mono ?_
  rintro e w1 ⟨S1, hS1, rfl, hb1⟩
  have O1 := Lib.hid (HO.out.call hb1)
  have B1 := Lib.hid hb1
  have PU := Lib.hid (put_nil (L := L) ⟨#[114, 117, 110]⟩ S1 P Q T w1 O1.out (Nat.le_trans HB.out hb1.size) (by omega) (by decide) hS1 (by omega) (by omega) hts)
  clear hb1 hS1
  go_wp2_with fail
  refine (SP.out _).mono ?_
  rintro e w' ⟨rfl, rfl⟩
  go_wp2_with fail
  refine PU.out.mono ?_
  rintro e w2 ⟨v2, L2, rfl, h2⟩
  go_wp2_with fail
  go_ret
  exact ⟨_, _, _, rfl, by omega, (BdR.pre B1.out h2).top_ (.inr (by omega))⟩
set_option maxRecDepth 100000 in
set_option maxHeartbeats 8000000 in
theorem build_run3 (k j : Nd) (P Q T : ByteArray) (B : Nat) (s : Option Addr) (n c : Nat) (L : Nat → LnD) (w : World) (hk : ok false 2 k = true) (ht : P.data.toList = k.text) (hP : P.size ≤ 200) (hj : ok false 2 j = true) (hu : Q.data.toList = j.text) (hQ : Q.size ≤ 200) (hT : bOk 729 T.data.toList = true) (hn : n ≤ 60) (hO : OB B w (.slice s n c) n L) (hB : B ≤ w.heap.size) (hP1 : 1 ≤ P.size) (hQ1 : 1 ≤ Q.size) (hs1 : (P[0] == 115 || P[0] == 97) = false) (h1 : P[0] = 63) (h2 : ¬ Q[0] = 63) :
    Calls Tryz.prog 23 #[.slice s n c, .string P, .string Q, .string T] w (BdPost B w (.slice s n c) n L (60 + 5 * P.size)) := by
  have PF := Lib.hid (fun w => PairFree_any P Q T (isSome_of hk ht hP) (isSome_of hj hu hQ) hT w)
  have SP := Lib.hid (fun w => l9Small_any P hP1 w)
  have SQ := Lib.hid (fun w => l9Small_any Q hQ1 w)
  have HO := Lib.hid hO
  have HB := Lib.hid hB
  have hbig := big_ne hn
  have hts := bit_size hT
  obtain ⟨p0, hp0⟩ : ∃ x, P[0] = x := ⟨_, rfl⟩
  obtain ⟨q0, hq0⟩ : ∃ x, Q[0] = x := ⟨_, rfl⟩
  rw [hs1] at SP
  rw [h1] at hp0
  subst hp0
  have x1 : ¬ q0 = 63 := by rw [← hq0]; exact h2
  have e1 := u8_ne 63 (show ¬ q0 = 63 from x1) (by decide)
  simp only [Int.cast_ofNat_Int] at e1
  clear hs1 h2 x1
  clear hk ht hj hu hT hO hB
  go_enter Tryz.func23, Tryz.ntmps23
  go_wp2_with fail
  refine (PF.out _).mono ?_
  rintro e w1 ⟨S1, hS1, rfl, hb1⟩
  have O1 := Lib.hid (HO.out.call hb1)
  have B1 := Lib.hid hb1
  have PU := Lib.hid (put_nil (L := L) ⟨#[114, 117, 110]⟩ S1 P Q T w1 O1.out (Nat.le_trans HB.out hb1.size) (by omega) (by decide) hS1 (by omega) (by omega) hts)
  clear hb1 hS1
  go_wp2_with fail
  refine (SP.out _).mono ?_
  rintro e w' ⟨rfl, rfl⟩
  go_wp2_with fail
  refine PU.out.mono ?_
  rintro e w2 ⟨v2, L2, rfl, h2⟩
  go_wp2_with fail
  go_ret
  exact ⟨_, _, _, rfl, by omega, (BdR.pre B1.out h2).top_ (.inr (by omega))⟩
set_option maxRecDepth 100000 in
set_option maxHeartbeats 8000000 in
theorem build_run4 (k j : Nd) (P Q T : ByteArray) (B : Nat) (s : Option Addr) (n c : Nat) (L : Nat → LnD) (w : World) (hk : ok false 2 k = true) (ht : P.data.toList = k.text) (hP : P.size ≤ 200) (hj : ok false 2 j = true) (hu : Q.data.toList = j.text) (hQ : Q.size ≤ 200) (hT : bOk 729 T.data.toList = true) (hn : n ≤ 60) (hO : OB B w (.slice s n c) n L) (hB : B ≤ w.heap.size) (hP1 : 1 ≤ P.size) (hQ1 : 1 ≤ Q.size) (hs1 : (P[0] == 115 || P[0] == 97) = false) (h1 : ¬ P[0] = 59) (h2 : ¬ P[0] = 63) :
    Calls Tryz.prog 23 #[.slice s n c, .string P, .string Q, .string T] w (BdPost B w (.slice s n c) n L (60 + 5 * P.size)) := by
  have PF := Lib.hid (fun w => PairFree_any P Q T (isSome_of hk ht hP) (isSome_of hj hu hQ) hT w)
  have SP := Lib.hid (fun w => l9Small_any P hP1 w)
  have SQ := Lib.hid (fun w => l9Small_any Q hQ1 w)
  have HO := Lib.hid hO
  have HB := Lib.hid hB
  have hbig := big_ne hn
  have hts := bit_size hT
  obtain ⟨p0, hp0⟩ : ∃ x, P[0] = x := ⟨_, rfl⟩
  obtain ⟨q0, hq0⟩ : ∃ x, Q[0] = x := ⟨_, rfl⟩
  rw [hs1] at SP
  have x1 : ¬ p0 = 59 := by rw [← hp0]; exact h1
  have x2 : ¬ p0 = 63 := by rw [← hp0]; exact h2
  have e1 := u8_ne 59 (show ¬ p0 = 59 from x1) (by decide)
  simp only [Int.cast_ofNat_Int] at e1
  have e2 := u8_ne 63 (show ¬ p0 = 63 from x2) (by decide)
  simp only [Int.cast_ofNat_Int] at e2
  clear hs1 h1 h2 x1 x2
  clear hk ht hj hu hT hO hB
  go_enter Tryz.func23, Tryz.ntmps23
  go_wp2_with fail
  refine (PF.out _).mono ?_
  rintro e w1 ⟨S1, hS1, rfl, hb1⟩
  have O1 := Lib.hid (HO.out.call hb1)
  have B1 := Lib.hid hb1
  have PU := Lib.hid (put_nil (L := L) ⟨#[114, 117, 110]⟩ S1 P Q T w1 O1.out (Nat.le_trans HB.out hb1.size) (by omega) (by decide) hS1 (by omega) (by omega) hts)
  clear hb1 hS1
  go_wp2_with fail
  refine (SP.out _).mono ?_
  rintro e w' ⟨rfl, rfl⟩
  go_wp2_with fail
  refine PU.out.mono ?_
  rintro e w2 ⟨v2, L2, rfl, h2⟩
  go_wp2_with fail
  go_ret
  exact ⟨_, _, _, rfl, by omega, (BdR.pre B1.out h2).top_ (.inr (by omega))⟩
set_option maxRecDepth 100000 in
set_option maxHeartbeats 8000000 in
theorem build_if (z : Nat) (ih : BdC z) (t x y t' x' y' : Nd) (P Q T : ByteArray) (B : Nat) (s : Option Addr) (n c : Nat) (L : Nat → LnD) (w : World) (hz : (Nd.n3 63 t x y).text.length ≤ z + 1) (hk : ok false 2 (.n3 63 t x y) = true) (ht : P.data.toList = (Nd.n3 63 t x y).text) (hP : P.size ≤ 200) (hj : ok false 2 (.n3 63 t' x' y') = true) (hu : Q.data.toList = (Nd.n3 63 t' x' y').text) (hQ : Q.size ≤ 200) (hT : bOk 729 T.data.toList = true) (hn : n ≤ 60) (hO : OB B w (.slice s n c) n L) (hB : B ≤ w.heap.size) (hP1 : 1 ≤ P.size) (hQ1 : 1 ≤ Q.size) (p0 : P[0] = 63) (q0 : Q[0] = 63) :
    Calls Tryz.prog 23 #[.slice s n c, .string P, .string Q, .string T] w (BdPost B w (.slice s n c) n L (60 + 5 * P.size)) := by
  have PF := Lib.hid (fun w => PairFree_any P Q T (isSome_of hk ht hP) (isSome_of hj hu hQ) hT w)
  have SP := Lib.hid (fun w => by have := l9Small_any P hP1 w; rw [p0] at this; exact this)
  have IFS := Lib.hid (fun w a b => ifs_any z ih t x y t' x' y' P Q T B s n c L w hz hk ht hP hj hu hQ hT hn a b)
  have HO := Lib.hid hO
  have HB := Lib.hid hB
  have hbig := big_ne hn
  clear hz hk ht hj hu hT hO hB ih
  go_enter Tryz.func23, Tryz.ntmps23
  go_wp2_with fail
  refine (PF.out _).mono ?_
  rintro e w1 ⟨S1, hS1, rfl, hb1⟩
  have IC := Lib.hid (IFS.out w1 (HO.out.call hb1) (Nat.le_trans HB.out hb1.size))
  have B1 := Lib.hid hb1
  clear hb1 hS1 IFS
  go_wp2_with fail
  refine (SP.out _).mono ?_
  rintro e w' ⟨rfl, rfl⟩
  go_wp2_with fail
  refine IC.out.mono ?_
  rintro e w2 ⟨v2, n2, L2, rfl, hp, h2⟩
  go_wp2_with fail
  go_ret
  exact ⟨_, _, _, rfl, hp, BdR.pre B1.out h2⟩
theorem l9Build_all : ∀ z, BdC z := by
  intro z
  induction z with
  | zero => intro k j P Q T B v n L w h; have := text_pos k; omega
  | succ z ih =>
    intro k j P Q T B v n L w hz hk ht hP hj hu hQ hT hn2 hO hB
    obtain ⟨s, c, rfl, _⟩ := hO.ol.form
    by_cases hn : n ≤ 60
    · have hP1 : 1 ≤ P.size := by have := text_pos k; rw [← len_S, ht]; omega
      have hQ1 : 1 ≤ Q.size := by have := text_pos j; rw [← len_S, hu]; omega
      have hpk : k.text[0]? = some P[0] := by
        rw [← ht, List.getElem?_eq_getElem (by rw [len_S]; omega)]; rfl
      have hqj : j.text[0]? = some Q[0] := by
        rw [← hu, List.getElem?_eq_getElem (by rw [len_S]; omega)]; rfl
      cases hs1 : (P[0] == 115 || P[0] == 97)
      · by_cases h1 : P[0] = 59
        · by_cases h2 : Q[0] = 59
          · rw [h1] at hpk
            rw [h2] at hqj
            obtain ⟨x, y, rfl⟩ := seq_of hk hpk
            obtain ⟨x', y', rfl⟩ := seq_of hj hqj
            exact build_seq z ih x y x' y' P Q T B s n c L w hz hk ht hP hj hu hQ hT hn hO hB
          · exact build_run2 k j P Q T B s n c L w hk ht hP hj hu hQ hT hn hO hB hP1 hQ1 hs1 h1 h2
        · by_cases h2 : P[0] = 63
          · by_cases h3 : Q[0] = 63
            · have hpk' := hpk
              have hqj' := hqj
              rw [h2] at hpk'
              rw [h3] at hqj'
              obtain ⟨t, x, y, rfl⟩ := if_of hk hpk'
              obtain ⟨t', x', y', rfl⟩ := if_of hj hqj'
              exact build_if z ih t x y t' x' y' P Q T B s n c L w hz hk ht hP hj hu hQ hT hn hO hB hP1 hQ1 h2 h3
            · exact build_run3 k j P Q T B s n c L w hk ht hP hj hu hQ hT hn hO hB hP1 hQ1 hs1 h2 h3
          · exact build_run4 k j P Q T B s n c L w hk ht hP hj hu hQ hT hn hO hB hP1 hQ1 hs1 h1 h2
      · cases hs2 : (Q[0] == 115 || Q[0] == 97)
        · exact build_run1 k j P Q T B s n c L w hk ht hP hj hu hQ hT hn hO hB hP1 hQ1 hs1 hs2
        · exact build_set k j P Q T B s n c L w hk ht hP hj hu hQ hT hn hO hB hP1 hQ1 hs1 hs2
    · exact build_full P Q T B s n c _ L w hn hn2 hO
end Go.Proofs.YtndlhdmpfnadcaaGreatDoor
