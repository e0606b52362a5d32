/- Lists of lines that grow; the reference's l9Put. -/
import Derived.Test.YtndlhdmpfnadcaaGreatDoorGm
import Derived.Test.YtndlhdmpfnadcaaGreatDoorHd
import Derived.Maps.AppendAt
import Derived.Laws.AppendOwnNone
namespace Go.Proofs.YtndlhdmpfnadcaaGreatDoor
open Go.RowKit
open Pl
set_option linter.unusedVariables false

/-- nothing that was there has turned but the list's own row, and that lies where it lay, or in a new block -/
structure GL (W : World) (v : Value) (W' : World) (v' : Value) : Prop where
  grown : W.grownBy W' v.ownBlock
  lies : v'.ownBlock = v.ownBlock ∨ ∃ g, v'.ownBlock = some g ∧ W.heap.size ≤ g
theorem GL.refl (W : World) (v : Value) : GL W v W v := ⟨World.grownBy.refl _ _, .inl rfl⟩
theorem GL.trans {W W1 W2 : World} {v v1 v2 : Value} (h : GL W v W1 v1) (k : GL W1 v1 W2 v2) : GL W v W2 v2 := by
  refine ⟨⟨k.grown.os.trans h.grown.os, k.grown.tape.trans h.grown.tape, k.grown.output.trans h.grown.output, Nat.le_trans h.grown.size k.grown.size, fun i hi hne => ?_⟩, ?_⟩
  · refine (k.grown.block i (Nat.lt_of_lt_of_le hi h.grown.size) (fun e => ?_)).trans (h.grown.block i hi hne)
    rcases h.lies with h | ⟨g, h, hg⟩
    · exact hne (e.trans h)
    · rw [h] at e; cases e; omega
  · rcases k.lies with k | ⟨g, k, hg⟩
    · rcases h.lies with h | ⟨g, h, hg⟩
      · exact .inl (k.trans h)
      · exact .inr ⟨g, k.trans h, hg⟩
    · exact .inr ⟨g, k, Nat.le_trans h.grown.size hg⟩
theorem GL.call {W W1 W2 : World} {v v1 : Value} (h : GL W v W1 v1) (hb : Below W1.heap.size W1 W2) : GL W v W2 v1 := h.trans ⟨grown_of_below hb v1.ownBlock, .inl rfl⟩
theorem GL.pre {W W1 W2 : World} {v v2 : Value} (hb : Below W.heap.size W W1) (h : GL W1 v W2 v2) : GL W v W2 v2 :=
  (GL.trans ⟨grown_of_below hb v.ownBlock, .inl rfl⟩ h)
theorem GL.below {W W1 : World} {v v1 : Value} {B : Nat} (h : GL W v W1 v1) (hB : B ≤ W.heap.size) (hv : ∀ g, v.ownBlock = some g → B ≤ g) : Below B W W1 :=
  (Below.refl B W).grown h.grown hB hv
theorem GL.blk {W W1 : World} {v v1 : Value} {g : Nat} {t : TypeId} {cs : Array Value} (h : GL W v W1 v1) (hk : Blk W g t cs) (hne : v.ownBlock ≠ some g) : Blk W1 g t cs :=
  (h.grown.block g hk.lt (fun e => hne e.symm)).trans hk
theorem GL.row {W W1 : World} {v v1 u : Value} {base size n : Nat} {e : TypeId} {xs : List Value} (h : GL W v W1 v1) (hk : W.ownsRow base e size u n xs) (hne : ∀ g, u.ownBlock = some g → v.ownBlock ≠ some g) : W1.ownsRow base e size u n xs := by
  refine hk.kept h.grown ?_
  cases hu : u.ownBlock with
  | none => simp
  | some g => have := hne g hu; simpa [eq_comm] using this

def lvL (n : Nat) (L : Nat → LnD) : List Value := (lvA n L).toList
theorem lvL_len (n : Nat) (L : Nat → LnD) : (lvL n L).length = n * 6 := by simp [lvL, lvA]
theorem lvL_get {n : Nat} (L : Nat → LnD) {i k : Nat} (hi : i < n) (hk : k < 6) : (lvL n L)[i * 6 + k]? = some (fldV (L i) k) := by
  rw [lvL, Array.getElem?_toList]; exact lvA_cell L hi hk
def newL (x : LnD) : List Value := [.string x.R, .string x.A, .string x.P, .string x.Q, .string x.B, .slice x.s x.n x.c]
theorem lvL_congr {n : Nat} {L M : Nat → LnD} (h : ∀ i, i < n → L i = M i) : lvL n L = lvL n M := by
  unfold lvL lvA
  rw [List.toList_toArray, List.toList_toArray]
  exact List.map_congr_left (fun j hj => by rw [h (j / 6) (by have := List.mem_range.1 hj; omega)])
theorem lvL_snoc (n : Nat) (L : Nat → LnD) (x : LnD) : lvL n L ++ newL x = lvL (n + 1) (updL L n x) := by
  rw [lvL_congr (M := updL L n x) (fun i hi => by simp [updL, show i ≠ n by omega])]
  have hx : updL L n x n = x := if_pos rfl
  generalize updL L n x = M at *
  unfold lvL lvA
  rw [List.toList_toArray, List.toList_toArray, show (n + 1) * 6 = n * 6 + 1 + 1 + 1 + 1 + 1 + 1 by omega]
  simp only [List.range_succ, List.map_append, List.map_cons, List.map_nil, List.append_assoc, List.cons_append, List.nil_append]
  rw [show (n * 6) / 6 = n by omega, show (n * 6) % 6 = 0 by omega, show (n * 6 + 1) / 6 = n by omega, show (n * 6 + 1) % 6 = 1 by omega, show (n * 6 + 1 + 1) / 6 = n by omega, show (n * 6 + 1 + 1) % 6 = 2 by omega, show (n * 6 + 1 + 1 + 1) / 6 = n by omega, show (n * 6 + 1 + 1 + 1) % 6 = 3 by omega, show (n * 6 + 1 + 1 + 1 + 1) / 6 = n by omega, show (n * 6 + 1 + 1 + 1 + 1) % 6 = 4 by omega, show (n * 6 + 1 + 1 + 1 + 1 + 1) / 6 = n by omega, show (n * 6 + 1 + 1 + 1 + 1 + 1) % 6 = 5 by omega, hx]
  rfl

/-- a line of a list whose row lies at o -/
structure GdL (W : World) (o : Option Nat) (x : LnD) : Prop where
  szR : x.R.size ≤ 1000 ∧ x.R.data.toList.all (fun c => c != 32 && c != 44) = true
  szA : x.A.size ≤ 1000
  szP : x.P.size ≤ 1000
  szQ : x.Q.size ≤ 1000
  szB : x.B.size ≤ 1000
  szn : x.n ≤ 1000
  cap : x.n ≤ x.c
  nil : x.s = none → x.c = 0
  z : ∀ k, k < x.n → -9223372036854775808 ≤ x.z k ∧ x.z k ≤ 9223372036854775807
  ir : IR W x.s x.n x.z
  far : ∀ a, x.s = some a → a.block < W.heap.size ∧ o ≠ some a.block
theorem IR.grown {W W' : World} {row : Option Nat} {s : Option Addr} {n : Nat} {z : Nat → Int} (h : IR W s n z) (hg : W.grownBy W' row) (hne : ∀ a, s = some a → row ≠ some a.block) : IR W' s n z := by
  rcases h with h | ⟨b, off, rfl, hlt, hc⟩
  · exact .inl h
  · exact .inr ⟨b, off, rfl, Nat.lt_of_lt_of_le hlt hg.size, fun i hi => hg.cell (hc i hi) (fun e => hne _ rfl e.symm)⟩
theorem GdL.grown {W W' : World} {v v' : Value} {x : LnD} (h : GdL W v.ownBlock x) (hg : GL W v W' v') : GdL W' v'.ownBlock x := by
  refine ⟨h.szR, h.szA, h.szP, h.szQ, h.szB, h.szn, h.cap, h.nil, h.z, h.ir.grown hg.grown (fun a ha => (h.far a ha).2), fun a ha => ⟨Nat.lt_of_lt_of_le (h.far a ha).1 hg.grown.size, ?_⟩⟩
  obtain ⟨h1, h2⟩ := h.far a ha
  rcases hg.lies with e | ⟨g, e, hge⟩
  · rw [e]; exact h2
  · rw [e]; intro e2; cases e2; omega
/-- a list of lines, its row made from block B on -/
structure OL (B : Nat) (W : World) (v : Value) (n : Nat) (L : Nat → LnD) : Prop where
  own : W.ownsRow B 28 6 v n (lvL n L)
  ln : ∀ i, i < n → GdL W v.ownBlock (L i)
theorem OL.nil (B : Nat) (W : World) (L : Nat → LnD) : OL B W (.slice none 0 0) 0 L := ⟨World.ownsRow_nil _ _ _ _, fun i hi => absurd hi (by omega)⟩
theorem OL.made (B : Nat) (W : World) (L : Nat → LnD) (hB : B ≤ W.heap.size) : OL B (W.alloc (.cells #[] 28)) (.slice (some ⟨W.heap.size, 0, none⟩) 0 0) 0 L :=
  ⟨World.ownsRow_made W #[] 0 hB (by simp [maxLen]) rfl, fun i hi => absurd hi (by omega)⟩
theorem OL.call {B : Nat} {W W' : World} {v : Value} {n : Nat} {L : Nat → LnD} (h : OL B W v n L) (hb : Below W.heap.size W W') : OL B W' v n L :=
  ⟨row_call h.own hb, fun i hi => (h.ln i hi).grown ⟨grown_of_below hb _, .inl rfl⟩⟩
theorem OL.ge {B : Nat} {W : World} {v : Value} {n : Nat} {L : Nat → LnD} (h : OL B W v n L) : ∀ g, v.ownBlock = some g → B ≤ g := fun g e => (h.own.lt g e).1
theorem OL.lt {B : Nat} {W : World} {v : Value} {n : Nat} {L : Nat → LnD} (h : OL B W v n L) : ∀ g, v.ownBlock = some g → g < W.heap.size := fun g e => (h.own.lt g e).2
/-- the list's form, and what its cells hold -/
theorem OL.form {B : Nat} {W : World} {v : Value} {n : Nat} {L : Nat → LnD} (h : OL B W v n L) : ∃ s c, v = .slice s n c ∧ n ≤ c ∧ c ≤ 9223372036854775807 ∧ (0 < n → ∃ g, s = some ⟨g, 0, none⟩ ∧ B ≤ g ∧ g < W.heap.size ∧ ∀ i k, i < n → k < 6 → W.cell? ⟨g, i * 6 + k, none⟩ = some (fldV (L i) k)) := by
  rcases h.own.2 with ⟨rfl, rfl⟩ | ⟨g, cap, cur, rfl, hb, hg, hc, hm, hs, ht⟩
  · exact ⟨none, 0, rfl, Nat.le_refl _, by omega, fun h => absurd h (by omega)⟩
  · refine ⟨_, cap, rfl, hc, by simpa [maxLen] using hm, fun _ => ⟨g, rfl, hb, Blk.lt hg, fun i k hi hk => ?_⟩⟩
    rw [Blk.cell hg]
    have h1 := lvL_get L hi hk
    rw [← ht, List.getElem?_take, if_pos (by omega), Array.getElem?_toList] at h1
    exact h1
theorem OL.lr {B : Nat} {W : World} {s : Option Addr} {n c : Nat} {L : Nat → LnD} (h : OL B W (.slice s n c) n L) : LR W s n L := by
  by_cases hn : n = 0
  · exact .inl hn
  · obtain ⟨s', c', e, _, _, hx⟩ := h.form
    obtain ⟨g, rfl, _, hg, hcell⟩ := hx (by omega)
    cases e
    refine .inr ⟨g, 0, rfl, hg, fun i hi => ⟨⟨?_, ?_, ?_, ?_, ?_, ?_⟩, (h.ln i hi).ir, (h.ln i hi).cap⟩⟩
    · simpa [fldV] using hcell i 0 hi (by omega)
    · simpa [Nat.add_assoc, fldV] using hcell i 1 hi (by omega)
    · simpa [Nat.add_assoc, fldV] using hcell i 2 hi (by omega)
    · simpa [Nat.add_assoc, fldV] using hcell i 3 hi (by omega)
    · simpa [Nat.add_assoc, fldV] using hcell i 4 hi (by omega)
    · simpa [Nat.add_assoc, fldV] using hcell i 5 hi (by omega)
theorem news_l (W : World) (x : LnD) (t : TypeId) : ∀ j u, (newL x)[j]? = some u → (W.alloc (.cells #[.string x.R, .string x.A, .string x.P, .string x.Q, .string x.B, .slice x.s x.n x.c] t)).cell? ((⟨W.heap.size, 0, none⟩ : Addr).add j) = some u := by
  intro j u h
  have e : (⟨W.heap.size, 0, none⟩ : Addr).add j = ⟨W.heap.size, j, none⟩ := by unfold Addr.add; split <;> simp_all
  rw [e, (Blk.new W t _).cell j]
  simpa [newL] using h
theorem newL_one (x : LnD) : ∀ u ∈ newL x, u.oneCell' = true := by
  intro u hu
  simp only [newL, List.mem_cons, List.not_mem_nil, or_false] at hu
  rcases hu with rfl | rfl | rfl | rfl | rfl | rfl <;> rfl
def zsL (n : Nat) (z : Nat → Int) : List Value := (iv n z).toList
theorem zsL_len (n : Nat) (z : Nat → Int) : (zsL n z).length = n := by simp [zsL, iv]
theorem zsL_one (n : Nat) (z : Nat → Int) : ∀ u ∈ zsL n z, u.oneCell' = true := by
  intro u hu
  simp only [zsL, iv, List.toList_toArray, List.mem_map] at hu
  obtain ⟨a, _, rfl⟩ := hu
  rfl
theorem zsL_get {n : Nat} (z : Nat → Int) {a : Nat} (ha : a < n) : (zsL n z)[a]? = some (.int .i64 (z a)) := by
  rw [zsL, Array.getElem?_toList]; exact iv_get z ha
theorem ir_news {W : World} {ad : Addr} {n : Nat} {z : Nat → Int} (h : IR W (some ad) n z) : ∀ j u, (zsL n z)[j]? = some u → W.cell? (ad.add j) = some u := by
  intro j u hu
  have hj : j < n := by have := (List.getElem?_eq_some_iff.1 hu).1; rwa [zsL_len] at this
  rcases h with h | ⟨b, off, hs, hlt, hc⟩
  · omega
  · cases hs
    rw [zsL_get z hj] at hu
    rw [Addr.add_lit, hc j hj]
    exact hu
/-- an own row of ints, as a line holds it -/
theorem own_ir {B : Nat} {W : World} {v : Value} {n : Nat} {z : Nat → Int} (h : W.ownsRow B 3 1 v n (zsL n z)) : ∃ s c, v = .slice s n c ∧ n ≤ c ∧ c ≤ 9223372036854775807 ∧ IR W s n z ∧ (∀ a, s = some a → B ≤ a.block ∧ a.block < W.heap.size) ∧ (s = none → c = 0) := by
  rcases h.2 with ⟨rfl, rfl⟩ | ⟨g, cap, cur, rfl, hb, hg, hc, hm, hs, ht⟩
  · exact ⟨none, 0, rfl, Nat.le_refl _, by omega, .inl rfl, (fun a e => by cases e), fun _ => rfl⟩
  · refine ⟨_, cap, rfl, hc, by simpa [maxLen] using hm, ?_, (fun a e => by cases e; exact ⟨hb, Blk.lt hg⟩), fun h => by cases h⟩
    refine .inr ⟨g, 0, rfl, Blk.lt hg, fun i hi => ?_⟩
    rw [Nat.zero_add, Blk.cell hg]
    have h1 := zsL_get z hi
    rw [← ht, List.getElem?_take, if_pos (by omega), Array.getElem?_toList] at h1
    exact h1
theorem OL.own2 {B : Nat} {W : World} {v : Value} {n : Nat} {L : Nat → LnD} (h : OL B W v n L) (o o' : Obj) : ((W.alloc o).alloc o').ownsRow B 28 6 v n (lvL n L) :=
  row_call h.own (((Below.refl _ W).alloc (Nat.le_refl _) o).alloc (by simp) o')
theorem below2 (W : World) (o o' : Obj) : Below W.heap.size W ((W.alloc o).alloc o') := ((Below.refl _ W).alloc (Nat.le_refl _) o).alloc (by simp) o'
theorem news_2 (W : World) (x : LnD) (o : Obj) (t : TypeId) : ∀ j u, (newL x)[j]? = some u → ((W.alloc o).alloc (.cells #[.string x.R, .string x.A, .string x.P, .string x.Q, .string x.B, .slice x.s x.n x.c] t)).cell? ((⟨W.heap.size + 1, 0, none⟩ : Addr).add j) = some u := by
  have := news_l (W.alloc o) x t
  rw [show (W.alloc o).heap.size = W.heap.size + 1 by simp] at this
  exact this
theorem OL.own1 {B : Nat} {W : World} {v : Value} {n : Nat} {L : Nat → LnD} (h : OL B W v n L) (o : Obj) : (W.alloc o).ownsRow B 28 6 v n (lvL n L) :=
  row_call h.own ((Below.refl _ W).alloc (Nat.le_refl _) o)
theorem below_app {W W1 : World} {o : Obj} (h : (W.alloc o).grownBy W1 (some W.heap.size)) : Below W.heap.size W W1 :=
  ((Below.refl _ W).alloc (Nat.le_refl _) o).grown h (by simp) (fun k e => by cases e; exact Nat.le_refl _)
/-- a line added -/
def PutPost (B : Nat) (w : World) (v : Value) (n : Nat) (L : Nat → LnD) (R A P Q T : ByteArray) (rn : Nat) (rz : Nat → Int) (e : Ending) (w' : World) : Prop :=
  ∃ v' s' c', e = .returned v' ∧ OL B w' v' (n + 1) (updL L n ⟨R, A, P, Q, T, s', rn, c', rz⟩) ∧ GL w v w' v' ∧ ∀ a, s' = some a → w.heap.size ≤ a.block
theorem put_mk {B : Nat} {w W2 w3 : World} {v v' : Value} {n : Nat} {L : Nat → LnD} {x : LnD} (hO : OL B w v n L) (hB : Below w.heap.size w W2) (hx : GdL W2 v.ownBlock x)
    (hown : w3.ownsRow B 28 6 v' (n + 1) (lvL n L ++ newL x)) (hg : W2.grownBy w3 v.ownBlock) (hat : v'.ownBlock = v.ownBlock ∨ v'.ownBlock = some W2.heap.size) : OL B w3 v' (n + 1) (updL L n x) ∧ GL w v w3 v' := by
  have h2 : GL W2 v w3 v' := ⟨hg, hat.imp id (fun e => ⟨_, e, Nat.le_refl _⟩)⟩
  refine ⟨⟨by rw [← lvL_snoc]; exact hown, fun i hi => ?_⟩, GL.pre hB h2⟩
  by_cases e : i = n
  · subst e
    rw [show updL L i x i = x from if_pos rfl]
    exact hx.grown h2
  · rw [show updL L n x i = L i from if_neg e]
    exact ((hO.call hB).ln i (by omega)).grown h2
set_option maxRecDepth 100000 in
set_option maxHeartbeats 8000000 in
theorem l9Put_any (B : Nat) (v : Value) (n : Nat) (L : Nat → LnD) (R A P Q T : ByteArray) (rs : Option Addr) (rn rc : Nat) (rz : Nat → Int) (w : World) (hO : OL B w v n L) (hB : B ≤ w.heap.size) (hn : n ≤ 5000)
    (hR : R.size ≤ 1000 ∧ R.data.toList.all (fun c => c != 32 && c != 44) = true) (hA : A.size ≤ 1000) (hP : P.size ≤ 1000) (hQ : Q.size ≤ 1000) (hT : T.size ≤ 1000) (hrn : rn ≤ 1000) (hrz : ∀ k, k < rn → -9223372036854775808 ≤ rz k ∧ rz k ≤ 9223372036854775807) (hI : IR w rs rn rz) (hrs : rs = none → rc = 0) :
    Calls Tryz.prog 40 #[v, .string R, .string A, .string P, .string Q, .string T, .slice rs rn rc] w (PutPost B w v n L R A P Q T rn rz) := by
  have HO := Lib.hid hO
  have HI := Lib.hid hI
  have HZ := Lib.hid hrz
  obtain ⟨i0, hi0, hz0, hz1, hz2⟩ := info_parts infoI
  obtain ⟨i1, hi1, hy0, hy1, hy2⟩ := info_parts infoL
  have J0 := Lib.hid hi0
  have J1 := Lib.hid hz0
  have J2 := Lib.hid hz1
  have J3 := Lib.hid hz2
  have K0 := Lib.hid hi1
  have K1 := Lib.hid hy0
  have K2 := Lib.hid hy1
  have K3 := Lib.hid hy2
  have M0 : (w.alloc (.cells #[] 3)).ownsRow w.heap.size 3 1 (.slice (some ⟨w.heap.size, 0, none⟩) 0 0) 0 [] := World.ownsRow_made w #[] 0 (Nat.le_refl _) (by simp [maxLen]) rfl
  have HM := Lib.hid M0
  have HB := Lib.hid hB
  clear hO hI hrz hi0 hz0 hz1 hz2 hi1 hy0 hy1 hy2 M0 hB
  cases rs with
  | none =>
    obtain rfl : rc = 0 := hrs rfl
    have hr0 : rn = 0 := by rcases HI.out with h | ⟨b, off, h, _⟩; exact h; cases h
    subst hr0
    clear hrs
    go_enter Tryz.func40, Tryz.ntmps40
    go_wp2_with (first
      | (at_builtin
         refine wpList_append_own_none rfl (.tmp 21) (.tmp 22) 26 rfl w.heap.size 3 i0 1 Tryz.underlying26 J0.out _ 0 [] rfl HM.out rfl ?_)
      | (at_builtin
         refine wpList_append_own_at _ rfl (.tmp 15) (.tmp 25) 23 rfl B 28 i1 _ 6 104 Tryz.underlying23 K0.out K1.out K2.out K3.out rfl (by decide) v n (lvL n L) rfl (HO.out.own2 _ _) ⟨w.heap.size + 1, 0, none⟩ 1 1 (newL ⟨R, A, P, Q, T, some ⟨w.heap.size, 0, none⟩, 0, 0, rz⟩) rfl rfl (news_2 w ⟨R, A, P, Q, T, some ⟨w.heap.size, 0, none⟩, 0, 0, rz⟩ _ _) (newL_one _) (by simp only [maxLen]; omega) (by omega) (Nat.le_trans HB.out (below2 w _ _).size) ?_
         intro v' w3 hown' hgr' _ hat'))
    go_ret
    have hx : GdL ((w.alloc (.cells #[] 3)).alloc (.cells #[.string R, .string A, .string P, .string Q, .string T, .slice (some ⟨w.heap.size, 0, none⟩) 0 0] 28)) v.ownBlock ⟨R, A, P, Q, T, some ⟨w.heap.size, 0, none⟩, 0, 0, rz⟩ :=
      ⟨hR, hA, hP, hQ, hT, hrn, Nat.le_refl _, (fun h => by cases h), HZ.out, .inl rfl, fun a e => by cases e; exact ⟨by simp; omega, fun e => by have := HO.out.lt _ e; simp at this⟩⟩
    obtain ⟨h1, h2⟩ := put_mk HO.out (below2 w _ _) hx hown' hgr' hat'
    exact ⟨v', _, _, rfl, h1, h2, fun a e => by cases e; exact Nat.le_refl _⟩
  | some ad =>
    clear hrs
    have HN := Lib.hid (ir_news (HI.out.call ((Below.refl _ w).alloc (Nat.le_refl _) (.cells #[] 3))))
    go_enter Tryz.func40, Tryz.ntmps40
    go_wp2_with (first
      | (at_builtin
         refine wpList_append_own_at _ rfl (.tmp 21) (.tmp 22) 26 rfl w.heap.size 3 i0 _ 1 8 Tryz.underlying26 J0.out J1.out J2.out J3.out rfl (by decide) _ 0 [] rfl HM.out ad rn rc (zsL rn rz) rfl (by rw [zsL_len, Nat.mul_one]) HN.out (zsL_one _ _) (by simp only [maxLen]; omega) (by omega) (by simp) ?_
         intro v1 w1 hown1 hgr1 _ _
         rw [Nat.zero_add, List.nil_append] at hown1
         obtain ⟨s1, c1, rfl, hc1, hcm1, hir1, hf1, hnl1⟩ := own_ir hown1
         have HL1 := Lib.hid hnl1
         have HB1 := Lib.hid (below_app hgr1)
         have HI1 := Lib.hid hir1
         have HF1 := Lib.hid hf1
         clear hown1 hgr1 hir1 hf1 hnl1)
      | (at_builtin
         refine wpList_append_own_at _ rfl (.tmp 15) (.tmp 25) 23 rfl B 28 i1 _ 6 104 Tryz.underlying23 K0.out K1.out K2.out K3.out rfl (by decide) v n (lvL n L) rfl ((HO.out.call HB1.out).own1 _) ⟨w1.heap.size, 0, none⟩ 1 1 (newL ⟨R, A, P, Q, T, s1, rn, c1, rz⟩) rfl rfl (news_l w1 ⟨R, A, P, Q, T, s1, rn, c1, rz⟩ _) (newL_one _) (by simp only [maxLen]; omega) (by omega) (Nat.le_trans (Nat.le_trans HB.out HB1.out.size) (by simp)) ?_
         intro v' w3 hown' hgr' _ hat'))
    go_ret
    have hb2 := HB1.out.alloc HB1.out.size (.cells #[.string R, .string A, .string P, .string Q, .string T, .slice s1 rn c1] 28)
    have hx : GdL (w1.alloc (.cells #[.string R, .string A, .string P, .string Q, .string T, .slice s1 rn c1] 28)) v.ownBlock ⟨R, A, P, Q, T, s1, rn, c1, rz⟩ :=
      ⟨hR, hA, hP, hQ, hT, hrn, hc1, HL1.out, HZ.out, HI1.out.call ((Below.refl _ w1).alloc (Nat.le_refl _) _), fun a e => ⟨by have := (HF1.out a e).2; simp; omega, fun e2 => by have h1 := (HF1.out a e).1; have h2 := HO.out.lt _ e2; omega⟩⟩
    obtain ⟨h1, h2⟩ := put_mk HO.out hb2 hx hown' hgr' hat'
    exact ⟨v', _, _, rfl, h1, h2, fun a e => (HF1.out a e).1⟩
end Go.Proofs.YtndlhdmpfnadcaaGreatDoor
