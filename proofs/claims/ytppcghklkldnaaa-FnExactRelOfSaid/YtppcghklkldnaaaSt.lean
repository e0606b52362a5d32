/- The state between the statements of read: what is known of memory there, and what is still to be read. -/
import Derived.Test.YtppcghklkldnaaaKit
import Derived.Maps.AppendAt
import Derived.Deep.AppendLies
namespace Go.Proofs.Ytppcghklkldnaaa
open Go.RowKit
open Pl

/-! ### the state between the statements of read -/
def pv (p : Nat) : Value := .pointer (some ⟨p, 0, none⟩)
def Kids (w : World) (S : Nat → Prop) : List Nd → List Nat → Prop
  | [], [] => True
  | k :: ks, p :: ps => InX w S k p ∧ Kids w S ks ps
  | _, _ => False
theorem Kids.keep {w w' : World} {S S' : Nat → Prop} (hz : w.heap.size ≤ w'.heap.size) (hS : ∀ x, S x → x < w.heap.size → S' x ∧ w'.heap[x]? = w.heap[x]?) : ∀ {ks : List Nd} {ps : List Nat}, Kids w S ks ps → Kids w' S' ks ps
  | [], [], _ => trivial
  | _ :: _, _ :: _, h => ⟨h.1.keep hz hS, Kids.keep hz hS h.2⟩
theorem Kids.snoc {w : World} {S : Nat → Prop} {k : Nd} {p : Nat} (hk : InX w S k p) : ∀ {ks : List Nd} {ps : List Nat}, Kids w S ks ps → Kids w S (ks ++ [k]) (ps ++ [p])
  | [], [], _ => ⟨hk, trivial⟩
  | _ :: _, _ :: _, h => ⟨h.1, Kids.snoc hk h.2⟩
theorem Kids.len {w : World} {S : Nat → Prop} : ∀ {ks : List Nd} {ps : List Nat}, Kids w S ks ps → ks.length = ps.length
  | [], [], _ => rfl
  | _ :: _, _ :: _, h => by simp [Kids.len h.2]

def Wants (TI : TypeId) (w : World) (A : Option Addr) (ws : List Nat) : Prop :=
  (ws = [] ∧ A = none) ∨ ∃ g, A = some ⟨g, 0, none⟩ ∧ Blk w g TI ((ws.map fun s : Nat => Value.int .i64 (s : Int)).toArray)

structure St (TR TT PT TI : TypeId) (w : World) (rb : Nat) (S : ByteArray) (wd : Bool) (c : UInt8) (ws : List Nat) (A : Option Addr) (done : List Nd) (q : Nat) (kv : Value) (ps : List Nat) (wx : World) : Prop where
  wants : Wants TI wx A ws
  q_le : q ≤ S.size
  rdr : Blk wx rb TR #[.string S, .int .i64 (q : Int), .bool wd]
  node : Blk wx w.heap.size TT #[.int .u8 c.toNat, kv, .string ⟨#[]⟩]
  row : wx.ownsRow (w.heap.size + 1) PT 1 kv done.length (ps.map pv)
  nil_ : done = [] → kv = .slice none 0 0
  kids : Kids wx (fun x => w.heap.size < x ∧ kv.ownBlock ≠ some x) done ps
  grown : w.grownBy wx (some rb)

def fin (F : Nat → List UInt8 → Option (Nd × List UInt8)) (c : UInt8) (ws : List Nat) (done : List Nd) (l : List UInt8) : Option (Nd × List UInt8) :=
  match rdL F ws l with
  | none => none
  | some (ks, r) => some (mk c (done ++ ks), r)
theorem fin_nil (F : Nat → List UInt8 → Option (Nd × List UInt8)) (c : UInt8) (done : List Nd) (l : List UInt8) : fin F c [] done l = some (mk c done, l) := by simp [fin, rdL]
theorem fin_none {F : Nat → List UInt8 → Option (Nd × List UInt8)} {c : UInt8} {s : Nat} {ws : List Nat} {done : List Nd} {l : List UInt8} (h : F s l = none) : fin F c (s :: ws) done l = none := by simp [fin, rdL, h]
theorem fin_some {F : Nat → List UInt8 → Option (Nd × List UInt8)} {c : UInt8} {s : Nat} {ws : List Nat} {done : List Nd} {l r : List UInt8} {k : Nd} (h : F s l = some (k, r)) : fin F c (s :: ws) done l = fin F c ws (done ++ [k]) r := by
  simp only [fin, rdL, h]
  cases rdL F ws r with
  | none => rfl
  | some p => simp

def ReadPost (TR : TypeId) (w : World) (rb : Nat) (S : ByteArray) (wd : Bool) (o : Option (Nd × List UInt8)) (e : Ending) (w' : World) : Prop :=
  w.grownBy w' (some rb) ∧ match o with
  | none => e = .returned (.pointer none)
  | some (k, r) => ∃ b q, e = .returned (.pointer (some ⟨b, 0, none⟩)) ∧ InX w' (fun x => w.heap.size ≤ x) k b ∧ q ≤ S.size ∧ S.data.toList.drop q = r ∧ Blk w' rb TR #[.string S, .int .i64 (q : Int), .bool wd]

theorem readPost_none {TR : TypeId} {w : World} {rb : Nat} {S : ByteArray} {wd : Bool} {o : Option (Nd × List UInt8)} {e : Ending} {w' : World} (ho : o = none) (he : e = .returned (.pointer none)) (hg : w.grownBy w' (some rb)) : ReadPost TR w rb S wd o e w' := by
  subst ho; exact ⟨hg, he⟩

theorem drop_cons {S : ByteArray} {p : Nat} (h : p < S.size) : S.data.toList.drop p = S[p] :: S.data.toList.drop (p + 1) := by
  have : p < S.data.toList.length := by simpa using h
  rw [List.drop_eq_getElem_cons this]; rfl
theorem extract_text {S : ByteArray} {p q : Nat} {t : List UInt8} (hq : q ≤ S.size) (h : S.data.toList.drop p = t ++ S.data.toList.drop q) (hp : p ≤ S.size) : p + t.length = q ∧ S.extract p q = ⟨t.toArray⟩ := by
  have hl := congrArg List.length h
  simp only [List.length_drop, List.length_append, Array.length_toList] at hl
  have hs : S.data.size = S.size := rfl
  have e : p + t.length = q := by omega
  refine ⟨e, ?_⟩
  apply ByteArray.ext
  apply Array.toList_inj.1
  rw [ByteArray.data_extract, Array.toList_extract, List.extract_eq_take_drop, h]
  have : q - p = t.length := by omega
  rw [this]
  simp

theorem rd_end {wd : Bool} {n so : Nat} {S : ByteArray} : rd wd n so (S.data.toList.drop S.size) = none := by
  rw [List.drop_of_length_le (by rw [Array.length_toList]; exact Nat.le_refl _)]
  cases n <;> rfl

theorem Blk.ne_ {w : World} {g g' : Nat} {t t' : TypeId} {cs cs' : Array Value} (h : Blk w g t cs) (h' : Blk w g' t' cs') (hne : t ≠ t') : g ≠ g' := by
  rintro rfl
  unfold Blk at h h'
  rw [h] at h'
  injection h' with h'
  injection h' with _ ht
  exact hne ht
theorem own_blk_ne {w : World} {g : Nat} {t : TypeId} {cs : Array Value} {base : Nat} {e : TypeId} {size n : Nat} {v : Value} {xs : List Value} (h : w.ownsRow base e size v n xs) (hg : Blk w g t cs) (hne : e ≠ t) : v.ownBlock ≠ some g := by
  rcases h.2 with ⟨rfl, _⟩ | ⟨g', cap, cur, rfl, _, hh, _⟩
  · simp [Value.ownBlock]
  · intro he
    have : g' = g := by simpa [Value.ownBlock] using he
    subst this
    exact Blk.ne_ (t := e) hh hg hne rfl
theorem heap_setCell {w : World} {p : Addr} {u : Value} {k : Nat} (h : k ≠ p.block) : (w.setCell p u).heap[k]? = w.heap[k]? := Below.heap_setCell _ _ _ _ h

section
variable {TR TT PT TI : TypeId} {w : World} {rb : Nat} {S : ByteArray} {wd : Bool} {c : UInt8} {ws : List Nat} {A : Option Addr} {done : List Nd} {q : Nat} {kv : Value} {ps : List Nat} {wr w' w2 : World}

theorem St.mid (h : St TR TT PT TI w rb S wd c ws A done q kv ps wr) (n1 : TT ≠ TR) (n2 : PT ≠ TT) (n3 : PT ≠ TR) (hg : wr.grownBy w' (some rb)) :
    Blk w' w.heap.size TT #[.int .u8 c.toNat, kv, .string ⟨#[]⟩] ∧ w'.ownsRow (w.heap.size + 1) PT 1 kv done.length (ps.map pv) ∧ kv.ownBlock ≠ some w.heap.size ∧ w.heap.size < w'.heap.size := by
  have hn := h.node
  have b1 : Blk w' w.heap.size TT #[.int .u8 c.toNat, kv, .string ⟨#[]⟩] := hn.grown hg (fun e => hn.ne_ h.rdr n1 (by injection e))
  exact ⟨b1, h.row.kept hg (.inr (own_blk_ne h.row h.rdr n3)), own_blk_ne h.row hn n2, b1.lt⟩

theorem St.snoc (h : St TR TT PT TI w rb S wd c ws A done q kv ps wr) (n1 : TT ≠ TR) (n2 : PT ≠ TT) (n3 : PT ≠ TR) (n4 : PT ≠ TI) (n5 : TI ≠ TR) (n6 : TI ≠ TT) (hrb : rb < w.heap.size)
    (hg : wr.grownBy w' (some rb)) {k : Nd} {b q2 : Nat} (hin : InX w' (fun x => wr.heap.size ≤ x) k b) (hq : q2 ≤ S.size) (hr : Blk w' rb TR #[.string S, .int .i64 (q2 : Int), .bool wd])
    {o : Obj} {v' : Value} (hown : w2.ownsRow (w.heap.size + 1) PT 1 v' (done.length + 1) (ps.map pv ++ [pv b])) (hgr : (w'.alloc o).grownBy w2 kv.ownBlock)
    (hat : v'.ownBlock = kv.ownBlock ∨ v'.ownBlock = some (w'.alloc o).heap.size) :
    St TR TT PT TI w rb S wd c ws A (done ++ [k]) q2 v' (ps ++ [b]) (w2.setCell ⟨w.heap.size, 1, none⟩ v') := by
  obtain ⟨m1, m2, m3, m4⟩ := h.mid n1 n2 n3 hg
  have z1 := hg.size
  have z2 := hgr.size
  have z0 : (w'.alloc o).heap.size = w'.heap.size + 1 := by simp
  have hlt1 : ∀ g, kv.ownBlock = some g → g < wr.heap.size := fun g e => (h.row.lt g e).2
  have z3 : (w2.setCell ⟨w.heap.size, 1, none⟩ v').heap.size = w2.heap.size := by simp [World.setCell]
  have hstep : ∀ x, x < w'.heap.size → kv.ownBlock ≠ some x → x ≠ w.heap.size → (w2.setCell ⟨w.heap.size, 1, none⟩ v').heap[x]? = w'.heap[x]? := by
    intro x hx hk hne
    rw [heap_setCell (by exact hne), hgr.block x (by omega) (fun e => hk e.symm), Below.heap_alloc _ _ _ hx]
  have hnew : ∀ x, x < w'.heap.size → kv.ownBlock ≠ some x → v'.ownBlock ≠ some x := by
    intro x hx hk
    rcases hat with e | e <;> rw [e]
    · exact hk
    · intro e2; injection e2 with e2; omega
  refine ⟨?_, hq, ?_, ?_, ?_, ?_, ?_, ?_⟩
  · rcases h.wants with h1 | ⟨g, hA, hb⟩
    · exact .inl h1
    · refine .inr ⟨g, hA, ?_⟩
      have hb1 : Blk w' g TI _ := hb.grown hg (fun e => hb.ne_ h.rdr n5 (by injection e))
      exact (hstep g hb1.lt (own_blk_ne m2 hb1 n4) (hb1.ne_ m1 n6)).trans hb1
  · exact (hstep rb hr.lt (own_blk_ne m2 hr n3) (by omega)).trans hr
  · have hb2 : Blk w2 w.heap.size TT #[.int .u8 c.toNat, kv, .string ⟨#[]⟩] := (m1.alloc o).grown hgr (fun e => m3 e.symm)
    exact hb2.set_ 1 v'
  · have := ownsRow_setCell_below (a := ⟨w.heap.size, 1, none⟩) hown (by show w.heap.size < w.heap.size + 1; omega) v'
    simpa using this
  · intro e; simp at e
  · refine Kids.snoc (hin.keep (by omega) fun x hx hlt => ?_) (h.kids.keep (by omega) fun x hx hlt => ?_)
    · have hk : kv.ownBlock ≠ some x := fun e => by have := hlt1 x e; omega
      have hn := h.node.lt
      exact ⟨⟨by omega, hnew x hlt hk⟩, hstep x hlt hk (by omega)⟩
    · refine ⟨⟨hx.1, hnew x (by omega) hx.2⟩, ?_⟩
      rw [hstep x (by omega) hx.2 (by have := hx.1; omega)]
      exact hg.block x hlt (fun e => by injection e with e; have := hx.1; omega)
  · have g1 := grown_step h.grown hg (fun g e => .inl e)
    have g2 := grown_step g1 (World.grownBy_alloc w' o none) (fun g e => by cases e)
    have g3 := grown_step g2 hgr (fun g e => .inr (by have := (h.row.lt g e).1; omega))
    exact grown_step g3 (grownBy_setCell w2 ⟨w.heap.size, 1, none⟩ v') (fun g e => .inr (by injection e with e; subst e; exact Nat.le_refl _))

/-- the node's own new block -/
theorem St.start {p : Nat} (hp : p + 1 ≤ S.size) (hr : Blk w rb TR #[.string S, .int .i64 (p : Int), .bool wd]) (m : Nat) (z : Int) (hz : z = ((p + 1 : Nat) : Int)) :
    St TR TT PT TI w rb S wd c [] none [] (p + 1) (.slice none 0 0) [] (((w.drewN m).setCell ⟨rb, 1, none⟩ (.int .i64 z)).alloc (.cells #[.int .u8 c.toNat, .slice none 0 0, .string ⟨#[]⟩] TT)) := by
  subst hz
  have h1 := (hr.drewN m).set_ 1 (.int .i64 ((p + 1 : Nat) : Int))
  have hz : ((w.drewN m).setCell ⟨rb, 1, none⟩ (.int .i64 ((p + 1 : Nat) : Int))).heap.size = w.heap.size := by simp [World.setCell]
  have hl := hr.lt
  have hnew := Blk.new ((w.drewN m).setCell ⟨rb, 1, none⟩ (.int .i64 ((p + 1 : Nat) : Int))) TT #[.int .u8 c.toNat, .slice none 0 0, .string ⟨#[]⟩]
  rw [hz] at hnew
  refine ⟨.inl ⟨rfl, rfl⟩, hp, ?_, hnew, World.ownsRow_nil _ _ _ _, fun _ => rfl, trivial, ?_⟩
  · have := h1.alloc (.cells #[.int .u8 c.toNat, .slice none 0 0, .string ⟨#[]⟩] TT)
    simpa using this
  · have g1 := grown_step (row := some rb) (grownBy_drewN w m (some rb)) (grownBy_setCell (w.drewN m) ⟨rb, 1, none⟩ (.int .i64 ((p + 1 : Nat) : Int))) (fun g e => .inl e)
    exact grown_step g1 (World.grownBy_alloc _ _ none) (fun g e => by cases e)

/-- a new block of what is wanted -/
theorem St.want_ (h : St TR TT PT TI w rb S wd c [] none [] q kv [] wr) (ws : List Nat) (cs : Array Value) (hcs : cs = (ws.map fun s : Nat => Value.int .i64 (s : Int)).toArray) :
    St TR TT PT TI w rb S wd c ws (some ⟨wr.heap.size, 0, none⟩) [] q kv [] (wr.alloc (.cells cs TI)) := by
  subst hcs
  exact ⟨.inr ⟨_, rfl, Blk.new _ _ _⟩, h.q_le, h.rdr.alloc _, h.node.alloc _, h.row.alloc _, h.nil_, trivial, grown_step h.grown (World.grownBy_alloc wr _ none) (fun g e => by cases e)⟩

/-- the letter of an assignment's variable: its node, and the reader one letter on -/
theorem St.letter (h : St TR TT PT TI w rb S wd c [] none [] q (.slice none 0 0) [] wr) (n1 : TT ≠ TR) (v : UInt8) (q2 : Nat) (m : Nat) (w3 : World)
    (hw3 : w3 = ((wr.drewN m).alloc (.cells #[.int .u8 v.toNat, .slice none 0 0, .string ⟨#[v]⟩] TT)).setCell ⟨rb, 1, none⟩ (.int .i64 (q2 : Int))) :
    Blk w3 rb TR #[.string S, .int .i64 (q2 : Int), .bool wd] ∧ Blk w3 w.heap.size TT #[.int .u8 c.toNat, .slice none 0 0, .string ⟨#[]⟩] ∧ Blk w3 wr.heap.size TT #[.int .u8 v.toNat, .slice none 0 0, .string ⟨#[v]⟩] ∧ w.grownBy w3 (some rb) ∧ w.heap.size < wr.heap.size ∧ w3.heap.size = wr.heap.size + 1 := by
  subst hw3
  have r1 := h.rdr.lt
  have t1 := h.node.lt
  have e1 := h.node.ne_ h.rdr n1
  refine ⟨?_, ?_, ?_, ?_, t1, ?_⟩
  · have := ((h.rdr.drewN m).alloc (.cells #[.int .u8 v.toNat, .slice none 0 0, .string ⟨#[v]⟩] TT)).set_ 1 (.int .i64 (q2 : Int))
    simpa using this
  · exact ((h.node.drewN m).alloc _).far (by exact e1) _
  · exact (Blk.new (wr.drewN m) TT _).far (by show wr.heap.size ≠ rb; omega) _
  · have g1 := grown_step h.grown (grownBy_drewN wr m none) (fun g e => by cases e)
    have g2 := grown_step g1 (World.grownBy_alloc (wr.drewN m) (.cells #[.int .u8 v.toNat, .slice none 0 0, .string ⟨#[v]⟩] TT) none) (fun g e => by cases e)
    exact grown_step g2 (grownBy_setCell _ ⟨rb, 1, none⟩ (.int .i64 (q2 : Int))) (fun g e => .inl e)
  · simp [World.setCell]

/-- an assignment's two parts are laid -/
theorem St.two {w3 : World} {v : UInt8} {vb b q2 : Nat} {k : Nd} (hrb : rb < w.heap.size)
    (t3 : Blk w3 w.heap.size TT #[.int .u8 c.toNat, .slice none 0 0, .string ⟨#[]⟩]) (v3 : Blk w3 vb TT #[.int .u8 v.toNat, .slice none 0 0, .string ⟨#[v]⟩]) (hvb : w.heap.size < vb)
    (g3 : w.grownBy w3 (some rb)) (hg : w3.grownBy w' (some rb)) (hin : InX w' (fun x => w3.heap.size ≤ x) k b) (hq : q2 ≤ S.size) (hr : Blk w' rb TR #[.string S, .int .i64 (q2 : Int), .bool wd]) :
    St TR TT PT TI w rb S wd c [] none [.n0 v, k] q2 (.slice (some ⟨w'.heap.size, 0, none⟩) 2 2) [vb, b] ((w'.alloc (.cells #[pv vb, pv b] PT)).setCell ⟨w.heap.size, 1, none⟩ (.slice (some ⟨w'.heap.size, 0, none⟩) 2 2)) := by
  have lt3 := t3.lt
  have ltv := v3.lt
  have z := hg.size
  have ltr := hr.lt
  have t4 : Blk w' w.heap.size TT #[.int .u8 c.toNat, .slice none 0 0, .string ⟨#[]⟩] := t3.grown hg (by intro e; injection e with e; omega)
  have v4 : Blk w' vb TT #[.int .u8 v.toNat, .slice none 0 0, .string ⟨#[v]⟩] := v3.grown hg (by intro e; injection e with e; omega)
  have hstep : ∀ x, x < w'.heap.size → x ≠ w.heap.size → ((w'.alloc (.cells #[pv vb, pv b] PT)).setCell ⟨w.heap.size, 1, none⟩ (.slice (some ⟨w'.heap.size, 0, none⟩) 2 2)).heap[x]? = w'.heap[x]? := fun x hx hne => by
    rw [heap_setCell (by exact hne), Below.heap_alloc _ _ _ hx]
  have hz : ((w'.alloc (.cells #[pv vb, pv b] PT)).setCell ⟨w.heap.size, 1, none⟩ (.slice (some ⟨w'.heap.size, 0, none⟩) 2 2)).heap.size = w'.heap.size + 1 := by simp [World.setCell]
  refine ⟨.inl ⟨rfl, rfl⟩, hq, (hstep rb ltr (by omega)).trans hr, ?_, ?_, (fun e => by cases e), ⟨?_, ?_, trivial⟩, ?_⟩
  · have := (t4.alloc (.cells #[pv vb, pv b] PT)).set_ 1 (.slice (some ⟨w'.heap.size, 0, none⟩) 2 2)
    simpa using this
  · have hnew := (Blk.new w' PT #[pv vb, pv b]).far (p := ⟨w.heap.size, 1, none⟩) (by show w'.heap.size ≠ w.heap.size; omega) (.slice (some ⟨w'.heap.size, 0, none⟩) 2 2)
    exact ⟨rfl, .inr ⟨w'.heap.size, 2, #[pv vb, pv b], rfl, by omega, hnew, Nat.le_refl _, by simp [maxLen], rfl, rfl⟩⟩
  · have hv : Blk _ vb TT #[.int .u8 v.toNat, .slice none 0 0, .string ⟨#[v]⟩] := (hstep vb v4.lt (by omega)).trans v4
    exact ⟨⟨hvb, by simp [Value.ownBlock]; have := v4.lt; omega⟩, hv.lt, by rw [hv.cell]; rfl, by rw [hv.cell]; rfl, by rw [hv.cell]; rfl⟩
  · exact hin.keep (by omega) fun x hx hlt => ⟨⟨by omega, by simp [Value.ownBlock]; omega⟩, hstep x hlt (by omega)⟩
  · have g1 := grown_step g3 hg (fun g e => .inl e)
    have g2 := grown_step g1 (World.grownBy_alloc w' (.cells #[pv vb, pv b] PT) none) (fun g e => by cases e)
    exact grown_step g2 (grownBy_setCell _ ⟨w.heap.size, 1, none⟩ (.slice (some ⟨w'.heap.size, 0, none⟩) 2 2)) (fun g e => .inr (by injection e with e; subst e; exact Nat.le_refl _))

/-- the node is whole: its text is laid -/
theorem St.end_ (h : St TR TT PT TI w rb S wd c ws A done q kv ps wr) (hrb : rb < w.heap.size) (hd : done.length ≤ 3) {p n so : Nat} (hp : p ≤ S.size) (hso : so ≤ 2)
    {o : Option (Nd × List UInt8)} (ho : rd wd n so (S.data.toList.drop p) = o) (hf : o = some (Pl.mk c done, S.data.toList.drop q)) (m : Nat) :
    ReadPost TR w rb S wd o (.returned (.pointer (some ⟨w.heap.size, 0, none⟩))) ((wr.drewN m).setCell ⟨w.heap.size, 2, none⟩ (.string (S.extract p q))) := by
  subst hf
  obtain ⟨e1, _⟩ := rd_sound wd n so _ _ _ hso ho
  obtain ⟨e2, e3⟩ := extract_text h.q_le e1 hp
  rw [e3]
  generalize hW : (wr.drewN m).setCell ⟨w.heap.size, 2, none⟩ (.string ⟨(Pl.mk c done).text.toArray⟩) = W3
  have hblk : ∀ x, x ≠ w.heap.size → W3.heap[x]? = wr.heap[x]? := fun x hx => by rw [← hW, heap_setCell (by exact hx)]; rfl
  have hz : W3.heap.size = wr.heap.size := by rw [← hW]; simp [World.setCell]
  have hn : Blk W3 w.heap.size TT #[.int .u8 c.toNat, kv, .string ⟨(Pl.mk c done).text.toArray⟩] := by rw [← hW]; exact (h.node.drewN m).set_ 2 _
  have hhd : Hd W3 w.heap.size c kv (Pl.mk c done).text := ⟨hn.lt, by rw [hn.cell]; rfl, by rw [hn.cell]; rfl, by rw [hn.cell]; rfl⟩
  have hg : w.grownBy W3 (some rb) := by
    have g1 := grown_step h.grown (grownBy_drewN wr m none) (fun g e => by cases e)
    have g2 := grown_step g1 (grownBy_setCell (wr.drewN m) ⟨w.heap.size, 2, none⟩ (.string ⟨(Pl.mk c done).text.toArray⟩)) (fun g e => .inr (by injection e with e; subst e; exact Nat.le_refl _))
    rw [← hW]; exact g2
  refine ⟨hg, w.heap.size, q, rfl, ?_, h.q_le, rfl, (hblk rb (by omega)).trans h.rdr⟩
  have hkids : Kids W3 (fun x => w.heap.size ≤ x) done ps := h.kids.keep (by omega) fun x hx _ => ⟨by have := hx.1; omega, hblk x (by have := hx.1; omega)⟩
  have hrow : ∀ j u, (ps.map pv)[j]? = some u → ∀ g, kv.ownBlock = some g → W3.cell? ⟨g, j, none⟩ = some u := by
    intro j u hu g hk
    have h1 := h.row.cells hk j u hu
    have hadd : (⟨g, 0, none⟩ : Addr).add j = ⟨g, j, none⟩ := by unfold Addr.add; split <;> simp_all
    rw [hadd] at h1
    exact (World.cell?_of_block (a := ⟨g, j, none⟩) (hblk g (by have := (h.row.lt g hk).1; omega))).trans h1
  have hform : 0 < done.length → ∃ g cap, kv = .slice (some ⟨g, 0, none⟩) done.length cap ∧ w.heap.size + 1 ≤ g ∧ g < wr.heap.size ∧ done.length ≤ cap := by
    intro hpos
    rcases h.row.2 with ⟨_, h0⟩ | ⟨g, cap, cur, hv, hb, hh, hc, _⟩
    · omega
    · exact ⟨g, cap, hv, hb, (Array.getElem?_eq_some_iff.1 hh).1, hc⟩
  match done, ps, hkids, hd, hhd, hform, hrow with
  | [], _, _, _, hhd, _, _ =>
    rw [h.nil_ rfl] at hhd
    exact ⟨Nat.le_refl _, hhd⟩
  | [x], [p1], hk, _, hhd, hform, hrow =>
    obtain ⟨g, cap, rfl, hb, hl, hc⟩ := hform (by simp)
    exact ⟨g, cap, p1, Nat.le_refl _, by show w.heap.size ≤ g; omega, hhd, by omega, hc, hrow 0 _ rfl g rfl, hk.1⟩
  | [x, y], [p1, p2], hk, _, hhd, hform, hrow =>
    obtain ⟨g, cap, rfl, hb, hl, hc⟩ := hform (by simp)
    exact ⟨g, cap, p1, p2, Nat.le_refl _, by show w.heap.size ≤ g; omega, hhd, by omega, hc, hrow 0 _ rfl g rfl, hrow 1 _ rfl g rfl, hk.1, hk.2.1⟩
  | [x, y, z], [p1, p2, p3], hk, _, hhd, hform, hrow =>
    obtain ⟨g, cap, rfl, hb, hl, hc⟩ := hform (by simp)
    exact ⟨g, cap, p1, p2, p3, Nat.le_refl _, by show w.heap.size ≤ g; omega, hhd, by omega, hc, hrow 0 _ rfl g rfl, hrow 1 _ rfl g rfl, hrow 2 _ rfl g rfl, hk.1, hk.2.1, hk.2.2.1⟩
  | _ :: _ :: _ :: _ :: _, _, _, hd, _, _, _ => simp at hd
end

end Go.Proofs.Ytppcghklkldnaaa
