/- XGk: XFo XSv XPp XSs XHs put together. -/
import Derived.Test.YtndlhdmpfnadcaaGreatDoorGb
import Derived.Test.YtndlhdmpfnadcaaGreatDoorGa
import Derived.Test.YtndlhdmpfnadcaaGreatDoorVr
import Derived.Test.YtndlhdmpfnadcaaGreatDoorGe
import Derived.Test.YtndlhdmpfnadcaaGreatDoorGc
import Derived.Maps.AppendAt
import Derived.Laws.OwnMore
import Derived.Test.YtndlhdmpfnadcaaGreatDoorGx
import Derived.Test.YtndlhdmpfnadcaaGreatDoorSpa
/- Folded expressions: the program's and the reference's. -/
namespace Go.Proofs.YtndlhdmpfnadcaaGreatDoor
open Go.RowKit
open Pl

theorem enc_op {o : UInt8} (h : isO o = true) : Utf8.encode (IntKind.i32.wrap (o.toNat : Int)) = ⟨#[o]⟩ ∧ Utf8.encode (wrap32 (o.toNat : Int)) = ⟨#[o]⟩ := by
  rcases isO_cases h with rfl | rfl | rfl
  · exact ⟨by kernel_rfl, by kernel_rfl⟩
  · exact ⟨by kernel_rfl, by kernel_rfl⟩
  · exact ⟨by kernel_rfl, by kernel_rfl⟩
theorem isV_of_D' {c : UInt8} (h : isD c = true) : isV true c = false := by
  have h1 := isD_range h
  cases hv : isV true c with
  | false => rfl
  | true =>
    have hm := (mem_nms (wd := true)).2 hv
    simp only [nms, if_true, nmsW, List.mem_cons, List.not_mem_nil, or_false] at hm
    rcases hm with rfl | rfl | rfl | rfl | rfl | rfl <;> simp at h1
theorem dg_iff {x y : Nd} (hx : ok false 0 x = true) (hy : ok false 0 y = true) : (isDg x && isDg y) = true ↔ x.text.length = 1 ∧ y.text.length = 1 ∧ vars nmsW (x.text ++ y.text) = [] := by
  have big : ∀ {o : UInt8} {a b : Nd}, (Nd.n2 o a b).text.length ≠ 1 := by
    intro o a b h
    have := text_pos a
    have := text_pos b
    simp only [Nd.text, List.length_cons, List.length_append] at h
    omega
  cases x with
  | n1 o a => simp [ok] at hx
  | n3 o a b c => simp [ok] at hx
  | n2 o a b => simp only [isDg, Bool.false_and, Bool.false_eq_true, false_iff]; exact fun h => big h.1
  | n0 c =>
    cases y with
    | n1 o a => simp [ok] at hy
    | n3 o a b c => simp [ok] at hy
    | n2 o a b => simp only [isDg, Bool.and_false, Bool.false_eq_true, false_iff]; exact fun h => big h.2.1
    | n0 d =>
      simp only [ok, Bool.or_eq_true] at hx hy
      simp only [isDg, Nd.text, List.length_singleton, true_and, Bool.and_eq_true]
      constructor
      · rintro ⟨h1, h2⟩
        rw [List.eq_nil_iff_forall_not_mem]
        intro v hv
        obtain ⟨hv1, hv2⟩ := mem_vars.1 hv
        have hvv : isV true v = true := mem_nms.1 (show v ∈ nms true from hv1)
        simp only [List.cons_append, List.nil_append, List.mem_cons, List.not_mem_nil, or_false] at hv2
        rcases hv2 with rfl | rfl
        · rw [isV_of_D' h1] at hvv; cases hvv
        · rw [isV_of_D' h2] at hvv; cases hvv
      · intro h
        have hno : ∀ e, e = c ∨ e = d → isV false e = true → False := fun e he hv => by
          have : e ∈ vars nmsW ([c] ++ [d]) := mem_vars.2 ⟨show e ∈ nms true from mem_nms.2 (isV_wide hv true), by simp; exact he⟩
          rw [h] at this; cases this
        exact ⟨hx.resolve_left (fun h1 => hno c (.inl rfl) h1), hy.resolve_left (fun h1 => hno d (.inr rfl) h1)⟩
theorem env_zero : envOf 0 0 0 0 0 0 = fun _ => 0 := by
  funext c; unfold envOf; repeat' split
  all_goals rfl
theorem fold_two_yes {o : UInt8} {a b : Nd} (h : (isDg (fold a) && isDg (fold b)) = true) : fold (.n2 o a b) = .n0 (digOf (val (fun _ => 0) (.n2 o (fold a) (fold b)))) := by
  show (if (isDg (fold a) && isDg (fold b)) = true then _ else _) = _
  rw [if_pos h]
theorem fold_two_no {o : UInt8} {a b : Nd} (h : (isDg (fold a) && isDg (fold b)) = false) : fold (.n2 o a b) = .n2 o (fold a) (fold b) := by
  show (if (isDg (fold a) && isDg (fold b)) = true then _ else _) = _
  rw [if_neg (by rw [h]; decide)]


end Go.Proofs.YtndlhdmpfnadcaaGreatDoor

/- Another value of a variable: the program's SetVar and the reference's. -/
namespace Go.Proofs.YtndlhdmpfnadcaaGreatDoor
open Go.RowKit
open Pl

/-- the letter of a variable -/
def varOf (l : List UInt8) : Option UInt8 :=
  match l with
  | [c] => if c ∈ nmsN then some c else none
  | _ => none
theorem varOf_some {l : List UInt8} {c : UInt8} (h : varOf l = some c) : l = [c] ∧ c ∈ nmsN := by
  unfold varOf at h
  split at h
  · split at h
    · injection h with h; subst h; exact ⟨rfl, by assumption⟩
    · cases h
  · cases h
theorem varOf_one {c : UInt8} (h : c ∈ nmsN) : varOf [c] = some c := by simp [varOf, h]
theorem varOf_ne {l : List UInt8} (h : varOf l = none) {c : UInt8} (hc : c ∈ nmsN) : l ≠ [c] := by
  rintro rfl
  rw [varOf_one hc] at h; cases h
theorem nms_cases {c : UInt8} (h : c ∈ nmsN) : c = 120 ∨ c = 121 ∨ c = 122 := by simpa [nmsN] using h
theorem bytes_of {V : ByteArray} {l : List UInt8} (h : V.data.toList = l) : V = ⟨l.toArray⟩ := by
  apply ByteArray.ext; apply Array.toList_inj.1; rw [h]
theorem list_beq {V : ByteArray} {l : List UInt8} (h : V.data.toList ≠ l) : (V.toList == l) = false ∧ (l == V.toList) = false := by
  rw [ByteArray.toList_eq]; exact ⟨by simpa using h, by simpa using fun e => h e.symm⟩
/-- a value of the state that SetVar hands back -/
def sv1 (o : Option UInt8) (b : Bool) (a : UInt8) (n x : Int) : Int :=
  match o with
  | some c => if b then put1 c a n x else 0
  | none => 0
def svB (o : Option UInt8) (b : Bool) : Bool := o.isSome && b

/-- three numbers written into a block of three -/
theorem putw {w w1 : World} {r : Nat} {t : TypeId} {x y z : Int} (B : Below w.heap.size w w1) (hk : Blk w1 r t #[.int .i64 x, .int .i64 y, .int .i64 z]) (hr : w.heap.size ≤ r) (a b c : Int) :
    ∃ w2, ((w1.setCell ⟨r, 0, none⟩ (.int .i64 a)).setCell ⟨r, 1, none⟩ (.int .i64 b)).setCell ⟨r, 2, none⟩ (.int .i64 c) = w2 ∧ Below w.heap.size w w2 ∧ Blk w2 r t #[.int .i64 a, .int .i64 b, .int .i64 c] := by
  refine ⟨_, rfl, ((B.setCell hr _).setCell hr _).setCell hr _, ?_⟩
  have := ((hk.set_ 0 (.int .i64 a)).set_ 1 (.int .i64 b)).set_ 2 (.int .i64 c)
  simpa using this

/-- the number of a variable -/
def varNo (o : Option UInt8) : Int :=
  match o with
  | some c => fnd nmsN c
  | none => -1
set_option maxHeartbeats 1000000 in
theorem l1Var_any (V : ByteArray) (hV : V.size ≤ 1000000000000) (w : World) : Calls Tryz.prog 67 #[.string V] w fun e w' => e = .returned (.int .i64 (varNo (varOf V.data.toList))) ∧ w = w' := by
  by_cases h1 : V.size = 1
  · obtain ⟨c, hc⟩ : ∃ c, V = ⟨#[c]⟩ := by
      refine ⟨V[0], bytes_of (l := [V[0]]) ?_⟩
      have := drop_cons (S := V) (p := 0) (by omega)
      rw [List.drop_zero] at this
      rw [this, List.drop_of_length_le (by rw [len_S]; omega)]
    subst hc
    have hv : varNo (varOf [c]) = fnd nmsN c := by
      unfold varOf varNo
      by_cases h : c ∈ nmsN
      · simp [h]
      · have := fnd_range c nmsN
        have h2 : ¬ 0 ≤ fnd nmsN c := fun h0 => h (fnd_mem.1 h0)
        simp [h]; omega
    have HV := Lib.hid hv
    have FN := Lib.hid (find_any ⟨#[120, 121, 122]⟩ c (by decide) w)
    clear hv h1 hV
    go_enter Tryz.func67, Tryz.ntmps67
    go_wp2_with fail
    refine FN.out.mono ?_
    rintro e w' ⟨rfl, rfl⟩
    go_wp2_with fail
    go_ret
    exact ⟨ret_int HV.out.symm, rfl⟩
  · have hn : varOf V.data.toList = none := by
      cases h : varOf V.data.toList with
      | none => rfl
      | some c =>
        have := congrArg List.length (varOf_some h).1
        rw [len_S] at this
        exact absurd (by simpa using this) h1
    have HN := Lib.hid hn
    have h2 : ((V.size : Int) != 1) = true := by simp; omega
    clear hn h1
    go_enter Tryz.func67, Tryz.ntmps67
    go_wp2_with fail
    go_ret
    exact ⟨ret_int (by rw [HN.out]; rfl), rfl⟩
set_option maxHeartbeats 1000000 in
theorem l1Set_any (x y z X Y Z n : Int) (c : UInt8) (hc : c ∈ nmsN) (w : World) : Calls Tryz.prog 102 #[.agg #[.int .i64 x, .int .i64 y, .int .i64 z, .int .i64 X, .int .i64 Y, .int .i64 Z], .int .i64 (fnd nmsN c), .int .i64 n] w fun e w' =>
    (e = .returned (.agg #[.int .i64 (put1 c 120 n x), .int .i64 (put1 c 121 n y), .int .i64 (put1 c 122 n z), .int .i64 X, .int .i64 Y, .int .i64 Z]) ∧ Below w.heap.size w w') := by
  have hb : ∀ o1 o2 a v, w.heap.size ≤ a → Below w.heap.size w (((w.alloc o1).alloc o2).setCell ⟨a, 0, none⟩ v) := fun o1 o2 a v h => ((((Below.refl _ _).alloc (Nat.le_refl _) _).alloc (by simp) _)).setCell h _
  rcases nms_cases hc with rfl | rfl | rfl
  · clear hc hb
    have e1 : fnd nmsN 120 = 0 := by decide
    rw [e1]
    clear e1
    go_enter Tryz.func102, Tryz.ntmps102
    go_wp2_with fail
    exact bodyPost_ret (v := .agg #[.int .i64 n, .int .i64 y, .int .i64 z, .int .i64 X, .int .i64 Y, .int .i64 Z]) (by simp [results, Tryz.results102, go_sem]) rfl
      ⟨by simp [put1], ((Below.refl _ _).alloc (Nat.le_refl _) _).alloc (by simp) _⟩
  · clear hc hb
    have e1 : fnd nmsN 121 = 1 := by decide
    rw [e1]
    clear e1
    go_enter Tryz.func102, Tryz.ntmps102
    go_wp2_with fail
    exact bodyPost_ret (v := .agg #[.int .i64 x, .int .i64 n, .int .i64 z, .int .i64 X, .int .i64 Y, .int .i64 Z]) (by simp [results, Tryz.results102, go_sem]) rfl
      ⟨by simp [put1], ((Below.refl _ _).alloc (Nat.le_refl _) _).alloc (by simp) _⟩
  · clear hc hb
    have e1 : fnd nmsN 122 = 2 := by decide
    rw [e1]
    clear e1
    go_enter Tryz.func102, Tryz.ntmps102
    go_wp2_with fail
    exact bodyPost_ret (v := .agg #[.int .i64 x, .int .i64 y, .int .i64 n, .int .i64 X, .int .i64 Y, .int .i64 Z]) (by simp [results, Tryz.results102, go_sem]) rfl
      ⟨by simp [put1], ((Below.refl _ _).alloc (Nat.le_refl _) _).alloc (by simp) _⟩
set_option maxHeartbeats 1000000 in
theorem l1State_any (x y z X Y Z : Int) (w : World) : Calls Tryz.prog 101 #[.agg #[.int .i64 x, .int .i64 y, .int .i64 z, .int .i64 X, .int .i64 Y, .int .i64 Z]] w fun e w' =>
    (e = .returned (.agg #[.int .i64 x, .int .i64 y, .int .i64 z]) ∧ Below w.heap.size w w') := by
  go_enter Tryz.func101, Tryz.ntmps101
  go_wp2_with fail
  exact bodyPost_ret (v := .agg #[.int .i64 x, .int .i64 y, .int .i64 z]) (by simp [results, Tryz.results101, go_sem]) rfl
    ⟨rfl, ((Below.refl _ _).alloc (Nat.le_refl _) _).alloc (by simp) _⟩

end Go.Proofs.YtndlhdmpfnadcaaGreatDoor

/- The laws' small words: ppValue, ppTrue, ppGet; the variables of texts. -/
namespace Go.Proofs.YtndlhdmpfnadcaaGreatDoor
open Go.RowKit
open Pl

theorem box3 (w : World) (x y z : Int) (t : TypeId) : (w.alloc (.cells #[.int .i64 x, .int .i64 y, .int .i64 z] t)).cell? ⟨w.heap.size, 0, none⟩ = some (.int .i64 x) ∧ (w.alloc (.cells #[.int .i64 x, .int .i64 y, .int .i64 z] t)).cell? ⟨w.heap.size, 1, none⟩ = some (.int .i64 y) ∧ (w.alloc (.cells #[.int .i64 x, .int .i64 y, .int .i64 z] t)).cell? ⟨w.heap.size, 2, none⟩ = some (.int .i64 z) := by
  refine ⟨?_, ?_, ?_⟩ <;> simp
/-- the variables of a valid text -/
def vsExpr (l : List UInt8) : List UInt8 := if (whole false 0 200 l).isSome then vars nmsN l else []
/-- the variables of a valid text -/
def vsTest (l : List UInt8) : List UInt8 := if (whole false 1 200 l).isSome then vars nmsN l else []

end Go.Proofs.YtndlhdmpfnadcaaGreatDoor

/- The list of all states; FoldExpr of both sides. -/
namespace Go.Proofs.YtndlhdmpfnadcaaGreatDoor
open Go.RowKit
open Pl

def stV (i : Nat) : List Value := [.int .i64 ((i : Int) % 3), .int .i64 ((i : Int) / 3 % 3), .int .i64 ((i : Int) / 9)]
def stsV (k : Nat) : List Value := (List.range k).flatMap stV
theorem stsV_succ (k : Nat) : stsV (k + 1) = stsV k ++ stV k := by simp [stsV, List.range_succ]
theorem stsV_len : ∀ k, (stsV k).length = k * 3
  | 0 => rfl
  | k + 1 => by rw [stsV_succ, List.length_append, stsV_len k]; simp [stV]; omega
theorem stsV_get : ∀ i, i < 27 → (stsV 27)[i * 3]? = some (.int .i64 ((i : Int) % 3)) ∧ (stsV 27)[i * 3 + 1]? = some (.int .i64 ((i : Int) / 3 % 3)) ∧ (stsV 27)[i * 3 + 2]? = some (.int .i64 ((i : Int) / 9)) := by
  intro i hi
  have h : i = 0 ∨ i = 1 ∨ i = 2 ∨ i = 3 ∨ i = 4 ∨ i = 5 ∨ i = 6 ∨ i = 7 ∨ i = 8 ∨ i = 9 ∨ i = 10 ∨ i = 11 ∨ i = 12 ∨ i = 13 ∨ i = 14 ∨ i = 15 ∨ i = 16 ∨ i = 17 ∨ i = 18 ∨ i = 19 ∨ i = 20 ∨ i = 21 ∨ i = 22 ∨ i = 23 ∨ i = 24 ∨ i = 25 ∨ i = 26 := by omega
  rcases h with rfl | rfl | rfl | rfl | rfl | rfl | rfl | rfl | rfl | rfl | rfl | rfl | rfl | rfl | rfl | rfl | rfl | rfl | rfl | rfl | rfl | rfl | rfl | rfl | rfl | rfl | rfl <;> exact ⟨rfl, rfl, rfl⟩
/-- the cells of the list of all states at block g -/
def sts (g : Nat) : List (Addr × Value) := (List.range 27).flatMap fun i => [(⟨g, i * 3, none⟩, .int .i64 ((i : Int) % 3)), (⟨g, i * 3 + 1, none⟩, .int .i64 ((i : Int) / 3 % 3)), (⟨g, i * 3 + 2, none⟩, .int .i64 ((i : Int) / 9))]
theorem mem_sts {g i : Nat} (hi : i < 27) : ((⟨g, i * 3, none⟩ : Addr), Value.int .i64 ((i : Int) % 3)) ∈ sts g ∧ ((⟨g, i * 3 + 1, none⟩ : Addr), Value.int .i64 ((i : Int) / 3 % 3)) ∈ sts g ∧ ((⟨g, i * 3 + 2, none⟩ : Addr), Value.int .i64 ((i : Int) / 9)) ∈ sts g :=
  ⟨List.mem_flatMap.2 ⟨i, List.mem_range.2 hi, by simp⟩, List.mem_flatMap.2 ⟨i, List.mem_range.2 hi, by simp⟩, List.mem_flatMap.2 ⟨i, List.mem_range.2 hi, by simp⟩⟩
theorem sts_of {w W : World} {g cap : Nat} {base : Nat} (hb : Below w.heap.size w W) (h : W.ownsRow base 93 3 (.slice (some ⟨g, 0, none⟩) 27 cap) 27 (stsV 27)) (hg : g < W.heap.size) : Sit w W (sts g) := by
  refine ⟨hb, fun p hp => ?_⟩
  obtain ⟨i, hi, hp⟩ := List.mem_flatMap.1 hp
  have hi := List.mem_range.1 hi
  obtain ⟨a, b, c⟩ := stsV_get i hi
  simp only [List.mem_cons, List.not_mem_nil, or_false] at hp
  rcases hp with rfl | rfl | rfl
  · exact ⟨hg, (h.cellAt (i * 3) (by omega)).trans a⟩
  · exact ⟨hg, (h.cellAt (i * 3 + 1) (by omega)).trans b⟩
  · exact ⟨hg, (h.cellAt (i * 3 + 2) (by omega)).trans c⟩
theorem three_new (W : World) (a b c : Value) (t : TypeId) : ∀ j u, [a, b, c][j]? = some u → (W.alloc (.cells #[a, b, c] t)).cell? ((⟨W.heap.size, 0, none⟩ : Addr).add j) = some u := by
  intro j u h
  have e : (⟨W.heap.size, 0, none⟩ : Addr).add j = ⟨W.heap.size, j, none⟩ := by unfold Addr.add; split <;> simp_all
  rw [e, (Blk.new W t #[a, b, c]).cell j]
  simpa using h

/-- what FoldExpr hands back -/
def foO (o : Option Nd) : List UInt8 :=
  match o with
  | some k => (fold k).text
  | none => []

end Go.Proofs.YtndlhdmpfnadcaaGreatDoor

/- HasState; the first state of a set, on both sides; counts of sets put together. -/
namespace Go.Proofs.YtndlhdmpfnadcaaGreatDoor
open Go.RowKit
open Pl

theorem numX {i : Nat} (h : i < 27) : numI (stX i) (stY i) (stZ i) = i := by
  unfold numI
  rw [st_ok h, if_pos rfl]
  exact st_num i
theorem sts_x {w W : World} {g j : Nat} (H : Sit w W (sts g)) (hj : j < 27) : W.cell? ⟨g, j * 3, none⟩ = some (.int .i64 (stX j)) ∧ W.cell? ⟨g, j * 3 + 1, none⟩ = some (.int .i64 (stY j)) ∧ W.cell? ⟨g, j * 3 + 2, none⟩ = some (.int .i64 (stZ j)) :=
  ⟨H.get (mem_sts hj).1, H.get (mem_sts hj).2.1, H.get (mem_sts hj).2.2⟩
theorem cnt_sum {P Q : ByteArray} (hp : bOk 27 P.data.toList = true) (hq : bOk 27 Q.data.toList = true) : ∃ a b c d : Nat, cntP (bs (optB (both P Q (· && ·)))).data.toList = (a : Int) ∧ cntP (bs (optB (both P Q (· || ·)))).data.toList = (b : Int) ∧ cntP P.data.toList = (c : Int) ∧ cntP Q.data.toList = (d : Int) ∧ a ≤ 27 ∧ b ≤ 27 ∧ c ≤ 27 ∧ d ≤ 27 ∧ a + b = c + d := by
  refine ⟨_, _, _, _, cntP_ok (both_ok _ hp hq), cntP_ok (both_ok _ hp hq), cntP_ok hp, cntP_ok hq, cnt_le _ _, cnt_le _ _, cnt_le _ _, cnt_le _ _, ?_⟩
  rw [cnt_congr (fun i hi => bt_both (· && ·) hp hq hi), cnt_congr (fun i hi => bt_both (· || ·) hp hq hi)]
  exact cnt_and_or 27 _ _
theorem demorgan {P Q : ByteArray} (hp : bOk 27 P.data.toList = true) (hq : bOk 27 Q.data.toList = true) : bs (optB (notO (bs (optB (both P Q (· && ·)))))) = bs (optB (both (bs (optB (notO P))) (bs (optB (notO Q))) (· || ·))) := by
  apply eq_of_bt (not_ok (both_ok _ hp hq)) (both_ok _ (not_ok hp) (not_ok hq))
  intro i hi
  rw [bt_notO (both_ok _ hp hq) hi, bt_both _ hp hq hi, bt_both _ (not_ok hp) (not_ok hq) hi, bt_notO hp hi, bt_notO hq hi]
  cases bt P.data.toList i <;> rfl
theorem win_left {P Q : ByteArray} (hp : bOk 27 P.data.toList = true) (hq : bOk 27 Q.data.toList = true) : winO (bs (optB (both P Q (· && ·)))).data.toList P.data.toList = true := by
  unfold winO
  rw [both_ok _ hp hq, hp, Bool.true_and, Bool.true_and, win_iff]
  intro i hi h
  rw [bt_both _ hp hq hi] at h
  simp at h
  exact h.1
theorem win_right {P Q : ByteArray} (hp : bOk 27 P.data.toList = true) (hq : bOk 27 Q.data.toList = true) : winO Q.data.toList (bs (optB (both P Q (· || ·)))).data.toList = true := by
  unfold winO
  rw [both_ok _ hp hq, hq, Bool.true_and, Bool.true_and, win_iff]
  intro i hi h
  rw [bt_both _ hp hq hi, h]
  simp
/-- the first state of a set -/
def fsO (l : List UInt8) : Option Nat := if bOk 27 l then (if fnd l 49 < 0 then none else some (fnd l 49).toNat) else none
theorem fs_no {l : List UInt8} (h : bOk 27 l = false) : fsO l = none := by unfold fsO; rw [h]; rfl
theorem fnd_cnt {l : List UInt8} (h : bOk 27 l = true) : fnd l 49 < 0 ↔ cnt 27 (bt l) = 0 := by
  have := fnd_bits (n := 27) (f := bt l)
  rw [bits_of h] at this
  exact this
theorem fs_neg {l : List UInt8} (h : bOk 27 l = true) (h2 : fnd l 49 < 0) : fsO l = none := by unfold fsO; rw [h, if_pos rfl, if_pos h2]
theorem fs_pos {l : List UInt8} (h : bOk 27 l = true) (h2 : ¬ fnd l 49 < 0) : ∃ k : Nat, fnd l 49 = k ∧ fsO l = some k ∧ k < 27 ∧ bt l k = true ∧ ∀ j, j < k → bt l j = false := by
  obtain ⟨k, hk, hkl, h3, h4⟩ := fnd_at (l := l) (c := 49) (by omega)
  have hl := bOk_len h
  refine ⟨k, hk, ?_, by omega, ?_, fun j hj => ?_⟩
  · unfold fsO; rw [h, if_pos rfl, if_neg h2, hk]; rfl
  · unfold bt; rw [List.getD_eq_getElem?_getD, List.getElem?_eq_getElem hkl, Option.getD_some, h3]; rfl
  · have := h4 j hj
    unfold bt
    rw [List.getD_eq_getElem?_getD, List.getElem?_eq_getElem (by omega), Option.getD_some]
    simpa using this

end Go.Proofs.YtndlhdmpfnadcaaGreatDoor
