/- Another value of a variable: the program's SetVar and the reference's. -/
import Derived.Test.YtccjmahhebiphaaDoorVr
import Derived.Test.YtccjmahhebiphaaDoorGb
import Derived.Test.YtccjmahhebiphaaDoorGe
namespace Go.Proofs.YtccjmahhebiphaaDoor
open Go.RowKit
open Pl

/-- the letter of a variable -/
def varOf (l : List UInt8) : Option UInt8 :=
  match l with
  | [c] => if c ∈ nmsN then some c else none
  | _ => none
theorem varOf_some {l : List UInt8} {c : UInt8} (h : varOf l = some c) : l = [c] ∧ c ∈ nmsN := by
  unfold varOf at h
  split at h
  · split at h
    · injection h with h; subst h; exact ⟨rfl, by assumption⟩
    · cases h
  · cases h
theorem varOf_one {c : UInt8} (h : c ∈ nmsN) : varOf [c] = some c := by simp [varOf, h]
theorem varOf_ne {l : List UInt8} (h : varOf l = none) {c : UInt8} (hc : c ∈ nmsN) : l ≠ [c] := by
  rintro rfl
  rw [varOf_one hc] at h; cases h
theorem nms_cases {c : UInt8} (h : c ∈ nmsN) : c = 120 ∨ c = 121 ∨ c = 122 := by simpa [nmsN] using h
theorem bytes_of {V : ByteArray} {l : List UInt8} (h : V.data.toList = l) : V = ⟨l.toArray⟩ := by
  apply ByteArray.ext; apply Array.toList_inj.1; rw [h]
theorem list_beq {V : ByteArray} {l : List UInt8} (h : V.data.toList ≠ l) : (V.toList == l) = false ∧ (l == V.toList) = false := by
  rw [ByteArray.toList_eq]; exact ⟨by simpa using h, by simpa using fun e => h e.symm⟩
/-- a value of the state that SetVar hands back -/
def sv1 (o : Option UInt8) (b : Bool) (a : UInt8) (n x : Int) : Int :=
  match o with
  | some c => if b then put1 c a n x else 0
  | none => 0
def svB (o : Option UInt8) (b : Bool) : Bool := o.isSome && b

/-- three numbers written into a block of three -/
theorem putw {w w1 : World} {r : Nat} {t : TypeId} {x y z : Int} (B : Below w.heap.size w w1) (hk : Blk w1 r t #[.int .i64 x, .int .i64 y, .int .i64 z]) (hr : w.heap.size ≤ r) (a b c : Int) :
    ∃ w2, ((w1.setCell ⟨r, 0, none⟩ (.int .i64 a)).setCell ⟨r, 1, none⟩ (.int .i64 b)).setCell ⟨r, 2, none⟩ (.int .i64 c) = w2 ∧ Below w.heap.size w w2 ∧ Blk w2 r t #[.int .i64 a, .int .i64 b, .int .i64 c] := by
  refine ⟨_, rfl, ((B.setCell hr _).setCell hr _).setCell hr _, ?_⟩
  have := ((hk.set_ 0 (.int .i64 a)).set_ 1 (.int .i64 b)).set_ 2 (.int .i64 c)
  simpa using this

set_option maxHeartbeats 1000000 in
theorem isVar_any (V : ByteArray) (w : World) : Calls Tryd.prog 61 #[.string V] w fun e w' => e = .returned (.bool (varOf V.data.toList).isSome) ∧ w = w' := by
  cases ho : varOf V.data.toList with
  | some c =>
    obtain ⟨h1, h2⟩ := varOf_some ho
    obtain rfl := bytes_of h1
    clear ho h1
    rcases nms_cases h2 with rfl | rfl | rfl
    all_goals
      clear h2
      go_enter Tryd.func61, Tryd.ntmps61
      go_wp2
      go_ret
      exact ⟨rfl, rfl⟩
  | none =>
    obtain ⟨a1, b1⟩ := list_beq (varOf_ne ho (c := 120) (by decide))
    obtain ⟨a2, b2⟩ := list_beq (varOf_ne ho (c := 121) (by decide))
    obtain ⟨a3, b3⟩ := list_beq (varOf_ne ho (c := 122) (by decide))
    clear ho
    go_enter Tryd.func61, Tryd.ntmps61
    go_wp2
    go_ret
    exact ⟨rfl, rfl⟩
/-- the number of a variable -/
def varNo (o : Option UInt8) : Int :=
  match o with
  | some c => fnd nmsN c
  | none => -1
set_option maxHeartbeats 1000000 in
theorem l1Var_any (V : ByteArray) (hV : V.size ≤ 1000000000000) (w : World) : Calls Tryd.prog 67 #[.string V] w fun e w' => e = .returned (.int .i64 (varNo (varOf V.data.toList))) ∧ w = w' := by
  by_cases h1 : V.size = 1
  · obtain ⟨c, hc⟩ : ∃ c, V = ⟨#[c]⟩ := by
      refine ⟨V[0], bytes_of (l := [V[0]]) ?_⟩
      have := drop_cons (S := V) (p := 0) (by omega)
      rw [List.drop_zero] at this
      rw [this, List.drop_of_length_le (by rw [len_S]; omega)]
    subst hc
    have hv : varNo (varOf [c]) = fnd nmsN c := by
      unfold varOf varNo
      by_cases h : c ∈ nmsN
      · simp [h]
      · have := fnd_range c nmsN
        have h2 : ¬ 0 ≤ fnd nmsN c := fun h0 => h (fnd_mem.1 h0)
        simp [h]; omega
    have HV := Lib.hid hv
    have FN := Lib.hid (find_any ⟨#[120, 121, 122]⟩ c (by decide) w)
    clear hv h1 hV
    go_enter Tryd.func67, Tryd.ntmps67
    go_wp2_with fail
    refine FN.out.mono ?_
    rintro e w' ⟨rfl, rfl⟩
    go_wp2_with fail
    go_ret
    exact ⟨ret_int HV.out.symm, rfl⟩
  · have hn : varOf V.data.toList = none := by
      cases h : varOf V.data.toList with
      | none => rfl
      | some c =>
        have := congrArg List.length (varOf_some h).1
        rw [len_S] at this
        exact absurd (by simpa using this) h1
    have HN := Lib.hid hn
    have h2 : ((V.size : Int) != 1) = true := by simp; omega
    clear hn h1
    go_enter Tryd.func67, Tryd.ntmps67
    go_wp2_with fail
    go_ret
    exact ⟨ret_int (by rw [HN.out]; rfl), rfl⟩
set_option maxHeartbeats 1000000 in
theorem l1Set_any (x y z X Y Z n : Int) (c : UInt8) (hc : c ∈ nmsN) (w : World) : Calls Tryd.prog 117 #[.agg #[.int .i64 x, .int .i64 y, .int .i64 z, .int .i64 X, .int .i64 Y, .int .i64 Z], .int .i64 (fnd nmsN c), .int .i64 n] w fun e w' =>
    (e = .returned (.agg #[.int .i64 (put1 c 120 n x), .int .i64 (put1 c 121 n y), .int .i64 (put1 c 122 n z), .int .i64 X, .int .i64 Y, .int .i64 Z]) ∧ Below w.heap.size w w') := by
  have hb : ∀ o1 o2 a v, w.heap.size ≤ a → Below w.heap.size w (((w.alloc o1).alloc o2).setCell ⟨a, 0, none⟩ v) := fun o1 o2 a v h => ((((Below.refl _ _).alloc (Nat.le_refl _) _).alloc (by simp) _)).setCell h _
  rcases nms_cases hc with rfl | rfl | rfl
  · clear hc hb
    have e1 : fnd nmsN 120 = 0 := by decide
    rw [e1]
    clear e1
    go_enter Tryd.func117, Tryd.ntmps117
    go_wp2_with fail
    exact bodyPost_ret (v := .agg #[.int .i64 n, .int .i64 y, .int .i64 z, .int .i64 X, .int .i64 Y, .int .i64 Z]) (by simp [results, Tryd.results117, go_sem]) rfl
      ⟨by simp [put1], ((Below.refl _ _).alloc (Nat.le_refl _) _).alloc (by simp) _⟩
  · clear hc hb
    have e1 : fnd nmsN 121 = 1 := by decide
    rw [e1]
    clear e1
    go_enter Tryd.func117, Tryd.ntmps117
    go_wp2_with fail
    exact bodyPost_ret (v := .agg #[.int .i64 x, .int .i64 n, .int .i64 z, .int .i64 X, .int .i64 Y, .int .i64 Z]) (by simp [results, Tryd.results117, go_sem]) rfl
      ⟨by simp [put1], ((Below.refl _ _).alloc (Nat.le_refl _) _).alloc (by simp) _⟩
  · clear hc hb
    have e1 : fnd nmsN 122 = 2 := by decide
    rw [e1]
    clear e1
    go_enter Tryd.func117, Tryd.ntmps117
    go_wp2_with fail
    exact bodyPost_ret (v := .agg #[.int .i64 x, .int .i64 y, .int .i64 n, .int .i64 X, .int .i64 Y, .int .i64 Z]) (by simp [results, Tryd.results117, go_sem]) rfl
      ⟨by simp [put1], ((Below.refl _ _).alloc (Nat.le_refl _) _).alloc (by simp) _⟩
set_option maxHeartbeats 1000000 in
theorem l1State_any (x y z X Y Z : Int) (w : World) : Calls Tryd.prog 116 #[.agg #[.int .i64 x, .int .i64 y, .int .i64 z, .int .i64 X, .int .i64 Y, .int .i64 Z]] w fun e w' =>
    (e = .returned (.agg #[.int .i64 x, .int .i64 y, .int .i64 z]) ∧ Below w.heap.size w w') := by
  go_enter Tryd.func116, Tryd.ntmps116
  go_wp2_with fail
  exact bodyPost_ret (v := .agg #[.int .i64 x, .int .i64 y, .int .i64 z]) (by simp [results, Tryd.results116, go_sem]) rfl
    ⟨rfl, ((Below.refl _ _).alloc (Nat.le_refl _) _).alloc (by simp) _⟩
set_option maxHeartbeats 4000000 in
theorem SetVar_any (x y z n : Int) (V : ByteArray) (w : World) : Calls Tryd.prog 32 #[.agg #[.int .i64 x, .int .i64 y, .int .i64 z], .string V, .int .i64 n] w fun e w' =>
    (e = .returned (.tuple #[.agg #[.int .i64 (sv1 (varOf V.data.toList) (stB x y z && inB n) 120 n x), .int .i64 (sv1 (varOf V.data.toList) (stB x y z && inB n) 121 n y), .int .i64 (sv1 (varOf V.data.toList) (stB x y z && inB n) 122 n z)], .bool (svB (varOf V.data.toList) (stB x y z && inB n))]) ∧ Below w.heap.size w w') := by
  have j0 : Blk ((w.alloc (.cells #[.int .i64 x, .int .i64 y, .int .i64 z] 42)).alloc (.cells #[.int .i64 0, .int .i64 0, .int .i64 0] 42)) w.heap.size 42 #[.int .i64 x, .int .i64 y, .int .i64 z] := (Blk.new w 42 _).alloc _
  have k0 : Blk ((w.alloc (.cells #[.int .i64 x, .int .i64 y, .int .i64 z] 42)).alloc (.cells #[.int .i64 0, .int .i64 0, .int .i64 0] 42)) (w.heap.size + 1) 42 #[.int .i64 0, .int .i64 0, .int .i64 0] := by
    have h := Blk.new (w.alloc (.cells #[.int .i64 x, .int .i64 y, .int .i64 z] 42)) 42 #[.int .i64 0, .int .i64 0, .int .i64 0]
    simpa using h
  have J := Lib.hid j0
  have K := Lib.hid k0
  have B0 : Hid (Below w.heap.size w ((w.alloc (.cells #[.int .i64 x, .int .i64 y, .int .i64 z] 42)).alloc (.cells #[.int .i64 0, .int .i64 0, .int .i64 0] 42))) := Lib.hid (((Below.refl _ _).alloc (Nat.le_refl _) _).alloc (by simp) _)
  clear j0 k0
  have SV := Lib.hid (fun w => StateValid_any x y z w)
  have IV := Lib.hid (fun w => isVar_any V w)
  cases hv : stB x y z
  · rw [hv] at SV
    clear hv IV
    go_enter Tryd.func32, Tryd.ntmps32
    go_wp2_with fail
    refine (SV.out _).mono ?_
    rintro e w1 ⟨rfl, hb1⟩
    have j1 := J.out.below hb1 (by simp; omega)
    have jlt1 := j1.lt
    have J1 := Lib.hid j1
    have k1 := K.out.below hb1 (by simp)
    have klt1 := k1.lt
    have K1 := Lib.hid k1
    have B1 := Lib.hid (below_2 B0.out hb1)
    clear hb1 J K B0
    have d0 := j1.cell 0
    have d1 := j1.cell 1
    have d2 := j1.cell 2
    have df0 := j1.frozen 0
    have df1 := j1.frozen 1
    have df2 := j1.frozen 2
    have e0 := k1.cell 0
    have e1 := k1.cell 1
    have e2 := k1.cell 2
    have ef0 := k1.frozen 0
    have ef1 := k1.frozen 1
    have ef2 := k1.frozen 2
    simp at d0 d1 d2 e0 e1 e2
    clear j1 k1
    go_wp2_with fail
    obtain ⟨w9, hw9, b9, k9⟩ := putw B1.out K1.out (by omega) 0 0 0
    rw [hw9]
    have y0 := k9.cell 0
    have y1 := k9.cell 1
    have y2 := k9.cell 2
    simp at y0 y1 y2
    exact bodyPost_ret (v := .tuple #[.agg #[.int .i64 0, .int .i64 0, .int .i64 0], .bool false]) (by simp [results, Tryd.results32, go_sem, y0, y1, y2]) rfl
      ⟨by cases varOf V.data.toList <;> simp [sv1, svB], b9⟩
  rw [hv] at SV
  clear hv
  cases ho : varOf V.data.toList with
  | none =>
    rw [ho] at IV
    clear ho
    go_enter Tryd.func32, Tryd.ntmps32
    go_wp2_with fail
    refine (SV.out _).mono ?_
    rintro e w1 ⟨rfl, hb1⟩
    have j1 := J.out.below hb1 (by simp; omega)
    have jlt1 := j1.lt
    have J1 := Lib.hid j1
    have k1 := K.out.below hb1 (by simp)
    have klt1 := k1.lt
    have K1 := Lib.hid k1
    have B1 := Lib.hid (below_2 B0.out hb1)
    clear hb1 J K B0
    have d0 := j1.cell 0
    have d1 := j1.cell 1
    have d2 := j1.cell 2
    have df0 := j1.frozen 0
    have df1 := j1.frozen 1
    have df2 := j1.frozen 2
    have e0 := k1.cell 0
    have e1 := k1.cell 1
    have e2 := k1.cell 2
    have ef0 := k1.frozen 0
    have ef1 := k1.frozen 1
    have ef2 := k1.frozen 2
    simp at d0 d1 d2 e0 e1 e2
    clear j1 k1
    go_wp2_with fail
    refine (IV.out _).mono ?_
    rintro e w' ⟨rfl, rfl⟩
    go_wp2_with fail
    obtain ⟨w9, hw9, b9, k9⟩ := putw B1.out K1.out (by omega) 0 0 0
    rw [hw9]
    have y0 := k9.cell 0
    have y1 := k9.cell 1
    have y2 := k9.cell 2
    simp at y0 y1 y2
    exact bodyPost_ret (v := .tuple #[.agg #[.int .i64 0, .int .i64 0, .int .i64 0], .bool false]) (by simp [results, Tryd.results32, go_sem, y0, y1, y2]) rfl
      ⟨by simp [sv1, svB], b9⟩
  | some c =>
    rw [ho] at IV
    obtain ⟨h1, h2⟩ := varOf_some ho
    obtain rfl := bytes_of h1
    clear ho h1
    cases hn : inB n
    · rcases inB_no hn with h3 | h3
      all_goals
        clear hn
        go_enter Tryd.func32, Tryd.ntmps32
        go_wp2_with fail
        refine (SV.out _).mono ?_
        rintro e w1 ⟨rfl, hb1⟩
        have j1 := J.out.below hb1 (by simp; omega)
        have jlt1 := j1.lt
        have J1 := Lib.hid j1
        have k1 := K.out.below hb1 (by simp)
        have klt1 := k1.lt
        have K1 := Lib.hid k1
        have B1 := Lib.hid (below_2 B0.out hb1)
        clear hb1 J K B0
        have d0 := j1.cell 0
        have d1 := j1.cell 1
        have d2 := j1.cell 2
        have df0 := j1.frozen 0
        have df1 := j1.frozen 1
        have df2 := j1.frozen 2
        have e0 := k1.cell 0
        have e1 := k1.cell 1
        have e2 := k1.cell 2
        have ef0 := k1.frozen 0
        have ef1 := k1.frozen 1
        have ef2 := k1.frozen 2
        simp at d0 d1 d2 e0 e1 e2
        clear j1 k1
        go_wp2_with fail
        refine (IV.out _).mono ?_
        rintro e w' ⟨rfl, rfl⟩
        go_wp2_with fail
        obtain ⟨w9, hw9, b9, k9⟩ := putw B1.out K1.out (by omega) 0 0 0
        rw [hw9]
        have y0 := k9.cell 0
        have y1 := k9.cell 1
        have y2 := k9.cell 2
        simp at y0 y1 y2
        exact bodyPost_ret (v := .tuple #[.agg #[.int .i64 0, .int .i64 0, .int .i64 0], .bool false]) (by simp [results, Tryd.results32, go_sem, y0, y1, y2]) rfl
          ⟨by simp [sv1, svB], b9⟩
    · obtain ⟨h3, h4⟩ := inB_small.1 hn
      clear hn
      rcases nms_cases h2 with rfl | rfl | rfl
      · clear h2
        go_enter Tryd.func32, Tryd.ntmps32
        go_wp2_with fail
        refine (SV.out _).mono ?_
        rintro e w1 ⟨rfl, hb1⟩
        have j1 := J.out.below hb1 (by simp; omega)
        have jlt1 := j1.lt
        have J1 := Lib.hid j1
        have k1 := K.out.below hb1 (by simp)
        have klt1 := k1.lt
        have K1 := Lib.hid k1
        have B1 := Lib.hid (below_2 B0.out hb1)
        clear hb1 J K B0
        have d0 := j1.cell 0
        have d1 := j1.cell 1
        have d2 := j1.cell 2
        have df0 := j1.frozen 0
        have df1 := j1.frozen 1
        have df2 := j1.frozen 2
        have e0 := k1.cell 0
        have e1 := k1.cell 1
        have e2 := k1.cell 2
        have ef0 := k1.frozen 0
        have ef1 := k1.frozen 1
        have ef2 := k1.frozen 2
        simp at d0 d1 d2 e0 e1 e2
        clear j1 k1
        go_wp2_with fail
        refine (IV.out _).mono ?_
        rintro e w' ⟨rfl, rfl⟩
        go_wp2_with fail
        have b8 : Below w.heap.size w (w1.setCell ⟨w.heap.size, 0, none⟩ (.int .i64 n)) := B1.out.setCell (Nat.le_refl _) _
        have k8 := K1.out.far (p := ⟨w.heap.size, 0, none⟩) (by simp) (.int .i64 n)
        obtain ⟨w9, hw9, b9, k9⟩ := putw b8 k8 (by omega) n y z
        rw [hw9]
        have y0 := k9.cell 0
        have y1 := k9.cell 1
        have y2 := k9.cell 2
        simp at y0 y1 y2
        exact bodyPost_ret (v := .tuple #[.agg #[.int .i64 n, .int .i64 y, .int .i64 z], .bool true]) (by simp [results, Tryd.results32, go_sem, y0, y1, y2]) rfl
          ⟨by simp [sv1, svB, put1], b9⟩
      · clear h2
        go_enter Tryd.func32, Tryd.ntmps32
        go_wp2_with fail
        refine (SV.out _).mono ?_
        rintro e w1 ⟨rfl, hb1⟩
        have j1 := J.out.below hb1 (by simp; omega)
        have jlt1 := j1.lt
        have J1 := Lib.hid j1
        have k1 := K.out.below hb1 (by simp)
        have klt1 := k1.lt
        have K1 := Lib.hid k1
        have B1 := Lib.hid (below_2 B0.out hb1)
        clear hb1 J K B0
        have d0 := j1.cell 0
        have d1 := j1.cell 1
        have d2 := j1.cell 2
        have df0 := j1.frozen 0
        have df1 := j1.frozen 1
        have df2 := j1.frozen 2
        have e0 := k1.cell 0
        have e1 := k1.cell 1
        have e2 := k1.cell 2
        have ef0 := k1.frozen 0
        have ef1 := k1.frozen 1
        have ef2 := k1.frozen 2
        simp at d0 d1 d2 e0 e1 e2
        clear j1 k1
        go_wp2_with fail
        refine (IV.out _).mono ?_
        rintro e w' ⟨rfl, rfl⟩
        go_wp2_with fail
        have b8 : Below w.heap.size w (w1.setCell ⟨w.heap.size, 1, none⟩ (.int .i64 n)) := B1.out.setCell (Nat.le_refl _) _
        have k8 := K1.out.far (p := ⟨w.heap.size, 1, none⟩) (by simp) (.int .i64 n)
        obtain ⟨w9, hw9, b9, k9⟩ := putw b8 k8 (by omega) x n z
        rw [hw9]
        have y0 := k9.cell 0
        have y1 := k9.cell 1
        have y2 := k9.cell 2
        simp at y0 y1 y2
        exact bodyPost_ret (v := .tuple #[.agg #[.int .i64 x, .int .i64 n, .int .i64 z], .bool true]) (by simp [results, Tryd.results32, go_sem, y0, y1, y2]) rfl
          ⟨by simp [sv1, svB, put1], b9⟩
      · clear h2
        go_enter Tryd.func32, Tryd.ntmps32
        go_wp2_with fail
        refine (SV.out _).mono ?_
        rintro e w1 ⟨rfl, hb1⟩
        have j1 := J.out.below hb1 (by simp; omega)
        have jlt1 := j1.lt
        have J1 := Lib.hid j1
        have k1 := K.out.below hb1 (by simp)
        have klt1 := k1.lt
        have K1 := Lib.hid k1
        have B1 := Lib.hid (below_2 B0.out hb1)
        clear hb1 J K B0
        have d0 := j1.cell 0
        have d1 := j1.cell 1
        have d2 := j1.cell 2
        have df0 := j1.frozen 0
        have df1 := j1.frozen 1
        have df2 := j1.frozen 2
        have e0 := k1.cell 0
        have e1 := k1.cell 1
        have e2 := k1.cell 2
        have ef0 := k1.frozen 0
        have ef1 := k1.frozen 1
        have ef2 := k1.frozen 2
        simp at d0 d1 d2 e0 e1 e2
        clear j1 k1
        go_wp2_with fail
        refine (IV.out _).mono ?_
        rintro e w' ⟨rfl, rfl⟩
        go_wp2_with fail
        have b8 : Below w.heap.size w (w1.setCell ⟨w.heap.size, 2, none⟩ (.int .i64 n)) := B1.out.setCell (Nat.le_refl _) _
        have k8 := K1.out.far (p := ⟨w.heap.size, 2, none⟩) (by simp) (.int .i64 n)
        obtain ⟨w9, hw9, b9, k9⟩ := putw b8 k8 (by omega) x y n
        rw [hw9]
        have y0 := k9.cell 0
        have y1 := k9.cell 1
        have y2 := k9.cell 2
        simp at y0 y1 y2
        exact bodyPost_ret (v := .tuple #[.agg #[.int .i64 x, .int .i64 y, .int .i64 n], .bool true]) (by simp [results, Tryd.results32, go_sem, y0, y1, y2]) rfl
          ⟨by simp [sv1, svB, put1], b9⟩

end Go.Proofs.YtccjmahhebiphaaDoor
