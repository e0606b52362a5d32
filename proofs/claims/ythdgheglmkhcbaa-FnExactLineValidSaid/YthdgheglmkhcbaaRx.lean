/- Relations as texts: whether they are, put together, compared, counted, asked for a pair. -/
import Derived.Test.YthdgheglmkhcbaaGa
import Derived.Test.YthdgheglmkhcbaaHs
import Derived.Test.YthdgheglmkhcbaaRo
import Derived.Test.YthdgheglmkhcbaaRq
namespace Go.Proofs.Ythdgheglmkhcbaa
open Go.RowKit
open Pl

theorem okR_size {P : ByteArray} (hp : bOk 729 P.data.toList = true) : P.size = 729 := by rw [← len_S, bOk_len hp]
def bothR (P Q : ByteArray) (f : Bool → Bool → Bool) : Option (List UInt8) :=
  if bOk 729 P.data.toList && bOk 729 Q.data.toList then some (opT f P.data.toList Q.data.toList) else none
def notR (P : ByteArray) : Option (List UInt8) := if bOk 729 P.data.toList then some (ngT P.data.toList) else none
theorem bothR_yes {P Q : ByteArray} (f : Bool → Bool → Bool) (hp : bOk 729 P.data.toList = true) (hq : bOk 729 Q.data.toList = true) : bothR P Q f = some (opT f P.data.toList Q.data.toList) := by unfold bothR; rw [hp, hq]; rfl
theorem bothR_no {P Q : ByteArray} (f : Bool → Bool → Bool) (h : (bOk 729 P.data.toList && bOk 729 Q.data.toList) = false) : bothR P Q f = none := by unfold bothR; rw [h]; rfl
theorem notR_yes {P : ByteArray} (hp : bOk 729 P.data.toList = true) : notR P = some (ngT P.data.toList) := by unfold notR; rw [hp]; rfl
theorem notR_no {P : ByteArray} (hp : bOk 729 P.data.toList = false) : notR P = none := by unfold notR; rw [hp]; rfl
set_option maxHeartbeats 1000000 in
theorem RelValid_any (S : ByteArray) (hS : S.size ≤ 1000000000000) (w : World) : Calls Try.prog 22 #[.string S] w fun e w' => e = .returned (.bool (bOk 729 S.data.toList)) ∧ w = w' := by
  have B := Lib.hid (bitsOk_any S 729 (by omega) hS w)
  simp only [Int.cast_ofNat_Int] at B
  go_enter Try.func22, Try.ntmps22
  go_wp2_with fail
  refine B.out.mono ?_
  rintro e w' ⟨rfl, rfl⟩
  go_wp2_with fail
  go_ret
  exact ⟨rfl, rfl⟩
set_option maxHeartbeats 1000000 in
theorem RelValidS_any (S : ByteArray) (hS : S.size ≤ 1000000000000) (w : World) : Calls Try.prog 88 #[.string S] w fun e w' => e = .returned (.bool (bOk 729 S.data.toList)) ∧ w = w' := by
  have B := Lib.hid (l2Bits_any S 729 hS w)
  simp only [Int.cast_ofNat_Int] at B
  go_enter Try.func88, Try.ntmps88
  go_wp2_with fail
  refine B.out.mono ?_
  rintro e w' ⟨rfl, rfl⟩
  go_wp2_with fail
  go_ret
  exact ⟨rfl, rfl⟩
theorem at_pair {P : ByteArray} {i j : Nat} (hlt : 27 * i + j < P.size) : ro P.data.toList i j = (P[27 * i + j] == 49) := bt_at hlt
set_option maxHeartbeats 2000000 in
theorem pair_any (P : ByteArray) (hp : bOk 729 P.data.toList = true) (i j : Nat) (hi : i < 27) (hj : j < 27) (I J : Int) (hI : I = (i : Int)) (hJ : J = (j : Int)) (w : World) : Calls Try.prog 83 #[.string P, .int .i64 I, .int .i64 J] w fun e w' => e = .returned (.bool (ro P.data.toList i j)) ∧ w = w' := by
  subst hI hJ
  have hz := okR_size hp
  obtain ⟨n, hn⟩ : ∃ n, n = 27 * i + j := ⟨_, rfl⟩
  have hlt : n < P.size := by omega
  have e : (27 * (i : Int) + (j : Int)) = (n : Int) := by omega
  cases hb : ro P.data.toList i j
  · have c1 : P[n] = 48 := bt_zero hp hlt (by rw [hn]; exact hb)
    clear hb hp hn
    go_enter Try.func83, Try.ntmps83
    go_wp2_with fail
    try rw [e]
    go_wp2_with fail
    go_ret
    exact ⟨rfl, rfl⟩
  · have c1 : P[n] = 49 := bt_yes hlt (by rw [hn]; exact hb)
    clear hb hp hn
    go_enter Try.func83, Try.ntmps83
    go_wp2_with fail
    try rw [e]
    go_wp2_with fail
    go_ret
    exact ⟨rfl, rfl⟩
set_option maxHeartbeats 4000000 in
theorem andR1_any (P Q : ByteArray) (hp : bOk 729 P.data.toList = true) (hq : bOk 729 Q.data.toList = true) (i : Nat) (hi : i < 729) (c d : Nat) (W : World) (h1 : W.cell? ⟨c, 0, none⟩ = some (.string P)) (h2 : W.cell? ⟨d, 0, none⟩ = some (.string Q)) :
    Calls Try.prog 148 #[.int .i64 (i : Int), .pointer (some ⟨c, 0, none⟩), .pointer (some ⟨d, 0, none⟩)] W fun e W' => e = .returned (.bool (bt P.data.toList i && bt Q.data.toList i)) ∧ Below W.heap.size W W' := by
  have hpz : i < P.size := by rw [← len_S, bOk_len hp]; exact hi
  have hqz : i < Q.size := by rw [← len_S, bOk_len hq]; exact hi
  cases hb : bt P.data.toList i
  · have c1 := bt_zero hp hpz hb
    cases hb2 : bt Q.data.toList i
    · have c2 := bt_zero hq hqz hb2
      clear hb hb2 hp hq
      go_enter Try.func148, Try.ntmps148
      go_wp2_with fail
      go_ret
      exact ⟨rfl, Below.refl _ _⟩
    · have c2 := bt_yes hqz hb2
      clear hb hb2 hp hq
      go_enter Try.func148, Try.ntmps148
      go_wp2_with fail
      go_ret
      exact ⟨rfl, Below.refl _ _⟩
  · have c1 := bt_yes hpz hb
    cases hb2 : bt Q.data.toList i
    · have c2 := bt_zero hq hqz hb2
      clear hb hb2 hp hq
      go_enter Try.func148, Try.ntmps148
      go_wp2_with fail
      go_ret
      exact ⟨rfl, Below.refl _ _⟩
    · have c2 := bt_yes hqz hb2
      clear hb hb2 hp hq
      go_enter Try.func148, Try.ntmps148
      go_wp2_with fail
      go_ret
      exact ⟨rfl, Below.refl _ _⟩
set_option maxHeartbeats 4000000 in
theorem orR1_any (P Q : ByteArray) (hp : bOk 729 P.data.toList = true) (hq : bOk 729 Q.data.toList = true) (i : Nat) (hi : i < 729) (c d : Nat) (W : World) (h1 : W.cell? ⟨c, 0, none⟩ = some (.string P)) (h2 : W.cell? ⟨d, 0, none⟩ = some (.string Q)) :
    Calls Try.prog 149 #[.int .i64 (i : Int), .pointer (some ⟨c, 0, none⟩), .pointer (some ⟨d, 0, none⟩)] W fun e W' => e = .returned (.bool (bt P.data.toList i || bt Q.data.toList i)) ∧ Below W.heap.size W W' := by
  have hpz : i < P.size := by rw [← len_S, bOk_len hp]; exact hi
  have hqz : i < Q.size := by rw [← len_S, bOk_len hq]; exact hi
  cases hb : bt P.data.toList i
  · have c1 := bt_zero hp hpz hb
    cases hb2 : bt Q.data.toList i
    · have c2 := bt_zero hq hqz hb2
      clear hb hb2 hp hq
      go_enter Try.func149, Try.ntmps149
      go_wp2_with fail
      go_ret
      exact ⟨rfl, Below.refl _ _⟩
    · have c2 := bt_yes hqz hb2
      clear hb hb2 hp hq
      go_enter Try.func149, Try.ntmps149
      go_wp2_with fail
      go_ret
      exact ⟨rfl, Below.refl _ _⟩
  · have c1 := bt_yes hpz hb
    cases hb2 : bt Q.data.toList i
    · have c2 := bt_zero hq hqz hb2
      clear hb hb2 hp hq
      go_enter Try.func149, Try.ntmps149
      go_wp2_with fail
      go_ret
      exact ⟨rfl, Below.refl _ _⟩
    · have c2 := bt_yes hqz hb2
      clear hb hb2 hp hq
      go_enter Try.func149, Try.ntmps149
      go_wp2_with fail
      go_ret
      exact ⟨rfl, Below.refl _ _⟩
set_option maxHeartbeats 4000000 in
theorem ngR1_any (P : ByteArray) (hp : bOk 729 P.data.toList = true) (i : Nat) (hi : i < 729) (c : Nat) (W : World) (h1 : W.cell? ⟨c, 0, none⟩ = some (.string P)) :
    Calls Try.prog 140 #[.int .i64 (i : Int), .pointer (some ⟨c, 0, none⟩)] W fun e W' => e = .returned (.bool (!bt P.data.toList i)) ∧ Below W.heap.size W W' := by
  have hpz : i < P.size := by rw [← len_S, bOk_len hp]; exact hi
  skip
  cases hb : bt P.data.toList i
  · have c1 := bt_zero hp hpz hb
    clear hb hp
    go_enter Try.func140, Try.ntmps140
    go_wp2_with fail
    go_ret
    exact ⟨rfl, Below.refl _ _⟩
  · have c1 := bt_yes hpz hb
    clear hb hp
    go_enter Try.func140, Try.ntmps140
    go_wp2_with fail
    go_ret
    exact ⟨rfl, Below.refl _ _⟩
set_option maxRecDepth 100000 in
set_option maxHeartbeats 4000000 in
theorem andR_any (P Q : ByteArray) (hp : bOk 729 P.data.toList = true) (hq : bOk 729 Q.data.toList = true) (w : World) : Calls Try.prog 100 #[.string P, .string Q] w fun e w' => (e = .returned (.string (bs (opT (· && ·) P.data.toList Q.data.toList))) ∧ Below w.heap.size w w') := by
  have B2 := Lib.hid ((below_n w (.cells #[.string P] 9)).alloc (by simp) (.cells #[.string Q] 9))
  have k1 : Blk ((w.alloc (.cells #[.string P] 9)).alloc (.cells #[.string Q] 9)) w.heap.size 9 #[.string P] := (Blk.new w _ _).alloc _
  have k2 : Blk ((w.alloc (.cells #[.string P] 9)).alloc (.cells #[.string Q] 9)) (w.heap.size + 1) 9 #[.string Q] := by
    have := Blk.new (w.alloc (.cells #[.string P] 9)) 9 #[.string Q]
    simp at this
    exact this
  have ST := Lib.hid (bits_any 148 (enterF Try.func148 (by kernel_rfl) rfl) #[.pointer (some ⟨w.heap.size, 0, none⟩), .pointer (some ⟨w.heap.size + 1, 0, none⟩)] 729 (by omega) (fun i => (· && ·) (bt P.data.toList i) (bt Q.data.toList i)) ((w.alloc (.cells #[.string P] 9)).alloc (.cells #[.string Q] 9))
    (fun i hi W hW => andR1_any P Q hp hq i hi w.heap.size (w.heap.size + 1) W ((hW.cell (p := ⟨w.heap.size, 0, none⟩) k1.lt).trans (k1.cell 0)) ((hW.cell (p := ⟨w.heap.size + 1, 0, none⟩) k2.lt).trans (k2.cell 0))))
  simp only [Int.cast_ofNat_Int] at ST
  have hmf : ∀ (f : Fn) (first cap : Array Value) (w : World), (Instr.makeFunc f first cap).run Try.prog w = .ok (.func f first cap) w := fun _ _ _ _ => rfl
  have he : bitsN 729 (fun i => (· && ·) (bt P.data.toList i) (bt Q.data.toList i)) = opT (· && ·) P.data.toList Q.data.toList := rfl
  rw [he] at ST
  obtain ⟨RO, hRO⟩ : ∃ r, opT (· && ·) P.data.toList Q.data.toList = r := ⟨_, rfl⟩
  rw [hRO] at ST ⊢
  clear k1 k2 hp hq he hRO
  go_enter Try.func100, Try.ntmps100
  go_wp2_with fail
  refine ST.out.mono ?_
  rintro e w3 ⟨rfl, hb3⟩
  have B3 := Lib.hid (below_2 B2.out hb3)
  clear hb3
  go_wp2_with fail
  go_ret
  exact ⟨rfl, B3.out⟩
set_option maxRecDepth 100000 in
set_option maxHeartbeats 4000000 in
theorem orR_any (P Q : ByteArray) (hp : bOk 729 P.data.toList = true) (hq : bOk 729 Q.data.toList = true) (w : World) : Calls Try.prog 101 #[.string P, .string Q] w fun e w' => (e = .returned (.string (bs (opT (· || ·) P.data.toList Q.data.toList))) ∧ Below w.heap.size w w') := by
  have B2 := Lib.hid ((below_n w (.cells #[.string P] 9)).alloc (by simp) (.cells #[.string Q] 9))
  have k1 : Blk ((w.alloc (.cells #[.string P] 9)).alloc (.cells #[.string Q] 9)) w.heap.size 9 #[.string P] := (Blk.new w _ _).alloc _
  have k2 : Blk ((w.alloc (.cells #[.string P] 9)).alloc (.cells #[.string Q] 9)) (w.heap.size + 1) 9 #[.string Q] := by
    have := Blk.new (w.alloc (.cells #[.string P] 9)) 9 #[.string Q]
    simp at this
    exact this
  have ST := Lib.hid (bits_any 149 (enterF Try.func149 (by kernel_rfl) rfl) #[.pointer (some ⟨w.heap.size, 0, none⟩), .pointer (some ⟨w.heap.size + 1, 0, none⟩)] 729 (by omega) (fun i => (· || ·) (bt P.data.toList i) (bt Q.data.toList i)) ((w.alloc (.cells #[.string P] 9)).alloc (.cells #[.string Q] 9))
    (fun i hi W hW => orR1_any P Q hp hq i hi w.heap.size (w.heap.size + 1) W ((hW.cell (p := ⟨w.heap.size, 0, none⟩) k1.lt).trans (k1.cell 0)) ((hW.cell (p := ⟨w.heap.size + 1, 0, none⟩) k2.lt).trans (k2.cell 0))))
  simp only [Int.cast_ofNat_Int] at ST
  have hmf : ∀ (f : Fn) (first cap : Array Value) (w : World), (Instr.makeFunc f first cap).run Try.prog w = .ok (.func f first cap) w := fun _ _ _ _ => rfl
  have he : bitsN 729 (fun i => (· || ·) (bt P.data.toList i) (bt Q.data.toList i)) = opT (· || ·) P.data.toList Q.data.toList := rfl
  rw [he] at ST
  obtain ⟨RO, hRO⟩ : ∃ r, opT (· || ·) P.data.toList Q.data.toList = r := ⟨_, rfl⟩
  rw [hRO] at ST ⊢
  clear k1 k2 hp hq he hRO
  go_enter Try.func101, Try.ntmps101
  go_wp2_with fail
  refine ST.out.mono ?_
  rintro e w3 ⟨rfl, hb3⟩
  have B3 := Lib.hid (below_2 B2.out hb3)
  clear hb3
  go_wp2_with fail
  go_ret
  exact ⟨rfl, B3.out⟩
set_option maxRecDepth 100000 in
set_option maxHeartbeats 4000000 in
theorem ngR_any (P : ByteArray) (hp : bOk 729 P.data.toList = true) (w : World) : Calls Try.prog 87 #[.string P] w fun e w' => (e = .returned (.string (bs (ngT P.data.toList))) ∧ Below w.heap.size w w') := by
  have B2 := Lib.hid (below_n w (.cells #[.string P] 9))
  have k1 : Blk (w.alloc (.cells #[.string P] 9)) w.heap.size 9 #[.string P] := Blk.new w _ _
  have ST := Lib.hid (bits_any 140 (enterF Try.func140 (by kernel_rfl) rfl) #[.pointer (some ⟨w.heap.size, 0, none⟩)] 729 (by omega) (fun i => !bt P.data.toList i) (w.alloc (.cells #[.string P] 9))
    (fun i hi W hW => ngR1_any P hp i hi w.heap.size W ((hW.cell (p := ⟨w.heap.size, 0, none⟩) k1.lt).trans (k1.cell 0))))
  simp only [Int.cast_ofNat_Int] at ST
  have hmf : ∀ (f : Fn) (first cap : Array Value) (w : World), (Instr.makeFunc f first cap).run Try.prog w = .ok (.func f first cap) w := fun _ _ _ _ => rfl
  have he : bitsN 729 (fun i => !bt P.data.toList i) = ngT P.data.toList := rfl
  rw [he] at ST
  obtain ⟨RO, hRO⟩ : ∃ r, ngT P.data.toList = r := ⟨_, rfl⟩
  rw [hRO] at ST ⊢
  clear k1 hp he hRO
  go_enter Try.func87, Try.ntmps87
  go_wp2_with fail
  refine ST.out.mono ?_
  rintro e w3 ⟨rfl, hb3⟩
  have B3 := Lib.hid (below_2 B2.out hb3)
  clear hb3
  go_wp2_with fail
  go_ret
  exact ⟨rfl, B3.out⟩
set_option maxRecDepth 100000 in
set_option maxHeartbeats 2000000 in
theorem AndRel_any (P Q : ByteArray) (hP : P.size ≤ 1000000000000) (hQ : Q.size ≤ 1000000000000) (w : World) : Calls Try.prog 40 #[.string P, .string Q] w fun e w' => (e = .returned (.tuple #[.string (bs (optB (bothR P Q (· && ·)))), .bool (bothR P Q (· && ·)).isSome]) ∧ Below w.heap.size w w') := by
  have V := Lib.hid (fun w => RelValid_any P hP w)
  have U := Lib.hid (fun w => RelValid_any Q hQ w)
  cases hp : bOk 729 P.data.toList
  · rw [bothR_no (· && ·) (by rw [hp]; rfl)]
    rw [hp] at V
    simp only [optB, Option.isSome_none]
    go_enter Try.func40, Try.ntmps40
    go_wp2_with fail
    refine (V.out _).mono ?_
    rintro e w' ⟨rfl, rfl⟩
    go_wp2_with fail
    go_ret2
    exact ⟨(by first | trivial | rfl), Below.refl _ _⟩
  · cases hq : bOk 729 Q.data.toList
    · rw [bothR_no (· && ·) (by rw [hp, hq]; rfl)]
      rw [hp] at V
      rw [hq] at U
      simp only [optB, Option.isSome_none]
      go_enter Try.func40, Try.ntmps40
      go_wp2_with fail
      refine (V.out _).mono ?_
      rintro e w' ⟨rfl, rfl⟩
      go_wp2_with fail
      refine (U.out _).mono ?_
      rintro e w' ⟨rfl, rfl⟩
      go_wp2_with fail
      go_ret2
      exact ⟨(by first | trivial | rfl), Below.refl _ _⟩
    · rw [bothR_yes (· && ·) hp hq]
      have z1 := okR_size hp
      have z2 := okR_size hq
      rw [hp] at V
      rw [hq] at U
      simp only [optB, Option.isSome_some]
      have X := Lib.hid (fun w => andR_any P Q hp hq w)
      skip
      skip
      skip
      obtain ⟨RO, hRO⟩ : ∃ r, opT (· && ·) P.data.toList Q.data.toList = r := ⟨_, rfl⟩
      rw [hRO] at X ⊢
      clear hRO hp hq z1 z2
      go_enter Try.func40, Try.ntmps40
      go_wp2_with fail
      refine (V.out _).mono ?_
      rintro e w' ⟨rfl, rfl⟩
      go_wp2_with fail
      refine (U.out _).mono ?_
      rintro e w' ⟨rfl, rfl⟩
      go_wp2_with fail
      refine (X.out _).mono ?_
      rintro e w3 ⟨rfl, hb3⟩
      have B3 := Lib.hid hb3
      clear hb3
      go_wp2_with fail
      go_ret2
      exact ⟨(by first | trivial | rfl), B3.out⟩
set_option maxRecDepth 100000 in
set_option maxHeartbeats 2000000 in
theorem OrRel_any (P Q : ByteArray) (hP : P.size ≤ 1000000000000) (hQ : Q.size ≤ 1000000000000) (w : World) : Calls Try.prog 42 #[.string P, .string Q] w fun e w' => (e = .returned (.tuple #[.string (bs (optB (bothR P Q (· || ·)))), .bool (bothR P Q (· || ·)).isSome]) ∧ Below w.heap.size w w') := by
  have V := Lib.hid (fun w => RelValid_any P hP w)
  have U := Lib.hid (fun w => RelValid_any Q hQ w)
  cases hp : bOk 729 P.data.toList
  · rw [bothR_no (· || ·) (by rw [hp]; rfl)]
    rw [hp] at V
    simp only [optB, Option.isSome_none]
    go_enter Try.func42, Try.ntmps42
    go_wp2_with fail
    refine (V.out _).mono ?_
    rintro e w' ⟨rfl, rfl⟩
    go_wp2_with fail
    go_ret2
    exact ⟨(by first | trivial | rfl), Below.refl _ _⟩
  · cases hq : bOk 729 Q.data.toList
    · rw [bothR_no (· || ·) (by rw [hp, hq]; rfl)]
      rw [hp] at V
      rw [hq] at U
      simp only [optB, Option.isSome_none]
      go_enter Try.func42, Try.ntmps42
      go_wp2_with fail
      refine (V.out _).mono ?_
      rintro e w' ⟨rfl, rfl⟩
      go_wp2_with fail
      refine (U.out _).mono ?_
      rintro e w' ⟨rfl, rfl⟩
      go_wp2_with fail
      go_ret2
      exact ⟨(by first | trivial | rfl), Below.refl _ _⟩
    · rw [bothR_yes (· || ·) hp hq]
      have z1 := okR_size hp
      have z2 := okR_size hq
      rw [hp] at V
      rw [hq] at U
      simp only [optB, Option.isSome_some]
      have X := Lib.hid (fun w => orR_any P Q hp hq w)
      skip
      skip
      skip
      obtain ⟨RO, hRO⟩ : ∃ r, opT (· || ·) P.data.toList Q.data.toList = r := ⟨_, rfl⟩
      rw [hRO] at X ⊢
      clear hRO hp hq z1 z2
      go_enter Try.func42, Try.ntmps42
      go_wp2_with fail
      refine (V.out _).mono ?_
      rintro e w' ⟨rfl, rfl⟩
      go_wp2_with fail
      refine (U.out _).mono ?_
      rintro e w' ⟨rfl, rfl⟩
      go_wp2_with fail
      refine (X.out _).mono ?_
      rintro e w3 ⟨rfl, hb3⟩
      have B3 := Lib.hid hb3
      clear hb3
      go_wp2_with fail
      go_ret2
      exact ⟨(by first | trivial | rfl), B3.out⟩
set_option maxRecDepth 100000 in
set_option maxHeartbeats 2000000 in
theorem AndRelS_any (P Q : ByteArray) (hP : P.size ≤ 1000000000000) (hQ : Q.size ≤ 1000000000000) (w : World) : Calls Try.prog 41 #[.string P, .string Q] w fun e w' => (e = .returned (.tuple #[.string (bs (optB (bothR P Q (· && ·)))), .bool (bothR P Q (· && ·)).isSome]) ∧ Below w.heap.size w w') := by
  have V := Lib.hid (fun w => RelValidS_any P hP w)
  have U := Lib.hid (fun w => RelValidS_any Q hQ w)
  cases hp : bOk 729 P.data.toList
  · rw [bothR_no (· && ·) (by rw [hp]; rfl)]
    rw [hp] at V
    simp only [optB, Option.isSome_none]
    go_enter Try.func41, Try.ntmps41
    go_wp2_with fail
    refine (V.out _).mono ?_
    rintro e w' ⟨rfl, rfl⟩
    go_wp2_with fail
    go_ret2
    exact ⟨(by first | trivial | rfl), Below.refl _ _⟩
  · cases hq : bOk 729 Q.data.toList
    · rw [bothR_no (· && ·) (by rw [hp, hq]; rfl)]
      rw [hp] at V
      rw [hq] at U
      simp only [optB, Option.isSome_none]
      go_enter Try.func41, Try.ntmps41
      go_wp2_with fail
      refine (V.out _).mono ?_
      rintro e w' ⟨rfl, rfl⟩
      go_wp2_with fail
      refine (U.out _).mono ?_
      rintro e w' ⟨rfl, rfl⟩
      go_wp2_with fail
      go_ret2
      exact ⟨(by first | trivial | rfl), Below.refl _ _⟩
    · rw [bothR_yes (· && ·) hp hq]
      have z1 := okR_size hp
      have z2 := okR_size hq
      rw [hp] at V
      rw [hq] at U
      simp only [optB, Option.isSome_some]
      have X := Lib.hid (fun w => l2And_any P Q (by omega) (by omega) w)
      rw [z1] at X
      have he : bitsN 729 (fun i => (· && ·) (bt P.data.toList i) (bt Q.data.toList i)) = opT (· && ·) P.data.toList Q.data.toList := rfl
      rw [he] at X
      obtain ⟨RO, hRO⟩ : ∃ r, opT (· && ·) P.data.toList Q.data.toList = r := ⟨_, rfl⟩
      rw [hRO] at X ⊢
      clear hRO hp hq z1 z2
      go_enter Try.func41, Try.ntmps41
      go_wp2_with fail
      refine (V.out _).mono ?_
      rintro e w' ⟨rfl, rfl⟩
      go_wp2_with fail
      refine (U.out _).mono ?_
      rintro e w' ⟨rfl, rfl⟩
      go_wp2_with fail
      refine (X.out _).mono ?_
      rintro e w3 ⟨rfl, hb3⟩
      have B3 := Lib.hid hb3
      clear hb3
      go_wp2_with fail
      go_ret2
      exact ⟨(by first | trivial | rfl), B3.out⟩
set_option maxRecDepth 100000 in
set_option maxHeartbeats 2000000 in
theorem OrRelS_any (P Q : ByteArray) (hP : P.size ≤ 1000000000000) (hQ : Q.size ≤ 1000000000000) (w : World) : Calls Try.prog 43 #[.string P, .string Q] w fun e w' => (e = .returned (.tuple #[.string (bs (optB (bothR P Q (· || ·)))), .bool (bothR P Q (· || ·)).isSome]) ∧ Below w.heap.size w w') := by
  have V := Lib.hid (fun w => RelValidS_any P hP w)
  have U := Lib.hid (fun w => RelValidS_any Q hQ w)
  cases hp : bOk 729 P.data.toList
  · rw [bothR_no (· || ·) (by rw [hp]; rfl)]
    rw [hp] at V
    simp only [optB, Option.isSome_none]
    go_enter Try.func43, Try.ntmps43
    go_wp2_with fail
    refine (V.out _).mono ?_
    rintro e w' ⟨rfl, rfl⟩
    go_wp2_with fail
    go_ret2
    exact ⟨(by first | trivial | rfl), Below.refl _ _⟩
  · cases hq : bOk 729 Q.data.toList
    · rw [bothR_no (· || ·) (by rw [hp, hq]; rfl)]
      rw [hp] at V
      rw [hq] at U
      simp only [optB, Option.isSome_none]
      go_enter Try.func43, Try.ntmps43
      go_wp2_with fail
      refine (V.out _).mono ?_
      rintro e w' ⟨rfl, rfl⟩
      go_wp2_with fail
      refine (U.out _).mono ?_
      rintro e w' ⟨rfl, rfl⟩
      go_wp2_with fail
      go_ret2
      exact ⟨(by first | trivial | rfl), Below.refl _ _⟩
    · rw [bothR_yes (· || ·) hp hq]
      have z1 := okR_size hp
      have z2 := okR_size hq
      rw [hp] at V
      rw [hq] at U
      simp only [optB, Option.isSome_some]
      have X := Lib.hid (fun w => l2Or_any P Q (by omega) (by omega) w)
      rw [z1] at X
      have he : bitsN 729 (fun i => (· || ·) (bt P.data.toList i) (bt Q.data.toList i)) = opT (· || ·) P.data.toList Q.data.toList := rfl
      rw [he] at X
      obtain ⟨RO, hRO⟩ : ∃ r, opT (· || ·) P.data.toList Q.data.toList = r := ⟨_, rfl⟩
      rw [hRO] at X ⊢
      clear hRO hp hq z1 z2
      go_enter Try.func43, Try.ntmps43
      go_wp2_with fail
      refine (V.out _).mono ?_
      rintro e w' ⟨rfl, rfl⟩
      go_wp2_with fail
      refine (U.out _).mono ?_
      rintro e w' ⟨rfl, rfl⟩
      go_wp2_with fail
      refine (X.out _).mono ?_
      rintro e w3 ⟨rfl, hb3⟩
      have B3 := Lib.hid hb3
      clear hb3
      go_wp2_with fail
      go_ret2
      exact ⟨(by first | trivial | rfl), B3.out⟩
set_option maxRecDepth 100000 in
set_option maxHeartbeats 4000000 in
theorem l2Not_any (P : ByteArray) {n : Nat} (hp : bOk n P.data.toList = true) (hP : P.size ≤ 1000) (w : World) : Calls Try.prog 89 #[.string P] w fun e w' => (e = .returned (.string (bs (bitsN P.size (fun i => !bt P.data.toList i)))) ∧ Below w.heap.size w w') := by
  have hmk := run_make_row' (P := Try.prog) 22 5 (.int .u8 0) 1 Try.underlying22 u8_info rfl .i64 .i64 P.size (by omega) (by omega)
  obtain ⟨bb, hbt⟩ : ∃ f : Nat → Bool, (fun i => !bt P.data.toList i) = f := ⟨_, rfl⟩
  rw [hbt]
  have HBT := Lib.hid (fun i => congrFun hbt i)
  have R0 : Hid (ByteRow (w.alloc (.cells (madeCells #[.int .u8 0] P.size) 5)) w.heap.size (fillN (bitsN P.size bb) 0)) := by rw [part_zero, bits_len]; exact byteRow_made w P.size
  have B0 := Lib.hid (below_n w (.cells (madeCells #[.int .u8 0] P.size) 5))
  have HP := Lib.hid hp
  clear hbt hp
  go_enter Try.func89, Try.ntmps89
  go_wp2_with fail
  go_loopg [4] P.size (fun gk i wr => ∃ k : Nat, k + gk = P.size ∧ i = .int .i64 k ∧ Hid (ByteRow wr w.heap.size (fillN (bitsN P.size bb) k)) ∧ Hid (Below w.heap.size w wr))
  case atStart => exact ⟨0, by simp, rfl, R0, B0⟩
  case round =>
    clear R0 B0 hmk
    obtain ⟨j, hj, rfl, R, B⟩ := hrel
    by_cases hlt : j < P.size
    · have hkl : j < (fillN (bitsN P.size bb) j).length := by rw [part_len _ _ (by rw [bits_len]; omega), bits_len]; exact hlt
      obtain ⟨⟨cv, hcc⟩, hf⟩ := R.out.any (i := j) hkl
      have B4 := Lib.hid (B.out.setCell (p := ⟨w.heap.size, j, none⟩) (Nat.le_refl _) (.int .u8 ((bitC (bb j)).toNat : Int)))
      have R4 := Lib.hid (row_step R.out hlt)
      clear R B hkl
      have hbj := (HBT.out j).symm
      cases hb : bt P.data.toList j
      · have c1 := bt_zero HP.out hlt hb
        rw [hb] at hbj
        have hv : bb j = true := hbj
        rw [hv] at R4 B4
        have BI := Lib.hid (l2Bit_any true)
        clear hv hbj hb
        go_wp2_with fail
        refine (BI.out _).mono ?_
        rintro e w' ⟨rfl, rfl⟩
        go_wp2_with fail
        go_roundg (gk - 1)
        case measure => omega
        case rel => exact ⟨j + 1, by omega, by go_num, R4, B4⟩
      · have c1 := bt_yes hlt hb
        rw [hb] at hbj
        have hv : bb j = false := hbj
        rw [hv] at R4 B4
        have BI := Lib.hid (l2Bit_any false)
        clear hv hbj hb
        go_wp2_with fail
        refine (BI.out _).mono ?_
        rintro e w' ⟨rfl, rfl⟩
        go_wp2_with fail
        go_roundg (gk - 1)
        case measure => omega
        case rel => exact ⟨j + 1, by omega, by go_num, R4, B4⟩
    · obtain rfl : j = P.size := by omega
      have r := R.out
      have hpa := part_all (bitsN P.size bb)
      rw [bits_len] at hpa
      rw [hpa] at r
      have hback := bytes_back r (n := P.size) (by rw [bits_len]) P.size
      clear r R hpa hlt
      go_wp2_with fail
      go_ret
      exact ⟨rfl, B.out⟩
set_option maxRecDepth 100000 in
set_option maxHeartbeats 2000000 in
theorem NotRel_any (P : ByteArray) (hP : P.size ≤ 1000000000000) (w : World) : Calls Try.prog 25 #[.string P] w fun e w' => (e = .returned (.tuple #[.string (bs (optB (notR P))), .bool (notR P).isSome]) ∧ Below w.heap.size w w') := by
  have V := Lib.hid (fun w => RelValid_any P hP w)
  cases hp : bOk 729 P.data.toList
  · rw [notR_no hp]
    rw [hp] at V
    simp only [optB, Option.isSome_none]
    go_enter Try.func25, Try.ntmps25
    go_wp2_with fail
    refine (V.out _).mono ?_
    rintro e w' ⟨rfl, rfl⟩
    go_wp2_with fail
    go_ret2
    exact ⟨(by first | trivial | rfl), Below.refl _ _⟩
  · rw [notR_yes hp]
    have z1 := okR_size hp
    rw [hp] at V
    simp only [optB, Option.isSome_some]
    have X := Lib.hid (fun w => ngR_any P hp w)
    try rw [z1] at X
    have he : bitsN 729 (fun i => !bt P.data.toList i) = ngT P.data.toList := rfl
    try rw [he] at X
    obtain ⟨RO, hRO⟩ : ∃ r, ngT P.data.toList = r := ⟨_, rfl⟩
    rw [hRO] at X ⊢
    clear hRO hp z1 he
    go_enter Try.func25, Try.ntmps25
    go_wp2_with fail
    refine (V.out _).mono ?_
    rintro e w' ⟨rfl, rfl⟩
    go_wp2_with fail
    refine (X.out _).mono ?_
    rintro e w3 ⟨rfl, hb3⟩
    have B3 := Lib.hid hb3
    clear hb3
    go_wp2_with fail
    go_ret2
    exact ⟨(by first | trivial | rfl), B3.out⟩
set_option maxRecDepth 100000 in
set_option maxHeartbeats 2000000 in
theorem NotRelS_any (P : ByteArray) (hP : P.size ≤ 1000000000000) (w : World) : Calls Try.prog 26 #[.string P] w fun e w' => (e = .returned (.tuple #[.string (bs (optB (notR P))), .bool (notR P).isSome]) ∧ Below w.heap.size w w') := by
  have V := Lib.hid (fun w => RelValidS_any P hP w)
  cases hp : bOk 729 P.data.toList
  · rw [notR_no hp]
    rw [hp] at V
    simp only [optB, Option.isSome_none]
    go_enter Try.func26, Try.ntmps26
    go_wp2_with fail
    refine (V.out _).mono ?_
    rintro e w' ⟨rfl, rfl⟩
    go_wp2_with fail
    go_ret2
    exact ⟨(by first | trivial | rfl), Below.refl _ _⟩
  · rw [notR_yes hp]
    have z1 := okR_size hp
    rw [hp] at V
    simp only [optB, Option.isSome_some]
    have X := Lib.hid (fun w => l2Not_any P hp (by omega) w)
    try rw [z1] at X
    have he : bitsN 729 (fun i => !bt P.data.toList i) = ngT P.data.toList := rfl
    try rw [he] at X
    obtain ⟨RO, hRO⟩ : ∃ r, ngT P.data.toList = r := ⟨_, rfl⟩
    rw [hRO] at X ⊢
    clear hRO hp z1 he
    go_enter Try.func26, Try.ntmps26
    go_wp2_with fail
    refine (V.out _).mono ?_
    rintro e w' ⟨rfl, rfl⟩
    go_wp2_with fail
    refine (X.out _).mono ?_
    rintro e w3 ⟨rfl, hb3⟩
    have B3 := Lib.hid hb3
    clear hb3
    go_wp2_with fail
    go_ret2
    exact ⟨(by first | trivial | rfl), B3.out⟩
theorem winR_no {p q : List UInt8} {i : Nat} (hi : i < 729) (h1 : bt p i = true) (h2 : bt q i = false) : winR p q = false := by
  cases h : winR p q
  · rfl
  · have := winR_iff.1 h i hi h1
    rw [h2] at this; cases this
def winRO (p q : List UInt8) : Bool := bOk 729 p && bOk 729 q && winR p q
theorem winR_eq {P : ByteArray} {q : List UInt8} (hp : bOk 729 P.data.toList = true) : ((bs (bitsN 729 (fun i => bt P.data.toList i && bt q i))).toList == P.toList) = winR P.data.toList q := by
  rw [Bool.eq_iff_iff, beq_iff_eq, ByteArray.toList_eq, ByteArray.toList_eq, bs_list]
  exact winR_and hp
def cntRO (l : List UInt8) : Int := if bOk 729 l then (cntR l : Int) else -1
theorem count_ofR {l : List UInt8} (h : bOk 729 l = true) : l.count 49 = cntR l := by
  unfold cntR
  rw [← cnt_bits, bits_of h]
set_option maxRecDepth 100000 in
set_option maxHeartbeats 4000000 in
theorem bitsWithinR_any (P Q : ByteArray) (hp : bOk 729 P.data.toList = true) (hq : bOk 729 Q.data.toList = true) (w : World) : Calls Try.prog 97 #[.string P, .string Q] w fun e w' => e = .returned (.bool (winR P.data.toList Q.data.toList)) ∧ w = w' := by
  have z1 : P.size = 729 := by rw [← len_S, bOk_len hp]
  have z2 : Q.size = 729 := by rw [← len_S, bOk_len hq]
  have HP := Lib.hid hp
  have HQ := Lib.hid hq
  clear hp hq
  go_enter Try.func97, Try.ntmps97
  go_wp2_with fail
  go_loopg [8] P.size (fun gk i wr => ∃ j : Nat, j + gk = P.size ∧ i = .int .i64 j ∧ Hid (∀ i, i < j → bt P.data.toList i = true → bt Q.data.toList i = true) ∧ wr = w)
  case atStart => exact ⟨0, by omega, rfl, Lib.hid (fun i h => absurd h (by omega)), rfl⟩
  case round =>
    obtain ⟨j, hj, rfl, HR, rfl⟩ := hrel
    by_cases hlt : j < P.size
    · have hlq : j < Q.size := by omega
      have h729 : j < 729 := by omega
      cases hb : bt P.data.toList j
      · have c1 := bt_zero HP.out hlt hb
        have HR2 : Hid (∀ i, i < j + 1 → bt P.data.toList i = true → bt Q.data.toList i = true) := fun i hi h => by
          by_cases e : i = j
          · subst e; rw [hb] at h; cases h
          · exact HR.out i (by omega) h
        clear hb
        clear HR
        go_wp2_with fail
        go_roundg (gk - 1)
        case measure => omega
        case rel => exact ⟨j + 1, by omega, by go_num, HR2, rfl⟩
      · have c1 := bt_yes hlt hb
        cases hb2 : bt Q.data.toList j
        · have c2 := bt_zero HQ.out hlq hb2
          have HF := Lib.hid (winR_no h729 hb hb2)
          clear hb hb2 HR
          go_wp2_with fail
          go_ret
          exact ⟨ret_bool HF.out.symm, rfl⟩
        · have c2 := bt_yes hlq hb2
          have HR2 : Hid (∀ i, i < j + 1 → bt P.data.toList i = true → bt Q.data.toList i = true) := fun i hi h => by
            by_cases e : i = j
            · subst e; exact hb2
            · exact HR.out i (by omega) h
          clear hb hb2
          clear HR
          go_wp2_with fail
          go_roundg (gk - 1)
          case measure => omega
          case rel => exact ⟨j + 1, by omega, by go_num, HR2, rfl⟩
    · have HF := Lib.hid (winR_iff.2 (fun i hi h => HR.out i (by omega) h))
      clear HR
      go_wp2_with fail
      go_ret
      exact ⟨ret_bool HF.out.symm, rfl⟩
set_option maxHeartbeats 2000000 in
theorem RelWithin_any (P Q : ByteArray) (hP : P.size ≤ 1000000000000) (hQ : Q.size ≤ 1000000000000) (w : World) : Calls Try.prog 35 #[.string P, .string Q] w fun e w' => (e = .returned (.bool (winRO P.data.toList Q.data.toList)) ∧ Below w.heap.size w w') := by
  have V := Lib.hid (fun w => RelValid_any P hP w)
  have U := Lib.hid (fun w => RelValid_any Q hQ w)
  unfold winRO
  cases hp : bOk 729 P.data.toList
  · rw [hp] at V
    go_enter Try.func35, Try.ntmps35
    go_wp2_with fail
    refine (V.out _).mono ?_
    rintro e w' ⟨rfl, rfl⟩
    go_wp2_with fail
    go_ret
    exact ⟨rfl, Below.refl _ _⟩
  · cases hq : bOk 729 Q.data.toList
    · rw [hp] at V
      rw [hq] at U
      go_enter Try.func35, Try.ntmps35
      go_wp2_with fail
      refine (V.out _).mono ?_
      rintro e w' ⟨rfl, rfl⟩
      go_wp2_with fail
      refine (U.out _).mono ?_
      rintro e w' ⟨rfl, rfl⟩
      go_wp2_with fail
      go_ret
      exact ⟨rfl, Below.refl _ _⟩
    · rw [hp] at V
      rw [hq] at U
      have X := Lib.hid (fun w => bitsWithinR_any P Q hp hq w)
      simp only [Bool.true_and]
      generalize winR P.data.toList Q.data.toList = wv at *
      clear hp hq
      go_enter Try.func35, Try.ntmps35
      go_wp2_with fail
      refine (V.out _).mono ?_
      rintro e w' ⟨rfl, rfl⟩
      go_wp2_with fail
      refine (U.out _).mono ?_
      rintro e w' ⟨rfl, rfl⟩
      go_wp2_with fail
      refine (X.out _).mono ?_
      rintro e w' ⟨rfl, rfl⟩
      go_wp2_with fail
      go_ret
      exact ⟨rfl, Below.refl _ _⟩
set_option maxHeartbeats 2000000 in
theorem RelWithinS_any (P Q : ByteArray) (hP : P.size ≤ 1000000000000) (hQ : Q.size ≤ 1000000000000) (w : World) : Calls Try.prog 36 #[.string P, .string Q] w fun e w' => (e = .returned (.bool (winRO P.data.toList Q.data.toList)) ∧ Below w.heap.size w w') := by
  have V := Lib.hid (fun w => RelValidS_any P hP w)
  have U := Lib.hid (fun w => RelValidS_any Q hQ w)
  unfold winRO
  cases hp : bOk 729 P.data.toList
  · rw [hp] at V
    go_enter Try.func36, Try.ntmps36
    go_wp2_with fail
    refine (V.out _).mono ?_
    rintro e w' ⟨rfl, rfl⟩
    go_wp2_with fail
    go_ret
    exact ⟨rfl, Below.refl _ _⟩
  · cases hq : bOk 729 Q.data.toList
    · rw [hp] at V
      rw [hq] at U
      go_enter Try.func36, Try.ntmps36
      go_wp2_with fail
      refine (V.out _).mono ?_
      rintro e w' ⟨rfl, rfl⟩
      go_wp2_with fail
      refine (U.out _).mono ?_
      rintro e w' ⟨rfl, rfl⟩
      go_wp2_with fail
      go_ret
      exact ⟨rfl, Below.refl _ _⟩
    · rw [hp] at V
      rw [hq] at U
      have z1 : P.size = 729 := by rw [← len_S, bOk_len hp]
      have z2 : Q.size = 729 := by rw [← len_S, bOk_len hq]
      have X := Lib.hid (fun w => l2And_any P Q (by omega) (by omega) w)
      rw [z1] at X
      have hw := winR_eq (q := Q.data.toList) hp
      simp only [Bool.true_and]
      rw [← hw]
      generalize bs (bitsN 729 (fun i => bt P.data.toList i && bt Q.data.toList i)) = A at *
      clear hp hq z1 z2 hw
      go_enter Try.func36, Try.ntmps36
      go_wp2_with fail
      refine (V.out _).mono ?_
      rintro e w' ⟨rfl, rfl⟩
      go_wp2_with fail
      refine (U.out _).mono ?_
      rintro e w' ⟨rfl, rfl⟩
      go_wp2_with fail
      refine (X.out _).mono ?_
      rintro e w3 ⟨rfl, hb3⟩
      have B3 := Lib.hid hb3
      clear hb3
      go_wp2_with fail
      go_ret
      exact ⟨rfl, B3.out⟩
set_option maxHeartbeats 2000000 in
theorem CountRel_any (P : ByteArray) (hP : P.size ≤ 1000000000000) (w : World) : Calls Try.prog 27 #[.string P] w fun e w' => e = .returned (.int .i64 (cntRO P.data.toList)) ∧ w = w' := by
  have V := Lib.hid (fun w => RelValid_any P hP w)
  unfold cntRO
  cases hp : bOk 729 P.data.toList
  · rw [hp] at V
    simp only [Bool.false_eq_true, if_false]
    go_enter Try.func27, Try.ntmps27
    go_wp2_with fail
    refine (V.out _).mono ?_
    rintro e w' ⟨rfl, rfl⟩
    go_wp2_with fail
    go_ret
    exact ⟨rfl, rfl⟩
  · rw [hp] at V
    have X := Lib.hid (fun w => count_one P w)
    rw [count_ofR hp] at X
    simp only [if_true]
    clear hp
    go_enter Try.func27, Try.ntmps27
    go_wp2_with fail
    refine (V.out _).mono ?_
    rintro e w' ⟨rfl, rfl⟩
    go_wp2_with fail
    refine (X.out _).mono ?_
    rintro e w' ⟨rfl, rfl⟩
    go_wp2_with fail
    go_ret
    exact ⟨rfl, rfl⟩
set_option maxRecDepth 100000 in
set_option maxHeartbeats 4000000 in
theorem l2CountR_any (P : ByteArray) (hp : bOk 729 P.data.toList = true) (w : World) : Calls Try.prog 91 #[.string P] w fun e w' => e = .returned (.int .i64 (cntR P.data.toList : Nat)) ∧ w = w' := by
  have z1 : P.size = 729 := by rw [← len_S, bOk_len hp]
  have HP := Lib.hid hp
  obtain ⟨rs, hrs⟩ : ∃ r, cntR P.data.toList = r := ⟨_, rfl⟩
  rw [hrs]
  have HRS := Lib.hid hrs
  clear hp hrs
  go_enter Try.func91, Try.ntmps91
  go_wp2_with fail
  go_loopg [3, 4] P.size (fun gk n i wr => ∃ j m : Nat, j + gk = P.size ∧ i = .int .i64 j ∧ n = .int .i64 m ∧ m ≤ j ∧ Hid (cnt j (bt P.data.toList) = m) ∧ wr = w)
  case atStart => exact ⟨0, 0, by omega, rfl, rfl, Nat.le_refl _, Lib.hid rfl, rfl⟩
  case round =>
    obtain ⟨j, m, hj, rfl, rfl, hm, HM, rfl⟩ := hrel
    by_cases hlt : j < P.size
    · have hs := cnt_succ j (bt P.data.toList)
      rw [HM.out] at hs
      cases hb : bt P.data.toList j
      · have c1 := bt_zero HP.out hlt hb
        rw [hb] at hs
        have HM2 : Hid (cnt (j + 1) (bt P.data.toList) = m) := hs
        clear hb hs HM
        go_wp2_with fail
        go_roundg (gk - 1)
        case measure => omega
        case rel => exact ⟨j + 1, m, by omega, by go_num, by go_num, by omega, HM2, rfl⟩
      · have c1 := bt_yes hlt hb
        rw [hb] at hs
        have HM2 : Hid (cnt (j + 1) (bt P.data.toList) = m + 1) := hs
        clear hb hs HM
        go_wp2_with fail
        go_roundg (gk - 1)
        case measure => omega
        case rel => exact ⟨j + 1, m + 1, by omega, by go_num, by go_num, by omega, HM2, rfl⟩
    · obtain rfl : j = P.size := by omega
      have hf : rs = m := by rw [← HRS.out, ← HM.out, z1]; rfl
      subst hf
      clear HM HRS
      go_wp2_with fail
      go_ret
      exact ⟨rfl, rfl⟩
set_option maxHeartbeats 2000000 in
theorem CountRelS_any (P : ByteArray) (hP : P.size ≤ 1000000000000) (w : World) : Calls Try.prog 28 #[.string P] w fun e w' => e = .returned (.int .i64 (cntRO P.data.toList)) ∧ w = w' := by
  have V := Lib.hid (fun w => RelValidS_any P hP w)
  unfold cntRO
  cases hp : bOk 729 P.data.toList
  · rw [hp] at V
    simp only [Bool.false_eq_true, if_false]
    go_enter Try.func28, Try.ntmps28
    go_wp2_with fail
    refine (V.out _).mono ?_
    rintro e w' ⟨rfl, rfl⟩
    go_wp2_with fail
    go_ret
    exact ⟨rfl, rfl⟩
  · rw [hp] at V
    have X := Lib.hid (fun w => l2CountR_any P hp w)
    simp only [if_true]
    clear hp
    go_enter Try.func28, Try.ntmps28
    go_wp2_with fail
    refine (V.out _).mono ?_
    rintro e w' ⟨rfl, rfl⟩
    go_wp2_with fail
    refine (X.out _).mono ?_
    rintro e w' ⟨rfl, rfl⟩
    go_wp2_with fail
    go_ret
    exact ⟨rfl, rfl⟩
set_option maxHeartbeats 1000000 in
theorem ppAndRel_any (P Q : ByteArray) (hP : P.size ≤ 1000000000000) (hQ : Q.size ≤ 1000000000000) (w : World) : Calls Try.prog 29 #[.string P, .string Q] w fun e w' => (e = .returned (.string (bs (optB (bothR P Q (· && ·))))) ∧ Below w.heap.size w w') := by
  have X := Lib.hid (AndRel_any P Q hP hQ w)
  go_enter Try.func29, Try.ntmps29
  go_wp2_with fail
  refine X.out.mono ?_
  rintro e w1 ⟨rfl, hb1⟩
  have B1 := Lib.hid hb1
  clear hb1 X
  go_wp2_with fail
  go_ret
  exact ⟨rfl, B1.out⟩
set_option maxHeartbeats 1000000 in
theorem ppOrRel_any (P Q : ByteArray) (hP : P.size ≤ 1000000000000) (hQ : Q.size ≤ 1000000000000) (w : World) : Calls Try.prog 38 #[.string P, .string Q] w fun e w' => (e = .returned (.string (bs (optB (bothR P Q (· || ·))))) ∧ Below w.heap.size w w') := by
  have X := Lib.hid (OrRel_any P Q hP hQ w)
  go_enter Try.func38, Try.ntmps38
  go_wp2_with fail
  refine X.out.mono ?_
  rintro e w1 ⟨rfl, hb1⟩
  have B1 := Lib.hid hb1
  clear hb1 X
  go_wp2_with fail
  go_ret
  exact ⟨rfl, B1.out⟩
set_option maxHeartbeats 1000000 in
theorem ppNotRel_any (P : ByteArray) (hP : P.size ≤ 1000000000000) (w : World) : Calls Try.prog 23 #[.string P] w fun e w' => (e = .returned (.string (bs (optB (notR P)))) ∧ Below w.heap.size w w') := by
  have X := Lib.hid (NotRel_any P hP w)
  go_enter Try.func23, Try.ntmps23
  go_wp2_with fail
  refine X.out.mono ?_
  rintro e w1 ⟨rfl, hb1⟩
  have B1 := Lib.hid hb1
  clear hb1 X
  go_wp2_with fail
  go_ret
  exact ⟨rfl, B1.out⟩
def turnR (P : ByteArray) : Option (List UInt8) := if bOk 729 P.data.toList then some (trnT P.data.toList) else none
theorem turnR_yes {P : ByteArray} (hp : bOk 729 P.data.toList = true) : turnR P = some (trnT P.data.toList) := by unfold turnR; rw [hp]; rfl
theorem turnR_no {P : ByteArray} (hp : bOk 729 P.data.toList = false) : turnR P = none := by unfold turnR; rw [hp]; rfl
def closeR (P : ByteArray) : Option (List UInt8) := if bOk 729 P.data.toList then some (cloT P.data.toList) else none
theorem closeR_yes {P : ByteArray} (hp : bOk 729 P.data.toList = true) : closeR P = some (cloT P.data.toList) := by unfold closeR; rw [hp]; rfl
theorem closeR_no {P : ByteArray} (hp : bOk 729 P.data.toList = false) : closeR P = none := by unfold closeR; rw [hp]; rfl
def thenR (P Q : ByteArray) : Option (List UInt8) := if bOk 729 P.data.toList && bOk 729 Q.data.toList then some (cmpT P.data.toList Q.data.toList) else none
theorem thenR_yes {P Q : ByteArray} (hp : bOk 729 P.data.toList = true) (hq : bOk 729 Q.data.toList = true) : thenR P Q = some (cmpT P.data.toList Q.data.toList) := by unfold thenR; rw [hp, hq]; rfl
theorem thenR_no {P Q : ByteArray} (h : (bOk 729 P.data.toList && bOk 729 Q.data.toList) = false) : thenR P Q = none := by unfold thenR; rw [h]; rfl
set_option maxHeartbeats 2000000 in
theorem turn1_any (P : ByteArray) (hp : bOk 729 P.data.toList = true) (i j : Nat) (hi : i < 27) (hj : j < 27) (I J : Int) (hI : I = (i : Int)) (hJ : J = (j : Int)) (c : Nat) (W : World) (h1 : W.cell? ⟨c, 0, none⟩ = some (.string P)) :
    Calls Try.prog 147 #[.int .i64 I, .int .i64 J, .pointer (some ⟨c, 0, none⟩)] W fun e W' => e = .returned (.bool (ro P.data.toList j i)) ∧ Below W.heap.size W W' := by
  have PA := Lib.hid (fun w => pair_any P hp j i hj hi J I hJ hI w)
  clear hI hJ
  go_enter Try.func147, Try.ntmps147
  go_wp2_with fail
  refine (PA.out _).mono ?_
  rintro e w' ⟨rfl, rfl⟩
  go_wp2_with fail
  go_ret
  exact ⟨rfl, Below.refl _ _⟩
set_option maxHeartbeats 2000000 in
theorem close1_any (P : ByteArray) (hp : bOk 729 P.data.toList = true) (i j : Nat) (hi : i < 27) (hj : j < 27) (I J : Int) (hI : I = (i : Int)) (hJ : J = (j : Int)) (c : Nat) (W : World) (h1 : W.cell? ⟨c, 0, none⟩ = some (.string P)) :
    Calls Try.prog 106 #[.int .i64 I, .int .i64 J, .pointer (some ⟨c, 0, none⟩)] W fun e W' => e = .returned (.bool (rfxF (ro P.data.toList) i j)) ∧ Below W.heap.size W W' := by
  have PA := Lib.hid (fun w => pair_any P hp i j hi hj I J hI hJ w)
  unfold rfxF
  by_cases hij : i = j
  · have e1 : (I == J) = true := by simp; omega
    have e2 : (i == j) = true := by simp; omega
    rw [e2, Bool.true_or]
    clear e2
    clear hI hJ
    go_enter Try.func106, Try.ntmps106
    go_wp2_with fail
    go_ret
    exact ⟨rfl, Below.refl _ _⟩
  · have e1 : (I == J) = false := by simp; omega
    have e2 : (i == j) = false := by simp; omega
    rw [e2, Bool.false_or]
    clear e2
    clear hI hJ
    go_enter Try.func106, Try.ntmps106
    go_wp2_with fail
    refine (PA.out _).mono ?_
    rintro e w' ⟨rfl, rfl⟩
    go_wp2_with fail
    go_ret
    exact ⟨rfl, Below.refl _ _⟩

end Go.Proofs.Ythdgheglmkhcbaa
