/- Relations turned, composed and closed; images and shadows; equivalences: the program. -/
import Derived.Test.YtccjmahhebiphaaDoorRx
namespace Go.Proofs.YtccjmahhebiphaaDoor
open Go.RowKit
open Pl

set_option maxHeartbeats 4000000 in
theorem comp1_any (P Q : ByteArray) (hp : bOk 729 P.data.toList = true) (hq : bOk 729 Q.data.toList = true) (i j : Nat) (hi : i < 27) (hj : j < 27) (I J : Int) (hI : I = (i : Int)) (hJ : J = (j : Int)) (c d : Nat) (W : World) (h1 : W.cell? ⟨c, 0, none⟩ = some (.string P)) (h2 : W.cell? ⟨d, 0, none⟩ = some (.string Q)) :
    Calls Tryd.prog 150 #[.int .i64 I, .int .i64 J, .pointer (some ⟨c, 0, none⟩), .pointer (some ⟨d, 0, none⟩)] W fun e W' => e = .returned (.bool (cmpF (ro P.data.toList) (ro Q.data.toList) i j)) ∧ Below W.heap.size W W' := by
  have C1 := Lib.hid (fun (u : Nat) (hu : u < 27) w => pair_any P hp i u hi hu I (u : Int) hI rfl w)
  have C2 := Lib.hid (fun (u : Nat) (hu : u < 27) w => pair_any Q hq u j hu hj (u : Int) J rfl hJ w)
  clear hI hJ
  go_enter Tryd.func150, Tryd.ntmps150
  go_wp2_with fail
  go_loopg [8] 27 (fun gk sv wr => ∃ u : Nat, u + gk = 27 ∧ sv = .int .i64 u ∧ Hid (∀ v, v < u → (ro P.data.toList i v && ro Q.data.toList v j) = false) ∧ wr = W)
  case atStart => exact ⟨0, rfl, rfl, Lib.hid (fun v h => absurd h (by omega)), rfl⟩
  case round =>
    obtain ⟨u, hu, rfl, HR, rfl⟩ := hrel
    by_cases hlt : u < 27
    · have C1 := Lib.hid (C1.out u hlt)
      have C2 := Lib.hid (C2.out u hlt)
      have HR2 : Hid ((ro P.data.toList i u && ro Q.data.toList u j) = false → ∀ v, v < u + 1 → (ro P.data.toList i v && ro Q.data.toList v j) = false) := fun h v hv => by
        by_cases e : v = u
        · subst e; exact h
        · exact HR.out v (by omega)
      have HY : Hid ((ro P.data.toList i u && ro Q.data.toList u j) = true → (cmpF (ro P.data.toList) (ro Q.data.toList) i j) = true) := fun h => cmp_iff.2 ⟨u, hlt, Bool.and_eq_true_iff.1 h⟩
      clear HR
      generalize ro P.data.toList i u = b1 at *
      generalize ro Q.data.toList u j = b2 at *
      cases b1
      · go_wp2_with fail
        refine (C1.out _).mono ?_
        rintro e w' ⟨rfl, rfl⟩
        have H3 := Lib.hid (HR2.out rfl)
        clear HR2 HY
        go_wp2_with fail
        go_roundg (gk - 1)
        case measure => omega
        case rel => exact ⟨u + 1, by omega, by go_num, H3, rfl⟩
      · cases b2
        · go_wp2_with fail
          refine (C1.out _).mono ?_
          rintro e w' ⟨rfl, rfl⟩
          go_wp2_with fail
          refine (C2.out _).mono ?_
          rintro e w' ⟨rfl, rfl⟩
          have H3 := Lib.hid (HR2.out rfl)
          clear HR2 HY
          go_wp2_with fail
          go_roundg (gk - 1)
          case measure => omega
          case rel => exact ⟨u + 1, by omega, by go_num, H3, rfl⟩
        · have H3 := Lib.hid (HY.out rfl)
          clear HR2 HY
          go_wp2_with fail
          refine (C1.out _).mono ?_
          rintro e w' ⟨rfl, rfl⟩
          go_wp2_with fail
          refine (C2.out _).mono ?_
          rintro e w' ⟨rfl, rfl⟩
          go_wp2_with fail
          go_ret
          exact ⟨ret_bool H3.out.symm, Below.refl _ _⟩
    · have HF : Hid ((cmpF (ro P.data.toList) (ro Q.data.toList) i j) = false) := by
        show (cmpF (ro P.data.toList) (ro Q.data.toList) i j) = false
        cases hb : (cmpF (ro P.data.toList) (ro Q.data.toList) i j)
        · rfl
        · obtain ⟨v, hv, h3, h4⟩ := cmp_iff.1 hb
          have := HR.out v (by omega)
          rw [h3, h4] at this
          simp at this
      clear HR C1 C2
      go_wp2_with fail
      go_ret
      exact ⟨ret_bool HF.out.symm, Below.refl _ _⟩
set_option maxRecDepth 100000 in
set_option maxHeartbeats 4000000 in
theorem composed_any (P Q : ByteArray) (hp : bOk 729 P.data.toList = true) (hq : bOk 729 Q.data.toList = true) (w : World) : Calls Tryd.prog 143 #[.string P, .string Q] w fun e w' => (e = .returned (.string (bs (cmpT P.data.toList Q.data.toList))) ∧ Below w.heap.size w w') := by
  have B2 := Lib.hid ((below_n w (.cells #[.string P] 9)).alloc (by simp) (.cells #[.string Q] 9))
  have k1 : Blk ((w.alloc (.cells #[.string P] 9)).alloc (.cells #[.string Q] 9)) w.heap.size 9 #[.string P] := (Blk.new w _ _).alloc _
  have k2 : Blk ((w.alloc (.cells #[.string P] 9)).alloc (.cells #[.string Q] 9)) (w.heap.size + 1) 9 #[.string Q] := by
    have := Blk.new (w.alloc (.cells #[.string P] 9)) 9 #[.string Q]
    simp at this
    exact this
  have ST := Lib.hid (makeRel_any 150 (enterF Tryd.func150 (by kernel_rfl) rfl) #[.pointer (some ⟨w.heap.size, 0, none⟩), .pointer (some ⟨w.heap.size + 1, 0, none⟩)] (cmpF (ro P.data.toList) (ro Q.data.toList)) ((w.alloc (.cells #[.string P] 9)).alloc (.cells #[.string Q] 9))
    (fun i j hi hj I J hI hJ W hW => comp1_any P Q hp hq i j hi hj I J hI hJ w.heap.size (w.heap.size + 1) W ((hW.cell (p := ⟨w.heap.size, 0, none⟩) k1.lt).trans (k1.cell 0)) ((hW.cell (p := ⟨w.heap.size + 1, 0, none⟩) k2.lt).trans (k2.cell 0))))
  have hmf : ∀ (f : Fn) (first cap : Array Value) (w : World), (Instr.makeFunc f first cap).run Tryd.prog w = .ok (.func f first cap) w := fun _ _ _ _ => rfl
  have he : bitsN 729 (fun n => cmpF (ro P.data.toList) (ro Q.data.toList) (n / 27) (n % 27)) = cmpT P.data.toList Q.data.toList := rfl
  rw [he] at ST
  obtain ⟨RO, hRO⟩ : ∃ r, cmpT P.data.toList Q.data.toList = r := ⟨_, rfl⟩
  rw [hRO] at ST ⊢
  clear k1 k2 hp hq he hRO
  go_enter Tryd.func143, Tryd.ntmps143
  go_wp2_with fail
  refine ST.out.mono ?_
  rintro e w3 ⟨rfl, hb3⟩
  have B3 := Lib.hid (below_2 B2.out hb3)
  clear hb3
  go_wp2_with fail
  go_ret
  exact ⟨rfl, B3.out⟩
set_option maxRecDepth 100000 in
set_option maxHeartbeats 4000000 in
theorem TurnRel_any (P : ByteArray) (hP : P.size ≤ 1000000000000) (w : World) : Calls Tryd.prog 106 #[.string P] w fun e w' => (e = .returned (.tuple #[.string (bs (optB (turnR P))), .bool (turnR P).isSome]) ∧ Below w.heap.size w w') := by
  have V := Lib.hid (fun w => RelValid_any P hP w)
  have B2 := Lib.hid (below_n w (.cells #[.string P] 9))
  have k1 : Blk (w.alloc (.cells #[.string P] 9)) w.heap.size 9 #[.string P] := Blk.new w _ _
  cases hp : bOk 729 P.data.toList
  · rw [turnR_no hp]
    rw [hp] at V
    simp only [optB, Option.isSome_none]
    clear k1
    go_enter Tryd.func106, Tryd.ntmps106
    go_wp2_with fail
    refine (V.out _).mono ?_
    rintro e w' ⟨rfl, rfl⟩
    go_wp2_with fail
    go_ret2
    exact ⟨(by first | trivial | rfl), B2.out⟩
  · rw [turnR_yes hp]
    rw [hp] at V
    simp only [optB, Option.isSome_some]
    have ST := Lib.hid (makeRel_any 141 (enterF Tryd.func141 (by kernel_rfl) rfl) #[.pointer (some ⟨w.heap.size, 0, none⟩)] (trnF (ro P.data.toList)) (w.alloc (.cells #[.string P] 9))
      (fun i j hi hj I J hI hJ W hW => turn1_any P hp i j hi hj I J hI hJ w.heap.size W ((hW.cell (p := ⟨w.heap.size, 0, none⟩) k1.lt).trans (k1.cell 0))))
    have hmf : ∀ (f : Fn) (first cap : Array Value) (w : World), (Instr.makeFunc f first cap).run Tryd.prog w = .ok (.func f first cap) w := fun _ _ _ _ => rfl
    have he : bitsN 729 (fun n => trnF (ro P.data.toList) (n / 27) (n % 27)) = trnT P.data.toList := rfl
    rw [he] at ST
    obtain ⟨RO, hRO⟩ : ∃ r, trnT P.data.toList = r := ⟨_, rfl⟩
    rw [hRO] at ST ⊢
    clear k1 hp he hRO
    go_enter Tryd.func106, Tryd.ntmps106
    go_wp2_with fail
    refine (V.out _).mono ?_
    rintro e w' ⟨rfl, rfl⟩
    go_wp2_with fail
    refine ST.out.mono ?_
    rintro e w3 ⟨rfl, hb3⟩
    have B3 := Lib.hid (below_2 B2.out hb3)
    clear hb3
    go_wp2_with fail
    go_ret2
    exact ⟨(by first | trivial | rfl), B3.out⟩
theorem close_step {a : List UInt8} {k : Nat} (ha : bOk 729 a = true) (h : Rf a) (hk : 729 ≤ cntR a + k) (hne : cmpT a a ≠ a) : ∃ k', k = k' + 1 ∧ 729 ≤ cntR (cmpT a a) + k' := by
  rcases cnt_up ha h with e | e
  · exact absurd e hne
  · have := cntR_le (cmpT a a)
    exact ⟨k - 1, by omega, by omega⟩
/-- the closing loop: what is closed so far -/
def Clo (R : List UInt8) (k : Nat) (N : ByteArray) : Prop := bOk 729 N.data.toList = true ∧ Rf N.data.toList ∧ 729 ≤ cntR N.data.toList + k ∧ itT k N.data.toList = R
theorem Clo.start (a : List UInt8) : Clo (cloT a) 729 (bs (rfxT a)) := by
  unfold Clo
  rw [bs_list]
  exact ⟨rfxT_ok, rf_rfx a, Nat.le_add_left _ _, by rw [cloT]⟩
theorem bs_inj {l : List UInt8} {N : ByteArray} (e : bs l = N) : l = N.data.toList := by rw [← e, bs_list]
theorem Clo.done {R : List UInt8} {k : Nat} {N : ByteArray} (h : Clo R k N) (e : bs (cmpT N.data.toList N.data.toList) = N) : N = bs R := by
  have e2 := bs_inj e
  have := itT_fix e2 k
  rw [h.2.2.2] at this
  rw [this, bs_of]
theorem Clo.next {R : List UInt8} {k : Nat} {N : ByteArray} (h : Clo R k N) (e : ¬ bs (cmpT N.data.toList N.data.toList) = N) : ∃ k', k = k' + 1 ∧ Clo R k' (bs (cmpT N.data.toList N.data.toList)) := by
  have e2 : cmpT N.data.toList N.data.toList ≠ N.data.toList := fun h2 => e (by rw [h2, bs_of])
  obtain ⟨k', rfl, hk⟩ := close_step h.1 h.2.1 h.2.2.1 e2
  refine ⟨k', rfl, ?_⟩
  have h4 := h.2.2.2
  rw [itT] at h4
  unfold Clo
  rw [bs_list]
  exact ⟨cmpT_ok, rf_cmp h.2.1, hk, h4⟩
set_option maxRecDepth 100000 in
set_option maxHeartbeats 4000000 in
theorem CloseRel_any (P : ByteArray) (hP : P.size ≤ 1000000000000) (w : World) : Calls Tryd.prog 107 #[.string P] w fun e w' => (e = .returned (.tuple #[.string (bs (optB (closeR P))), .bool (closeR P).isSome]) ∧ Below w.heap.size w w') := by
  have V := Lib.hid (fun w => RelValid_any P hP w)
  have B2 := Lib.hid (below_n w (.cells #[.string P] 9))
  have k1 : Blk (w.alloc (.cells #[.string P] 9)) w.heap.size 9 #[.string P] := Blk.new w _ _
  cases hp : bOk 729 P.data.toList
  · rw [closeR_no hp]
    rw [hp] at V
    simp only [optB, Option.isSome_none]
    clear k1
    go_enter Tryd.func107, Tryd.ntmps107
    go_wp2_with fail
    refine (V.out _).mono ?_
    rintro e w' ⟨rfl, rfl⟩
    go_wp2_with fail
    go_ret2
    exact ⟨(by first | trivial | rfl), B2.out⟩
  · rw [closeR_yes hp]
    rw [hp] at V
    simp only [optB, Option.isSome_some]
    have ST := Lib.hid (makeRel_any 142 (enterF Tryd.func142 (by kernel_rfl) rfl) #[.pointer (some ⟨w.heap.size, 0, none⟩)] (rfxF (ro P.data.toList)) (w.alloc (.cells #[.string P] 9))
      (fun i j hi hj I J hI hJ W hW => close1_any P hp i j hi hj I J hI hJ w.heap.size W ((hW.cell (p := ⟨w.heap.size, 0, none⟩) k1.lt).trans (k1.cell 0))))
    have hmf : ∀ (f : Fn) (first cap : Array Value) (w : World), (Instr.makeFunc f first cap).run Tryd.prog w = .ok (.func f first cap) w := fun _ _ _ _ => rfl
    have he : bitsN 729 (fun n => rfxF (ro P.data.toList) (n / 27) (n % 27)) = rfxT P.data.toList := rfl
    rw [he] at ST
    have CS := Lib.hid (Clo.start P.data.toList)
    generalize cloT P.data.toList = RS at *
    generalize rfxT P.data.toList = RO at *
    clear k1 hp he
    go_enter Tryd.func107, Tryd.ntmps107
    go_wp2_with fail
    refine (V.out _).mono ?_
    rintro e w' ⟨rfl, rfl⟩
    go_wp2_with fail
    refine ST.out.mono ?_
    rintro e w3 ⟨rfl, hb3⟩
    have B3 := Lib.hid (below_2 B2.out hb3)
    clear hb3 ST
    go_wp2_with fail
    go_loopg [4] 729 (fun gk s wr => ∃ N : ByteArray, s = .string N ∧ Hid (Clo RS gk N) ∧ Hid (Below w.heap.size w wr))
    case atStart => exact ⟨_, rfl, CS, B3⟩
    case round =>
      clear B3 CS
      obtain ⟨N, rfl, HC, B⟩ := hrel
      have CO := Lib.hid (fun w => composed_any N N HC.out.1 HC.out.1 w)
      by_cases hd : bs (cmpT N.data.toList N.data.toList) = N
      · have HN := Lib.hid (HC.out.done hd)
        have e1 : ((bs (cmpT N.data.toList N.data.toList)).toList == N.toList) = true := by rw [hd]; simp
        clear hd HC
        generalize bs (cmpT N.data.toList N.data.toList) = M at *
        go_wp2_with fail
        refine (CO.out _).mono ?_
        rintro e w4 ⟨rfl, hb4⟩
        have B4 := Lib.hid (below_2 B.out hb4)
        clear hb4
        go_wp2_with fail
        obtain rfl := HN.out
        go_ret2
        exact ⟨(by first | trivial | rfl), B4.out⟩
      · obtain ⟨k', hk, hc⟩ := HC.out.next hd
        have HK := Lib.hid hk
        have HC2 := Lib.hid hc
        have e1 : ((bs (cmpT N.data.toList N.data.toList)).toList == N.toList) = false := by
          simp only [beq_eq_false_iff_ne]
          intro h
          exact hd (ByteArray.ext (Array.toList_inj.1 (by rw [ByteArray.toList_eq, ByteArray.toList_eq] at h; exact h)))
        clear hd HC hk hc
        generalize bs (cmpT N.data.toList N.data.toList) = M at *
        go_wp2_with fail
        refine (CO.out _).mono ?_
        rintro e w4 ⟨rfl, hb4⟩
        have B4 := Lib.hid (below_2 B.out hb4)
        clear hb4
        go_wp2_with fail
        go_roundg k'
        case measure => have := HK.out; omega
        case rel => exact ⟨_, rfl, HC2, B4⟩

end Go.Proofs.YtccjmahhebiphaaDoor
