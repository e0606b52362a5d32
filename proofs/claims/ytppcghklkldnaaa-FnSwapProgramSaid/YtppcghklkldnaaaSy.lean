/- What the reference says of programs: plainness, loops, reads and writes, parts, heads. -/
import Derived.Test.YtppcghklkldnaaaSz
namespace Go.Proofs.Ytppcghklkldnaaa
open Go.RowKit
open Pl

theorem plain_iff (l : List Nd) : cntN (inO (bs [47, 126])) l = 0 ↔ fnd (l.map Nd.op) 47 < 0 ∧ fnd (l.map Nd.op) 126 < 0 := by
  rw [cntN_zero]
  have key : ∀ c : UInt8, fnd (l.map Nd.op) c < 0 ↔ ∀ x ∈ l, x.op ≠ c := by
    intro c
    rw [← Int.not_le, fnd_mem]
    simp
  rw [key, key]
  constructor
  · intro h
    refine ⟨fun x hx e => ?_, fun x hx e => ?_⟩
    · have h1 := h x hx
      have h2 : inO (bs [47, 126]) x.op = true := mem_in.2 (by simp [e])
      rw [h1] at h2; cases h2
    · have h1 := h x hx
      have h2 : inO (bs [47, 126]) x.op = true := mem_in.2 (by simp [e])
      rw [h1] at h2; cases h2
  · rintro ⟨h1, h2⟩ x hx
    cases hb : inO (bs [47, 126]) x.op
    · rfl
    · have := mem_in.1 hb
      simp at this
      rcases this with h | h
      · exact absurd h (h1 x hx)
      · exact absurd h (h2 x hx)
theorem cntN_take {f : UInt8 → Bool} {l : List Nd} {j : Nat} (h : j < l.length) : cntN f (l.take (j + 1)) = cntN f (l.take j) + (if f l[j].op then 1 else 0) := by
  rw [List.take_succ_eq_append_getElem h, cntN_append]
  simp [cntN]
theorem catN_take {f : Nd → List UInt8} {l : List Nd} {j : Nat} (h : j < l.length) : catN f (l.take (j + 1)) = catN f (l.take j) ++ f l[j] := by
  rw [List.take_succ_eq_append_getElem h, catN_append]
  simp [catN]
theorem catN_take_le {f : Nd → List UInt8} {l : List Nd} {j : Nat} : (catN f (l.take j)).length ≤ (catN f l).length := by
  have : catN f l = catN f (l.take j) ++ catN f (l.drop j) := by rw [← catN_append, List.take_append_drop]
  rw [this, List.length_append]
  omega
theorem head_pos {wd : Bool} {x : Nd} (h : ok wd 2 x = true) (ho : x.op = 97) : 1 ≤ (headN x).length := by
  rcases ok2_head h with rfl | ⟨v, e, rfl, hv, he⟩ | ⟨o, a, b, rfl, h2, _⟩ | ⟨t, a, b, rfl, _⟩ | ⟨t, a, rfl, _⟩ | ⟨t, rfl, _⟩
  · exact absurd ho (by decide)
  · simp only [headN, if_true, List.length_append, Nd.text, List.length_cons, List.length_nil]; omega
  · rcases h2 with rfl | rfl <;> exact absurd ho (by simp [Nd.op])
  · exact absurd ho (by simp [Nd.op])
  · exact absurd ho (by simp [Nd.op])
  · exact absurd ho (by simp [Nd.op])
theorem ext_from {l : List UInt8} (h : 1 ≤ l.length) : (bs l).extract 1 (bs l).size = bs (l.drop 1) :=
  extract_nd (l := l.drop 1) (r := []) (by rw [bs_list, List.append_nil]) (by rw [bs_size, List.length_drop]; omega)
theorem ext_to {l : List UInt8} (h : 1 ≤ l.length) : (bs l).extract 0 1 = bs (l.take 1) :=
  extract_nd (l := l.take 1) (r := l.drop 1) (by rw [bs_list, List.drop_zero, List.take_append_drop]) (by rw [List.length_take]; omega)
theorem bs_get {l : List UInt8} {j : Nat} (h : j < l.length) : (bs l)[j]'(by rw [bs_size]; exact h) = l[j] := by
  show (bs l).data[j] = _
  simp [bs]
set_option maxHeartbeats 4000000 in
theorem plainS_any (k : Nd) (S : ByteArray) (w : World) (ht : S.data.toList = k.text) (hl : k.text.length ≤ 1000) (hok : ok false 2 k = true) :
    Calls Try.prog 71 #[.string S, .bool false] w fun e w' => (e = .returned (.bool (decide (cntN (inO ⟨#[47, 126]⟩) (stm k) = 0))) ∧ Below w.heap.size w w') := by
  have HH := Lib.hid (fun w => headsS_any false 1000 k S w ht hl (by omega) hok)
  have hpi : decide (cntN (inO ⟨#[47, 126]⟩) (stm k) = 0) = (decide (fnd ((stm k).map Nd.op) 47 < 0) && decide (fnd ((stm k).map Nd.op) 126 < 0)) := by
    have := plain_iff (stm k)
    rw [Bool.eq_iff_iff]
    simp only [Bool.and_eq_true, decide_eq_true_eq]
    exact this
  rw [hpi]
  have hz : (bs ((stm k).map Nd.op)).size ≤ 1000 := by rw [bs_size, List.length_map]; have := stm_len k; omega
  have F1 : ∀ w, Calls Try.prog 116 #[.string (bs ((stm k).map Nd.op)), .int .u8 47] w fun e w' => e = .returned (.int .i64 (fnd ((stm k).map Nd.op) 47)) ∧ w = w' := fun w => find_any (bs ((stm k).map Nd.op)) 47 (by omega) w
  have F2 : ∀ w, Calls Try.prog 116 #[.string (bs ((stm k).map Nd.op)), .int .u8 126] w fun e w' => e = .returned (.int .i64 (fnd ((stm k).map Nd.op) 126)) ∧ w = w' := fun w => find_any (bs ((stm k).map Nd.op)) 126 (by omega) w
  have G1 := Lib.hid F1
  have G2 := Lib.hid F2
  clear F1 F2 hpi hz ht hl hok
  generalize fnd ((stm k).map Nd.op) 47 = v1 at *
  generalize fnd ((stm k).map Nd.op) 126 = v2 at *
  unfold HeadsPost at HH
  generalize bs ((stm k).map Nd.op) = K at *
  by_cases h1 : v1 < 0
  · by_cases h2 : v2 < 0
    · have hr : (decide (v1 < 0) && decide (v2 < 0)) = true := by simp [h1, h2]
      rw [hr]
      clear hr
      go_enter Try.func71, Try.ntmps71
      go_wp2_with fail
      refine (HH.out _).mono ?_
      rintro e w1 ⟨v, rfl, _, hb1⟩
      have B1 := Lib.hid hb1
      clear hb1
      go_wp2_with fail
      refine (G1.out _).mono ?_
      rintro e w' ⟨rfl, rfl⟩
      go_wp2_with fail
      refine (G2.out _).mono ?_
      rintro e w' ⟨rfl, rfl⟩
      go_wp2_with fail
      go_ret
      exact ⟨ret_bool (by first | rfl | (simp; omega)), B1.out⟩
    · have hr : (decide (v1 < 0) && decide (v2 < 0)) = false := by simp [h2]
      rw [hr]
      clear hr
      go_enter Try.func71, Try.ntmps71
      go_wp2_with fail
      refine (HH.out _).mono ?_
      rintro e w1 ⟨v, rfl, _, hb1⟩
      have B1 := Lib.hid hb1
      clear hb1
      go_wp2_with fail
      refine (G1.out _).mono ?_
      rintro e w' ⟨rfl, rfl⟩
      go_wp2_with fail
      refine (G2.out _).mono ?_
      rintro e w' ⟨rfl, rfl⟩
      go_wp2_with fail
      go_ret
      exact ⟨ret_bool (by first | rfl | (simp; omega)), B1.out⟩
  · have hr : (decide (v1 < 0) && decide (v2 < 0)) = false := by simp [h1]
    rw [hr]
    clear hr
    go_enter Try.func71, Try.ntmps71
    go_wp2_with fail
    refine (HH.out _).mono ?_
    rintro e w1 ⟨v, rfl, _, hb1⟩
    have B1 := Lib.hid hb1
    clear hb1
    go_wp2_with fail
    refine (G1.out _).mono ?_
    rintro e w' ⟨rfl, rfl⟩
    go_wp2_with fail
    go_ret
    exact ⟨ret_bool (by first | rfl | (simp; omega)), B1.out⟩
set_option maxRecDepth 100000 in
set_option maxHeartbeats 8000000 in
theorem readS_any (k : Nd) (S : ByteArray) (w : World) (ht : S.data.toList = k.text) (hl : k.text.length ≤ 1000) (hok : ok false 2 k = true) :
    Calls Try.prog 84 #[.string S, .bool false, .bool false] w fun e w' => (e = .returned (.string (bs (vars nmsN (catN rdsN (stm k))))) ∧ Below w.heap.size w w') := by
  have HH := Lib.hid (fun w => headsS_any false 1000 k S w ht hl (by omega) hok)
  have hz : (stm k).length ≤ 1000 := by have := stm_len k; omega
  have hct : (catN rdsN (stm k)).length ≤ 1000 := by have := cat_stm rds_head k; omega
  have hoks := stm_ok hok
  have hpos := stm_pos k
  have V := Lib.hid (fun w => l1Vars_any (bs (catN rdsN (stm k))) (by rw [bs_size]; omega) false w)
  have hV : str (vars (nms false) (bs (catN rdsN (stm k))).data.toList) = .string (bs (vars nmsN (catN rdsN (stm k)))) := rfl
  rw [hV] at V
  unfold HeadsPost at HH
  clear ht hl hok hV
  generalize stm k = l at *
  obtain ⟨RS, hRS⟩ : ∃ R, bs (vars nmsN (catN rdsN l)) = R := ⟨_, rfl⟩
  rw [hRS] at V ⊢
  obtain ⟨M, hM⟩ : ∃ M, l.length = M := ⟨_, rfl⟩
  rw [hM] at HH hz hpos
  have HM := Lib.hid hM
  have HOK := Lib.hid hoks
  have HCT := Lib.hid hct
  obtain ⟨K, hK⟩ : ∃ K, bs (l.map Nd.op) = K := ⟨_, rfl⟩
  have hKs : K.size = M := by rw [← hK, bs_size, List.length_map]; exact hM
  have hKa : M ≤ K.size := by omega
  rw [hK] at HH
  have HK := Lib.hid hK
  clear hM hK hKs hoks hct hRS
  go_enter Try.func84, Try.ntmps84
  go_wp2_with fail
  refine (HH.out _).mono ?_
  rintro e w1 ⟨v, rfl, hown, hb1⟩
  obtain ⟨g, cap, rfl, hcap, hg, _⟩ := row_form hown hpos
  have B1 := Lib.hid hb1
  have R := Lib.hid hown
  clear hb1 hown HH
  go_wp2_with fail
  go_loopg [7, 10] M (fun gk q i wr => ∃ (j : Nat) (Q : ByteArray), j + gk = M ∧ i = .int .i64 j ∧ q = .string Q ∧ Q.size ≤ 1000 ∧ Hid (Q = bs (catN rdsN (l.take j))) ∧ wr = w1)
  case atStart => exact ⟨0, ⟨#[]⟩, by omega, rfl, rfl, by decide, Lib.hid rfl, rfl⟩
  case round =>
    obtain ⟨j, Q, hj, rfl, rfl, hQ, HQ, rfl⟩ := hrel
    by_cases hlt : j < M
    · have hjl : j < l.length := by rw [HM.out]; exact hlt
      have hx := HOK.out l[j] (List.getElem_mem _)
      have hc : wr.cell? ⟨g, j, none⟩ = some (.string (bs (headN l[j]))) := row_at R.out HM.out hjl
      have hjk : j < K.size := by omega
      have hop : K[j] = l[j].op := by
        have h1 : j < (l.map Nd.op).length := by rw [List.length_map]; exact hjl
        have h2 := bs_get h1
        rw [List.getElem_map] at h2
        rw [← h2]
        have := HK.out
        subst this
        rfl
      have htk := catN_take (f := rdsN) hjl
      have htl := catN_take_le (f := rdsN) (l := l) (j := j + 1)
      have HTK := Lib.hid htk
      have hsz : (catN rdsN (l.take j)).length + (rdsN l[j]).length ≤ 1000 := by
        have := HCT.out
        rw [htk, List.length_append] at htl
        omega
      have hQs : Q.size = (catN rdsN (l.take j)).length := by rw [HQ.out, bs_size]
      have hfs : (bs (rdsN l[j])).size = (rdsN l[j]).length := bs_size _
      have hcs : Q.size + (bs (rdsN l[j])).size ≤ 1000 := by omega
      have HNX : Hid (Q ++ bs (rdsN l[j]) = bs (catN rdsN (l.take (j + 1)))) := by
        have : Q ++ bs (rdsN l[j]) = bs (catN rdsN (l.take (j + 1))) := by rw [HQ.out, htk, bs_app]
        exact this
      by_cases h97 : l[j].op = 97
      · have hp := head_pos hx h97
        have hf : rdsN l[j] = (headN l[j]).drop 1 := by unfold rdsN; rw [if_pos h97]
        have hex := ext_from hp
        rw [← hf] at hex
        have hp2 : 1 ≤ (bs (headN l[j])).size := by rw [bs_size]; exact hp
        rw [h97] at hop
        clear htk htl hsz hQs hfs hf hp hx h97
        generalize bs (rdsN l[j]) = D at *
        generalize bs (headN l[j]) = H at *
        have z1 : Q.size + D.size ≤ 9223372036854775807 := by omega
        have z3 : (Q ++ D).size ≤ 1000 := by rw [ByteArray.size_append]; omega
        clear hcs
        go_wp2_with fail
        go_roundg (gk - 1)
        case measure => omega
        case rel => exact ⟨j + 1, Q ++ D, by omega, by go_num, rfl, z3, HNX, rfl⟩
      · have hf : rdsN l[j] = headN l[j] := by unfold rdsN; rw [if_neg h97]
        rw [hf] at HNX hcs
        have e1 := u8_ne 97 h97 (by decide)
        simp only [Int.cast_ofNat_Int] at e1
        clear htk htl hsz hQs hfs hf hx h97
        generalize l[j].op = o at *
        generalize bs (headN l[j]) = D at *
        have z1 : Q.size + D.size ≤ 9223372036854775807 := by omega
        have z3 : (Q ++ D).size ≤ 1000 := by rw [ByteArray.size_append]; omega
        clear hcs
        go_wp2_with fail
        go_roundg (gk - 1)
        case measure => omega
        case rel => exact ⟨j + 1, Q ++ D, by omega, by go_num, rfl, z3, HNX, rfl⟩
    · have e : l.take j = l := List.take_of_length_le (by rw [HM.out]; omega)
      have hj2 : j = M := by omega
      rw [e] at HQ
      have hk2 : K.size ≤ j ∨ True := .inr trivial
      obtain rfl := HQ.out
      clear e hk2
      go_wp2_with fail
      refine (V.out _).mono ?_
      rintro e w' ⟨rfl, rfl⟩
      go_wp2_with fail
      go_ret
      exact ⟨rfl, B1.out⟩
set_option maxRecDepth 100000 in
set_option maxHeartbeats 8000000 in
theorem writeS_any (k : Nd) (S : ByteArray) (w : World) (ht : S.data.toList = k.text) (hl : k.text.length ≤ 1000) (hok : ok false 2 k = true) :
    Calls Try.prog 84 #[.string S, .bool false, .bool true] w fun e w' => (e = .returned (.string (bs (vars nmsN (catN wrsN (stm k))))) ∧ Below w.heap.size w w') := by
  have HH := Lib.hid (fun w => headsS_any false 1000 k S w ht hl (by omega) hok)
  have hz : (stm k).length ≤ 1000 := by have := stm_len k; omega
  have hct : (catN wrsN (stm k)).length ≤ 1000 := by have := cat_stm wrs_head k; omega
  have hoks := stm_ok hok
  have hpos := stm_pos k
  have V := Lib.hid (fun w => l1Vars_any (bs (catN wrsN (stm k))) (by rw [bs_size]; omega) false w)
  have hV : str (vars (nms false) (bs (catN wrsN (stm k))).data.toList) = .string (bs (vars nmsN (catN wrsN (stm k)))) := rfl
  rw [hV] at V
  unfold HeadsPost at HH
  clear ht hl hok hV
  generalize stm k = l at *
  obtain ⟨RS, hRS⟩ : ∃ R, bs (vars nmsN (catN wrsN l)) = R := ⟨_, rfl⟩
  rw [hRS] at V ⊢
  obtain ⟨M, hM⟩ : ∃ M, l.length = M := ⟨_, rfl⟩
  rw [hM] at HH hz hpos
  have HM := Lib.hid hM
  have HOK := Lib.hid hoks
  have HCT := Lib.hid hct
  obtain ⟨K, hK⟩ : ∃ K, bs (l.map Nd.op) = K := ⟨_, rfl⟩
  have hKs : K.size = M := by rw [← hK, bs_size, List.length_map]; exact hM
  have hKa : M ≤ K.size := by omega
  rw [hK] at HH
  have HK := Lib.hid hK
  clear hM hK hKs hoks hct hRS
  go_enter Try.func84, Try.ntmps84
  go_wp2_with fail
  refine (HH.out _).mono ?_
  rintro e w1 ⟨v, rfl, hown, hb1⟩
  obtain ⟨g, cap, rfl, hcap, hg, _⟩ := row_form hown hpos
  have B1 := Lib.hid hb1
  have R := Lib.hid hown
  clear hb1 hown HH
  go_wp2_with fail
  go_loopg [7, 10] M (fun gk q i wr => ∃ (j : Nat) (Q : ByteArray), j + gk = M ∧ i = .int .i64 j ∧ q = .string Q ∧ Q.size ≤ 1000 ∧ Hid (Q = bs (catN wrsN (l.take j))) ∧ wr = w1)
  case atStart => exact ⟨0, ⟨#[]⟩, by omega, rfl, rfl, by decide, Lib.hid rfl, rfl⟩
  case round =>
    obtain ⟨j, Q, hj, rfl, rfl, hQ, HQ, rfl⟩ := hrel
    by_cases hlt : j < M
    · have hjl : j < l.length := by rw [HM.out]; exact hlt
      have hx := HOK.out l[j] (List.getElem_mem _)
      have hc : wr.cell? ⟨g, j, none⟩ = some (.string (bs (headN l[j]))) := row_at R.out HM.out hjl
      have hjk : j < K.size := by omega
      have hop : K[j] = l[j].op := by
        have h1 : j < (l.map Nd.op).length := by rw [List.length_map]; exact hjl
        have h2 := bs_get h1
        rw [List.getElem_map] at h2
        rw [← h2]
        have := HK.out
        subst this
        rfl
      have htk := catN_take (f := wrsN) hjl
      have htl := catN_take_le (f := wrsN) (l := l) (j := j + 1)
      have HTK := Lib.hid htk
      have hsz : (catN wrsN (l.take j)).length + (wrsN l[j]).length ≤ 1000 := by
        have := HCT.out
        rw [htk, List.length_append] at htl
        omega
      have hQs : Q.size = (catN wrsN (l.take j)).length := by rw [HQ.out, bs_size]
      have hfs : (bs (wrsN l[j])).size = (wrsN l[j]).length := bs_size _
      have hcs : Q.size + (bs (wrsN l[j])).size ≤ 1000 := by omega
      have HNX : Hid (Q ++ bs (wrsN l[j]) = bs (catN wrsN (l.take (j + 1)))) := by
        have : Q ++ bs (wrsN l[j]) = bs (catN wrsN (l.take (j + 1))) := by rw [HQ.out, htk, bs_app]
        exact this
      by_cases h97 : l[j].op = 97
      · have hp := head_pos hx h97
        have hf : wrsN l[j] = (headN l[j]).take 1 := by unfold wrsN; rw [if_pos h97]
        have hex := ext_to hp
        rw [← hf] at hex
        have hp2 : 1 ≤ (bs (headN l[j])).size := by rw [bs_size]; exact hp
        rw [h97] at hop
        clear htk htl hsz hQs hfs hf hp hx h97
        generalize bs (wrsN l[j]) = D at *
        generalize bs (headN l[j]) = H at *
        have z1 : Q.size + D.size ≤ 9223372036854775807 := by omega
        have z3 : (Q ++ D).size ≤ 1000 := by rw [ByteArray.size_append]; omega
        clear hcs
        go_wp2_with fail
        go_roundg (gk - 1)
        case measure => omega
        case rel => exact ⟨j + 1, Q ++ D, by omega, by go_num, rfl, z3, HNX, rfl⟩
      · have hf : wrsN l[j] = [] := by unfold wrsN; rw [if_neg h97]
        rw [hf] at HNX
        have e0 : Q ++ bs [] = Q := by apply ByteArray.ext; simp [bs]
        rw [e0] at HNX
        have e1 := u8_ne 97 h97 (by decide)
        simp only [Int.cast_ofNat_Int] at e1
        clear htk htl hsz hQs hfs hf hx h97 hcs e0
        generalize l[j].op = o at *
        go_wp2_with fail
        go_roundg (gk - 1)
        case measure => omega
        case rel => exact ⟨j + 1, Q, by omega, by go_num, rfl, hQ, HNX, rfl⟩
    · have e : l.take j = l := List.take_of_length_le (by rw [HM.out]; omega)
      have hj2 : j = M := by omega
      rw [e] at HQ
      have hk2 : K.size ≤ j ∨ True := .inr trivial
      obtain rfl := HQ.out
      clear e hk2
      go_wp2_with fail
      refine (V.out _).mono ?_
      rintro e w' ⟨rfl, rfl⟩
      go_wp2_with fail
      go_ret
      exact ⟨rfl, B1.out⟩
set_option maxRecDepth 100000 in
set_option maxHeartbeats 8000000 in
theorem LoopCountS_any (S : ByteArray) (hS : S.size ≤ 1000000000000) (w : World) : Calls Try.prog 38 #[.string S] w fun e w' => (e = .returned (.int .i64 (oI (whole false 2 200 S.data.toList) (fun k => cntN (inO ⟨#[64]⟩) (stm k)))) ∧ Below w.heap.size w w') := by
  have R := Lib.hid (ProgramValidS_any S w hS)
  cases ho : whole false 2 200 S.data.toList with
  | none =>
    rw [ho] at R
    clear ho
    simp only [oI, Option.isSome_none] at R ⊢
    go_enter Try.func38, Try.ntmps38
    go_wp2_with fail
    refine R.out.mono ?_
    rintro e w1 ⟨rfl, m, rfl⟩
    clear R
    go_wp2_with fail
    go_ret
    exact ⟨rfl, below_drewN _ _ _⟩
  | some k =>
    rw [ho] at R
    obtain ⟨hl, hk, ht⟩ := (whole_iff (by omega)).1 ho
    have hl2 : k.text.length ≤ 200 := by rw [← ht]; exact hl
    have HH := Lib.hid (fun w => headsS_any false 1000 k S w ht (by omega) (by omega) hk)
    have hz : (stm k).length ≤ 1000 := by have := stm_len k; omega
    simp only [oI, Option.isSome_some] at R ⊢
    unfold HeadsPost at HH
    clear ho hl hk ht hl2
    generalize stm k = l at *
    obtain ⟨M, hM⟩ : ∃ M, l.length = M := ⟨_, rfl⟩
    rw [hM] at hz
    have HM := Lib.hid hM
    obtain ⟨K, hK⟩ : ∃ K, bs (l.map Nd.op) = K := ⟨_, rfl⟩
    have hKs : K.size = M := by rw [← hK, bs_size, List.length_map]; exact hM
    rw [hK] at HH
    have HK := Lib.hid hK
    have hKa : M ≤ K.size := by omega
    have hKb : K.size ≤ M := by omega
    clear hM hK hKs
    go_enter Try.func38, Try.ntmps38
    go_wp2_with fail
    refine R.out.mono ?_
    rintro e w1 ⟨rfl, m, rfl⟩
    clear R
    go_wp2_with fail
    refine (HH.out _).mono ?_
    rintro e w2 ⟨v, rfl, _, hb2⟩
    have B2 : Hid (Below w.heap.size w w2) := (below_drewN _ _ m).trans hb2
    clear hb2 HH
    go_wp2_with fail
    go_loopg [3, 6] M (fun gk q i wr => ∃ (j d : Nat), j + gk = M ∧ i = .int .i64 j ∧ q = .int .i64 d ∧ d ≤ j ∧ Hid (d = cntN (inO ⟨#[64]⟩) (l.take j)) ∧ wr = w2)
    case atStart => exact ⟨0, 0, by omega, rfl, rfl, by omega, Lib.hid rfl, rfl⟩
    case round =>
      obtain ⟨j, d, hj, rfl, rfl, hd, HD, rfl⟩ := hrel
      by_cases hlt : j < M
      · have hjl : j < l.length := by rw [HM.out]; exact hlt
        have hjk : j < K.size := by omega
        have hop : K[j] = l[j].op := by
          have h1 : j < (l.map Nd.op).length := by rw [List.length_map]; exact hjl
          have h2 := bs_get h1
          rw [List.getElem_map] at h2
          rw [← h2]
          have := HK.out
          subst this
          rfl
        have htk := cntN_take (f := inO ⟨#[64]⟩) hjl
        by_cases h64 : l[j].op = 64
        · have hf : inO ⟨#[64]⟩ l[j].op = true := (mem_in (O := [64])).2 (by simp [h64])
          rw [hf] at htk
          have HT : Hid (d + 1 = cntN (inO ⟨#[64]⟩) (l.take (j + 1))) := by have := HD.out; show d + 1 = _; rw [htk, this]; rfl
          rw [h64] at hop
          clear htk hf h64
          go_wp2_with fail
          go_roundg (gk - 1)
          case measure => omega
          case rel => exact ⟨j + 1, d + 1, by omega, by go_num, by go_num, by omega, HT, rfl⟩
        · have hf : inO ⟨#[64]⟩ l[j].op = false := by
            cases hb : inO ⟨#[64]⟩ l[j].op
            · rfl
            · have := (mem_in (O := [64])).1 hb
              simp at this
              exact absurd this h64
          rw [hf] at htk
          have HT : Hid (d = cntN (inO ⟨#[64]⟩) (l.take (j + 1))) := by have := HD.out; show d = _; rw [htk, this]; rfl
          have e1 := u8_ne 64 h64 (by decide)
          simp only [Int.cast_ofNat_Int] at e1
          clear htk hf h64
          generalize l[j].op = o at *
          go_wp2_with fail
          go_roundg (gk - 1)
          case measure => omega
          case rel => exact ⟨j + 1, d, by omega, by go_num, rfl, by omega, HT, rfl⟩
      · have e : l.take j = l := List.take_of_length_le (by rw [HM.out]; omega)
        have hj2 : j = K.size := by omega
        rw [e] at HD
        have HD2 : Hid ((d : Int) = (cntN (inO ⟨#[64]⟩) l : Nat)) := by have := HD.out; show (d : Int) = _; rw [this]
        have hge : K.size ≤ j := by omega
        clear e HD hj2
        go_wp2_with fail
        go_ret
        exact ⟨ret_int HD2.out, B2.out⟩
set_option maxHeartbeats 2000000 in
theorem SizeOfS_any (S : ByteArray) (hS : S.size ≤ 1000000000000) (w : World) : Calls Try.prog 36 #[.string S] w fun e w' => (e = .returned (.int .i64 (oI (whole false 2 200 S.data.toList) (fun k => (stm k).length))) ∧ Below w.heap.size w w') := by
  have R := Lib.hid (ProgramValidS_any S w hS)
  cases ho : whole false 2 200 S.data.toList with
  | none =>
    rw [ho] at R
    clear ho
    simp only [oI, Option.isSome_none] at R ⊢
    go_enter Try.func36, Try.ntmps36
    go_wp2_with fail
    refine R.out.mono ?_
    rintro e w1 ⟨rfl, m, rfl⟩
    clear R
    go_wp2_with fail
    go_ret
    exact ⟨rfl, below_drewN _ _ _⟩
  | some k =>
    rw [ho] at R
    obtain ⟨hl, hk, ht⟩ := (whole_iff (by omega)).1 ho
    have hl2 : k.text.length ≤ 200 := by rw [← ht]; exact hl
    have CO := Lib.hid (fun w => sizeS_any false 200 k S w ht hl2 (by omega) hk)
    simp only [oI, Option.isSome_some] at R ⊢
    clear ho hl hk ht hl2
    go_enter Try.func36, Try.ntmps36
    go_wp2_with fail
    refine R.out.mono ?_
    rintro e w1 ⟨rfl, m, rfl⟩
    clear R
    go_wp2_with fail
    refine (CO.out _).mono ?_
    rintro e w2 ⟨rfl, hb2⟩
    have B2 : Hid (Below w.heap.size w w2) := (below_drewN _ _ m).trans hb2
    clear hb2 CO
    go_wp2_with fail
    go_ret
    exact ⟨rfl, B2.out⟩
set_option maxHeartbeats 2000000 in
theorem DepthOfS_any (S : ByteArray) (hS : S.size ≤ 1000000000000) (w : World) : Calls Try.prog 37 #[.string S] w fun e w' => (e = .returned (.int .i64 (oI (whole false 2 200 S.data.toList) depN)) ∧ Below w.heap.size w w') := by
  have R := Lib.hid (ProgramValidS_any S w hS)
  cases ho : whole false 2 200 S.data.toList with
  | none =>
    rw [ho] at R
    clear ho
    simp only [oI, Option.isSome_none] at R ⊢
    go_enter Try.func37, Try.ntmps37
    go_wp2_with fail
    refine R.out.mono ?_
    rintro e w1 ⟨rfl, m, rfl⟩
    clear R
    go_wp2_with fail
    go_ret
    exact ⟨rfl, below_drewN _ _ _⟩
  | some k =>
    rw [ho] at R
    obtain ⟨hl, hk, ht⟩ := (whole_iff (by omega)).1 ho
    have hl2 : k.text.length ≤ 200 := by rw [← ht]; exact hl
    have CO := Lib.hid (fun w => depthS_any 200 k S w ht hl2 (by omega) hk)
    simp only [oI, Option.isSome_some] at R ⊢
    clear ho hl hk ht hl2
    go_enter Try.func37, Try.ntmps37
    go_wp2_with fail
    refine R.out.mono ?_
    rintro e w1 ⟨rfl, m, rfl⟩
    clear R
    go_wp2_with fail
    refine (CO.out _).mono ?_
    rintro e w2 ⟨rfl, hb2⟩
    have B2 : Hid (Below w.heap.size w w2) := (below_drewN _ _ m).trans hb2
    clear hb2 CO
    go_wp2_with fail
    go_ret
    exact ⟨rfl, B2.out⟩
set_option maxHeartbeats 2000000 in
theorem IsPlainS_any (S : ByteArray) (hS : S.size ≤ 1000000000000) (w : World) : Calls Try.prog 25 #[.string S] w fun e w' => (e = .returned (.bool (oB (whole false 2 200 S.data.toList) (fun k => decide (cntN (inO ⟨#[47, 126]⟩) (stm k) = 0)))) ∧ Below w.heap.size w w') := by
  have R := Lib.hid (ProgramValidS_any S w hS)
  cases ho : whole false 2 200 S.data.toList with
  | none =>
    rw [ho] at R
    clear ho
    simp only [oB, Option.isSome_none] at R ⊢
    go_enter Try.func25, Try.ntmps25
    go_wp2_with fail
    refine R.out.mono ?_
    rintro e w1 ⟨rfl, m, rfl⟩
    clear R
    go_wp2_with fail
    go_ret
    exact ⟨rfl, below_drewN _ _ _⟩
  | some k =>
    rw [ho] at R
    obtain ⟨hl, hk, ht⟩ := (whole_iff (by omega)).1 ho
    have hl2 : k.text.length ≤ 200 := by rw [← ht]; exact hl
    have CO := Lib.hid (fun w => plainS_any k S w ht (by omega) hk)
    simp only [oB, Option.isSome_some] at R ⊢
    clear ho hl hk ht hl2
    go_enter Try.func25, Try.ntmps25
    go_wp2_with fail
    refine R.out.mono ?_
    rintro e w1 ⟨rfl, m, rfl⟩
    clear R
    go_wp2_with fail
    refine (CO.out _).mono ?_
    rintro e w2 ⟨rfl, hb2⟩
    have B2 : Hid (Below w.heap.size w w2) := (below_drewN _ _ m).trans hb2
    clear hb2 CO
    go_wp2_with fail
    go_ret
    exact ⟨rfl, B2.out⟩
set_option maxHeartbeats 2000000 in
theorem ReadsOfS_any (S : ByteArray) (hS : S.size ≤ 1000000000000) (w : World) : Calls Try.prog 42 #[.string S] w fun e w' => (e = .returned (.string (bs (oL (whole false 2 200 S.data.toList) (fun k => vars nmsN (catN rdsN (stm k)))))) ∧ Below w.heap.size w w') := by
  have R := Lib.hid (ProgramValidS_any S w hS)
  cases ho : whole false 2 200 S.data.toList with
  | none =>
    rw [ho] at R
    clear ho
    simp only [oL, Option.isSome_none] at R ⊢
    go_enter Try.func42, Try.ntmps42
    go_wp2_with fail
    refine R.out.mono ?_
    rintro e w1 ⟨rfl, m, rfl⟩
    clear R
    go_wp2_with fail
    go_ret
    exact ⟨rfl, below_drewN _ _ _⟩
  | some k =>
    rw [ho] at R
    obtain ⟨hl, hk, ht⟩ := (whole_iff (by omega)).1 ho
    have hl2 : k.text.length ≤ 200 := by rw [← ht]; exact hl
    have CO := Lib.hid (fun w => readS_any k S w ht (by omega) hk)
    simp only [oL, Option.isSome_some] at R ⊢
    clear ho hl hk ht hl2
    go_enter Try.func42, Try.ntmps42
    go_wp2_with fail
    refine R.out.mono ?_
    rintro e w1 ⟨rfl, m, rfl⟩
    clear R
    go_wp2_with fail
    refine (CO.out _).mono ?_
    rintro e w2 ⟨rfl, hb2⟩
    have B2 : Hid (Below w.heap.size w w2) := (below_drewN _ _ m).trans hb2
    clear hb2 CO
    go_wp2_with fail
    go_ret
    exact ⟨rfl, B2.out⟩
set_option maxHeartbeats 2000000 in
theorem WritesOfS_any (S : ByteArray) (hS : S.size ≤ 1000000000000) (w : World) : Calls Try.prog 43 #[.string S] w fun e w' => (e = .returned (.string (bs (oL (whole false 2 200 S.data.toList) (fun k => vars nmsN (catN wrsN (stm k)))))) ∧ Below w.heap.size w w') := by
  have R := Lib.hid (ProgramValidS_any S w hS)
  cases ho : whole false 2 200 S.data.toList with
  | none =>
    rw [ho] at R
    clear ho
    simp only [oL, Option.isSome_none] at R ⊢
    go_enter Try.func43, Try.ntmps43
    go_wp2_with fail
    refine R.out.mono ?_
    rintro e w1 ⟨rfl, m, rfl⟩
    clear R
    go_wp2_with fail
    go_ret
    exact ⟨rfl, below_drewN _ _ _⟩
  | some k =>
    rw [ho] at R
    obtain ⟨hl, hk, ht⟩ := (whole_iff (by omega)).1 ho
    have hl2 : k.text.length ≤ 200 := by rw [← ht]; exact hl
    have CO := Lib.hid (fun w => writeS_any k S w ht (by omega) hk)
    simp only [oL, Option.isSome_some] at R ⊢
    clear ho hl hk ht hl2
    go_enter Try.func43, Try.ntmps43
    go_wp2_with fail
    refine R.out.mono ?_
    rintro e w1 ⟨rfl, m, rfl⟩
    clear R
    go_wp2_with fail
    refine (CO.out _).mono ?_
    rintro e w2 ⟨rfl, hb2⟩
    have B2 : Hid (Below w.heap.size w w2) := (below_drewN _ _ m).trans hb2
    clear hb2 CO
    go_wp2_with fail
    go_ret
    exact ⟨rfl, B2.out⟩
set_option maxHeartbeats 2000000 in
theorem HeadOfS_any (S : ByteArray) (hS : S.size ≤ 1000000000000) (w : World) : Calls Try.prog 20 #[.string S] w fun e w' => (e = .returned (.string (bs (oL (whole false 2 200 S.data.toList) headN))) ∧ Below w.heap.size w w') := by
  have R := Lib.hid (ProgramValidS_any S w hS)
  cases ho : whole false 2 200 S.data.toList with
  | none =>
    rw [ho] at R
    clear ho
    simp only [oL, Option.isSome_none] at R ⊢
    go_enter Try.func20, Try.ntmps20
    go_wp2_with fail
    refine R.out.mono ?_
    rintro e w1 ⟨rfl, m, rfl⟩
    clear R
    go_wp2_with fail
    go_ret
    exact ⟨rfl, below_drewN _ _ _⟩
  | some k =>
    rw [ho] at R
    obtain ⟨hl, hk, ht⟩ := (whole_iff (by omega)).1 ho
    have hl2 : k.text.length ≤ 200 := by rw [← ht]; exact hl
    have CO := Lib.hid (fun w => headS_any S (by have := len_S S; omega) false k hk ht w)
    simp only [oL, Option.isSome_some] at R ⊢
    have hex : S.extract 1 (hd k) = bs (headN k) := by
      have h1 : S.data.toList.drop 1 = headN k ++ flatN (prt k) := by rw [ht, head_text]; rfl
      exact extract_nd h1 (by have := hd_head k; omega)
    have hd1 := hd_pos k
    have hd2 : hd k ≤ S.size := by rw [← len_S, ht]; exact hd_le k
    generalize hd k = h0 at *
    clear ho hl hk ht hl2
    go_enter Try.func20, Try.ntmps20
    go_wp2_with fail
    refine R.out.mono ?_
    rintro e w1 ⟨rfl, m, rfl⟩
    clear R
    go_wp2_with fail
    refine (CO.out _).mono ?_
    rintro e w2 ⟨rfl, m2, rfl⟩
    clear CO
    go_wp2_with fail
    go_ret
    exact ⟨rfl, below_drewN _ _ _⟩
set_option maxHeartbeats 2000000 in
theorem PartsOfS_any (S : ByteArray) (hS : S.size ≤ 1000000000000) (w : World) : Calls Try.prog 18 #[.string S] w (PartsPost w (oP (whole false 2 200 S.data.toList))) := by
  have R := Lib.hid (ProgramValidS_any S w hS)
  cases ho : whole false 2 200 S.data.toList with
  | none =>
    rw [ho] at R
    clear ho
    simp only [oP, Option.isSome_none] at R ⊢
    have hr : ∀ m, PartsPost w [] (.returned (.slice (some ⟨w.heap.size, 0, none⟩) 0 0)) ((w.drewN m).alloc (.cells #[] 9)) := fun m =>
      ⟨_, rfl, ⟨rfl, .inr ⟨w.heap.size, 0, #[], rfl, Nat.le_refl _, Blk.new (w.drewN m) 9 #[], Nat.le_refl _, by simp [maxLen], rfl, rfl⟩⟩, (below_drewN _ _ m).alloc (Nat.le_refl _) _⟩
    have HR := Lib.hid hr
    clear hr
    go_enter Try.func18, Try.ntmps18
    go_wp2_with fail
    refine R.out.mono ?_
    rintro e w1 ⟨rfl, m, rfl⟩
    clear R
    go_wp2_with fail
    go_ret
    exact HR.out m
  | some k =>
    rw [ho] at R
    obtain ⟨hl, hk, ht⟩ := (whole_iff (by omega)).1 ho
    have CO := Lib.hid (fun w => partsS_any S (by have := len_S S; omega) false k hk ht w)
    simp only [oP, Option.isSome_some] at R ⊢
    clear ho hl hk ht
    go_enter Try.func18, Try.ntmps18
    go_wp2_with fail
    refine R.out.mono ?_
    rintro e w1 ⟨rfl, m, rfl⟩
    clear R
    go_wp2_with fail
    refine (CO.out _).mono ?_
    rintro e w2 ⟨v, rfl, hown, hb2⟩
    have B2 : Hid (Below w.heap.size w w2) := (below_drewN _ _ m).trans hb2
    have H2 : Hid (w2.ownsRow w.heap.size 9 1 v (prt k).length ((prt k).map sv)) := hown
    clear hb2 CO hown
    go_wp2_with fail
    go_ret
    exact ⟨v, rfl, H2.out, B2.out⟩

end Go.Proofs.Ytppcghklkldnaaa
