/- Folded programs: the reference's. -/
import Derived.Test.YtppcghklkldnaaaFt
import Derived.Test.YtppcghklkldnaaaRs
namespace Go.Proofs.Ytppcghklkldnaaa
open Go.RowKit
open Pl

def fpv (k : Nd) : Value := .string (bs (foldP k).text)
set_option maxRecDepth 100000 in
set_option maxHeartbeats 16000000 in
theorem foldProgS_any : ∀ (n : Nat) (k : Nd) (S : ByteArray) (w : World), S.data.toList = k.text → k.text.length ≤ n → n ≤ 1000 → ok false 2 k = true →
    Calls Try.prog 60 #[.string S] w fun e w' => (e = .returned (.string (bs (foldP k).text)) ∧ Below w.heap.size w w') := by
  intro n
  induction n with
  | zero => intro k S w _ h; have := text_pos k; omega
  | succ n ih =>
    intro k S w ht hl hn hok
    have hS : S.size = k.text.length := by rw [← ht, len_S]
    have HD := Lib.hid (fun w => headS_any S (by omega) false k hok ht w)
    have PT := Lib.hid (fun w => partsS_any S (by omega) false k hok ht w)
    obtain ⟨hp0, hc0⟩ := op_at ht
    have hex : S.extract 1 (hd k) = bs (headN k) := by
      have h1 : S.data.toList.drop 1 = headN k ++ flatN (prt k) := by rw [ht, head_text]; rfl
      exact extract_nd h1 (by have := hd_head k; omega)
    have hx1 : S.extract 0 1 = (⟨#[k.op]⟩ : ByteArray) := by
      have h1 : S.data.toList.drop 0 = [k.op] ++ (headN k ++ flatN (prt k)) := by rw [List.drop_zero, ht, head_text]; rfl
      exact extract_nd h1 rfl
    have hps : ∀ x ∈ prt k, ok false 2 x = true ∧ x.text.length ≤ n := fun x hx => ⟨prt_ok hok x hx, by have := prt_short hx; omega⟩
    have hd1 := hd_pos k
    have hd2 : hd k ≤ S.size := by rw [hS]; exact hd_le k
    have HPS := Lib.hid hps
    have HT := Lib.hid (nd_lt ht)
    have IH := Lib.hid ih
    have hz : (prt k).length ≤ 2 := prt_len
    obtain ⟨ps, hpp⟩ : ∃ ps, prt k = ps := ⟨_, rfl⟩
    obtain ⟨N, hN⟩ : ∃ N, ps.length = N := ⟨_, rfl⟩
    rw [hpp] at HPS PT hz
    rw [hN] at hz
    have HPP := Lib.hid hpp
    have HN := Lib.hid hN
    have HH := Lib.hid (show headN k = headN k from rfl)
    obtain ⟨hn0, hnn⟩ : ∃ l, headN k = l := ⟨_, rfl⟩
    obtain ⟨h0, hh0⟩ : ∃ l, hd k = l := ⟨_, rfl⟩
    rw [hnn, hh0] at hex
    rw [hh0] at HD hd1 hd2
    replace HH := Lib.hid hnn
    have HO := Lib.hid hok
    have HL := Lib.hid hl
    obtain ⟨o0, ho0⟩ : ∃ l, k.op = l := ⟨_, rfl⟩
    rw [ho0] at hc0 hx1
    have HOP := Lib.hid ho0
    obtain ⟨RS, hRS⟩ : ∃ R, bs (foldP k).text = R := ⟨_, rfl⟩
    rw [hRS]
    have HRS := Lib.hid hRS
    clear ht hl hok hpp hN hnn hh0 ho0 hps ih hS hRS
    go_enter Try.func60, Try.ntmps60
    go_wp2_with fail
    refine (HD.out _).mono ?_
    rintro e w1 ⟨rfl, m, rfl⟩
    go_wp2_with fail
    refine (PT.out _).mono ?_
    rintro e w2 ⟨v, rfl, hown, hb2⟩
    rw [HN.out] at hown
    obtain ⟨a, cap, rfl, hcap, hsh⟩ := row_shape hown
    have R0 : Hid (w2.ownsRow w.heap.size 9 1 (.slice a N cap) N (mix fpv sv ps 0)) := by rw [mix_zero]; exact hown
    have B0 : Hid (Below w.heap.size w w2) := (below_drewN _ _ m).trans hb2
    have HSH : Hid (0 < N → ∃ g, a = some ⟨g, 0, none⟩ ∧ w.heap.size ≤ g) := fun h => by obtain ⟨g, h1, h2, _⟩ := hsh h; exact ⟨g, h1, h2⟩
    clear hown hb2 hsh HD PT
    go_wp2_with fail
    go_loopg [5] N (fun gk i wr => ∃ j : Nat, j + gk = N ∧ i = .int .i64 j ∧ Hid (wr.ownsRow w.heap.size 9 1 (.slice a N cap) N (mix fpv sv ps j)) ∧ Hid (Below w.heap.size w wr))
    case atStart => exact ⟨0, by omega, rfl, R0, B0⟩
    case round =>
      clear R0 B0
      obtain ⟨j, hj, rfl, R, B⟩ := hrel
      by_cases hlt : j < N
      · obtain ⟨g, rfl, hge⟩ := HSH.out (by omega)
        have hjp : j < ps.length := by rw [HN.out]; exact hlt
        obtain ⟨hok1, hl1⟩ := HPS.out ps[j] (List.getElem_mem _)
        have hc : wr.cell? ⟨g, j, none⟩ = some (.string (bs ps[j].text)) := by rw [R.out.cellAt j (by omega)]; exact mix_get hjp
        have FX := Lib.hid (IH.out ps[j] (bs ps[j].text) wr (bs_list _) hl1 (by omega) hok1)
        have MS := Lib.hid (mix_set (f := fpv) (h := sv) hjp)
        obtain ⟨T, hT⟩ : ∃ T, bs ps[j].text = T := ⟨_, rfl⟩
        obtain ⟨U, hU⟩ : ∃ T, bs (foldP ps[j]).text = T := ⟨_, rfl⟩
        rw [hT] at hc
        rw [hT, hU] at FX
        have hmu : (mix fpv sv ps j).set j (.string U) = mix fpv sv ps (j + 1) := by rw [← hU]; exact MS.out
        have HMU := Lib.hid hmu
        clear hT hU hmu MS hok1 hl1
        go_wp2_with fail
        refine FX.out.mono ?_
        rintro e w3 ⟨rfl, hb3⟩
        have R3 := row_call R.out hb3
        have f3 := R3.frozenAt j
        obtain ⟨cv, hcv⟩ : ∃ cv, w3.cell? ⟨g, j, none⟩ = some cv := ⟨_, (R3.cellAt j (by omega)).trans (mix_get hjp)⟩
        have R4 : Hid ((w3.setCell ⟨g, j, none⟩ (.string U)).ownsRow w.heap.size 9 1 (.slice (some ⟨g, 0, none⟩) N cap) N (mix fpv sv ps (j + 1))) := by
          have := (R3.stored j (.string U)).1
          rw [HMU.out] at this
          exact this
        have B4 := Lib.hid ((below_2 B.out hb3).setCell (p := ⟨g, j, none⟩) hge (.string U))
        clear hb3 R3 FX hc R B
        go_wp2_with fail
        go_roundg (gk - 1)
        case measure => omega
        case rel => exact ⟨j + 1, by omega, by go_num, R4, B4⟩
      · obtain rfl : j = N := by omega
        have hown : Hid (wr.ownsRow w.heap.size 9 1 (.slice a j cap) j (ps.map fpv)) := by rw [← mix_all fpv sv ps, HN.out]; exact R.out
        have hokk := HO.out
        have hll := HL.out
        have hpp := HPP.out
        have hnn := HH.out
        have hoo := HOP.out
        have hSS := HT.out
        have hN := HN.out
        clear IH HPS R HO HL HPP HH HOP HT HN hj hlt
        rcases ok2_head hokk with rfl | ⟨v, e, rfl, hv, he⟩ | ⟨o, x, y, rfl, ho, hx, hy⟩ | ⟨t, x, y, rfl, ht, hx, hy⟩ | ⟨t, x, rfl, ht, hx⟩ | ⟨t, rfl, ht⟩
        · skip
          obtain rfl : ps = [] := hpp.symm
          obtain rfl : hn0 = [] := hnn.symm
          obtain rfl : o0 = 115 := hoo.symm
          obtain rfl : j = 0 := hN.symm
          clear hpp hnn hoo hN hokk
          have hf : bs (foldP (.n0 115)).text = S := by rw [hSS]; rfl
          obtain rfl := HRS.out.symm.trans hf
          clear hf hSS hown HSH hll
          go_wp2_with fail
          go_ret
          exact ⟨rfl, B.out⟩
        · skip
          obtain rfl : ps = [] := hpp.symm
          obtain rfl : hn0 = v :: e.text := hnn.symm
          obtain rfl : o0 = 97 := hoo.symm
          obtain rfl : j = 0 := hN.symm
          clear hpp hnn hoo hN hokk
          simp only [Nd.text, List.length_cons, List.length_append] at hll
          have FE := Lib.hid (fun w => foldS_any (bs (v :: e.text)) (by rw [bs_size]; simp; omega) e 1 [] w he (by rw [bs_list]; simp))
          have hE1 : (bs (v :: e.text)).extract 0 1 = (⟨#[v]⟩ : ByteArray) := extract_nd (l := [v]) (r := e.text) (by rw [bs_list]; rfl) rfl
          have hE2 : 1 ≤ (bs (v :: e.text)).size := by rw [bs_size]; simp
          have le := fold_len e
          have hf : bs (foldP (.n2 97 (.n0 v) e)).text = (⟨#[97]⟩ : ByteArray) ++ ⟨#[v]⟩ ++ bs (fold e).text := bs_two 97 (.n0 v) (fold e)
          have sE : (bs (fold e).text).size ≤ 1000 := by rw [bs_size]; omega
          generalize ((e.text.length : Nat) : Int) = el at *
          generalize bs (fold e).text = E at *
          generalize bs (v :: e.text) = H at *
          obtain rfl := HRS.out.symm.trans hf
          clear hf hSS hown HSH hll le he hv
          have z1 : 2 + E.size ≤ 9223372036854775807 := by omega
          have z2 : 1 + 1 + E.size ≤ 9223372036854775807 := by omega
          go_wp2_with fail
          refine (FE.out _).mono ?_
          rintro e w3 ⟨rfl, hb3⟩
          have B3 := Lib.hid (below_2 B.out hb3)
          clear hb3 FE
          go_wp2_with fail
          go_ret
          exact ⟨rfl, B3.out⟩
        · rcases ho with rfl | rfl
          · skip
            obtain rfl : ps = [x, y] := hpp.symm
            obtain rfl : hn0 = [] := hnn.symm
            obtain rfl : o0 = 59 := hoo.symm
            obtain rfl : j = 2 := hN.symm
            clear hpp hnn hoo hN hokk
            simp only [Nd.text, List.length_cons, List.length_append] at hll
            obtain ⟨g, rfl, hge⟩ := HSH.out (by omega)
            have hgl : g < wr.heap.size := (hown.out.lt g rfl).2
            have r0 : wr.cell? ⟨g, 0, none⟩ = some (.string (bs (foldP x).text)) := hown.out.cellAt 0 (by omega)
            have r1 : wr.cell? ⟨g, 1, none⟩ = some (.string (bs (foldP y).text)) := hown.out.cellAt 1 (by omega)
            have lx := foldP_len x
            have sx : (bs (foldP x).text).size ≤ 1000 := by rw [bs_size]; omega
            have ly := foldP_len y
            have sy : (bs (foldP y).text).size ≤ 1000 := by rw [bs_size]; omega
            have hf : bs (foldP (.n2 59 x y)).text = (⟨#[59]⟩ : ByteArray) ++ bs (foldP x).text ++ bs (foldP y).text := bs_two 59 (foldP x) (foldP y)
            generalize bs (foldP x).text = A at *
            generalize bs (foldP y).text = C at *
            obtain rfl := HRS.out.symm.trans hf
            clear hf hSS hown HSH hll lx ly hx hy
            have z1 : ¬ (9223372036854775807 < 1 + A.size) := by omega
            have z2 : ¬ (9223372036854775807 < 1 + A.size + C.size) := by omega
            go_wp2_with fail
            go_quiet (fail)
            go_wp2_with fail
            go_ret
            exact ⟨rfl, B.out.trans (below_drewN _ _ _)⟩
          · skip
            obtain rfl : ps = [x, y] := hpp.symm
            obtain rfl : hn0 = [] := hnn.symm
            obtain rfl : o0 = 47 := hoo.symm
            obtain rfl : j = 2 := hN.symm
            clear hpp hnn hoo hN hokk
            simp only [Nd.text, List.length_cons, List.length_append] at hll
            obtain ⟨g, rfl, hge⟩ := HSH.out (by omega)
            have hgl : g < wr.heap.size := (hown.out.lt g rfl).2
            have r0 : wr.cell? ⟨g, 0, none⟩ = some (.string (bs (foldP x).text)) := hown.out.cellAt 0 (by omega)
            have r1 : wr.cell? ⟨g, 1, none⟩ = some (.string (bs (foldP y).text)) := hown.out.cellAt 1 (by omega)
            have lx := foldP_len x
            have sx : (bs (foldP x).text).size ≤ 1000 := by rw [bs_size]; omega
            have ly := foldP_len y
            have sy : (bs (foldP y).text).size ≤ 1000 := by rw [bs_size]; omega
            have hf : bs (foldP (.n2 47 x y)).text = (⟨#[47]⟩ : ByteArray) ++ bs (foldP x).text ++ bs (foldP y).text := bs_two 47 (foldP x) (foldP y)
            generalize bs (foldP x).text = A at *
            generalize bs (foldP y).text = C at *
            obtain rfl := HRS.out.symm.trans hf
            clear hf hSS hown HSH hll lx ly hx hy
            have z1 : ¬ (9223372036854775807 < 1 + A.size) := by omega
            have z2 : ¬ (9223372036854775807 < 1 + A.size + C.size) := by omega
            go_wp2_with fail
            go_quiet (fail)
            go_wp2_with fail
            go_ret
            exact ⟨rfl, B.out.trans (below_drewN _ _ _)⟩
        · skip
          obtain rfl : ps = [x, y] := hpp.symm
          obtain rfl : hn0 = t.text := hnn.symm
          obtain rfl : o0 = 63 := hoo.symm
          obtain rfl : j = 2 := hN.symm
          clear hpp hnn hoo hN hokk
          simp only [Nd.text, List.length_cons, List.length_append] at hll
          obtain ⟨g, rfl, hge⟩ := HSH.out (by omega)
          have hgl : g < wr.heap.size := (hown.out.lt g rfl).2
          have r0 : wr.cell? ⟨g, 0, none⟩ = some (.string (bs (foldP x).text)) := hown.out.cellAt 0 (by omega)
          have r1 : wr.cell? ⟨g, 1, none⟩ = some (.string (bs (foldP y).text)) := hown.out.cellAt 1 (by omega)
          have lx := foldP_len x
          have sx : (bs (foldP x).text).size ≤ 1000 := by rw [bs_size]; omega
          have ly := foldP_len y
          have sy : (bs (foldP y).text).size ≤ 1000 := by rw [bs_size]; omega
          have FT := Lib.hid (fun w => foldTestS_any (bs t.text) (by rw [bs_size]; omega) t 0 [] w ht (by rw [bs_list]; simp))
          have lt := foldT_len t
          have hts : (bs (foldT t).text).size ≤ 1000 := by rw [bs_size]; omega
          obtain ⟨a1, b1⟩ := isC_beq 116 (foldT t)
          obtain ⟨a2, b2⟩ := isC_beq 102 (foldT t)
          simp only [Int.cast_ofNat_Int] at FT
          generalize bs t.text = H at *
          generalize ((t.text.length : Nat) : Int) = el at *
          clear hown HSH hll lx ly lt hx hy hSS ht
          obtain ⟨A, hA0⟩ : ∃ A, bs (foldP x).text = A := ⟨_, rfl⟩
          obtain ⟨C, hC0⟩ : ∃ A, bs (foldP y).text = A := ⟨_, rfl⟩
          rw [hA0] at r0 sx
          rw [hC0] at r1 sy
          cases c1 : isC 116 (foldT t)
          · rw [c1] at a1 b1
            cases c2 : isC 102 (foldT t)
            · rw [c2] at a2 b2
              have hf : bs (foldP (.n3 63 t x y)).text = (⟨#[63]⟩ : ByteArray) ++ bs (foldT t).text ++ A ++ C := by
                rw [← hA0, ← hC0, show (⟨#[63]⟩ : ByteArray) = bs [63] from rfl, bs_app, bs_app, bs_app]
                congr 1
                simp [foldP, c1, c2, Nd.text]
              generalize bs (foldT t).text = T at *
              obtain rfl := HRS.out.symm.trans hf
              clear hf c1 c2 hA0 hC0
              have z1 : ¬ (9223372036854775807 < 1 + T.size) := by omega
              have z2 : ¬ (9223372036854775807 < 1 + T.size + A.size) := by omega
              have z3 : ¬ (9223372036854775807 < 1 + T.size + A.size + C.size) := by omega
              go_wp2_with fail
              refine (FT.out _).mono ?_
              rintro e w3 ⟨rfl, hb3⟩
              have B3 := Lib.hid (below_2 B.out hb3)
              replace r0 := (hb3.cell (p := ⟨g, 0, none⟩) hgl).trans r0
              replace r1 := (hb3.cell (p := ⟨g, 1, none⟩) hgl).trans r1
              clear hb3 FT
              go_wp2_with fail
              go_quiet (fail)
              go_wp2_with fail
              go_ret
              exact ⟨rfl, B3.out.trans (below_drewN _ _ _)⟩
            · have hf : bs (foldP (.n3 63 t x y)).text = C := by
                rw [← hC0]
                congr 1
                simp [foldP, c1, c2]
              rw [isC_bs c2] at FT
              obtain rfl := HRS.out.symm.trans hf
              clear hf c1 c2 a1 b1 a2 b2 hts hA0 hC0
              go_wp2_with fail
              refine (FT.out _).mono ?_
              rintro e w3 ⟨rfl, hb3⟩
              have B3 := Lib.hid (below_2 B.out hb3)
              replace r0 := (hb3.cell (p := ⟨g, 0, none⟩) hgl).trans r0
              replace r1 := (hb3.cell (p := ⟨g, 1, none⟩) hgl).trans r1
              clear hb3 FT
              go_wp2_with fail
              go_ret
              exact ⟨rfl, B3.out⟩
          · have hf : bs (foldP (.n3 63 t x y)).text = A := by
              rw [← hA0]
              congr 1
              simp [foldP, c1]
            rw [isC_bs c1] at FT
            obtain rfl := HRS.out.symm.trans hf
            clear hf c1 a1 b1 a2 b2 hts hA0 hC0
            go_wp2_with fail
            refine (FT.out _).mono ?_
            rintro e w3 ⟨rfl, hb3⟩
            have B3 := Lib.hid (below_2 B.out hb3)
            replace r0 := (hb3.cell (p := ⟨g, 0, none⟩) hgl).trans r0
            replace r1 := (hb3.cell (p := ⟨g, 1, none⟩) hgl).trans r1
            clear hb3 FT
            go_wp2_with fail
            go_ret
            exact ⟨rfl, B3.out⟩
        · skip
          obtain rfl : ps = [x] := hpp.symm
          obtain rfl : hn0 = t.text := hnn.symm
          obtain rfl : o0 = 64 := hoo.symm
          obtain rfl : j = 1 := hN.symm
          clear hpp hnn hoo hN hokk
          simp only [Nd.text, List.length_cons, List.length_append] at hll
          obtain ⟨g, rfl, hge⟩ := HSH.out (by omega)
          have hgl : g < wr.heap.size := (hown.out.lt g rfl).2
          have r0 : wr.cell? ⟨g, 0, none⟩ = some (.string (bs (foldP x).text)) := hown.out.cellAt 0 (by omega)
          have lx := foldP_len x
          have sx : (bs (foldP x).text).size ≤ 1000 := by rw [bs_size]; omega
          have FT := Lib.hid (fun w => foldTestS_any (bs t.text) (by rw [bs_size]; omega) t 0 [] w ht (by rw [bs_list]; simp))
          have lt := foldT_len t
          have hts : (bs (foldT t).text).size ≤ 1000 := by rw [bs_size]; omega
          obtain ⟨a1, b1⟩ := isC_beq 116 (foldT t)
          obtain ⟨a2, b2⟩ := isC_beq 102 (foldT t)
          simp only [Int.cast_ofNat_Int] at FT
          generalize bs t.text = H at *
          generalize ((t.text.length : Nat) : Int) = el at *
          clear hown HSH hll lx lt hx hSS ht a1 b1
          obtain ⟨A, hA0⟩ : ∃ A, bs (foldP x).text = A := ⟨_, rfl⟩
          rw [hA0] at r0 sx
          cases c2 : isC 102 (foldT t)
          · rw [c2] at a2 b2
            have hf : bs (foldP (.n2 64 t x)).text = (⟨#[64]⟩ : ByteArray) ++ bs (foldT t).text ++ A := by
              rw [← hA0, show (⟨#[64]⟩ : ByteArray) = bs [64] from rfl, bs_app, bs_app]
              congr 1
              simp [foldP, c2, Nd.text]
            generalize bs (foldT t).text = T at *
            obtain rfl := HRS.out.symm.trans hf
            clear hf c2 hA0
            have z1 : 1 + T.size ≤ 9223372036854775807 := by omega
            have z2 : 1 + T.size + A.size ≤ 9223372036854775807 := by omega
            go_wp2_with fail
            refine (FT.out _).mono ?_
            rintro e w3 ⟨rfl, hb3⟩
            have B3 := Lib.hid (below_2 B.out hb3)
            replace r0 := (hb3.cell (p := ⟨g, 0, none⟩) hgl).trans r0
            clear hb3 FT
            go_wp2_with fail
            go_ret
            exact ⟨rfl, B3.out⟩
          · have hf : bs (foldP (.n2 64 t x)).text = ⟨#[115]⟩ := by
              simp [foldP, c2, Nd.text, bs]
            rw [isC_bs c2] at FT
            obtain rfl := HRS.out.symm.trans hf
            clear hf c2 a2 b2 hts hA0
            go_wp2_with fail
            refine (FT.out _).mono ?_
            rintro e w3 ⟨rfl, hb3⟩
            have B3 := Lib.hid (below_2 B.out hb3)
            replace r0 := (hb3.cell (p := ⟨g, 0, none⟩) hgl).trans r0
            clear hb3 FT
            go_wp2_with fail
            go_ret
            exact ⟨rfl, B3.out⟩
        · skip
          obtain rfl : ps = [] := hpp.symm
          obtain rfl : hn0 = t.text := hnn.symm
          obtain rfl : o0 = 126 := hoo.symm
          obtain rfl : j = 0 := hN.symm
          clear hpp hnn hoo hN hokk
          simp only [Nd.text, List.length_cons] at hll
          have FT := Lib.hid (fun w => foldTestS_any (bs t.text) (by rw [bs_size]; omega) t 0 [] w ht (by rw [bs_list]; simp))
          have lt := foldT_len t
          have hts : (bs (foldT t).text).size ≤ 1000 := by rw [bs_size]; omega
          obtain ⟨a1, b1⟩ := isC_beq 116 (foldT t)
          obtain ⟨a2, b2⟩ := isC_beq 102 (foldT t)
          simp only [Int.cast_ofNat_Int] at FT
          generalize bs t.text = H at *
          generalize ((t.text.length : Nat) : Int) = el at *
          clear hown HSH hll lt hSS ht a2 b2
          cases c1 : isC 116 (foldT t)
          · rw [c1] at a1 b1
            have hf : bs (foldP (.n1 126 t)).text = (⟨#[126]⟩ : ByteArray) ++ bs (foldT t).text := by
              simp only [foldP, c1, Bool.false_eq_true, if_false]
              exact bs_one 126 (foldT t)
            generalize bs (foldT t).text = T at *
            obtain rfl := HRS.out.symm.trans hf
            clear hf c1
            have z1 : 1 + T.size ≤ 9223372036854775807 := by omega
            go_wp2_with fail
            refine (FT.out _).mono ?_
            rintro e w3 ⟨rfl, hb3⟩
            have B3 := Lib.hid (below_2 B.out hb3)
            clear hb3 FT
            go_wp2_with fail
            go_ret
            exact ⟨rfl, B3.out⟩
          · have hf : bs (foldP (.n1 126 t)).text = ⟨#[115]⟩ := by
              simp [foldP, c1, Nd.text, bs]
            rw [isC_bs c1] at FT
            obtain rfl := HRS.out.symm.trans hf
            clear hf c1 a1 b1 hts
            go_wp2_with fail
            refine (FT.out _).mono ?_
            rintro e w3 ⟨rfl, hb3⟩
            have B3 := Lib.hid (below_2 B.out hb3)
            clear hb3 FT
            go_wp2_with fail
            go_ret
            exact ⟨rfl, B3.out⟩
set_option maxHeartbeats 1000000 in
theorem FoldProgramS_any (S : ByteArray) (hS : S.size ≤ 1000000000000) (w : World) : Calls Try.prog 14 #[.string S] w fun e w' => (e = .returned (.tuple #[.string (bs (optT ((whole false 2 200 S.data.toList).map foldP))), .bool ((whole false 2 200 S.data.toList).map foldP).isSome]) ∧ Below w.heap.size w w') := by
  have R := Lib.hid (ProgramValidS_any S w hS)
  cases ho : whole false 2 200 S.data.toList with
  | none =>
    rw [ho] at R
    clear ho
    simp only [Option.map_none, optT, Option.isSome_none] at R ⊢
    go_enter Try.func14, Try.ntmps14
    go_wp2_with fail
    refine R.out.mono ?_
    rintro e w1 ⟨rfl, hb1⟩
    have B1 := Lib.hid (below_of_drewN hb1)
    clear R hb1
    go_wp2_with fail
    go_ret2
    exact ⟨(by first | trivial | rfl), B1.out⟩
  | some k =>
    rw [ho] at R
    obtain ⟨hl, hk, ht⟩ := (whole_iff (by omega)).1 ho
    have FX := Lib.hid (fun w => foldProgS_any 200 k S w ht (by rw [← ht]; exact hl) (by omega) hk)
    simp only [Option.map_some, optT, Option.isSome_some] at R ⊢
    clear ho hl hk ht
    go_enter Try.func14, Try.ntmps14
    go_wp2_with fail
    refine R.out.mono ?_
    rintro e w1 ⟨rfl, hb1⟩
    have B1 := Lib.hid (below_of_drewN hb1)
    clear R hb1
    go_wp2_with fail
    refine (FX.out _).mono ?_
    rintro e w2 ⟨rfl, hb2⟩
    have B2 := Lib.hid (below_2 B1.out hb2)
    clear hb2
    go_wp2_with fail
    go_ret2
    exact ⟨(by first | trivial | rfl), B2.out⟩

end Go.Proofs.Ytppcghklkldnaaa
