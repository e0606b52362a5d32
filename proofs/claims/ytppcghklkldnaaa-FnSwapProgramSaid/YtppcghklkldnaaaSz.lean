/- What the reference says of programs. -/
import Derived.Test.YtppcghklkldnaaaPh
namespace Go.Proofs.Ytppcghklkldnaaa
open Go.RowKit
open Pl

theorem row_at {w : World} {base : Nat} {ps : List Nd} {g N cap j : Nat} {f : Nd → Value} (h : w.ownsRow base 9 1 (.slice (some ⟨g, 0, none⟩) N cap) N (ps.map f)) (hN : ps.length = N) (hj : j < ps.length) : w.cell? ⟨g, j, none⟩ = some (f ps[j]) := by
  rw [h.cellAt j (by omega)]
  simp [hj]
theorem mem_in {O : List UInt8} {c : UInt8} : inO (bs O) c = true ↔ c ∈ O := by
  unfold inO
  rw [decide_eq_true_eq, bs_list, fnd_mem]
set_option maxRecDepth 100000 in
set_option maxHeartbeats 8000000 in
theorem sizeS_any (wd : Bool) : ∀ (n : Nat) (k : Nd) (S : ByteArray) (w : World), S.data.toList = k.text → k.text.length ≤ n → n ≤ 1000 → ok wd 2 k = true →
    Calls Try.prog 78 #[.string S, .bool wd] w fun e w' => (e = .returned (.int .i64 ((stm k).length : Nat)) ∧ Below w.heap.size w w') := by
  intro n
  induction n with
  | zero => intro k S w _ h; have := text_pos k; omega
  | succ n ih =>
    intro k S w ht hl hn hok
    have hS : S.size = k.text.length := by rw [← ht, len_S]
    have PT := Lib.hid (fun w => partsS_any S (by omega) wd k hok ht w)
    have hps : ∀ x ∈ prt k, ok wd 2 x = true ∧ x.text.length ≤ n := fun x hx => ⟨prt_ok hok x hx, by have := prt_short hx; omega⟩
    have hz : (prt k).length ≤ 2 := prt_len
    have hle : (stm k).length ≤ 1000 := by have := stm_len k; omega
    rw [stm_eq] at hle ⊢
    have HLE := Lib.hid hle
    clear hle
    have HPS := Lib.hid hps
    have IH := Lib.hid ih
    clear hps ih hok hl ht hS
    generalize prt k = ps at *
    obtain ⟨N, hN⟩ : ∃ N, ps.length = N := ⟨_, rfl⟩
    rw [hN] at hz
    have HN := Lib.hid hN
    clear hN
    go_enter Try.func78, Try.ntmps78
    go_wp2_with fail
    refine (PT.out _).mono ?_
    rintro e w1 ⟨v, rfl, hown, hb1⟩
    rw [HN.out] at hown
    obtain ⟨a, cap, rfl, hcap, hsh⟩ := row_shape hown
    have R0 := Lib.hid hown
    have B0 := Lib.hid hb1
    have HSH := Lib.hid hsh
    clear hown hb1 hsh PT
    go_wp2_with fail
    go_loopg [5, 7] N (fun gk m i wr => ∃ j d : Nat, j + gk = N ∧ i = .int .i64 j ∧ m = .int .i64 d ∧ d ≤ 1000 ∧ Hid (d = 1 + (stmL (ps.take j)).length) ∧ Hid (wr.ownsRow w.heap.size 9 1 (.slice a N cap) N (ps.map sv)) ∧ Hid (Below w.heap.size w wr))
    case atStart => exact ⟨0, 1, by omega, rfl, rfl, by omega, Lib.hid (by simp [stmL]), R0, B0⟩
    case round =>
      clear R0 B0
      obtain ⟨j, d, hj, rfl, rfl, hd, HD, R, B⟩ := hrel
      by_cases hlt : j < N
      · obtain ⟨g, rfl, _, _⟩ := HSH.out (by omega)
        have hjp : j < ps.length := by rw [HN.out]; exact hlt
        obtain ⟨hok1, hl1⟩ := HPS.out ps[j] (List.getElem_mem _)
        have hc : wr.cell? ⟨g, j, none⟩ = some (.string (bs ps[j].text)) := row_at R.out HN.out hjp
        have FX := Lib.hid (IH.out ps[j] (bs ps[j].text) wr (bs_list _) hl1 (by omega) hok1)
        have ht1 := stmL_take hjp
        have ht2 := stmL_le (ps := ps) (j := j + 1)
        have HT : Hid (d + (stm ps[j]).length = 1 + (stmL (ps.take (j + 1))).length) := by
          have h2 := HD.out
          show d + (stm ps[j]).length = _
          rw [ht1, List.length_append]
          omega
        have hd2 : d + (stm ps[j]).length ≤ 1000 := by
          have h1 := HT.out
          have h2 := HLE.out
          simp only [List.length_cons] at h2
          omega
        generalize (stm ps[j]).length = d2 at *
        clear ht1 ht2
        generalize bs ps[j].text = T at *
        clear hok1 hl1 HD
        go_wp2_with fail
        refine FX.out.mono ?_
        rintro e w3 ⟨rfl, hb3⟩
        have R3 := Lib.hid (row_call R.out hb3)
        have B3 := Lib.hid (below_2 B.out hb3)
        clear hb3 R B FX hc
        go_wp2_with fail
        go_roundg (gk - 1)
        case measure => omega
        case rel => exact ⟨j + 1, d + d2, by omega, by go_num, by go_num, by omega, HT, R3, B3⟩
      · have e : ps.take j = ps := List.take_of_length_le (by rw [HN.out]; omega)
        rw [e] at HD
        have HD2 : Hid ((d : Int) = ((k :: stmL ps).length : Nat)) := by have := HD.out; show (d : Int) = _; simp only [List.length_cons]; omega
        clear e HD
        go_wp2_with fail
        go_ret
        exact ⟨ret_int HD2.out, B.out⟩
set_option maxRecDepth 100000 in
set_option maxHeartbeats 8000000 in
theorem depthS_any : ∀ (n : Nat) (k : Nd) (S : ByteArray) (w : World), S.data.toList = k.text → k.text.length ≤ n → n ≤ 1000 → ok false 2 k = true →
    Calls Try.prog 79 #[.string S] w fun e w' => (e = .returned (.int .i64 (depN k : Nat)) ∧ Below w.heap.size w w') := by
  intro n
  induction n with
  | zero => intro k S w _ h; have := text_pos k; omega
  | succ n ih =>
    intro k S w ht hl hn hok
    have hS : S.size = k.text.length := by rw [← ht, len_S]
    have PT := Lib.hid (fun w => partsS_any S (by omega) false k hok ht w)
    have hps : ∀ x ∈ prt k, ok false 2 x = true ∧ x.text.length ≤ n := fun x hx => ⟨prt_ok hok x hx, by have := prt_short hx; omega⟩
    have hz : (prt k).length ≤ 2 := prt_len
    rw [dep_eq]
    have HPS := Lib.hid hps
    have IH := Lib.hid ih
    clear hps ih hok hl ht hS
    generalize prt k = ps at *
    obtain ⟨N, hN⟩ : ∃ N, ps.length = N := ⟨_, rfl⟩
    rw [hN] at hz
    have HN := Lib.hid hN
    clear hN
    go_enter Try.func79, Try.ntmps79
    go_wp2_with fail
    refine (PT.out _).mono ?_
    rintro e w1 ⟨v, rfl, hown, hb1⟩
    rw [HN.out] at hown
    obtain ⟨a, cap, rfl, hcap, hsh⟩ := row_shape hown
    have R0 := Lib.hid hown
    have B0 := Lib.hid hb1
    have HSH := Lib.hid hsh
    clear hown hb1 hsh PT
    go_wp2_with fail
    go_loopg [3, 5] N (fun gk m i wr => ∃ j d : Nat, j + gk = N ∧ i = .int .i64 j ∧ m = .int .i64 d ∧ d ≤ 1000 ∧ Hid (d = depL (ps.take j)) ∧ Hid (wr.ownsRow w.heap.size 9 1 (.slice a N cap) N (ps.map sv)) ∧ Hid (Below w.heap.size w wr))
    case atStart => exact ⟨0, 0, by omega, rfl, rfl, by omega, Lib.hid (by simp [depL]), R0, B0⟩
    case round =>
      clear R0 B0
      obtain ⟨j, d, hj, rfl, rfl, hd, HD, R, B⟩ := hrel
      by_cases hlt : j < N
      · obtain ⟨g, rfl, _, _⟩ := HSH.out (by omega)
        have hjp : j < ps.length := by rw [HN.out]; exact hlt
        obtain ⟨hok1, hl1⟩ := HPS.out ps[j] (List.getElem_mem _)
        have hc : wr.cell? ⟨g, j, none⟩ = some (.string (bs ps[j].text)) := row_at R.out HN.out hjp
        have FX := Lib.hid (IH.out ps[j] (bs ps[j].text) wr (bs_list _) hl1 (by omega) hok1)
        have hdl := dep_len ps[j]
        have HT : Hid (max d (depN ps[j]) = depL (ps.take (j + 1))) := by
          have h1 := depL_take hjp
          have h2 := HD.out
          show max d (depN ps[j]) = _
          rw [h1, h2]
        have hd2 : depN ps[j] ≤ 1000 := by omega
        generalize depN ps[j] = d2 at *
        clear hdl
        generalize bs ps[j].text = T at *
        clear hok1 hl1 HD
        go_wp2_with fail
        refine FX.out.mono ?_
        rintro e w3 ⟨rfl, hb3⟩
        have R3 := Lib.hid (row_call R.out hb3)
        have B3 := Lib.hid (below_2 B.out hb3)
        clear hb3 R B FX hc
        go_wp2_with fail
        go_roundg (gk - 1)
        case measure => omega
        case rel => exact ⟨j + 1, max d d2, by omega, by go_num, by rw [max_cast], by omega, HT, R3, B3⟩
      · have e : ps.take j = ps := List.take_of_length_le (by rw [HN.out]; omega)
        rw [e] at HD
        have HD2 : Hid ((d : Int) + 1 = ((depL ps + 1 : Nat) : Int)) := by have := HD.out; show (d : Int) + 1 = _; omega
        clear e HD
        go_wp2_with fail
        go_ret
        exact ⟨ret_int HD2.out, B.out⟩
def hdv (k : Nd) : Value := .string (bs (headN k))
def HeadsPost (w : World) (k : Nd) (e : Ending) (w' : World) : Prop :=
  ∃ v, e = .returned (.tuple #[v, .string (bs ((stm k).map Nd.op))]) ∧ w'.ownsRow w.heap.size 9 1 v (stm k).length ((stm k).map hdv) ∧ Below w.heap.size w w'
set_option maxRecDepth 100000 in
set_option maxHeartbeats 8000000 in
theorem headsS_any (wd : Bool) : ∀ (n : Nat) (k : Nd) (S : ByteArray) (w : World), S.data.toList = k.text → k.text.length ≤ n → n ≤ 1000 → ok wd 2 k = true →
    Calls Try.prog 80 #[.string S, .bool wd] w (HeadsPost w k) := by
  intro n
  induction n with
  | zero => intro k S w _ h; have := text_pos k; omega
  | succ n ih =>
    intro k S w ht hl hn hok
    have hS : S.size = k.text.length := by rw [← ht, len_S]
    have PT := Lib.hid (fun w => partsS_any S (by omega) wd k hok ht w)
    have hps : ∀ x ∈ prt k, ok wd 2 x = true ∧ x.text.length ≤ n := fun x hx => ⟨prt_ok hok x hx, by have := prt_short hx; omega⟩
    have hz : (prt k).length ≤ 2 := prt_len
    have HD := Lib.hid (fun w => headS_any S (by omega) wd k hok ht w)
    have hex : S.extract 1 (hd k) = bs (headN k) := by
      have h1 : S.data.toList.drop 1 = headN k ++ flatN (prt k) := by rw [ht, head_text]; rfl
      exact extract_nd h1 (by have := hd_head k; omega)
    have hx1 : S.extract 0 1 = bs [k.op] := by
      have h1 : S.data.toList.drop 0 = [k.op] ++ (headN k ++ flatN (prt k)) := by rw [List.drop_zero, ht, head_text]; rfl
      exact extract_nd h1 rfl
    have hd1 := hd_pos k
    have hd2 : hd k ≤ S.size := by rw [hS]; exact hd_le k
    have hle : (stm k).length ≤ 1000 := by have := stm_len k; omega
    rw [show HeadsPost w k = fun e w' => ∃ v, e = .returned (.tuple #[v, .string (bs ((stm k).map Nd.op))]) ∧ w'.ownsRow w.heap.size 9 1 v (stm k).length ((stm k).map hdv) ∧ Below w.heap.size w w' from rfl, stm_eq]
    rw [stm_eq] at hle
    have HLE := Lib.hid hle
    have HPS := Lib.hid hps
    have IH := Lib.hid ih
    have hp0 : 0 < S.size := by rw [hS]; exact text_pos k
    clear hps ih hok hl ht hS hle
    generalize prt k = ps at *
    generalize hd k = h0 at *
    obtain ⟨N, hN⟩ : ∃ N, ps.length = N := ⟨_, rfl⟩
    rw [hN] at hz
    have HN := Lib.hid hN
    clear hN
    obtain ⟨Hd0, hH0⟩ : ∃ v, bs (headN k) = v := ⟨_, rfl⟩
    obtain ⟨K0, hK0⟩ : ∃ v, bs [k.op] = v := ⟨_, rfl⟩
    have hK1 : K0.size = 1 := by rw [← hK0]; rfl
    rw [hH0] at hex
    rw [hK0] at hx1
    have HH0 := Lib.hid hH0
    have HK0 := Lib.hid hK0
    have hk1a : K0.size ≤ 1 := by omega
    obtain ⟨PO, hPO⟩ : ∃ P : Ending → World → Prop, (fun e w' => ∃ v, e = .returned (.tuple #[v, .string (bs ((k :: stmL ps).map Nd.op))]) ∧ w'.ownsRow w.heap.size 9 1 v (k :: stmL ps).length ((k :: stmL ps).map hdv) ∧ Below w.heap.size w w') = P := ⟨_, rfl⟩
    rw [hPO]
    have HPO := Lib.hid (fun e w' h => (congrFun (congrFun hPO e) w').mp h)
    clear hPO hH0 hK0 hK1
    go_enter Try.func80, Try.ntmps80
    go_wp2_with fail
    refine (HD.out _).mono ?_
    rintro e w1 ⟨rfl, m, rfl⟩
    go_wp2_with fail
    refine (PT.out _).mono ?_
    rintro e w2 ⟨v, rfl, hown, hb2⟩
    rw [HN.out] at hown
    obtain ⟨a, cap, rfl, hcap, hsh⟩ := row_shape hown
    have hlit := World.ownsRow_lit (base := w.heap.size) (e := 9) (size := 1) (w.drewN m) #[.string Hd0] 1 (Nat.le_refl _) (by simp [maxLen]) rfl
    have P0 : Hid (w2.ownsRow w.heap.size 9 1 (.slice (some ⟨w.heap.size, 0, none⟩) 1 1) (k :: stmL (ps.take 0)).length ((k :: stmL (ps.take 0)).map hdv)) := by
      have := row_call hlit hb2
      have e1 : (k :: stmL (ps.take 0)).map hdv = #[Value.string Hd0].toList := by rw [← HH0.out]; rfl
      rw [e1]
      exact this
    have hown0 : w2.ownsRow (w.heap.size + 1) 9 1 (.slice a N cap) N (ps.map sv) := by simpa using hown
    have R0 := Lib.hid hown0
    have B0 : Hid (Below w.heap.size w w2) := ((below_drewN _ _ m).alloc (Nat.le_refl _) _).trans (hb2.mono (by simp))
    have HSH : Hid (0 < N → ∃ g, a = some ⟨g, 0, none⟩ ∧ w.heap.size + 1 ≤ g) := fun h => by obtain ⟨g, h1, h2, _⟩ := hsh h; exact ⟨g, h1, by simpa using h2⟩
    clear hown hown0 hb2 hsh hlit PT HD
    go_wp2_with fail
    go_loopg [6, 7, 9] N (fun gk v q i wr => ∃ (j : Nat) (Q : ByteArray), j + gk = N ∧ i = .int .i64 j ∧ q = .string Q ∧ Q.size ≤ 1000 ∧ Hid (Q = bs ((k :: stmL (ps.take j)).map Nd.op)) ∧ Hid (wr.ownsRow w.heap.size 9 1 v (k :: stmL (ps.take j)).length ((k :: stmL (ps.take j)).map hdv)) ∧ Hid (wr.ownsRow (w.heap.size + 1) 9 1 (.slice a N cap) N (ps.map sv)) ∧ Hid (Below w.heap.size w wr) ∧ Hid (∀ g, v.ownBlock = some g → ∀ x, a = some ⟨x, 0, none⟩ → w.heap.size + 1 ≤ x → g ≠ x))
    case atStart =>
      refine ⟨0, K0, by omega, rfl, rfl, by omega, ?_, P0, R0, B0, ?_⟩
      · exact HK0.out.symm
      · intro g e x _ hx h
        simp [Value.ownBlock] at e
        omega
    case round =>
      clear P0 R0 B0
      obtain ⟨j, Q, hj, rfl, rfl, hQ, HQ, P, R, B, D⟩ := hrel
      by_cases hlt : j < N
      · obtain ⟨g, rfl, hge⟩ := HSH.out (by omega)
        have hjp : j < ps.length := by rw [HN.out]; exact hlt
        obtain ⟨hok1, hl1⟩ := HPS.out ps[j] (List.getElem_mem _)
        have hc : wr.cell? ⟨g, j, none⟩ = some (.string (bs ps[j].text)) := row_at R.out HN.out hjp
        have FX := Lib.hid (IH.out ps[j] (bs ps[j].text) wr (bs_list _) hl1 (by omega) hok1)
        have ht1 := stmL_take hjp
        have ht2 := stmL_le (ps := ps) (j := j + 1)
        have hsz : (k :: stmL (ps.take j)).length + (stm ps[j]).length ≤ 1000 := by
          have h2 := HLE.out
          rw [ht1, List.length_append] at ht2
          simp only [List.length_cons] at h2 ⊢
          omega
        have HT1 : Hid (k :: stmL (ps.take (j + 1)) = (k :: stmL (ps.take j)) ++ stm ps[j]) := by
          have : k :: stmL (ps.take (j + 1)) = (k :: stmL (ps.take j)) ++ stm ps[j] := by rw [ht1]; rfl
          exact this
        have hpos := stm_pos ps[j]
        have hml : ((stm ps[j]).map Nd.op).length = (stm ps[j]).length := List.length_map ..
        have HBF : Hid (bs (((k :: stmL (ps.take j)) ++ stm ps[j]).map Nd.op) = bs ((k :: stmL (ps.take j)).map Nd.op) ++ bs ((stm ps[j]).map Nd.op)) := by
          have : bs (((k :: stmL (ps.take j)) ++ stm ps[j]).map Nd.op) = bs ((k :: stmL (ps.take j)).map Nd.op) ++ bs ((stm ps[j]).map Nd.op) := by rw [List.map_append, bs_app]
          exact this
        have HQS : Hid ((bs (((k :: stmL (ps.take j)) ++ stm ps[j]).map Nd.op)).size ≤ 1000) := by
          have : (bs (((k :: stmL (ps.take j)) ++ stm ps[j]).map Nd.op)).size ≤ 1000 := by rw [bs_size, List.length_map, List.length_append]; exact hsz
          exact this
        obtain ⟨i0, hi0, hz0, hz1, hz2⟩ := info_parts str_info
        have HI := Lib.hid hi0
        have HZ0 := Lib.hid hz0
        have HZ1 := Lib.hid hz1
        have HZ2 := Lib.hid hz2
        clear hi0 hz0 hz1 hz2 hok1 hl1 ht1 ht2
        generalize bs ps[j].text = T at *
        obtain ⟨M, hM⟩ : ∃ M, (stm ps[j]).length = M := ⟨_, rfl⟩
        obtain ⟨xs2, hx2⟩ : ∃ M, (stm ps[j]).map hdv = M := ⟨_, rfl⟩
        have hx2l : xs2.length = M := by rw [← hx2, List.length_map]; exact hM
        have HX2L := Lib.hid hx2l
        obtain ⟨Q2, hQ2⟩ : ∃ M, bs ((stm ps[j]).map Nd.op) = M := ⟨_, rfl⟩
        have hq2 : Q2.size ≤ 1000 := by rw [← hQ2, bs_size, hml]; omega
        rw [hQ2] at HBF
        rw [hM] at hsz hpos
        obtain ⟨L0, hL0⟩ : ∃ M, (k :: stmL (ps.take j)).length = M := ⟨_, rfl⟩
        obtain ⟨X0, hX0⟩ : ∃ M, (k :: stmL (ps.take j)).map hdv = M := ⟨_, rfl⟩
        rw [hL0] at P hsz
        rw [hX0] at P
        have HX0 := Lib.hid hX0
        have HL0 := Lib.hid hL0
        have H1C : Hid (∀ u ∈ xs2, u.oneCell' = true) := by
          have : ∀ u ∈ xs2, u.oneCell' = true := by
            intro u hu
            rw [← hx2] at hu
            obtain ⟨z, _, rfl⟩ := List.mem_map.1 hu
            rfl
          exact this
        have HM := Lib.hid hM
        have HX2 := Lib.hid hx2
        have HQ2 := Lib.hid hQ2
        clear hx2l hM hx2 hQ2 hL0 hX0 hml
        go_wp2_with fail
        refine FX.out.mono ?_
        rintro e w3 ⟨v2, rfl, hown2, hb3⟩
        rw [HM.out, HX2.out] at hown2
        rw [HQ2.out]
        obtain ⟨g2, cap2, rfl, hcap2, hg2, hge2⟩ := row_form hown2 hpos
        have P3 := Lib.hid (row_call P.out hb3)
        have R3 := Lib.hid (row_call R.out hb3)
        have B3 := Lib.hid (below_2 B.out hb3)
        have NW := Lib.hid (hown2.cells (g := g2) rfl)
        have hzz := B3.out.size
        have hgl : g < w3.heap.size := (R3.out.lt g rfl).2
        have hrow : ∀ x, u6.ownBlock = some x → w.heap.size ≤ x := fun x e => (P3.out.lt x e).1
        have HRO := Lib.hid hrow
        have hcat : ¬ (9223372036854775807 < Q.size + Q2.size) := by omega
        have hcat2 : Q.size + Q2.size ≤ 9223372036854775807 := by omega
        clear hown2 hb3 P R B FX hc hrow
        go_wp2_with (at_builtin; refine wpList_append_own_at _ rfl (.tmp 38) (.tmp 39) 27 rfl w.heap.size 9 i0 _ 1 16 Try.underlying27 HI.out HZ0.out HZ1.out HZ2.out rfl (by decide) u6 L0 X0 rfl P3.out ⟨g2, 0, none⟩ M cap2 xs2 rfl ?c0 ?c1 ?c2 ?c3 ?c4 ?c5 ?_)
        case c0 => have := HX2L.out; omega
        case c1 => exact NW.out
        case c2 => exact H1C.out
        case c3 => simp only [maxLen]; omega
        case c4 => omega
        case c5 => exact hzz
        intro v' w4 hown' hgr _ hat
        have P4 : Hid (w4.ownsRow w.heap.size 9 1 v' (k :: stmL (ps.take (j + 1))).length ((k :: stmL (ps.take (j + 1))).map hdv)) := by
          rw [HT1.out, List.length_append, List.map_append, HL0.out, HX0.out, HM.out, HX2.out]
          exact hown'
        have B4 := Lib.hid (B3.out.trans (below_of_grown hgr w.heap.size hzz HRO.out))
        have R4 : Hid (w4.ownsRow (w.heap.size + 1) 9 1 (.slice (some ⟨g, 0, none⟩) N cap) N (ps.map sv)) := R3.out.kept hgr (by
          refine .inr ?_
          intro e
          exact D.out g e.symm g rfl hge rfl)
        have D4 : Hid (∀ x, v'.ownBlock = some x → ∀ y, some (⟨g, 0, none⟩ : Addr) = some ⟨y, 0, none⟩ → w.heap.size + 1 ≤ y → x ≠ y) := by
          intro x e y hy h
          rcases hat with h1 | h1
          · rw [h1] at e; exact D.out x e y hy h
          · rw [h1] at e
            simp at e hy
            omega
        have Q4 : Hid (Q ++ Q2 = bs ((k :: stmL (ps.take (j + 1))).map Nd.op)) := by
          show Q ++ Q2 = _
          rw [HT1.out, HBF.out, HQ.out]
        have hq4 : (Q ++ Q2).size ≤ 1000 := by rw [Q4.out, HT1.out]; exact HQS.out
        clear hown' hgr hat P3 R3 B3 D NW HRO HQ
        go_wp2_with fail
        go_roundg (gk - 1)
        case measure => omega
        case rel => exact ⟨j + 1, Q ++ Q2, by omega, by go_num, rfl, hq4, Q4, P4, R4, B4, D4⟩
      · have e : ps.take j = ps := List.take_of_length_le (by rw [HN.out]; omega)
        rw [e] at HQ P
        clear e D R
        go_wp2_with fail
        exact HPO.out _ _ ⟨u6, by rw [← HQ.out]; first | trivial | rfl, P.out, B.out⟩

end Go.Proofs.Ytppcghklkldnaaa
