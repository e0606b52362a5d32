/- What the program says of programs: depth, parts, head. -/
import Derived.Test.YtppcghklkldnaaaPg
import Derived.Test.YtppcghklkldnaaaRs
namespace Go.Proofs.Ytppcghklkldnaaa
open Go.RowKit
open Pl

theorem depL_take {ps : List Nd} {j : Nat} (h : j < ps.length) : depL (ps.take (j + 1)) = max (depL (ps.take j)) (depN ps[j]) := by
  rw [List.take_succ_eq_append_getElem h, depL_snoc]
theorem depL_le {n : Nat} : ∀ {ps : List Nd}, (∀ x ∈ ps, x.text.length ≤ n) → depL ps ≤ n := by
  intro ps
  induction ps with
  | nil => intro _; exact Nat.zero_le _
  | cons x ps ih =>
    intro h
    have h1 := h x (by simp)
    have h2 := ih (fun y hy => h y (by simp [hy]))
    have h3 := dep_len x
    simp only [depL]
    omega
theorem max_cast (a b : Nat) : ((max a b : Nat) : Int) = max (a : Int) (b : Int) := by omega
set_option maxRecDepth 100000 in
set_option maxHeartbeats 4000000 in
theorem depth_any : ∀ (n : Nat) (k : Nd) (b : Nat) (w : World), k.text.length ≤ n → n ≤ 1000 → ok false 2 k = true → In w k b →
    Calls Try.prog 77 #[.pointer (some ⟨b, 0, none⟩)] w fun e w' => e = .returned (.int .i64 (depN k : Nat)) ∧ w = w' := by
  intro n
  induction n with
  | zero => intro k b w h; have := text_pos k; omega
  | succ n ih =>
    intro k b w hl hn hok hin
    obtain ⟨a, cap, ⟨hcap, hrow⟩, hP⟩ := parts_all hok hin
    have hps : ∀ x ∈ prt k, ok false 2 x = true ∧ x.text.length ≤ n := fun x hx => ⟨prt_ok hok x hx, by have := prt_short hx; omega⟩
    have hz : (prt k).length ≤ 2 := prt_len
    rw [dep_eq]
    have HPS := Lib.hid hps
    have HR := Lib.hid hrow
    have HP := Lib.hid (hP w (Below.refl _ _))
    have IH := Lib.hid ih
    clear hps hrow hP ih hin hl hok
    generalize prt k = ps at *
    obtain ⟨N, hN⟩ : ∃ N, N = ps.length := ⟨_, rfl⟩
    rw [← hN] at HP hcap hz
    have HN := Lib.hid hN
    clear hN
    go_enter Try.func77, Try.ntmps77
    go_wp2_with fail
    refine HP.out.mono ?_
    rintro e w' ⟨rfl, rfl⟩
    clear HP
    go_wp2_with fail
    go_loopg [3, 9] N (fun gk m i wr => ∃ j d : Nat, j + gk = N ∧ i = .int .i64 j ∧ m = .int .i64 d ∧ d ≤ 1000 ∧ Hid (d = depL (ps.take j)) ∧ wr = w)
    case atStart => exact ⟨0, 0, by omega, rfl, rfl, by omega, Lib.hid (by simp [depL]), rfl⟩
    case round =>
      obtain ⟨j, d, hj, rfl, rfl, hd, HD, rfl⟩ := hrel
      by_cases hlt : j < N
      · have hjp : j < ps.length := by rw [← HN.out]; exact hlt
        obtain ⟨g, off, p, rfl, hg, hc, hin⟩ := HR.out j hjp
        obtain ⟨hok1, hl1⟩ := HPS.out ps[j] (List.getElem_mem _)
        have FX := Lib.hid (IH.out ps[j] p wr hl1 (by omega) hok1 hin)
        have hdl := dep_len ps[j]
        have HT : Hid (max d (depN ps[j]) = depL (ps.take (j + 1))) := by
          have h1 := depL_take hjp
          have h2 := HD.out
          show max d (depN ps[j]) = _
          rw [h1, h2]
        have hd2 : depN ps[j] ≤ 1000 := by omega
        generalize depN ps[j] = d2 at *
        clear hin hok1 hl1 HD hdl
        go_wp2_with fail
        refine FX.out.mono ?_
        rintro e w' ⟨rfl, rfl⟩
        go_wp2_with fail
        go_roundg (gk - 1)
        case measure => omega
        case rel => exact ⟨j + 1, max d d2, by omega, by go_num, by rw [max_cast], by omega, HT, rfl⟩
      · have e : ps.take j = ps := List.take_of_length_le (by rw [← HN.out]; omega)
        rw [e] at HD
        have HD2 : Hid (((depL ps + 1 : Nat) : Int) = (d : Int) + 1) := by have := HD.out; show ((depL ps + 1 : Nat) : Int) = _; omega
        clear e HD
        go_wp2_with fail
        go_ret
        exact ⟨ret_int HD2.out.symm, rfl⟩
def oP (o : Option Nd) : List Nd :=
  match o with
  | some k => prt k
  | none => []
set_option maxHeartbeats 2000000 in
theorem DepthOf_any (S : ByteArray) (hS : S.size ≤ 1000000000000) (w : World) : Calls Try.prog 34 #[.string S] w fun e w' => (e = .returned (.int .i64 (oI (whole false 2 200 S.data.toList) depN)) ∧ Below w.heap.size w w') := by
  have R := Lib.hid (parseProg_any S hS w)
  cases ho : whole false 2 200 S.data.toList with
  | none =>
    rw [ho] at R
    clear ho
    simp only [oI] at R ⊢
    go_enter Try.func34, Try.ntmps34
    go_wp2_with fail
    refine R.out.mono ?_
    rintro e w1 ⟨hb1, rfl⟩
    have B1 := Lib.hid hb1
    clear R hb1
    go_wp2_with fail
    go_ret
    exact ⟨rfl, B1.out⟩
  | some k =>
    rw [ho] at R
    obtain ⟨hl, hk, ht⟩ := (whole_iff (by omega)).1 ho
    rw [ht] at hl
    have CO := Lib.hid (fun b w h => depth_any 200 k b w hl (by omega) hk h)
    simp only [oI] at R ⊢
    clear ho hl hk ht
    go_enter Try.func34, Try.ntmps34
    go_wp2_with fail
    refine R.out.mono ?_
    rintro e w1 ⟨hb1, b, rfl, hin⟩
    have B1 := Lib.hid hb1
    have I1 := Lib.hid hin
    clear R hb1 hin
    go_wp2_with fail
    refine (CO.out _ _ I1.out).mono ?_
    rintro e w2 ⟨rfl, rfl⟩
    clear CO
    go_wp2_with fail
    go_ret
    exact ⟨rfl, B1.out⟩
set_option maxRecDepth 100000 in
set_option maxHeartbeats 4000000 in
theorem head_any (k : Nd) (b : Nat) (w : World) (hok : ok false 2 k = true) (hl : k.text.length ≤ 1000) (hin : In w k b) :
    Calls Try.prog 67 #[.pointer (some ⟨b, 0, none⟩)] w fun e w' => e = .returned (.string (bs (headN k))) ∧ w = w' := by
  rcases ok2_head hok with rfl | ⟨v, e, rfl, hv, he⟩ | ⟨o, x, y, rfl, ho, hx, hy⟩ | ⟨t, x, y, rfl, ht, hx, hy⟩ | ⟨t, x, rfl, ht, hx⟩ | ⟨t, rfl, ht⟩
  · obtain ⟨_, h1, _⟩ := hin.op
    clear hin hok hl
    simp only [Nd.op, UInt8.reduceToNat] at h1
    go_enter Try.func67, Try.ntmps67
    go_wp2_with fail
    go_ret
    exact ⟨rfl, rfl⟩
  · obtain ⟨_, h1, h3⟩ := hin.op
    have hx : (bs (Nd.n2 97 (.n0 v) e).text).extract 1 (bs (Nd.n2 97 (.n0 v) e).text).size = bs (headN (.n2 97 (.n0 v) e)) := extract_nd (l := v :: e.text) (r := []) (by rw [bs_list]; simp [Nd.text]) (by rw [bs_size]; simp [Nd.text]; omega)
    have hz : 1 ≤ (bs (Nd.n2 97 (.n0 v) e).text).size := by rw [bs_size]; exact text_pos _
    simp only [Nd.op, UInt8.reduceToNat] at h1
    clear hin hok hl hv he
    generalize bs (headN (.n2 97 (.n0 v) e)) = H at *
    generalize bs (Nd.n2 97 (.n0 v) e).text = T at *
    go_enter Try.func67, Try.ntmps67
    go_wp2_with fail
    go_ret
    exact ⟨rfl, rfl⟩
  · obtain ⟨_, h1, _⟩ := hin.op
    have hf : headN (.n2 o x y) = [] := by rcases ho with rfl | rfl <;> rfl
    rw [hf]
    clear hin hok hl hf
    rcases ho with rfl | rfl
    all_goals
      simp only [Nd.op, UInt8.reduceToNat] at h1
      go_enter Try.func67, Try.ntmps67
      go_wp2_with fail
      go_ret
      exact ⟨rfl, rfl⟩
  · obtain ⟨g, c, p1, p2, p3, ⟨_, h1, h2, _⟩, _, hc2, k5, _, _, i1, _⟩ := hin
    have hf : headN (.n3 63 t x y) = t.text := rfl
    rw [hf]
    simp only [UInt8.reduceToNat] at h1
    have t1 := i1.op.2.2
    clear hok hl hf i1
    generalize bs t.text = T at *
    go_enter Try.func67, Try.ntmps67
    go_wp2_with fail
    go_ret
    exact ⟨rfl, rfl⟩
  · obtain ⟨g, c, p1, p2, ⟨_, h1, h2, _⟩, _, hc2, k5, _, i1, _⟩ := hin
    have hf : headN (.n2 64 t x) = t.text := rfl
    rw [hf]
    simp only [UInt8.reduceToNat] at h1
    have t1 := i1.op.2.2
    clear hok hl hf i1
    generalize bs t.text = T at *
    go_enter Try.func67, Try.ntmps67
    go_wp2_with fail
    go_ret
    exact ⟨rfl, rfl⟩
  · obtain ⟨g, c, p1, _, _, hc2, h1, h2, k5, i1⟩ := hin.op1
    have hf : headN (.n1 126 t) = t.text := rfl
    rw [hf]
    simp only [UInt8.reduceToNat] at h1
    have t1 := i1.op.2.2
    clear hok hl hf hin i1
    generalize bs t.text = T at *
    go_enter Try.func67, Try.ntmps67
    go_wp2_with fail
    go_ret
    exact ⟨rfl, rfl⟩
set_option maxHeartbeats 2000000 in
theorem HeadOf_any (S : ByteArray) (hS : S.size ≤ 1000000000000) (w : World) : Calls Try.prog 19 #[.string S] w fun e w' => (e = .returned (.string (bs (oL (whole false 2 200 S.data.toList) headN))) ∧ Below w.heap.size w w') := by
  have R := Lib.hid (parseProg_any S hS w)
  cases ho : whole false 2 200 S.data.toList with
  | none =>
    rw [ho] at R
    clear ho
    simp only [oL] at R ⊢
    go_enter Try.func19, Try.ntmps19
    go_wp2_with fail
    refine R.out.mono ?_
    rintro e w1 ⟨hb1, rfl⟩
    have B1 := Lib.hid hb1
    clear R hb1
    go_wp2_with fail
    go_ret
    exact ⟨rfl, B1.out⟩
  | some k =>
    rw [ho] at R
    obtain ⟨hl, hk, ht⟩ := (whole_iff (by omega)).1 ho
    rw [ht] at hl
    have CO := Lib.hid (fun b w h => head_any k b w hk (by omega) h)
    simp only [oL] at R ⊢
    clear ho hl hk ht
    go_enter Try.func19, Try.ntmps19
    go_wp2_with fail
    refine R.out.mono ?_
    rintro e w1 ⟨hb1, b, rfl, hin⟩
    have B1 := Lib.hid hb1
    have I1 := Lib.hid hin
    clear R hb1 hin
    go_wp2_with fail
    refine (CO.out _ _ I1.out).mono ?_
    rintro e w2 ⟨rfl, rfl⟩
    clear CO
    go_wp2_with fail
    go_ret
    exact ⟨rfl, B1.out⟩
set_option maxRecDepth 100000 in
set_option maxHeartbeats 4000000 in
theorem PartsOf_any (S : ByteArray) (hS : S.size ≤ 1000000000000) (w : World) : Calls Try.prog 17 #[.string S] w (PartsPost w (oP (whole false 2 200 S.data.toList))) := by
  have R := Lib.hid (fun w => parseProg_any S hS w)
  have B0 := Lib.hid (below_n w (.cells #[] 9))
  cases ho : whole false 2 200 S.data.toList with
  | none =>
    rw [ho] at R
    clear ho
    have hr : (w.alloc (.cells #[] 9)).ownsRow w.heap.size 9 1 (.slice (some ⟨w.heap.size, 0, none⟩) 0 0) 0 (List.map sv []) :=
      ⟨rfl, .inr ⟨w.heap.size, 0, #[], rfl, Nat.le_refl _, Blk.new w 9 #[], Nat.le_refl _, by simp [maxLen], rfl, rfl⟩⟩
    have HR := Lib.hid hr
    clear hr
    simp only [oP] at R ⊢
    go_enter Try.func17, Try.ntmps17
    go_wp2_with fail
    refine (R.out _).mono ?_
    rintro e w1 ⟨hb1, rfl⟩
    have H1 := Lib.hid (row_call HR.out hb1)
    have B1 := Lib.hid (below_2 B0.out hb1)
    clear R hb1
    go_wp2_with fail
    go_ret
    exact ⟨_, rfl, H1.out, B1.out⟩
  | some k =>
    rw [ho] at R
    obtain ⟨hl, hk, ht⟩ := (whole_iff (by omega)).1 ho
    have PA := Lib.hid (fun b w h => parts_all (w := w) (b := b) hk h)
    have hz : (prt k).length ≤ 2 := prt_len
    have hr : (w.alloc (.cells #[] 9)).ownsRow w.heap.size 9 1 (.slice (some ⟨w.heap.size, 0, none⟩) 0 0) 0 (List.map sv []) :=
      ⟨rfl, .inr ⟨w.heap.size, 0, #[], rfl, Nat.le_refl _, Blk.new w 9 #[], Nat.le_refl _, by simp [maxLen], rfl, rfl⟩⟩
    have HR := Lib.hid hr
    clear hr ho hl hk ht
    simp only [oP] at R ⊢
    generalize prt k = ps at *
    obtain ⟨N, hN⟩ : ∃ N, N = ps.length := ⟨_, rfl⟩
    rw [← hN] at PA hz
    have HN := Lib.hid hN
    clear hN
    go_enter Try.func17, Try.ntmps17
    go_wp2_with fail
    refine (R.out _).mono ?_
    rintro e w1 ⟨hb1, b, rfl, hin⟩
    obtain ⟨a, cap, ⟨hcap, hrow⟩, hP⟩ := PA.out b w1 hin
    have H1 := Lib.hid (row_call HR.out hb1)
    have B1 := Lib.hid (below_2 B0.out hb1)
    have HP := Lib.hid (hP w1 (Below.refl _ _))
    have HRW := Lib.hid hrow
    have KB := Lib.hid ((Blk.new w 9 #[]).below hb1 (by simp))
    rw [← HN.out] at hcap
    clear R hb1 hin hP hrow PA HR B0
    go_wp2_with fail
    refine HP.out.mono ?_
    rintro e w' ⟨rfl, rfl⟩
    clear HP
    go_wp2_with fail
    go_loopg [3, 16] N (fun gk v i wr => ∃ j : Nat, j + gk = N ∧ i = .int .i64 j ∧ Hid (wr.ownsRow w.heap.size 9 1 v j ((ps.take j).map sv)) ∧ Hid (Below w.heap.size w wr) ∧ Hid (w1.grownBy wr (some w.heap.size) ∧ ∀ g, v.ownBlock = some g → g = w.heap.size ∨ w1.heap.size ≤ g))
    case atStart => exact ⟨0, by omega, rfl, H1, B1, ⟨⟨rfl, rfl, rfl, Nat.le_refl _, fun _ _ _ => rfl⟩, fun g e => .inl (by simp [Value.ownBlock] at e; exact e.symm)⟩⟩
    case round =>
      clear H1 B1
      obtain ⟨j, hj, rfl, hown, HB, HG⟩ := hrel
      by_cases hlt : j < N
      · have hjp : j < ps.length := by rw [← HN.out]; exact hlt
        obtain ⟨ga, off, p, rfl, hg, hc, hinj⟩ := HRW.out j hjp
        have hna : ga ≠ w.heap.size := by rintro rfl; rw [KB.out.cell] at hc; simp at hc
        obtain ⟨hp0, _, ht1⟩ := hinj.op
        have hnp : p ≠ w.heap.size := by rintro rfl; rw [KB.out.cell] at ht1; simp at ht1
        have hc' := HG.out.1.cell hc (by intro e; injection e with e; exact hna e)
        have ht' := HG.out.1.cell ht1 (by intro e; injection e with e; exact hnp e)
        have HM : Hid ((ps.take (j + 1)).map sv = (ps.take j).map sv ++ [sv ps[j]]) := by
          have : (ps.take (j + 1)).map sv = (ps.take j).map sv ++ [sv ps[j]] := by rw [List.take_succ_eq_append_getElem hjp, List.map_append]; rfl
          exact this
        obtain ⟨i0, hi0, hz0, hz1, hz2⟩ := info_parts str_info
        have HI := Lib.hid hi0
        have HZ0 := Lib.hid hz0
        have HZ1 := Lib.hid hz1
        have HZ2 := Lib.hid hz2
        have hzz := HB.out.size
        have hz1w := HG.out.1.size
        have hrow : ∀ g, u3.ownBlock = some g → w.heap.size ≤ g := fun g e => (hown.out.lt g e).1
        have HRO := Lib.hid hrow
        obtain ⟨T, hsj⟩ : ∃ T, sv ps[j] = .string T := ⟨_, rfl⟩
        have ht2 : wr.cell? ⟨p, 2, none⟩ = some (.string T) := by rw [← hsj]; exact ht'
        rw [hsj] at HM
        clear hi0 hz0 hz1 hz2 hinj hc ht1 ht' hna hnp hsj hrow
        go_wp2_with (at_builtin; refine wpList_append_own_at _ rfl (.tmp 20) (.tmp 25) 27 rfl w.heap.size 9 i0 _ 1 16 Try.underlying27 HI.out HZ0.out HZ1.out HZ2.out rfl (by decide) u3 j ((ps.take j).map sv) rfl (hown.out.alloc _) ⟨wr.heap.size, 0, none⟩ 1 1 [.string T] rfl rfl ?c1 ?c2 ?c3 ?c4 ?c5 ?_)
        case c1 => exact one_new wr (.string T) 9
        case c2 => simp [Value.oneCell']
        case c3 => simp only [maxLen]; omega
        case c4 => omega
        case c5 => simp; omega
        intro v' w3 hown' hgr _ hat
        rw [← List.map_take, ← HM.out] at hown'
        have HO := Lib.hid hown'
        have HB3 := Lib.hid ((HB.out.alloc hzz (.cells #[.string T] 9)).trans (below_of_grown hgr w.heap.size (by simp; omega) HRO.out))
        have HG3 : Hid (w1.grownBy w3 (some w.heap.size) ∧ ∀ g, v'.ownBlock = some g → g = w.heap.size ∨ w1.heap.size ≤ g) := by
          refine ⟨grown_step (grown_step HG.out.1 (World.grownBy_alloc wr (.cells #[.string T] 9) none) (fun _ e => by cases e)) hgr (fun g e => ?_), fun g e => ?_⟩
          · rcases HG.out.2 g e with h | h
            · exact .inl (by rw [h])
            · exact .inr h
          · rcases hat with h | h
            · rw [h] at e; exact HG.out.2 g e
            · rw [h] at e; simp at e; exact .inr (by omega)
        clear hown' hgr hat HG HB hown HRO hc' ht2
        go_wp2_with fail
        go_roundg (gk - 1)
        case measure => omega
        case rel => exact ⟨j + 1, by omega, by go_num, HO, HB3, HG3⟩
      · have e : ps.take j = ps := List.take_of_length_le (by rw [← HN.out]; omega)
        have hj2 : j = ps.length := by rw [← HN.out]; omega
        rw [e, hj2] at hown
        clear e hj2
        go_wp2_with fail
        go_ret
        exact ⟨_, rfl, hown.out, HB.out⟩

end Go.Proofs.Ytppcghklkldnaaa
