/- Programs in the usual form: what the program and the reference show. -/
import Derived.Test.YtppcghklkldnaaaPlm
import Derived.Test.YtppcghklkldnaaaSz
namespace Go.Proofs.Ytppcghklkldnaaa
open Go.RowKit
open Pl

theorem shP_97 (v : UInt8) (e : Nd) : bs (shP (.n2 97 (.n0 v) e)) = bs ([v]) ++ (⟨#[58, 61]⟩ : ByteArray) ++ bs (shE e) := by
  rw [show (⟨#[58, 61]⟩ : ByteArray) = bs [58, 61] from rfl, bs_app, bs_app]
  congr 1
theorem shP_59 (x y : Nd) : bs (shP (.n2 59 x y)) = bs (shP x) ++ (⟨#[59, 32]⟩ : ByteArray) ++ bs (shP y) := by
  rw [show (⟨#[59, 32]⟩ : ByteArray) = bs [59, 32] from rfl, bs_app, bs_app]
  congr 1
theorem shP_47 (x y : Nd) : bs (shP (.n2 47 x y)) = (⟨#[101, 105, 116, 104, 101, 114, 32, 123]⟩ : ByteArray) ++ bs (shP x) ++ (⟨#[125, 32, 111, 114, 32, 123]⟩ : ByteArray) ++ bs (shP y) ++ (⟨#[125]⟩ : ByteArray) := by
  rw [show (⟨#[101, 105, 116, 104, 101, 114, 32, 123]⟩ : ByteArray) = bs [101, 105, 116, 104, 101, 114, 32, 123] from rfl, show (⟨#[125, 32, 111, 114, 32, 123]⟩ : ByteArray) = bs [125, 32, 111, 114, 32, 123] from rfl, show (⟨#[125]⟩ : ByteArray) = bs [125] from rfl, bs_app, bs_app, bs_app, bs_app]
  congr 1
theorem shP_63 (t x y : Nd) : bs (shP (.n3 63 t x y)) = (⟨#[105, 102, 32]⟩ : ByteArray) ++ bs (shT t) ++ (⟨#[32, 123]⟩ : ByteArray) ++ bs (shP x) ++ (⟨#[125, 32, 101, 108, 115, 101, 32, 123]⟩ : ByteArray) ++ bs (shP y) ++ (⟨#[125]⟩ : ByteArray) := by
  rw [show (⟨#[105, 102, 32]⟩ : ByteArray) = bs [105, 102, 32] from rfl, show (⟨#[32, 123]⟩ : ByteArray) = bs [32, 123] from rfl, show (⟨#[125, 32, 101, 108, 115, 101, 32, 123]⟩ : ByteArray) = bs [125, 32, 101, 108, 115, 101, 32, 123] from rfl, show (⟨#[125]⟩ : ByteArray) = bs [125] from rfl, bs_app, bs_app, bs_app, bs_app, bs_app, bs_app]
  congr 1
theorem shP_64 (t x : Nd) : bs (shP (.n2 64 t x)) = (⟨#[119, 104, 105, 108, 101, 32]⟩ : ByteArray) ++ bs (shT t) ++ (⟨#[32, 123]⟩ : ByteArray) ++ bs (shP x) ++ (⟨#[125]⟩ : ByteArray) := by
  rw [show (⟨#[119, 104, 105, 108, 101, 32]⟩ : ByteArray) = bs [119, 104, 105, 108, 101, 32] from rfl, show (⟨#[32, 123]⟩ : ByteArray) = bs [32, 123] from rfl, show (⟨#[125]⟩ : ByteArray) = bs [125] from rfl, bs_app, bs_app, bs_app, bs_app]
  congr 1
theorem shP_126 (t : Nd) : bs (shP (.n1 126 t)) = (⟨#[97, 115, 115, 117, 109, 101, 32]⟩ : ByteArray) ++ bs (shT t) := by
  rw [show (⟨#[97, 115, 115, 117, 109, 101, 32]⟩ : ByteArray) = bs [97, 115, 115, 117, 109, 101, 32] from rfl, bs_app]
  congr 1
set_option maxRecDepth 100000 in
set_option maxHeartbeats 16000000 in
theorem showProg_any : ∀ (n : Nat) (k : Nd) (b : Nat) (w : World), k.text.length ≤ n → n ≤ 1000 → ok false 2 k = true → In w k b →
    Calls Try.prog 75 #[.pointer (some ⟨b, 0, none⟩)] w fun e w' => (e = .returned (.string (bs (shP k))) ∧ ∃ m, w' = w.drewN m) := by
  intro n
  induction n with
  | zero => intro k b w h; have := text_pos k; omega
  | succ n ih =>
    intro k b w hl hn hok hin
    rcases ok2_head hok with rfl | ⟨v, e, rfl, hv, he⟩ | ⟨o, x, y, rfl, ho, hx, hy⟩ | ⟨t, x, y, rfl, ht, hx, hy⟩ | ⟨t, x, rfl, ht, hx⟩ | ⟨t, rfl, ht⟩
    · obtain ⟨_, h1, _⟩ := hin.op
      have hf : bs (shP (.n0 115)) = (⟨#[115, 107, 105, 112]⟩ : ByteArray) := rfl
      rw [hf]
      clear hin hok hl hf ih
      simp only [Nd.op, UInt8.reduceToNat] at h1
      go_enter Try.func75, Try.ntmps75
      go_wp2_with fail
      go_ret
      exact ⟨rfl, 0, rfl⟩
    · obtain ⟨g, c, pb, qb, ⟨_, h1, h2, _⟩, _, hc, h5, h6, ip, iq⟩ := hin
      simp only [UInt8.reduceToNat] at h1
      simp only [Nd.text, List.length_cons, List.length_append] at hl
      have t1 : w.cell? ⟨pb, 2, none⟩ = some (.string (bs [v])) := ip.op.2.2
      have FE := Lib.hid (fun w h => showExpr_any false e qb w he (by omega) h)
      have IE := Lib.hid iq
      have sV : (bs [v]).size ≤ 1 := by rw [bs_size]; exact Nat.le_refl _
      have uE := shE_len e
      have sE : (bs (shE e)).size ≤ 100000 := by rw [bs_size]; omega
      rw [shP_97]
      clear hok hl ih ip iq he hv uE
      generalize bs ([v]) = V at *
      generalize bs (shE e) = E at *
      have z0 : ¬ (9223372036854775807 < V.size + 2) := by omega
      have y0 : V.size + 2 ≤ 9223372036854775807 := by omega
      have z2 : ¬ (9223372036854775807 < V.size + 2 + E.size) := by omega
      have y2 : V.size + 2 + E.size ≤ 9223372036854775807 := by omega
      go_enter Try.func75, Try.ntmps75
      go_wp2_with fail
      go_quiet (first | (go_at_call_of 121 ((⟨qb, 0, none⟩ : Addr)); refine Calls.quiet_of (FE.out _ (In.drewN IE.out _))))
      go_wp2_with fail
      go_ret
      exact ⟨rfl, _, rfl⟩
    · obtain ⟨g, c, pb, qb, ⟨_, h1, h2, _⟩, _, hc, h5, h6, ip, iq⟩ := hin
      simp only [Nd.text, List.length_cons, List.length_append] at hl
      have FX := Lib.hid (fun w h => ih x pb w (by omega) (by omega) hx h)
      have IX := Lib.hid ip
      have FY := Lib.hid (fun w h => ih y qb w (by omega) (by omega) hy h)
      have IY := Lib.hid iq
      have uX := shP_len x
      have sX : (bs (shP x)).size ≤ 100000 := by rw [bs_size]; omega
      have uY := shP_len y
      have sY : (bs (shP y)).size ≤ 100000 := by rw [bs_size]; omega
      rcases ho with rfl | rfl
      · rw [shP_59]
        simp only [UInt8.reduceToNat] at h1
        clear hok hl ih ip iq hx hy uX uY
        generalize bs (shP x) = A at *
        generalize bs (shP y) = C at *
        have z0 : ¬ (9223372036854775807 < A.size + 2) := by omega
        have y0 : A.size + 2 ≤ 9223372036854775807 := by omega
        have z2 : ¬ (9223372036854775807 < A.size + 2 + C.size) := by omega
        have y2 : A.size + 2 + C.size ≤ 9223372036854775807 := by omega
        go_enter Try.func75, Try.ntmps75
        go_wp2_with fail
        go_quiet (first | (go_at_call_of 75 ((⟨pb, 0, none⟩ : Addr)); refine Calls.quiet_of (FX.out _ (In.drewN IX.out _))) | (go_at_call_of 75 ((⟨qb, 0, none⟩ : Addr)); refine Calls.quiet_of (FY.out _ (In.drewN IY.out _))))
        go_wp2_with fail
        go_ret
        exact ⟨rfl, _, rfl⟩
      · rw [shP_47]
        simp only [UInt8.reduceToNat] at h1
        clear hok hl ih ip iq hx hy uX uY
        generalize bs (shP x) = A at *
        generalize bs (shP y) = C at *
        have z0 : ¬ (9223372036854775807 < 8 + A.size) := by omega
        have y0 : 8 + A.size ≤ 9223372036854775807 := by omega
        have z2 : ¬ (9223372036854775807 < 8 + A.size + 6) := by omega
        have y2 : 8 + A.size + 6 ≤ 9223372036854775807 := by omega
        have z4 : ¬ (9223372036854775807 < 8 + A.size + 6 + C.size) := by omega
        have y4 : 8 + A.size + 6 + C.size ≤ 9223372036854775807 := by omega
        have z6 : ¬ (9223372036854775807 < 8 + A.size + 6 + C.size + 1) := by omega
        have y6 : 8 + A.size + 6 + C.size + 1 ≤ 9223372036854775807 := by omega
        go_enter Try.func75, Try.ntmps75
        go_wp2_with fail
        go_quiet (first | (go_at_call_of 75 ((⟨pb, 0, none⟩ : Addr)); refine Calls.quiet_of (FX.out _ (In.drewN IX.out _))) | (go_at_call_of 75 ((⟨qb, 0, none⟩ : Addr)); refine Calls.quiet_of (FY.out _ (In.drewN IY.out _))))
        go_wp2_with fail
        go_ret
        exact ⟨rfl, _, rfl⟩
    · obtain ⟨g, c, pb, qb, rb, ⟨_, h1, h2, _⟩, _, hc, h5, h6, h7, it, ip, iq⟩ := hin
      simp only [UInt8.reduceToNat] at h1
      simp only [Nd.text, List.length_cons, List.length_append] at hl
      have FT := Lib.hid (fun w h => showTest_any false t pb w ht (by omega) h)
      have IT := Lib.hid it
      have FX := Lib.hid (fun w h => ih x qb w (by omega) (by omega) hx h)
      have IX := Lib.hid ip
      have FY := Lib.hid (fun w h => ih y rb w (by omega) (by omega) hy h)
      have IY := Lib.hid iq
      have uT := shT_len t
      have sT : (bs (shT t)).size ≤ 100000 := by rw [bs_size]; omega
      have uX := shP_len x
      have sX : (bs (shP x)).size ≤ 100000 := by rw [bs_size]; omega
      have uY := shP_len y
      have sY : (bs (shP y)).size ≤ 100000 := by rw [bs_size]; omega
      rw [shP_63]
      clear hok hl ih it ip iq ht hx hy uX uY uT
      generalize bs (shT t) = T at *
      generalize bs (shP x) = A at *
      generalize bs (shP y) = C at *
      have z0 : ¬ (9223372036854775807 < 3 + T.size) := by omega
      have y0 : 3 + T.size ≤ 9223372036854775807 := by omega
      have z2 : ¬ (9223372036854775807 < 3 + T.size + 2) := by omega
      have y2 : 3 + T.size + 2 ≤ 9223372036854775807 := by omega
      have z4 : ¬ (9223372036854775807 < 3 + T.size + 2 + A.size) := by omega
      have y4 : 3 + T.size + 2 + A.size ≤ 9223372036854775807 := by omega
      have z6 : ¬ (9223372036854775807 < 3 + T.size + 2 + A.size + 8) := by omega
      have y6 : 3 + T.size + 2 + A.size + 8 ≤ 9223372036854775807 := by omega
      have z8 : ¬ (9223372036854775807 < 3 + T.size + 2 + A.size + 8 + C.size) := by omega
      have y8 : 3 + T.size + 2 + A.size + 8 + C.size ≤ 9223372036854775807 := by omega
      have z10 : ¬ (9223372036854775807 < 3 + T.size + 2 + A.size + 8 + C.size + 1) := by omega
      have y10 : 3 + T.size + 2 + A.size + 8 + C.size + 1 ≤ 9223372036854775807 := by omega
      go_enter Try.func75, Try.ntmps75
      go_wp2_with fail
      go_quiet (first | (go_at_call_of 122 ((⟨pb, 0, none⟩ : Addr)); refine Calls.quiet_of (FT.out _ (In.drewN IT.out _))) | (go_at_call_of 75 ((⟨qb, 0, none⟩ : Addr)); refine Calls.quiet_of (FX.out _ (In.drewN IX.out _))) | (go_at_call_of 75 ((⟨rb, 0, none⟩ : Addr)); refine Calls.quiet_of (FY.out _ (In.drewN IY.out _))))
      go_wp2_with fail
      go_ret
      exact ⟨rfl, _, rfl⟩
    · obtain ⟨g, c, pb, qb, ⟨_, h1, h2, _⟩, _, hc, h5, h6, it, ip⟩ := hin
      simp only [UInt8.reduceToNat] at h1
      simp only [Nd.text, List.length_cons, List.length_append] at hl
      have FT := Lib.hid (fun w h => showTest_any false t pb w ht (by omega) h)
      have IT := Lib.hid it
      have FX := Lib.hid (fun w h => ih x qb w (by omega) (by omega) hx h)
      have IX := Lib.hid ip
      have uT := shT_len t
      have sT : (bs (shT t)).size ≤ 100000 := by rw [bs_size]; omega
      have uX := shP_len x
      have sX : (bs (shP x)).size ≤ 100000 := by rw [bs_size]; omega
      rw [shP_64]
      clear hok hl ih it ip ht hx uX uT
      generalize bs (shT t) = T at *
      generalize bs (shP x) = A at *
      have z0 : ¬ (9223372036854775807 < 6 + T.size) := by omega
      have y0 : 6 + T.size ≤ 9223372036854775807 := by omega
      have z2 : ¬ (9223372036854775807 < 6 + T.size + 2) := by omega
      have y2 : 6 + T.size + 2 ≤ 9223372036854775807 := by omega
      have z4 : ¬ (9223372036854775807 < 6 + T.size + 2 + A.size) := by omega
      have y4 : 6 + T.size + 2 + A.size ≤ 9223372036854775807 := by omega
      have z6 : ¬ (9223372036854775807 < 6 + T.size + 2 + A.size + 1) := by omega
      have y6 : 6 + T.size + 2 + A.size + 1 ≤ 9223372036854775807 := by omega
      go_enter Try.func75, Try.ntmps75
      go_wp2_with fail
      go_quiet (first | (go_at_call_of 122 ((⟨pb, 0, none⟩ : Addr)); refine Calls.quiet_of (FT.out _ (In.drewN IT.out _))) | (go_at_call_of 75 ((⟨qb, 0, none⟩ : Addr)); refine Calls.quiet_of (FX.out _ (In.drewN IX.out _))))
      go_wp2_with fail
      go_ret
      exact ⟨rfl, _, rfl⟩
    · obtain ⟨g, c, pb, _, _, hc, h1, h2, h5, it⟩ := hin.op1
      simp only [UInt8.reduceToNat] at h1
      simp only [Nd.text, List.length_cons] at hl
      have FT := Lib.hid (fun w h => showTest_any false t pb w ht (by omega) h)
      have IT := Lib.hid it
      have uT := shT_len t
      have sT : (bs (shT t)).size ≤ 100000 := by rw [bs_size]; omega
      rw [shP_126]
      clear hin hok hl ih it ht uT
      generalize bs (shT t) = T at *
      have z0 : ¬ (9223372036854775807 < 7 + T.size) := by omega
      have y0 : 7 + T.size ≤ 9223372036854775807 := by omega
      go_enter Try.func75, Try.ntmps75
      go_wp2_with fail
      refine (FT.out _ IT.out).mono ?_
      rintro e w' ⟨rfl, m, rfl⟩
      go_wp2_with fail
      go_ret
      exact ⟨rfl, _, rfl⟩
set_option maxHeartbeats 2000000 in
theorem ShowProgram_any (S : ByteArray) (hS : S.size ≤ 1000000000000) (w : World) : Calls Try.prog 30 #[.string S] w fun e w' => (e = .returned (.string (bs (oL (whole false 2 200 S.data.toList) shP))) ∧ Below w.heap.size w w') := by
  have R := Lib.hid (parseProg_any S hS w)
  cases ho : whole false 2 200 S.data.toList with
  | none =>
    rw [ho] at R
    clear ho
    simp only [oL] at R ⊢
    go_enter Try.func30, Try.ntmps30
    go_wp2_with fail
    refine R.out.mono ?_
    rintro e w1 ⟨hb1, rfl⟩
    have B1 := Lib.hid hb1
    clear R hb1
    go_wp2_with fail
    go_ret
    exact ⟨rfl, B1.out⟩
  | some k =>
    rw [ho] at R
    obtain ⟨hl, hk, ht⟩ := (whole_iff (by omega)).1 ho
    rw [ht] at hl
    have CO := Lib.hid (fun b w h => showProg_any 200 k b w hl (by omega) hk h)
    simp only [oL] at R ⊢
    clear ho hl hk ht
    go_enter Try.func30, Try.ntmps30
    go_wp2_with fail
    refine R.out.mono ?_
    rintro e w1 ⟨hb1, b, rfl, hin⟩
    have B1 := Lib.hid hb1
    have I1 := Lib.hid hin
    clear R hb1 hin
    go_wp2_with fail
    refine (CO.out _ _ I1.out).mono ?_
    rintro e w2 ⟨rfl, m, rfl⟩
    clear CO
    go_wp2_with fail
    go_ret
    exact ⟨rfl, B1.out.trans (below_drewN _ _ _)⟩
set_option maxRecDepth 100000 in
set_option maxHeartbeats 16000000 in
theorem showProgS_any : ∀ (n : Nat) (k : Nd) (S : ByteArray) (w : World), S.data.toList = k.text → k.text.length ≤ n → n ≤ 1000 → ok false 2 k = true →
    Calls Try.prog 76 #[.string S, .bool false] w fun e w' => (e = .returned (.string (bs (shP k))) ∧ Below w.heap.size w w') := by
  intro n
  induction n with
  | zero => intro k S w _ h; have := text_pos k; omega
  | succ n ih =>
    intro k S w ht0 hl hn hok
    have hS : S.size = k.text.length := by rw [← ht0, len_S]
    have HD := Lib.hid (fun w => headS_any S (by omega) false k hok ht0 w)
    have PT := Lib.hid (fun w => partsS_any S (by omega) false k hok ht0 w)
    obtain ⟨hp0, hop⟩ := op_at ht0
    have hex : S.extract 1 (hd k) = bs (headN k) := by
      have h1 : S.data.toList.drop 1 = headN k ++ flatN (prt k) := by rw [ht0, head_text]; rfl
      exact extract_nd h1 (by have := hd_head k; omega)
    have hd1 := hd_pos k
    have hd2 : hd k ≤ S.size := by rw [hS]; exact hd_le k
    have IH := Lib.hid ih
    unfold PartsPost at PT
    clear ih ht0 hS
    rcases ok2_head hok with rfl | ⟨v, e, rfl, hv, he⟩ | ⟨o, x, y, rfl, ho, hx, hy⟩ | ⟨t, x, y, rfl, ht, hx, hy⟩ | ⟨t, x, rfl, ht, hx⟩ | ⟨t, rfl, ht⟩
    · skip
      have e1 : prt (.n0 115) = [] := rfl
      have e2 : headN (.n0 115) = [] := rfl
      have e3 : (.n0 115 : Nd).op = 115 := rfl
      rw [e1] at PT
      rw [e2] at hex
      rw [e3] at hop
      generalize hd (.n0 115) = h0 at *
      clear e1 e2 e3
      have hf : bs (shP (.n0 115)) = (⟨#[115, 107, 105, 112]⟩ : ByteArray) := rfl
      rw [hf]
      clear hok hl hf IH
      go_enter Try.func76, Try.ntmps76
      go_wp2_with fail
      refine (HD.out _).mono ?_
      rintro e w1 ⟨rfl, m, rfl⟩
      go_wp2_with fail
      refine (PT.out _).mono ?_
      rintro e w2 ⟨vv, rfl, hown, hb2⟩
      obtain ⟨aa, cap, rfl, hcap, hsh⟩ := row_shape hown
      simp only [List.length_nil] at hcap hsh ⊢
      have B2 : Hid (Below w.heap.size w w2) := (below_drewN _ _ m).trans hb2
      clear hown hb2 hsh HD PT
      go_wp2_with fail
      go_ret
      exact ⟨rfl, B2.out⟩
    · skip
      have e1 : prt (.n2 97 (.n0 v) e) = [] := rfl
      have e2 : headN (.n2 97 (.n0 v) e) = v :: e.text := rfl
      have e3 : (.n2 97 (.n0 v) e : Nd).op = 97 := rfl
      rw [e1] at PT
      rw [e2] at hex
      rw [e3] at hop
      generalize hd (.n2 97 (.n0 v) e) = h0 at *
      clear e1 e2 e3
      simp only [Nd.text, List.length_cons, List.length_append] at hl
      have FE := Lib.hid (fun w => showS_any (bs (v :: e.text)) (by rw [bs_size]; simp; omega) false e 1 [] w he (by rw [bs_list]; simp))
      have hE1 : (bs (v :: e.text)).extract 0 1 = bs [v] := extract_nd (l := [v]) (r := e.text) (by rw [bs_list]; rfl) rfl
      have hE2 : 1 ≤ (bs (v :: e.text)).size := by rw [bs_size]; simp
      have sV : (bs [v]).size ≤ 1 := by rw [bs_size]; exact Nat.le_refl _
      have uE := shE_len e
      have sE : (bs (shE e)).size ≤ 100000 := by rw [bs_size]; omega
      rw [shP_97]
      clear hok hl IH he hv uE
      generalize ((e.text.length : Nat) : Int) = el at *
      generalize bs (v :: e.text) = H at *
      generalize bs ([v]) = V at *
      generalize bs (shE e) = E at *
      have z0 : ¬ (9223372036854775807 < V.size + 2) := by omega
      have y0 : V.size + 2 ≤ 9223372036854775807 := by omega
      have z2 : ¬ (9223372036854775807 < V.size + 2 + E.size) := by omega
      have y2 : V.size + 2 + E.size ≤ 9223372036854775807 := by omega
      go_enter Try.func76, Try.ntmps76
      go_wp2_with fail
      refine (HD.out _).mono ?_
      rintro e w1 ⟨rfl, m, rfl⟩
      go_wp2_with fail
      refine (PT.out _).mono ?_
      rintro e w2 ⟨vv, rfl, hown, hb2⟩
      obtain ⟨aa, cap, rfl, hcap, hsh⟩ := row_shape hown
      simp only [List.length_nil] at hcap hsh ⊢
      have B2 : Hid (Below w.heap.size w w2) := (below_drewN _ _ m).trans hb2
      clear hown hb2 hsh HD PT
      go_wp2_with fail
      refine (FE.out _).mono ?_
      rintro e w3 ⟨rfl, m3, rfl⟩
      go_wp2_with fail
      go_ret
      exact ⟨rfl, B2.out.trans (below_drewN _ _ _)⟩
    · rcases ho with rfl | rfl
      · skip
        have e1 : prt (.n2 59 x y) = [x, y] := rfl
        have e2 : headN (.n2 59 x y) = [] := rfl
        have e3 : (.n2 59 x y : Nd).op = 59 := rfl
        rw [e1] at PT
        rw [e2] at hex
        rw [e3] at hop
        generalize hd (.n2 59 x y) = h0 at *
        clear e1 e2 e3
        simp only [Nd.text, List.length_cons, List.length_append] at hl
        have IX := Lib.hid (fun w => IH.out x (bs x.text) w (bs_list _) (by omega) (by omega) hx)
        have IY := Lib.hid (fun w => IH.out y (bs y.text) w (bs_list _) (by omega) (by omega) hy)
        have uX := shP_len x
        have sX : (bs (shP x)).size ≤ 100000 := by rw [bs_size]; omega
        have uY := shP_len y
        have sY : (bs (shP y)).size ≤ 100000 := by rw [bs_size]; omega
        rw [shP_59]
        clear hok hl IH hx hy uX uY
        generalize bs (shP x) = A at *
        generalize bs (shP y) = C at *
        have z0 : ¬ (9223372036854775807 < A.size + 2) := by omega
        have y0 : A.size + 2 ≤ 9223372036854775807 := by omega
        have z2 : ¬ (9223372036854775807 < A.size + 2 + C.size) := by omega
        have y2 : A.size + 2 + C.size ≤ 9223372036854775807 := by omega
        go_enter Try.func76, Try.ntmps76
        go_wp2_with fail
        refine (HD.out _).mono ?_
        rintro e w1 ⟨rfl, m, rfl⟩
        go_wp2_with fail
        refine (PT.out _).mono ?_
        rintro e w2 ⟨vv, rfl, hown, hb2⟩
        obtain ⟨aa, cap, rfl, hcap, hsh⟩ := row_shape hown
        simp only [List.length_nil, List.length_cons, Nat.reduceAdd, Nat.zero_add] at hcap hsh ⊢
        have B2 : Hid (Below w.heap.size w w2) := (below_drewN _ _ m).trans hb2
        obtain ⟨g, rfl, _, hg⟩ := hsh (by omega)
        have r0 := row_at (j := 0) hown rfl (by simp)
        have r1 := row_at (j := 1) hown rfl (by simp)
        simp only [List.getElem_cons_zero, List.getElem_cons_succ, sv] at r0 r1
        clear hown hb2 hsh HD PT
        generalize bs x.text = TX at *
        generalize bs y.text = TY at *
        have H : Sit w2 w2 [(⟨g, 0, none⟩, .string TX), (⟨g, 1, none⟩, .string TY), (⟨g, 0, none⟩, .string TX)] := (((Sit.refl w2).more (p := ⟨g, 0, none⟩) hg r0).more (p := ⟨g, 1, none⟩) hg r1).more (p := ⟨g, 0, none⟩) hg r0
        clear r0 r1
        obtain ⟨q0, q1, q2⟩ := H.c3
        go_wp2_with fail
        refine region_class (fun W => Sit w2 W [(⟨g, 0, none⟩, .string TX), (⟨g, 1, none⟩, .string TY), (⟨g, 0, none⟩, .string TX)]) (by kernel_rfl) (by kernel_rfl) H.drew ?_
        clear q0 q1 q2
        repeat (first | go_big_quiet_skip | (go_big_quiet_want; first | (apply quiet_value; (· (intro W hW; obtain ⟨q0, q1, q2⟩ := hW.c3; go_simp; exact rfl)); simp only [Act.put, List.setIfInBounds_toArray, List.set_cons_zero, List.set_cons_succ]; go_big_quiet_on) | (apply quiet_call; (· (intro W hW; go_simp; exact ⟨rfl, rfl⟩)); (· (intro W hW; first | with_reducible exact (IX.out W).mono fun _ _ h => ⟨h.1, hW.call h.2⟩ | with_reducible exact (IY.out W).mono fun _ _ h => ⟨h.1, hW.call h.2⟩)); simp only [Act.put, List.setIfInBounds_toArray, List.set_cons_zero, List.set_cons_succ]; go_big_quiet_on)))
        refine wpQuiet_nil ?_
        intro wq hq
        clear H
        have H := hq
        clear hq
        go_wp2_with fail
        go_ret
        exact ⟨rfl, below_2 B2.out H.below⟩
      · skip
        have e1 : prt (.n2 47 x y) = [x, y] := rfl
        have e2 : headN (.n2 47 x y) = [] := rfl
        have e3 : (.n2 47 x y : Nd).op = 47 := rfl
        rw [e1] at PT
        rw [e2] at hex
        rw [e3] at hop
        generalize hd (.n2 47 x y) = h0 at *
        clear e1 e2 e3
        simp only [Nd.text, List.length_cons, List.length_append] at hl
        have IX := Lib.hid (fun w => IH.out x (bs x.text) w (bs_list _) (by omega) (by omega) hx)
        have IY := Lib.hid (fun w => IH.out y (bs y.text) w (bs_list _) (by omega) (by omega) hy)
        have uX := shP_len x
        have sX : (bs (shP x)).size ≤ 100000 := by rw [bs_size]; omega
        have uY := shP_len y
        have sY : (bs (shP y)).size ≤ 100000 := by rw [bs_size]; omega
        rw [shP_47]
        clear hok hl IH hx hy uX uY
        generalize bs (shP x) = A at *
        generalize bs (shP y) = C at *
        have z0 : ¬ (9223372036854775807 < 8 + A.size) := by omega
        have y0 : 8 + A.size ≤ 9223372036854775807 := by omega
        have z2 : ¬ (9223372036854775807 < 8 + A.size + 6) := by omega
        have y2 : 8 + A.size + 6 ≤ 9223372036854775807 := by omega
        have z4 : ¬ (9223372036854775807 < 8 + A.size + 6 + C.size) := by omega
        have y4 : 8 + A.size + 6 + C.size ≤ 9223372036854775807 := by omega
        have z6 : ¬ (9223372036854775807 < 8 + A.size + 6 + C.size + 1) := by omega
        have y6 : 8 + A.size + 6 + C.size + 1 ≤ 9223372036854775807 := by omega
        go_enter Try.func76, Try.ntmps76
        go_wp2_with fail
        refine (HD.out _).mono ?_
        rintro e w1 ⟨rfl, m, rfl⟩
        go_wp2_with fail
        refine (PT.out _).mono ?_
        rintro e w2 ⟨vv, rfl, hown, hb2⟩
        obtain ⟨aa, cap, rfl, hcap, hsh⟩ := row_shape hown
        simp only [List.length_nil, List.length_cons, Nat.reduceAdd, Nat.zero_add] at hcap hsh ⊢
        have B2 : Hid (Below w.heap.size w w2) := (below_drewN _ _ m).trans hb2
        obtain ⟨g, rfl, _, hg⟩ := hsh (by omega)
        have r0 := row_at (j := 0) hown rfl (by simp)
        have r1 := row_at (j := 1) hown rfl (by simp)
        simp only [List.getElem_cons_zero, List.getElem_cons_succ, sv] at r0 r1
        clear hown hb2 hsh HD PT
        generalize bs x.text = TX at *
        generalize bs y.text = TY at *
        have H : Sit w2 w2 [(⟨g, 0, none⟩, .string TX), (⟨g, 1, none⟩, .string TY), (⟨g, 0, none⟩, .string TX)] := (((Sit.refl w2).more (p := ⟨g, 0, none⟩) hg r0).more (p := ⟨g, 1, none⟩) hg r1).more (p := ⟨g, 0, none⟩) hg r0
        clear r0 r1
        obtain ⟨q0, q1, q2⟩ := H.c3
        go_wp2_with fail
        refine region_class (fun W => Sit w2 W [(⟨g, 0, none⟩, .string TX), (⟨g, 1, none⟩, .string TY), (⟨g, 0, none⟩, .string TX)]) (by kernel_rfl) (by kernel_rfl) H.drew ?_
        clear q0 q1 q2
        repeat (first | go_big_quiet_skip | (go_big_quiet_want; first | (apply quiet_value; (· (intro W hW; obtain ⟨q0, q1, q2⟩ := hW.c3; go_simp; exact rfl)); simp only [Act.put, List.setIfInBounds_toArray, List.set_cons_zero, List.set_cons_succ]; go_big_quiet_on) | (apply quiet_call; (· (intro W hW; go_simp; exact ⟨rfl, rfl⟩)); (· (intro W hW; first | with_reducible exact (IX.out W).mono fun _ _ h => ⟨h.1, hW.call h.2⟩ | with_reducible exact (IY.out W).mono fun _ _ h => ⟨h.1, hW.call h.2⟩)); simp only [Act.put, List.setIfInBounds_toArray, List.set_cons_zero, List.set_cons_succ]; go_big_quiet_on)))
        refine wpQuiet_nil ?_
        intro wq hq
        clear H
        have H := hq
        clear hq
        go_wp2_with fail
        go_ret
        exact ⟨rfl, below_2 B2.out H.below⟩
    · skip
      have e1 : prt (.n3 63 t x y) = [x, y] := rfl
      have e2 : headN (.n3 63 t x y) = t.text := rfl
      have e3 : (.n3 63 t x y : Nd).op = 63 := rfl
      rw [e1] at PT
      rw [e2] at hex
      rw [e3] at hop
      generalize hd (.n3 63 t x y) = h0 at *
      clear e1 e2 e3
      simp only [Nd.text, List.length_cons, List.length_append] at hl
      have IX := Lib.hid (fun w => IH.out x (bs x.text) w (bs_list _) (by omega) (by omega) hx)
      have IY := Lib.hid (fun w => IH.out y (bs y.text) w (bs_list _) (by omega) (by omega) hy)
      have uT := shT_len t
      have sT : (bs (shT t)).size ≤ 100000 := by rw [bs_size]; omega
      have uX := shP_len x
      have sX : (bs (shP x)).size ≤ 100000 := by rw [bs_size]; omega
      have uY := shP_len y
      have sY : (bs (shP y)).size ≤ 100000 := by rw [bs_size]; omega
      have FT := Lib.hid (fun w => showTestS_any (bs t.text) (by rw [bs_size]; omega) false t 0 [] w ht (by rw [bs_list]; simp))
      simp only [Int.cast_ofNat_Int] at FT
      rw [shP_63]
      clear hok hl IH hx hy ht uX uY uT
      generalize ((t.text.length : Nat) : Int) = el at *
      generalize bs t.text = H0 at *
      generalize bs (shT t) = T at *
      generalize bs (shP x) = A at *
      generalize bs (shP y) = C at *
      have z0 : ¬ (9223372036854775807 < 3 + T.size) := by omega
      have y0 : 3 + T.size ≤ 9223372036854775807 := by omega
      have z2 : ¬ (9223372036854775807 < 3 + T.size + 2) := by omega
      have y2 : 3 + T.size + 2 ≤ 9223372036854775807 := by omega
      have z4 : ¬ (9223372036854775807 < 3 + T.size + 2 + A.size) := by omega
      have y4 : 3 + T.size + 2 + A.size ≤ 9223372036854775807 := by omega
      have z6 : ¬ (9223372036854775807 < 3 + T.size + 2 + A.size + 8) := by omega
      have y6 : 3 + T.size + 2 + A.size + 8 ≤ 9223372036854775807 := by omega
      have z8 : ¬ (9223372036854775807 < 3 + T.size + 2 + A.size + 8 + C.size) := by omega
      have y8 : 3 + T.size + 2 + A.size + 8 + C.size ≤ 9223372036854775807 := by omega
      have z10 : ¬ (9223372036854775807 < 3 + T.size + 2 + A.size + 8 + C.size + 1) := by omega
      have y10 : 3 + T.size + 2 + A.size + 8 + C.size + 1 ≤ 9223372036854775807 := by omega
      go_enter Try.func76, Try.ntmps76
      go_wp2_with fail
      refine (HD.out _).mono ?_
      rintro e w1 ⟨rfl, m, rfl⟩
      go_wp2_with fail
      refine (PT.out _).mono ?_
      rintro e w2 ⟨vv, rfl, hown, hb2⟩
      obtain ⟨aa, cap, rfl, hcap, hsh⟩ := row_shape hown
      simp only [List.length_nil, List.length_cons, Nat.reduceAdd, Nat.zero_add] at hcap hsh ⊢
      have B2 : Hid (Below w.heap.size w w2) := (below_drewN _ _ m).trans hb2
      obtain ⟨g, rfl, _, hg⟩ := hsh (by omega)
      have r0 := row_at (j := 0) hown rfl (by simp)
      have r1 := row_at (j := 1) hown rfl (by simp)
      simp only [List.getElem_cons_zero, List.getElem_cons_succ, sv] at r0 r1
      clear hown hb2 hsh HD PT
      generalize bs x.text = TX at *
      generalize bs y.text = TY at *
      go_wp2_with fail
      refine (FT.out _).mono ?_
      rintro e w3 ⟨rfl, m3, rfl⟩
      replace r0 : (w2.drewN m3).cell? ⟨g, 0, none⟩ = some (.string TX) := r0
      replace r1 : (w2.drewN m3).cell? ⟨g, 1, none⟩ = some (.string TY) := r1
      have B3 : Hid (Below w.heap.size w (w2.drewN m3)) := B2.out.trans (below_drewN _ _ _)
      replace hg : g < (w2.drewN m3).heap.size := hg
      generalize w2.drewN m3 = w3 at *
      clear FT
      have H : Sit w3 w3 [(⟨g, 0, none⟩, .string TX), (⟨g, 1, none⟩, .string TY), (⟨g, 0, none⟩, .string TX)] := (((Sit.refl w3).more (p := ⟨g, 0, none⟩) hg r0).more (p := ⟨g, 1, none⟩) hg r1).more (p := ⟨g, 0, none⟩) hg r0
      clear r0 r1
      obtain ⟨q0, q1, q2⟩ := H.c3
      go_wp2_with fail
      refine region_class (fun W => Sit w3 W [(⟨g, 0, none⟩, .string TX), (⟨g, 1, none⟩, .string TY), (⟨g, 0, none⟩, .string TX)]) (by kernel_rfl) (by kernel_rfl) H.drew ?_
      clear q0 q1 q2
      repeat (first | go_big_quiet_skip | (go_big_quiet_want; first | (apply quiet_value; (· (intro W hW; obtain ⟨q0, q1, q2⟩ := hW.c3; go_simp; exact rfl)); simp only [Act.put, List.setIfInBounds_toArray, List.set_cons_zero, List.set_cons_succ]; go_big_quiet_on) | (apply quiet_call; (· (intro W hW; go_simp; exact ⟨rfl, rfl⟩)); (· (intro W hW; first | with_reducible exact (IX.out W).mono fun _ _ h => ⟨h.1, hW.call h.2⟩ | with_reducible exact (IY.out W).mono fun _ _ h => ⟨h.1, hW.call h.2⟩)); simp only [Act.put, List.setIfInBounds_toArray, List.set_cons_zero, List.set_cons_succ]; go_big_quiet_on)))
      refine wpQuiet_nil ?_
      intro wq hq
      clear H
      have H := hq
      clear hq
      go_wp2_with fail
      go_ret
      exact ⟨rfl, below_2 B3.out H.below⟩
    · skip
      have e1 : prt (.n2 64 t x) = [x] := rfl
      have e2 : headN (.n2 64 t x) = t.text := rfl
      have e3 : (.n2 64 t x : Nd).op = 64 := rfl
      rw [e1] at PT
      rw [e2] at hex
      rw [e3] at hop
      generalize hd (.n2 64 t x) = h0 at *
      clear e1 e2 e3
      simp only [Nd.text, List.length_cons, List.length_append] at hl
      have IX := Lib.hid (fun w => IH.out x (bs x.text) w (bs_list _) (by omega) (by omega) hx)
      have uT := shT_len t
      have sT : (bs (shT t)).size ≤ 100000 := by rw [bs_size]; omega
      have uX := shP_len x
      have sX : (bs (shP x)).size ≤ 100000 := by rw [bs_size]; omega
      have FT := Lib.hid (fun w => showTestS_any (bs t.text) (by rw [bs_size]; omega) false t 0 [] w ht (by rw [bs_list]; simp))
      simp only [Int.cast_ofNat_Int] at FT
      rw [shP_64]
      clear hok hl IH hx ht uX uT
      generalize ((t.text.length : Nat) : Int) = el at *
      generalize bs t.text = H0 at *
      generalize bs (shT t) = T at *
      generalize bs (shP x) = A at *
      have z0 : ¬ (9223372036854775807 < 6 + T.size) := by omega
      have y0 : 6 + T.size ≤ 9223372036854775807 := by omega
      have z2 : ¬ (9223372036854775807 < 6 + T.size + 2) := by omega
      have y2 : 6 + T.size + 2 ≤ 9223372036854775807 := by omega
      have z4 : ¬ (9223372036854775807 < 6 + T.size + 2 + A.size) := by omega
      have y4 : 6 + T.size + 2 + A.size ≤ 9223372036854775807 := by omega
      have z6 : ¬ (9223372036854775807 < 6 + T.size + 2 + A.size + 1) := by omega
      have y6 : 6 + T.size + 2 + A.size + 1 ≤ 9223372036854775807 := by omega
      go_enter Try.func76, Try.ntmps76
      go_wp2_with fail
      refine (HD.out _).mono ?_
      rintro e w1 ⟨rfl, m, rfl⟩
      go_wp2_with fail
      refine (PT.out _).mono ?_
      rintro e w2 ⟨vv, rfl, hown, hb2⟩
      obtain ⟨aa, cap, rfl, hcap, hsh⟩ := row_shape hown
      simp only [List.length_nil, List.length_cons, Nat.zero_add] at hcap hsh ⊢
      have B2 : Hid (Below w.heap.size w w2) := (below_drewN _ _ m).trans hb2
      obtain ⟨g, rfl, _, hg⟩ := hsh (by omega)
      have r0 := row_at (j := 0) hown rfl (by simp)
      simp only [List.getElem_cons_zero, sv] at r0
      clear hown hb2 hsh HD PT
      generalize bs x.text = TX at *
      go_wp2_with fail
      refine (FT.out _).mono ?_
      rintro e w3 ⟨rfl, m3, rfl⟩
      replace r0 : (w2.drewN m3).cell? ⟨g, 0, none⟩ = some (.string TX) := r0
      have B3 : Hid (Below w.heap.size w (w2.drewN m3)) := B2.out.trans (below_drewN _ _ _)
      replace hg : g < (w2.drewN m3).heap.size := hg
      generalize w2.drewN m3 = w3 at *
      clear FT
      go_wp2_with fail
      refine (IX.out _).mono ?_
      rintro e w4 ⟨rfl, hb4⟩
      have B4 := Lib.hid (below_2 B3.out hb4)
      clear hb4 IX
      go_wp2_with fail
      go_ret
      exact ⟨rfl, B4.out⟩
    · skip
      have e1 : prt (.n1 126 t) = [] := rfl
      have e2 : headN (.n1 126 t) = t.text := rfl
      have e3 : (.n1 126 t : Nd).op = 126 := rfl
      rw [e1] at PT
      rw [e2] at hex
      rw [e3] at hop
      generalize hd (.n1 126 t) = h0 at *
      clear e1 e2 e3
      simp only [Nd.text, List.length_cons] at hl
      have uT := shT_len t
      have sT : (bs (shT t)).size ≤ 100000 := by rw [bs_size]; omega
      have FT := Lib.hid (fun w => showTestS_any (bs t.text) (by rw [bs_size]; omega) false t 0 [] w ht (by rw [bs_list]; simp))
      simp only [Int.cast_ofNat_Int] at FT
      rw [shP_126]
      clear hok hl IH ht uT
      generalize ((t.text.length : Nat) : Int) = el at *
      generalize bs t.text = H0 at *
      generalize bs (shT t) = T at *
      have z0 : ¬ (9223372036854775807 < 7 + T.size) := by omega
      have y0 : 7 + T.size ≤ 9223372036854775807 := by omega
      go_enter Try.func76, Try.ntmps76
      go_wp2_with fail
      refine (HD.out _).mono ?_
      rintro e w1 ⟨rfl, m, rfl⟩
      go_wp2_with fail
      refine (PT.out _).mono ?_
      rintro e w2 ⟨vv, rfl, hown, hb2⟩
      obtain ⟨aa, cap, rfl, hcap, hsh⟩ := row_shape hown
      simp only [List.length_nil] at hcap hsh ⊢
      have B2 : Hid (Below w.heap.size w w2) := (below_drewN _ _ m).trans hb2
      clear hown hb2 hsh HD PT
      go_wp2_with fail
      refine (FT.out _).mono ?_
      rintro e w3 ⟨rfl, m3, rfl⟩
      go_wp2_with fail
      go_ret
      exact ⟨rfl, B2.out.trans (below_drewN _ _ _)⟩
set_option maxHeartbeats 2000000 in
theorem ShowProgramS_any (S : ByteArray) (hS : S.size ≤ 1000000000000) (w : World) : Calls Try.prog 32 #[.string S] w fun e w' => (e = .returned (.string (bs (oL (whole false 2 200 S.data.toList) shP))) ∧ Below w.heap.size w w') := by
  have R := Lib.hid (ProgramValidS_any S w hS)
  cases ho : whole false 2 200 S.data.toList with
  | none =>
    rw [ho] at R
    clear ho
    simp only [oL, Option.isSome_none] at R ⊢
    go_enter Try.func32, Try.ntmps32
    go_wp2_with fail
    refine R.out.mono ?_
    rintro e w1 ⟨rfl, m, rfl⟩
    clear R
    go_wp2_with fail
    go_ret
    exact ⟨rfl, below_drewN _ _ _⟩
  | some k =>
    rw [ho] at R
    obtain ⟨hl, hk, ht⟩ := (whole_iff (by omega)).1 ho
    have hl2 : k.text.length ≤ 200 := by rw [← ht]; exact hl
    have CO := Lib.hid (fun w => showProgS_any 200 k S w ht hl2 (by omega) hk)
    simp only [oL, Option.isSome_some] at R ⊢
    clear ho hl hk ht hl2
    go_enter Try.func32, Try.ntmps32
    go_wp2_with fail
    refine R.out.mono ?_
    rintro e w1 ⟨rfl, m, rfl⟩
    clear R
    go_wp2_with fail
    refine (CO.out _).mono ?_
    rintro e w2 ⟨rfl, hb2⟩
    have B2 : Hid (Below w.heap.size w w2) := (below_drewN _ _ m).trans hb2
    clear hb2 CO
    go_wp2_with fail
    go_ret
    exact ⟨rfl, B2.out⟩

end Go.Proofs.Ytppcghklkldnaaa
