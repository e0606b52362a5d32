/- Folded programs: the program's. -/
import Derived.Test.YtppcghklkldnaaaEa
import Derived.Test.YtppcghklkldnaaaFt
import Derived.Test.YtppcghklkldnaaaRwb
namespace Go.Proofs.Ytppcghklkldnaaa
open Go.RowKit
open Pl

theorem ownsRow_call {w w' : World} {base : Nat} {e : TypeId} {size : Nat} {v : Value} {n : Nat} {xs : List Value} (h : w.ownsRow base e size v n xs) (hb : Below w.heap.size w w') : w'.ownsRow base e size v n xs :=
  h.kept (grown_of_below hb none) (by cases v.ownBlock <;> simp)
def fv (k : Nd) : Value := .string (bs (foldP k).text)
set_option maxRecDepth 100000 in
set_option maxHeartbeats 16000000 in
theorem foldProg_any : ∀ (n : Nat) (k : Nd) (b : Nat) (w : World), k.text.length ≤ n → n ≤ 1000 → ok false 2 k = true → In w k b →
    Calls Try.prog 62 #[.pointer (some ⟨b, 0, none⟩)] w fun e w' => (e = .returned (.string (bs (foldP k).text)) ∧ Below w.heap.size w w') := by
  intro n
  induction n with
  | zero => intro k b w h; have := text_pos k; omega
  | succ n ih =>
    intro k b w hl hn hok hin
    rcases ok2_head hok with rfl | ⟨v, e, rfl, hv, he⟩ | ⟨o, x, y, rfl, ho, hx, hy⟩ | ⟨t, x, y, rfl, ht, hx, hy⟩ | ⟨t, x, rfl, ht, hx⟩ | ⟨t, rfl, ht⟩
    · obtain ⟨hb0, h1, h3⟩ := hin.op
      simp only [Nd.op, UInt8.reduceToNat] at h1
      have PA := Lib.hid (fun w h1 => parts_115 w b h1)
      have KE := Lib.hid (show (w.alloc (.cells #[] 9)).cell? ⟨b, 0, none⟩ = some (.int .u8 115) from (cellB hb0).trans h1)
      have hf : bs (foldP (.n0 115)).text = bs (Nd.n0 115).text := rfl
      rw [hf]
      clear hin hok hl hf ih
      generalize bs (Nd.n0 115).text = T at *
      go_enter Try.func62, Try.ntmps62
      go_wp2_with fail
      refine (PA.out _ KE.out).mono ?_
      rintro e w' ⟨rfl, rfl⟩
      have H0 : Hid ((w.alloc (.cells #[] 9)).ownsRow w.heap.size 9 1 (.slice (some ⟨w.heap.size, 0, none⟩) 0 0) 0 []) :=
        ⟨rfl, .inr ⟨w.heap.size, 0, #[], rfl, Nat.le_refl _, Blk.new w 9 #[], Nat.le_refl _, by simp [maxLen], rfl, rfl⟩⟩
      have B0 := Lib.hid (below_n w (.cells #[] 9))
      go_wp2_with fail
      go_loopg [3, 13] 0 (fun gk v i wr => (gk = 0 ∧ i = .int .i64 0 ∧ Hid (wr.ownsRow w.heap.size 9 1 v 0 []) ∧ Hid (Below w.heap.size w wr)))
      case atStart => exact ⟨rfl, rfl, H0, B0⟩
      case round =>
        clear H0 B0
        obtain ⟨rfl, rfl, hown, HB⟩ := hrel
        replace h1 := (HB.out.cell (p := ⟨b, 0, none⟩) hb0).trans h1
        replace h3 := (HB.out.cell (p := ⟨b, 2, none⟩) hb0).trans h3
        clear hown
        go_wp2_with fail
        go_ret
        exact ⟨rfl, HB.out⟩
    · obtain ⟨g, c, pb, qb, ⟨hb0, h1, h2, _⟩, hg0, hc, h5, h6, ip, iq⟩ := hin
      simp only [UInt8.reduceToNat] at h1
      simp only [Nd.text, List.length_cons, List.length_append] at hl
      have t1 : w.cell? ⟨pb, 2, none⟩ = some (.string ⟨#[v]⟩) := ip.op.2.2
      have PA := Lib.hid (fun w h1 => parts_97 w b h1)
      have KE := Lib.hid (show (w.alloc (.cells #[] 9)).cell? ⟨b, 0, none⟩ = some (.int .u8 97) from (cellB hb0).trans h1)
      have FE := Lib.hid (fun w h => foldExpr_any e qb w he (by omega) h)
      have le := fold_len e
      have hE : (bs (fold e).text).size ≤ 1000 := by rw [bs_size]; omega
      have hf : bs (foldP (.n2 97 (.n0 v) e)).text = (⟨#[97]⟩ : ByteArray) ++ ⟨#[v]⟩ ++ bs (fold e).text := bs_two 97 (.n0 v) (fold e)
      rw [hf]
      have IQ := Lib.hid iq
      clear hok hl hf ih le iq he
      generalize bs (fold e).text = E at *
      have z1 : ¬ (9223372036854775807 < 1 + 1 + E.size) := by omega
      have z2 : ¬ (9223372036854775807 < 2 + E.size) := by omega
      go_enter Try.func62, Try.ntmps62
      go_wp2_with fail
      refine (PA.out _ KE.out).mono ?_
      rintro e w' ⟨rfl, rfl⟩
      have H0 : Hid ((w.alloc (.cells #[] 9)).ownsRow w.heap.size 9 1 (.slice (some ⟨w.heap.size, 0, none⟩) 0 0) 0 []) :=
        ⟨rfl, .inr ⟨w.heap.size, 0, #[], rfl, Nat.le_refl _, Blk.new w 9 #[], Nat.le_refl _, by simp [maxLen], rfl, rfl⟩⟩
      have B0 := Lib.hid (below_n w (.cells #[] 9))
      go_wp2_with fail
      go_loopg [3, 13] 0 (fun gk v i wr => (gk = 0 ∧ i = .int .i64 0 ∧ Hid (wr.ownsRow w.heap.size 9 1 v 0 []) ∧ Hid (Below w.heap.size w wr)))
      case atStart => exact ⟨rfl, rfl, H0, B0⟩
      case round =>
        clear H0 B0
        obtain ⟨rfl, rfl, hown, HB⟩ := hrel
        have H : Sit w wr [(⟨b, 0, none⟩, .int .u8 97), (⟨b, 1, none⟩, .slice (some ⟨g, 0, none⟩) 2 c), (⟨g, 0, none⟩, .pointer (some ⟨pb, 0, none⟩)), (⟨g, 1, none⟩, .pointer (some ⟨qb, 0, none⟩)), (⟨pb, 2, none⟩, .string ⟨#[v]⟩), (⟨b, 1, none⟩, .slice (some ⟨g, 0, none⟩) 2 c)] := (((((((Sit.refl w).more (p := ⟨b, 1, none⟩) hb0 h2).more (p := ⟨pb, 2, none⟩) ip.op.1 t1).more (p := ⟨g, 1, none⟩) hg0 h6).more (p := ⟨g, 0, none⟩) hg0 h5).more (p := ⟨b, 1, none⟩) hb0 h2).more (p := ⟨b, 0, none⟩) hb0 h1).call HB.out
        clear h1 h2 h5 h6 t1 hown
        obtain ⟨h1, h2, h5, h6, t1, h2x⟩ := H.c6
        go_wp2_with fail
        refine region_class (fun W => Sit w W [(⟨b, 0, none⟩, .int .u8 97), (⟨b, 1, none⟩, .slice (some ⟨g, 0, none⟩) 2 c), (⟨g, 0, none⟩, .pointer (some ⟨pb, 0, none⟩)), (⟨g, 1, none⟩, .pointer (some ⟨qb, 0, none⟩)), (⟨pb, 2, none⟩, .string ⟨#[v]⟩), (⟨b, 1, none⟩, .slice (some ⟨g, 0, none⟩) 2 c)]) (by kernel_rfl) (by kernel_rfl) H.drew ?_
        clear h1 h2 h5 h6 t1 h2x
        repeat (first | go_big_quiet_skip | (go_big_quiet_want; first | (apply quiet_value; (· (intro W hW; obtain ⟨h1, h2, h5, h6, t1, h2x⟩ := hW.c6; go_simp; exact rfl)); simp only [Act.put, List.setIfInBounds_toArray, List.set_cons_zero, List.set_cons_succ]; go_big_quiet_on) | (apply quiet_call; (· (intro W hW; go_simp; exact ⟨rfl, rfl⟩)); (· (intro W hW; first | with_reducible exact (FE.out W (IQ.out.below hW.below (Nat.le_refl _))).mono fun _ _ h => ⟨h.1, hW.call h.2⟩)); simp only [Act.put, List.setIfInBounds_toArray, List.set_cons_zero, List.set_cons_succ]; go_big_quiet_on)))
        refine wpQuiet_nil ?_
        intro wq hq
        clear H
        have H := hq
        clear hq
        go_wp2_with fail
        go_ret
        exact ⟨rfl, H.below⟩
    · obtain ⟨g, c, pb, qb, ⟨hb0, h1, h2, _⟩, hg0, hc, h5, h6, ip, iq⟩ := hin
      simp only [Nd.text, List.length_cons, List.length_append] at hl
      have IH0 := Lib.hid (fun w h => ih x pb w (by omega) (by omega) hx h)
      have IH1 := Lib.hid (fun w h => ih y qb w (by omega) (by omega) hy h)
      have IN0 := Lib.hid ip
      have IN1 := Lib.hid iq
      have lx := foldP_len x
      have ly := foldP_len y
      have hA : (bs (foldP x).text).size ≤ 1000 := by rw [bs_size]; omega
      have hB : (bs (foldP y).text).size ≤ 1000 := by rw [bs_size]; omega
      have hf : bs (foldP (.n2 o x y)).text = (⟨#[o]⟩ : ByteArray) ++ bs (foldP x).text ++ bs (foldP y).text := by
        have n1 : ¬ o = 97 := by rcases ho with rfl | rfl <;> decide
        have n2 : ¬ o = 64 := by rcases ho with rfl | rfl <;> decide
        simp only [foldP, if_neg n1, if_neg n2]
        exact bs_two o (foldP x) (foldP y)
      rw [hf]
      have en1 : Utf8.encode 59 = ⟨#[59]⟩ := by kernel_rfl
      have en2 : Utf8.encode 47 = ⟨#[47]⟩ := by kernel_rfl
      clear hok hl hf ih lx ly ip iq hx hy
      generalize hA0 : bs (foldP x).text = A at *
      generalize hB0 : bs (foldP y).text = B at *
      have GA := Lib.hid hA0
      have GB := Lib.hid hB0
      clear hA0 hB0
      have z1 : ¬ (9223372036854775807 < 1 + A.size) := by omega
      have z2 : ¬ (9223372036854775807 < 1 + A.size + B.size) := by omega
      rcases ho with rfl | rfl
      · simp only [UInt8.reduceToNat] at h1
        have PA := Lib.hid (fun w h1 => parts_59 w b g c h1)
        have PA := Lib.hid (fun w (h : w.cell? ⟨b, 0, none⟩ = some (.int .u8 59) ∧ w.cell? ⟨b, 1, none⟩ = some (.slice (some ⟨g, 0, none⟩) 2 c)) => PA.out w h.1 h.2)
        have KE := Lib.hid (show (w.alloc (.cells #[] 9)).cell? ⟨b, 0, none⟩ = some (.int .u8 59) ∧ (w.alloc (.cells #[] 9)).cell? ⟨b, 1, none⟩ = some (.slice (some ⟨g, 0, none⟩) 2 c) from ⟨(cellB hb0).trans h1, (cellB hb0).trans h2⟩)
        go_enter Try.func62, Try.ntmps62
        go_wp2_with fail
        refine (PA.out _ KE.out).mono ?_
        rintro e w' ⟨rfl, rfl⟩
        have H0 : Hid ((w.alloc (.cells #[] 9)).ownsRow w.heap.size 9 1 (.slice (some ⟨w.heap.size, 0, none⟩) 0 0) 0 []) :=
          ⟨rfl, .inr ⟨w.heap.size, 0, #[], rfl, Nat.le_refl _, Blk.new w 9 #[], Nat.le_refl _, by simp [maxLen], rfl, rfl⟩⟩
        have B0 := Lib.hid (below_n w (.cells #[] 9))
        go_wp2_with fail
        go_loopg [3, 13] 2 (fun gk v i wr => (gk = 2 ∧ i = .int .i64 0 ∧ Hid (wr.ownsRow w.heap.size 9 1 v 0 []) ∧ Hid (Below w.heap.size w wr)) ∨ (gk = 1 ∧ i = .int .i64 1 ∧ Hid (wr.ownsRow w.heap.size 9 1 v 1 [.string A]) ∧ Hid (Below w.heap.size w wr)) ∨ (gk = 0 ∧ i = .int .i64 2 ∧ Hid (wr.ownsRow w.heap.size 9 1 v 2 [.string A, .string B]) ∧ Hid (Below w.heap.size w wr)))
        case atStart => exact .inl ⟨rfl, rfl, H0, B0⟩
        case round =>
          clear H0 B0
          rcases hrel with ⟨rfl, rfl, hown, HB⟩ | ⟨rfl, rfl, hown, HB⟩ | ⟨rfl, rfl, hown, HB⟩
          · have hc1 := (HB.out.cell (p := ⟨g, 0, none⟩) hg0).trans h5
            have FX := Lib.hid (IH0.out wr (IN0.out.below HB.out (Nat.le_refl _)))
            obtain ⟨i0, hi0, hz0, hz1, hz2⟩ := info_parts str_info
            have HI := Lib.hid hi0
            have HZ0 := Lib.hid hz0
            have HZ1 := Lib.hid hz1
            have HZ2 := Lib.hid hz2
            have hz := HB.out.size
            have hrow : ∀ g, u3.ownBlock = some g → w.heap.size ≤ g := fun g e => (hown.out.lt g e).1
            clear hi0 hz0 hz1 hz2
            go_wp2_with fail
            refine FX.out.mono ?_
            rintro e w2 ⟨rfl, hb2⟩
            have HB2 := Lib.hid (below_2 HB.out hb2)
            have hz2 := HB2.out.size
            have hown2 := Lib.hid (ownsRow_call hown.out hb2)
            clear hb2 hown FX HB hc1
            go_wp2_with (at_builtin; refine wpList_append_own _ rfl (.tmp 17) (.tmp 20) 27 rfl w.heap.size 9 i0 _ 1 16 Try.underlying27 HI.out HZ0.out HZ1.out HZ2.out rfl (by decide) u3 0 [] rfl (hown2.out.alloc _) ⟨w2.heap.size, 0, none⟩ 1 1 [.string A] rfl rfl ?c1 ?c2 ?c3 ?c4 ?c5 ?_)
            case c1 => exact one_new w2 (.string A) 9
            case c2 => simp [Value.oneCell']
            case c3 => simp only [maxLen]; omega
            case c4 => omega
            case c5 => first | (simp; done) | (simp; omega)
            intro v' w3 hown' hgr _
            have HO : Hid (w3.ownsRow w.heap.size 9 1 v' 1 [.string A]) := hown'
            have HB3 := Lib.hid ((HB2.out.alloc hz2 (.cells #[.string A] 9)).trans (below_of_grown hgr w.heap.size (by simp; omega) hrow))
            clear hown' hgr hrow hown2 HB2
            go_wp2_with fail
            go_roundg 1
            case measure => omega
            case rel => exact .inr (.inl ⟨rfl, rfl, HO, HB3⟩)
          · have hc1 := (HB.out.cell (p := ⟨g, 1, none⟩) hg0).trans h6
            have FX := Lib.hid (IH1.out wr (IN1.out.below HB.out (Nat.le_refl _)))
            obtain ⟨i0, hi0, hz0, hz1, hz2⟩ := info_parts str_info
            have HI := Lib.hid hi0
            have HZ0 := Lib.hid hz0
            have HZ1 := Lib.hid hz1
            have HZ2 := Lib.hid hz2
            have hz := HB.out.size
            have hrow : ∀ g, u3.ownBlock = some g → w.heap.size ≤ g := fun g e => (hown.out.lt g e).1
            clear hi0 hz0 hz1 hz2
            go_wp2_with fail
            refine FX.out.mono ?_
            rintro e w2 ⟨rfl, hb2⟩
            have HB2 := Lib.hid (below_2 HB.out hb2)
            have hz2 := HB2.out.size
            have hown2 := Lib.hid (ownsRow_call hown.out hb2)
            clear hb2 hown FX HB hc1
            go_wp2_with (at_builtin; refine wpList_append_own _ rfl (.tmp 17) (.tmp 20) 27 rfl w.heap.size 9 i0 _ 1 16 Try.underlying27 HI.out HZ0.out HZ1.out HZ2.out rfl (by decide) u3 1 [.string A] rfl (hown2.out.alloc _) ⟨w2.heap.size, 0, none⟩ 1 1 [.string B] rfl rfl ?c1 ?c2 ?c3 ?c4 ?c5 ?_)
            case c1 => exact one_new w2 (.string B) 9
            case c2 => simp [Value.oneCell']
            case c3 => simp only [maxLen]; omega
            case c4 => omega
            case c5 => first | (simp; done) | (simp; omega)
            intro v' w3 hown' hgr _
            have HO : Hid (w3.ownsRow w.heap.size 9 1 v' 2 [.string A, .string B]) := hown'
            have HB3 := Lib.hid ((HB2.out.alloc hz2 (.cells #[.string B] 9)).trans (below_of_grown hgr w.heap.size (by simp; omega) hrow))
            clear hown' hgr hrow hown2 HB2
            go_wp2_with fail
            go_roundg 0
            case measure => omega
            case rel => exact .inr (.inr (⟨rfl, rfl, HO, HB3⟩))
          · skip
            replace h1 := (HB.out.cell (p := ⟨b, 0, none⟩) hb0).trans h1
            obtain ⟨gr, cap, rfl, hcap, hg1, hg2⟩ := row_form hown.out (by omega)
            have r0 : wr.cell? ⟨gr, 0, none⟩ = some (.string A) := hown.out.cellAt 0 (by omega)
            have r1 : wr.cell? ⟨gr, 1, none⟩ = some (.string B) := hown.out.cellAt 1 (by omega)
            clear hown h2 h5 h6
            go_wp2_with fail
            go_quiet (fail)
            go_wp2_with fail
            go_ret
            exact ⟨rfl, HB.out.trans (below_drewN _ _ _)⟩
      · simp only [UInt8.reduceToNat] at h1
        have PA := Lib.hid (fun w h1 => parts_47 w b g c h1)
        have PA := Lib.hid (fun w (h : w.cell? ⟨b, 0, none⟩ = some (.int .u8 47) ∧ w.cell? ⟨b, 1, none⟩ = some (.slice (some ⟨g, 0, none⟩) 2 c)) => PA.out w h.1 h.2)
        have KE := Lib.hid (show (w.alloc (.cells #[] 9)).cell? ⟨b, 0, none⟩ = some (.int .u8 47) ∧ (w.alloc (.cells #[] 9)).cell? ⟨b, 1, none⟩ = some (.slice (some ⟨g, 0, none⟩) 2 c) from ⟨(cellB hb0).trans h1, (cellB hb0).trans h2⟩)
        go_enter Try.func62, Try.ntmps62
        go_wp2_with fail
        refine (PA.out _ KE.out).mono ?_
        rintro e w' ⟨rfl, rfl⟩
        have H0 : Hid ((w.alloc (.cells #[] 9)).ownsRow w.heap.size 9 1 (.slice (some ⟨w.heap.size, 0, none⟩) 0 0) 0 []) :=
          ⟨rfl, .inr ⟨w.heap.size, 0, #[], rfl, Nat.le_refl _, Blk.new w 9 #[], Nat.le_refl _, by simp [maxLen], rfl, rfl⟩⟩
        have B0 := Lib.hid (below_n w (.cells #[] 9))
        go_wp2_with fail
        go_loopg [3, 13] 2 (fun gk v i wr => (gk = 2 ∧ i = .int .i64 0 ∧ Hid (wr.ownsRow w.heap.size 9 1 v 0 []) ∧ Hid (Below w.heap.size w wr)) ∨ (gk = 1 ∧ i = .int .i64 1 ∧ Hid (wr.ownsRow w.heap.size 9 1 v 1 [.string A]) ∧ Hid (Below w.heap.size w wr)) ∨ (gk = 0 ∧ i = .int .i64 2 ∧ Hid (wr.ownsRow w.heap.size 9 1 v 2 [.string A, .string B]) ∧ Hid (Below w.heap.size w wr)))
        case atStart => exact .inl ⟨rfl, rfl, H0, B0⟩
        case round =>
          clear H0 B0
          rcases hrel with ⟨rfl, rfl, hown, HB⟩ | ⟨rfl, rfl, hown, HB⟩ | ⟨rfl, rfl, hown, HB⟩
          · have hc1 := (HB.out.cell (p := ⟨g, 0, none⟩) hg0).trans h5
            have FX := Lib.hid (IH0.out wr (IN0.out.below HB.out (Nat.le_refl _)))
            obtain ⟨i0, hi0, hz0, hz1, hz2⟩ := info_parts str_info
            have HI := Lib.hid hi0
            have HZ0 := Lib.hid hz0
            have HZ1 := Lib.hid hz1
            have HZ2 := Lib.hid hz2
            have hz := HB.out.size
            have hrow : ∀ g, u3.ownBlock = some g → w.heap.size ≤ g := fun g e => (hown.out.lt g e).1
            clear hi0 hz0 hz1 hz2
            go_wp2_with fail
            refine FX.out.mono ?_
            rintro e w2 ⟨rfl, hb2⟩
            have HB2 := Lib.hid (below_2 HB.out hb2)
            have hz2 := HB2.out.size
            have hown2 := Lib.hid (ownsRow_call hown.out hb2)
            clear hb2 hown FX HB hc1
            go_wp2_with (at_builtin; refine wpList_append_own _ rfl (.tmp 17) (.tmp 20) 27 rfl w.heap.size 9 i0 _ 1 16 Try.underlying27 HI.out HZ0.out HZ1.out HZ2.out rfl (by decide) u3 0 [] rfl (hown2.out.alloc _) ⟨w2.heap.size, 0, none⟩ 1 1 [.string A] rfl rfl ?c1 ?c2 ?c3 ?c4 ?c5 ?_)
            case c1 => exact one_new w2 (.string A) 9
            case c2 => simp [Value.oneCell']
            case c3 => simp only [maxLen]; omega
            case c4 => omega
            case c5 => first | (simp; done) | (simp; omega)
            intro v' w3 hown' hgr _
            have HO : Hid (w3.ownsRow w.heap.size 9 1 v' 1 [.string A]) := hown'
            have HB3 := Lib.hid ((HB2.out.alloc hz2 (.cells #[.string A] 9)).trans (below_of_grown hgr w.heap.size (by simp; omega) hrow))
            clear hown' hgr hrow hown2 HB2
            go_wp2_with fail
            go_roundg 1
            case measure => omega
            case rel => exact .inr (.inl ⟨rfl, rfl, HO, HB3⟩)
          · have hc1 := (HB.out.cell (p := ⟨g, 1, none⟩) hg0).trans h6
            have FX := Lib.hid (IH1.out wr (IN1.out.below HB.out (Nat.le_refl _)))
            obtain ⟨i0, hi0, hz0, hz1, hz2⟩ := info_parts str_info
            have HI := Lib.hid hi0
            have HZ0 := Lib.hid hz0
            have HZ1 := Lib.hid hz1
            have HZ2 := Lib.hid hz2
            have hz := HB.out.size
            have hrow : ∀ g, u3.ownBlock = some g → w.heap.size ≤ g := fun g e => (hown.out.lt g e).1
            clear hi0 hz0 hz1 hz2
            go_wp2_with fail
            refine FX.out.mono ?_
            rintro e w2 ⟨rfl, hb2⟩
            have HB2 := Lib.hid (below_2 HB.out hb2)
            have hz2 := HB2.out.size
            have hown2 := Lib.hid (ownsRow_call hown.out hb2)
            clear hb2 hown FX HB hc1
            go_wp2_with (at_builtin; refine wpList_append_own _ rfl (.tmp 17) (.tmp 20) 27 rfl w.heap.size 9 i0 _ 1 16 Try.underlying27 HI.out HZ0.out HZ1.out HZ2.out rfl (by decide) u3 1 [.string A] rfl (hown2.out.alloc _) ⟨w2.heap.size, 0, none⟩ 1 1 [.string B] rfl rfl ?c1 ?c2 ?c3 ?c4 ?c5 ?_)
            case c1 => exact one_new w2 (.string B) 9
            case c2 => simp [Value.oneCell']
            case c3 => simp only [maxLen]; omega
            case c4 => omega
            case c5 => first | (simp; done) | (simp; omega)
            intro v' w3 hown' hgr _
            have HO : Hid (w3.ownsRow w.heap.size 9 1 v' 2 [.string A, .string B]) := hown'
            have HB3 := Lib.hid ((HB2.out.alloc hz2 (.cells #[.string B] 9)).trans (below_of_grown hgr w.heap.size (by simp; omega) hrow))
            clear hown' hgr hrow hown2 HB2
            go_wp2_with fail
            go_roundg 0
            case measure => omega
            case rel => exact .inr (.inr (⟨rfl, rfl, HO, HB3⟩))
          · skip
            replace h1 := (HB.out.cell (p := ⟨b, 0, none⟩) hb0).trans h1
            obtain ⟨gr, cap, rfl, hcap, hg1, hg2⟩ := row_form hown.out (by omega)
            have r0 : wr.cell? ⟨gr, 0, none⟩ = some (.string A) := hown.out.cellAt 0 (by omega)
            have r1 : wr.cell? ⟨gr, 1, none⟩ = some (.string B) := hown.out.cellAt 1 (by omega)
            clear hown h2 h5 h6
            go_wp2_with fail
            go_quiet (fail)
            go_wp2_with fail
            go_ret
            exact ⟨rfl, HB.out.trans (below_drewN _ _ _)⟩
    · obtain ⟨g, c, pb, qb, rb, ⟨hb0, h1, h2, _⟩, hg0, hc, h5, h6, h7, it, ip, iq⟩ := hin
      simp only [UInt8.reduceToNat] at h1
      simp only [Nd.text, List.length_cons, List.length_append] at hl
      have IH0 := Lib.hid (fun w h => ih x qb w (by omega) (by omega) hx h)
      have lx := foldP_len x
      have hxs : (bs (foldP x).text).size ≤ 1000 := by rw [bs_size]; omega
      have IH1 := Lib.hid (fun w h => ih y rb w (by omega) (by omega) hy h)
      have ly := foldP_len y
      have hys : (bs (foldP y).text).size ≤ 1000 := by rw [bs_size]; omega
      have IN0 := Lib.hid ip
      have IN1 := Lib.hid iq
      have IT := Lib.hid it
      have FT := Lib.hid (fun w h => foldTest_any t pb w ht (by omega) h)
      have lt := foldT_len t
      have hts : (bs (foldT t).text).size ≤ 1000 := by rw [bs_size]; omega
      obtain ⟨a1, b1⟩ := isC_beq 116 (foldT t)
      obtain ⟨a2, b2⟩ := isC_beq 102 (foldT t)
      have PA := Lib.hid (fun w (h : w.cell? ⟨b, 0, none⟩ = some (.int .u8 63) ∧ w.cell? ⟨b, 1, none⟩ = some (.slice (some ⟨g, 0, none⟩) 3 c)) => parts_63 w b g c hc h.1 h.2)
      have KE := Lib.hid (show (w.alloc (.cells #[] 9)).cell? ⟨b, 0, none⟩ = some (.int .u8 63) ∧ (w.alloc (.cells #[] 9)).cell? ⟨b, 1, none⟩ = some (.slice (some ⟨g, 0, none⟩) 3 c) from ⟨(cellB hb0).trans h1, (cellB hb0).trans h2⟩)
      clear hok hl ih lx ly lt it ip iq hx hy ht
      generalize hA0 : bs (foldP x).text = A at *
      generalize hB0 : bs (foldP y).text = B at *
      have GA := Lib.hid hA0
      have GB := Lib.hid hB0
      clear hA0 hB0
      cases c1 : isC 116 (foldT t)
      · rw [c1] at a1 b1
        cases c2 : isC 102 (foldT t)
        · rw [c2] at a2 b2
          have hf : bs (foldP (.n3 63 t x y)).text = (⟨#[63]⟩ : ByteArray) ++ bs (foldT t).text ++ A ++ B := by
            rw [← GA.out, ← GB.out, show (⟨#[63]⟩ : ByteArray) = bs [63] from rfl, bs_app, bs_app, bs_app]
            congr 1
            simp [foldP, c1, c2, Nd.text]
          rw [hf]
          clear hf c1 c2
          generalize bs (foldT t).text = T at *
          have z1 : ¬ (9223372036854775807 < 1 + T.size) := by omega
          have z2 : ¬ (9223372036854775807 < 1 + T.size + A.size) := by omega
          have z3 : ¬ (9223372036854775807 < 1 + T.size + A.size + B.size) := by omega
          go_enter Try.func62, Try.ntmps62
          go_wp2_with fail
          refine (PA.out _ KE.out).mono ?_
          rintro e w' ⟨rfl, rfl⟩
          have H0 : Hid ((w.alloc (.cells #[] 9)).ownsRow w.heap.size 9 1 (.slice (some ⟨w.heap.size, 0, none⟩) 0 0) 0 []) :=
            ⟨rfl, .inr ⟨w.heap.size, 0, #[], rfl, Nat.le_refl _, Blk.new w 9 #[], Nat.le_refl _, by simp [maxLen], rfl, rfl⟩⟩
          have B0 := Lib.hid (below_n w (.cells #[] 9))
          go_wp2_with fail
          go_loopg [3, 13] 2 (fun gk v i wr => (gk = 2 ∧ i = .int .i64 0 ∧ Hid (wr.ownsRow w.heap.size 9 1 v 0 []) ∧ Hid (Below w.heap.size w wr)) ∨ (gk = 1 ∧ i = .int .i64 1 ∧ Hid (wr.ownsRow w.heap.size 9 1 v 1 [.string A]) ∧ Hid (Below w.heap.size w wr)) ∨ (gk = 0 ∧ i = .int .i64 2 ∧ Hid (wr.ownsRow w.heap.size 9 1 v 2 [.string A, .string B]) ∧ Hid (Below w.heap.size w wr)))
          case atStart => exact .inl ⟨rfl, rfl, H0, B0⟩
          case round =>
            clear H0 B0
            rcases hrel with ⟨rfl, rfl, hown, HB⟩ | ⟨rfl, rfl, hown, HB⟩ | ⟨rfl, rfl, hown, HB⟩
            · have hc1 := (HB.out.cell (p := ⟨g, 1, none⟩) hg0).trans h6
              have FX := Lib.hid (IH0.out wr (IN0.out.below HB.out (Nat.le_refl _)))
              obtain ⟨i0, hi0, hz0, hz1, hz2⟩ := info_parts str_info
              have HI := Lib.hid hi0
              have HZ0 := Lib.hid hz0
              have HZ1 := Lib.hid hz1
              have HZ2 := Lib.hid hz2
              have hz := HB.out.size
              have hrow : ∀ g, u3.ownBlock = some g → w.heap.size ≤ g := fun g e => (hown.out.lt g e).1
              clear hi0 hz0 hz1 hz2
              go_wp2_with fail
              refine FX.out.mono ?_
              rintro e w2 ⟨rfl, hb2⟩
              have HB2 := Lib.hid (below_2 HB.out hb2)
              have hz2 := HB2.out.size
              have hown2 := Lib.hid (ownsRow_call hown.out hb2)
              clear hb2 hown FX HB hc1
              go_wp2_with (at_builtin; refine wpList_append_own _ rfl (.tmp 17) (.tmp 20) 27 rfl w.heap.size 9 i0 _ 1 16 Try.underlying27 HI.out HZ0.out HZ1.out HZ2.out rfl (by decide) u3 0 [] rfl (hown2.out.alloc _) ⟨w2.heap.size, 0, none⟩ 1 1 [.string A] rfl rfl ?c1 ?c2 ?c3 ?c4 ?c5 ?_)
              case c1 => exact one_new w2 (.string A) 9
              case c2 => simp [Value.oneCell']
              case c3 => simp only [maxLen]; omega
              case c4 => omega
              case c5 => first | (simp; done) | (simp; omega)
              intro v' w3 hown' hgr _
              have HO : Hid (w3.ownsRow w.heap.size 9 1 v' 1 [.string A]) := hown'
              have HB3 := Lib.hid ((HB2.out.alloc hz2 (.cells #[.string A] 9)).trans (below_of_grown hgr w.heap.size (by simp; omega) hrow))
              clear hown' hgr hrow hown2 HB2
              go_wp2_with fail
              go_roundg 1
              case measure => omega
              case rel => exact .inr (.inl ⟨rfl, rfl, HO, HB3⟩)
            · have hc1 := (HB.out.cell (p := ⟨g, 2, none⟩) hg0).trans h7
              have FX := Lib.hid (IH1.out wr (IN1.out.below HB.out (Nat.le_refl _)))
              obtain ⟨i0, hi0, hz0, hz1, hz2⟩ := info_parts str_info
              have HI := Lib.hid hi0
              have HZ0 := Lib.hid hz0
              have HZ1 := Lib.hid hz1
              have HZ2 := Lib.hid hz2
              have hz := HB.out.size
              have hrow : ∀ g, u3.ownBlock = some g → w.heap.size ≤ g := fun g e => (hown.out.lt g e).1
              clear hi0 hz0 hz1 hz2
              go_wp2_with fail
              refine FX.out.mono ?_
              rintro e w2 ⟨rfl, hb2⟩
              have HB2 := Lib.hid (below_2 HB.out hb2)
              have hz2 := HB2.out.size
              have hown2 := Lib.hid (ownsRow_call hown.out hb2)
              clear hb2 hown FX HB hc1
              go_wp2_with (at_builtin; refine wpList_append_own _ rfl (.tmp 17) (.tmp 20) 27 rfl w.heap.size 9 i0 _ 1 16 Try.underlying27 HI.out HZ0.out HZ1.out HZ2.out rfl (by decide) u3 1 [.string A] rfl (hown2.out.alloc _) ⟨w2.heap.size, 0, none⟩ 1 1 [.string B] rfl rfl ?c1 ?c2 ?c3 ?c4 ?c5 ?_)
              case c1 => exact one_new w2 (.string B) 9
              case c2 => simp [Value.oneCell']
              case c3 => simp only [maxLen]; omega
              case c4 => omega
              case c5 => first | (simp; done) | (simp; omega)
              intro v' w3 hown' hgr _
              have HO : Hid (w3.ownsRow w.heap.size 9 1 v' 2 [.string A, .string B]) := hown'
              have HB3 := Lib.hid ((HB2.out.alloc hz2 (.cells #[.string B] 9)).trans (below_of_grown hgr w.heap.size (by simp; omega) hrow))
              clear hown' hgr hrow hown2 HB2
              go_wp2_with fail
              go_roundg 0
              case measure => omega
              case rel => exact .inr (.inr (⟨rfl, rfl, HO, HB3⟩))
            · skip
              replace h1 := (HB.out.cell (p := ⟨b, 0, none⟩) hb0).trans h1
              replace h2 := (HB.out.cell (p := ⟨b, 1, none⟩) hb0).trans h2
              replace h5 := (HB.out.cell (p := ⟨g, 0, none⟩) hg0).trans h5
              have FX := Lib.hid (FT.out wr (IT.out.below HB.out (Nat.le_refl _)))
              obtain ⟨gr, cap, rfl, hcap, hg1, hg2⟩ := row_form hown.out (by omega)
              have r0 : wr.cell? ⟨gr, 0, none⟩ = some (.string A) := hown.out.cellAt 0 (by omega)
              have r1 : wr.cell? ⟨gr, 1, none⟩ = some (.string B) := hown.out.cellAt 1 (by omega)
              clear hown
              go_wp2_with fail
              refine FX.out.mono ?_
              rintro e w2 ⟨rfl, hb2⟩
              replace r0 := (hb2.cell (p := ⟨gr, 0, none⟩) hg1).trans r0
              replace r1 := (hb2.cell (p := ⟨gr, 1, none⟩) hg1).trans r1
              have HB2 := Lib.hid (below_2 HB.out hb2)
              clear hb2 HB h1 h2 h5 FX
              go_wp2_with fail
              go_quiet (fail)
              go_wp2_with fail
              go_ret
              exact ⟨rfl, HB2.out.trans (below_drewN _ _ _)⟩
        · have hf : bs (foldP (.n3 63 t x y)).text = B := by
            rw [← GB.out]
            congr 1
            simp [foldP, c1, c2]
          rw [hf]
          rw [isC_bs c2] at FT
          clear hf c1 c2 a1 b1 a2 b2 hts
          go_enter Try.func62, Try.ntmps62
          go_wp2_with fail
          refine (PA.out _ KE.out).mono ?_
          rintro e w' ⟨rfl, rfl⟩
          have H0 : Hid ((w.alloc (.cells #[] 9)).ownsRow w.heap.size 9 1 (.slice (some ⟨w.heap.size, 0, none⟩) 0 0) 0 []) :=
            ⟨rfl, .inr ⟨w.heap.size, 0, #[], rfl, Nat.le_refl _, Blk.new w 9 #[], Nat.le_refl _, by simp [maxLen], rfl, rfl⟩⟩
          have B0 := Lib.hid (below_n w (.cells #[] 9))
          go_wp2_with fail
          go_loopg [3, 13] 2 (fun gk v i wr => (gk = 2 ∧ i = .int .i64 0 ∧ Hid (wr.ownsRow w.heap.size 9 1 v 0 []) ∧ Hid (Below w.heap.size w wr)) ∨ (gk = 1 ∧ i = .int .i64 1 ∧ Hid (wr.ownsRow w.heap.size 9 1 v 1 [.string A]) ∧ Hid (Below w.heap.size w wr)) ∨ (gk = 0 ∧ i = .int .i64 2 ∧ Hid (wr.ownsRow w.heap.size 9 1 v 2 [.string A, .string B]) ∧ Hid (Below w.heap.size w wr)))
          case atStart => exact .inl ⟨rfl, rfl, H0, B0⟩
          case round =>
            clear H0 B0
            rcases hrel with ⟨rfl, rfl, hown, HB⟩ | ⟨rfl, rfl, hown, HB⟩ | ⟨rfl, rfl, hown, HB⟩
            · have hc1 := (HB.out.cell (p := ⟨g, 1, none⟩) hg0).trans h6
              have FX := Lib.hid (IH0.out wr (IN0.out.below HB.out (Nat.le_refl _)))
              obtain ⟨i0, hi0, hz0, hz1, hz2⟩ := info_parts str_info
              have HI := Lib.hid hi0
              have HZ0 := Lib.hid hz0
              have HZ1 := Lib.hid hz1
              have HZ2 := Lib.hid hz2
              have hz := HB.out.size
              have hrow : ∀ g, u3.ownBlock = some g → w.heap.size ≤ g := fun g e => (hown.out.lt g e).1
              clear hi0 hz0 hz1 hz2
              go_wp2_with fail
              refine FX.out.mono ?_
              rintro e w2 ⟨rfl, hb2⟩
              have HB2 := Lib.hid (below_2 HB.out hb2)
              have hz2 := HB2.out.size
              have hown2 := Lib.hid (ownsRow_call hown.out hb2)
              clear hb2 hown FX HB hc1
              go_wp2_with (at_builtin; refine wpList_append_own _ rfl (.tmp 17) (.tmp 20) 27 rfl w.heap.size 9 i0 _ 1 16 Try.underlying27 HI.out HZ0.out HZ1.out HZ2.out rfl (by decide) u3 0 [] rfl (hown2.out.alloc _) ⟨w2.heap.size, 0, none⟩ 1 1 [.string A] rfl rfl ?c1 ?c2 ?c3 ?c4 ?c5 ?_)
              case c1 => exact one_new w2 (.string A) 9
              case c2 => simp [Value.oneCell']
              case c3 => simp only [maxLen]; omega
              case c4 => omega
              case c5 => first | (simp; done) | (simp; omega)
              intro v' w3 hown' hgr _
              have HO : Hid (w3.ownsRow w.heap.size 9 1 v' 1 [.string A]) := hown'
              have HB3 := Lib.hid ((HB2.out.alloc hz2 (.cells #[.string A] 9)).trans (below_of_grown hgr w.heap.size (by simp; omega) hrow))
              clear hown' hgr hrow hown2 HB2
              go_wp2_with fail
              go_roundg 1
              case measure => omega
              case rel => exact .inr (.inl ⟨rfl, rfl, HO, HB3⟩)
            · have hc1 := (HB.out.cell (p := ⟨g, 2, none⟩) hg0).trans h7
              have FX := Lib.hid (IH1.out wr (IN1.out.below HB.out (Nat.le_refl _)))
              obtain ⟨i0, hi0, hz0, hz1, hz2⟩ := info_parts str_info
              have HI := Lib.hid hi0
              have HZ0 := Lib.hid hz0
              have HZ1 := Lib.hid hz1
              have HZ2 := Lib.hid hz2
              have hz := HB.out.size
              have hrow : ∀ g, u3.ownBlock = some g → w.heap.size ≤ g := fun g e => (hown.out.lt g e).1
              clear hi0 hz0 hz1 hz2
              go_wp2_with fail
              refine FX.out.mono ?_
              rintro e w2 ⟨rfl, hb2⟩
              have HB2 := Lib.hid (below_2 HB.out hb2)
              have hz2 := HB2.out.size
              have hown2 := Lib.hid (ownsRow_call hown.out hb2)
              clear hb2 hown FX HB hc1
              go_wp2_with (at_builtin; refine wpList_append_own _ rfl (.tmp 17) (.tmp 20) 27 rfl w.heap.size 9 i0 _ 1 16 Try.underlying27 HI.out HZ0.out HZ1.out HZ2.out rfl (by decide) u3 1 [.string A] rfl (hown2.out.alloc _) ⟨w2.heap.size, 0, none⟩ 1 1 [.string B] rfl rfl ?c1 ?c2 ?c3 ?c4 ?c5 ?_)
              case c1 => exact one_new w2 (.string B) 9
              case c2 => simp [Value.oneCell']
              case c3 => simp only [maxLen]; omega
              case c4 => omega
              case c5 => first | (simp; done) | (simp; omega)
              intro v' w3 hown' hgr _
              have HO : Hid (w3.ownsRow w.heap.size 9 1 v' 2 [.string A, .string B]) := hown'
              have HB3 := Lib.hid ((HB2.out.alloc hz2 (.cells #[.string B] 9)).trans (below_of_grown hgr w.heap.size (by simp; omega) hrow))
              clear hown' hgr hrow hown2 HB2
              go_wp2_with fail
              go_roundg 0
              case measure => omega
              case rel => exact .inr (.inr (⟨rfl, rfl, HO, HB3⟩))
            · skip
              replace h1 := (HB.out.cell (p := ⟨b, 0, none⟩) hb0).trans h1
              replace h2 := (HB.out.cell (p := ⟨b, 1, none⟩) hb0).trans h2
              replace h5 := (HB.out.cell (p := ⟨g, 0, none⟩) hg0).trans h5
              have FX := Lib.hid (FT.out wr (IT.out.below HB.out (Nat.le_refl _)))
              obtain ⟨gr, cap, rfl, hcap, hg1, hg2⟩ := row_form hown.out (by omega)
              have r0 : wr.cell? ⟨gr, 0, none⟩ = some (.string A) := hown.out.cellAt 0 (by omega)
              have r1 : wr.cell? ⟨gr, 1, none⟩ = some (.string B) := hown.out.cellAt 1 (by omega)
              clear hown
              go_wp2_with fail
              refine FX.out.mono ?_
              rintro e w2 ⟨rfl, hb2⟩
              replace r0 := (hb2.cell (p := ⟨gr, 0, none⟩) hg1).trans r0
              replace r1 := (hb2.cell (p := ⟨gr, 1, none⟩) hg1).trans r1
              have HB2 := Lib.hid (below_2 HB.out hb2)
              clear hb2 HB h1 h2 h5 FX
              go_wp2_with fail
              go_ret
              exact ⟨rfl, HB2.out⟩
      · have hf : bs (foldP (.n3 63 t x y)).text = A := by
          rw [← GA.out]
          congr 1
          simp [foldP, c1]
        rw [hf]
        rw [isC_bs c1] at FT
        clear hf c1 a1 b1 a2 b2 hts
        go_enter Try.func62, Try.ntmps62
        go_wp2_with fail
        refine (PA.out _ KE.out).mono ?_
        rintro e w' ⟨rfl, rfl⟩
        have H0 : Hid ((w.alloc (.cells #[] 9)).ownsRow w.heap.size 9 1 (.slice (some ⟨w.heap.size, 0, none⟩) 0 0) 0 []) :=
          ⟨rfl, .inr ⟨w.heap.size, 0, #[], rfl, Nat.le_refl _, Blk.new w 9 #[], Nat.le_refl _, by simp [maxLen], rfl, rfl⟩⟩
        have B0 := Lib.hid (below_n w (.cells #[] 9))
        go_wp2_with fail
        go_loopg [3, 13] 2 (fun gk v i wr => (gk = 2 ∧ i = .int .i64 0 ∧ Hid (wr.ownsRow w.heap.size 9 1 v 0 []) ∧ Hid (Below w.heap.size w wr)) ∨ (gk = 1 ∧ i = .int .i64 1 ∧ Hid (wr.ownsRow w.heap.size 9 1 v 1 [.string A]) ∧ Hid (Below w.heap.size w wr)) ∨ (gk = 0 ∧ i = .int .i64 2 ∧ Hid (wr.ownsRow w.heap.size 9 1 v 2 [.string A, .string B]) ∧ Hid (Below w.heap.size w wr)))
        case atStart => exact .inl ⟨rfl, rfl, H0, B0⟩
        case round =>
          clear H0 B0
          rcases hrel with ⟨rfl, rfl, hown, HB⟩ | ⟨rfl, rfl, hown, HB⟩ | ⟨rfl, rfl, hown, HB⟩
          · have hc1 := (HB.out.cell (p := ⟨g, 1, none⟩) hg0).trans h6
            have FX := Lib.hid (IH0.out wr (IN0.out.below HB.out (Nat.le_refl _)))
            obtain ⟨i0, hi0, hz0, hz1, hz2⟩ := info_parts str_info
            have HI := Lib.hid hi0
            have HZ0 := Lib.hid hz0
            have HZ1 := Lib.hid hz1
            have HZ2 := Lib.hid hz2
            have hz := HB.out.size
            have hrow : ∀ g, u3.ownBlock = some g → w.heap.size ≤ g := fun g e => (hown.out.lt g e).1
            clear hi0 hz0 hz1 hz2
            go_wp2_with fail
            refine FX.out.mono ?_
            rintro e w2 ⟨rfl, hb2⟩
            have HB2 := Lib.hid (below_2 HB.out hb2)
            have hz2 := HB2.out.size
            have hown2 := Lib.hid (ownsRow_call hown.out hb2)
            clear hb2 hown FX HB hc1
            go_wp2_with (at_builtin; refine wpList_append_own _ rfl (.tmp 17) (.tmp 20) 27 rfl w.heap.size 9 i0 _ 1 16 Try.underlying27 HI.out HZ0.out HZ1.out HZ2.out rfl (by decide) u3 0 [] rfl (hown2.out.alloc _) ⟨w2.heap.size, 0, none⟩ 1 1 [.string A] rfl rfl ?c1 ?c2 ?c3 ?c4 ?c5 ?_)
            case c1 => exact one_new w2 (.string A) 9
            case c2 => simp [Value.oneCell']
            case c3 => simp only [maxLen]; omega
            case c4 => omega
            case c5 => first | (simp; done) | (simp; omega)
            intro v' w3 hown' hgr _
            have HO : Hid (w3.ownsRow w.heap.size 9 1 v' 1 [.string A]) := hown'
            have HB3 := Lib.hid ((HB2.out.alloc hz2 (.cells #[.string A] 9)).trans (below_of_grown hgr w.heap.size (by simp; omega) hrow))
            clear hown' hgr hrow hown2 HB2
            go_wp2_with fail
            go_roundg 1
            case measure => omega
            case rel => exact .inr (.inl ⟨rfl, rfl, HO, HB3⟩)
          · have hc1 := (HB.out.cell (p := ⟨g, 2, none⟩) hg0).trans h7
            have FX := Lib.hid (IH1.out wr (IN1.out.below HB.out (Nat.le_refl _)))
            obtain ⟨i0, hi0, hz0, hz1, hz2⟩ := info_parts str_info
            have HI := Lib.hid hi0
            have HZ0 := Lib.hid hz0
            have HZ1 := Lib.hid hz1
            have HZ2 := Lib.hid hz2
            have hz := HB.out.size
            have hrow : ∀ g, u3.ownBlock = some g → w.heap.size ≤ g := fun g e => (hown.out.lt g e).1
            clear hi0 hz0 hz1 hz2
            go_wp2_with fail
            refine FX.out.mono ?_
            rintro e w2 ⟨rfl, hb2⟩
            have HB2 := Lib.hid (below_2 HB.out hb2)
            have hz2 := HB2.out.size
            have hown2 := Lib.hid (ownsRow_call hown.out hb2)
            clear hb2 hown FX HB hc1
            go_wp2_with (at_builtin; refine wpList_append_own _ rfl (.tmp 17) (.tmp 20) 27 rfl w.heap.size 9 i0 _ 1 16 Try.underlying27 HI.out HZ0.out HZ1.out HZ2.out rfl (by decide) u3 1 [.string A] rfl (hown2.out.alloc _) ⟨w2.heap.size, 0, none⟩ 1 1 [.string B] rfl rfl ?c1 ?c2 ?c3 ?c4 ?c5 ?_)
            case c1 => exact one_new w2 (.string B) 9
            case c2 => simp [Value.oneCell']
            case c3 => simp only [maxLen]; omega
            case c4 => omega
            case c5 => first | (simp; done) | (simp; omega)
            intro v' w3 hown' hgr _
            have HO : Hid (w3.ownsRow w.heap.size 9 1 v' 2 [.string A, .string B]) := hown'
            have HB3 := Lib.hid ((HB2.out.alloc hz2 (.cells #[.string B] 9)).trans (below_of_grown hgr w.heap.size (by simp; omega) hrow))
            clear hown' hgr hrow hown2 HB2
            go_wp2_with fail
            go_roundg 0
            case measure => omega
            case rel => exact .inr (.inr (⟨rfl, rfl, HO, HB3⟩))
          · skip
            replace h1 := (HB.out.cell (p := ⟨b, 0, none⟩) hb0).trans h1
            replace h2 := (HB.out.cell (p := ⟨b, 1, none⟩) hb0).trans h2
            replace h5 := (HB.out.cell (p := ⟨g, 0, none⟩) hg0).trans h5
            have FX := Lib.hid (FT.out wr (IT.out.below HB.out (Nat.le_refl _)))
            obtain ⟨gr, cap, rfl, hcap, hg1, hg2⟩ := row_form hown.out (by omega)
            have r0 : wr.cell? ⟨gr, 0, none⟩ = some (.string A) := hown.out.cellAt 0 (by omega)
            have r1 : wr.cell? ⟨gr, 1, none⟩ = some (.string B) := hown.out.cellAt 1 (by omega)
            clear hown
            go_wp2_with fail
            refine FX.out.mono ?_
            rintro e w2 ⟨rfl, hb2⟩
            replace r0 := (hb2.cell (p := ⟨gr, 0, none⟩) hg1).trans r0
            replace r1 := (hb2.cell (p := ⟨gr, 1, none⟩) hg1).trans r1
            have HB2 := Lib.hid (below_2 HB.out hb2)
            clear hb2 HB h1 h2 h5 FX
            go_wp2_with fail
            go_ret
            exact ⟨rfl, HB2.out⟩
    · obtain ⟨g, c, pb, qb, ⟨hb0, h1, h2, _⟩, hg0, hc, h5, h6, it, ip⟩ := hin
      simp only [UInt8.reduceToNat] at h1
      simp only [Nd.text, List.length_cons, List.length_append] at hl
      have IH0 := Lib.hid (fun w h => ih x qb w (by omega) (by omega) hx h)
      have lx := foldP_len x
      have hxs : (bs (foldP x).text).size ≤ 1000 := by rw [bs_size]; omega
      have IN0 := Lib.hid ip
      have IT := Lib.hid it
      have FT := Lib.hid (fun w h => foldTest_any t pb w ht (by omega) h)
      have lt := foldT_len t
      have hts : (bs (foldT t).text).size ≤ 1000 := by rw [bs_size]; omega
      obtain ⟨a2, b2⟩ := isC_beq 102 (foldT t)
      have PA := Lib.hid (fun w (h : w.cell? ⟨b, 0, none⟩ = some (.int .u8 64) ∧ w.cell? ⟨b, 1, none⟩ = some (.slice (some ⟨g, 0, none⟩) 2 c)) => parts_64 w b g c hc h.1 h.2)
      have KE := Lib.hid (show (w.alloc (.cells #[] 9)).cell? ⟨b, 0, none⟩ = some (.int .u8 64) ∧ (w.alloc (.cells #[] 9)).cell? ⟨b, 1, none⟩ = some (.slice (some ⟨g, 0, none⟩) 2 c) from ⟨(cellB hb0).trans h1, (cellB hb0).trans h2⟩)
      clear hok hl ih lx lt it ip hx ht
      generalize hA0 : bs (foldP x).text = A at *
      have GA := Lib.hid hA0
      clear hA0
      cases c2 : isC 102 (foldT t)
      · rw [c2] at a2 b2
        have hf : bs (foldP (.n2 64 t x)).text = (⟨#[64]⟩ : ByteArray) ++ bs (foldT t).text ++ A := by
          rw [← GA.out, show (⟨#[64]⟩ : ByteArray) = bs [64] from rfl, bs_app, bs_app]
          congr 1
          simp [foldP, c2, Nd.text]
        rw [hf]
        clear hf c2
        generalize bs (foldT t).text = T at *
        have z1 : 1 + T.size ≤ 9223372036854775807 := by omega
        have z2 : 1 + T.size + A.size ≤ 9223372036854775807 := by omega
        go_enter Try.func62, Try.ntmps62
        go_wp2_with fail
        refine (PA.out _ KE.out).mono ?_
        rintro e w' ⟨rfl, rfl⟩
        have H0 : Hid ((w.alloc (.cells #[] 9)).ownsRow w.heap.size 9 1 (.slice (some ⟨w.heap.size, 0, none⟩) 0 0) 0 []) :=
          ⟨rfl, .inr ⟨w.heap.size, 0, #[], rfl, Nat.le_refl _, Blk.new w 9 #[], Nat.le_refl _, by simp [maxLen], rfl, rfl⟩⟩
        have B0 := Lib.hid (below_n w (.cells #[] 9))
        go_wp2_with fail
        go_loopg [3, 13] 1 (fun gk v i wr => (gk = 1 ∧ i = .int .i64 0 ∧ Hid (wr.ownsRow w.heap.size 9 1 v 0 []) ∧ Hid (Below w.heap.size w wr)) ∨ (gk = 0 ∧ i = .int .i64 1 ∧ Hid (wr.ownsRow w.heap.size 9 1 v 1 [.string A]) ∧ Hid (Below w.heap.size w wr)))
        case atStart => exact .inl ⟨rfl, rfl, H0, B0⟩
        case round =>
          clear H0 B0
          rcases hrel with ⟨rfl, rfl, hown, HB⟩ | ⟨rfl, rfl, hown, HB⟩
          · have hc1 := (HB.out.cell (p := ⟨g, 1, none⟩) hg0).trans h6
            have FX := Lib.hid (IH0.out wr (IN0.out.below HB.out (Nat.le_refl _)))
            obtain ⟨i0, hi0, hz0, hz1, hz2⟩ := info_parts str_info
            have HI := Lib.hid hi0
            have HZ0 := Lib.hid hz0
            have HZ1 := Lib.hid hz1
            have HZ2 := Lib.hid hz2
            have hz := HB.out.size
            have hrow : ∀ g, u3.ownBlock = some g → w.heap.size ≤ g := fun g e => (hown.out.lt g e).1
            clear hi0 hz0 hz1 hz2
            go_wp2_with fail
            refine FX.out.mono ?_
            rintro e w2 ⟨rfl, hb2⟩
            have HB2 := Lib.hid (below_2 HB.out hb2)
            have hz2 := HB2.out.size
            have hown2 := Lib.hid (ownsRow_call hown.out hb2)
            clear hb2 hown FX HB hc1
            go_wp2_with (at_builtin; refine wpList_append_own _ rfl (.tmp 17) (.tmp 20) 27 rfl w.heap.size 9 i0 _ 1 16 Try.underlying27 HI.out HZ0.out HZ1.out HZ2.out rfl (by decide) u3 0 [] rfl (hown2.out.alloc _) ⟨w2.heap.size, 0, none⟩ 1 1 [.string A] rfl rfl ?c1 ?c2 ?c3 ?c4 ?c5 ?_)
            case c1 => exact one_new w2 (.string A) 9
            case c2 => simp [Value.oneCell']
            case c3 => simp only [maxLen]; omega
            case c4 => omega
            case c5 => first | (simp; done) | (simp; omega)
            intro v' w3 hown' hgr _
            have HO : Hid (w3.ownsRow w.heap.size 9 1 v' 1 [.string A]) := hown'
            have HB3 := Lib.hid ((HB2.out.alloc hz2 (.cells #[.string A] 9)).trans (below_of_grown hgr w.heap.size (by simp; omega) hrow))
            clear hown' hgr hrow hown2 HB2
            go_wp2_with fail
            go_roundg 0
            case measure => omega
            case rel => exact .inr (⟨rfl, rfl, HO, HB3⟩)
          · skip
            replace h1 := (HB.out.cell (p := ⟨b, 0, none⟩) hb0).trans h1
            replace h2 := (HB.out.cell (p := ⟨b, 1, none⟩) hb0).trans h2
            replace h5 := (HB.out.cell (p := ⟨g, 0, none⟩) hg0).trans h5
            have FX := Lib.hid (FT.out wr (IT.out.below HB.out (Nat.le_refl _)))
            obtain ⟨gr, cap, rfl, hcap, hg1, hg2⟩ := row_form hown.out (by omega)
            have r0 : wr.cell? ⟨gr, 0, none⟩ = some (.string A) := hown.out.cellAt 0 (by omega)
            clear hown
            go_wp2_with fail
            refine FX.out.mono ?_
            rintro e w2 ⟨rfl, hb2⟩
            replace r0 := (hb2.cell (p := ⟨gr, 0, none⟩) hg1).trans r0
            have HB2 := Lib.hid (below_2 HB.out hb2)
            clear hb2 HB h1 h2 h5 FX
            go_wp2_with fail
            go_ret
            exact ⟨rfl, HB2.out⟩
      · have hf : bs (foldP (.n2 64 t x)).text = ⟨#[115]⟩ := by
          simp [foldP, c2, Nd.text, bs]
        rw [hf]
        rw [isC_bs c2] at FT
        clear hf c2 a2 b2 hts
        go_enter Try.func62, Try.ntmps62
        go_wp2_with fail
        refine (PA.out _ KE.out).mono ?_
        rintro e w' ⟨rfl, rfl⟩
        have H0 : Hid ((w.alloc (.cells #[] 9)).ownsRow w.heap.size 9 1 (.slice (some ⟨w.heap.size, 0, none⟩) 0 0) 0 []) :=
          ⟨rfl, .inr ⟨w.heap.size, 0, #[], rfl, Nat.le_refl _, Blk.new w 9 #[], Nat.le_refl _, by simp [maxLen], rfl, rfl⟩⟩
        have B0 := Lib.hid (below_n w (.cells #[] 9))
        go_wp2_with fail
        go_loopg [3, 13] 1 (fun gk v i wr => (gk = 1 ∧ i = .int .i64 0 ∧ Hid (wr.ownsRow w.heap.size 9 1 v 0 []) ∧ Hid (Below w.heap.size w wr)) ∨ (gk = 0 ∧ i = .int .i64 1 ∧ Hid (wr.ownsRow w.heap.size 9 1 v 1 [.string A]) ∧ Hid (Below w.heap.size w wr)))
        case atStart => exact .inl ⟨rfl, rfl, H0, B0⟩
        case round =>
          clear H0 B0
          rcases hrel with ⟨rfl, rfl, hown, HB⟩ | ⟨rfl, rfl, hown, HB⟩
          · have hc1 := (HB.out.cell (p := ⟨g, 1, none⟩) hg0).trans h6
            have FX := Lib.hid (IH0.out wr (IN0.out.below HB.out (Nat.le_refl _)))
            obtain ⟨i0, hi0, hz0, hz1, hz2⟩ := info_parts str_info
            have HI := Lib.hid hi0
            have HZ0 := Lib.hid hz0
            have HZ1 := Lib.hid hz1
            have HZ2 := Lib.hid hz2
            have hz := HB.out.size
            have hrow : ∀ g, u3.ownBlock = some g → w.heap.size ≤ g := fun g e => (hown.out.lt g e).1
            clear hi0 hz0 hz1 hz2
            go_wp2_with fail
            refine FX.out.mono ?_
            rintro e w2 ⟨rfl, hb2⟩
            have HB2 := Lib.hid (below_2 HB.out hb2)
            have hz2 := HB2.out.size
            have hown2 := Lib.hid (ownsRow_call hown.out hb2)
            clear hb2 hown FX HB hc1
            go_wp2_with (at_builtin; refine wpList_append_own _ rfl (.tmp 17) (.tmp 20) 27 rfl w.heap.size 9 i0 _ 1 16 Try.underlying27 HI.out HZ0.out HZ1.out HZ2.out rfl (by decide) u3 0 [] rfl (hown2.out.alloc _) ⟨w2.heap.size, 0, none⟩ 1 1 [.string A] rfl rfl ?c1 ?c2 ?c3 ?c4 ?c5 ?_)
            case c1 => exact one_new w2 (.string A) 9
            case c2 => simp [Value.oneCell']
            case c3 => simp only [maxLen]; omega
            case c4 => omega
            case c5 => first | (simp; done) | (simp; omega)
            intro v' w3 hown' hgr _
            have HO : Hid (w3.ownsRow w.heap.size 9 1 v' 1 [.string A]) := hown'
            have HB3 := Lib.hid ((HB2.out.alloc hz2 (.cells #[.string A] 9)).trans (below_of_grown hgr w.heap.size (by simp; omega) hrow))
            clear hown' hgr hrow hown2 HB2
            go_wp2_with fail
            go_roundg 0
            case measure => omega
            case rel => exact .inr (⟨rfl, rfl, HO, HB3⟩)
          · skip
            replace h1 := (HB.out.cell (p := ⟨b, 0, none⟩) hb0).trans h1
            replace h2 := (HB.out.cell (p := ⟨b, 1, none⟩) hb0).trans h2
            replace h5 := (HB.out.cell (p := ⟨g, 0, none⟩) hg0).trans h5
            have FX := Lib.hid (FT.out wr (IT.out.below HB.out (Nat.le_refl _)))
            clear hown
            go_wp2_with fail
            refine FX.out.mono ?_
            rintro e w2 ⟨rfl, hb2⟩
            have HB2 := Lib.hid (below_2 HB.out hb2)
            clear hb2 HB h1 h2 h5 FX
            go_wp2_with fail
            go_ret
            exact ⟨rfl, HB2.out⟩
    · obtain ⟨g, c, pb, hb0, hg0, hc, h1, h2, h5, it⟩ := hin.op1
      simp only [UInt8.reduceToNat] at h1
      simp only [Nd.text, List.length_cons] at hl
      have IT := Lib.hid it
      have FT := Lib.hid (fun w h => foldTest_any t pb w ht (by omega) h)
      have lt := foldT_len t
      have hts : (bs (foldT t).text).size ≤ 1000 := by rw [bs_size]; omega
      obtain ⟨a1, b1⟩ := isC_beq 116 (foldT t)
      have PA := Lib.hid (fun w h1 => parts_126 w b h1)
      have KE := Lib.hid (show (w.alloc (.cells #[] 9)).cell? ⟨b, 0, none⟩ = some (.int .u8 126) from (cellB hb0).trans h1)
      clear hin hok hl ih lt it ht
      cases c1 : isC 116 (foldT t)
      · rw [c1] at a1 b1
        have hf : bs (foldP (.n1 126 t)).text = (⟨#[126]⟩ : ByteArray) ++ bs (foldT t).text := by
          simp only [foldP, c1, Bool.false_eq_true, if_false]
          exact bs_one 126 (foldT t)
        rw [hf]
        clear hf c1
        generalize bs (foldT t).text = T at *
        have z1 : 1 + T.size ≤ 9223372036854775807 := by omega
        go_enter Try.func62, Try.ntmps62
        go_wp2_with fail
        refine (PA.out _ KE.out).mono ?_
        rintro e w' ⟨rfl, rfl⟩
        have H0 : Hid ((w.alloc (.cells #[] 9)).ownsRow w.heap.size 9 1 (.slice (some ⟨w.heap.size, 0, none⟩) 0 0) 0 []) :=
          ⟨rfl, .inr ⟨w.heap.size, 0, #[], rfl, Nat.le_refl _, Blk.new w 9 #[], Nat.le_refl _, by simp [maxLen], rfl, rfl⟩⟩
        have B0 := Lib.hid (below_n w (.cells #[] 9))
        go_wp2_with fail
        go_loopg [3, 13] 0 (fun gk v i wr => (gk = 0 ∧ i = .int .i64 0 ∧ Hid (wr.ownsRow w.heap.size 9 1 v 0 []) ∧ Hid (Below w.heap.size w wr)))
        case atStart => exact ⟨rfl, rfl, H0, B0⟩
        case round =>
          clear H0 B0
          obtain ⟨rfl, rfl, hown, HB⟩ := hrel
          replace h1 := (HB.out.cell (p := ⟨b, 0, none⟩) hb0).trans h1
          replace h2 := (HB.out.cell (p := ⟨b, 1, none⟩) hb0).trans h2
          replace h5 := (HB.out.cell (p := ⟨g, 0, none⟩) hg0).trans h5
          have FX := Lib.hid (FT.out wr (IT.out.below HB.out (Nat.le_refl _)))
          clear hown
          go_wp2_with fail
          refine FX.out.mono ?_
          rintro e w2 ⟨rfl, hb2⟩
          have HB2 := Lib.hid (below_2 HB.out hb2)
          clear hb2 HB h1 h2 h5 FX
          go_wp2_with fail
          go_ret
          exact ⟨rfl, HB2.out⟩
      · have hf : bs (foldP (.n1 126 t)).text = ⟨#[115]⟩ := by
          simp [foldP, c1, Nd.text, bs]
        rw [hf]
        rw [isC_bs c1] at FT
        clear hf c1 a1 b1 hts
        go_enter Try.func62, Try.ntmps62
        go_wp2_with fail
        refine (PA.out _ KE.out).mono ?_
        rintro e w' ⟨rfl, rfl⟩
        have H0 : Hid ((w.alloc (.cells #[] 9)).ownsRow w.heap.size 9 1 (.slice (some ⟨w.heap.size, 0, none⟩) 0 0) 0 []) :=
          ⟨rfl, .inr ⟨w.heap.size, 0, #[], rfl, Nat.le_refl _, Blk.new w 9 #[], Nat.le_refl _, by simp [maxLen], rfl, rfl⟩⟩
        have B0 := Lib.hid (below_n w (.cells #[] 9))
        go_wp2_with fail
        go_loopg [3, 13] 0 (fun gk v i wr => (gk = 0 ∧ i = .int .i64 0 ∧ Hid (wr.ownsRow w.heap.size 9 1 v 0 []) ∧ Hid (Below w.heap.size w wr)))
        case atStart => exact ⟨rfl, rfl, H0, B0⟩
        case round =>
          clear H0 B0
          obtain ⟨rfl, rfl, hown, HB⟩ := hrel
          replace h1 := (HB.out.cell (p := ⟨b, 0, none⟩) hb0).trans h1
          replace h2 := (HB.out.cell (p := ⟨b, 1, none⟩) hb0).trans h2
          replace h5 := (HB.out.cell (p := ⟨g, 0, none⟩) hg0).trans h5
          have FX := Lib.hid (FT.out wr (IT.out.below HB.out (Nat.le_refl _)))
          clear hown
          go_wp2_with fail
          refine FX.out.mono ?_
          rintro e w2 ⟨rfl, hb2⟩
          have HB2 := Lib.hid (below_2 HB.out hb2)
          clear hb2 HB h1 h2 h5 FX
          go_wp2_with fail
          go_ret
          exact ⟨rfl, HB2.out⟩
set_option maxHeartbeats 1000000 in
theorem FoldProgram_any (S : ByteArray) (hS : S.size ≤ 1000000000000) (w : World) : Calls Try.prog 15 #[.string S] w fun e w' => (e = .returned (.tuple #[.string (bs (optT ((whole false 2 200 S.data.toList).map foldP))), .bool ((whole false 2 200 S.data.toList).map foldP).isSome]) ∧ Below w.heap.size w w') := by
  have R := Lib.hid (parseProg_any S hS w)
  cases ho : whole false 2 200 S.data.toList with
  | none =>
    rw [ho] at R
    clear ho
    simp only [Option.map_none, optT, Option.isSome_none] at R ⊢
    go_enter Try.func15, Try.ntmps15
    go_wp2_with fail
    refine R.out.mono ?_
    rintro e w1 ⟨hb1, rfl⟩
    have B1 := Lib.hid hb1
    clear R hb1
    go_wp2_with fail
    go_ret2
    exact ⟨(by first | trivial | rfl), B1.out⟩
  | some k =>
    rw [ho] at R
    obtain ⟨hl, hk, ht⟩ := (whole_iff (by omega)).1 ho
    rw [ht] at hl
    have FX := Lib.hid (fun b w h => foldProg_any 200 k b w hl (by omega) hk h)
    simp only [Option.map_some, optT, Option.isSome_some] at R ⊢
    clear ho hl hk ht
    go_enter Try.func15, Try.ntmps15
    go_wp2_with fail
    refine R.out.mono ?_
    rintro e w1 ⟨hb1, b, rfl, hin⟩
    have B1 := Lib.hid hb1
    have I1 := Lib.hid hin
    clear R hb1 hin
    go_wp2_with fail
    refine (FX.out _ _ I1.out).mono ?_
    rintro e w2 ⟨rfl, hb2⟩
    have B2 := Lib.hid (below_2 B1.out hb2)
    clear hb2
    go_wp2_with fail
    go_ret2
    exact ⟨(by first | trivial | rfl), B2.out⟩

end Go.Proofs.Ytppcghklkldnaaa
