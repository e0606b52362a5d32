/- The head and the parts of a program: the reference's. -/
import Derived.Test.YtndlhdmpfnadcaaGreatDoorSpc
import Derived.Test.YtndlhdmpfnadcaaGreatDoorGa
import Derived.Test.YtndlhdmpfnadcaaGreatDoorGb
import Derived.Maps.AppendAt
import Derived.Laws.OwnMore
import Derived.Deep.LoopGhost
namespace Go.Proofs.YtndlhdmpfnadcaaGreatDoor
open Go.RowKit
open Pl

/-- what a node's cells hold -/
theorem In.op {w : World} {k : Nd} {b : Nat} (h : In w k b) : b < w.heap.size ∧ w.cell? ⟨b, 0, none⟩ = some (.int .u8 k.op.toNat) ∧ w.cell? ⟨b, 2, none⟩ = some (.string (bs k.text)) := by
  cases k with
  | n0 o => exact ⟨h.1, h.2.1, h.2.2.2⟩
  | n1 o x => obtain ⟨g, c, p, h, _⟩ := h; exact ⟨h.1, h.2.1, h.2.2.2⟩
  | n2 o x y => obtain ⟨g, c, p, q, h, _⟩ := h; exact ⟨h.1, h.2.1, h.2.2.2⟩
  | n3 o x y z => obtain ⟨g, c, p, q, r, h, _⟩ := h; exact ⟨h.1, h.2.1, h.2.2.2⟩
theorem ownsRow_drewN {w : World} {base : Nat} {e : TypeId} {size : Nat} {v : Value} {n : Nat} {xs : List Value} (h : w.ownsRow base e size v n xs) (m : Nat) : (w.drewN m).ownsRow base e size v n xs := h
theorem extract_nd {S : ByteArray} {p n : Nat} {l r : List UInt8} (h : S.data.toList.drop p = l ++ r) (hn : n = p + l.length) : S.extract p n = bs l := by
  subst hn
  apply ByteArray.ext
  apply Array.toList_inj.1
  simp only [bs, ByteArray.data_extract, Array.toList_extract, List.extract_eq_take_drop]
  rw [h, show p + l.length - p = l.length by omega]
  simp

set_option maxHeartbeats 1000000 in
theorem ProgramValidS_free (S : ByteArray) (w : World) : Calls Tryz.prog 66 #[.string S] w fun e w' => (e = .returned (.bool (whole false 2 200 S.data.toList).isSome) ∧ ∃ m, w' = w.drewN m) := by
  have hW := endOf_whole (wd := false) (so := 2) (most := 200) (l := S.data.toList) (by omega)
  rw [len_S] at hW
  by_cases hbig : S.size ≤ 200
  · have E := Lib.hid (prog_all S (by omega) false 0 w (by omega) (by omega))
    simp only [hbig, decide_true, Bool.true_and] at hW
    rw [← hW]
    clear hW
    generalize endOf false 2 S.data.toList 0 = z at *
    go_enter Tryz.func66, Tryz.ntmps66
    go_wp2_with fail
    refine E.out.mono ?_
    rintro e w' ⟨rfl, m, rfl⟩
    go_wp2_with fail
    go_ret
    exact ⟨rfl, _, rfl⟩
  · simp only [hbig, decide_false, Bool.false_and] at hW
    rw [← hW]
    clear hW
    go_enter Tryz.func66, Tryz.ntmps66
    go_wp2_with fail
    go_ret
    exact ⟨rfl, 0, rfl⟩
theorem ProgramValidS_any (S : ByteArray) (w : World) (_ : S.size ≤ 1000000000000) : Calls Tryz.prog 66 #[.string S] w fun e w' => (e = .returned (.bool (whole false 2 200 S.data.toList).isSome) ∧ ∃ m, w' = w.drewN m) := ProgramValidS_free S w
set_option maxHeartbeats 2000000 in
theorem headS_any (S : ByteArray) (hS : S.size ≤ 1000000) (wd : Bool) (k : Nd) (hk : ok wd 2 k = true) (ht : S.data.toList = k.text) (w : World) :
    Calls Tryz.prog 68 #[.string S, .bool wd] w fun e w' => (e = .returned (.int .i64 (hd k : Nat)) ∧ ∃ m, w' = w.drewN m) := by
  have hz : S.size = k.text.length := by rw [← ht, len_S]
  have hp0 : 0 < S.size := by rw [hz]; exact text_pos k
  have hc0 : S[0] = k.op := by
    have h1 : S.data.toList[0]'(by rw [len_S]; exact hp0) = k.text[0]'(text_pos k) := by simp only [ht]
    have h2 : k.text[0]'(text_pos k) = k.op := by cases k <;> rfl
    exact h1.trans h2
  have T1 := Lib.hid (fun w => test_all S hS wd 1 w (by omega) (by omega))
  rcases ok2_head hk with rfl | ⟨v, e, rfl, hv, he⟩ | ⟨o, a, b, rfl, ho, ha, hb⟩ | ⟨t, a, b, rfl, h1, h2, h3⟩ | ⟨t, a, rfl, h1, h2⟩ | ⟨t, rfl, h1⟩
  · simp only [Nd.op] at hc0
    clear ht hz hk T1
    go_enter Tryz.func68, Tryz.ntmps68
    go_wp2_with fail
    go_ret
    exact ⟨rfl, 0, rfl⟩
  · simp only [Nd.op] at hc0
    have HZ := Lib.hid hz
    clear ht hz hk T1 hv he
    go_enter Tryz.func68, Tryz.ntmps68
    go_wp2_with fail
    go_ret
    exact ⟨ret_int (by rw [HZ.out]; simp [hd, Nd.text]; omega), 0, rfl⟩
  · simp only [Nd.op] at hc0
    clear ht hz hk T1 ha hb
    rcases ho with rfl | rfl
    all_goals
      go_enter Tryz.func68, Tryz.ntmps68
      go_wp2_with fail
      go_ret
      exact ⟨rfl, 0, rfl⟩
  · skip
    have hE := (endOf_text (wd := wd) (so := 1) (l := S.data.toList) (p := 1) (k := t) (r := a.text ++ b.text) h1 (by rw [ht]; simp [Nd.text])).1
    simp only [Int.cast_ofNat_Int] at hE
    rw [hE] at T1
    clear hE ht hz hk
    simp only [Nd.op] at hc0
    go_enter Tryz.func68, Tryz.ntmps68
    go_wp2_with fail
    refine (T1.out _).mono ?_
    rintro e w' ⟨rfl, m, rfl⟩
    go_wp2_with fail
    go_ret
    exact ⟨rfl, _, rfl⟩
  · skip
    have hE := (endOf_text (wd := wd) (so := 1) (l := S.data.toList) (p := 1) (k := t) (r := a.text) h1 (by rw [ht]; simp [Nd.text])).1
    simp only [Int.cast_ofNat_Int] at hE
    rw [hE] at T1
    clear hE ht hz hk
    simp only [Nd.op] at hc0
    go_enter Tryz.func68, Tryz.ntmps68
    go_wp2_with fail
    refine (T1.out _).mono ?_
    rintro e w' ⟨rfl, m, rfl⟩
    go_wp2_with fail
    go_ret
    exact ⟨rfl, _, rfl⟩
  · skip
    have hE := (endOf_text (wd := wd) (so := 1) (l := S.data.toList) (p := 1) (k := t) (r := []) h1 (by rw [ht]; simp [Nd.text])).1
    simp only [Int.cast_ofNat_Int] at hE
    rw [hE] at T1
    clear hE ht hz hk
    simp only [Nd.op] at hc0
    go_enter Tryz.func68, Tryz.ntmps68
    go_wp2_with fail
    refine (T1.out _).mono ?_
    rintro e w' ⟨rfl, m, rfl⟩
    go_wp2_with fail
    go_ret
    exact ⟨rfl, _, rfl⟩
def sv (k : Nd) : Value := .string (bs k.text)
/-- the parts, in a row that the call has made -/
def PartsPost (w : World) (ps : List Nd) (e : Ending) (w' : World) : Prop :=
  ∃ v, e = .returned v ∧ w'.ownsRow w.heap.size 9 1 v ps.length (ps.map sv) ∧ Below w.heap.size w w'
theorem str_info : (Tryz.prog.info? 9).map (fun i => (i.zero, i.size, i.bytes)) = some (some (.string ⟨#[]⟩), 1, 16) := by kernel_rfl
theorem one_new (W : World) (a : Value) (t : TypeId) : ∀ j u, [a][j]? = some u → (W.alloc (.cells #[a] t)).cell? ((⟨W.heap.size, 0, none⟩ : Addr).add j) = some u := by
  intro j u h
  have e : (⟨W.heap.size, 0, none⟩ : Addr).add j = ⟨W.heap.size, j, none⟩ := by unfold Addr.add; split <;> simp_all
  rw [e, (Blk.new W t #[a]).cell j]
  simpa using h
set_option maxRecDepth 100000 in
set_option maxHeartbeats 4000000 in
theorem partsS_any (S : ByteArray) (hS : S.size ≤ 1000000) (wd : Bool) (k : Nd) (hk : ok wd 2 k = true) (ht : S.data.toList = k.text) (w : World) :
    Calls Tryz.prog 46 #[.string S, .bool wd] w (PartsPost w (prt k)) := by
  have HD := Lib.hid (fun w => headS_any S hS wd k hk ht w)
  have hdrop : S.data.toList.drop (hd k) = flatN (prt k) := by rw [ht]; exact drop_hd k
  have hle : hd k ≤ S.size := by rw [← len_S, ht]; exact hd_le k
  have hall := prt_ok hk
  have hlen := prt_len (k := k)
  have hPA := Lib.hid (fun z w h1 h2 => prog_all S hS wd z w h1 h2)
  generalize prt k = ps at *
  generalize hd k = h0 at *
  have HDR := Lib.hid hdrop
  have HALL := Lib.hid hall
  clear hdrop hall hk ht
  go_enter Tryz.func46, Tryz.ntmps46
  go_wp2_with fail
  refine (HD.out _).mono ?_
  rintro e w1 ⟨rfl, m, rfl⟩
  have hr : ((w.alloc (.cells #[] 9)).drewN m).ownsRow w.heap.size 9 1 (.slice (some ⟨w.heap.size, 0, none⟩) 0 0) 0 (List.map sv []) :=
    ⟨rfl, .inr ⟨w.heap.size, 0, #[], rfl, Nat.le_refl _, Blk.new w 9 #[], Nat.le_refl _, by simp [maxLen], rfl, rfl⟩⟩
  have H0 := Lib.hid hr
  have B0 := Lib.hid ((below_n w (.cells #[] 9)).trans (below_drewN _ _ m))
  clear hr
  go_wp2_with fail
  go_loopg [5, 6] ps.length (fun gk v i wr => ∃ (dn td : List Nd) (p : Nat), dn ++ td = ps ∧ td.length = gk ∧ i = .int .i64 p ∧ p ≤ S.size ∧ Hid (S.data.toList.drop p = flatN td) ∧ Hid (wr.ownsRow w.heap.size 9 1 v dn.length (dn.map sv)) ∧ Hid (Below w.heap.size w wr))
  case atStart => exact ⟨[], ps, h0, rfl, rfl, rfl, hle, HDR, H0, B0⟩
  case round =>
    clear H0 B0 HDR
    obtain ⟨dn, td, p, hps, htl, rfl, hpl, hdr, hown, HB⟩ := hrel
    cases td with
    | cons x td =>
      have hx : ok wd 2 x = true := HALL.out x (by rw [← hps]; simp)
      have hd1 : S.data.toList.drop p = x.text ++ flatN td := hdr.out
      obtain ⟨hE, hd2⟩ := endOf_text hx hd1
      have hxp := text_pos x
      have hll := congrArg List.length hd1
      rw [List.length_drop, len_S, List.length_append] at hll
      have hlt : p < S.size := by omega
      have hPX := Lib.hid (fun w => hPA.out (p : Int) w (by omega) (by omega))
      rw [hE] at hPX
      have hex := extract_nd hd1 (n := p + x.text.length) rfl
      have HD2 := Lib.hid hd2
      have hq : p + x.text.length ≤ S.size := by omega
      obtain ⟨i0, hi0, hz0, hz1, hz2⟩ := info_parts str_info
      have HI := Lib.hid hi0
      have HZ0 := Lib.hid hz0
      have HZ1 := Lib.hid hz1
      have HZ2 := Lib.hid hz2
      have hz := HB.out.size
      have hrow : ∀ g, u5.ownBlock = some g → w.heap.size ≤ g := fun g e => (hown.out.lt g e).1
      have hdl : dn.length ≤ 2 := by have := congrArg List.length hps; simp at this; omega
      clear hE hd1 hd2 hdr hi0 hz0 hz1 hz2 hx hPA hll
      generalize hxl : x.text.length = lx at *
      go_wp2_with fail
      refine (hPX.out _).mono ?_
      rintro e w2 ⟨rfl, m2, rfl⟩
      go_wp2_with (at_builtin; refine wpList_append_own _ rfl (.tmp 20) (.tmp 25) 30 rfl w.heap.size 9 i0 _ 1 16 Tryz.underlying30 HI.out HZ0.out HZ1.out HZ2.out rfl (by decide) u5 dn.length (dn.map sv) rfl ((ownsRow_drewN hown.out m2).alloc _) ⟨wr.heap.size, 0, none⟩ 1 1 [sv x] rfl rfl ?c1 ?c2 ?c3 ?c4 ?c5 ?_)
      case c1 => exact one_new wr (sv x) 9
      case c2 => simp [sv, Value.oneCell']
      case c3 => simp only [maxLen]; omega
      case c4 => omega
      case c5 => simp; omega
      intro v' w3 hown' hgr _
      rw [show dn.map sv ++ [sv x] = (dn ++ [x]).map sv by simp] at hown'
      have HO := Lib.hid hown'
      have HB2 := Lib.hid ((((HB.out.trans (below_drewN _ _ m2)).alloc hz (.cells #[sv x] 9))).trans (below_of_grown hgr w.heap.size (by simp; omega) hrow))
      clear hown' hgr hrow
      go_wp2_with fail
      go_roundg td.length
      case measure => simp at htl; omega
      case rel => exact ⟨dn ++ [x], td, p + lx, by simp [← hps], rfl, by go_num, by omega, HD2, by simpa using HO, HB2⟩
    | nil =>
      have hd1 := hdr.out
      have hll := congrArg List.length hd1
      rw [List.length_drop, len_S] at hll
      simp only [flatN, List.length_nil] at hll
      have hge : S.size ≤ p := by omega
      obtain rfl : dn = ps := by simpa using hps
      clear hd1 hdr hll hPA
      go_wp2_with fail
      go_ret
      exact ⟨_, rfl, hown.out, HB.out⟩
set_option maxHeartbeats 1000000 in
theorem headTextS_any (S : ByteArray) (hS : S.size ≤ 1000000) (k : Nd) (hk : ok false 2 k = true) (ht : S.data.toList = k.text) (w : World) :
    Calls Tryz.prog 70 #[.string S] w fun e w' => (e = .returned (.string (bs (headN k))) ∧ ∃ m, w' = w.drewN m) := by
  have HD := Lib.hid (fun w => headS_any S hS false k hk ht w)
  have h1 : S.data.toList.drop 1 = headN k ++ flatN (prt k) := by rw [ht, head_text]; rfl
  have h2 := hd_head k
  have hle : hd k ≤ S.size := by rw [← len_S, ht]; exact hd_le k
  have hps := hd_pos k
  have hex := extract_nd h1 (n := hd k) (by omega)
  generalize hd k = h0 at *
  generalize headN k = hn at *
  clear h1 h2 hk ht
  go_enter Tryz.func70, Tryz.ntmps70
  go_wp2_with fail
  refine (HD.out _).mono ?_
  rintro e w' ⟨rfl, m, rfl⟩
  go_wp2_with fail
  go_ret
  exact ⟨rfl, _, rfl⟩

end Go.Proofs.YtndlhdmpfnadcaaGreatDoor
