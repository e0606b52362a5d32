/- A text whose small letters of variables become great ones: the reference's l7Case, and the library's replacer of bytes. -/
import Derived.Test.YtehpmglbbalelaaNa
import Derived.Test.YtehpmglbbalelaaGa
import Derived.Test.YtehpmglbbalelaaGb
import Derived.Lib.SliceRun
namespace Go.Proofs.Ytehpmglbbalelaa
open Go.RowKit
open Pl
set_option linter.unusedVariables false

/-- a letter of the first state is one of the second -/
def upc (c : UInt8) : UInt8 := if 120 ≤ c ∧ c ≤ 122 then c - 32 else c
theorem upc_keeps : Keeps upc true true := by
  refine ⟨fun c h => ?_, fun c h => ?_⟩
  · rcases Pl.isV_cases h with rfl | rfl | rfl | rfl | rfl | rfl <;> decide
  · unfold upc
    rw [if_neg]
    intro hc
    have : isV true c = true := by simp [isV, hc.1, hc.2]
    rw [this] at h; cases h
theorem upc_test {k : Nd} (h : ok false 1 k = true) : ok true 1 (mapN upc k) = true := mapN_ok upc_keeps (by decide) (ok_wide h)
theorem upc_yes {c : UInt8} (h1 : 120 ≤ c.toNat) (h2 : c.toNat ≤ 122) : upc c = c - 32 ∧ (c - 32).toNat = c.toNat - 32 := by
  refine ⟨if_pos ⟨UInt8.le_iff_toNat_le.2 h1, UInt8.le_iff_toNat_le.2 h2⟩, ?_⟩
  rw [UInt8.toNat_sub_of_le _ _ (UInt8.le_iff_toNat_le.2 (by show 32 ≤ c.toNat; omega))]
  rfl
theorem upc_no {c : UInt8} (h : ¬ (120 ≤ c.toNat ∧ c.toNat ≤ 122)) : upc c = c := if_neg (fun hc => h ⟨by have := UInt8.le_iff_toNat_le.1 hc.1; simpa using this, by have := UInt8.le_iff_toNat_le.1 hc.2; simpa using this⟩)
set_option maxRecDepth 100000 in
set_option maxHeartbeats 8000000 in
theorem l7Case_any (S : ByteArray) (hS : S.size ≤ 1000000) (w : World) : Calls Try.prog 10 #[.string S, .bool false] w fun e w' => (e = .returned (.string (bs (S.data.toList.map upc))) ∧ Below w.heap.size w w') := by
  obtain ⟨cap1, w4, hrun1, r1, hb4⟩ := bytes_new w S
  have B4 := Lib.hid hb4
  have R1 : Hid (ByteRow w4 w.heap.size (prog upc 0 S.data.toList)) := by rw [prog_zero]; exact r1
  clear r1 hb4
  go_enter Try.func10, Try.ntmps10
  go_wp2_with fail
  go_loopg [6] S.size (fun gk i wr => ∃ j : Nat, j + gk = S.size ∧ i = .int .i64 j ∧ Hid (ByteRow wr w.heap.size (prog upc j S.data.toList)) ∧ Hid (Below w.heap.size w wr))
  case atStart => exact ⟨0, by omega, rfl, R1, B4⟩
  case round =>
    clear R1 B4
    obtain ⟨j, hj, rfl, R, B⟩ := hrel
    by_cases hlt : j < S.size
    · have hll : j < S.data.toList.length := by rw [len_S]; exact hlt
      obtain ⟨ch, hch⟩ : ∃ c, S.data.toList[j] = c := ⟨_, rfl⟩
      have hcs : S[j] = ch := hch
      have hlj : (j : Int) < (S.size : Int) := by omega
      by_cases h1 : 120 ≤ ch.toNat ∧ ch.toNat ≤ 122
      · obtain ⟨h1a, h1b⟩ := h1
        obtain ⟨hu, hv⟩ := upc_yes h1a h1b
        have hwr : ((ch.toNat : Int) - 32) = ((ch - 32).toNat : Int) := by omega
        have c1 := R.out.at_ (c := ch) (by rw [prog_len]; exact hll) (by rw [prog_get _ hll]; exact hch)
        have f1 := R.out.free j (by rw [prog_len]; exact hll)
        have hput := R.out.put (i := j) (by rw [prog_len]; exact hll) (upc S.data.toList[j])
        rw [prog_put _ hll, hch, hu] at hput
        have R2 := Lib.hid hput
        have B2 := Lib.hid (B.out.setCell (p := ⟨w.heap.size, j, none⟩) (Nat.le_refl _) (.int .u8 ((ch - 32).toNat : Int)))
        have g1 : (120 : Int) ≤ (ch.toNat : Int) := by omega
        have g2 : (ch.toNat : Int) ≤ 122 := by omega
        clear hput hch hu hv R B
        go_wp2_with fail
        all_goals go_roundg (gk - 1)
        all_goals first | (case measure => omega) | (case rel => exact ⟨j + 1, by omega, by go_num, R2, B2⟩)
      · have R2 : Hid (ByteRow wr w.heap.size (prog upc (j + 1) S.data.toList)) := by
          rw [prog_skip _ hll (by rw [hch]; exact upc_no h1)]; exact R.out
        clear R hch
        go_wp2_with fail
        all_goals first | omega | skip
        all_goals go_roundg (gk - 1)
        all_goals first | (exact ⟨j + 1, by omega, by go_num, R2, B⟩) | omega
    · obtain rfl : j = S.size := by omega
      have r2 := R.out
      rw [Pl.prog_all _ (by rw [len_S]; exact Nat.le_refl _)] at r2
      have hback := bytes_back r2 (n := S.size) (by rw [List.length_map, len_S]) cap1
      clear R r2
      go_wp2_with fail
      go_ret
      exact ⟨rfl, B.out⟩
/-- the table of letters -/
def Tbl (w : World) (h : Nat) : Prop := h < w.heap.size ∧ ∀ c : UInt8, w.cell? ⟨h, c.toNat, none⟩ = some (.int .u8 ((upc c).toNat : Int))
theorem Tbl.below {w w' : World} {h B : Nat} (t : Tbl w h) (hb : Below B w w') (hB : h < B) : Tbl w' h := by
  refine ⟨Nat.lt_of_lt_of_le t.1 hb.size, fun c => ?_⟩
  exact (hb.cell (p := ⟨h, c.toNat, none⟩) hB).trans (t.2 c)
theorem prog_none {l : List UInt8} {f : UInt8 → UInt8} (h : prog f l.length l = l) : bs (l.map f) = bs l := by
  rw [prog_all f (Nat.le_refl _)] at h
  rw [h]
set_option maxRecDepth 100000 in
set_option maxHeartbeats 8000000 in
theorem rep_any (h : Nat) (S : ByteArray) (hS : S.size ≤ 1000000) (w : World) (hT : Tbl w h) :
    Calls Try.prog 90 #[.pointer (some ⟨h, 0, none⟩), .string S] w fun e w' => (e = .returned (.string (bs (S.data.toList.map upc))) ∧ Below w.heap.size w w') := by
  have qT : ∀ (w : World) (a : Option Addr) (n c n' c' : Nat), (binOp .eql 31 (.slice a n c) (.slice none n' c')).run Try.prog w = .ok (.bool a.isNone) w := fun w a n c n' c' => Lib.run_eql_slice_nil w _ _ a n c n' c' Try.underlying31
  have HT := Lib.hid (fun wr (hb : Below w.heap.size w wr) => hT.below hb hT.1)
  have B0 := Lib.hid (Below.refl w.heap.size w)
  have BN := Lib.hid (fun w => bytes_new w S)
  obtain ⟨R9, hR9⟩ : ∃ R, bs (S.data.toList.map upc) = R := ⟨_, rfl⟩
  rw [hR9]
  have HR9 := Lib.hid hR9
  clear hT hR9
  go_enter Try.func90, Try.ntmps90
  go_wp2_with fail
  go_loopg [5, 6] S.size (fun gk bv iv wr => ∃ j : Nat, j + gk = S.size ∧ iv = .int .i64 j ∧ Hid (Below w.heap.size w wr) ∧ ((bv = .slice none 0 0 ∧ Hid (prog upc j S.data.toList = S.data.toList)) ∨ ∃ g c, bv = .slice (some ⟨g, 0, none⟩) S.size c ∧ w.heap.size ≤ g ∧ Hid (ByteRow wr g (prog upc j S.data.toList))))
  case atStart => exact ⟨0, by omega, rfl, B0, .inl ⟨rfl, Lib.hid (prog_zero _ _)⟩⟩
  case round =>
    clear B0
    obtain ⟨j, hj, rfl, B, hcase⟩ := hrel
    by_cases hlt : j < S.size
    · have hll : j < S.data.toList.length := by rw [len_S]; exact hlt
      obtain ⟨ch, hch⟩ : ∃ c, S.data.toList[j] = c := ⟨_, rfl⟩
      have hcs : S[j] = ch := hch
      have hlj : (j : Int) < (S.size : Int) := by omega
      have TW := Lib.hid (HT.out wr B.out)
      have t1 := TW.out.2 ch
      have c256 : (ch.toNat : Int) < 256 := by have := UInt8.toNat_lt ch; omega
      by_cases h1 : 120 ≤ ch.toNat ∧ ch.toNat ≤ 122
      · obtain ⟨hu, hv⟩ := upc_yes h1.1 h1.2
        have hne : (((upc ch).toNat : Int) != (ch.toNat : Int)) = true := by rw [hu, hv]; simp; omega
        have HP : Hid ((prog upc j S.data.toList).set j (upc ch) = prog upc (j + 1) S.data.toList) := Lib.hid (by rw [← hch]; exact prog_put _ hll)
        clear hu hv h1
        obtain ⟨u, hu⟩ : ∃ u, upc ch = u := ⟨_, rfl⟩
        rw [hu] at hne t1 HP
        have HU := Lib.hid hu
        clear hu
        rcases hcase with ⟨rfl, HN⟩ | ⟨g, c, rfl, hg, R⟩
        · obtain ⟨cap1, w4, hrun1, r1, hb4⟩ := BN.out wr
          have r2 : ByteRow w4 wr.heap.size (prog upc j S.data.toList) := by rw [HN.out]; exact r1
          have B4 := Lib.hid (below_2 B.out hb4)
          have t2 : w4.cell? ⟨h, ch.toNat, none⟩ = some (.int .u8 (u.toNat : Int)) := by have := (HT.out w4 B4.out).2 ch; rw [HU.out] at this; exact this
          have c1 := r2.at_ (c := ch) (by rw [prog_len]; exact hll) (by rw [prog_get _ hll]; exact hch)
          have f1 := r2.free j (by rw [prog_len]; exact hll)
          have hput := r2.put (i := j) (by rw [prog_len]; exact hll) u
          rw [HP.out] at hput
          have R2 := Lib.hid hput
          have hsz : w.heap.size ≤ wr.heap.size := B.out.size
          have B2 := Lib.hid (B4.out.setCell (p := ⟨wr.heap.size, j, none⟩) hsz (.int .u8 (u.toNat : Int)))
          clear hput r1 r2 hb4 HN B B4 hch TW
          go_wp2_with fail
          go_roundg (gk - 1)
          case measure => omega
          case rel => exact ⟨j + 1, by omega, by go_num, B2, .inr ⟨_, _, rfl, hsz, R2⟩⟩
        · have c1 := R.out.at_ (c := ch) (by rw [prog_len]; exact hll) (by rw [prog_get _ hll]; exact hch)
          have f1 := R.out.free j (by rw [prog_len]; exact hll)
          have hput := R.out.put (i := j) (by rw [prog_len]; exact hll) u
          rw [HP.out] at hput
          have R2 := Lib.hid hput
          have B2 := Lib.hid (B.out.setCell (p := ⟨g, j, none⟩) hg (.int .u8 (u.toNat : Int)))
          clear hput R B hch TW
          go_wp2_with fail
          go_roundg (gk - 1)
          case measure => omega
          case rel => exact ⟨j + 1, by omega, by go_num, B2, .inr ⟨_, _, rfl, hg, R2⟩⟩
      · have hu := upc_no h1
        rw [hu] at t1
        have hne : ((ch.toNat : Int) != (ch.toNat : Int)) = false := by simp
        have HP : Hid (prog upc (j + 1) S.data.toList = prog upc j S.data.toList) := Lib.hid (prog_skip _ hll (by rw [hch]; exact hu))
        clear hu h1 hch TW
        rcases hcase with ⟨rfl, HN⟩ | ⟨g, c, rfl, hg, R⟩
        · go_wp2_with fail
          go_roundg (gk - 1)
          case measure => omega
          case rel => exact ⟨j + 1, by omega, by go_num, B, .inl ⟨rfl, Lib.hid (HP.out.trans HN.out)⟩⟩
        · have R2 : Hid (ByteRow wr g (prog upc (j + 1) S.data.toList)) := by rw [HP.out]; exact R.out
          go_wp2_with fail
          go_roundg (gk - 1)
          case measure => omega
          case rel => exact ⟨j + 1, by omega, by go_num, B, .inr ⟨_, _, rfl, hg, R2⟩⟩
    · obtain rfl : j = S.size := by omega
      rcases hcase with ⟨rfl, HN⟩ | ⟨g, c, rfl, hg, R⟩
      · have hs : R9 = S := by
          rw [← HR9.out, prog_none (by rw [len_S]; exact HN.out)]
          exact bs_of S
        clear HN HT BN
        go_wp2_with fail
        go_ret
        exact ⟨by rw [hs]; rfl, B.out⟩
      · have r2 := R.out
        rw [Pl.prog_all _ (by rw [len_S]; exact Nat.le_refl _)] at r2
        have hback := bytes_back r2 (n := S.size) (by rw [List.length_map, len_S]) c
        have hR : (⟨(S.data.toList.map upc).toArray⟩ : ByteArray) = R9 := HR9.out
        rw [hR] at hback
        clear R r2 HT BN hR
        go_wp2_with fail
        go_ret
        exact ⟨rfl, B.out⟩
end Go.Proofs.Ytehpmglbbalelaa
