/- The walk of the law FnFormatDerivation. -/
import Derived.Test.YtndlhdmpfnadcaaGreatDoorGs
import Derived.Test.YtndlhdmpfnadcaaGreatDoorLxc
namespace Go.Proofs.YtndlhdmpfnadcaaGreatDoor.fnFormatDerivation
open Go.RowKit
open Pl
set_option linter.unusedVariables false
theorem dec_plain : ∀ (u : Nat), ∀ c ∈ Lib.decDigits u, c ≠ 32 ∧ c ≠ 44 := by
  intro u
  induction u using Nat.strongRecOn with
  | _ u ih =>
    intro c hc
    rw [Lib.decDigits] at hc
    split at hc
    · rename_i h
      simp only [List.mem_singleton] at hc
      subst hc
      exact ⟨fun e => by have := congrArg UInt8.toNat e; simp at this; omega, fun e => by have := congrArg UInt8.toNat e; simp at this; omega⟩
    · rename_i h
      rcases List.mem_append.1 hc with hc | hc
      · exact ih _ (by omega) c hc
      · simp only [List.mem_singleton] at hc
        subst hc
        exact ⟨fun e => by have := congrArg UInt8.toNat e; simp at this; omega, fun e => by have := congrArg UInt8.toNat e; simp at this; omega⟩
theorem itoa_plain (z : Int) : ∀ c ∈ Lib.itoa z, c ≠ 32 ∧ c ≠ 44 := by
  intro c hc
  unfold Lib.itoa at hc
  split at hc
  · rcases List.mem_cons.1 hc with rfl | hc
    · decide
    · exact dec_plain _ c hc
  · exact dec_plain _ c hc
theorem count_none {l : List UInt8} {c : UInt8} (h : ∀ x ∈ l, x ≠ c) : l.count c = 0 := List.count_eq_zero.2 (fun hm => h c hm rfl)
theorem rf_count {x : LnD} (h : x.R.data.toList.all (fun c => c != 32 && c != 44) = true) : ∀ k, (rfT x k).count 32 = 0 ∧ (rfT x k).count 44 = k
  | 0 => by
    rw [rfT_zero]
    have hp : ∀ c ∈ x.R.data.toList, c ≠ 32 ∧ c ≠ 44 := fun c hc => by have := List.all_eq_true.1 h c hc; simpa using this
    exact ⟨count_none (fun c hc => (hp c hc).1), count_none (fun c hc => (hp c hc).2)⟩
  | k + 1 => by
    have ih := rf_count h k
    have i1 : (Lib.itoa (x.z k)).count 32 = 0 := count_none (fun c hc => (itoa_plain _ c hc).1)
    have i2 : (Lib.itoa (x.z k)).count 44 = 0 := count_none (fun c hc => (itoa_plain _ c hc).2)
    rw [rfT_succ, List.count_append, List.count_append, List.count_cons, List.count_cons, i1, i2, ih.1, ih.2]
    simp
/-- all numbers of the first lines -/
def refsN (L : Nat → LnD) : Nat → Nat
  | 0 => 0
  | i + 1 => refsN L i + (L i).n
theorem acc_count {L : Nat → LnD} {n : Nat} (h : ∀ i, i < n → (L i).R.data.toList.all (fun c => c != 32 && c != 44) = true) : ∀ i, i ≤ n → (accT L i).count 32 = i - 1 ∧ (accT L i).count 44 = refsN L i
  | 0, _ => by simp [accT, refsN]
  | i + 1, hi => by
    have ih := acc_count h i (by omega)
    have hl := rf_count (h i (by omega)) (L i).n
    simp only [accT, refsN]
    unfold lineT
    split
    · rename_i h0
      subst h0
      rw [List.nil_append, hl.1, hl.2]
      simp [refsN]
    · rw [List.count_append, List.count_append, List.count_append, List.count_append, hl.1, hl.2, ih.1, ih.2]
      constructor
      · simp; omega
      · simp
theorem fd_count {L : Nat → LnD} {n : Nat} (h : ∀ i, i < n → (L i).R.data.toList.all (fun c => c != 32 && c != 44) = true) : (fdT L n).count 32 = n - 1 ∧ (fdT L n).count 44 = refsN L n := by
  unfold fdT
  split
  · rename_i h0; subst h0; exact ⟨rfl, rfl⟩
  · exact acc_count h n (Nat.le_refl _)
theorem refs_most {L : Nat → LnD} {n : Nat} (h : ∀ i, i < n → (L i).n ≤ 1000) : ∀ i, i ≤ n → refsN L i ≤ i * 1000
  | 0, _ => Nat.le_refl _
  | i + 1, hi => by
    have ih := refs_most h i (by omega)
    have := h i (by omega)
    simp only [refsN]
    omega
theorem count_take {l : List UInt8} {j : Nat} (h : j < l.length) (c : UInt8) : (l.take (j + 1)).count c = (l.take j).count c + (if l[j] = c then 1 else 0) := by
  rw [List.take_succ_eq_append_getElem h, List.count_append, List.count_singleton]
  simp
set_option maxRecDepth 100000 in
set_option maxHeartbeats 16000000 in
theorem walk (a0 : Option Addr) (len0 cap0 : Nat) (w : World) (hb0 : Bytes w a0 len0 w.heap.size) (hl0 : len0 ≤ cap0) (hc0 : cap0 ≤ 9223372036854775807) (htab : Tab w) :
    Calls Tryz.prog 3 #[.slice a0 len0 cap0] w fun e w' => e = .returned (.bool true) ∧ Below w.heap.size w w' := by
  by_cases hbig : 1048576 < len0
  · clear hb0 htab
    go_enter Tryz.func3, Tryz.ntmps3
    go_wp2_with fail
    go_ret
    exact ⟨rfl, by first | exact Below.refl _ _ | exact below_n _ _ | exact (below_n _ _).alloc (by simp) _⟩
  have D := Lib.hid (DrawFormatDerivation_any a0 len0 cap0 w (by omega) hl0 hb0)
  have T0 := Lib.hid htab
  clear hb0 htab
  go_enter Tryz.func3, Tryz.ntmps3
  go_wp2_with fail
  refine D.out.mono ?_
  rintro e w1 ⟨s, n, c, L, rfl, hol, hav, _, hn2, hb1⟩
  obtain ⟨s', c', e', hnc, hcm, _⟩ := hol.form
  cases e'
  have hok : ∀ i, i < n → okD (L i) := fun i hi => by have x := hol.ln i hi; exact ⟨by have := x.szR.1; omega, by have := x.szn; omega, x.z⟩
  have hct := fd_count (fun i hi => (hol.ln i hi).szR.2)
  have hrm := refs_most (fun i hi => (hol.ln i hi).szn) n (Nat.le_refl _)
  have HN : Hid (∀ i, i < n → (L i).n ≤ (L i).c ∧ (L i).n ≤ 1000) := Lib.hid (fun i hi => ⟨(hol.ln i hi).cap, (hol.ln i hi).szn⟩)
  have HR : Hid (∀ i, i ≤ n → refsN L i ≤ i * 1000) := Lib.hid (refs_most (fun i hi => (hol.ln i hi).szn))
  have hlen : (fdT L n).length ≤ 1 + n * 23068673 := by
    unfold fdT
    split
    · simp
    · have := accT_len hok n (Nat.le_refl _); omega
  have CI := Lib.hid (FormatDerivation_any s n c L (by omega) hnc hok w1 hol.lr (T0.out.below hb1))
  have CS := Lib.hid (fun W hI => FormatDerivationS_any s n c L (by omega) hnc hok W hI)
  have I1 := Lib.hid hol.lr
  have B1 := Lib.hid hb1
  obtain ⟨tx, htx⟩ : ∃ t, fdT L n = t := ⟨_, rfl⟩
  have h45 : n = 0 → tx = [45] := fun e => by rw [← htx, e]; rfl
  rw [htx] at CI CS hct hlen
  obtain ⟨X, hX⟩ : ∃ X, bs tx = X := ⟨_, rfl⟩
  rw [hX] at CI CS
  have hXl : X.data.toList = tx := by rw [← hX, bs_list]
  have hXz : X.size = tx.length := by rw [← hX, bs_size]
  have q1 : (X.toList != X.toList) = false := by simp
  obtain ⟨rf, hrf⟩ : ∃ r, refsN L n = r := ⟨_, rfl⟩
  rw [hrf] at hct hrm
  have HC := Lib.hid hct
  have HX := Lib.hid hXl
  have HXZ := Lib.hid hXz
  have H45 := Lib.hid h45
  have HRF := Lib.hid hrf
  have hzb : X.size ≤ 100000000000 := by omega
  clear D hol hav hb1 hok hct htx hX hXl hXz h45 hrf hlen T0
  go_wp2_with fail
  refine CI.out.mono ?_
  rintro e w2 ⟨rfl, hb⟩
  have I2 := Lib.hid (I1.out.call hb)
  have B2 := Lib.hid (below_2 B1.out hb)
  clear hb I1 B1 CI
  go_wp2_with fail
  refine (CS.out _ I2.out).mono ?_
  rintro e w3 ⟨rfl, hb⟩
  have I3 := Lib.hid (I2.out.call hb)
  have B3 := Lib.hid (below_2 B2.out hb)
  clear hb I2 B2 CS
  go_wp2_with fail
  go_loopg [5, 6, 7] X.size (fun gk xv yv sv wr => ∃ a p q : Nat, a + gk = X.size ∧ xv = .int .i64 p ∧ yv = .int .i64 q ∧ sv = .int .i64 a ∧ p ≤ a ∧ q ≤ a ∧ Hid ((tx.take a).count 32 = p ∧ (tx.take a).count 44 = q) ∧ Hid (w3 = wr))
  case atStart => exact ⟨0, 0, 0, by omega, rfl, rfl, rfl, Nat.le_refl _, Nat.le_refl _, Lib.hid ⟨by simp, by simp⟩, Lib.hid rfl⟩
  case round =>
    obtain ⟨a, p, q, ha, rfl, rfl, rfl, hp, hq, HCT, HW⟩ := hrel
    by_cases hla : a < X.size
    · have hxa : (a : Int) < (X.size : Int) := by omega
      obtain ⟨cc, hcc⟩ : ∃ cc, X[a] = cc := ⟨_, rfl⟩
      have htl : a < tx.length := by have := HXZ.out; omega
      have hget : tx[a] = cc := by have := HX.out; subst this; rw [← hcc]; rfl
      have h32 := count_take htl 32
      have h44 := count_take htl 44
      rw [hget, HCT.out.1] at h32
      rw [hget, HCT.out.2] at h44
      by_cases e1 : cc = 32
      · have b1 : (((cc.toNat : Int)) == 32) = true := by rw [e1]; rfl
        have b2 : (((cc.toNat : Int)) == 44) = false := by rw [e1]; rfl
        have HN2 : Hid ((tx.take (a + 1)).count 32 = p + 1 ∧ (tx.take (a + 1)).count 44 = q) := Lib.hid ⟨by rw [h32, if_pos e1], by rw [h44, if_neg (by rw [e1]; decide)]; rfl⟩
        clear h32 h44 e1 hget htl HCT
        go_wp2_with fail
        go_roundg (gk - 1)
        case measure => omega
        case rel => exact ⟨a + 1, p + 1, q, by omega, by go_num, by go_num, by go_num, by omega, by omega, HN2, HW⟩
      · by_cases e2 : cc = 44
        · have b1 : (((cc.toNat : Int)) == 32) = false := by rw [e2]; rfl
          have b2 : (((cc.toNat : Int)) == 44) = true := by rw [e2]; rfl
          have HN2 : Hid ((tx.take (a + 1)).count 32 = p ∧ (tx.take (a + 1)).count 44 = q + 1) := Lib.hid ⟨by rw [h32, if_neg (by rw [e2]; decide)]; rfl, by rw [h44, if_pos e2]⟩
          clear h32 h44 e1 e2 hget htl HCT
          go_wp2_with fail
          go_roundg (gk - 1)
          case measure => omega
          case rel => exact ⟨a + 1, p, q + 1, by omega, by go_num, by go_num, by go_num, by omega, by omega, HN2, HW⟩
        · have b1 : (((cc.toNat : Int)) == 32) = false := by simp; intro e; exact e1 (UInt8.toNat_inj.1 (by simpa using (by omega : cc.toNat = 32)))
          have b2 : (((cc.toNat : Int)) == 44) = false := by simp; intro e; exact e2 (UInt8.toNat_inj.1 (by simpa using (by omega : cc.toNat = 44)))
          have HN2 : Hid ((tx.take (a + 1)).count 32 = p ∧ (tx.take (a + 1)).count 44 = q) := Lib.hid ⟨by rw [h32, if_neg e1]; rfl, by rw [h44, if_neg e2]; rfl⟩
          clear h32 h44 e1 e2 hget htl HCT
          go_wp2_with fail
          go_roundg (gk - 1)
          case measure => omega
          case rel => exact ⟨a + 1, p, q, by omega, by go_num, by go_num, by go_num, by omega, by omega, HN2, HW⟩
    · obtain rfl : a = X.size := by omega
      have hfull : tx.take X.size = tx := by rw [HXZ.out]; exact List.take_length
      have h32 : p = n - 1 := by have := HCT.out.1; rw [hfull, HC.out.1] at this; omega
      have h44 : q = rf := by have := HCT.out.2; rw [hfull, HC.out.2] at this; omega
      subst h32 h44
      obtain rfl := HW.out
      clear HCT HC hfull HW hp hq
      go_wp2_with fail
      go_loopg [8, 9] n (fun gk xv sv wr => ∃ a m : Nat, a + gk = n ∧ xv = .int .i64 m ∧ sv = .int .i64 a ∧ m ≤ a * 1000 ∧ Hid (refsN L a = m) ∧ Hid (w3 = wr))
      case atStart => exact ⟨0, 0, by omega, rfl, rfl, by omega, Lib.hid rfl, Lib.hid rfl⟩
      case round =>
        obtain ⟨a, m, ha2, rfl, rfl, hm, HM, HW⟩ := hrel
        obtain rfl := HW.out
        by_cases hlb : a < n
        · have hxb : (a : Int) < (n : Int) := by omega
          have hdb : decide ((a : Int) < (n : Int)) = true := decide_eq_true hxb
          rcases I3.out with h0 | ⟨b, off, rfl, hlt, hcell⟩
          · omega
          have d5 := (hcell a hlb).1.2.2.2.2.2
          have hnn := HN.out a hlb
          have HM2 : Hid (refsN L (a + 1) = m + (L a).n) := Lib.hid (by simp only [refsN]; rw [HM.out])
          clear hcell
          generalize (L a).n = rn at *
          generalize (L a).c = rc at *
          generalize (L a).s = rs at *
          go_wp2_with fail
          go_roundg (gk - 1)
          case measure => omega
          case rel => exact ⟨a + 1, m + rn, by omega, by go_num, by go_num, by omega, HM2, Lib.hid rfl⟩
        · obtain rfl : n = a := by omega
          obtain rfl : m = q := by have h := HM.out; rw [HRF.out] at h; exact h.symm
          clear HM
          have hx2 : (X.toList == ([45] : List UInt8)) = (tx == ([45] : List UInt8)) := by rw [ByteArray.toList_eq, HX.out]
          by_cases hn0 : n = 0
          · have h45 := H45.out hn0
            have b1 : (X.toList == ([45] : List UInt8)) = true := by rw [hx2, h45]; rfl
            have b2 : decide ((0 : Int) < (n : Int)) = false := by simp; omega
            have b3 : ((max ((n : Int) - 1) 0) : Int) = ((n - 1 : Nat) : Int) := by omega
            have b5 : ¬ ((0 : Int) < (n : Int)) := by omega
            clear hx2 h45 hn0 hm
            go_wp2_with fail
            go_ret
            exact ⟨ret_bool (by first | rfl | simp), B3.out⟩
          · have b2 : decide ((0 : Int) < (n : Int)) = true := by simp; omega
            have b3 : ((max ((n : Int) - 1) 0) : Int) = ((n - 1 : Nat) : Int) := by omega
            have b5 : (0 : Int) < (n : Int) := by omega
            clear hx2
            go_wp2_with fail
            go_ret
            exact ⟨ret_bool (by first | rfl | simp), B3.out⟩

end Go.Proofs.YtndlhdmpfnadcaaGreatDoor.fnFormatDerivation
