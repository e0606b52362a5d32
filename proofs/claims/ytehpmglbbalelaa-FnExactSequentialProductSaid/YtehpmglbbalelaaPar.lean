/- The program's parse and what is built on it: the node of a whole text, or nil. -/
import Derived.Test.YtehpmglbbalelaaRd
import Derived.Test.YtehpmglbbalelaaGa
namespace Go.Proofs.Ytehpmglbbalelaa
open Go.RowKit
open Pl

def ParsePost (w : World) (o : Option Nd) (e : Ending) (w' : World) : Prop :=
  Below w.heap.size w w' ∧ match o with
  | none => e = .returned (.pointer none)
  | some k => ∃ b, e = .returned (.pointer (some ⟨b, 0, none⟩)) ∧ In w' k b
def full (o : Option (Nd × List UInt8)) : Option Nd :=
  match o with
  | some (k, []) => some k
  | _ => none
theorem parsePost_none {w w' : World} {o : Option Nd} {e : Ending} (ho : o = none) (he : e = .returned (.pointer none)) (hb : Below w.heap.size w w') : ParsePost w o e w' := by
  subst ho; exact ⟨hb, he⟩

set_option maxHeartbeats 2000000 in
theorem parse_any (S : ByteArray) (hS : S.size ≤ 1000000000000) (so : Nat) (z : Int) (hz : z = so) (hso : so ≤ 2) (wd : Bool) (most : Nat) (y : Int) (hy : y = most) (hm : most ≤ 1000) (w : World) :
    Calls Try.prog 22 #[.string S, .int .i64 z, .bool wd, .int .i64 y] w (ParsePost w (whole wd so most S.data.toList)) := by
  have hlen := len_S S
  by_cases hbig : most < S.size
  · have ho : whole wd so most S.data.toList = none := by unfold whole; rw [if_neg (by omega)]
    have HO := Lib.hid ho
    have q : y < S.size := by omega
    clear hz hy hlen ho hm
    go_enter Try.func22, Try.ntmps22
    go_wp2_with fail
    go_ret
    exact parsePost_none HO.out rfl (Below.refl _ _)
  · have q : ¬ y < S.size := by omega
    obtain ⟨o1, ho1⟩ : ∃ o1, rd wd S.size so (S.data.toList.drop 0) = o1 := ⟨_, rfl⟩
    have R := Lib.hid (fun (w : World) hr => read_any S (by omega) wd w.heap.size S.size so 0 z (w.alloc (.cells #[.string S, .int .i64 0, .bool wd] 59)) hz hso (by omega) (by omega) hr)
    have hw : whole wd so most S.data.toList = full o1 := by
      unfold whole
      rw [if_pos (by omega), hlen, ← ho1]
      rfl
    rw [hw]
    rw [ho1] at R
    clear hw ho1 hz hy hm hlen
    go_enter Try.func22, Try.ntmps22
    go_wp2_with fail
    refine (R.out w (by simpa using Blk.new w _ _)).mono ?_
    rintro e w' ⟨hg, hpost⟩
    have hb : Below w.heap.size w w' := ((Below.refl _ _).alloc (Nat.le_refl _) _).trans (below_of_grown hg w.heap.size (by simp) (fun g e => by injection e with e; omega))
    cases o1 with
    | none =>
      obtain rfl := hpost
      go_wp2_with fail
      go_ret
      exact parsePost_none rfl rfl hb
    | some kr =>
      obtain ⟨k, r⟩ := kr
      obtain ⟨b, q2, rfl, hin, hq2, hr2, hrd⟩ := hpost
      have d1 := hrd.cell 1
      simp at d1
      by_cases hend : q2 = S.size
      · subst hend
        have hr : r = [] := by rw [← hr2, List.drop_of_length_le (by rw [len_S]; exact Nat.le_refl _)]
        subst hr
        have HI := Lib.hid hin.in_
        clear hr2 hin hrd hg R
        go_wp2_with fail
        go_ret
        exact ⟨hb, b, rfl, HI.out⟩
      · have hr : ∃ x t, r = x :: t := by
          cases r with
          | nil =>
            have := congrArg List.length hr2
            rw [List.length_drop, len_S] at this
            simp at this
            omega
          | cons x t => exact ⟨x, t, rfl⟩
        obtain ⟨x, t, rfl⟩ := hr
        have hne : ((q2 : Int) == (S.size : Int)) = false := by simp; omega
        clear hr2 hin hrd hg R hend
        go_wp2_with fail
        go_ret
        exact parsePost_none rfl rfl hb

set_option maxHeartbeats 1000000 in
theorem parseProg_any (S : ByteArray) (hS : S.size ≤ 1000000000000) (w : World) : Calls Try.prog 15 #[.string S] w (ParsePost w (whole false 2 200 S.data.toList)) := by
  have R := Lib.hid (parse_any S hS 2 2 rfl (by omega) false 200 200 rfl (by omega))
  obtain ⟨o, ho⟩ : ∃ o, whole false 2 200 S.data.toList = o := ⟨_, rfl⟩
  rw [ho] at R ⊢
  clear ho
  go_enter Try.func15, Try.ntmps15
  go_wp2_with fail
  refine (R.out _).mono ?_
  intro e w' hp
  clear R
  cases o with
  | none =>
    obtain ⟨hb, rfl⟩ := hp
    go_wp2_with fail
    go_ret
    exact ⟨hb, rfl⟩
  | some k =>
    obtain ⟨hb, b, rfl, hin⟩ := hp
    have HI := Lib.hid hin
    clear hin
    go_wp2_with fail
    go_ret
    exact ⟨hb, b, rfl, HI.out⟩

set_option maxHeartbeats 1000000 in
theorem ProgramValid_any (S : ByteArray) (hS : S.size ≤ 1000000000000) (w : World) : Calls Try.prog 11 #[.string S] w fun e w' => (e = .returned (.bool (whole false 2 200 S.data.toList).isSome) ∧ Below w.heap.size w w') := by
  have R := Lib.hid (parseProg_any S hS)
  obtain ⟨o, ho⟩ : ∃ o, whole false 2 200 S.data.toList = o := ⟨_, rfl⟩
  rw [ho] at R ⊢
  clear ho
  go_enter Try.func11, Try.ntmps11
  go_wp2_with fail
  refine (R.out _).mono ?_
  intro e w' hp
  clear R
  cases o with
  | none =>
    obtain ⟨hb, rfl⟩ := hp
    go_wp2_with fail
    go_ret
    exact ⟨rfl, hb⟩
  | some k =>
    obtain ⟨hb, b, rfl, hin⟩ := hp
    clear hin
    go_wp2_with fail
    go_ret
    exact ⟨rfl, hb⟩

end Go.Proofs.Ytehpmglbbalelaa
