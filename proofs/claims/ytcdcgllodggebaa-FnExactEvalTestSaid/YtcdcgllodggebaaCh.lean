/- Steps of a chain of calls, blocks laid between them. -/
import Derived.Test.YtcdcgllodggebaaEvd
namespace Go.Proofs.Ytcdcgllodggebaa
open Go.RowKit
open Pl

theorem below_a1 {w a c : World} {o : Obj} (h1 : Below w.heap.size w a) (h2 : Below (a.alloc o).heap.size (a.alloc o) c) : Below w.heap.size w c :=
  below_2 (h1.alloc h1.size o) h2
theorem below_a2 {w a c : World} {o o' : Obj} (h1 : Below w.heap.size w a) (h2 : Below ((a.alloc o).alloc o').heap.size ((a.alloc o).alloc o') c) : Below w.heap.size w c :=
  below_a1 (h1.alloc h1.size o) h2
theorem below_a3 {w a c : World} {o o' o'' : Obj} (h1 : Below w.heap.size w a) (h2 : Below (((a.alloc o).alloc o').alloc o'').heap.size (((a.alloc o).alloc o').alloc o'') c) : Below w.heap.size w c :=
  below_a2 (h1.alloc h1.size o) h2
theorem below_q {w a : World} (h1 : Below w.heap.size w a) (n : Nat) : Below w.heap.size w (a.drewN n) := h1.trans (below_drewN _ _ _)
theorem below_drew (B : Nat) (w : World) : Below B w w.drew := ⟨rfl, rfl, rfl, Nat.le_refl _, fun _ _ => rfl⟩
theorem drew_cell (w : World) (a : Addr) : w.drew.cell? a = w.cell? a := rfl
theorem below_n (w : World) (o : Obj) : Below w.heap.size w (w.alloc o) := (Below.refl _ _).alloc (Nat.le_refl _) o

set_option maxHeartbeats 1000000 in
theorem toState_any (x y z : Int) (w : World) : Calls Try.prog 47 #[.agg #[.int .i64 x, .int .i64 y, .int .i64 z]] w fun e w' =>
    (e = .returned (.agg #[.int .i64 x, .int .i64 y, .int .i64 z]) ∧ Below w.heap.size w w') := by
  go_enter Try.func47, Try.ntmps47
  go_wp2_with fail
  exact bodyPost_ret (v := .agg #[.int .i64 x, .int .i64 y, .int .i64 z]) (by simp [results, Try.results47, go_sem]) rfl
    ⟨rfl, (((Below.refl _ _).alloc (Nat.le_refl _) _).alloc (by simp) _).alloc (by simp; omega) _⟩

end Go.Proofs.Ytcdcgllodggebaa
