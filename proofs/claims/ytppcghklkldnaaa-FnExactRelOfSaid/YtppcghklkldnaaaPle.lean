/- Plain: a value depends on the letters of its text alone; which variables occur; another value of a variable. -/
import Derived.Test.YtppcghklkldnaaaPlb
namespace Go.Proofs.Ytppcghklkldnaaa
namespace Pl

theorem val_congr {ρ σ : UInt8 → Int} : ∀ {k : Nd}, (∀ c ∈ k.text, ρ c = σ c) → val ρ k = val σ k := by
  intro k
  induction k with
  | n0 c => intro h; simp only [val, h c (by simp [Nd.text])]
  | n2 o a b ha hb =>
    intro h
    have h1 := ha (fun c hc => h c (by simp [Nd.text, hc]))
    have h2 := hb (fun c hc => h c (by simp [Nd.text, hc]))
    simp only [val, h1, h2]
  | n1 | n3 => intro _; rfl
theorem tru_congr {ρ σ : UInt8 → Int} : ∀ {k : Nd}, (∀ c ∈ k.text, ρ c = σ c) → tru ρ k = tru σ k := by
  intro k
  induction k with
  | n0 c => intro _; rfl
  | n1 o a ha =>
    intro h
    simp only [tru, ha (fun c hc => h c (by simp [Nd.text, hc]))]
  | n2 o a b ha hb =>
    intro h
    have h1 := ha (fun c hc => h c (by simp [Nd.text, hc]))
    have h2 := hb (fun c hc => h c (by simp [Nd.text, hc]))
    have h3 := val_congr (ρ := ρ) (σ := σ) (k := a) (fun c hc => h c (by simp [Nd.text, hc]))
    have h4 := val_congr (ρ := ρ) (σ := σ) (k := b) (fun c hc => h c (by simp [Nd.text, hc]))
    simp only [tru, h1, h2, h3, h4]
  | n3 => intro _; rfl

/-- the names that occur in a text, in order -/
def vars (ns l : List UInt8) : List UInt8 := ns.filter (fun c => decide (c ∈ l))
theorem mem_vars {ns l : List UInt8} {c : UInt8} : c ∈ vars ns l ↔ c ∈ ns ∧ c ∈ l := by simp [vars]
theorem vars_len {ns l : List UInt8} : (vars ns l).length ≤ ns.length := List.length_filter_le _ _
theorem vars_snoc {ns l : List UInt8} {k : Nat} (h : k < ns.length) : vars (ns.take (k + 1)) l = vars (ns.take k) l ++ (if ns[k] ∈ l then [ns[k]] else []) := by
  rw [List.take_succ_eq_append_getElem h]
  simp only [vars, List.filter_append]
  congr 1
  by_cases hm : ns[k] ∈ l <;> simp [hm]

/-- another value of a variable -/
def put1 (c a : UInt8) (n x : Int) : Int := if c = a then n else x
theorem envOf_put {x y z n : Int} {c d : UInt8} (hc : c ∈ nmsN) (hd : d ≠ c) : envOf (put1 c 120 n x) (put1 c 121 n y) (put1 c 122 n z) 0 0 0 d = envOf x y z 0 0 0 d := by
  simp only [nmsN, List.mem_cons, List.not_mem_nil, or_false] at hc
  rcases hc with rfl | rfl | rfl <;> simp [envOf, put1, hd]
theorem envOf_put_self {x y z n : Int} {c : UInt8} (hc : c ∈ nmsN) : envOf (put1 c 120 n x) (put1 c 121 n y) (put1 c 122 n z) 0 0 0 c = n := by
  simp only [nmsN, List.mem_cons, List.not_mem_nil, or_false] at hc
  rcases hc with rfl | rfl | rfl <;> simp [envOf, put1]
theorem put1_small {c a : UInt8} {n x : Int} (hn : small n) (hx : small x) : small (put1 c a n x) := by
  unfold put1; split <;> assumption
theorem val_put {x y z n : Int} {c : UInt8} {k : Nd} (hc : c ∈ nmsN) (h : c ∉ k.text) : val (envOf (put1 c 120 n x) (put1 c 121 n y) (put1 c 122 n z) 0 0 0) k = val (envOf x y z 0 0 0) k :=
  val_congr fun _ hd => envOf_put hc (fun e => h (e ▸ hd))
theorem tru_put {x y z n : Int} {c : UInt8} {k : Nd} (hc : c ∈ nmsN) (h : c ∉ k.text) : tru (envOf (put1 c 120 n x) (put1 c 121 n y) (put1 c 122 n z) 0 0 0) k = tru (envOf x y z 0 0 0) k :=
  tru_congr fun _ hd => envOf_put hc (fun e => h (e ▸ hd))

end Pl
end Go.Proofs.Ytppcghklkldnaaa
