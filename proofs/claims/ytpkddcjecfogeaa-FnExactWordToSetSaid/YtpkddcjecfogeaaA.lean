/- Counts by formula: choose, power, and the number of idempotents. -/
import Derived.Test.YtpkddcjecfogeaaCb
import Derived.Test.YtpkddcjecfogeaaW
namespace Go.Proofs.Ytpkddcjecfogeaa
open Go.Kv
set_option maxRecDepth 100000
/- impl.whole -/
/- live [0, 5, 6, 7] -/
def k121_b0 : KC := (.seq (.ops [⟨(some 8), none, .bin .lss (.t 7) (.t 6)⟩])
  (.seq (.cond (.t 8) .skip (.exit 0))
  (.seq (.block 1 (.ops [⟨(some 9), none, .mv (.t 5)⟩, ⟨(some 10), none, .mv (.t 0)⟩, ⟨(some 11), none, .bin .mul (.t 9) (.t 10)⟩, ⟨(some 5), none, .mv (.t 11)⟩]))
  (.ops [⟨(some 12), none, .bin .add (.t 7) (.c (.int .i64 1))⟩, ⟨(some 7), none, .mv (.t 12)⟩]))))
def k121 : KC := (.seq (.ops [⟨(some 4), none, .mv (.c (.int .i64 0))⟩])
  (.seq (.ops [⟨(some 5), none, .mv (.c (.int .i64 1))⟩])
  (.seq (.seq (.ops [⟨(some 6), none, .mv (.t 1)⟩, ⟨(some 7), none, .mv (.c (.int .i64 0))⟩])
  (.block 0 (.loop k121_b0)))
  (.seq (.ops [⟨(some 13), none, .mv (.t 5)⟩, ⟨(some 4), none, .mv (.t 13)⟩])
  .ret))))
theorem e121 {args : List PV} {σ : Heap} {K : PV → Heap → Prop} (hl : args.length ≤ 14) (h : Wf σ → (∀ a ∈ args, PV.upto σ.length a) → vc (mkCfg Try.prog mixed [] 14 σ.length) k121 (FinK σ.length [.t 4] K) (argEnv 0 args) σ) : ACall Try.prog 121 args σ K :=
  ACall_enter (C := mkCfg Try.prog mixed [] 14 σ.length) (c := Try.f121.body.getD .skip) Try.func121 (by kernel_rfl) (by kernel_rfl) (by kernel_rfl) rfl hl (by kernel_rfl) (by kernel_rfl) h
end Go.Proofs.Ytpkddcjecfogeaa
namespace Go.Proofs.Ytpkddcjecfogeaa
open Go.Kv
set_option linter.unusedVariables false
set_option linter.unusedSimpArgs false
attribute [local irreducible] ACall PCall KL
def ch (n : Nat) : Nat → Int
  | 0 => 1
  | i + 1 => ch n i * ((n : Int) - i) / ((i : Int) + 1)
theorem ch_bound : ∀ n < 13, ∀ i < 13, i ≤ n → 1 ≤ ch n i ∧ ch n i ≤ 1000 := by decide
theorem pow_bound : ∀ b < 13, ∀ i < 13, 0 ≤ ((b : Nat) : Int) ^ i ∧ ((b : Nat) : Int) ^ i ≤ 10000000000000 := by decide
theorem p121 (b k : Nat) (hb : b ≤ 12) (hk : k ≤ 12) : Pure Try.prog 121 [.int .i64 b, .int .i64 k] (.int .i64 ((b : Int) ^ k)) := by
  refine e121 (by simp) fun _ _ => ?_
  simp only [k121, argEnv, go_sem, ↓reduceIte, Nat.reduceEqDiff, Nat.reduceAdd, reduceCtorEq]
  refine KL_ind k121_b0.eq_1 (fun x : Nat => [(7, .int .i64 x), (5, .int .i64 ((b : Int) ^ x)), (0, .int .i64 b), (6, .int .i64 k)]) (fun _ => []) (fun x => x ≤ k) (fun x => k - x) [7, 5, 0, 6] 0 rfl rfl (Nat.zero_le _) fun x hi ih => ?_
  have h1 := pow_bound b (by omega) x (by omega)
  simp only [go_sem, ↓reduceIte, Nat.reduceEqDiff, Nat.reduceAdd, reduceCtorEq]
  refine ⟨fun h => ?_, fun h => ?_⟩
  · have h2 := pow_bound b (by omega) (x + 1) (by omega)
    rw [Int.pow_succ] at h2
    refine ⟨by omega, by omega, ?_⟩
    exact ih (x + 1) (by omega) (by omega) _ _ rfl rfl
  · obtain rfl : x = k := by omega
    exact Kv.Fin.now ⟨rfl, rfl⟩

def si (n : Nat) : Nat → Int
  | 0 => 0
  | k + 1 => si n k + ch n (k + 1) * (((k + 1 : Nat) : Int) ^ (n - (k + 1)))
theorem si_bound : ∀ n < 13, ∀ i < 13, i ≤ n → 0 ≤ si n i ∧ si n i ≤ 100000000000000 := by decide
theorem term_bound : ∀ n < 13, ∀ i < 13, i ≤ n → 0 ≤ ch n i * ((i : Int) ^ (n - i)) ∧ ch n i * ((i : Int) ^ (n - i)) ≤ 100000000000000 := by decide
def cnt (a : Int) : Int := if 1 ≤ a ∧ a ≤ 12 then si a.toNat a.toNat else 0
def cerr (a : Int) : Int := if 1 ≤ a ∧ a ≤ 12 then 0 else 2
theorem plain2 (a b : Int) : Plain (.tup [.int .i64 a, .int .i64 b]) := .tup fun c hc => by
  simp only [List.mem_cons, List.not_mem_nil, or_false] at hc
  rcases hc with rfl | rfl <;> exact .int _ _
end Go.Proofs.Ytpkddcjecfogeaa
