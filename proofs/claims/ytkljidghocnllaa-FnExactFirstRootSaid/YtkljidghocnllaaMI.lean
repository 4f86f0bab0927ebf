/- Maps: cyclic points, ends, cycles, powers, images. -/
import Derived.Test.YtkljidghocnllaaMIc
import Derived.Test.YtkljidghocnllaaMA
import Derived.Test.YtkljidghocnllaaIt
import Derived.Test.YtkljidghocnllaaFC
import Derived.Test.YtkljidghocnllaaSq
namespace Go.Proofs.Ytkljidghocnllaa
open Go.Kv
set_option linter.unusedVariables false
set_option linter.unusedSimpArgs false
attribute [local irreducible] ACall PCall KL
/-- The first steps from p. -/
def its (f : List Nat) (p m : Nat) : List Int := (List.range m).map fun k => (it f k p : Int)
@[simp] theorem its_length (f : List Nat) (p m : Nat) : (its f p m).length = m := by simp [its]
theorem its_succ (f : List Nat) (p m : Nat) : its f p m ++ [(it f m p : Int)] = its f p (m + 1) := by simp [its, List.range_succ]
/-- The least of the first ones. -/
def mnl (l : List Int) : Nat → Int
  | 0 => l.getD 0 0
  | x + 1 => min (mnl l x) (l.getD (x + 1) 0)
theorem mnl_its (f : List Nat) (p m : Nat) : ∀ x, x < m → mnl (its f p m) x = (lo f p x : Int)
  | 0, h => by simp [mnl, its, lo, h, it]
  | x + 1, h => by
    have e : (its f p m).getD (x + 1) 0 = (it f (x + 1) p : Int) := by simp [its, h]
    simp only [mnl, lo, mnl_its f p m x (by omega), e]
    omega
theorem p60 (f : List Nat) (n k : Nat) (hf : Ok f n) (hk : k ≤ 1000000000000) : Pure Try.prog 60 [.agg (ints (mp f)), .int .i64 k] (.agg (ints (mp (itM f n k)))) := by
  have hlf := hf.mp_len
  have hli := (Ok.idn hf.pos hf.le).mp_len
  refine e60 (by simp) fun _ _ => ?_
  simp only [k60, argEnv, hlf, hf.len, take6, List.drop_zero, Int.cast_ofNat_Int, go_sem, ↓reduceIte, Nat.reduceEqDiff, Nat.reduceAdd, Nat.reduceMul, Nat.reduceLeDiff, Nat.reduceLT, Int.reduceLE, Int.reduceLT, reduceCtorEq]
  refine (p75 n hf.pos hf.le).go ?_
  try simp only [hli, take6, List.drop_zero, Int.cast_ofNat_Int, go_sem, ↓reduceIte, Nat.reduceEqDiff, Nat.reduceAdd, Nat.reduceMul, Nat.reduceLeDiff, Nat.reduceLT, Int.reduceLE, Int.reduceLT, reduceCtorEq]
  refine KL_ind k60_b0.eq_1 (fun x : Nat × Nat × Nat => [(1, .int .i64 x.1), (2, .ptr 0 0), (4, .ptr 1 0), (5, .ptr 2 0)]) (fun x => [.box (ints (mp (itM f n x.2.2))), .box (ints [0, 0, 0, 0, 0, 0]), .box (ints (mp (itM f n x.2.1)))]) (fun x => x.1 ≤ 1000000000000 ∧ x.2.1 + x.2.2 * x.1 = k) (fun x => x.1) [1, 2, 4, 5] (k, 0, 1) (by rfl) (by rw [itM_zero, itM_one hf]; rfl) ⟨hk, by simp⟩ fun ⟨x, a, b⟩ ⟨hx, hab⟩ ih => ?_
  simp only at hx hab
  have hla := (itM_ok hf a).mp_len
  have hlb := (itM_ok hf b).mp_len
  have hlbb := (itM_ok hf (b + b)).mp_len
  have hlab := (itM_ok hf (a + b)).mp_len
  have h1 := p99 _ _ n (itM_ok hf b) (itM_ok hf b)
  have h2 := p99 _ _ n (itM_ok hf a) (itM_ok hf b)
  rw [itM_mul hf] at h1 h2
  try simp only [hla, hlb, take6, List.drop_zero, Int.cast_ofNat_Int, go_sem, ↓reduceIte, Nat.reduceEqDiff, Nat.reduceAdd, Nat.reduceMul, Nat.reduceLeDiff, Nat.reduceLT, Int.reduceLE, Int.reduceLT, reduceCtorEq]
  refine ⟨fun h3 => ⟨fun h4 => ?_, fun h4 => ?_⟩, fun h3 => ?_⟩
  · refine h2.go ?_
    try simp only [hla, hlb, hlab, take6, List.drop_zero, Int.cast_ofNat_Int, go_sem, ↓reduceIte, Nat.reduceEqDiff, Nat.reduceAdd, Nat.reduceMul, Nat.reduceLeDiff, Nat.reduceLT, Int.reduceLE, Int.reduceLT, reduceCtorEq]
    refine h1.go ?_
    try simp only [hlb, hlbb, take6, List.drop_zero, Int.cast_ofNat_Int, go_sem, ↓reduceIte, Nat.reduceEqDiff, Nat.reduceAdd, Nat.reduceMul, Nat.reduceLeDiff, Nat.reduceLT, Int.reduceLE, Int.reduceLT, reduceCtorEq]
    repeat' (first | refine And.intro ?_ ?_ | intro _)
    all_goals (try omega)
    refine ih (x / 2, a + b, b + b) ⟨by show x / 2 ≤ _; omega, ?_⟩ (by show x / 2 < x; omega) _ _ (by rfl) (by rfl)
    show a + b + (b + b) * (x / 2) = k
    have : x = 2 * (x / 2) + 1 := by omega
    rw [← hab]
    conv => rhs; rw [this]
    rw [Nat.mul_add, ← Nat.mul_assoc, Nat.mul_two, Nat.mul_one]
    generalize (b + b) * (x / 2) = z
    omega
  · refine h1.go ?_
    try simp only [hlb, hlbb, take6, List.drop_zero, Int.cast_ofNat_Int, go_sem, ↓reduceIte, Nat.reduceEqDiff, Nat.reduceAdd, Nat.reduceMul, Nat.reduceLeDiff, Nat.reduceLT, Int.reduceLE, Int.reduceLT, reduceCtorEq]
    repeat' (first | refine And.intro ?_ ?_ | intro _)
    all_goals (try omega)
    refine ih (x / 2, a, b + b) ⟨by show x / 2 ≤ _; omega, ?_⟩ (by show x / 2 < x; omega) _ _ (by rfl) (by rfl)
    show a + (b + b) * (x / 2) = k
    have : x = 2 * (x / 2) := by omega
    rw [← hab]
    conv => rhs; rw [this]
    rw [← Nat.mul_assoc, Nat.mul_two]
  · obtain rfl : x = 0 := by omega
    simp only [Nat.mul_zero, Nat.add_zero] at hab
    subst hab
    exact Kv.Fin.still ⟨rfl, rfl⟩
end Go.Proofs.Ytkljidghocnllaa
