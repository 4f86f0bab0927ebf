/- Maps: cyclic points, ends, cycles, powers, images. -/
import Derived.Test.YtkdkdkkimieieaaMIc
import Derived.Test.YtkdkdkkimieieaaMA
import Derived.Test.YtkdkdkkimieieaaIt
import Derived.Test.YtkdkdkkimieieaaK20
import Derived.Test.YtkdkdkkimieieaaSq
namespace Go.Proofs.Ytkdkdkkimieieaa
open Go.Kv
set_option linter.unusedVariables false
set_option linter.unusedSimpArgs false
attribute [local irreducible] ACall PCall KL
theorem p101 (f : List Nat) (n p : Nat) (hf : Ok f n) (hp : p < n) : Pure Try.prog 101 [.agg (ints (mp f)), .int .i64 p] (.bool (cyc f n p)) := by
  have hlf := hf.mp_len
  have h5 := hf.le
  refine e101 (by simp) fun _ _ => ?_
  simp only [k101, argEnv, hlf, hf.len, mpN_get, mpN_get0, mp_get, mp_get0, take6, List.drop_zero, go_sem, ↓reduceIte, Nat.reduceEqDiff, Nat.reduceAdd, Nat.reduceMul, Nat.reduceLeDiff, Nat.reduceLT, Int.reduceLE, Int.reduceLT, reduceCtorEq]
  refine ⟨by omega, by omega, fun _ => ?_⟩
  refine KL_ind k101_b0.eq_1 (fun x : Nat => [(1, .int .i64 p), (2, .fptr (ints (mp f)) 0), (5, .int .i64 (it f (x + 1) p)), (11, .int .i64 n), (12, .int .i64 x)]) (fun _ => []) (fun x => x ≤ n ∧ ((List.range n).take x).any (fun k => decide (it f (k + 1) p = p)) = false) (fun x => n - x) [1, 2, 5, 11, 12] 0 (by rfl) rfl ⟨Nat.zero_le _, rfl⟩ fun x ⟨hx, hno⟩ ih => ?_
  have hq := it_lt hf hp (x + 1)
  simp only [hlf, mpN_get, mpN_get0, mp_get, mp_get0, take6, List.drop_zero, go_sem, ↓reduceIte, Nat.reduceEqDiff, Nat.reduceAdd, Nat.reduceMul, Nat.reduceLeDiff, Nat.reduceLT, Int.reduceLE, Int.reduceLT, reduceCtorEq]
  refine ⟨fun h1 => ⟨fun h2 => ?_, fun h2 => ?_⟩, fun h1 => ?_⟩
  · refine Kv.Fin.now ⟨?_, rfl⟩
    have : cyc f n p = true := cyc_iff.2 ⟨x + 1, by omega, by omega, by omega⟩
    rw [this]
  · repeat' (first | refine And.intro ?_ ?_ | intro _)
    all_goals (try omega)
    refine ih (x + 1) ⟨by omega, ?_⟩ (by omega) _ _ (by rfl) rfl
    rw [any_take_succ _ (by simp; omega), hno]
    simp; omega
  · obtain rfl : x = n := by omega
    rw [List.take_of_length_le (by simp)] at hno
    exact Kv.Fin.now ⟨by rw [cyc, hno], rfl⟩
theorem p81 (f : List Nat) (n p : Nat) (hf : Ok f n) (hp : p < n) : Pure Try.prog 81 [.agg (ints (mp f)), .int .i64 p] (.tup [.int .i64 (it f (hgt f n p) p), .int .i64 (hgt f n p)]) := by
  have hlf := hf.mp_len
  have h5 := hf.le
  refine e81 (by simp) fun _ _ => ?_
  simp only [k81, argEnv, hlf, hf.len, mpN_get, mpN_get0, mp_get, mp_get0, take6, List.drop_zero, go_sem, ↓reduceIte, Nat.reduceEqDiff, Nat.reduceAdd, Nat.reduceMul, Nat.reduceLeDiff, Nat.reduceLT, Int.reduceLE, Int.reduceLT, reduceCtorEq]
  refine KL_ind k81_b0.eq_1 (fun x : Nat => [(1, .int .i64 (it f x p)), (2, .fptr (ints (mp f)) 0), (6, .int .i64 x)]) (fun _ => []) (fun x => x ≤ 60 ∧ ∀ j, j < x → cyc f n (it f j p) = false) (fun x => 60 - x) [1, 2, 6] 0 (by rfl) rfl ⟨Nat.zero_le _, fun j h => by omega⟩ fun x ⟨hx, hno⟩ ih => ?_
  have hq := it_lt hf hp x
  simp only [hlf, mpN_get, mpN_get0, mp_get, mp_get0, take6, List.drop_zero, go_sem, ↓reduceIte, Nat.reduceEqDiff, Nat.reduceAdd, Nat.reduceMul, Nat.reduceLeDiff, Nat.reduceLT, Int.reduceLE, Int.reduceLT, reduceCtorEq]
  refine (p101 f n _ hf hq).go ?_
  simp only [hlf, mpN_get, mpN_get0, mp_get, mp_get0, take6, List.drop_zero, go_sem, ↓reduceIte, Nat.reduceEqDiff, Nat.reduceAdd, Nat.reduceMul, Nat.reduceLeDiff, Nat.reduceLT, Int.reduceLE, Int.reduceLT, reduceCtorEq]
  refine ⟨fun h1 => ?_, fun h1 => ?_⟩
  · have hx2 : x + 1 < n := by
      refine Decidable.byContradiction fun hn => ?_
      have := cyc_late hf hp (k := x) (by omega)
      rw [this] at h1; cases h1
    repeat' (first | refine And.intro ?_ ?_ | intro _)
    all_goals (try omega)
    refine ih (x + 1) ⟨by omega, fun j hj => ?_⟩ (by omega) _ _ (by rfl) rfl
    by_cases e : j = x
    · subst e; simpa using h1
    · exact hno j (by omega)
  · have e := hgt_eq hx (by simpa using h1) hno
    exact Kv.Fin.now ⟨by rw [e], rfl⟩
/-- The first steps from p. -/
def its (f : List Nat) (p m : Nat) : List Int := (List.range m).map fun k => (it f k p : Int)
@[simp] theorem its_length (f : List Nat) (p m : Nat) : (its f p m).length = m := by simp [its]
theorem its_succ (f : List Nat) (p m : Nat) : its f p m ++ [(it f m p : Int)] = its f p (m + 1) := by simp [its, List.range_succ]
theorem p84 (f : List Nat) (n p : Nat) (hf : Ok f n) (hp : p < n) (hc : cyc f n p = true) : ACall Try.prog 84 [.agg (ints (mp f)), .int .i64 p] [] (fun v s => (∃ m, m ≤ 59 ∧ it f (m + 1) p = p ∧ v = .list (ints (its f p (m + 1)))) ∧ s = []) := by
  have hlf := hf.mp_len
  have h5 := hf.le
  refine e84 (by simp) fun _ _ => ?_
  simp only [k84, argEnv, hlf, hf.len, mpN_get, mpN_get0, mp_get, mp_get0, take6, List.drop_zero, go_sem, ↓reduceIte, Nat.reduceEqDiff, Nat.reduceAdd, Nat.reduceMul, Nat.reduceLeDiff, Nat.reduceLT, Int.reduceLE, Int.reduceLT, reduceCtorEq]
  refine ⟨by omega, by omega, fun _ => ?_⟩
  refine KL_ind k84_b0.eq_1 (fun x : Nat => [(1, .int .i64 p), (2, .fptr (ints (mp f)) 0), (5, .ref 0 x 0 (x + 1)), (6, .int .i64 (it f (x + 1) p))]) (fun x => [.arr x 2 1 (ints (its f p (x + 1)))]) (fun x => x ≤ 59) (fun x => 60 - x) [1, 2, 5, 6] 0 (by rfl) (by rfl) (Nat.zero_le _) fun x hx ih => ?_
  have hq := it_lt hf hp (x + 1)
  simp only [hlf, mpN_get, mpN_get0, mp_get, mp_get0, take6, List.drop_zero, go_sem, ↓reduceIte, Nat.reduceEqDiff, Nat.reduceAdd, Nat.reduceMul, Nat.reduceLeDiff, Nat.reduceLT, Int.reduceLE, Int.reduceLT, reduceCtorEq]
  refine ⟨fun h1 => ?_, fun h1 => ?_⟩
  · have hx2 : x < 59 := by
      refine Decidable.byContradiction fun hn => h1 ?_
      obtain rfl : x = 59 := by omega
      rw [cyc_60 hf hc]
    have hl := its_length f p (x + 1)
    simp only [hl, mpN_get, mpN_get0, mp_get, mp_get0, take6, List.drop_zero, go_sem, ↓reduceIte, Nat.reduceEqDiff, Nat.reduceAdd, Nat.reduceMul, Nat.reduceLeDiff, Nat.reduceLT, Int.reduceLE, Int.reduceLT, reduceCtorEq]
    repeat' (first | refine And.intro ?_ ?_ | intro _)
    all_goals (try omega)
    refine ih (x + 1) (by omega) (by omega) _ _ (by rfl) ?_
    rw [List.take_of_length_le (by omega), its_succ]
  · refine Kv.Fin.freeze (.refn (l := its f p (x + 1)) rfl (by simp)) ⟨⟨x, hx, by omega, rfl⟩, rfl⟩
/-- The least of the first ones. -/
def mnl (l : List Int) : Nat → Int
  | 0 => l.getD 0 0
  | x + 1 => min (mnl l x) (l.getD (x + 1) 0)
theorem p83 (l : List Int) (hl : 1 ≤ l.length) (hl2 : l.length ≤ 4294967296) : Pure Try.prog 83 [.list (ints l)] (.int .i64 (mnl l (l.length - 1))) := by
  refine e83 (by simp) fun _ _ => ?_
  simp only [k83, argEnv, mpN_get, mpN_get0, mp_get, mp_get0, take6, List.drop_zero, go_sem, ↓reduceIte, Nat.reduceEqDiff, Nat.reduceAdd, Nat.reduceMul, Nat.reduceLeDiff, Nat.reduceLT, Int.reduceLE, Int.reduceLT, reduceCtorEq]
  refine ⟨fun h => by omega, fun _ => ⟨by omega, fun _ => ?_⟩⟩
  refine KL_ind k83_b0.eq_1 (fun x : Nat => [(0, .list (ints l)), (3, .int .i64 (mnl l x)), (4, .int .i64 (x + 1))]) (fun _ => []) (fun x => x < l.length) (fun x => l.length - x) [0, 3, 4] 0 (by rfl) rfl (by omega) fun x hx ih => ?_
  simp only [mpN_get, mpN_get0, mp_get, mp_get0, take6, List.drop_zero, go_sem, ↓reduceIte, Nat.reduceEqDiff, Nat.reduceAdd, Nat.reduceMul, Nat.reduceLeDiff, Nat.reduceLT, Int.reduceLE, Int.reduceLT, reduceCtorEq]
  refine ⟨fun h1 => ⟨by omega, fun h2 => ?_⟩, fun h1 => ?_⟩
  · repeat' (first | refine And.intro ?_ ?_ | intro _)
    all_goals (try omega)
    exact ih (x + 1) (by omega) (by omega) _ _ (by rfl) rfl
  · obtain rfl : x = l.length - 1 := by omega
    exact Kv.Fin.now ⟨rfl, rfl⟩
theorem mnl_its (f : List Nat) (p m : Nat) : ∀ x, x < m → mnl (its f p m) x = (lo f p x : Int)
  | 0, h => by simp [mnl, its, lo, h, it]
  | x + 1, h => by
    have e : (its f p m).getD (x + 1) 0 = (it f (x + 1) p : Int) := by simp [its, h]
    simp only [mnl, lo, mnl_its f p m x (by omega), e]
    omega
theorem p80 (f : List Nat) (n k : Nat) (hf : Ok f n) (hk : k ≤ 1000000000000) : Pure Try.prog 80 [.agg (ints (mp f)), .int .i64 k] (.agg (ints (mp (itM f n k)))) := by
  have hlf := hf.mp_len
  have hli := (Ok.idn hf.pos hf.le).mp_len
  refine e80 (by simp) fun _ _ => ?_
  simp only [k80, argEnv, hlf, hf.len, mpN_get, mpN_get0, mp_get, mp_get0, take6, List.drop_zero, go_sem, ↓reduceIte, Nat.reduceEqDiff, Nat.reduceAdd, Nat.reduceMul, Nat.reduceLeDiff, Nat.reduceLT, Int.reduceLE, Int.reduceLT, reduceCtorEq]
  refine (p100 n hf.pos hf.le).go ?_
  simp only [hli, mpN_get, mpN_get0, mp_get, mp_get0, take6, List.drop_zero, go_sem, ↓reduceIte, Nat.reduceEqDiff, Nat.reduceAdd, Nat.reduceMul, Nat.reduceLeDiff, Nat.reduceLT, Int.reduceLE, Int.reduceLT, reduceCtorEq]
  refine KL_ind k80_b0.eq_1 (fun x : Nat × Nat × Nat => [(1, .int .i64 x.1), (2, .ptr 0 0), (4, .ptr 1 0), (5, .ptr 2 0)]) (fun x => [.box (ints (mp (itM f n x.2.2))), .box (ints [0, 0, 0, 0, 0, 0]), .box (ints (mp (itM f n x.2.1)))]) (fun x => x.1 ≤ 1000000000000 ∧ x.2.1 + x.2.2 * x.1 = k) (fun x => x.1) [1, 2, 4, 5] (k, 0, 1) (by rfl) (by rw [itM_zero, itM_one hf]; rfl) ⟨hk, by simp⟩ fun ⟨x, a, b⟩ ⟨hx, hab⟩ ih => ?_
  simp only at hx hab
  have hla := (itM_ok hf a).mp_len
  have hlb := (itM_ok hf b).mp_len
  have hlbb := (itM_ok hf (b + b)).mp_len
  have hlab := (itM_ok hf (a + b)).mp_len
  have h1 := p66 _ _ n (itM_ok hf b) (itM_ok hf b)
  have h2 := p66 _ _ n (itM_ok hf a) (itM_ok hf b)
  rw [itM_mul hf] at h1 h2
  simp only [hla, hlb, mpN_get, mpN_get0, mp_get, mp_get0, take6, List.drop_zero, go_sem, ↓reduceIte, Nat.reduceEqDiff, Nat.reduceAdd, Nat.reduceMul, Nat.reduceLeDiff, Nat.reduceLT, Int.reduceLE, Int.reduceLT, reduceCtorEq]
  refine ⟨fun h3 => ⟨fun h4 => ?_, fun h4 => ?_⟩, fun h3 => ?_⟩
  · refine h2.go ?_
    simp only [hla, hlb, hlab, mpN_get, mpN_get0, mp_get, mp_get0, take6, List.drop_zero, go_sem, ↓reduceIte, Nat.reduceEqDiff, Nat.reduceAdd, Nat.reduceMul, Nat.reduceLeDiff, Nat.reduceLT, Int.reduceLE, Int.reduceLT, reduceCtorEq]
    refine h1.go ?_
    simp only [hlb, hlbb, mpN_get, mpN_get0, mp_get, mp_get0, take6, List.drop_zero, go_sem, ↓reduceIte, Nat.reduceEqDiff, Nat.reduceAdd, Nat.reduceMul, Nat.reduceLeDiff, Nat.reduceLT, Int.reduceLE, Int.reduceLT, reduceCtorEq]
    repeat' (first | refine And.intro ?_ ?_ | intro _)
    all_goals (try omega)
    refine ih (x / 2, a + b, b + b) ⟨by show x / 2 ≤ _; omega, ?_⟩ (by show x / 2 < x; omega) _ _ (by rfl) (by rfl)
    show a + b + (b + b) * (x / 2) = k
    have : x = 2 * (x / 2) + 1 := by omega
    rw [← hab]
    conv => rhs; rw [this]
    rw [Nat.mul_add, ← Nat.mul_assoc, Nat.mul_two, Nat.mul_one]
    generalize (b + b) * (x / 2) = z
    omega
  · refine h1.go ?_
    simp only [hlb, hlbb, mpN_get, mpN_get0, mp_get, mp_get0, take6, List.drop_zero, go_sem, ↓reduceIte, Nat.reduceEqDiff, Nat.reduceAdd, Nat.reduceMul, Nat.reduceLeDiff, Nat.reduceLT, Int.reduceLE, Int.reduceLT, reduceCtorEq]
    repeat' (first | refine And.intro ?_ ?_ | intro _)
    all_goals (try omega)
    refine ih (x / 2, a, b + b) ⟨by show x / 2 ≤ _; omega, ?_⟩ (by show x / 2 < x; omega) _ _ (by rfl) (by rfl)
    show a + (b + b) * (x / 2) = k
    have : x = 2 * (x / 2) := by omega
    rw [← hab]
    conv => rhs; rw [this]
    rw [← Nat.mul_assoc, Nat.mul_two]
  · obtain rfl : x = 0 := by omega
    simp only [Nat.mul_zero, Nat.add_zero] at hab
    subst hab
    exact Kv.Fin.still ⟨rfl, rfl⟩
theorem p79 (f : List Nat) (n : Nat) (hf : Ok f n) : Pure Try.prog 79 [.agg (ints (mp f))] (.int .i64 (sb f)) := by
  have hlf := hf.mp_len
  have h5 := hf.le
  refine e79 (by simp) fun _ _ => ?_
  simp only [k79, argEnv, hlf, mpN_get, mpN_get0, mp_get, mp_get0, take6, List.drop_zero, go_sem, ↓reduceIte, Nat.reduceEqDiff, Nat.reduceAdd, Nat.reduceMul, Nat.reduceLeDiff, Nat.reduceLT, Int.reduceLE, Int.reduceLT, reduceCtorEq]
  refine KL_ind k79_b0.eq_1 (fun x : Nat => [(1, .fptr (ints (mp f)) 0), (3, .int .i64 (sb (f.take x))), (4, .int .i64 x)]) (fun _ => []) (fun x => x ≤ n) (fun x => n - x) [1, 3, 4] 0 (by rfl) rfl (Nat.zero_le _) fun x hx ih => ?_
  have hp := hf.get' x
  have hb : sb (f.take x) < 2 ^ 62 := Nat.lt_trans (sb_lt (n := 5) fun y hy => by have := hf.lt y (List.mem_of_mem_take hy); omega) (by decide)
  have hb2 : 2 ^ f.getD x 0 < 2 ^ 62 := Nat.pow_lt_pow_right (by omega) (by omega)
  have hp61 : f.getD x 0 ≤ 61 := by omega
  simp only [hlf, hf.len, aConv_u64 hp61, aBin_shl1 hp61, aBin_or hb hb2, mpN_get, mpN_get0, mp_get, mp_get0, take6, List.drop_zero, go_sem, ↓reduceIte, Nat.reduceEqDiff, Nat.reduceAdd, Nat.reduceMul, Nat.reduceLeDiff, Nat.reduceLT, Int.reduceLE, Int.reduceLT, reduceCtorEq]
  refine ⟨fun h1 => ?_, fun h1 => ?_⟩
  · repeat' (first | refine And.intro ?_ ?_ | intro _)
    all_goals (try omega)
    refine ih (x + 1) (by omega) (by omega) _ _ ?_ rfl
    have hxl : x < f.length := by rw [hf.len]; omega
    rw [List.take_succ_eq_append_getElem hxl, sb_snoc, List.getD_eq_getElem?_getD, List.getElem?_eq_getElem hxl]
    rfl
  · obtain rfl : x = n := by omega
    rw [List.take_of_length_le (by rw [hf.len]; omega)]
    exact Kv.Fin.now ⟨rfl, rfl⟩
end Go.Proofs.Ytkdkdkkimieieaa
