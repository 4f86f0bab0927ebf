/- Numbers of commuting maps: both sides, and the law's function. -/
import Derived.Test.YtkdkdkkimieieaaCCc
import Derived.Test.YtkdkdkkimieieaaMA
import Derived.Test.YtkdkdkkimieieaaMB
namespace Go.Proofs.Ytkdkdkkimieieaa
open Go.Kv
set_option linter.unusedVariables false
set_option linter.unusedSimpArgs false
attribute [local irreducible] ACall PCall KL
theorem p72 (f g : List Nat) (n : Nat) (hf : Ok f n) (hg : Ok g n) : Pure Try.prog 72 [.agg (ints (mp f)), .agg (ints (mp g))] (.bool (decide (mul f g = mul g f))) := by
  have hlg := hg.mp_len
  have hlf := hf.mp_len
  have h1 := (hf.mul hg).mp_len
  have h2 := (hg.mul hf).mp_len
  refine e72 (by simp) fun _ _ => ?_
  simp only [k72, argEnv, hlf, hlg, mpN_get, mpN_get0, mp_get, mp_get0, take6, List.drop_zero, go_sem, ↓reduceIte, Nat.reduceEqDiff, Nat.reduceAdd, Nat.reduceMul, Nat.reduceLeDiff, Nat.reduceLT, Int.reduceLE, Int.reduceLT, reduceCtorEq]
  refine (p95 f g n hf hg).pgo ?_
  simp only [mpN_get, mpN_get0, mp_get, mp_get0, take6, List.drop_zero, go_sem, ↓reduceIte, Nat.reduceEqDiff, Nat.reduceAdd, Nat.reduceMul, Nat.reduceLeDiff, Nat.reduceLT, Int.reduceLE, Int.reduceLT, reduceCtorEq]
  refine (p95 g f n hg hf).pgo ?_
  simp only [h1, h2, mpN_get, mpN_get0, mp_get, mp_get0, take6, List.drop_zero, go_sem, ↓reduceIte, Nat.reduceEqDiff, Nat.reduceAdd, Nat.reduceMul, Nat.reduceLeDiff, Nat.reduceLT, Int.reduceLE, Int.reduceLT, reduceCtorEq]
  refine Kv.Fin.still ⟨?_, rfl⟩
  congr 1
  exact decide_eq_decide.2 ⟨mp_inj, fun h => by rw [h]⟩
theorem p71 (f g : List Nat) (n : Nat) (hf : Ok f n) (hg : Ok g n) : Pure Try.prog 71 [.agg (ints (mp g)), .fptr (ints (mp f)) 0] (.bool (!decide (mul f g = mul g f))) := by
  have hlg := hg.mp_len
  have hlf := hf.mp_len
  refine e71 (by simp) fun _ _ => ?_
  simp only [k71, argEnv, hlf, hlg, mpN_get, mpN_get0, mp_get, mp_get0, take6, List.drop_zero, go_sem, ↓reduceIte, Nat.reduceEqDiff, Nat.reduceAdd, Nat.reduceMul, Nat.reduceLeDiff, Nat.reduceLT, Int.reduceLE, Int.reduceLT, reduceCtorEq]
  refine (p72 f g n hf hg).go ?_
  simp only [mpN_get, mpN_get0, mp_get, mp_get0, take6, List.drop_zero, go_sem, ↓reduceIte, Nat.reduceEqDiff, Nat.reduceAdd, Nat.reduceMul, Nat.reduceLeDiff, Nat.reduceLT, Int.reduceLE, Int.reduceLT, reduceCtorEq]
  exact Kv.Fin.still ⟨rfl, rfl⟩
def comM (f : List Nat) (n : Nat) : List (List Nat) := (allM n).filter fun g => decide (mul f g = mul g f)
theorem allM_ok {n : Nat} (h1 : 1 ≤ n) (h5 : n ≤ 5) {g : List Nat} (h : g ∈ allM n) : Ok g n := by
  simp only [allM, List.mem_map] at h
  obtain ⟨k, _, rfl⟩ := h
  exact dg_ok h1 h5 k
theorem p31 (f : List Nat) (n : Nat) (hf : Ok f n) : Pure Try.prog 31 [.agg (ints (mp f))] (.tup [.int .i64 (comM f n).length, .int .i64 0]) := by
  have hlf := hf.mp_len
  have hnn := nn_le n (by have := hf.le; omega)
  refine e31 (by simp) fun _ _ => ?_
  simp only [k31, argEnv, hlf, mpN_get, mpN_get0, mp_get, mp_get0, take6, List.drop_zero, go_sem, ↓reduceIte, Nat.reduceEqDiff, Nat.reduceAdd, Nat.reduceMul, Nat.reduceLeDiff, Nat.reduceLT, Int.reduceLE, Int.reduceLT, reduceCtorEq]
  refine (p68 (mp f) hlf).go ?_
  rw [isM_mp hf]
  simp only [hlf, hf.len, mpN_get, mpN_get0, mp_get, mp_get0, take6, List.drop_zero, go_sem, ↓reduceIte, Nat.reduceEqDiff, Nat.reduceAdd, Nat.reduceMul, Nat.reduceLeDiff, Nat.reduceLT, Int.reduceLE, Int.reduceLT, reduceCtorEq]
  refine (p70 n hf.pos hf.le).go fun v s ⟨hv, hs⟩ => ?_
  subst hv; subst hs
  simp only [ren_ref, hlf, mpN_get, mpN_get0, mp_get, mp_get0, take6, List.drop_zero, go_sem, ↓reduceIte, Nat.reduceEqDiff, Nat.reduceAdd, Nat.reduceMul, Nat.reduceLeDiff, Nat.reduceLT, Int.reduceLE, Int.reduceLT, reduceCtorEq]
  have hml : (allM n).length = n ^ n := by simp [allM]
  refine delM _ 0 (n ^ n - 1) 33 (allM n) _ hml.symm rfl (fun g hg => by rw [(allM_ok hf.pos hf.le hg).len]; exact hf.le) (by omega) 71 [.fptr (ints (mp f)) 0] (fun g => !decide (mul f g = mul g f)) (fun g hg => p71 f g n hf (allM_ok hf.pos hf.le hg)) fun post => ?_
  simp only [Bool.not_not]
  have hle : ((allM n).filter fun g => decide (mul f g = mul g f)).length ≤ n ^ n := by
    have := List.length_filter_le (fun g => decide (mul f g = mul g f)) (allM n); omega
  simp only [List.length_map, mpN_get, mpN_get0, mp_get, mp_get0, take6, List.drop_zero, go_sem, ↓reduceIte, Nat.reduceEqDiff, Nat.reduceAdd, Nat.reduceMul, Nat.reduceLeDiff, Nat.reduceLT, Int.reduceLE, Int.reduceLT, reduceCtorEq]
  exact Kv.Fin.still ⟨rfl, rfl⟩
theorem p29 (f : List Nat) (n : Nat) (hf : Ok f n) : Pure Try.prog 29 [.agg (ints (mp f))] (.tup [.int .i64 (comM f n).length, .int .i64 0]) := by
  have hlf := hf.mp_len
  have hnn := nn_le n (by have := hf.le; omega)
  refine e29 (by simp) fun _ _ => ?_
  simp only [k29, argEnv, hlf, mpN_get, mpN_get0, mp_get, mp_get0, take6, List.drop_zero, go_sem, ↓reduceIte, Nat.reduceEqDiff, Nat.reduceAdd, Nat.reduceMul, Nat.reduceLeDiff, Nat.reduceLT, Int.reduceLE, Int.reduceLT, reduceCtorEq]
  refine (p64 (mp f) hlf).go ?_
  rw [isM_mp hf]
  simp only [hlf, hf.len, mpN_get, mpN_get0, mp_get, mp_get0, take6, List.drop_zero, go_sem, ↓reduceIte, Nat.reduceEqDiff, Nat.reduceAdd, Nat.reduceMul, Nat.reduceLeDiff, Nat.reduceLT, Int.reduceLE, Int.reduceLT, reduceCtorEq]
  refine (p65 n hf.pos hf.le).go ?_
  simp only [hlf, mpN_get, mpN_get0, mp_get, mp_get0, take6, List.drop_zero, go_sem, ↓reduceIte, Nat.reduceEqDiff, Nat.reduceAdd, Nat.reduceMul, Nat.reduceLeDiff, Nat.reduceLT, Int.reduceLE, Int.reduceLT, reduceCtorEq]
  have hml : (allM n).length = n ^ n := by simp [allM]
  refine KL_ind k29_b0.eq_1 (fun x : Nat => [(1, .fptr (ints (mp f)) 0), (4, .list (aggs ((allM n).map mp))), (5, .int .i64 (((allM n).take x).filter fun g => decide (mul f g = mul g f)).length), (6, .int .i64 x)]) (fun _ => []) (fun x => x ≤ n ^ n) (fun x => n ^ n - x) [1, 4, 5, 6] 0 (by rfl) rfl (Nat.zero_le _) fun x hx ih => ?_
  simp only [hlf, List.length_map, hml, mpN_get, mpN_get0, mp_get, mp_get0, take6, List.drop_zero, go_sem, ↓reduceIte, Nat.reduceEqDiff, Nat.reduceAdd, Nat.reduceMul, Nat.reduceLeDiff, Nat.reduceLT, Int.reduceLE, Int.reduceLT, reduceCtorEq]
  refine ⟨fun h1 => ⟨by omega, fun h2 => ?_⟩, fun h1 => ?_⟩
  · have hxl : x < (allM n).length := by omega
    have hg := allM_ok hf.pos hf.le (List.getElem_mem hxl)
    have e : ((allM n).map mp).getD x [] = mp (allM n)[x] := by simp [List.getD_eq_getElem?_getD, hxl]
    rw [e]
    have hlg := hg.mp_len
    simp only [hlg, mpN_get, mpN_get0, mp_get, mp_get0, take6, List.drop_zero, go_sem, ↓reduceIte, Nat.reduceEqDiff, Nat.reduceAdd, Nat.reduceMul, Nat.reduceLeDiff, Nat.reduceLT, Int.reduceLE, Int.reduceLT, reduceCtorEq]
    refine ⟨by omega, fun _ => ?_⟩
    refine (p66 _ f n hg hf).pgo ?_
    simp only [mpN_get, mpN_get0, mp_get, mp_get0, take6, List.drop_zero, go_sem, ↓reduceIte, Nat.reduceEqDiff, Nat.reduceAdd, Nat.reduceMul, Nat.reduceLeDiff, Nat.reduceLT, Int.reduceLE, Int.reduceLT, reduceCtorEq]
    refine (p66 f _ n hf hg).pgo ?_
    have k1 := (hf.mul hg).mp_len
    have k2 := (hg.mul hf).mp_len
    simp only [k1, k2, mpN_get, mpN_get0, mp_get, mp_get0, take6, List.drop_zero, go_sem, ↓reduceIte, Nat.reduceEqDiff, Nat.reduceAdd, Nat.reduceMul, Nat.reduceLeDiff, Nat.reduceLT, Int.reduceLE, Int.reduceLT, reduceCtorEq]
    have hs := filter_take_succ (p := fun g => decide (mul f g = mul g f)) hxl
    have hle : (((allM n).take x).filter fun g => decide (mul f g = mul g f)).length ≤ x := by
      have := List.length_filter_le (fun g => decide (mul f g = mul g f)) ((allM n).take x)
      simp only [List.length_take] at this; omega
    refine ⟨fun h3 => ?_, fun h3 => ?_⟩
    · have h4 := mp_inj h3
      rw [if_pos (decide_eq_true h4.symm)] at hs
      repeat' (first | refine And.intro ?_ ?_ | intro _)
      all_goals (try omega)
      refine ih (x + 1) (by omega) (by omega) _ _ ?_ rfl
      simp [keep, hs]
    · have h4 : ¬ mul f (allM n)[x] = mul (allM n)[x] f := fun h => h3 (by rw [h])
      rw [if_neg (by simpa using h4), List.append_nil] at hs
      repeat' (first | refine And.intro ?_ ?_ | intro _)
      all_goals (try omega)
      refine ih (x + 1) (by omega) (by omega) _ _ ?_ rfl
      simp [keep, hs]
  · obtain rfl : x = n ^ n := by omega
    refine Kv.Fin.still ⟨?_, rfl⟩
    rw [← hml, List.take_length]
    rfl
theorem p31_out (m : List Int) (h : m.length = 6) (hm : isM m = false) : Pure Try.prog 31 [.agg (ints m)] (.tup [.int .i64 0, .int .i64 1]) := by
  refine e31 (by simp) fun _ _ => ?_
  simp only [k31, argEnv, h, mpN_get, mpN_get0, mp_get, mp_get0, take6, List.drop_zero, go_sem, ↓reduceIte, Nat.reduceEqDiff, Nat.reduceAdd, Nat.reduceMul, Nat.reduceLeDiff, Nat.reduceLT, Int.reduceLE, Int.reduceLT, reduceCtorEq]
  refine (p68 m h).go ?_
  rw [hm]
  simp only [mpN_get, mpN_get0, mp_get, mp_get0, take6, List.drop_zero, go_sem, ↓reduceIte, Nat.reduceEqDiff, Nat.reduceAdd, Nat.reduceMul, Nat.reduceLeDiff, Nat.reduceLT, Int.reduceLE, Int.reduceLT, reduceCtorEq]
  exact Kv.Fin.still ⟨rfl, rfl⟩
theorem p29_out (m : List Int) (h : m.length = 6) (hm : isM m = false) : Pure Try.prog 29 [.agg (ints m)] (.tup [.int .i64 0, .int .i64 1]) := by
  refine e29 (by simp) fun _ _ => ?_
  simp only [k29, argEnv, h, mpN_get, mpN_get0, mp_get, mp_get0, take6, List.drop_zero, go_sem, ↓reduceIte, Nat.reduceEqDiff, Nat.reduceAdd, Nat.reduceMul, Nat.reduceLeDiff, Nat.reduceLT, Int.reduceLE, Int.reduceLT, reduceCtorEq]
  refine (p64 m h).go ?_
  rw [hm]
  simp only [mpN_get, mpN_get0, mp_get, mp_get0, take6, List.drop_zero, go_sem, ↓reduceIte, Nat.reduceEqDiff, Nat.reduceAdd, Nat.reduceMul, Nat.reduceLeDiff, Nat.reduceLT, Int.reduceLE, Int.reduceLT, reduceCtorEq]
  exact Kv.Fin.still ⟨rfl, rfl⟩
theorem p7_at (m : List Int) (h : m.length = 6) {a b : Int} (hs : Pure Try.prog 29 [.agg (ints m)] (.tup [.int .i64 a, .int .i64 b])) (hi : Pure Try.prog 31 [.agg (ints m)] (.tup [.int .i64 a, .int .i64 b])) : Pure Try.prog 7 [.agg (ints m)] (.bool true) := by
  refine e7 (by simp) fun _ _ => ?_
  simp only [k7, argEnv, h, mpN_get, mpN_get0, mp_get, mp_get0, take6, List.drop_zero, go_sem, ↓reduceIte, Nat.reduceEqDiff, Nat.reduceAdd, Nat.reduceMul, Nat.reduceLeDiff, Nat.reduceLT, Int.reduceLE, Int.reduceLT, reduceCtorEq]
  refine (p30 m h).go ?_
  simp only [mpN_get, mpN_get0, mp_get, mp_get0, take6, List.drop_zero, go_sem, ↓reduceIte, Nat.reduceEqDiff, Nat.reduceAdd, Nat.reduceMul, Nat.reduceLeDiff, Nat.reduceLT, Int.reduceLE, Int.reduceLT, reduceCtorEq]
  refine hs.go ?_
  simp only [h, mpN_get, mpN_get0, mp_get, mp_get0, take6, List.drop_zero, go_sem, ↓reduceIte, Nat.reduceEqDiff, Nat.reduceAdd, Nat.reduceMul, Nat.reduceLeDiff, Nat.reduceLT, Int.reduceLE, Int.reduceLT, reduceCtorEq]
  refine (p30 m h).go ?_
  simp only [mpN_get, mpN_get0, mp_get, mp_get0, take6, List.drop_zero, go_sem, ↓reduceIte, Nat.reduceEqDiff, Nat.reduceAdd, Nat.reduceMul, Nat.reduceLeDiff, Nat.reduceLT, Int.reduceLE, Int.reduceLT, reduceCtorEq]
  refine hi.go ?_
  simp only [mpN_get, mpN_get0, mp_get, mp_get0, take6, List.drop_zero, go_sem, ↓reduceIte, Nat.reduceEqDiff, Nat.reduceAdd, Nat.reduceMul, Nat.reduceLeDiff, Nat.reduceLT, Int.reduceLE, Int.reduceLT, reduceCtorEq]
  exact Kv.Fin.still ⟨rfl, rfl⟩
theorem p7 (m : List Int) (h : m.length = 6) : Pure Try.prog 7 [.agg (ints m)] (.bool true) := by
  cases hm : isM m with
  | false => exact p7_at m h (p29_out m h hm) (p31_out m h hm)
  | true =>
    obtain ⟨f, n, hf, rfl⟩ := isM_ok h hm
    exact p7_at _ h (p29 f n hf) (p31 f n hf)
end Go.Proofs.Ytkdkdkkimieieaa
