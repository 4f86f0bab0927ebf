/- Lists of maps: their size, their copies, their equality; the lists that are joined. -/
import Derived.Test.YtkdkdkkimieieaaMLc
import Derived.Test.YtkdkdkkimieieaaEqM
import Derived.Test.YtkdkdkkimieieaaSlM
import Derived.Test.YtkdkdkkimieieaaTG
namespace Go.Proofs.Ytkdkdkkimieieaa
open Go.Kv
set_option linter.unusedVariables false
set_option linter.unusedSimpArgs false
attribute [local irreducible] ACall PCall KL
theorem aggs_repl (n : Nat) : List.replicate n (PV.agg [.int .i64 0, .int .i64 0, .int .i64 0, .int .i64 0, .int .i64 0, .int .i64 0]) = aggs (List.replicate n [0, 0, 0, 0, 0, 0]) := by simp [aggs, ints]
theorem copyA_step {l : List (List Int)} {x : Nat} (z : List Int) (h : x < l.length) : (l.take x ++ List.replicate (l.length - x) z).set x (l.getD x []) = l.take (x + 1) ++ List.replicate (l.length - (x + 1)) z := by
  have e : l.length - x = (l.length - (x + 1)) + 1 := by omega
  rw [e, List.replicate_succ, List.set_append_right _ _ (by simp; omega), List.length_take, Nat.min_eq_left (by omega), Nat.sub_self, List.set_cons_zero, List.take_succ_eq_append_getElem h, List.append_assoc]
  simp [List.getD_eq_getElem?_getD, h]
theorem mixA_get {l : List (List Int)} {x : Nat} (z : List Int) (h : x < l.length) : (l.take x ++ List.replicate (l.length - x) z).getD x [] = z := by
  have e : l.length - x = (l.length - (x + 1)) + 1 := by omega
  rw [List.getD_eq_getElem?_getD, List.getElem?_append_right (by simp; omega), List.length_take, Nat.min_eq_left (by omega), Nat.sub_self, e]
  rfl
theorem takeL_succ_eq {xs ys : List (List Int)} {x : Nat} (ht : xs.take x = ys.take x) (h1 : x < xs.length) (h2 : x < ys.length) (he : xs.getD x [] = ys.getD x []) : xs.take (x + 1) = ys.take (x + 1) := by
  rw [List.take_succ_eq_append_getElem h1, List.take_succ_eq_append_getElem h2, ht]
  simp [List.getD_eq_getElem?_getD, h1, h2] at he
  rw [he]
theorem p60 (a b : List (List Int)) (ha : a.length ≤ 4294967296) (hb : b.length ≤ 4294967296) (hma : ∀ r ∈ a, r.length = 6) (hmb : ∀ r ∈ b, r.length = 6) : Pure Try.prog 60 [.list (aggs a), .list (aggs b)] (.bool (decide (a = b))) := by
  refine e60 (by simp) fun _ _ => ?_
  simp only [k60, argEnv, take6, List.drop_zero, Int.cast_ofNat_Int, go_sem, ↓reduceIte, Nat.reduceEqDiff, Nat.reduceAdd, Nat.reduceMul, Nat.reduceLeDiff, Nat.reduceLT, Int.reduceLE, Int.reduceLT, reduceCtorEq]
  refine ⟨fun h => Kv.Fin.now ⟨?_, rfl⟩, fun h => ?_⟩
  · have : a ≠ b := fun e => h (by rw [e])
    simp [this]
  · have hlen : a.length = b.length := by omega
    refine KL_ind k60_b0.eq_1 (fun x : Nat => [(5, .int .i64 x), (0, .list (aggs a)), (1, .list (aggs b))]) (fun _ => []) (fun x => x ≤ a.length ∧ a.take x = b.take x) (fun x => a.length - x) [5, 0, 1] 0 (by rfl) rfl ⟨Nat.zero_le _, by simp⟩ fun x ⟨hi, ht⟩ ih => ?_
    try simp only [take6, List.drop_zero, Int.cast_ofNat_Int, go_sem, ↓reduceIte, Nat.reduceEqDiff, Nat.reduceAdd, Nat.reduceMul, Nat.reduceLeDiff, Nat.reduceLT, Int.reduceLE, Int.reduceLT, reduceCtorEq]
    refine ⟨fun h1 => ⟨by omega, fun h2 => ?_⟩, fun h1 => ?_⟩
    · have h6 : (a.getD x []).length = 6 := by rw [getD_eq h2]; exact hma _ (List.getElem_mem h2)
      have h2' : x < b.length := by omega
      have h6' : (b.getD x []).length = 6 := by rw [getD_eq h2']; exact hmb _ (List.getElem_mem h2')
      try simp only [h6, h6', h2', take6, List.drop_zero, Int.cast_ofNat_Int, go_sem, ↓reduceIte, Nat.reduceEqDiff, Nat.reduceAdd, Nat.reduceMul, Nat.reduceLeDiff, Nat.reduceLT, Int.reduceLE, Int.reduceLT, reduceCtorEq]
      refine ⟨by omega, ?_⟩
      refine (p61 _ _ h6 h6').pgo ?_
      try simp only [take6, List.drop_zero, Int.cast_ofNat_Int, go_sem, ↓reduceIte, Nat.reduceEqDiff, Nat.reduceAdd, Nat.reduceMul, Nat.reduceLeDiff, Nat.reduceLT, Int.reduceLE, Int.reduceLT, reduceCtorEq]
      refine ⟨fun h4 => ?_, fun h4 => ⟨by omega, ?_⟩⟩
      · have : a ≠ b := fun e => h4 (by rw [e])
        exact Kv.Fin.now ⟨by simp [this], rfl⟩
      · exact ih (x + 1) ⟨by omega, takeL_succ_eq ht h2 h2' h4⟩ (by omega) _ _ (by rfl) rfl
    · obtain rfl : x = a.length := by omega
      have : a = b := by rw [List.take_length, hlen, List.take_length] at ht; exact ht
      exact Kv.Fin.now ⟨by simp [this], rfl⟩
end Go.Proofs.Ytkdkdkkimieieaa
