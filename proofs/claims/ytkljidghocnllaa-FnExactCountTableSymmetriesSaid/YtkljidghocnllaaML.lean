/- Lists of maps: their size, their copies, their equality; the lists that are joined. -/
import Derived.Test.YtkljidghocnllaaMLc
import Derived.Test.YtkljidghocnllaaEqM
import Derived.Test.YtkljidghocnllaaSlM
import Derived.Test.YtkljidghocnllaaTG
namespace Go.Proofs.Ytkljidghocnllaa
open Go.Kv
set_option linter.unusedVariables false
set_option linter.unusedSimpArgs false
attribute [local irreducible] ACall PCall KL
theorem p37 (l : List (List Int)) (k : Int) (hl : l.length ≤ 9223372036854775807) (hk : 0 ≤ k ∧ k ≤ 4294967296) : Pure Try.prog 37 [.list (aggs l), .int .i64 k] (.int .i64 (if k - l.length < 0 then -1 else k - l.length)) := by
  refine e37 (by simp) fun _ _ => ?_
  simp only [k37, argEnv, take6, List.drop_zero, Int.cast_ofNat_Int, go_sem, ↓reduceIte, Nat.reduceEqDiff, Nat.reduceAdd, Nat.reduceMul, Nat.reduceLeDiff, Nat.reduceLT, Int.reduceLE, Int.reduceLT, reduceCtorEq]
  repeat' (first | refine And.intro ?_ ?_ | intro _)
  all_goals (try omega)
  · rename_i h
    exact Kv.Fin.now ⟨by rw [if_pos h], rfl⟩
  · rename_i h
    exact Kv.Fin.now ⟨by rw [if_neg h], rfl⟩
theorem aggs_repl (n : Nat) : List.replicate n (PV.agg [.int .i64 0, .int .i64 0, .int .i64 0, .int .i64 0, .int .i64 0, .int .i64 0]) = aggs (List.replicate n [0, 0, 0, 0, 0, 0]) := by simp [aggs, ints]
theorem copyA_step {l : List (List Int)} {x : Nat} (z : List Int) (h : x < l.length) : (l.take x ++ List.replicate (l.length - x) z).set x (l.getD x []) = l.take (x + 1) ++ List.replicate (l.length - (x + 1)) z := by
  have e : l.length - x = (l.length - (x + 1)) + 1 := by omega
  rw [e, List.replicate_succ, List.set_append_right _ _ (by simp; omega), List.length_take, Nat.min_eq_left (by omega), Nat.sub_self, List.set_cons_zero, List.take_succ_eq_append_getElem h, List.append_assoc]
  simp [List.getD_eq_getElem?_getD, h]
theorem mixA_get {l : List (List Int)} {x : Nat} (z : List Int) (h : x < l.length) : (l.take x ++ List.replicate (l.length - x) z).getD x [] = z := by
  have e : l.length - x = (l.length - (x + 1)) + 1 := by omega
  rw [List.getD_eq_getElem?_getD, List.getElem?_append_right (by simp; omega), List.length_take, Nat.min_eq_left (by omega), Nat.sub_self, e]
  rfl
theorem p39o (l : List (List Int)) (hl : l.length ≤ 1048576) (hm : ∀ r ∈ l, r.length = 6) : ACall Try.prog 39 [.list (aggs l)] [] (fun v s => v = .ref 0 0 0 l.length ∧ s = [.arr 0 27 6 (aggs l)]) := by
  refine e39 (by simp) fun _ _ => ?_
  simp only [k39, argEnv, aggs_repl, take6, List.drop_zero, Int.cast_ofNat_Int, go_sem, ↓reduceIte, Nat.reduceEqDiff, Nat.reduceAdd, Nat.reduceMul, Nat.reduceLeDiff, Nat.reduceLT, Int.reduceLE, Int.reduceLT, reduceCtorEq]
  refine ⟨by omega, ?_⟩
  refine KL_ind k39_b0.eq_1 (fun x : Nat => [(4, .int .i64 x), (3, .ref 0 0 0 l.length), (0, .list (aggs l))]) (fun x => [.arr 0 27 6 (aggs (l.take x ++ List.replicate (l.length - x) [0, 0, 0, 0, 0, 0]))]) (fun x => x ≤ l.length) (fun x => l.length - x) [4, 3, 0] 0 (by simp [keep]) (by simp) (Nat.zero_le _) fun x hi ih => ?_
  try simp only [take6, List.drop_zero, Int.cast_ofNat_Int, go_sem, ↓reduceIte, Nat.reduceEqDiff, Nat.reduceAdd, Nat.reduceMul, Nat.reduceLeDiff, Nat.reduceLT, Int.reduceLE, Int.reduceLT, reduceCtorEq]
  refine ⟨fun h1 => ⟨by omega, fun h2 => ?_⟩, fun h1 => ?_⟩
  · have h6 : (l.getD x []).length = 6 := by rw [getD_eq h2]; exact hm _ (List.getElem_mem h2)
    try simp only [h6, take6, List.drop_zero, Int.cast_ofNat_Int, go_sem, ↓reduceIte, Nat.reduceEqDiff, Nat.reduceAdd, Nat.reduceMul, Nat.reduceLeDiff, Nat.reduceLT, Int.reduceLE, Int.reduceLT, reduceCtorEq]
    refine (p16 _ h6).go ?_
    try simp only [h6, List.length_take, List.length_replicate, mixA_get _ h2, take6, List.drop_zero, Int.cast_ofNat_Int, go_sem, ↓reduceIte, Nat.reduceEqDiff, Nat.reduceAdd, Nat.reduceMul, Nat.reduceLeDiff, Nat.reduceLT, Int.reduceLE, Int.reduceLT, reduceCtorEq]
    repeat' (first | refine And.intro ?_ ?_ | intro _)
    all_goals (try omega)
    all_goals first
      | (rw [copyA_step _ h2]; exact ih (x + 1) (by omega) (by omega) _ _ (by simp [keep]) rfl)
      | skip
  · obtain rfl : x = l.length := by omega
    have e : l.take l.length ++ List.replicate (l.length - l.length) [0, 0, 0, 0, 0, 0] = l := by simp
    rw [e]
    exact Kv.Fin.now ⟨rfl, rfl⟩
theorem p39 (l : List (List Int)) (hl : l.length ≤ 1048576) (hm : ∀ r ∈ l, r.length = 6) : Pure Try.prog 39 [.list (aggs l)] (.list (aggs l)) :=
  ACall.ret (p39o l hl hm) fun v s ⟨hv, hs⟩ => by
    subst hv; subst hs
    exact Fin.freeze (Imm.refa rfl) ⟨rfl, rfl⟩
theorem takeL_succ_eq {xs ys : List (List Int)} {x : Nat} (ht : xs.take x = ys.take x) (h1 : x < xs.length) (h2 : x < ys.length) (he : xs.getD x [] = ys.getD x []) : xs.take (x + 1) = ys.take (x + 1) := by
  rw [List.take_succ_eq_append_getElem h1, List.take_succ_eq_append_getElem h2, ht]
  simp [List.getD_eq_getElem?_getD, h1, h2] at he
  rw [he]
theorem p41 (a b : List (List Int)) (ha : a.length ≤ 4294967296) (hb : b.length ≤ 4294967296) (hma : ∀ r ∈ a, r.length = 6) (hmb : ∀ r ∈ b, r.length = 6) : Pure Try.prog 41 [.list (aggs a), .list (aggs b)] (.bool (decide (a = b))) := by
  refine e41 (by simp) fun _ _ => ?_
  simp only [k41, argEnv, take6, List.drop_zero, Int.cast_ofNat_Int, go_sem, ↓reduceIte, Nat.reduceEqDiff, Nat.reduceAdd, Nat.reduceMul, Nat.reduceLeDiff, Nat.reduceLT, Int.reduceLE, Int.reduceLT, reduceCtorEq]
  refine ⟨fun h => Kv.Fin.now ⟨?_, rfl⟩, fun h => ?_⟩
  · have : a ≠ b := fun e => h (by rw [e])
    simp [this]
  · have hlen : a.length = b.length := by omega
    refine KL_ind k41_b0.eq_1 (fun x : Nat => [(5, .int .i64 x), (0, .list (aggs a)), (1, .list (aggs b))]) (fun _ => []) (fun x => x ≤ a.length ∧ a.take x = b.take x) (fun x => a.length - x) [5, 0, 1] 0 (by rfl) rfl ⟨Nat.zero_le _, by simp⟩ fun x ⟨hi, ht⟩ ih => ?_
    try simp only [take6, List.drop_zero, Int.cast_ofNat_Int, go_sem, ↓reduceIte, Nat.reduceEqDiff, Nat.reduceAdd, Nat.reduceMul, Nat.reduceLeDiff, Nat.reduceLT, Int.reduceLE, Int.reduceLT, reduceCtorEq]
    refine ⟨fun h1 => ⟨by omega, fun h2 => ?_⟩, fun h1 => ?_⟩
    · have h6 : (a.getD x []).length = 6 := by rw [getD_eq h2]; exact hma _ (List.getElem_mem h2)
      have h2' : x < b.length := by omega
      have h6' : (b.getD x []).length = 6 := by rw [getD_eq h2']; exact hmb _ (List.getElem_mem h2')
      try simp only [h6, h6', h2', take6, List.drop_zero, Int.cast_ofNat_Int, go_sem, ↓reduceIte, Nat.reduceEqDiff, Nat.reduceAdd, Nat.reduceMul, Nat.reduceLeDiff, Nat.reduceLT, Int.reduceLE, Int.reduceLT, reduceCtorEq]
      refine ⟨by omega, ?_⟩
      refine (p30 _ _ h6 h6').pgo ?_
      try simp only [take6, List.drop_zero, Int.cast_ofNat_Int, go_sem, ↓reduceIte, Nat.reduceEqDiff, Nat.reduceAdd, Nat.reduceMul, Nat.reduceLeDiff, Nat.reduceLT, Int.reduceLE, Int.reduceLT, reduceCtorEq]
      refine ⟨fun h4 => ?_, fun h4 => ⟨by omega, ?_⟩⟩
      · have : a ≠ b := fun e => h4 (by rw [e])
        exact Kv.Fin.now ⟨by simp [this], rfl⟩
      · exact ih (x + 1) ⟨by omega, takeL_succ_eq ht h2 h2' h4⟩ (by omega) _ _ (by rfl) rfl
    · obtain rfl : x = a.length := by omega
      have : a = b := by rw [List.take_length, hlen, List.take_length] at ht; exact ht
      exact Kv.Fin.now ⟨by simp [this], rfl⟩
end Go.Proofs.Ytkljidghocnllaa
