/- CountTableSymmetries: the implementation's side. -/
import Derived.Test.YtkljidghocnllaaFSc
import Derived.Test.YtkljidghocnllaaFR
namespace Go.Proofs.Ytkljidghocnllaa
open Go.Kv
set_option linter.unusedVariables false
set_option linter.unusedSimpArgs false
attribute [local irreducible] ACall PCall KL
theorem p69 (a b : List (List Int)) : Each a b 69 false (fun s : Nat => .int .i64 s) (fun _ => .nils) (fun _ => []) := fun s p v tail hp hpx hP hs => by
  refine e69 (by simp) fun _ _ => ?_
  simp only [k69, argEnv, take6, List.drop_zero, Int.cast_ofNat_Int, go_sem, ↓reduceIte, Nat.reduceEqDiff, Nat.reduceAdd, Nat.reduceMul, Nat.reduceLeDiff, Nat.reduceLT, Int.reduceLE, Int.reduceLT, reduceCtorEq]
  refine ⟨by omega, Kv.Fin.now ⟨true, .int .i64 (s + 1 : Nat), [], rfl, by simp, .inr ⟨.inl rfl, rfl, rfl, rfl⟩⟩⟩
theorem fc_new (a b : List (List Int)) (f : Nat) : fcells a b .nils [] f = [.list (rows a), .list (rows b), .nils, .bool false, .bool false, .bool false, .bool false, .bool false, .bool false, .bool false, .bool false, .bool false, .bool false, .fn (.func f) [] [.ptr 0 0]] := by
  simp [fcells, usedOf, List.range_succ]
theorem fitA_nil (a b : List (List Int)) : fitA a b [] := fun i k hi => by simp at hi
theorem syc_bound {a : List (List Int)} (h10 : a.length ≤ 10) : syc a a.length [] ≤ 100000000000 := by
  have h1 := (syc_le a a.length []).1
  have h2 : a.length ^ a.length ≤ 10 ^ a.length := Nat.pow_le_pow_left h10 _
  have h3 : 10 ^ a.length ≤ 10 ^ 10 := Nat.pow_le_pow_right (by omega) h10
  omega
theorem p26 (t : List (List Int)) (ht : t.length ≤ 1048576) (hl : ∀ r ∈ t, r.length ≤ 1048576) : Pure Try.prog 26 [.list (rows t)] (.tup [.int .i64 (if isTab t = true ∧ t.length ≤ 10 then (syc t t.length [] : Int) else 0), .int .i64 (if isTab t = false then 2 else if t.length ≤ 10 then 0 else 3)]) := by
  refine e26 (by simp) fun _ _ => ?_
  simp only [k26, argEnv, take6, List.drop_zero, Int.cast_ofNat_Int, go_sem, ↓reduceIte, Nat.reduceEqDiff, Nat.reduceAdd, Nat.reduceMul, Nat.reduceLeDiff, Nat.reduceLT, Int.reduceLE, Int.reduceLT, reduceCtorEq]
  refine (p68 t ht hl).go ?_
  cases hb : isTab t with
  | false =>
    try simp only [take6, List.drop_zero, Int.cast_ofNat_Int, go_sem, ↓reduceIte, Nat.reduceEqDiff, Nat.reduceAdd, Nat.reduceMul, Nat.reduceLeDiff, Nat.reduceLT, Int.reduceLE, Int.reduceLT, reduceCtorEq]
    exact Kv.Fin.still ⟨by simp, rfl⟩
  | true =>
    try simp only [take6, List.drop_zero, Int.cast_ofNat_Int, go_sem, ↓reduceIte, Nat.reduceEqDiff, Nat.reduceAdd, Nat.reduceMul, Nat.reduceLeDiff, Nat.reduceLT, Int.reduceLE, Int.reduceLT, reduceCtorEq]
    refine ⟨fun h1 => Kv.Fin.still ⟨?_, rfl⟩, fun h1 => ?_⟩
    · have h2 : ¬ t.length ≤ 10 := by omega
      simp [h2]
    · have h2 : t.length ≤ 10 := by omega
      rw [← fc_new]
      have hc := comps_syc t t.length []
      refine ⟨rfl, ?_⟩
      refine (p70 t t hb hb rfl h2 69 false (fun s : Nat => .int .i64 s) (fun _ => .nils) (fun _ => []) (fun _ => inferInstance) (fun _ => rfl) (p69 t t) t.length [] 0 .nils [] (by simp) (by simp) (fitA_nil t t) (by have := syc_bound h2; omega) (.inl ⟨rfl, rfl, rfl⟩)).mono fun w σ' ⟨r, Z, m, v', tail', hw, hσ, hP', ho⟩ => ?_
      subst hw; subst hσ
      rcases ho with ⟨h, _⟩ | ⟨_, hr, hZ, hm⟩
      · cases h
      subst hZ
      try simp only [OpK_eq, take6, List.drop_zero, Int.cast_ofNat_Int, go_sem, ↓reduceIte, Nat.reduceEqDiff, Nat.reduceAdd, Nat.reduceMul, Nat.reduceLeDiff, Nat.reduceLT, Int.reduceLE, Int.reduceLT, reduceCtorEq]
      exact Kv.Fin.still ⟨by simp [h2, hc.1], rfl⟩
end Go.Proofs.Ytkljidghocnllaa
