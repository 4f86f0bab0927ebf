/- CountTableSymmetries: the implementation's side. -/
import Derived.Test.YtkljidghocnllaaCb
import Derived.Test.YtkljidghocnllaaFR
namespace Go.Proofs.Ytkljidghocnllaa
open Go.Kv
set_option maxRecDepth 100000
/- impl.CountTableSymmetries -/
def k26 : KC := (.seq (.ops [⟨(some 2), none, .mv (.c (.int .i64 0))⟩, ⟨(some 3), none, .mv (.c (.int .i64 0))⟩])
  (.seq (.block 0 (.seq (.ops [⟨(some 7), none, .mv (.t 0)⟩, ⟨(some 8), none, .call (.c (.fn (.func 68) [] [])) [(.t 7)]⟩, ⟨(some 9), none, .not (.t 8)⟩, ⟨(some 6), none, .mv (.t 9)⟩])
  (.cond (.t 6) (.seq (.ops [⟨(some 2), none, .mv (.c (.int .i64 0))⟩, ⟨(some 3), none, .mv (.c (.int .i64 2))⟩])
  .ret) (.seq (.ops [⟨(some 11), none, .mv (.t 0)⟩, ⟨(some 12), none, .len false (.t 11)⟩, ⟨(some 13), none, .bin .gtr (.t 12) (.c (.int .i64 10))⟩, ⟨(some 10), none, .mv (.t 13)⟩])
  (.cond (.t 10) (.seq (.ops [⟨(some 2), none, .mv (.c (.int .i64 0))⟩, ⟨(some 3), none, .mv (.c (.int .i64 3))⟩])
  .ret) .skip)))))
  (.seq (.ops [⟨(some 4), none, .alloc [.int .i64 0]⟩, ⟨none, none, .store 1 (.t 4) (.c (.int .i64 0))⟩])
  (.seq (.ops [⟨(some 14), none, .mv (.t 0)⟩, ⟨(some 15), none, .mv (.t 0)⟩, ⟨(some 16), none, .mkfn (.func 69) [] [(.t 4)]⟩, ⟨(some 17), none, .build [.nils, .nils, .nils, .bool false, .bool false, .bool false, .bool false, .bool false, .bool false, .bool false, .bool false, .bool false, .bool false, .nilf] [(0, 1, (.t 14)), (1, 1, (.t 15)), (13, 1, (.t 16))]⟩, ⟨(some 18), none, .box false (.t 17)⟩, ⟨(some 5), none, .mv (.t 18)⟩])
  (.seq (.ops [⟨(some 19), none, .mv (.t 5)⟩, ⟨(some 20), none, .call (.c (.fn (.func 70) [] [])) [(.t 19)]⟩])
  (.seq (.ops [⟨(some 21), none, .load false 1 (.t 4)⟩, ⟨(some 2), none, .mv (.t 21)⟩, ⟨(some 3), none, .mv (.c (.int .i64 0))⟩])
  .ret))))))
theorem e26 {args : List PV} {σ : Heap} {K : PV → Heap → Prop} (hl : args.length ≤ 22) (h : Wf σ → (∀ a ∈ args, PV.upto σ.length a) → vc (mkCfg Try.prog mixed [] 22 σ.length) k26 (FinK σ.length [.t 2, .t 3] K) (argEnv 0 args) σ) : ACall Try.prog 26 args σ K :=
  ACall_enter (C := mkCfg Try.prog mixed [] 22 σ.length) (c := Try.f26.body.getD .skip) Try.func26 (by kernel_rfl) (by kernel_rfl) (by kernel_rfl) rfl hl (by kernel_rfl) (by kernel_rfl) h
end Go.Proofs.Ytkljidghocnllaa
namespace Go.Proofs.Ytkljidghocnllaa
open Go.Kv
set_option linter.unusedVariables false
set_option linter.unusedSimpArgs false
attribute [local irreducible] ACall PCall KL
theorem p69 (a b : List (List Int)) : Each a b 69 false (fun s : Nat => .int .i64 s) (fun _ => .nils) (fun _ => []) := fun s p v tail hp hpx hP hs => by
  refine e69 (by simp) fun _ _ => ?_
  simp only [k69, argEnv, take6, List.drop_zero, Int.cast_ofNat_Int, go_sem, ↓reduceIte, Nat.reduceEqDiff, Nat.reduceAdd, Nat.reduceMul, Nat.reduceLeDiff, Nat.reduceLT, Int.reduceLE, Int.reduceLT, reduceCtorEq]
  refine ⟨by omega, Kv.Fin.now ⟨true, .int .i64 (s + 1 : Nat), [], rfl, by simp, .inr ⟨.inl rfl, rfl, rfl, rfl⟩⟩⟩
theorem fc_new (a b : List (List Int)) (f : Nat) : fcells a b .nils [] f = [.list (rows a), .list (rows b), .nils, .bool false, .bool false, .bool false, .bool false, .bool false, .bool false, .bool false, .bool false, .bool false, .bool false, .fn (.func f) [] [.ptr 0 0]] := by
  simp [fcells, usedOf, List.range_succ]
theorem fitA_nil (a b : List (List Int)) : fitA a b [] := fun i k hi => by simp at hi
theorem syc_bound {a : List (List Int)} (h10 : a.length ≤ 10) : syc a a.length [] ≤ 100000000000 := by
  have h1 := (syc_le a a.length []).1
  have h2 : a.length ^ a.length ≤ 10 ^ a.length := Nat.pow_le_pow_left h10 _
  have h3 : 10 ^ a.length ≤ 10 ^ 10 := Nat.pow_le_pow_right (by omega) h10
  omega
theorem p26 (t : List (List Int)) (ht : t.length ≤ 1048576) (hl : ∀ r ∈ t, r.length ≤ 1048576) : Pure Try.prog 26 [.list (rows t)] (.tup [.int .i64 (if isTab t = true ∧ t.length ≤ 10 then (syc t t.length [] : Int) else 0), .int .i64 (if isTab t = false then 2 else if t.length ≤ 10 then 0 else 3)]) := by
  refine e26 (by simp) fun _ _ => ?_
  simp only [k26, argEnv, take6, List.drop_zero, Int.cast_ofNat_Int, go_sem, ↓reduceIte, Nat.reduceEqDiff, Nat.reduceAdd, Nat.reduceMul, Nat.reduceLeDiff, Nat.reduceLT, Int.reduceLE, Int.reduceLT, reduceCtorEq]
  refine (p68 t ht hl).go ?_
  cases hb : isTab t with
  | false =>
    try simp only [take6, List.drop_zero, Int.cast_ofNat_Int, go_sem, ↓reduceIte, Nat.reduceEqDiff, Nat.reduceAdd, Nat.reduceMul, Nat.reduceLeDiff, Nat.reduceLT, Int.reduceLE, Int.reduceLT, reduceCtorEq]
    exact Kv.Fin.still ⟨by simp, rfl⟩
  | true =>
    try simp only [take6, List.drop_zero, Int.cast_ofNat_Int, go_sem, ↓reduceIte, Nat.reduceEqDiff, Nat.reduceAdd, Nat.reduceMul, Nat.reduceLeDiff, Nat.reduceLT, Int.reduceLE, Int.reduceLT, reduceCtorEq]
    refine ⟨fun h1 => Kv.Fin.still ⟨?_, rfl⟩, fun h1 => ?_⟩
    · have h2 : ¬ t.length ≤ 10 := by omega
      simp [h2]
    · have h2 : t.length ≤ 10 := by omega
      rw [← fc_new]
      have hc := comps_syc t t.length []
      refine ⟨rfl, ?_⟩
      refine (p70 t t hb hb rfl h2 69 false (fun s : Nat => .int .i64 s) (fun _ => .nils) (fun _ => []) (fun _ => inferInstance) (fun _ => rfl) (p69 t t) t.length [] 0 .nils [] (by simp) (by simp) (fitA_nil t t) (by have := syc_bound h2; omega) (.inl ⟨rfl, rfl, rfl⟩)).mono fun w σ' ⟨r, Z, m, v', tail', hw, hσ, hP', ho, _⟩ => ?_
      subst hw; subst hσ
      rcases ho with ⟨h, _⟩ | ⟨_, hr, hZ, hm⟩
      · cases h
      subst hZ
      try simp only [OpK_eq, take6, List.drop_zero, Int.cast_ofNat_Int, go_sem, ↓reduceIte, Nat.reduceEqDiff, Nat.reduceAdd, Nat.reduceMul, Nat.reduceLeDiff, Nat.reduceLT, Int.reduceLE, Int.reduceLT, reduceCtorEq]
      exact Kv.Fin.still ⟨by simp [h2, hc.1], rfl⟩
end Go.Proofs.Ytkljidghocnllaa
