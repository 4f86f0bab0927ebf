/- The law's function of InvariantPartitions, walked. -/
import Derived.Test.YtkljidghocnllaaXInvariantPartitionsc
import Derived.Test.YtkljidghocnllaaIP
import Derived.Test.YtkljidghocnllaaEqM
import Derived.Test.YtkljidghocnllaaLO
import Derived.Test.YtkljidghocnllaaLA
import Derived.Test.YtkljidghocnllaaLB
import Derived.Test.YtkljidghocnllaaOT
import Derived.Test.YtkljidghocnllaaSB
namespace Go.Proofs.Ytkljidghocnllaa
open Go.Kv
set_option linter.unusedVariables false
set_option linter.unusedSimpArgs false
attribute [local irreducible] ACall PCall KL
theorem hkt_InvariantPartitions (σ : Heap) (K : PV → Heap → Prop) (l : List PV) : HK σ K (.tup l) = K (.tup l) σ := rfl
theorem p12_at (t0 : List (List Int)) (ht0 : t0.length ≤ 9223372036854775807) (hm0 : ∀ r ∈ t0, r.length = 6) {T : List (List Int)} {r : Int} {w : PV} [hw : Still w] (him : ∀ σ, Imm σ w (.list (rows T))) (hs : t0.length ≤ 1048576 → Pure Try.prog 51 [.list (aggs t0)] (.tup [w, .int .i64 r])) (hi : t0.length ≤ 1048576 → NewTO Try.prog 52 [.list (aggs t0)] 50 2 T r) (hT : T.length ≤ 1048576 ∧ (∀ r ∈ T, r.length ≤ 1048576) ∧ tot T ≤ 1048576) : Pure Try.prog 12 [.list (aggs t0)] (.bool true) := by
  refine e12 (by simp) fun _ _ => ?_
  simp only [k12, argEnv, take6, List.drop_zero, Int.cast_ofNat_Int, go_sem, ↓reduceIte, Nat.reduceEqDiff, Nat.reduceAdd, Nat.reduceMul, Nat.reduceLeDiff, Nat.reduceLT, Int.reduceLE, Int.reduceLT, reduceCtorEq]
  refine (p37 t0 _ ht0 (by omega)).go ?_
  try simp only [OpK_eq, bne_self_eq_false, hkt_InvariantPartitions, take6, List.drop_zero, Int.cast_ofNat_Int, go_sem, ↓reduceIte, Nat.reduceEqDiff, Nat.reduceAdd, Nat.reduceMul, Nat.reduceLeDiff, Nat.reduceLT, Int.reduceLE, Int.reduceLT, reduceCtorEq]
  refine ⟨fun h => Kv.Fin.still ⟨rfl, rfl⟩, fun hz0 => ?_⟩
  obtain ⟨hq0, hz00, hz10⟩ := szA_all t0.length _ (by omega) hz0
  have hs := hs hq0
  have hi := hi hq0
  refine Pure.go (r := .list (aggs t0)) (p39 t0 hq0 hm0) ?_
  try simp only [OpK_eq, bne_self_eq_false, hkt_InvariantPartitions, take6, List.drop_zero, Int.cast_ofNat_Int, go_sem, ↓reduceIte, Nat.reduceEqDiff, Nat.reduceAdd, Nat.reduceMul, Nat.reduceLeDiff, Nat.reduceLT, Int.reduceLE, Int.reduceLT, reduceCtorEq]
  first | refine hs.go ?_ | refine hs.pgo ?_
  try simp only [OpK_eq, bne_self_eq_false, hkt_InvariantPartitions, take6, List.drop_zero, Int.cast_ofNat_Int, go_sem, ↓reduceIte, Nat.reduceEqDiff, Nat.reduceAdd, Nat.reduceMul, Nat.reduceLeDiff, Nat.reduceLT, Int.reduceLE, Int.reduceLT, reduceCtorEq]
  refine p39O t0 hq0 hm0 fun xa0 σ1 o_a0 k1 l1 => ?_
  try simp only [OpK_eq, bne_self_eq_false, hkt_InvariantPartitions, take6, List.drop_zero, Int.cast_ofNat_Int, go_sem, ↓reduceIte, Nat.reduceEqDiff, Nat.reduceAdd, Nat.reduceMul, Nat.reduceLeDiff, Nat.reduceLT, Int.reduceLE, Int.reduceLT, reduceCtorEq]
  refine hi.lend (.cons o_a0.imm (.nil _)) fun xg σ2 o_g k2 l2 => ?_
  replace o_a0 := o_a0.keep fun j h1 h2 => k2 j (by first | omega | (simp at *; omega))
  try simp only [OpK_eq, bne_self_eq_false, hkt_InvariantPartitions, take6, List.drop_zero, Int.cast_ofNat_Int, go_sem, ↓reduceIte, Nat.reduceEqDiff, Nat.reduceAdd, Nat.reduceMul, Nat.reduceLeDiff, Nat.reduceLT, Int.reduceLE, Int.reduceLT, reduceCtorEq]
  refine (p27 T T (by omega) (by omega) (fun r hr => by have := hT.2.1 r hr; omega) (fun r hr => by have := hT.2.1 r hr; omega)).lend (.cons o_g.imm (.cons (him _) (.nil _))) ?_
  try simp only [OpK_eq, bne_self_eq_false, hkt_InvariantPartitions, take6, List.drop_zero, Int.cast_ofNat_Int, go_sem, ↓reduceIte, Nat.reduceEqDiff, Nat.reduceAdd, Nat.reduceMul, Nat.reduceLeDiff, Nat.reduceLT, Int.reduceLE, Int.reduceLT, reduceCtorEq]
  refine Pure.go (r := .list (aggs t0)) (p39 t0 hq0 hm0) ?_
  try simp only [OpK_eq, bne_self_eq_false, hkt_InvariantPartitions, take6, List.drop_zero, Int.cast_ofNat_Int, go_sem, ↓reduceIte, Nat.reduceEqDiff, Nat.reduceAdd, Nat.reduceMul, Nat.reduceLeDiff, Nat.reduceLT, Int.reduceLE, Int.reduceLT, reduceCtorEq]
  refine (p41 t0 t0 (by omega) (by omega) hm0 hm0).lend (.cons o_a0.imm (.cons Imm.still (.nil _))) ?_
  try simp only [OpK_eq, bne_self_eq_false, hkt_InvariantPartitions, take6, List.drop_zero, Int.cast_ofNat_Int, go_sem, ↓reduceIte, Nat.reduceEqDiff, Nat.reduceAdd, Nat.reduceMul, Nat.reduceLeDiff, Nat.reduceLT, Int.reduceLE, Int.reduceLT, reduceCtorEq]
  refine p42O o_a0 1 (by omega) hm0 (by omega) fun σ3 o_a0' k3 l3 => ?_
  replace o_g := o_g.keep fun j h1 h2 => k3 j (by first | omega | (simp at *; omega))
  replace o_a0 := o_a0'
  clear o_a0'
  try simp only [OpK_eq, bne_self_eq_false, hkt_InvariantPartitions, take6, List.drop_zero, Int.cast_ofNat_Int, go_sem, ↓reduceIte, Nat.reduceEqDiff, Nat.reduceAdd, Nat.reduceMul, Nat.reduceLeDiff, Nat.reduceLT, Int.reduceLE, Int.reduceLT, reduceCtorEq]
  repeat' (first | refine And.intro ?_ ?_ | intro _)
  all_goals (try omega)
  refine (p27 T T (by omega) (by omega) (fun r hr => by have := hT.2.1 r hr; omega) (fun r hr => by have := hT.2.1 r hr; omega)).lend (.cons o_g.imm (.cons (him _) (.nil _))) ?_
  try simp only [OpK_eq, bne_self_eq_false, hkt_InvariantPartitions, take6, List.drop_zero, Int.cast_ofNat_Int, go_sem, ↓reduceIte, Nat.reduceEqDiff, Nat.reduceAdd, Nat.reduceMul, Nat.reduceLeDiff, Nat.reduceLT, Int.reduceLE, Int.reduceLT, reduceCtorEq]
  refine p34O o_g 1 (by omega) (by omega) (by omega) fun σ4 o_g' k4 l4 => ?_
  replace o_a0 := o_a0.keep fun j h1 h2 => k4 j (by first | omega | (simp at *; omega))
  replace o_g := o_g'
  clear o_g'
  try simp only [OpK_eq, bne_self_eq_false, hkt_InvariantPartitions, take6, List.drop_zero, Int.cast_ofNat_Int, go_sem, ↓reduceIte, Nat.reduceEqDiff, Nat.reduceAdd, Nat.reduceMul, Nat.reduceLeDiff, Nat.reduceLT, Int.reduceLE, Int.reduceLT, reduceCtorEq]
  refine (p53 1 T (by omega) (by omega) (by omega) (by omega)).lend (.cons o_g.imm (.cons Imm.still (.nil _))) ?_
  try simp only [OpK_eq, bne_self_eq_false, hkt_InvariantPartitions, take6, List.drop_zero, Int.cast_ofNat_Int, go_sem, ↓reduceIte, Nat.reduceEqDiff, Nat.reduceAdd, Nat.reduceMul, Nat.reduceLeDiff, Nat.reduceLT, Int.reduceLE, Int.reduceLT, reduceCtorEq]
  repeat' (first | refine And.intro ?_ ?_ | intro _)
  all_goals (try omega)
  refine Pure.go (r := .list (aggs t0)) (p39 t0 hq0 hm0) ?_
  try simp only [OpK_eq, bne_self_eq_false, hkt_InvariantPartitions, take6, List.drop_zero, Int.cast_ofNat_Int, go_sem, ↓reduceIte, Nat.reduceEqDiff, Nat.reduceAdd, Nat.reduceMul, Nat.reduceLeDiff, Nat.reduceLT, Int.reduceLE, Int.reduceLT, reduceCtorEq]
  refine hi.lend (.still inferInstance) fun xh σ5 o_h k5 l5 => ?_
  replace o_a0 := o_a0.keep fun j h1 h2 => k5 j (by first | omega | (simp at *; omega))
  replace o_g := o_g.keep fun j h1 h2 => k5 j (by first | omega | (simp at *; omega))
  try simp only [OpK_eq, bne_self_eq_false, hkt_InvariantPartitions, take6, List.drop_zero, Int.cast_ofNat_Int, go_sem, ↓reduceIte, Nat.reduceEqDiff, Nat.reduceAdd, Nat.reduceMul, Nat.reduceLeDiff, Nat.reduceLT, Int.reduceLE, Int.reduceLT, reduceCtorEq]
  refine (p27 T T (by omega) (by omega) (fun r hr => by have := hT.2.1 r hr; omega) (fun r hr => by have := hT.2.1 r hr; omega)).lend (.cons o_h.imm (.cons (him _) (.nil _))) ?_
  try simp only [OpK_eq, bne_self_eq_false, hkt_InvariantPartitions, take6, List.drop_zero, Int.cast_ofNat_Int, go_sem, ↓reduceIte, Nat.reduceEqDiff, Nat.reduceAdd, Nat.reduceMul, Nat.reduceLeDiff, Nat.reduceLT, Int.reduceLE, Int.reduceLT, reduceCtorEq]
  refine (p53 1 T (by omega) (by omega) (by omega) (by omega)).lend (.cons o_g.imm (.cons Imm.still (.nil _))) ?_
  try simp only [OpK_eq, bne_self_eq_false, hkt_InvariantPartitions, take6, List.drop_zero, Int.cast_ofNat_Int, go_sem, ↓reduceIte, Nat.reduceEqDiff, Nat.reduceAdd, Nat.reduceMul, Nat.reduceLeDiff, Nat.reduceLT, Int.reduceLE, Int.reduceLT, reduceCtorEq]
  repeat' (first | refine And.intro ?_ ?_ | intro _)
  all_goals (try omega)
  exact Kv.Fin.still ⟨rfl, rfl⟩
theorem tot_const (n : Nat) : ∀ (t : List (List Int)), (∀ r ∈ t, r.length = n) → tot t = t.length * n
  | [], _ => by simp [tot]
  | a :: t, h => by
    simp only [tot, List.length_cons, Nat.succ_mul, h a (by simp), tot_const n t fun r hr => h r (by simp [hr])]
    omega
theorem p12 (a : List (List Int)) (ha : a.length ≤ 9223372036854775807) (h6 : ∀ r ∈ a, r.length = 6) : Pure Try.prog 12 [.list (aggs a)] (.bool true) := by
  by_cases h : lcode a [] = 0
  · obtain ⟨fs, n, e, hf, hl1, hl2, hn, hn1, hn5⟩ := lcode_maps h6 h
    have e2 : ipc a = ivs fs n := by rw [ipc, if_pos h, e, map_um, ← e, hn]; rfl
    have hok := ivs_ok (fs := fs) hn5
    have hs := fun h1 => p51 a h1 h6
    rw [if_pos h] at hs
    refine p12_at a ha h6 (fun _ => Imm.still) hs (fun h1 => p52 a h1 h6) ?_
    rw [e2]
    refine ⟨by omega, fun r hr => by rw [hok.2 r hr]; omega, ?_⟩
    rw [tot_const _ _ hok.2]
    have := Nat.mul_le_mul hok.1 hn5
    omega
  · have hs := fun h1 => p51 a h1 h6
    rw [if_neg h] at hs
    have hi := fun h1 => p52 a h1 h6
    have e : ipc a = [] := by rw [ipc, if_neg h]
    rw [e] at hi
    exact p12_at a ha h6 (w := .nils) (fun _ => Imm.nils) hs hi ⟨by simp, by simp, by simp [tot]⟩
end Go.Proofs.Ytkljidghocnllaa
