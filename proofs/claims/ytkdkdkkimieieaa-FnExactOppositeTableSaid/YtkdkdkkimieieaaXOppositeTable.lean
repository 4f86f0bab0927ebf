/- The law's function of OppositeTable, walked. -/
import Derived.Test.YtkdkdkkimieieaaXOppositeTablec
import Derived.Test.YtkdkdkkimieieaaOP
import Derived.Test.YtkdkdkkimieieaaLO
namespace Go.Proofs.Ytkdkdkkimieieaa
open Go.Kv
set_option linter.unusedVariables false
set_option linter.unusedSimpArgs false
attribute [local irreducible] ACall PCall KL
theorem p12_at (t0 : List (List Int)) (ht0 : t0.length ≤ 9223372036854775807) (hl0 : ∀ r ∈ t0, r.length ≤ 9223372036854775807) {T : List (List Int)} {r : Int} {w : PV} [hw : Still w] (him : ∀ σ, Imm σ w (.list (rows T))) (hs : (t0.length ≤ 1048576 ∧ ∀ r ∈ t0, r.length ≤ 1048576) → Pure Try.prog 44 [.list (rows t0)] (.tup [w, .int .i64 r])) (hi : (t0.length ≤ 1048576 ∧ ∀ r ∈ t0, r.length ≤ 1048576) → NewTO Try.prog 45 [.list (rows t0)] 25 2 T r) (hT : T.length ≤ 1048576 ∧ (∀ r ∈ T, r.length ≤ 1048576) ∧ tot T ≤ 1048576) : Pure Try.prog 12 [.list (rows t0)] (.bool true) := by
  refine e12 (by simp) fun _ _ => ?_
  simp only [k12, argEnv, take6, List.drop_zero, go_sem, ↓reduceIte, Nat.reduceEqDiff, Nat.reduceAdd, Nat.reduceMul, Nat.reduceLeDiff, Nat.reduceLT, Int.reduceLE, Int.reduceLT, reduceCtorEq]
  refine (p32 t0 _ ht0 hl0 (by omega)).go ?_
  simp only [OpK_eq, take6, List.drop_zero, go_sem, ↓reduceIte, Nat.reduceEqDiff, Nat.reduceAdd, Nat.reduceMul, Nat.reduceLeDiff, Nat.reduceLT, Int.reduceLE, Int.reduceLT, reduceCtorEq]
  refine ⟨fun h => Kv.Fin.still ⟨rfl, rfl⟩, fun hz0 => ?_⟩
  obtain ⟨hq0, htot0, hz00, hz10⟩ := szT_all t0 _ (by omega) hz0
  have hs := hs hq0
  have hi := hi hq0
  refine Pure.go (r := .list (rows t0)) (p34 t0 hq0.1 hq0.2) ?_
  simp only [OpK_eq, take6, List.drop_zero, go_sem, ↓reduceIte, Nat.reduceEqDiff, Nat.reduceAdd, Nat.reduceMul, Nat.reduceLeDiff, Nat.reduceLT, Int.reduceLE, Int.reduceLT, reduceCtorEq]
  refine hs.go ?_
  simp only [OpK_eq, take6, List.drop_zero, go_sem, ↓reduceIte, Nat.reduceEqDiff, Nat.reduceAdd, Nat.reduceMul, Nat.reduceLeDiff, Nat.reduceLT, Int.reduceLE, Int.reduceLT, reduceCtorEq]
  refine p34O t0 hq0.1 hq0.2 fun xa0 σ1 o_a0 k1 l1 => ?_
  simp only [OpK_eq, take6, List.drop_zero, go_sem, ↓reduceIte, Nat.reduceEqDiff, Nat.reduceAdd, Nat.reduceMul, Nat.reduceLeDiff, Nat.reduceLT, Int.reduceLE, Int.reduceLT, reduceCtorEq]
  refine hi.lend (.cons o_a0.imm (.nil _)) fun xg σ2 o_g k2 l2 => ?_
  replace o_a0 := o_a0.keep fun j h1 h2 => k2 j (by first | omega | (simp at *; omega))
  simp only [OpK_eq, take6, List.drop_zero, go_sem, ↓reduceIte, Nat.reduceEqDiff, Nat.reduceAdd, Nat.reduceMul, Nat.reduceLeDiff, Nat.reduceLT, Int.reduceLE, Int.reduceLT, reduceCtorEq]
  refine (p36 T T (by omega) (by omega) (fun r hr => by have := hT.2.1 r hr; omega) (fun r hr => by have := hT.2.1 r hr; omega)).lend (.cons o_g.imm (.cons (him _) (.nil _))) ?_
  simp only [OpK_eq, take6, List.drop_zero, go_sem, ↓reduceIte, Nat.reduceEqDiff, Nat.reduceAdd, Nat.reduceMul, Nat.reduceLeDiff, Nat.reduceLT, Int.reduceLE, Int.reduceLT, reduceCtorEq]
  refine Pure.go (r := .list (rows t0)) (p34 t0 hq0.1 hq0.2) ?_
  simp only [OpK_eq, take6, List.drop_zero, go_sem, ↓reduceIte, Nat.reduceEqDiff, Nat.reduceAdd, Nat.reduceMul, Nat.reduceLeDiff, Nat.reduceLT, Int.reduceLE, Int.reduceLT, reduceCtorEq]
  refine (p36 t0 t0 (by omega) (by omega) (fun r hr => by have := hq0.2 r hr; omega) (fun r hr => by have := hq0.2 r hr; omega)).lend (.cons o_a0.imm (.cons Imm.still (.nil _))) ?_
  simp only [OpK_eq, take6, List.drop_zero, go_sem, ↓reduceIte, Nat.reduceEqDiff, Nat.reduceAdd, Nat.reduceMul, Nat.reduceLeDiff, Nat.reduceLT, Int.reduceLE, Int.reduceLT, reduceCtorEq]
  refine p43O o_a0 1 (by omega) (by omega) (by omega) fun σ3 o_a0' k3 l3 => ?_
  replace o_g := o_g.keep fun j h1 h2 => k3 j (by first | omega | (simp at *; omega))
  replace o_a0 := o_a0'
  clear o_a0'
  simp only [OpK_eq, take6, List.drop_zero, go_sem, ↓reduceIte, Nat.reduceEqDiff, Nat.reduceAdd, Nat.reduceMul, Nat.reduceLeDiff, Nat.reduceLT, Int.reduceLE, Int.reduceLT, reduceCtorEq]
  repeat' (first | refine And.intro ?_ ?_ | intro _)
  all_goals (try omega)
  refine (p36 T T (by omega) (by omega) (fun r hr => by have := hT.2.1 r hr; omega) (fun r hr => by have := hT.2.1 r hr; omega)).lend (.cons o_g.imm (.cons (him _) (.nil _))) ?_
  simp only [OpK_eq, take6, List.drop_zero, go_sem, ↓reduceIte, Nat.reduceEqDiff, Nat.reduceAdd, Nat.reduceMul, Nat.reduceLeDiff, Nat.reduceLT, Int.reduceLE, Int.reduceLT, reduceCtorEq]
  refine p43O o_g 1 (by omega) (by omega) (by omega) fun σ4 o_g' k4 l4 => ?_
  replace o_a0 := o_a0.keep fun j h1 h2 => k4 j (by first | omega | (simp at *; omega))
  replace o_g := o_g'
  clear o_g'
  simp only [OpK_eq, take6, List.drop_zero, go_sem, ↓reduceIte, Nat.reduceEqDiff, Nat.reduceAdd, Nat.reduceMul, Nat.reduceLeDiff, Nat.reduceLT, Int.reduceLE, Int.reduceLT, reduceCtorEq]
  refine (p46 1 T (by omega) (by omega) (by omega) (by omega)).lend (.cons o_g.imm (.cons Imm.still (.nil _))) ?_
  simp only [OpK_eq, take6, List.drop_zero, go_sem, ↓reduceIte, Nat.reduceEqDiff, Nat.reduceAdd, Nat.reduceMul, Nat.reduceLeDiff, Nat.reduceLT, Int.reduceLE, Int.reduceLT, reduceCtorEq]
  repeat' (first | refine And.intro ?_ ?_ | intro _)
  all_goals (try omega)
  refine Pure.go (r := .list (rows t0)) (p34 t0 hq0.1 hq0.2) ?_
  simp only [OpK_eq, take6, List.drop_zero, go_sem, ↓reduceIte, Nat.reduceEqDiff, Nat.reduceAdd, Nat.reduceMul, Nat.reduceLeDiff, Nat.reduceLT, Int.reduceLE, Int.reduceLT, reduceCtorEq]
  refine hi.lend (.still inferInstance) fun xh σ5 o_h k5 l5 => ?_
  replace o_a0 := o_a0.keep fun j h1 h2 => k5 j (by first | omega | (simp at *; omega))
  replace o_g := o_g.keep fun j h1 h2 => k5 j (by first | omega | (simp at *; omega))
  simp only [OpK_eq, take6, List.drop_zero, go_sem, ↓reduceIte, Nat.reduceEqDiff, Nat.reduceAdd, Nat.reduceMul, Nat.reduceLeDiff, Nat.reduceLT, Int.reduceLE, Int.reduceLT, reduceCtorEq]
  refine (p36 T T (by omega) (by omega) (fun r hr => by have := hT.2.1 r hr; omega) (fun r hr => by have := hT.2.1 r hr; omega)).lend (.cons o_h.imm (.cons (him _) (.nil _))) ?_
  simp only [OpK_eq, take6, List.drop_zero, go_sem, ↓reduceIte, Nat.reduceEqDiff, Nat.reduceAdd, Nat.reduceMul, Nat.reduceLeDiff, Nat.reduceLT, Int.reduceLE, Int.reduceLT, reduceCtorEq]
  refine (p46 1 T (by omega) (by omega) (by omega) (by omega)).lend (.cons o_g.imm (.cons Imm.still (.nil _))) ?_
  simp only [OpK_eq, take6, List.drop_zero, go_sem, ↓reduceIte, Nat.reduceEqDiff, Nat.reduceAdd, Nat.reduceMul, Nat.reduceLeDiff, Nat.reduceLT, Int.reduceLE, Int.reduceLT, reduceCtorEq]
  repeat' (first | refine And.intro ?_ ?_ | intro _)
  all_goals (try omega)
  exact Kv.Fin.still ⟨rfl, rfl⟩
theorem tot_const (n : Nat) : ∀ (t : List (List Int)), (∀ r ∈ t, r.length = n) → tot t = t.length * n
  | [], _ => by simp [tot]
  | a :: t, h => by
    simp only [tot, List.length_cons, Nat.succ_mul, h a (by simp), tot_const n t fun r hr => h r (by simp [hr])]
    omega
theorem p12 (t : List (List Int)) (ht : t.length ≤ 9223372036854775807) (hl : ∀ r ∈ t, r.length ≤ 9223372036854775807) : Pure Try.prog 12 [.list (rows t)] (.bool true) := by
  cases h : isTab t with
  | true =>
    have hn := (tab_sq h).1
    have hr : ∀ r ∈ opp t t.length, r.length = t.length := fun r hr => by
      simp only [opp, List.mem_map] at hr
      obtain ⟨a, _, rfl⟩ := hr
      simp
    refine p12_at t ht hl (fun _ => Imm.still) (fun hq => p44_in t hq.1 hq.2 h) (fun hq => NewTN.own (p45_in t hq.1 hq.2 h)) ⟨by simp; omega, fun r h' => by rw [hr r h']; omega, ?_⟩
    rw [tot_const _ _ hr, opp_length]
    have := Nat.mul_le_mul hn.2 hn.2
    omega
  | false => exact p12_at t ht hl (T := []) (fun _ => Imm.nils) (fun hq => p44_out t hq.1 hq.2 h) (fun hq => Pure.ownT (p45_out t hq.1 hq.2 h)) ⟨by simp, by simp, by simp [tot]⟩
end Go.Proofs.Ytkdkdkkimieieaa
