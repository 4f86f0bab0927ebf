/- The law's function of ProductTable, walked. -/
import Derived.Test.YtkdkdkkimieieaaXProductTablec
import Derived.Test.YtkdkdkkimieieaaPT
import Derived.Test.YtkdkdkkimieieaaLO
namespace Go.Proofs.Ytkdkdkkimieieaa
open Go.Kv
set_option linter.unusedVariables false
set_option linter.unusedSimpArgs false
attribute [local irreducible] ACall PCall KL
theorem p14_at (t0 : List (List Int)) (ht0 : t0.length ≤ 9223372036854775807) (hl0 : ∀ r ∈ t0, r.length ≤ 9223372036854775807) (t1 : List (List Int)) (ht1 : t1.length ≤ 9223372036854775807) (hl1 : ∀ r ∈ t1, r.length ≤ 9223372036854775807) {T : List (List Int)} {r : Int} {w : PV} [hw : Still w] (him : ∀ σ, Imm σ w (.list (rows T))) (hs : (t0.length ≤ 1048576 ∧ ∀ r ∈ t0, r.length ≤ 1048576) → (t1.length ≤ 1048576 ∧ ∀ r ∈ t1, r.length ≤ 1048576) → Pure Try.prog 49 [.list (rows t0), .list (rows t1)] (.tup [w, .int .i64 r])) (hi : (t0.length ≤ 1048576 ∧ ∀ r ∈ t0, r.length ≤ 1048576) → (t1.length ≤ 1048576 ∧ ∀ r ∈ t1, r.length ≤ 1048576) → NewTO Try.prog 50 [.list (rows t0), .list (rows t1)] 25 2 T r) (hT : T.length ≤ 1048576 ∧ (∀ r ∈ T, r.length ≤ 1048576) ∧ tot T ≤ 1048576) : Pure Try.prog 14 [.list (rows t0), .list (rows t1)] (.bool true) := by
  refine e14 (by simp) fun _ _ => ?_
  simp only [k14, argEnv, take6, List.drop_zero, go_sem, ↓reduceIte, Nat.reduceEqDiff, Nat.reduceAdd, Nat.reduceMul, Nat.reduceLeDiff, Nat.reduceLT, Int.reduceLE, Int.reduceLT, reduceCtorEq]
  refine (p32 t0 _ ht0 hl0 (by omega)).go ?_
  simp only [OpK_eq, take6, List.drop_zero, go_sem, ↓reduceIte, Nat.reduceEqDiff, Nat.reduceAdd, Nat.reduceMul, Nat.reduceLeDiff, Nat.reduceLT, Int.reduceLE, Int.reduceLT, reduceCtorEq]
  refine ⟨fun h => Kv.Fin.still ⟨rfl, rfl⟩, fun hz0 => ?_⟩
  obtain ⟨hq0, htot0, hz00, hz10⟩ := szT_all t0 _ (by omega) hz0
  refine (p32 t1 _ ht1 hl1 (by omega)).go ?_
  simp only [OpK_eq, take6, List.drop_zero, go_sem, ↓reduceIte, Nat.reduceEqDiff, Nat.reduceAdd, Nat.reduceMul, Nat.reduceLeDiff, Nat.reduceLT, Int.reduceLE, Int.reduceLT, reduceCtorEq]
  refine ⟨fun h => Kv.Fin.still ⟨rfl, rfl⟩, fun hz1 => ?_⟩
  obtain ⟨hq1, htot1, hz01, hz11⟩ := szT_all t1 _ (by omega) hz1
  have hs := hs hq0 hq1
  have hi := hi hq0 hq1
  refine Pure.go (r := .list (rows t0)) (p34 t0 hq0.1 hq0.2) ?_
  simp only [OpK_eq, take6, List.drop_zero, go_sem, ↓reduceIte, Nat.reduceEqDiff, Nat.reduceAdd, Nat.reduceMul, Nat.reduceLeDiff, Nat.reduceLT, Int.reduceLE, Int.reduceLT, reduceCtorEq]
  refine Pure.go (r := .list (rows t1)) (p34 t1 hq1.1 hq1.2) ?_
  simp only [OpK_eq, take6, List.drop_zero, go_sem, ↓reduceIte, Nat.reduceEqDiff, Nat.reduceAdd, Nat.reduceMul, Nat.reduceLeDiff, Nat.reduceLT, Int.reduceLE, Int.reduceLT, reduceCtorEq]
  refine hs.go ?_
  simp only [OpK_eq, take6, List.drop_zero, go_sem, ↓reduceIte, Nat.reduceEqDiff, Nat.reduceAdd, Nat.reduceMul, Nat.reduceLeDiff, Nat.reduceLT, Int.reduceLE, Int.reduceLT, reduceCtorEq]
  refine p34O t0 hq0.1 hq0.2 fun xa0 σ1 o_a0 k1 l1 => ?_
  simp only [OpK_eq, take6, List.drop_zero, go_sem, ↓reduceIte, Nat.reduceEqDiff, Nat.reduceAdd, Nat.reduceMul, Nat.reduceLeDiff, Nat.reduceLT, Int.reduceLE, Int.reduceLT, reduceCtorEq]
  refine p34O t1 hq1.1 hq1.2 fun xa1 σ2 o_a1 k2 l2 => ?_
  replace o_a0 := o_a0.keep fun j h1 h2 => k2 j (by first | omega | (simp at *; omega))
  simp only [OpK_eq, take6, List.drop_zero, go_sem, ↓reduceIte, Nat.reduceEqDiff, Nat.reduceAdd, Nat.reduceMul, Nat.reduceLeDiff, Nat.reduceLT, Int.reduceLE, Int.reduceLT, reduceCtorEq]
  refine hi.lend (.cons o_a0.imm (.cons o_a1.imm (.nil _))) fun xg σ3 o_g k3 l3 => ?_
  replace o_a0 := o_a0.keep fun j h1 h2 => k3 j (by first | omega | (simp at *; omega))
  replace o_a1 := o_a1.keep fun j h1 h2 => k3 j (by first | omega | (simp at *; omega))
  simp only [OpK_eq, take6, List.drop_zero, go_sem, ↓reduceIte, Nat.reduceEqDiff, Nat.reduceAdd, Nat.reduceMul, Nat.reduceLeDiff, Nat.reduceLT, Int.reduceLE, Int.reduceLT, reduceCtorEq]
  refine (p36 T T (by omega) (by omega) (fun r hr => by have := hT.2.1 r hr; omega) (fun r hr => by have := hT.2.1 r hr; omega)).lend (.cons o_g.imm (.cons (him _) (.nil _))) ?_
  simp only [OpK_eq, take6, List.drop_zero, go_sem, ↓reduceIte, Nat.reduceEqDiff, Nat.reduceAdd, Nat.reduceMul, Nat.reduceLeDiff, Nat.reduceLT, Int.reduceLE, Int.reduceLT, reduceCtorEq]
  refine Pure.go (r := .list (rows t0)) (p34 t0 hq0.1 hq0.2) ?_
  simp only [OpK_eq, take6, List.drop_zero, go_sem, ↓reduceIte, Nat.reduceEqDiff, Nat.reduceAdd, Nat.reduceMul, Nat.reduceLeDiff, Nat.reduceLT, Int.reduceLE, Int.reduceLT, reduceCtorEq]
  refine (p36 t0 t0 (by omega) (by omega) (fun r hr => by have := hq0.2 r hr; omega) (fun r hr => by have := hq0.2 r hr; omega)).lend (.cons o_a0.imm (.cons Imm.still (.nil _))) ?_
  simp only [OpK_eq, take6, List.drop_zero, go_sem, ↓reduceIte, Nat.reduceEqDiff, Nat.reduceAdd, Nat.reduceMul, Nat.reduceLeDiff, Nat.reduceLT, Int.reduceLE, Int.reduceLT, reduceCtorEq]
  refine Pure.go (r := .list (rows t1)) (p34 t1 hq1.1 hq1.2) ?_
  simp only [OpK_eq, take6, List.drop_zero, go_sem, ↓reduceIte, Nat.reduceEqDiff, Nat.reduceAdd, Nat.reduceMul, Nat.reduceLeDiff, Nat.reduceLT, Int.reduceLE, Int.reduceLT, reduceCtorEq]
  refine (p36 t1 t1 (by omega) (by omega) (fun r hr => by have := hq1.2 r hr; omega) (fun r hr => by have := hq1.2 r hr; omega)).lend (.cons o_a1.imm (.cons Imm.still (.nil _))) ?_
  simp only [OpK_eq, take6, List.drop_zero, go_sem, ↓reduceIte, Nat.reduceEqDiff, Nat.reduceAdd, Nat.reduceMul, Nat.reduceLeDiff, Nat.reduceLT, Int.reduceLE, Int.reduceLT, reduceCtorEq]
  refine p43O o_a0 1 (by omega) (by omega) (by omega) fun σ4 o_a0' k4 l4 => ?_
  replace o_a1 := o_a1.keep fun j h1 h2 => k4 j (by first | omega | (simp at *; omega))
  replace o_g := o_g.keep fun j h1 h2 => k4 j (by first | omega | (simp at *; omega))
  replace o_a0 := o_a0'
  clear o_a0'
  simp only [OpK_eq, take6, List.drop_zero, go_sem, ↓reduceIte, Nat.reduceEqDiff, Nat.reduceAdd, Nat.reduceMul, Nat.reduceLeDiff, Nat.reduceLT, Int.reduceLE, Int.reduceLT, reduceCtorEq]
  refine p43O o_a1 _ (by omega) (by omega) (by omega) fun σ5 o_a1' k5 l5 => ?_
  replace o_a0 := o_a0.keep fun j h1 h2 => k5 j (by first | omega | (simp at *; omega))
  replace o_g := o_g.keep fun j h1 h2 => k5 j (by first | omega | (simp at *; omega))
  replace o_a1 := o_a1'
  clear o_a1'
  simp only [OpK_eq, take6, List.drop_zero, go_sem, ↓reduceIte, Nat.reduceEqDiff, Nat.reduceAdd, Nat.reduceMul, Nat.reduceLeDiff, Nat.reduceLT, Int.reduceLE, Int.reduceLT, reduceCtorEq]
  repeat' (first | refine And.intro ?_ ?_ | intro _)
  all_goals (try omega)
  refine (p36 T T (by omega) (by omega) (fun r hr => by have := hT.2.1 r hr; omega) (fun r hr => by have := hT.2.1 r hr; omega)).lend (.cons o_g.imm (.cons (him _) (.nil _))) ?_
  simp only [OpK_eq, take6, List.drop_zero, go_sem, ↓reduceIte, Nat.reduceEqDiff, Nat.reduceAdd, Nat.reduceMul, Nat.reduceLeDiff, Nat.reduceLT, Int.reduceLE, Int.reduceLT, reduceCtorEq]
  refine p43O o_g 1 (by omega) (by omega) (by omega) fun σ6 o_g' k6 l6 => ?_
  replace o_a0 := o_a0.keep fun j h1 h2 => k6 j (by first | omega | (simp at *; omega))
  replace o_a1 := o_a1.keep fun j h1 h2 => k6 j (by first | omega | (simp at *; omega))
  replace o_g := o_g'
  clear o_g'
  simp only [OpK_eq, take6, List.drop_zero, go_sem, ↓reduceIte, Nat.reduceEqDiff, Nat.reduceAdd, Nat.reduceMul, Nat.reduceLeDiff, Nat.reduceLT, Int.reduceLE, Int.reduceLT, reduceCtorEq]
  refine (p46 1 T (by omega) (by omega) (by omega) (by omega)).lend (.cons o_g.imm (.cons Imm.still (.nil _))) ?_
  simp only [OpK_eq, take6, List.drop_zero, go_sem, ↓reduceIte, Nat.reduceEqDiff, Nat.reduceAdd, Nat.reduceMul, Nat.reduceLeDiff, Nat.reduceLT, Int.reduceLE, Int.reduceLT, reduceCtorEq]
  repeat' (first | refine And.intro ?_ ?_ | intro _)
  all_goals (try omega)
  refine Pure.go (r := .list (rows t0)) (p34 t0 hq0.1 hq0.2) ?_
  simp only [OpK_eq, take6, List.drop_zero, go_sem, ↓reduceIte, Nat.reduceEqDiff, Nat.reduceAdd, Nat.reduceMul, Nat.reduceLeDiff, Nat.reduceLT, Int.reduceLE, Int.reduceLT, reduceCtorEq]
  refine Pure.go (r := .list (rows t1)) (p34 t1 hq1.1 hq1.2) ?_
  simp only [OpK_eq, take6, List.drop_zero, go_sem, ↓reduceIte, Nat.reduceEqDiff, Nat.reduceAdd, Nat.reduceMul, Nat.reduceLeDiff, Nat.reduceLT, Int.reduceLE, Int.reduceLT, reduceCtorEq]
  refine hi.lend (.still inferInstance) fun xh σ7 o_h k7 l7 => ?_
  replace o_a0 := o_a0.keep fun j h1 h2 => k7 j (by first | omega | (simp at *; omega))
  replace o_a1 := o_a1.keep fun j h1 h2 => k7 j (by first | omega | (simp at *; omega))
  replace o_g := o_g.keep fun j h1 h2 => k7 j (by first | omega | (simp at *; omega))
  simp only [OpK_eq, take6, List.drop_zero, go_sem, ↓reduceIte, Nat.reduceEqDiff, Nat.reduceAdd, Nat.reduceMul, Nat.reduceLeDiff, Nat.reduceLT, Int.reduceLE, Int.reduceLT, reduceCtorEq]
  refine (p36 T T (by omega) (by omega) (fun r hr => by have := hT.2.1 r hr; omega) (fun r hr => by have := hT.2.1 r hr; omega)).lend (.cons o_h.imm (.cons (him _) (.nil _))) ?_
  simp only [OpK_eq, take6, List.drop_zero, go_sem, ↓reduceIte, Nat.reduceEqDiff, Nat.reduceAdd, Nat.reduceMul, Nat.reduceLeDiff, Nat.reduceLT, Int.reduceLE, Int.reduceLT, reduceCtorEq]
  refine (p46 1 T (by omega) (by omega) (by omega) (by omega)).lend (.cons o_g.imm (.cons Imm.still (.nil _))) ?_
  simp only [OpK_eq, take6, List.drop_zero, go_sem, ↓reduceIte, Nat.reduceEqDiff, Nat.reduceAdd, Nat.reduceMul, Nat.reduceLeDiff, Nat.reduceLT, Int.reduceLE, Int.reduceLT, reduceCtorEq]
  repeat' (first | refine And.intro ?_ ?_ | intro _)
  all_goals (try omega)
  exact Kv.Fin.still ⟨rfl, rfl⟩
theorem tot_const (n : Nat) : ∀ (t : List (List Int)), (∀ r ∈ t, r.length = n) → tot t = t.length * n
  | [], _ => by simp [tot]
  | a :: t, h => by
    simp only [tot, List.length_cons, Nat.succ_mul, h a (by simp), tot_const n t fun r hr => h r (by simp [hr])]
    omega
theorem p14 (a : List (List Int)) (ha : a.length ≤ 9223372036854775807) (hla : ∀ r ∈ a, r.length ≤ 9223372036854775807) (b : List (List Int)) (hb : b.length ≤ 9223372036854775807) (hlb : ∀ r ∈ b, r.length ≤ 9223372036854775807) : Pure Try.prog 14 [.list (rows a), .list (rows b)] (.bool true) := by
  by_cases h : isTab a = false ∨ isTab b = false
  · exact p14_at a ha hla b hb hlb (T := []) (fun _ => Imm.nils) (fun hq hq' => p49_no a b hq.1 hq.2 hq'.1 hq'.2 h) (fun hq hq' => Pure.ownT (p50_no a b hq.1 hq.2 hq'.1 hq'.2 h)) ⟨by simp, by simp, by simp [tot]⟩
  · have h1 : isTab a = true := by cases h1 : isTab a <;> simp_all
    have h2 : isTab b = true := by cases h2 : isTab b <;> simp_all
    by_cases hN : a.length * b.length ≤ 40
    · have hr : ∀ r ∈ ptb a b (a.length * b.length), r.length = a.length * b.length := fun r hr => by
        simp only [ptb, List.mem_map] at hr
        obtain ⟨i, _, rfl⟩ := hr
        simp
      refine p14_at a ha hla b hb hlb (fun _ => Imm.still) (fun hq hq' => p49_in a b hq.1 hq.2 hq'.1 hq'.2 h1 h2 hN) (fun hq hq' => NewTN.own (p50_in a b hq.1 hq.2 hq'.1 hq'.2 h1 h2 hN)) ⟨by simp; omega, fun r h' => by rw [hr r h']; omega, ?_⟩
      rw [tot_const _ _ hr, ptb_length]
      have := Nat.mul_le_mul hN hN
      omega
    · exact p14_at a ha hla b hb hlb (T := []) (fun _ => Imm.nils) (fun hq hq' => p49_big a b hq.1 hq.2 hq'.1 hq'.2 h1 h2 hN) (fun hq hq' => Pure.ownT (p50_big a b hq.1 hq.2 hq'.1 hq'.2 h1 h2 hN)) ⟨by simp, by simp, by simp [tot]⟩
end Go.Proofs.Ytkdkdkkimieieaa
