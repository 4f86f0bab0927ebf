/- The law's function of ListOfClasses, walked. -/
import Derived.Test.YtkljidghocnllaaXListOfClassesc
import Derived.Test.YtkljidghocnllaaCL
import Derived.Test.YtkljidghocnllaaLB
namespace Go.Proofs.Ytkljidghocnllaa
open Go.Kv
set_option linter.unusedVariables false
set_option linter.unusedSimpArgs false
attribute [local irreducible] ACall PCall KL
theorem p11_at (t0 : List (List Int)) (ht0 : t0.length ≤ 9223372036854775807) (hm0 : ∀ r ∈ t0, r.length = 6) (t1 : List Int) (ht1 : t1.length ≤ 9223372036854775807) {T : List (List Int)} {r : Int} {w : PV} [hw : Still w] (him : ∀ σ, Imm σ w (.list (aggs T))) (hs : t0.length ≤ 1048576 → t1.length ≤ 1048576 → Pure Try.prog 49 [.list (aggs t0), .list (ints t1)] (.tup [w, .int .i64 r])) (hi : t0.length ≤ 1048576 → t1.length ≤ 1048576 → NewAO Try.prog 50 [.list (aggs t0), .list (ints t1)] 27 T r) (hT : T.length ≤ 1048576) (hT6 : ∀ r ∈ T, r.length = 6) : Pure Try.prog 11 [.list (aggs t0), .list (ints t1)] (.bool true) := by
  refine e11 (by simp) fun _ _ => ?_
  simp only [k11, argEnv, take6, List.drop_zero, Int.cast_ofNat_Int, go_sem, ↓reduceIte, Nat.reduceEqDiff, Nat.reduceAdd, Nat.reduceMul, Nat.reduceLeDiff, Nat.reduceLT, Int.reduceLE, Int.reduceLT, reduceCtorEq]
  refine ⟨fun h => Kv.Fin.still ⟨rfl, rfl⟩, fun hz1 => ?_⟩
  have hq1 : t1.length ≤ 1048576 := by omega
  refine (p37 t0 _ ht0 (by omega)).go ?_
  try simp only [OpK_eq, bne_self_eq_false, take6, List.drop_zero, Int.cast_ofNat_Int, go_sem, ↓reduceIte, Nat.reduceEqDiff, Nat.reduceAdd, Nat.reduceMul, Nat.reduceLeDiff, Nat.reduceLT, Int.reduceLE, Int.reduceLT, reduceCtorEq]
  refine ⟨fun h => Kv.Fin.still ⟨rfl, rfl⟩, fun hz0 => ?_⟩
  obtain ⟨hq0, hz00, hz10⟩ := szA_all t0.length _ (by omega) hz0
  have hs := hs hq0 hq1
  have hi := hi hq0 hq1
  refine Pure.go (r := .list (aggs t0)) (p39 t0 hq0 hm0) ?_
  try simp only [OpK_eq, bne_self_eq_false, take6, List.drop_zero, Int.cast_ofNat_Int, go_sem, ↓reduceIte, Nat.reduceEqDiff, Nat.reduceAdd, Nat.reduceMul, Nat.reduceLeDiff, Nat.reduceLT, Int.reduceLE, Int.reduceLT, reduceCtorEq]
  refine Pure.go (r := .list (ints t1)) (p45 t1 hq1) ?_
  try simp only [OpK_eq, bne_self_eq_false, take6, List.drop_zero, Int.cast_ofNat_Int, go_sem, ↓reduceIte, Nat.reduceEqDiff, Nat.reduceAdd, Nat.reduceMul, Nat.reduceLeDiff, Nat.reduceLT, Int.reduceLE, Int.reduceLT, reduceCtorEq]
  refine hs.go ?_
  try simp only [OpK_eq, bne_self_eq_false, take6, List.drop_zero, Int.cast_ofNat_Int, go_sem, ↓reduceIte, Nat.reduceEqDiff, Nat.reduceAdd, Nat.reduceMul, Nat.reduceLeDiff, Nat.reduceLT, Int.reduceLE, Int.reduceLT, reduceCtorEq]
  refine p39O t0 hq0 hm0 fun xa0 σ1 o_a0 k1 l1 => ?_
  try simp only [OpK_eq, bne_self_eq_false, take6, List.drop_zero, Int.cast_ofNat_Int, go_sem, ↓reduceIte, Nat.reduceEqDiff, Nat.reduceAdd, Nat.reduceMul, Nat.reduceLeDiff, Nat.reduceLT, Int.reduceLE, Int.reduceLT, reduceCtorEq]
  refine p45O t1 hq1 fun xa1 σ2 o_a1 k2 l2 => ?_
  replace o_a0 := o_a0.keep fun j h1 h2 => k2 j (by first | omega | (simp at *; omega))
  try simp only [OpK_eq, bne_self_eq_false, take6, List.drop_zero, Int.cast_ofNat_Int, go_sem, ↓reduceIte, Nat.reduceEqDiff, Nat.reduceAdd, Nat.reduceMul, Nat.reduceLeDiff, Nat.reduceLT, Int.reduceLE, Int.reduceLT, reduceCtorEq]
  refine hi.lend (.cons o_a0.imm (.cons o_a1.imm (.nil _))) fun xg σ3 o_g k3 l3 => ?_
  replace o_a0 := o_a0.keep fun j h1 h2 => k3 j (by first | omega | (simp at *; omega))
  replace o_a1 := o_a1.keep fun j h1 h2 => k3 j (by first | omega | (simp at *; omega))
  try simp only [OpK_eq, bne_self_eq_false, take6, List.drop_zero, Int.cast_ofNat_Int, go_sem, ↓reduceIte, Nat.reduceEqDiff, Nat.reduceAdd, Nat.reduceMul, Nat.reduceLeDiff, Nat.reduceLT, Int.reduceLE, Int.reduceLT, reduceCtorEq]
  refine (p41 T T (by omega) (by omega) hT6 hT6).lend (.cons o_g.imm (.cons (him _) (.nil _))) ?_
  try simp only [OpK_eq, bne_self_eq_false, take6, List.drop_zero, Int.cast_ofNat_Int, go_sem, ↓reduceIte, Nat.reduceEqDiff, Nat.reduceAdd, Nat.reduceMul, Nat.reduceLeDiff, Nat.reduceLT, Int.reduceLE, Int.reduceLT, reduceCtorEq]
  refine Pure.go (r := .list (aggs t0)) (p39 t0 hq0 hm0) ?_
  try simp only [OpK_eq, bne_self_eq_false, take6, List.drop_zero, Int.cast_ofNat_Int, go_sem, ↓reduceIte, Nat.reduceEqDiff, Nat.reduceAdd, Nat.reduceMul, Nat.reduceLeDiff, Nat.reduceLT, Int.reduceLE, Int.reduceLT, reduceCtorEq]
  refine (p41 t0 t0 (by omega) (by omega) hm0 hm0).lend (.cons o_a0.imm (.cons Imm.still (.nil _))) ?_
  try simp only [OpK_eq, bne_self_eq_false, take6, List.drop_zero, Int.cast_ofNat_Int, go_sem, ↓reduceIte, Nat.reduceEqDiff, Nat.reduceAdd, Nat.reduceMul, Nat.reduceLeDiff, Nat.reduceLT, Int.reduceLE, Int.reduceLT, reduceCtorEq]
  refine Pure.go (r := .list (ints t1)) (p45 t1 hq1) ?_
  try simp only [OpK_eq, bne_self_eq_false, take6, List.drop_zero, Int.cast_ofNat_Int, go_sem, ↓reduceIte, Nat.reduceEqDiff, Nat.reduceAdd, Nat.reduceMul, Nat.reduceLeDiff, Nat.reduceLT, Int.reduceLE, Int.reduceLT, reduceCtorEq]
  refine (p33 t1 t1 (by omega) (by omega)).lend (.cons o_a1.imm (.cons Imm.still (.nil _))) ?_
  try simp only [OpK_eq, bne_self_eq_false, take6, List.drop_zero, Int.cast_ofNat_Int, go_sem, ↓reduceIte, Nat.reduceEqDiff, Nat.reduceAdd, Nat.reduceMul, Nat.reduceLeDiff, Nat.reduceLT, Int.reduceLE, Int.reduceLT, reduceCtorEq]
  refine p42O o_a0 1 (by omega) hm0 (by omega) fun σ4 o_a0' k4 l4 => ?_
  replace o_a1 := o_a1.keep fun j h1 h2 => k4 j (by first | omega | (simp at *; omega))
  replace o_g := o_g.keep fun j h1 h2 => k4 j (by first | omega | (simp at *; omega))
  replace o_a0 := o_a0'
  clear o_a0'
  try simp only [OpK_eq, bne_self_eq_false, take6, List.drop_zero, Int.cast_ofNat_Int, go_sem, ↓reduceIte, Nat.reduceEqDiff, Nat.reduceAdd, Nat.reduceMul, Nat.reduceLeDiff, Nat.reduceLT, Int.reduceLE, Int.reduceLT, reduceCtorEq]
  refine p35O o_a1 _ (by omega) (by omega) fun σ5 o_a1' k5 l5 => ?_
  replace o_a0 := o_a0.keep fun j h1 h2 => k5 j (by first | omega | (simp at *; omega))
  replace o_g := o_g.keep fun j h1 h2 => k5 j (by first | omega | (simp at *; omega))
  replace o_a1 := o_a1'
  clear o_a1'
  try simp only [OpK_eq, bne_self_eq_false, take6, List.drop_zero, Int.cast_ofNat_Int, go_sem, ↓reduceIte, Nat.reduceEqDiff, Nat.reduceAdd, Nat.reduceMul, Nat.reduceLeDiff, Nat.reduceLT, Int.reduceLE, Int.reduceLT, reduceCtorEq]
  repeat' (first | refine And.intro ?_ ?_ | intro _)
  all_goals (try omega)
  refine (p41 T T (by omega) (by omega) hT6 hT6).lend (.cons o_g.imm (.cons (him _) (.nil _))) ?_
  try simp only [OpK_eq, bne_self_eq_false, take6, List.drop_zero, Int.cast_ofNat_Int, go_sem, ↓reduceIte, Nat.reduceEqDiff, Nat.reduceAdd, Nat.reduceMul, Nat.reduceLeDiff, Nat.reduceLT, Int.reduceLE, Int.reduceLT, reduceCtorEq]
  refine p42O o_g 1 (by omega) hT6 (by omega) fun σ6 o_g' k6 l6 => ?_
  replace o_a0 := o_a0.keep fun j h1 h2 => k6 j (by first | omega | (simp at *; omega))
  replace o_a1 := o_a1.keep fun j h1 h2 => k6 j (by first | omega | (simp at *; omega))
  replace o_g := o_g'
  clear o_g'
  try simp only [OpK_eq, bne_self_eq_false, take6, List.drop_zero, Int.cast_ofNat_Int, go_sem, ↓reduceIte, Nat.reduceEqDiff, Nat.reduceAdd, Nat.reduceMul, Nat.reduceLeDiff, Nat.reduceLT, Int.reduceLE, Int.reduceLT, reduceCtorEq]
  refine (p43 1 T.length (by omega) (by omega)).lend (.cons o_g.imm (.cons Imm.still (.nil _))) ?_
  try simp only [OpK_eq, bne_self_eq_false, take6, List.drop_zero, Int.cast_ofNat_Int, go_sem, ↓reduceIte, Nat.reduceEqDiff, Nat.reduceAdd, Nat.reduceMul, Nat.reduceLeDiff, Nat.reduceLT, Int.reduceLE, Int.reduceLT, reduceCtorEq]
  repeat' (first | refine And.intro ?_ ?_ | intro _)
  all_goals (try omega)
  refine Pure.go (r := .list (aggs t0)) (p39 t0 hq0 hm0) ?_
  try simp only [OpK_eq, bne_self_eq_false, take6, List.drop_zero, Int.cast_ofNat_Int, go_sem, ↓reduceIte, Nat.reduceEqDiff, Nat.reduceAdd, Nat.reduceMul, Nat.reduceLeDiff, Nat.reduceLT, Int.reduceLE, Int.reduceLT, reduceCtorEq]
  refine Pure.go (r := .list (ints t1)) (p45 t1 hq1) ?_
  try simp only [OpK_eq, bne_self_eq_false, take6, List.drop_zero, Int.cast_ofNat_Int, go_sem, ↓reduceIte, Nat.reduceEqDiff, Nat.reduceAdd, Nat.reduceMul, Nat.reduceLeDiff, Nat.reduceLT, Int.reduceLE, Int.reduceLT, reduceCtorEq]
  refine hi.lend (.still inferInstance) fun xh σ7 o_h k7 l7 => ?_
  replace o_a0 := o_a0.keep fun j h1 h2 => k7 j (by first | omega | (simp at *; omega))
  replace o_a1 := o_a1.keep fun j h1 h2 => k7 j (by first | omega | (simp at *; omega))
  replace o_g := o_g.keep fun j h1 h2 => k7 j (by first | omega | (simp at *; omega))
  try simp only [OpK_eq, bne_self_eq_false, take6, List.drop_zero, Int.cast_ofNat_Int, go_sem, ↓reduceIte, Nat.reduceEqDiff, Nat.reduceAdd, Nat.reduceMul, Nat.reduceLeDiff, Nat.reduceLT, Int.reduceLE, Int.reduceLT, reduceCtorEq]
  refine (p41 T T (by omega) (by omega) hT6 hT6).lend (.cons o_h.imm (.cons (him _) (.nil _))) ?_
  try simp only [OpK_eq, bne_self_eq_false, take6, List.drop_zero, Int.cast_ofNat_Int, go_sem, ↓reduceIte, Nat.reduceEqDiff, Nat.reduceAdd, Nat.reduceMul, Nat.reduceLeDiff, Nat.reduceLT, Int.reduceLE, Int.reduceLT, reduceCtorEq]
  refine (p43 1 T.length (by omega) (by omega)).lend (.cons o_g.imm (.cons Imm.still (.nil _))) ?_
  try simp only [OpK_eq, bne_self_eq_false, take6, List.drop_zero, Int.cast_ofNat_Int, go_sem, ↓reduceIte, Nat.reduceEqDiff, Nat.reduceAdd, Nat.reduceMul, Nat.reduceLeDiff, Nat.reduceLT, Int.reduceLE, Int.reduceLT, reduceCtorEq]
  repeat' (first | refine And.intro ?_ ?_ | intro _)
  all_goals (try omega)
  exact Kv.Fin.still ⟨rfl, rfl⟩
theorem p11 (a : List (List Int)) (ha : a.length ≤ 9223372036854775807) (h6 : ∀ r ∈ a, r.length = 6) (P : List Int) (hP : P.length ≤ 9223372036854775807) : Pure Try.prog 11 [.list (aggs a), .list (ints P)] (.bool true) := by
  by_cases h : lcc a P = 0
  · have h2 : (ivp a P).2 = 0 ∧ (ivp a P).1 = true := by
      unfold lcc at h
      by_cases h1 : (ivp a P).2 = 0
      · rw [if_neg (by simp [h1])] at h
        refine ⟨h1, ?_⟩
        cases hb : (ivp a P).1 with
        | true => rfl
        | false => rw [hb] at h; simp at h
      · rw [if_pos h1] at h; exact absurd h h1
    have h3 := ivp_pgc a P
    have hp : pgc a P = 0 := by
      by_cases h1 : pgc a P = 0
      · exact h1
      · rw [if_pos h1] at h3
        rw [h3] at h2
        exact absurd h2.1 h1
    rw [if_neg (by simp [hp])] at h3
    have hiv : iv (a.map um) P = true := by rw [h3] at h2; exact h2.2
    obtain ⟨hl0, hcl⟩ := pgc_zero hp
    obtain ⟨fs, n, rfl, hf, hl1, hl2, hn, hn1, hn5⟩ := lcode_maps h6 hl0
    rw [map_um] at hiv
    rw [hn] at hcl
    simp only [Bool.and_eq_true, decide_eq_true_eq] at hcl
    have hPn : P.length = n := by omega
    obtain ⟨Q, c, rfl, hQ, hc, hc1, hc5, hQc⟩ := clOk_nat hPn hn1 hn5 hcl.1
    have hivp : ivp (fs.map mp) (Q.map fun x : Nat => (x : Int)) = (true, 0) := Prod.ext h2.2 h2.1
    have hT6 : ∀ r ∈ lcl Q c fs, r.length = 6 := fun r hr => by
      simp only [lcl, List.mem_map] at hr
      obtain ⟨f, _, rfl⟩ := hr
      exact mpN_length (by simp; omega)
    exact p11_at _ ha h6 _ hP (w := .list (aggs (lcl Q c fs))) (fun _ => Imm.still) (fun _ _ => p49_in fs n Q c hQ hn1 hn5 hc hc1 hc5 hQc hf hl1 hl2 h6 hp hiv) (fun _ _ => p50_in fs n Q c hQ hn1 hn5 hc hc1 hc5 hQc hf hl1 hl2 h6 hivp) (by simp; omega) hT6
  · exact p11_at a ha h6 P hP (w := .nils) (T := []) (fun _ => .nils) (fun h1 h2 => p49_out a P h1 h6 h2 h) (fun h1 h2 => Pure.ownA (p50_out a P h1 h6 h2 h)) (by simp) (by simp)
end Go.Proofs.Ytkljidghocnllaa
