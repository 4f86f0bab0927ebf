/- The law's function of MapsOfTable, walked. -/
import Derived.Test.YtkljidghocnllaaXMapsOfTablec
import Derived.Test.YtkljidghocnllaaMT
import Derived.Test.YtkljidghocnllaaLP
namespace Go.Proofs.Ytkljidghocnllaa
open Go.Kv
set_option linter.unusedVariables false
set_option linter.unusedSimpArgs false
attribute [local irreducible] ACall PCall KL
theorem p10_at (t0 : List (List Int)) (ht0 : t0.length ≤ 9223372036854775807) (hl0 : ∀ r ∈ t0, r.length ≤ 9223372036854775807) {T : List (List Int)} {r : Int} {w : PV} [hw : Still w] (him : ∀ σ, Imm σ w (.list (aggs T))) (hs : (t0.length ≤ 1048576 ∧ ∀ r ∈ t0, r.length ≤ 1048576) → Pure Try.prog 47 [.list (rows t0)] (.tup [w, .int .i64 r])) (hi : (t0.length ≤ 1048576 ∧ ∀ r ∈ t0, r.length ≤ 1048576) → NewAO Try.prog 48 [.list (rows t0)] 27 T r) (hT : T.length ≤ 1048576) (hT6 : ∀ r ∈ T, r.length = 6) : Pure Try.prog 10 [.list (rows t0)] (.bool true) := by
  refine e10 (by simp) fun _ _ => ?_
  simp only [k10, argEnv, take6, List.drop_zero, Int.cast_ofNat_Int, go_sem, ↓reduceIte, Nat.reduceEqDiff, Nat.reduceAdd, Nat.reduceMul, Nat.reduceLeDiff, Nat.reduceLT, Int.reduceLE, Int.reduceLT, reduceCtorEq]
  refine (p23 t0 _ ht0 hl0 (by omega)).go ?_
  try simp only [OpK_eq, bne_self_eq_false, take6, List.drop_zero, Int.cast_ofNat_Int, go_sem, ↓reduceIte, Nat.reduceEqDiff, Nat.reduceAdd, Nat.reduceMul, Nat.reduceLeDiff, Nat.reduceLT, Int.reduceLE, Int.reduceLT, reduceCtorEq]
  refine ⟨fun h => Kv.Fin.still ⟨rfl, rfl⟩, fun hz0 => ?_⟩
  obtain ⟨hq0, htot0, hz00, hz10⟩ := szT_all t0 _ (by omega) hz0
  have hs := hs hq0
  have hi := hi hq0
  refine Pure.go (r := .list (rows t0)) (p25 t0 hq0.1 hq0.2) ?_
  try simp only [OpK_eq, bne_self_eq_false, take6, List.drop_zero, Int.cast_ofNat_Int, go_sem, ↓reduceIte, Nat.reduceEqDiff, Nat.reduceAdd, Nat.reduceMul, Nat.reduceLeDiff, Nat.reduceLT, Int.reduceLE, Int.reduceLT, reduceCtorEq]
  refine hs.go ?_
  try simp only [OpK_eq, bne_self_eq_false, take6, List.drop_zero, Int.cast_ofNat_Int, go_sem, ↓reduceIte, Nat.reduceEqDiff, Nat.reduceAdd, Nat.reduceMul, Nat.reduceLeDiff, Nat.reduceLT, Int.reduceLE, Int.reduceLT, reduceCtorEq]
  refine p25O t0 hq0.1 hq0.2 fun xa0 σ1 o_a0 k1 l1 => ?_
  try simp only [OpK_eq, bne_self_eq_false, take6, List.drop_zero, Int.cast_ofNat_Int, go_sem, ↓reduceIte, Nat.reduceEqDiff, Nat.reduceAdd, Nat.reduceMul, Nat.reduceLeDiff, Nat.reduceLT, Int.reduceLE, Int.reduceLT, reduceCtorEq]
  refine hi.lend (.cons o_a0.imm (.nil _)) fun xg σ2 o_g k2 l2 => ?_
  replace o_a0 := o_a0.keep fun j h1 h2 => k2 j (by first | omega | (simp at *; omega))
  try simp only [OpK_eq, bne_self_eq_false, take6, List.drop_zero, Int.cast_ofNat_Int, go_sem, ↓reduceIte, Nat.reduceEqDiff, Nat.reduceAdd, Nat.reduceMul, Nat.reduceLeDiff, Nat.reduceLT, Int.reduceLE, Int.reduceLT, reduceCtorEq]
  refine (p41 T T (by omega) (by omega) hT6 hT6).lend (.cons o_g.imm (.cons (him _) (.nil _))) ?_
  try simp only [OpK_eq, bne_self_eq_false, take6, List.drop_zero, Int.cast_ofNat_Int, go_sem, ↓reduceIte, Nat.reduceEqDiff, Nat.reduceAdd, Nat.reduceMul, Nat.reduceLeDiff, Nat.reduceLT, Int.reduceLE, Int.reduceLT, reduceCtorEq]
  refine Pure.go (r := .list (rows t0)) (p25 t0 hq0.1 hq0.2) ?_
  try simp only [OpK_eq, bne_self_eq_false, take6, List.drop_zero, Int.cast_ofNat_Int, go_sem, ↓reduceIte, Nat.reduceEqDiff, Nat.reduceAdd, Nat.reduceMul, Nat.reduceLeDiff, Nat.reduceLT, Int.reduceLE, Int.reduceLT, reduceCtorEq]
  refine (p27 t0 t0 (by omega) (by omega) (fun r hr => by have := hq0.2 r hr; omega) (fun r hr => by have := hq0.2 r hr; omega)).lend (.cons o_a0.imm (.cons Imm.still (.nil _))) ?_
  try simp only [OpK_eq, bne_self_eq_false, take6, List.drop_zero, Int.cast_ofNat_Int, go_sem, ↓reduceIte, Nat.reduceEqDiff, Nat.reduceAdd, Nat.reduceMul, Nat.reduceLeDiff, Nat.reduceLT, Int.reduceLE, Int.reduceLT, reduceCtorEq]
  refine p34O o_a0 1 (by omega) (by omega) (by omega) fun σ3 o_a0' k3 l3 => ?_
  replace o_g := o_g.keep fun j h1 h2 => k3 j (by first | omega | (simp at *; omega))
  replace o_a0 := o_a0'
  clear o_a0'
  try simp only [OpK_eq, bne_self_eq_false, take6, List.drop_zero, Int.cast_ofNat_Int, go_sem, ↓reduceIte, Nat.reduceEqDiff, Nat.reduceAdd, Nat.reduceMul, Nat.reduceLeDiff, Nat.reduceLT, Int.reduceLE, Int.reduceLT, reduceCtorEq]
  repeat' (first | refine And.intro ?_ ?_ | intro _)
  all_goals (try omega)
  refine (p41 T T (by omega) (by omega) hT6 hT6).lend (.cons o_g.imm (.cons (him _) (.nil _))) ?_
  try simp only [OpK_eq, bne_self_eq_false, take6, List.drop_zero, Int.cast_ofNat_Int, go_sem, ↓reduceIte, Nat.reduceEqDiff, Nat.reduceAdd, Nat.reduceMul, Nat.reduceLeDiff, Nat.reduceLT, Int.reduceLE, Int.reduceLT, reduceCtorEq]
  refine p42O o_g 1 (by omega) hT6 (by omega) fun σ4 o_g' k4 l4 => ?_
  replace o_a0 := o_a0.keep fun j h1 h2 => k4 j (by first | omega | (simp at *; omega))
  replace o_g := o_g'
  clear o_g'
  try simp only [OpK_eq, bne_self_eq_false, take6, List.drop_zero, Int.cast_ofNat_Int, go_sem, ↓reduceIte, Nat.reduceEqDiff, Nat.reduceAdd, Nat.reduceMul, Nat.reduceLeDiff, Nat.reduceLT, Int.reduceLE, Int.reduceLT, reduceCtorEq]
  refine (p43 1 T.length (by omega) (by omega)).lend (.cons o_g.imm (.cons Imm.still (.nil _))) ?_
  try simp only [OpK_eq, bne_self_eq_false, take6, List.drop_zero, Int.cast_ofNat_Int, go_sem, ↓reduceIte, Nat.reduceEqDiff, Nat.reduceAdd, Nat.reduceMul, Nat.reduceLeDiff, Nat.reduceLT, Int.reduceLE, Int.reduceLT, reduceCtorEq]
  repeat' (first | refine And.intro ?_ ?_ | intro _)
  all_goals (try omega)
  refine Pure.go (r := .list (rows t0)) (p25 t0 hq0.1 hq0.2) ?_
  try simp only [OpK_eq, bne_self_eq_false, take6, List.drop_zero, Int.cast_ofNat_Int, go_sem, ↓reduceIte, Nat.reduceEqDiff, Nat.reduceAdd, Nat.reduceMul, Nat.reduceLeDiff, Nat.reduceLT, Int.reduceLE, Int.reduceLT, reduceCtorEq]
  refine hi.lend (.still inferInstance) fun xh σ5 o_h k5 l5 => ?_
  replace o_a0 := o_a0.keep fun j h1 h2 => k5 j (by first | omega | (simp at *; omega))
  replace o_g := o_g.keep fun j h1 h2 => k5 j (by first | omega | (simp at *; omega))
  try simp only [OpK_eq, bne_self_eq_false, take6, List.drop_zero, Int.cast_ofNat_Int, go_sem, ↓reduceIte, Nat.reduceEqDiff, Nat.reduceAdd, Nat.reduceMul, Nat.reduceLeDiff, Nat.reduceLT, Int.reduceLE, Int.reduceLT, reduceCtorEq]
  refine (p41 T T (by omega) (by omega) hT6 hT6).lend (.cons o_h.imm (.cons (him _) (.nil _))) ?_
  try simp only [OpK_eq, bne_self_eq_false, take6, List.drop_zero, Int.cast_ofNat_Int, go_sem, ↓reduceIte, Nat.reduceEqDiff, Nat.reduceAdd, Nat.reduceMul, Nat.reduceLeDiff, Nat.reduceLT, Int.reduceLE, Int.reduceLT, reduceCtorEq]
  refine (p43 1 T.length (by omega) (by omega)).lend (.cons o_g.imm (.cons Imm.still (.nil _))) ?_
  try simp only [OpK_eq, bne_self_eq_false, take6, List.drop_zero, Int.cast_ofNat_Int, go_sem, ↓reduceIte, Nat.reduceEqDiff, Nat.reduceAdd, Nat.reduceMul, Nat.reduceLeDiff, Nat.reduceLT, Int.reduceLE, Int.reduceLT, reduceCtorEq]
  repeat' (first | refine And.intro ?_ ?_ | intro _)
  all_goals (try omega)
  exact Kv.Fin.still ⟨rfl, rfl⟩
theorem p10 (t : List (List Int)) (ht : t.length ≤ 9223372036854775807) (hl : ∀ r ∈ t, r.length ≤ 9223372036854775807) : Pure Try.prog 10 [.list (rows t)] (.bool true) := by
  by_cases h : mtc t = 0
  · have h1 : isTab t = true := by
      cases hb : isTab t with
      | true => rfl
      | false => rw [mtc, if_pos hb] at h; omega
    have h2 : t.length ≤ 5 := by
      rw [mtc, if_neg (by simp [h1])] at h
      split at h
      · omega
      · omega
    have h3 : monB t = true := by
      cases hm : monB t with
      | true => rfl
      | false => rw [mtc, if_neg (by simp [h1]), if_neg (by omega), if_pos hm] at h; omega
    have hT6 : ∀ r ∈ mot t t.length, r.length = 6 := fun r hr => by
      simp only [mot, List.mem_map, List.mem_range] at hr
      obtain ⟨a, ha, rfl⟩ := hr
      exact (cn_ok h1 h2 ha).mp_len
    exact p10_at t ht hl (w := .list (aggs (mot t t.length))) (fun _ => Imm.still) (fun hq => p47_in t hq.1 hq.2 h1 h2 h3) (fun hq => p48_in t hq.1 hq.2 h1 h2 h3) (by simp; omega) hT6
  · exact p10_at t ht hl (w := .nils) (T := []) (fun _ => .nils) (fun hq => p47_out t hq.1 hq.2 h) (fun hq => Pure.ownA (p48_out t hq.1 hq.2 h)) (by simp) (by simp)
end Go.Proofs.Ytkljidghocnllaa
