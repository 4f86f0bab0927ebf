/- The law's function of FindIsomorphism, walked. -/
import Derived.Test.YtkljidghocnllaaXFindIsomorphismc
import Derived.Test.YtkljidghocnllaaFF
import Derived.Test.YtkljidghocnllaaOT
import Derived.Test.YtkljidghocnllaaLO
namespace Go.Proofs.Ytkljidghocnllaa
open Go.Kv
set_option linter.unusedVariables false
set_option linter.unusedSimpArgs false
attribute [local irreducible] ACall PCall KL
theorem p7_at (t0 : List (List Int)) (ht0 : t0.length ≤ 9223372036854775807) (hl0 : ∀ r ∈ t0, r.length ≤ 9223372036854775807) (t1 : List (List Int)) (ht1 : t1.length ≤ 9223372036854775807) (hl1 : ∀ r ∈ t1, r.length ≤ 9223372036854775807) {T : List Int} {r : Int} {w : PV} [hw : Still w] (him : ∀ σ, Imm σ w (.list (ints T))) (hs : (t0.length ≤ 1048576 ∧ ∀ r ∈ t0, r.length ≤ 1048576) → (t1.length ≤ 1048576 ∧ ∀ r ∈ t1, r.length ≤ 1048576) → Pure Try.prog 31 [.list (rows t0), .list (rows t1)] (.tup [w, .int .i64 r])) (hi : (t0.length ≤ 1048576 ∧ ∀ r ∈ t0, r.length ≤ 1048576) → (t1.length ≤ 1048576 ∧ ∀ r ∈ t1, r.length ≤ 1048576) → NewIO Try.prog 32 [.list (rows t0), .list (rows t1)] 2 T r) (hT : T.length ≤ 1048576) : Pure Try.prog 7 [.list (rows t0), .list (rows t1)] (.bool true) := by
  refine e7 (by simp) fun _ _ => ?_
  simp only [k7, argEnv, take6, List.drop_zero, Int.cast_ofNat_Int, go_sem, ↓reduceIte, Nat.reduceEqDiff, Nat.reduceAdd, Nat.reduceMul, Nat.reduceLeDiff, Nat.reduceLT, Int.reduceLE, Int.reduceLT, reduceCtorEq]
  refine (p23 t0 _ ht0 hl0 (by omega)).go ?_
  try simp only [OpK_eq, bne_self_eq_false, take6, List.drop_zero, Int.cast_ofNat_Int, go_sem, ↓reduceIte, Nat.reduceEqDiff, Nat.reduceAdd, Nat.reduceMul, Nat.reduceLeDiff, Nat.reduceLT, Int.reduceLE, Int.reduceLT, reduceCtorEq]
  refine ⟨fun h => Kv.Fin.still ⟨rfl, rfl⟩, fun hz0 => ?_⟩
  obtain ⟨hq0, htot0, hz00, hz10⟩ := szT_all t0 _ (by omega) hz0
  refine (p23 t1 _ ht1 hl1 (by omega)).go ?_
  try simp only [OpK_eq, bne_self_eq_false, take6, List.drop_zero, Int.cast_ofNat_Int, go_sem, ↓reduceIte, Nat.reduceEqDiff, Nat.reduceAdd, Nat.reduceMul, Nat.reduceLeDiff, Nat.reduceLT, Int.reduceLE, Int.reduceLT, reduceCtorEq]
  refine ⟨fun h => Kv.Fin.still ⟨rfl, rfl⟩, fun hz1 => ?_⟩
  obtain ⟨hq1, htot1, hz01, hz11⟩ := szT_all t1 _ (by omega) hz1
  have hs := hs hq0 hq1
  have hi := hi hq0 hq1
  refine Pure.go (r := .list (rows t0)) (p25 t0 hq0.1 hq0.2) ?_
  try simp only [OpK_eq, bne_self_eq_false, take6, List.drop_zero, Int.cast_ofNat_Int, go_sem, ↓reduceIte, Nat.reduceEqDiff, Nat.reduceAdd, Nat.reduceMul, Nat.reduceLeDiff, Nat.reduceLT, Int.reduceLE, Int.reduceLT, reduceCtorEq]
  refine Pure.go (r := .list (rows t1)) (p25 t1 hq1.1 hq1.2) ?_
  try simp only [OpK_eq, bne_self_eq_false, take6, List.drop_zero, Int.cast_ofNat_Int, go_sem, ↓reduceIte, Nat.reduceEqDiff, Nat.reduceAdd, Nat.reduceMul, Nat.reduceLeDiff, Nat.reduceLT, Int.reduceLE, Int.reduceLT, reduceCtorEq]
  refine hs.go ?_
  try simp only [OpK_eq, bne_self_eq_false, take6, List.drop_zero, Int.cast_ofNat_Int, go_sem, ↓reduceIte, Nat.reduceEqDiff, Nat.reduceAdd, Nat.reduceMul, Nat.reduceLeDiff, Nat.reduceLT, Int.reduceLE, Int.reduceLT, reduceCtorEq]
  refine p25O t0 hq0.1 hq0.2 fun xa0 σ1 o_a0 k1 l1 => ?_
  try simp only [OpK_eq, bne_self_eq_false, take6, List.drop_zero, Int.cast_ofNat_Int, go_sem, ↓reduceIte, Nat.reduceEqDiff, Nat.reduceAdd, Nat.reduceMul, Nat.reduceLeDiff, Nat.reduceLT, Int.reduceLE, Int.reduceLT, reduceCtorEq]
  refine p25O t1 hq1.1 hq1.2 fun xa1 σ2 o_a1 k2 l2 => ?_
  replace o_a0 := o_a0.keep fun j h1 h2 => k2 j (by first | omega | (simp at *; omega))
  try simp only [OpK_eq, bne_self_eq_false, take6, List.drop_zero, Int.cast_ofNat_Int, go_sem, ↓reduceIte, Nat.reduceEqDiff, Nat.reduceAdd, Nat.reduceMul, Nat.reduceLeDiff, Nat.reduceLT, Int.reduceLE, Int.reduceLT, reduceCtorEq]
  refine hi.lend (.cons o_a0.imm (.cons o_a1.imm (.nil _))) fun xg σ3 o_g k3 l3 => ?_
  replace o_a0 := o_a0.keep fun j h1 h2 => k3 j (by first | omega | (simp at *; omega))
  replace o_a1 := o_a1.keep fun j h1 h2 => k3 j (by first | omega | (simp at *; omega))
  try simp only [OpK_eq, bne_self_eq_false, take6, List.drop_zero, Int.cast_ofNat_Int, go_sem, ↓reduceIte, Nat.reduceEqDiff, Nat.reduceAdd, Nat.reduceMul, Nat.reduceLeDiff, Nat.reduceLT, Int.reduceLE, Int.reduceLT, reduceCtorEq]
  refine (p33 T T (by omega) (by omega)).lend (.cons o_g.imm (.cons (him _) (.nil _))) ?_
  try simp only [OpK_eq, bne_self_eq_false, take6, List.drop_zero, Int.cast_ofNat_Int, go_sem, ↓reduceIte, Nat.reduceEqDiff, Nat.reduceAdd, Nat.reduceMul, Nat.reduceLeDiff, Nat.reduceLT, Int.reduceLE, Int.reduceLT, reduceCtorEq]
  refine Pure.go (r := .list (rows t0)) (p25 t0 hq0.1 hq0.2) ?_
  try simp only [OpK_eq, bne_self_eq_false, take6, List.drop_zero, Int.cast_ofNat_Int, go_sem, ↓reduceIte, Nat.reduceEqDiff, Nat.reduceAdd, Nat.reduceMul, Nat.reduceLeDiff, Nat.reduceLT, Int.reduceLE, Int.reduceLT, reduceCtorEq]
  refine (p27 t0 t0 (by omega) (by omega) (fun r hr => by have := hq0.2 r hr; omega) (fun r hr => by have := hq0.2 r hr; omega)).lend (.cons o_a0.imm (.cons Imm.still (.nil _))) ?_
  try simp only [OpK_eq, bne_self_eq_false, take6, List.drop_zero, Int.cast_ofNat_Int, go_sem, ↓reduceIte, Nat.reduceEqDiff, Nat.reduceAdd, Nat.reduceMul, Nat.reduceLeDiff, Nat.reduceLT, Int.reduceLE, Int.reduceLT, reduceCtorEq]
  refine Pure.go (r := .list (rows t1)) (p25 t1 hq1.1 hq1.2) ?_
  try simp only [OpK_eq, bne_self_eq_false, take6, List.drop_zero, Int.cast_ofNat_Int, go_sem, ↓reduceIte, Nat.reduceEqDiff, Nat.reduceAdd, Nat.reduceMul, Nat.reduceLeDiff, Nat.reduceLT, Int.reduceLE, Int.reduceLT, reduceCtorEq]
  refine (p27 t1 t1 (by omega) (by omega) (fun r hr => by have := hq1.2 r hr; omega) (fun r hr => by have := hq1.2 r hr; omega)).lend (.cons o_a1.imm (.cons Imm.still (.nil _))) ?_
  try simp only [OpK_eq, bne_self_eq_false, take6, List.drop_zero, Int.cast_ofNat_Int, go_sem, ↓reduceIte, Nat.reduceEqDiff, Nat.reduceAdd, Nat.reduceMul, Nat.reduceLeDiff, Nat.reduceLT, Int.reduceLE, Int.reduceLT, reduceCtorEq]
  refine p34O o_a0 1 (by omega) (by omega) (by omega) fun σ4 o_a0' k4 l4 => ?_
  replace o_a1 := o_a1.keep fun j h1 h2 => k4 j (by first | omega | (simp at *; omega))
  replace o_g := o_g.keep fun j h1 h2 => k4 j (by first | omega | (simp at *; omega))
  replace o_a0 := o_a0'
  clear o_a0'
  try simp only [OpK_eq, bne_self_eq_false, take6, List.drop_zero, Int.cast_ofNat_Int, go_sem, ↓reduceIte, Nat.reduceEqDiff, Nat.reduceAdd, Nat.reduceMul, Nat.reduceLeDiff, Nat.reduceLT, Int.reduceLE, Int.reduceLT, reduceCtorEq]
  refine p34O o_a1 _ (by omega) (by omega) (by omega) fun σ5 o_a1' k5 l5 => ?_
  replace o_a0 := o_a0.keep fun j h1 h2 => k5 j (by first | omega | (simp at *; omega))
  replace o_g := o_g.keep fun j h1 h2 => k5 j (by first | omega | (simp at *; omega))
  replace o_a1 := o_a1'
  clear o_a1'
  try simp only [OpK_eq, bne_self_eq_false, take6, List.drop_zero, Int.cast_ofNat_Int, go_sem, ↓reduceIte, Nat.reduceEqDiff, Nat.reduceAdd, Nat.reduceMul, Nat.reduceLeDiff, Nat.reduceLT, Int.reduceLE, Int.reduceLT, reduceCtorEq]
  repeat' (first | refine And.intro ?_ ?_ | intro _)
  all_goals (try omega)
  refine (p33 T T (by omega) (by omega)).lend (.cons o_g.imm (.cons (him _) (.nil _))) ?_
  try simp only [OpK_eq, bne_self_eq_false, take6, List.drop_zero, Int.cast_ofNat_Int, go_sem, ↓reduceIte, Nat.reduceEqDiff, Nat.reduceAdd, Nat.reduceMul, Nat.reduceLeDiff, Nat.reduceLT, Int.reduceLE, Int.reduceLT, reduceCtorEq]
  refine p35O o_g 1 (by omega) (by omega) fun σ6 o_g' k6 l6 => ?_
  replace o_a0 := o_a0.keep fun j h1 h2 => k6 j (by first | omega | (simp at *; omega))
  replace o_a1 := o_a1.keep fun j h1 h2 => k6 j (by first | omega | (simp at *; omega))
  replace o_g := o_g'
  clear o_g'
  try simp only [OpK_eq, bne_self_eq_false, take6, List.drop_zero, Int.cast_ofNat_Int, go_sem, ↓reduceIte, Nat.reduceEqDiff, Nat.reduceAdd, Nat.reduceMul, Nat.reduceLeDiff, Nat.reduceLT, Int.reduceLE, Int.reduceLT, reduceCtorEq]
  refine (p36 1 T.length (by omega) (by omega)).lend (.cons o_g.imm (.cons Imm.still (.nil _))) ?_
  try simp only [OpK_eq, bne_self_eq_false, take6, List.drop_zero, Int.cast_ofNat_Int, go_sem, ↓reduceIte, Nat.reduceEqDiff, Nat.reduceAdd, Nat.reduceMul, Nat.reduceLeDiff, Nat.reduceLT, Int.reduceLE, Int.reduceLT, reduceCtorEq]
  repeat' (first | refine And.intro ?_ ?_ | intro _)
  all_goals (try omega)
  refine Pure.go (r := .list (rows t0)) (p25 t0 hq0.1 hq0.2) ?_
  try simp only [OpK_eq, bne_self_eq_false, take6, List.drop_zero, Int.cast_ofNat_Int, go_sem, ↓reduceIte, Nat.reduceEqDiff, Nat.reduceAdd, Nat.reduceMul, Nat.reduceLeDiff, Nat.reduceLT, Int.reduceLE, Int.reduceLT, reduceCtorEq]
  refine Pure.go (r := .list (rows t1)) (p25 t1 hq1.1 hq1.2) ?_
  try simp only [OpK_eq, bne_self_eq_false, take6, List.drop_zero, Int.cast_ofNat_Int, go_sem, ↓reduceIte, Nat.reduceEqDiff, Nat.reduceAdd, Nat.reduceMul, Nat.reduceLeDiff, Nat.reduceLT, Int.reduceLE, Int.reduceLT, reduceCtorEq]
  refine hi.lend (.still inferInstance) fun xh σ7 o_h k7 l7 => ?_
  replace o_a0 := o_a0.keep fun j h1 h2 => k7 j (by first | omega | (simp at *; omega))
  replace o_a1 := o_a1.keep fun j h1 h2 => k7 j (by first | omega | (simp at *; omega))
  replace o_g := o_g.keep fun j h1 h2 => k7 j (by first | omega | (simp at *; omega))
  try simp only [OpK_eq, bne_self_eq_false, take6, List.drop_zero, Int.cast_ofNat_Int, go_sem, ↓reduceIte, Nat.reduceEqDiff, Nat.reduceAdd, Nat.reduceMul, Nat.reduceLeDiff, Nat.reduceLT, Int.reduceLE, Int.reduceLT, reduceCtorEq]
  refine (p33 T T (by omega) (by omega)).lend (.cons o_h.imm (.cons (him _) (.nil _))) ?_
  try simp only [OpK_eq, bne_self_eq_false, take6, List.drop_zero, Int.cast_ofNat_Int, go_sem, ↓reduceIte, Nat.reduceEqDiff, Nat.reduceAdd, Nat.reduceMul, Nat.reduceLeDiff, Nat.reduceLT, Int.reduceLE, Int.reduceLT, reduceCtorEq]
  refine (p36 1 T.length (by omega) (by omega)).lend (.cons o_g.imm (.cons Imm.still (.nil _))) ?_
  try simp only [OpK_eq, bne_self_eq_false, take6, List.drop_zero, Int.cast_ofNat_Int, go_sem, ↓reduceIte, Nat.reduceEqDiff, Nat.reduceAdd, Nat.reduceMul, Nat.reduceLeDiff, Nat.reduceLT, Int.reduceLE, Int.reduceLT, reduceCtorEq]
  repeat' (first | refine And.intro ?_ ?_ | intro _)
  all_goals (try omega)
  exact Kv.Fin.still ⟨rfl, rfl⟩
theorem p7 (a : List (List Int)) (ha : a.length ≤ 9223372036854775807) (hla : ∀ r ∈ a, r.length ≤ 9223372036854775807) (b : List (List Int)) (hb : b.length ≤ 9223372036854775807) (hlb : ∀ r ∈ b, r.length ≤ 9223372036854775807) : Pure Try.prog 7 [.list (rows a), .list (rows b)] (.bool true) := by
  have out : ∀ c : Int, ((isTab a = false ∨ isTab b = false) → c = 2) → (isTab a = true → isTab b = true → (10 < a.length ∨ 10 < b.length → c = 3) ∧ (a.length ≤ 10 → b.length ≤ 10 → (a.length ≠ b.length → c = 4) ∧ (a.length = b.length → comps a b a.length [] = [] ∧ c = 4))) → Pure Try.prog 7 [.list (rows a), .list (rows b)] (.bool true) := fun c h1 h2 =>
    p7_at a ha hla b hb hlb (w := .nils) (T := []) (fun _ => .nils)
      (fun hq hq' => p31 a b hq.1 hq.2 hq'.1 hq'.2 ⟨fun h => ⟨h1 h, rfl⟩, fun h h' => ⟨fun g => ⟨(h2 h h').1 g, rfl⟩, fun g g' => ⟨fun e => ⟨((h2 h h').2 g g').1 e, rfl⟩, fun e => ⟨fun _ => ⟨(((h2 h h').2 g g').2 e).2, rfl⟩, fun q l hc => by rw [(((h2 h h').2 g g').2 e).1] at hc; cases hc⟩⟩⟩⟩)
      (fun hq hq' => p32 a b hq.1 hq.2 hq'.1 hq'.2 ⟨fun h => ⟨h1 h, rfl⟩, fun h h' => ⟨fun g => ⟨(h2 h h').1 g, rfl⟩, fun g g' => ⟨fun e => ⟨((h2 h h').2 g g').1 e, rfl⟩, fun e => ⟨fun _ => ⟨(((h2 h h').2 g g').2 e).2, rfl⟩, fun q l hc => by rw [(((h2 h h').2 g g').2 e).1] at hc; cases hc⟩⟩⟩⟩)
      (by simp)
  by_cases h1 : isTab a = false ∨ isTab b = false
  · refine out 2 (fun _ => rfl) fun h h' => ?_
    rcases h1 with h1 | h1
    · rw [h1] at h; cases h
    · rw [h1] at h'; cases h'
  have hta : isTab a = true := by cases h : isTab a <;> simp_all
  have htb : isTab b = true := by cases h : isTab b <;> simp_all
  by_cases h3 : 10 < a.length ∨ 10 < b.length
  · exact out 3 (fun h => absurd h h1) fun _ _ => ⟨fun _ => rfl, fun g g' => by omega⟩
  by_cases h4 : a.length = b.length
  · cases hc : comps a b a.length [] with
    | nil => exact out 4 (fun h => absurd h h1) fun _ _ => ⟨fun h => absurd h h3, fun _ _ => ⟨fun _ => rfl, fun _ => ⟨hc, rfl⟩⟩⟩
    | cons q l =>
      have hq := comps_len a.length [] q (by rw [hc]; simp)
      have hR : ∀ (P : Prop), P → P := fun _ h => h
      refine p7_at a ha hla b hb hlb (w := .list (ints (toI q))) (T := toI q) (r := 0) (fun _ => Imm.still)
        (fun hq hq' => p31 a b hq.1 hq.2 hq'.1 hq'.2 ⟨fun h => absurd h h1, fun _ _ => ⟨fun h => absurd h h3, fun _ _ => ⟨fun h => absurd h4 h, fun _ => ⟨fun h => (by rw [hc] at h; cases h), fun q' l' h => (by rw [hc] at h; cases h; exact ⟨rfl, rfl⟩)⟩⟩⟩⟩)
        (fun hq hq' => p32 a b hq.1 hq.2 hq'.1 hq'.2 ⟨fun h => absurd h h1, fun _ _ => ⟨fun h => absurd h h3, fun _ _ => ⟨fun h => absurd h4 h, fun _ => ⟨fun h => (by rw [hc] at h; cases h), fun q' l' h => (by rw [hc] at h; cases h; exact ⟨rfl, rfl⟩)⟩⟩⟩⟩)
        (by simp at hq ⊢; omega)
  · exact out 4 (fun h => absurd h h1) fun _ _ => ⟨fun h => absurd h h3, fun _ _ => ⟨fun _ => rfl, fun h => absurd h h4⟩⟩
end Go.Proofs.Ytkljidghocnllaa
