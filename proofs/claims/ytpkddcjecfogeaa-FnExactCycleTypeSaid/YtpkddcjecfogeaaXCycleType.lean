/- The law's function of CycleType, walked. -/
import Derived.Test.YtpkddcjecfogeaaXCycleTypec
import Derived.Test.YtpkddcjecfogeaaCT
import Derived.Test.YtpkddcjecfogeaaEqM
import Derived.Test.YtpkddcjecfogeaaLO
import Derived.Test.YtpkddcjecfogeaaB
import Derived.Test.YtpkddcjecfogeaaLC
namespace Go.Proofs.Ytpkddcjecfogeaa
open Go.Kv
set_option linter.unusedVariables false
set_option linter.unusedSimpArgs false
attribute [local irreducible] ACall PCall KL
theorem hkt_CycleType (σ : Heap) (K : PV → Heap → Prop) (l : List PV) : HK σ K (.tup l) = K (.tup l) σ := rfl
theorem p3_at (t0 : List Int) (hm0 : t0.length = 6) {T : List Int} {r : Int} {w : PV} [hw : Still w] (him : ∀ σ, Imm σ w (.list (ints T))) (hs : Pure Try.prog 14 [.agg (ints t0)] (.tup [w, .int .i64 r])) (hi : NewIO Try.prog 16 [.agg (ints t0)] 2 T r) (hT : T.length ≤ 1048576) : Pure Try.prog 3 [.agg (ints t0)] (.bool true) := by
  refine e3 (by simp) fun _ _ => ?_
  simp only [k3, argEnv, hm0, take6, List.drop_zero, Int.cast_ofNat_Int, go_sem, ↓reduceIte, Nat.reduceEqDiff, Nat.reduceAdd, Nat.reduceMul, Nat.reduceLeDiff, Nat.reduceLT, Int.reduceLE, Int.reduceLT, reduceCtorEq]
  first | refine (p15 t0 hm0).go ?_ | refine (p15 t0 hm0).pgo ?_
  try simp only [OpK_eq, bne_self_eq_false, hkt_CycleType, hm0, take6, List.drop_zero, Int.cast_ofNat_Int, go_sem, ↓reduceIte, Nat.reduceEqDiff, Nat.reduceAdd, Nat.reduceMul, Nat.reduceLeDiff, Nat.reduceLT, Int.reduceLE, Int.reduceLT, reduceCtorEq]
  first | refine hs.go ?_ | refine hs.pgo ?_
  try simp only [OpK_eq, bne_self_eq_false, hkt_CycleType, hm0, take6, List.drop_zero, Int.cast_ofNat_Int, go_sem, ↓reduceIte, Nat.reduceEqDiff, Nat.reduceAdd, Nat.reduceMul, Nat.reduceLeDiff, Nat.reduceLT, Int.reduceLE, Int.reduceLT, reduceCtorEq]
  first | refine (p15 t0 hm0).go ?_ | refine (p15 t0 hm0).pgo ?_
  try simp only [OpK_eq, bne_self_eq_false, hkt_CycleType, hm0, take6, List.drop_zero, Int.cast_ofNat_Int, go_sem, ↓reduceIte, Nat.reduceEqDiff, Nat.reduceAdd, Nat.reduceMul, Nat.reduceLeDiff, Nat.reduceLT, Int.reduceLE, Int.reduceLT, reduceCtorEq]
  refine hi.lend (.cons Imm.still (.nil _)) fun xg σ1 o_g k1 l1 => ?_
  try simp only [OpK_eq, bne_self_eq_false, hkt_CycleType, hm0, take6, List.drop_zero, Int.cast_ofNat_Int, go_sem, ↓reduceIte, Nat.reduceEqDiff, Nat.reduceAdd, Nat.reduceMul, Nat.reduceLeDiff, Nat.reduceLT, Int.reduceLE, Int.reduceLT, reduceCtorEq]
  refine (p17 T T (by omega) (by omega)).lend (.cons o_g.imm (.cons (him _) (.nil _))) ?_
  try simp only [OpK_eq, bne_self_eq_false, hkt_CycleType, hm0, take6, List.drop_zero, Int.cast_ofNat_Int, go_sem, ↓reduceIte, Nat.reduceEqDiff, Nat.reduceAdd, Nat.reduceMul, Nat.reduceLeDiff, Nat.reduceLT, Int.reduceLE, Int.reduceLT, reduceCtorEq]
  refine p18O o_g 1 (by omega) (by omega) fun σ2 o_g' k2 l2 => ?_
  replace o_g := o_g'
  clear o_g'
  try simp only [OpK_eq, bne_self_eq_false, hkt_CycleType, hm0, take6, List.drop_zero, Int.cast_ofNat_Int, go_sem, ↓reduceIte, Nat.reduceEqDiff, Nat.reduceAdd, Nat.reduceMul, Nat.reduceLeDiff, Nat.reduceLT, Int.reduceLE, Int.reduceLT, reduceCtorEq]
  refine (p19 1 T.length (by omega) (by omega)).lend (.cons o_g.imm (.cons Imm.still (.nil _))) ?_
  try simp only [OpK_eq, bne_self_eq_false, hkt_CycleType, hm0, take6, List.drop_zero, Int.cast_ofNat_Int, go_sem, ↓reduceIte, Nat.reduceEqDiff, Nat.reduceAdd, Nat.reduceMul, Nat.reduceLeDiff, Nat.reduceLT, Int.reduceLE, Int.reduceLT, reduceCtorEq]
  repeat' (first | refine And.intro ?_ ?_ | intro _)
  all_goals (try omega)
  first | refine (p15 t0 hm0).go ?_ | refine (p15 t0 hm0).pgo ?_
  try simp only [OpK_eq, bne_self_eq_false, hkt_CycleType, hm0, take6, List.drop_zero, Int.cast_ofNat_Int, go_sem, ↓reduceIte, Nat.reduceEqDiff, Nat.reduceAdd, Nat.reduceMul, Nat.reduceLeDiff, Nat.reduceLT, Int.reduceLE, Int.reduceLT, reduceCtorEq]
  refine hi.lend (.still inferInstance) fun xh σ3 o_h k3 l3 => ?_
  replace o_g := o_g.keep fun j h1 h2 => k3 j (by first | omega | (simp at *; omega))
  try simp only [OpK_eq, bne_self_eq_false, hkt_CycleType, hm0, take6, List.drop_zero, Int.cast_ofNat_Int, go_sem, ↓reduceIte, Nat.reduceEqDiff, Nat.reduceAdd, Nat.reduceMul, Nat.reduceLeDiff, Nat.reduceLT, Int.reduceLE, Int.reduceLT, reduceCtorEq]
  refine (p17 T T (by omega) (by omega)).lend (.cons o_h.imm (.cons (him _) (.nil _))) ?_
  try simp only [OpK_eq, bne_self_eq_false, hkt_CycleType, hm0, take6, List.drop_zero, Int.cast_ofNat_Int, go_sem, ↓reduceIte, Nat.reduceEqDiff, Nat.reduceAdd, Nat.reduceMul, Nat.reduceLeDiff, Nat.reduceLT, Int.reduceLE, Int.reduceLT, reduceCtorEq]
  refine (p19 1 T.length (by omega) (by omega)).lend (.cons o_g.imm (.cons Imm.still (.nil _))) ?_
  try simp only [OpK_eq, bne_self_eq_false, hkt_CycleType, hm0, take6, List.drop_zero, Int.cast_ofNat_Int, go_sem, ↓reduceIte, Nat.reduceEqDiff, Nat.reduceAdd, Nat.reduceMul, Nat.reduceLeDiff, Nat.reduceLT, Int.reduceLE, Int.reduceLT, reduceCtorEq]
  repeat' (first | refine And.intro ?_ ?_ | intro _)
  all_goals (try omega)
  exact Kv.Fin.still ⟨rfl, rfl⟩
theorem p3 (m : List Int) (h : m.length = 6) : Pure Try.prog 3 [.agg (ints m)] (.bool true) := by
  cases hb : isM m with
  | false => exact p3_at m h (T := []) (w := .nils) (fun σ => Imm.nils) (p14_out m h hb) (Pure.ownI (p16_out m h hb)) (by simp)
  | true =>
    obtain ⟨f, n, hf, rfl⟩ := isM_ok h hb
    have h5 := hf.le
    refine p3_at _ h (fun σ => Imm.still) (p14_in f n hf) (p16_in f n hf) ?_
    have hl := (srt_perm (negs (lens f n n))).length_eq
    have := List.length_filter_le (isRt f n) (List.range n)
    simp only [negs, lens, rts, List.length_map, List.length_range] at hl this ⊢
    omega
end Go.Proofs.Ytpkddcjecfogeaa
