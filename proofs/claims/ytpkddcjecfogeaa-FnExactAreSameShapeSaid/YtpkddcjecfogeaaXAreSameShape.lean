/- The law's function of AreSameShape, walked. -/
import Derived.Test.YtpkddcjecfogeaaXAreSameShapec
import Derived.Test.YtpkddcjecfogeaaLF
import Derived.Test.YtpkddcjecfogeaaEqM
namespace Go.Proofs.Ytpkddcjecfogeaa
open Go.Kv
set_option linter.unusedVariables false
set_option linter.unusedSimpArgs false
attribute [local irreducible] ACall PCall KL
theorem hkt_AreSameShape (σ : Heap) (K : PV → Heap → Prop) (l : List PV) : HK σ K (.tup l) = K (.tup l) σ := rfl
theorem p6_at (t0 : List Int) (hm0 : t0.length = 6) (t1 : List Int) (hm1 : t1.length = 6) {r0 : Bool} {r1 : Int} (hs : Pure Try.prog 25 [.agg (ints t0), .agg (ints t1)] (.tup [.bool r0, .int .i64 r1])) (hi : Pure Try.prog 26 [.agg (ints t0), .agg (ints t1)] (.tup [.bool r0, .int .i64 r1]))  : Pure Try.prog 6 [.agg (ints t0), .agg (ints t1)] (.bool true) := by
  refine e6 (by simp) fun _ _ => ?_
  simp only [k6, argEnv, hm0, hm1, take6, List.drop_zero, Int.cast_ofNat_Int, go_sem, ↓reduceIte, Nat.reduceEqDiff, Nat.reduceAdd, Nat.reduceMul, Nat.reduceLeDiff, Nat.reduceLT, Int.reduceLE, Int.reduceLT, reduceCtorEq]
  first | refine (p15 t0 hm0).go ?_ | refine (p15 t0 hm0).pgo ?_
  try simp only [OpK_eq, bne_self_eq_false, hkt_AreSameShape, hm0, hm1, take6, List.drop_zero, Int.cast_ofNat_Int, go_sem, ↓reduceIte, Nat.reduceEqDiff, Nat.reduceAdd, Nat.reduceMul, Nat.reduceLeDiff, Nat.reduceLT, Int.reduceLE, Int.reduceLT, reduceCtorEq]
  first | refine (p15 t1 hm1).go ?_ | refine (p15 t1 hm1).pgo ?_
  try simp only [OpK_eq, bne_self_eq_false, hkt_AreSameShape, hm0, hm1, take6, List.drop_zero, Int.cast_ofNat_Int, go_sem, ↓reduceIte, Nat.reduceEqDiff, Nat.reduceAdd, Nat.reduceMul, Nat.reduceLeDiff, Nat.reduceLT, Int.reduceLE, Int.reduceLT, reduceCtorEq]
  first | refine hs.go ?_ | refine hs.pgo ?_
  try simp only [OpK_eq, bne_self_eq_false, hkt_AreSameShape, hm0, hm1, take6, List.drop_zero, Int.cast_ofNat_Int, go_sem, ↓reduceIte, Nat.reduceEqDiff, Nat.reduceAdd, Nat.reduceMul, Nat.reduceLeDiff, Nat.reduceLT, Int.reduceLE, Int.reduceLT, reduceCtorEq]
  first | refine (p15 t0 hm0).go ?_ | refine (p15 t0 hm0).pgo ?_
  try simp only [OpK_eq, bne_self_eq_false, hkt_AreSameShape, hm0, hm1, take6, List.drop_zero, Int.cast_ofNat_Int, go_sem, ↓reduceIte, Nat.reduceEqDiff, Nat.reduceAdd, Nat.reduceMul, Nat.reduceLeDiff, Nat.reduceLT, Int.reduceLE, Int.reduceLT, reduceCtorEq]
  first | refine (p15 t1 hm1).go ?_ | refine (p15 t1 hm1).pgo ?_
  try simp only [OpK_eq, bne_self_eq_false, hkt_AreSameShape, hm0, hm1, take6, List.drop_zero, Int.cast_ofNat_Int, go_sem, ↓reduceIte, Nat.reduceEqDiff, Nat.reduceAdd, Nat.reduceMul, Nat.reduceLeDiff, Nat.reduceLT, Int.reduceLE, Int.reduceLT, reduceCtorEq]
  first | refine hi.go ?_ | refine hi.pgo ?_
  try simp only [OpK_eq, bne_self_eq_false, hkt_AreSameShape, hm0, hm1, take6, List.drop_zero, Int.cast_ofNat_Int, go_sem, ↓reduceIte, Nat.reduceEqDiff, Nat.reduceAdd, Nat.reduceMul, Nat.reduceLeDiff, Nat.reduceLT, Int.reduceLE, Int.reduceLT, reduceCtorEq]
  exact Kv.Fin.still ⟨rfl, rfl⟩
theorem p6 (m : List Int) (h : m.length = 6) (k : List Int) (h' : k.length = 6) : Pure Try.prog 6 [.agg (ints m), .agg (ints k)] (.bool true) := by
  by_cases hp : pcd m k = 0
  · have hb : isM m = true ∧ isM k = true ∧ m.getD 0 0 = k.getD 0 0 := by
      unfold pcd at hp
      split at hp
      · omega
      · split at hp
        · rename_i h1 h2
          exact ⟨by cases hm : isM m <;> simp_all, by cases hm : isM k <;> simp_all, h2⟩
        · omega
    obtain ⟨f, n, hf, rfl⟩ := isM_ok h hb.1
    obtain ⟨g, n', hg, rfl⟩ := isM_ok h' hb.2.1
    have e : n = n' := by
      have := hb.2.2
      rw [mp_get0, mp_get0, hf.len, hg.len] at this
      omega
    subst e
    exact p6_at _ h _ h' (p25 f g n hf hg hp) (p26 f g n hf hg hp)
  · exact p6_at m h k h' (p25_out m k h h' hp) (p26_out m k h h' hp)
end Go.Proofs.Ytpkddcjecfogeaa
