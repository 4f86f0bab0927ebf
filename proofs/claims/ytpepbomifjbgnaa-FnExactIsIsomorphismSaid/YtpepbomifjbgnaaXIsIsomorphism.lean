/- The law's function of IsIsomorphism, walked. -/
import Derived.Test.YtpepbomifjbgnaaCb
import Derived.Test.YtpepbomifjbgnaaII
import Derived.Test.YtpepbomifjbgnaaG2
import Derived.Test.YtpepbomifjbgnaaG3
import Derived.Test.YtpepbomifjbgnaaG1
namespace Go.Proofs.Ytpepbomifjbgnaa
open Go.Kv
set_option maxRecDepth 100000
/- laws.FnExactIsIsomorphism -/
def k3 : KC := (.seq (.ops [⟨(some 6), none, .mv (.c (.bool false))⟩])
  (.seq (.seq (.ops [⟨(some 15), none, .mv (.t 2)⟩, ⟨(some 16), none, .len false (.t 15)⟩, ⟨(some 17), none, .bin .gtr (.t 16) (.c (.int .i64 1048576))⟩])
  (.cond (.t 17) (.seq (.ops [⟨(some 6), none, .mv (.c (.bool true))⟩])
  .ret) .skip))
  (.seq (.ops [⟨(some 7), none, .mv (.c (.int .i64 1048576))⟩])
  (.seq (.ops [⟨(some 18), none, .mv (.t 0)⟩, ⟨(some 19), none, .mv (.t 7)⟩, ⟨(some 20), none, .call (.c (.fn (.func 12) [] [])) [(.t 18), (.t 19)]⟩, ⟨(some 7), none, .mv (.t 20)⟩])
  (.seq (.seq (.ops [⟨(some 21), none, .mv (.t 7)⟩, ⟨(some 22), none, .bin .lss (.t 21) (.c (.int .i64 0))⟩])
  (.cond (.t 22) (.seq (.ops [⟨(some 6), none, .mv (.c (.bool true))⟩])
  .ret) .skip))
  (.seq (.ops [⟨(some 23), none, .mv (.t 1)⟩, ⟨(some 24), none, .mv (.t 7)⟩, ⟨(some 25), none, .call (.c (.fn (.func 12) [] [])) [(.t 23), (.t 24)]⟩, ⟨(some 7), none, .mv (.t 25)⟩])
  (.seq (.seq (.ops [⟨(some 26), none, .mv (.t 7)⟩, ⟨(some 27), none, .bin .lss (.t 26) (.c (.int .i64 0))⟩])
  (.cond (.t 27) (.seq (.ops [⟨(some 6), none, .mv (.c (.bool true))⟩])
  .ret) .skip))
  (.seq (.ops [⟨(some 29), none, .mv (.t 0)⟩, ⟨(some 30), none, .call (.c (.fn (.func 14) [] [])) [(.t 29)]⟩, ⟨(some 31), none, .mv (.t 1)⟩, ⟨(some 32), none, .call (.c (.fn (.func 14) [] [])) [(.t 31)]⟩, ⟨(some 33), none, .mv (.t 2)⟩, ⟨(some 34), none, .call (.c (.fn (.func 15) [] [])) [(.t 33)]⟩, ⟨(some 35), none, .call (.c (.fn (.func 13) [] [])) [(.t 30), (.t 32), (.t 34)]⟩, ⟨(some 28), none, .mv (.t 35)⟩, ⟨(some 36), none, .extr 0 (.t 28)⟩, ⟨(some 37), none, .extr 1 (.t 28)⟩, ⟨(some 8), none, .mv (.t 36)⟩, ⟨(some 9), none, .mv (.t 37)⟩])
  (.seq (.ops [⟨(some 38), none, .mv (.t 0)⟩, ⟨(some 39), none, .call (.c (.fn (.func 14) [] [])) [(.t 38)]⟩, ⟨(some 10), none, .mv (.t 39)⟩])
  (.seq (.ops [⟨(some 40), none, .mv (.t 1)⟩, ⟨(some 41), none, .call (.c (.fn (.func 14) [] [])) [(.t 40)]⟩, ⟨(some 11), none, .mv (.t 41)⟩])
  (.seq (.ops [⟨(some 42), none, .mv (.t 2)⟩, ⟨(some 43), none, .call (.c (.fn (.func 15) [] [])) [(.t 42)]⟩, ⟨(some 12), none, .mv (.t 43)⟩])
  (.seq (.ops [⟨(some 45), none, .mv (.t 10)⟩, ⟨(some 46), none, .mv (.t 11)⟩, ⟨(some 47), none, .mv (.t 12)⟩, ⟨(some 48), none, .call (.c (.fn (.func 16) [] [])) [(.t 45), (.t 46), (.t 47)]⟩, ⟨(some 44), none, .mv (.t 48)⟩, ⟨(some 49), none, .extr 0 (.t 44)⟩, ⟨(some 50), none, .extr 1 (.t 44)⟩, ⟨(some 13), none, .mv (.t 49)⟩, ⟨(some 14), none, .mv (.t 50)⟩])
  (.seq (.seq (.ops [⟨(some 51), none, .mv (.t 13)⟩, ⟨(some 52), none, .mv (.t 8)⟩, ⟨(some 53), none, .beq true (.t 51) (.t 52)⟩, ⟨(some 54), none, .mv (.t 53)⟩, ⟨(some 55), some (54, false), .mv (.t 14)⟩, ⟨(some 56), some (54, false), .mv (.t 9)⟩, ⟨(some 57), some (54, false), .bin .neq (.t 55) (.t 56)⟩, ⟨(some 58), none, .pick (.t 54) (.c (.bool true)) (.t 57)⟩])
  (.cond (.t 58) (.seq (.ops [⟨(some 6), none, .mv (.c (.bool false))⟩])
  .ret) .skip))
  (.seq (.seq (.ops [⟨(some 59), none, .mv (.t 10)⟩, ⟨(some 60), none, .mv (.t 0)⟩, ⟨(some 61), none, .call (.c (.fn (.func 14) [] [])) [(.t 60)]⟩, ⟨(some 62), none, .call (.c (.fn (.func 17) [] [])) [(.t 59), (.t 61)]⟩, ⟨(some 63), none, .not (.t 62)⟩])
  (.cond (.t 63) (.seq (.ops [⟨(some 6), none, .mv (.c (.bool false))⟩])
  .ret) .skip))
  (.seq (.seq (.ops [⟨(some 64), none, .mv (.t 11)⟩, ⟨(some 65), none, .mv (.t 1)⟩, ⟨(some 66), none, .call (.c (.fn (.func 14) [] [])) [(.t 65)]⟩, ⟨(some 67), none, .call (.c (.fn (.func 17) [] [])) [(.t 64), (.t 66)]⟩, ⟨(some 68), none, .not (.t 67)⟩])
  (.cond (.t 68) (.seq (.ops [⟨(some 6), none, .mv (.c (.bool false))⟩])
  .ret) .skip))
  (.seq (.seq (.ops [⟨(some 69), none, .mv (.t 12)⟩, ⟨(some 70), none, .mv (.t 2)⟩, ⟨(some 71), none, .call (.c (.fn (.func 15) [] [])) [(.t 70)]⟩, ⟨(some 72), none, .call (.c (.fn (.func 18) [] [])) [(.t 69), (.t 71)]⟩, ⟨(some 73), none, .not (.t 72)⟩])
  (.cond (.t 73) (.seq (.ops [⟨(some 6), none, .mv (.c (.bool false))⟩])
  .ret) .skip))
  (.seq (.ops [⟨(some 6), none, .mv (.c (.bool true))⟩])
  .ret)))))))))))))))))
theorem e3 {args : List PV} {σ : Heap} {K : PV → Heap → Prop} (hl : args.length ≤ 74) (h : Wf σ → (∀ a ∈ args, PV.upto σ.length a) → vc (mkCfg Try.prog mixed [] 74 σ.length) k3 (FinK σ.length [.t 6] K) (argEnv 0 args) σ) : ACall Try.prog 3 args σ K :=
  ACall_enter (C := mkCfg Try.prog mixed [] 74 σ.length) (c := Try.f3.body.getD .skip) Try.func3 (by kernel_rfl) (by kernel_rfl) (by kernel_rfl) rfl hl (by kernel_rfl) (by kernel_rfl) h
end Go.Proofs.Ytpepbomifjbgnaa
namespace Go.Proofs.Ytpepbomifjbgnaa
open Go.Kv
set_option linter.unusedVariables false
set_option linter.unusedSimpArgs false
attribute [local irreducible] ACall PCall KL
theorem hkt_IsIsomorphism (σ : Heap) (K : PV → Heap → Prop) (l : List PV) : HK σ K (.tup l) = K (.tup l) σ := rfl
theorem p3_at (t0 : List (List Int)) (ht0 : t0.length ≤ 9223372036854775807) (hl0 : ∀ r ∈ t0, r.length ≤ 9223372036854775807) (t1 : List (List Int)) (ht1 : t1.length ≤ 9223372036854775807) (hl1 : ∀ r ∈ t1, r.length ≤ 9223372036854775807) (t2 : List Int) (ht2 : t2.length ≤ 9223372036854775807) {r0 : Bool} {r1 : Int} (hs : (t0.length ≤ 1048576 ∧ ∀ r ∈ t0, r.length ≤ 1048576) → (t1.length ≤ 1048576 ∧ ∀ r ∈ t1, r.length ≤ 1048576) → t2.length ≤ 1048576 → Pure Try.prog 13 [.list (rows t0), .list (rows t1), .list (ints t2)] (.tup [.bool r0, .int .i64 r1])) (hi : (t0.length ≤ 1048576 ∧ ∀ r ∈ t0, r.length ≤ 1048576) → (t1.length ≤ 1048576 ∧ ∀ r ∈ t1, r.length ≤ 1048576) → t2.length ≤ 1048576 → Pure Try.prog 16 [.list (rows t0), .list (rows t1), .list (ints t2)] (.tup [.bool r0, .int .i64 r1]))  : Pure Try.prog 3 [.list (rows t0), .list (rows t1), .list (ints t2)] (.bool true) := by
  refine e3 (by simp) fun _ _ => ?_
  simp only [k3, argEnv, take6, List.drop_zero, Int.cast_ofNat_Int, go_sem, ↓reduceIte, Nat.reduceEqDiff, Nat.reduceAdd, Nat.reduceMul, Nat.reduceLeDiff, Nat.reduceLT, Int.reduceLE, Int.reduceLT, reduceCtorEq]
  refine ⟨fun h => Kv.Fin.still ⟨rfl, rfl⟩, fun hz2 => ?_⟩
  have hq2 : t2.length ≤ 1048576 := by omega
  refine (p12 t0 _ ht0 hl0 (by omega)).go ?_
  try simp only [OpK_eq, bne_self_eq_false, hkt_IsIsomorphism, take6, List.drop_zero, Int.cast_ofNat_Int, go_sem, ↓reduceIte, Nat.reduceEqDiff, Nat.reduceAdd, Nat.reduceMul, Nat.reduceLeDiff, Nat.reduceLT, Int.reduceLE, Int.reduceLT, reduceCtorEq]
  refine ⟨fun h => Kv.Fin.still ⟨rfl, rfl⟩, fun hz0 => ?_⟩
  obtain ⟨hq0, htot0, hz00, hz10⟩ := szT_all t0 _ (by omega) hz0
  refine (p12 t1 _ ht1 hl1 (by omega)).go ?_
  try simp only [OpK_eq, bne_self_eq_false, hkt_IsIsomorphism, take6, List.drop_zero, Int.cast_ofNat_Int, go_sem, ↓reduceIte, Nat.reduceEqDiff, Nat.reduceAdd, Nat.reduceMul, Nat.reduceLeDiff, Nat.reduceLT, Int.reduceLE, Int.reduceLT, reduceCtorEq]
  refine ⟨fun h => Kv.Fin.still ⟨rfl, rfl⟩, fun hz1 => ?_⟩
  obtain ⟨hq1, htot1, hz01, hz11⟩ := szT_all t1 _ (by omega) hz1
  have hs := hs hq0 hq1 hq2
  have hi := hi hq0 hq1 hq2
  refine Pure.go (r := .list (rows t0)) (p14 t0 hq0.1 hq0.2) ?_
  try simp only [OpK_eq, bne_self_eq_false, hkt_IsIsomorphism, take6, List.drop_zero, Int.cast_ofNat_Int, go_sem, ↓reduceIte, Nat.reduceEqDiff, Nat.reduceAdd, Nat.reduceMul, Nat.reduceLeDiff, Nat.reduceLT, Int.reduceLE, Int.reduceLT, reduceCtorEq]
  refine Pure.go (r := .list (rows t1)) (p14 t1 hq1.1 hq1.2) ?_
  try simp only [OpK_eq, bne_self_eq_false, hkt_IsIsomorphism, take6, List.drop_zero, Int.cast_ofNat_Int, go_sem, ↓reduceIte, Nat.reduceEqDiff, Nat.reduceAdd, Nat.reduceMul, Nat.reduceLeDiff, Nat.reduceLT, Int.reduceLE, Int.reduceLT, reduceCtorEq]
  refine Pure.go (r := .list (ints t2)) (p15 t2 hq2) ?_
  try simp only [OpK_eq, bne_self_eq_false, hkt_IsIsomorphism, take6, List.drop_zero, Int.cast_ofNat_Int, go_sem, ↓reduceIte, Nat.reduceEqDiff, Nat.reduceAdd, Nat.reduceMul, Nat.reduceLeDiff, Nat.reduceLT, Int.reduceLE, Int.reduceLT, reduceCtorEq]
  first | refine hs.go ?_ | refine hs.pgo ?_
  try simp only [OpK_eq, bne_self_eq_false, hkt_IsIsomorphism, take6, List.drop_zero, Int.cast_ofNat_Int, go_sem, ↓reduceIte, Nat.reduceEqDiff, Nat.reduceAdd, Nat.reduceMul, Nat.reduceLeDiff, Nat.reduceLT, Int.reduceLE, Int.reduceLT, reduceCtorEq]
  refine p14O t0 hq0.1 hq0.2 fun xa0 σ1 o_a0 k1 l1 => ?_
  try simp only [OpK_eq, bne_self_eq_false, hkt_IsIsomorphism, take6, List.drop_zero, Int.cast_ofNat_Int, go_sem, ↓reduceIte, Nat.reduceEqDiff, Nat.reduceAdd, Nat.reduceMul, Nat.reduceLeDiff, Nat.reduceLT, Int.reduceLE, Int.reduceLT, reduceCtorEq]
  refine p14O t1 hq1.1 hq1.2 fun xa1 σ2 o_a1 k2 l2 => ?_
  replace o_a0 := o_a0.keep fun j h1 h2 => k2 j (by first | omega | (simp at *; omega))
  try simp only [OpK_eq, bne_self_eq_false, hkt_IsIsomorphism, take6, List.drop_zero, Int.cast_ofNat_Int, go_sem, ↓reduceIte, Nat.reduceEqDiff, Nat.reduceAdd, Nat.reduceMul, Nat.reduceLeDiff, Nat.reduceLT, Int.reduceLE, Int.reduceLT, reduceCtorEq]
  refine p15O t2 hq2 fun xa2 σ3 o_a2 k3 l3 => ?_
  replace o_a0 := o_a0.keep fun j h1 h2 => k3 j (by first | omega | (simp at *; omega))
  replace o_a1 := o_a1.keep fun j h1 h2 => k3 j (by first | omega | (simp at *; omega))
  try simp only [OpK_eq, bne_self_eq_false, hkt_IsIsomorphism, take6, List.drop_zero, Int.cast_ofNat_Int, go_sem, ↓reduceIte, Nat.reduceEqDiff, Nat.reduceAdd, Nat.reduceMul, Nat.reduceLeDiff, Nat.reduceLT, Int.reduceLE, Int.reduceLT, reduceCtorEq]
  refine hi.lend (.cons o_a0.imm (.cons o_a1.imm (.cons o_a2.imm (.nil _)))) ?_
  try simp only [OpK_eq, bne_self_eq_false, hkt_IsIsomorphism, take6, List.drop_zero, Int.cast_ofNat_Int, go_sem, ↓reduceIte, Nat.reduceEqDiff, Nat.reduceAdd, Nat.reduceMul, Nat.reduceLeDiff, Nat.reduceLT, Int.reduceLE, Int.reduceLT, reduceCtorEq]
  refine Pure.go (r := .list (rows t0)) (p14 t0 hq0.1 hq0.2) ?_
  try simp only [OpK_eq, bne_self_eq_false, hkt_IsIsomorphism, take6, List.drop_zero, Int.cast_ofNat_Int, go_sem, ↓reduceIte, Nat.reduceEqDiff, Nat.reduceAdd, Nat.reduceMul, Nat.reduceLeDiff, Nat.reduceLT, Int.reduceLE, Int.reduceLT, reduceCtorEq]
  refine (p17 t0 t0 (by omega) (by omega) (fun r hr => by have := hq0.2 r hr; omega) (fun r hr => by have := hq0.2 r hr; omega)).lend (.cons o_a0.imm (.cons Imm.still (.nil _))) ?_
  try simp only [OpK_eq, bne_self_eq_false, hkt_IsIsomorphism, take6, List.drop_zero, Int.cast_ofNat_Int, go_sem, ↓reduceIte, Nat.reduceEqDiff, Nat.reduceAdd, Nat.reduceMul, Nat.reduceLeDiff, Nat.reduceLT, Int.reduceLE, Int.reduceLT, reduceCtorEq]
  refine Pure.go (r := .list (rows t1)) (p14 t1 hq1.1 hq1.2) ?_
  try simp only [OpK_eq, bne_self_eq_false, hkt_IsIsomorphism, take6, List.drop_zero, Int.cast_ofNat_Int, go_sem, ↓reduceIte, Nat.reduceEqDiff, Nat.reduceAdd, Nat.reduceMul, Nat.reduceLeDiff, Nat.reduceLT, Int.reduceLE, Int.reduceLT, reduceCtorEq]
  refine (p17 t1 t1 (by omega) (by omega) (fun r hr => by have := hq1.2 r hr; omega) (fun r hr => by have := hq1.2 r hr; omega)).lend (.cons o_a1.imm (.cons Imm.still (.nil _))) ?_
  try simp only [OpK_eq, bne_self_eq_false, hkt_IsIsomorphism, take6, List.drop_zero, Int.cast_ofNat_Int, go_sem, ↓reduceIte, Nat.reduceEqDiff, Nat.reduceAdd, Nat.reduceMul, Nat.reduceLeDiff, Nat.reduceLT, Int.reduceLE, Int.reduceLT, reduceCtorEq]
  refine Pure.go (r := .list (ints t2)) (p15 t2 hq2) ?_
  try simp only [OpK_eq, bne_self_eq_false, hkt_IsIsomorphism, take6, List.drop_zero, Int.cast_ofNat_Int, go_sem, ↓reduceIte, Nat.reduceEqDiff, Nat.reduceAdd, Nat.reduceMul, Nat.reduceLeDiff, Nat.reduceLT, Int.reduceLE, Int.reduceLT, reduceCtorEq]
  refine (p18 t2 t2 (by omega) (by omega)).lend (.cons o_a2.imm (.cons Imm.still (.nil _))) ?_
  try simp only [OpK_eq, bne_self_eq_false, hkt_IsIsomorphism, take6, List.drop_zero, Int.cast_ofNat_Int, go_sem, ↓reduceIte, Nat.reduceEqDiff, Nat.reduceAdd, Nat.reduceMul, Nat.reduceLeDiff, Nat.reduceLT, Int.reduceLE, Int.reduceLT, reduceCtorEq]
  exact Kv.Fin.still ⟨rfl, rfl⟩
theorem p3 (a : List (List Int)) (ha : a.length ≤ 9223372036854775807) (hla : ∀ r ∈ a, r.length ≤ 9223372036854775807) (b : List (List Int)) (hb : b.length ≤ 9223372036854775807) (hlb : ∀ r ∈ b, r.length ≤ 9223372036854775807) (p : List Int) (hp : p.length ≤ 9223372036854775807) : Pure Try.prog 3 [.list (rows a), .list (rows b), .list (ints p)] (.bool true) :=
  p3_at a ha hla b hb hlb p hp (fun h1 h2 h3 => p13 a b p h1.1 h1.2 h2.1 h2.2 h3) (fun h1 h2 h3 => p16 a b p h1.1 h1.2 h2.1 h2.2 h3)
end Go.Proofs.Ytpepbomifjbgnaa
