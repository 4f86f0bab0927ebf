/- The law's function of IsPrimitive, walked. -/
import Derived.Test.YtpepbomifjbgnaaCb
import Derived.Test.YtpepbomifjbgnaaPR
import Derived.Test.YtpepbomifjbgnaaG2
import Derived.Test.YtpepbomifjbgnaaG3
import Derived.Test.YtpepbomifjbgnaaG1
namespace Go.Proofs.Ytpepbomifjbgnaa
open Go.Kv
set_option maxRecDepth 100000
/- laws.FnExactIsPrimitive -/
def k7 : KC := (.seq (.ops [⟨(some 2), none, .mv (.c (.bool false))⟩])
  (.seq (.ops [⟨(some 3), none, .mv (.c (.int .i64 1048576))⟩])
  (.seq (.ops [⟨(some 9), none, .mv (.t 0)⟩, ⟨(some 10), none, .mv (.t 3)⟩, ⟨(some 11), none, .call (.c (.fn (.func 19) [] [])) [(.t 9), (.t 10)]⟩, ⟨(some 3), none, .mv (.t 11)⟩])
  (.seq (.seq (.ops [⟨(some 12), none, .mv (.t 3)⟩, ⟨(some 13), none, .bin .lss (.t 12) (.c (.int .i64 0))⟩])
  (.cond (.t 13) (.seq (.ops [⟨(some 2), none, .mv (.c (.bool true))⟩])
  .ret) .skip))
  (.seq (.ops [⟨(some 15), none, .mv (.t 0)⟩, ⟨(some 16), none, .call (.c (.fn (.func 21) [] [])) [(.t 15)]⟩, ⟨(some 17), none, .call (.c (.fn (.func 33) [] [])) [(.t 16)]⟩, ⟨(some 14), none, .mv (.t 17)⟩, ⟨(some 18), none, .extr 0 (.t 14)⟩, ⟨(some 19), none, .extr 1 (.t 14)⟩, ⟨(some 4), none, .mv (.t 18)⟩, ⟨(some 5), none, .mv (.t 19)⟩])
  (.seq (.ops [⟨(some 20), none, .mv (.t 0)⟩, ⟨(some 21), none, .call (.c (.fn (.func 21) [] [])) [(.t 20)]⟩, ⟨(some 6), none, .mv (.t 21)⟩])
  (.seq (.ops [⟨(some 23), none, .mv (.t 6)⟩, ⟨(some 24), none, .call (.c (.fn (.func 34) [] [])) [(.t 23)]⟩, ⟨(some 22), none, .mv (.t 24)⟩, ⟨(some 25), none, .extr 0 (.t 22)⟩, ⟨(some 26), none, .extr 1 (.t 22)⟩, ⟨(some 7), none, .mv (.t 25)⟩, ⟨(some 8), none, .mv (.t 26)⟩])
  (.seq (.seq (.ops [⟨(some 27), none, .mv (.t 7)⟩, ⟨(some 28), none, .mv (.t 4)⟩, ⟨(some 29), none, .beq true (.t 27) (.t 28)⟩, ⟨(some 30), none, .mv (.t 29)⟩, ⟨(some 31), some (30, false), .mv (.t 8)⟩, ⟨(some 32), some (30, false), .mv (.t 5)⟩, ⟨(some 33), some (30, false), .bin .neq (.t 31) (.t 32)⟩, ⟨(some 34), none, .pick (.t 30) (.c (.bool true)) (.t 33)⟩])
  (.cond (.t 34) (.seq (.ops [⟨(some 2), none, .mv (.c (.bool false))⟩])
  .ret) .skip))
  (.seq (.seq (.ops [⟨(some 35), none, .mv (.t 6)⟩, ⟨(some 36), none, .mv (.t 0)⟩, ⟨(some 37), none, .call (.c (.fn (.func 21) [] [])) [(.t 36)]⟩, ⟨(some 38), none, .call (.c (.fn (.func 23) [] [])) [(.t 35), (.t 37)]⟩, ⟨(some 39), none, .not (.t 38)⟩])
  (.cond (.t 39) (.seq (.ops [⟨(some 2), none, .mv (.c (.bool false))⟩])
  .ret) .skip))
  (.seq (.ops [⟨(some 2), none, .mv (.c (.bool true))⟩])
  .ret))))))))))
theorem e7 {args : List PV} {σ : Heap} {K : PV → Heap → Prop} (hl : args.length ≤ 40) (h : Wf σ → (∀ a ∈ args, PV.upto σ.length a) → vc (mkCfg Try.prog mixed [] 40 σ.length) k7 (FinK σ.length [.t 2] K) (argEnv 0 args) σ) : ACall Try.prog 7 args σ K :=
  ACall_enter (C := mkCfg Try.prog mixed [] 40 σ.length) (c := Try.f7.body.getD .skip) Try.func7 (by kernel_rfl) (by kernel_rfl) (by kernel_rfl) rfl hl (by kernel_rfl) (by kernel_rfl) h
end Go.Proofs.Ytpepbomifjbgnaa
namespace Go.Proofs.Ytpepbomifjbgnaa
open Go.Kv
set_option linter.unusedVariables false
set_option linter.unusedSimpArgs false
attribute [local irreducible] ACall PCall KL
theorem hkt_IsPrimitive (σ : Heap) (K : PV → Heap → Prop) (l : List PV) : HK σ K (.tup l) = K (.tup l) σ := rfl
theorem p7_at (t0 : List (List Int)) (ht0 : t0.length ≤ 9223372036854775807) (hm0 : ∀ r ∈ t0, r.length = 6) {r0 : Bool} {r1 : Int} (hs : t0.length ≤ 1048576 → Pure Try.prog 33 [.list (aggs t0)] (.tup [.bool r0, .int .i64 r1])) (hi : t0.length ≤ 1048576 → Pure Try.prog 34 [.list (aggs t0)] (.tup [.bool r0, .int .i64 r1]))  : Pure Try.prog 7 [.list (aggs t0)] (.bool true) := by
  refine e7 (by simp) fun _ _ => ?_
  simp only [k7, argEnv, take6, List.drop_zero, Int.cast_ofNat_Int, go_sem, ↓reduceIte, Nat.reduceEqDiff, Nat.reduceAdd, Nat.reduceMul, Nat.reduceLeDiff, Nat.reduceLT, Int.reduceLE, Int.reduceLT, reduceCtorEq]
  refine (p19 t0 _ ht0 (by omega)).go ?_
  try simp only [OpK_eq, bne_self_eq_false, hkt_IsPrimitive, take6, List.drop_zero, Int.cast_ofNat_Int, go_sem, ↓reduceIte, Nat.reduceEqDiff, Nat.reduceAdd, Nat.reduceMul, Nat.reduceLeDiff, Nat.reduceLT, Int.reduceLE, Int.reduceLT, reduceCtorEq]
  refine ⟨fun h => Kv.Fin.still ⟨rfl, rfl⟩, fun hz0 => ?_⟩
  obtain ⟨hq0, hz00, hz10⟩ := szA_all t0.length _ (by omega) hz0
  have hs := hs hq0
  have hi := hi hq0
  refine Pure.go (r := .list (aggs t0)) (p21 t0 hq0 hm0) ?_
  try simp only [OpK_eq, bne_self_eq_false, hkt_IsPrimitive, take6, List.drop_zero, Int.cast_ofNat_Int, go_sem, ↓reduceIte, Nat.reduceEqDiff, Nat.reduceAdd, Nat.reduceMul, Nat.reduceLeDiff, Nat.reduceLT, Int.reduceLE, Int.reduceLT, reduceCtorEq]
  first | refine hs.go ?_ | refine hs.pgo ?_
  try simp only [OpK_eq, bne_self_eq_false, hkt_IsPrimitive, take6, List.drop_zero, Int.cast_ofNat_Int, go_sem, ↓reduceIte, Nat.reduceEqDiff, Nat.reduceAdd, Nat.reduceMul, Nat.reduceLeDiff, Nat.reduceLT, Int.reduceLE, Int.reduceLT, reduceCtorEq]
  refine p21O t0 hq0 hm0 fun xa0 σ1 o_a0 k1 l1 => ?_
  try simp only [OpK_eq, bne_self_eq_false, hkt_IsPrimitive, take6, List.drop_zero, Int.cast_ofNat_Int, go_sem, ↓reduceIte, Nat.reduceEqDiff, Nat.reduceAdd, Nat.reduceMul, Nat.reduceLeDiff, Nat.reduceLT, Int.reduceLE, Int.reduceLT, reduceCtorEq]
  refine hi.lend (.cons o_a0.imm (.nil _)) ?_
  try simp only [OpK_eq, bne_self_eq_false, hkt_IsPrimitive, take6, List.drop_zero, Int.cast_ofNat_Int, go_sem, ↓reduceIte, Nat.reduceEqDiff, Nat.reduceAdd, Nat.reduceMul, Nat.reduceLeDiff, Nat.reduceLT, Int.reduceLE, Int.reduceLT, reduceCtorEq]
  refine Pure.go (r := .list (aggs t0)) (p21 t0 hq0 hm0) ?_
  try simp only [OpK_eq, bne_self_eq_false, hkt_IsPrimitive, take6, List.drop_zero, Int.cast_ofNat_Int, go_sem, ↓reduceIte, Nat.reduceEqDiff, Nat.reduceAdd, Nat.reduceMul, Nat.reduceLeDiff, Nat.reduceLT, Int.reduceLE, Int.reduceLT, reduceCtorEq]
  refine (p23 t0 t0 (by omega) (by omega) hm0 hm0).lend (.cons o_a0.imm (.cons Imm.still (.nil _))) ?_
  try simp only [OpK_eq, bne_self_eq_false, hkt_IsPrimitive, take6, List.drop_zero, Int.cast_ofNat_Int, go_sem, ↓reduceIte, Nat.reduceEqDiff, Nat.reduceAdd, Nat.reduceMul, Nat.reduceLeDiff, Nat.reduceLT, Int.reduceLE, Int.reduceLT, reduceCtorEq]
  exact Kv.Fin.still ⟨rfl, rfl⟩
theorem p7 (a : List (List Int)) (ha : a.length ≤ 9223372036854775807) (h6 : ∀ r ∈ a, r.length = 6) : Pure Try.prog 7 [.list (aggs a)] (.bool true) :=
  p7_at a ha h6 (fun h1 => p33 a h1 h6) (fun h1 => p34 a h1 h6)
end Go.Proofs.Ytpepbomifjbgnaa
