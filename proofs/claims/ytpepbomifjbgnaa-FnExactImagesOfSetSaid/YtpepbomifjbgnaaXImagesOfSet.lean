/- The law's function of ImagesOfSet, walked. -/
import Derived.Test.YtpepbomifjbgnaaCb
import Derived.Test.YtpepbomifjbgnaaIY
import Derived.Test.YtpepbomifjbgnaaG2
import Derived.Test.YtpepbomifjbgnaaG3
import Derived.Test.YtpepbomifjbgnaaG1
namespace Go.Proofs.Ytpepbomifjbgnaa
open Go.Kv
set_option maxRecDepth 100000
/- laws.FnExactImagesOfSet -/
def k11 : KC := (.seq (.ops [⟨(some 4), none, .mv (.c (.bool false))⟩])
  (.seq (.seq (.ops [⟨(some 17), none, .mv (.t 1)⟩, ⟨(some 18), none, .len false (.t 17)⟩, ⟨(some 19), none, .bin .gtr (.t 18) (.c (.int .i64 1048576))⟩])
  (.cond (.t 19) (.seq (.ops [⟨(some 4), none, .mv (.c (.bool true))⟩])
  .ret) .skip))
  (.seq (.ops [⟨(some 5), none, .mv (.c (.int .i64 1048576))⟩])
  (.seq (.ops [⟨(some 20), none, .mv (.t 0)⟩, ⟨(some 21), none, .mv (.t 5)⟩, ⟨(some 22), none, .call (.c (.fn (.func 19) [] [])) [(.t 20), (.t 21)]⟩, ⟨(some 5), none, .mv (.t 22)⟩])
  (.seq (.seq (.ops [⟨(some 23), none, .mv (.t 5)⟩, ⟨(some 24), none, .bin .lss (.t 23) (.c (.int .i64 0))⟩])
  (.cond (.t 24) (.seq (.ops [⟨(some 4), none, .mv (.c (.bool true))⟩])
  .ret) .skip))
  (.seq (.ops [⟨(some 26), none, .mv (.t 0)⟩, ⟨(some 27), none, .call (.c (.fn (.func 21) [] [])) [(.t 26)]⟩, ⟨(some 28), none, .mv (.t 1)⟩, ⟨(some 29), none, .call (.c (.fn (.func 15) [] [])) [(.t 28)]⟩, ⟨(some 30), none, .call (.c (.fn (.func 41) [] [])) [(.t 27), (.t 29)]⟩, ⟨(some 25), none, .mv (.t 30)⟩, ⟨(some 31), none, .extr 0 (.t 25)⟩, ⟨(some 32), none, .extr 1 (.t 25)⟩, ⟨(some 6), none, .mv (.t 31)⟩, ⟨(some 7), none, .mv (.t 32)⟩])
  (.seq (.ops [⟨(some 33), none, .mv (.t 0)⟩, ⟨(some 34), none, .call (.c (.fn (.func 21) [] [])) [(.t 33)]⟩, ⟨(some 8), none, .mv (.t 34)⟩])
  (.seq (.ops [⟨(some 35), none, .mv (.t 1)⟩, ⟨(some 36), none, .call (.c (.fn (.func 15) [] [])) [(.t 35)]⟩, ⟨(some 9), none, .mv (.t 36)⟩])
  (.seq (.ops [⟨(some 38), none, .mv (.t 8)⟩, ⟨(some 39), none, .mv (.t 9)⟩, ⟨(some 40), none, .call (.c (.fn (.func 42) [] [])) [(.t 38), (.t 39)]⟩, ⟨(some 37), none, .mv (.t 40)⟩, ⟨(some 41), none, .extr 0 (.t 37)⟩, ⟨(some 42), none, .extr 1 (.t 37)⟩, ⟨(some 10), none, .mv (.t 41)⟩, ⟨(some 11), none, .mv (.t 42)⟩])
  (.seq (.seq (.ops [⟨(some 43), none, .mv (.t 10)⟩, ⟨(some 44), none, .mv (.t 6)⟩, ⟨(some 45), none, .call (.c (.fn (.func 17) [] [])) [(.t 43), (.t 44)]⟩, ⟨(some 46), none, .not (.t 45)⟩, ⟨(some 47), none, .mv (.t 46)⟩, ⟨(some 48), some (47, false), .mv (.t 11)⟩, ⟨(some 49), some (47, false), .mv (.t 7)⟩, ⟨(some 50), some (47, false), .bin .neq (.t 48) (.t 49)⟩, ⟨(some 51), none, .pick (.t 47) (.c (.bool true)) (.t 50)⟩])
  (.cond (.t 51) (.seq (.ops [⟨(some 4), none, .mv (.c (.bool false))⟩])
  .ret) .skip))
  (.seq (.seq (.ops [⟨(some 52), none, .mv (.t 8)⟩, ⟨(some 53), none, .mv (.t 0)⟩, ⟨(some 54), none, .call (.c (.fn (.func 21) [] [])) [(.t 53)]⟩, ⟨(some 55), none, .call (.c (.fn (.func 23) [] [])) [(.t 52), (.t 54)]⟩, ⟨(some 56), none, .not (.t 55)⟩])
  (.cond (.t 56) (.seq (.ops [⟨(some 4), none, .mv (.c (.bool false))⟩])
  .ret) .skip))
  (.seq (.seq (.ops [⟨(some 57), none, .mv (.t 9)⟩, ⟨(some 58), none, .mv (.t 1)⟩, ⟨(some 59), none, .call (.c (.fn (.func 15) [] [])) [(.t 58)]⟩, ⟨(some 60), none, .call (.c (.fn (.func 18) [] [])) [(.t 57), (.t 59)]⟩, ⟨(some 61), none, .not (.t 60)⟩])
  (.cond (.t 61) (.seq (.ops [⟨(some 4), none, .mv (.c (.bool false))⟩])
  .ret) .skip))
  (.seq (.ops [⟨(some 12), none, .mv (.c (.int .i64 1))⟩])
  (.seq (.ops [⟨(some 62), none, .mv (.t 8)⟩, ⟨(some 63), none, .mv (.t 12)⟩, ⟨(some 64), none, .call (.c (.fn (.func 26) [] [])) [(.t 62), (.t 63)]⟩, ⟨(some 12), none, .mv (.t 64)⟩])
  (.seq (.ops [⟨(some 65), none, .mv (.t 9)⟩, ⟨(some 66), none, .mv (.t 12)⟩, ⟨(some 67), none, .call (.c (.fn (.func 27) [] [])) [(.t 65), (.t 66)]⟩, ⟨(some 12), none, .mv (.t 67)⟩])
  (.seq (.seq (.ops [⟨(some 68), none, .mv (.t 12)⟩, ⟨(some 69), none, .bin .lss (.t 68) (.c (.int .i64 0))⟩, ⟨(some 70), none, .mv (.t 69)⟩, ⟨(some 71), some (70, false), .mv (.t 10)⟩, ⟨(some 72), some (70, false), .mv (.t 6)⟩, ⟨(some 73), some (70, false), .call (.c (.fn (.func 17) [] [])) [(.t 71), (.t 72)]⟩, ⟨(some 74), some (70, false), .not (.t 73)⟩, ⟨(some 75), none, .pick (.t 70) (.c (.bool true)) (.t 74)⟩, ⟨(some 76), none, .mv (.t 75)⟩, ⟨(some 77), some (76, false), .mv (.t 11)⟩, ⟨(some 78), some (76, false), .mv (.t 7)⟩, ⟨(some 79), some (76, false), .bin .neq (.t 77) (.t 78)⟩, ⟨(some 80), none, .pick (.t 76) (.c (.bool true)) (.t 79)⟩])
  (.cond (.t 80) (.seq (.ops [⟨(some 4), none, .mv (.c (.bool false))⟩])
  .ret) .skip))
  (.seq (.ops [⟨(some 13), none, .mv (.c (.int .i64 1))⟩])
  (.seq (.ops [⟨(some 81), none, .mv (.t 10)⟩, ⟨(some 82), none, .mv (.t 13)⟩, ⟨(some 83), none, .call (.c (.fn (.func 31) [] [])) [(.t 81), (.t 82)]⟩, ⟨(some 13), none, .mv (.t 83)⟩])
  (.seq (.ops [⟨(some 14), none, .mv (.c (.int .i64 1))⟩])
  (.seq (.ops [⟨(some 84), none, .mv (.t 10)⟩, ⟨(some 85), none, .mv (.t 14)⟩, ⟨(some 86), none, .call (.c (.fn (.func 32) [] [])) [(.t 84), (.t 85)]⟩, ⟨(some 14), none, .mv (.t 86)⟩])
  (.seq (.seq (.ops [⟨(some 87), none, .mv (.t 14)⟩, ⟨(some 88), none, .bin .lss (.t 87) (.c (.int .i64 0))⟩])
  (.cond (.t 88) (.seq (.ops [⟨(some 4), none, .mv (.c (.bool false))⟩])
  .ret) .skip))
  (.seq (.seq (.ops [⟨(some 89), none, .mv (.t 14)⟩, ⟨(some 90), none, .mv (.t 13)⟩, ⟨(some 91), none, .bin .neq (.t 89) (.t 90)⟩])
  (.cond (.t 91) (.seq (.ops [⟨(some 4), none, .mv (.c (.bool false))⟩])
  .ret) .skip))
  (.seq (.ops [⟨(some 93), none, .mv (.t 0)⟩, ⟨(some 94), none, .call (.c (.fn (.func 21) [] [])) [(.t 93)]⟩, ⟨(some 95), none, .mv (.t 1)⟩, ⟨(some 96), none, .call (.c (.fn (.func 15) [] [])) [(.t 95)]⟩, ⟨(some 97), none, .call (.c (.fn (.func 42) [] [])) [(.t 94), (.t 96)]⟩, ⟨(some 92), none, .mv (.t 97)⟩, ⟨(some 98), none, .extr 0 (.t 92)⟩, ⟨(some 99), none, .extr 1 (.t 92)⟩, ⟨(some 15), none, .mv (.t 98)⟩, ⟨(some 16), none, .mv (.t 99)⟩])
  (.seq (.seq (.ops [⟨(some 100), none, .mv (.t 15)⟩, ⟨(some 101), none, .mv (.t 6)⟩, ⟨(some 102), none, .call (.c (.fn (.func 17) [] [])) [(.t 100), (.t 101)]⟩, ⟨(some 103), none, .not (.t 102)⟩, ⟨(some 104), none, .mv (.t 103)⟩, ⟨(some 105), some (104, false), .mv (.t 16)⟩, ⟨(some 106), some (104, false), .mv (.t 7)⟩, ⟨(some 107), some (104, false), .bin .neq (.t 105) (.t 106)⟩, ⟨(some 108), none, .pick (.t 104) (.c (.bool true)) (.t 107)⟩])
  (.cond (.t 108) (.seq (.ops [⟨(some 4), none, .mv (.c (.bool false))⟩])
  .ret) .skip))
  (.seq (.ops [⟨(some 14), none, .mv (.c (.int .i64 1))⟩])
  (.seq (.ops [⟨(some 109), none, .mv (.t 10)⟩, ⟨(some 110), none, .mv (.t 14)⟩, ⟨(some 111), none, .call (.c (.fn (.func 32) [] [])) [(.t 109), (.t 110)]⟩, ⟨(some 14), none, .mv (.t 111)⟩])
  (.seq (.seq (.ops [⟨(some 112), none, .mv (.t 14)⟩, ⟨(some 113), none, .bin .lss (.t 112) (.c (.int .i64 0))⟩])
  (.cond (.t 113) (.seq (.ops [⟨(some 4), none, .mv (.c (.bool false))⟩])
  .ret) .skip))
  (.seq (.seq (.ops [⟨(some 114), none, .mv (.t 14)⟩, ⟨(some 115), none, .mv (.t 13)⟩, ⟨(some 116), none, .bin .neq (.t 114) (.t 115)⟩])
  (.cond (.t 116) (.seq (.ops [⟨(some 4), none, .mv (.c (.bool false))⟩])
  .ret) .skip))
  (.seq (.ops [⟨(some 4), none, .mv (.c (.bool true))⟩])
  .ret)))))))))))))))))))))))))))))
theorem e11 {args : List PV} {σ : Heap} {K : PV → Heap → Prop} (hl : args.length ≤ 117) (h : Wf σ → (∀ a ∈ args, PV.upto σ.length a) → vc (mkCfg Try.prog mixed [] 117 σ.length) k11 (FinK σ.length [.t 4] K) (argEnv 0 args) σ) : ACall Try.prog 11 args σ K :=
  ACall_enter (C := mkCfg Try.prog mixed [] 117 σ.length) (c := Try.f11.body.getD .skip) Try.func11 (by kernel_rfl) (by kernel_rfl) (by kernel_rfl) rfl hl (by kernel_rfl) (by kernel_rfl) h
end Go.Proofs.Ytpepbomifjbgnaa
namespace Go.Proofs.Ytpepbomifjbgnaa
open Go.Kv
set_option linter.unusedVariables false
set_option linter.unusedSimpArgs false
attribute [local irreducible] ACall PCall KL
theorem hkt_ImagesOfSet (σ : Heap) (K : PV → Heap → Prop) (l : List PV) : HK σ K (.tup l) = K (.tup l) σ := rfl
theorem p11_at (t0 : List (List Int)) (ht0 : t0.length ≤ 9223372036854775807) (hm0 : ∀ r ∈ t0, r.length = 6) (t1 : List Int) (ht1 : t1.length ≤ 9223372036854775807) {T : List (List Int)} {r : Int} {w : PV} [hw : Still w] (him : ∀ σ, Imm σ w (.list (rows T))) (hs : t0.length ≤ 1048576 → t1.length ≤ 1048576 → Pure Try.prog 41 [.list (aggs t0), .list (ints t1)] (.tup [w, .int .i64 r])) (hi : t0.length ≤ 1048576 → t1.length ≤ 1048576 → NewTO Try.prog 42 [.list (aggs t0), .list (ints t1)] 23 2 T r) (hT : T.length ≤ 1048576 ∧ (∀ r ∈ T, r.length ≤ 1048576) ∧ tot T ≤ 1048576) : Pure Try.prog 11 [.list (aggs t0), .list (ints t1)] (.bool true) := by
  refine e11 (by simp) fun _ _ => ?_
  simp only [k11, argEnv, take6, List.drop_zero, Int.cast_ofNat_Int, go_sem, ↓reduceIte, Nat.reduceEqDiff, Nat.reduceAdd, Nat.reduceMul, Nat.reduceLeDiff, Nat.reduceLT, Int.reduceLE, Int.reduceLT, reduceCtorEq]
  refine ⟨fun h => Kv.Fin.still ⟨rfl, rfl⟩, fun hz1 => ?_⟩
  have hq1 : t1.length ≤ 1048576 := by omega
  refine (p19 t0 _ ht0 (by omega)).go ?_
  try simp only [OpK_eq, bne_self_eq_false, hkt_ImagesOfSet, take6, List.drop_zero, Int.cast_ofNat_Int, go_sem, ↓reduceIte, Nat.reduceEqDiff, Nat.reduceAdd, Nat.reduceMul, Nat.reduceLeDiff, Nat.reduceLT, Int.reduceLE, Int.reduceLT, reduceCtorEq]
  refine ⟨fun h => Kv.Fin.still ⟨rfl, rfl⟩, fun hz0 => ?_⟩
  obtain ⟨hq0, hz00, hz10⟩ := szA_all t0.length _ (by omega) hz0
  have hs := hs hq0 hq1
  have hi := hi hq0 hq1
  refine Pure.go (r := .list (aggs t0)) (p21 t0 hq0 hm0) ?_
  try simp only [OpK_eq, bne_self_eq_false, hkt_ImagesOfSet, take6, List.drop_zero, Int.cast_ofNat_Int, go_sem, ↓reduceIte, Nat.reduceEqDiff, Nat.reduceAdd, Nat.reduceMul, Nat.reduceLeDiff, Nat.reduceLT, Int.reduceLE, Int.reduceLT, reduceCtorEq]
  refine Pure.go (r := .list (ints t1)) (p15 t1 hq1) ?_
  try simp only [OpK_eq, bne_self_eq_false, hkt_ImagesOfSet, take6, List.drop_zero, Int.cast_ofNat_Int, go_sem, ↓reduceIte, Nat.reduceEqDiff, Nat.reduceAdd, Nat.reduceMul, Nat.reduceLeDiff, Nat.reduceLT, Int.reduceLE, Int.reduceLT, reduceCtorEq]
  first | refine hs.go ?_ | refine hs.pgo ?_
  try simp only [OpK_eq, bne_self_eq_false, hkt_ImagesOfSet, take6, List.drop_zero, Int.cast_ofNat_Int, go_sem, ↓reduceIte, Nat.reduceEqDiff, Nat.reduceAdd, Nat.reduceMul, Nat.reduceLeDiff, Nat.reduceLT, Int.reduceLE, Int.reduceLT, reduceCtorEq]
  refine p21O t0 hq0 hm0 fun xa0 σ1 o_a0 k1 l1 => ?_
  try simp only [OpK_eq, bne_self_eq_false, hkt_ImagesOfSet, take6, List.drop_zero, Int.cast_ofNat_Int, go_sem, ↓reduceIte, Nat.reduceEqDiff, Nat.reduceAdd, Nat.reduceMul, Nat.reduceLeDiff, Nat.reduceLT, Int.reduceLE, Int.reduceLT, reduceCtorEq]
  refine p15O t1 hq1 fun xa1 σ2 o_a1 k2 l2 => ?_
  replace o_a0 := o_a0.keep fun j h1 h2 => k2 j (by first | omega | (simp at *; omega))
  try simp only [OpK_eq, bne_self_eq_false, hkt_ImagesOfSet, take6, List.drop_zero, Int.cast_ofNat_Int, go_sem, ↓reduceIte, Nat.reduceEqDiff, Nat.reduceAdd, Nat.reduceMul, Nat.reduceLeDiff, Nat.reduceLT, Int.reduceLE, Int.reduceLT, reduceCtorEq]
  refine hi.lend (.cons o_a0.imm (.cons o_a1.imm (.nil _))) fun xg σ3 o_g k3 l3 => ?_
  replace o_a0 := o_a0.keep fun j h1 h2 => k3 j (by first | omega | (simp at *; omega))
  replace o_a1 := o_a1.keep fun j h1 h2 => k3 j (by first | omega | (simp at *; omega))
  try simp only [OpK_eq, bne_self_eq_false, hkt_ImagesOfSet, take6, List.drop_zero, Int.cast_ofNat_Int, go_sem, ↓reduceIte, Nat.reduceEqDiff, Nat.reduceAdd, Nat.reduceMul, Nat.reduceLeDiff, Nat.reduceLT, Int.reduceLE, Int.reduceLT, reduceCtorEq]
  refine (p17 T T (by omega) (by omega) (fun r hr => by have := hT.2.1 r hr; omega) (fun r hr => by have := hT.2.1 r hr; omega)).lend (.cons o_g.imm (.cons (him _) (.nil _))) ?_
  try simp only [OpK_eq, bne_self_eq_false, hkt_ImagesOfSet, take6, List.drop_zero, Int.cast_ofNat_Int, go_sem, ↓reduceIte, Nat.reduceEqDiff, Nat.reduceAdd, Nat.reduceMul, Nat.reduceLeDiff, Nat.reduceLT, Int.reduceLE, Int.reduceLT, reduceCtorEq]
  refine Pure.go (r := .list (aggs t0)) (p21 t0 hq0 hm0) ?_
  try simp only [OpK_eq, bne_self_eq_false, hkt_ImagesOfSet, take6, List.drop_zero, Int.cast_ofNat_Int, go_sem, ↓reduceIte, Nat.reduceEqDiff, Nat.reduceAdd, Nat.reduceMul, Nat.reduceLeDiff, Nat.reduceLT, Int.reduceLE, Int.reduceLT, reduceCtorEq]
  refine (p23 t0 t0 (by omega) (by omega) hm0 hm0).lend (.cons o_a0.imm (.cons Imm.still (.nil _))) ?_
  try simp only [OpK_eq, bne_self_eq_false, hkt_ImagesOfSet, take6, List.drop_zero, Int.cast_ofNat_Int, go_sem, ↓reduceIte, Nat.reduceEqDiff, Nat.reduceAdd, Nat.reduceMul, Nat.reduceLeDiff, Nat.reduceLT, Int.reduceLE, Int.reduceLT, reduceCtorEq]
  refine Pure.go (r := .list (ints t1)) (p15 t1 hq1) ?_
  try simp only [OpK_eq, bne_self_eq_false, hkt_ImagesOfSet, take6, List.drop_zero, Int.cast_ofNat_Int, go_sem, ↓reduceIte, Nat.reduceEqDiff, Nat.reduceAdd, Nat.reduceMul, Nat.reduceLeDiff, Nat.reduceLT, Int.reduceLE, Int.reduceLT, reduceCtorEq]
  refine (p18 t1 t1 (by omega) (by omega)).lend (.cons o_a1.imm (.cons Imm.still (.nil _))) ?_
  try simp only [OpK_eq, bne_self_eq_false, hkt_ImagesOfSet, take6, List.drop_zero, Int.cast_ofNat_Int, go_sem, ↓reduceIte, Nat.reduceEqDiff, Nat.reduceAdd, Nat.reduceMul, Nat.reduceLeDiff, Nat.reduceLT, Int.reduceLE, Int.reduceLT, reduceCtorEq]
  refine p26O o_a0 1 (by omega) hm0 (by omega) fun σ4 o_a0' k4 l4 => ?_
  replace o_a1 := o_a1.keep fun j h1 h2 => k4 j (by first | omega | (simp at *; omega))
  replace o_g := o_g.keep fun j h1 h2 => k4 j (by first | omega | (simp at *; omega))
  replace o_a0 := o_a0'
  clear o_a0'
  try simp only [OpK_eq, bne_self_eq_false, hkt_ImagesOfSet, take6, List.drop_zero, Int.cast_ofNat_Int, go_sem, ↓reduceIte, Nat.reduceEqDiff, Nat.reduceAdd, Nat.reduceMul, Nat.reduceLeDiff, Nat.reduceLT, Int.reduceLE, Int.reduceLT, reduceCtorEq]
  refine p27O o_a1 _ (by omega) (by omega) fun σ5 o_a1' k5 l5 => ?_
  replace o_a0 := o_a0.keep fun j h1 h2 => k5 j (by first | omega | (simp at *; omega))
  replace o_g := o_g.keep fun j h1 h2 => k5 j (by first | omega | (simp at *; omega))
  replace o_a1 := o_a1'
  clear o_a1'
  try simp only [OpK_eq, bne_self_eq_false, hkt_ImagesOfSet, take6, List.drop_zero, Int.cast_ofNat_Int, go_sem, ↓reduceIte, Nat.reduceEqDiff, Nat.reduceAdd, Nat.reduceMul, Nat.reduceLeDiff, Nat.reduceLT, Int.reduceLE, Int.reduceLT, reduceCtorEq]
  repeat' (first | refine And.intro ?_ ?_ | intro _)
  all_goals (try omega)
  refine (p17 T T (by omega) (by omega) (fun r hr => by have := hT.2.1 r hr; omega) (fun r hr => by have := hT.2.1 r hr; omega)).lend (.cons o_g.imm (.cons (him _) (.nil _))) ?_
  try simp only [OpK_eq, bne_self_eq_false, hkt_ImagesOfSet, take6, List.drop_zero, Int.cast_ofNat_Int, go_sem, ↓reduceIte, Nat.reduceEqDiff, Nat.reduceAdd, Nat.reduceMul, Nat.reduceLeDiff, Nat.reduceLT, Int.reduceLE, Int.reduceLT, reduceCtorEq]
  refine p31O o_g 1 (by omega) (by omega) (by omega) fun σ6 o_g' k6 l6 => ?_
  replace o_a0 := o_a0.keep fun j h1 h2 => k6 j (by first | omega | (simp at *; omega))
  replace o_a1 := o_a1.keep fun j h1 h2 => k6 j (by first | omega | (simp at *; omega))
  replace o_g := o_g'
  clear o_g'
  try simp only [OpK_eq, bne_self_eq_false, hkt_ImagesOfSet, take6, List.drop_zero, Int.cast_ofNat_Int, go_sem, ↓reduceIte, Nat.reduceEqDiff, Nat.reduceAdd, Nat.reduceMul, Nat.reduceLeDiff, Nat.reduceLT, Int.reduceLE, Int.reduceLT, reduceCtorEq]
  refine (p32 1 T (by omega) (by omega) (by omega) (by omega)).lend (.cons o_g.imm (.cons Imm.still (.nil _))) ?_
  try simp only [OpK_eq, bne_self_eq_false, hkt_ImagesOfSet, take6, List.drop_zero, Int.cast_ofNat_Int, go_sem, ↓reduceIte, Nat.reduceEqDiff, Nat.reduceAdd, Nat.reduceMul, Nat.reduceLeDiff, Nat.reduceLT, Int.reduceLE, Int.reduceLT, reduceCtorEq]
  repeat' (first | refine And.intro ?_ ?_ | intro _)
  all_goals (try omega)
  refine Pure.go (r := .list (aggs t0)) (p21 t0 hq0 hm0) ?_
  try simp only [OpK_eq, bne_self_eq_false, hkt_ImagesOfSet, take6, List.drop_zero, Int.cast_ofNat_Int, go_sem, ↓reduceIte, Nat.reduceEqDiff, Nat.reduceAdd, Nat.reduceMul, Nat.reduceLeDiff, Nat.reduceLT, Int.reduceLE, Int.reduceLT, reduceCtorEq]
  refine Pure.go (r := .list (ints t1)) (p15 t1 hq1) ?_
  try simp only [OpK_eq, bne_self_eq_false, hkt_ImagesOfSet, take6, List.drop_zero, Int.cast_ofNat_Int, go_sem, ↓reduceIte, Nat.reduceEqDiff, Nat.reduceAdd, Nat.reduceMul, Nat.reduceLeDiff, Nat.reduceLT, Int.reduceLE, Int.reduceLT, reduceCtorEq]
  refine hi.lend (.still inferInstance) fun xh σ7 o_h k7 l7 => ?_
  replace o_a0 := o_a0.keep fun j h1 h2 => k7 j (by first | omega | (simp at *; omega))
  replace o_a1 := o_a1.keep fun j h1 h2 => k7 j (by first | omega | (simp at *; omega))
  replace o_g := o_g.keep fun j h1 h2 => k7 j (by first | omega | (simp at *; omega))
  try simp only [OpK_eq, bne_self_eq_false, hkt_ImagesOfSet, take6, List.drop_zero, Int.cast_ofNat_Int, go_sem, ↓reduceIte, Nat.reduceEqDiff, Nat.reduceAdd, Nat.reduceMul, Nat.reduceLeDiff, Nat.reduceLT, Int.reduceLE, Int.reduceLT, reduceCtorEq]
  refine (p17 T T (by omega) (by omega) (fun r hr => by have := hT.2.1 r hr; omega) (fun r hr => by have := hT.2.1 r hr; omega)).lend (.cons o_h.imm (.cons (him _) (.nil _))) ?_
  try simp only [OpK_eq, bne_self_eq_false, hkt_ImagesOfSet, take6, List.drop_zero, Int.cast_ofNat_Int, go_sem, ↓reduceIte, Nat.reduceEqDiff, Nat.reduceAdd, Nat.reduceMul, Nat.reduceLeDiff, Nat.reduceLT, Int.reduceLE, Int.reduceLT, reduceCtorEq]
  refine (p32 1 T (by omega) (by omega) (by omega) (by omega)).lend (.cons o_g.imm (.cons Imm.still (.nil _))) ?_
  try simp only [OpK_eq, bne_self_eq_false, hkt_ImagesOfSet, take6, List.drop_zero, Int.cast_ofNat_Int, go_sem, ↓reduceIte, Nat.reduceEqDiff, Nat.reduceAdd, Nat.reduceMul, Nat.reduceLeDiff, Nat.reduceLT, Int.reduceLE, Int.reduceLT, reduceCtorEq]
  repeat' (first | refine And.intro ?_ ?_ | intro _)
  all_goals (try omega)
  exact Kv.Fin.still ⟨rfl, rfl⟩
theorem tot_leJ (n : Nat) : ∀ (t : List (List Int)), (∀ r ∈ t, r.length ≤ n) → tot t ≤ t.length * n
  | [], _ => by simp [tot]
  | a :: t, h => by
    have := h a (by simp)
    have := tot_leJ n t fun r hr => h r (by simp [hr])
    simp only [tot, List.length_cons, Nat.succ_mul]
    omega
theorem rowsB_small {S : List Nat} (h : S.length ≤ 32) : (rowsB S).length ≤ 1048576 ∧ (∀ r ∈ rowsB S, r.length ≤ 1048576) ∧ tot (rowsB S) ≤ 1048576 := by
  have hrl : ∀ r ∈ rowsB S, r.length ≤ 62 := fun r hr => by
    obtain ⟨b, _, rfl⟩ := List.mem_map.1 hr
    rw [nz_len]; exact pof_le b 62
  have hlr : (rowsB S).length = S.length := List.length_map _
  refine ⟨by omega, fun r hr => by have := hrl r hr; omega, ?_⟩
  have h1 := tot_leJ 62 _ hrl
  have h2 : (rowsB S).length * 62 ≤ 32 * 62 := Nat.mul_le_mul (by omega) (Nat.le_refl 62)
  omega
theorem p11 (a : List (List Int)) (ha : a.length ≤ 9223372036854775807) (h6 : ∀ r ∈ a, r.length = 6) (P : List Int) (hP : P.length ≤ 9223372036854775807) : Pure Try.prog 11 [.list (aggs a), .list (ints P)] (.bool true) := by
  by_cases h : fsc a P = 0
  · obtain ⟨hl, hb⟩ := fsc_zero h
    obtain ⟨fs, n, rfl, hf, hl1, hl2, hn, hn1, hn5⟩ := lcode_maps h6 hl
    rw [hn] at hb
    obtain ⟨hb1, hb2, _⟩ := asc_bits hn5 (bad_asc hb)
    have hSl := srt_len5 (imS_srt (fs := fs) (x := bits P) hn5) hn5 fun b hb => (((imS_mem hn5 hf hb1 hb2 b).1 hb).bnd hf hb1 hb2).2
    exact p11_at _ ha h6 P hP (fun _ => Imm.still) (fun _ _ => p41_in fs n hf (by omega) hl2 hl P hb) (fun _ _ => p42_in fs n hf (by omega) hl2 hl P hb) (rowsB_small hSl)
  · exact p11_at a ha h6 P hP (T := []) (w := .nils) (fun _ => Imm.nils) (fun h1 h2 => p41_out a P h1 h6 h2 h) (fun h1 h2 => Pure.ownT (p42_out a P h1 h6 h2 h)) ⟨by simp, by simp, by simp [tot]⟩
end Go.Proofs.Ytpepbomifjbgnaa
