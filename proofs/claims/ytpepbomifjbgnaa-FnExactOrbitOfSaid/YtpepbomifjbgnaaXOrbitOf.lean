/- The law's function of OrbitOf, walked. -/
import Derived.Test.YtpepbomifjbgnaaCb
import Derived.Test.YtpepbomifjbgnaaOO
import Derived.Test.YtpepbomifjbgnaaEqM
import Derived.Test.YtpepbomifjbgnaaLO
import Derived.Test.YtpepbomifjbgnaaLA
import Derived.Test.YtpepbomifjbgnaaLB
import Derived.Test.YtpepbomifjbgnaaB
namespace Go.Proofs.Ytpepbomifjbgnaa
open Go.Kv
set_option maxRecDepth 100000
/- laws.FnExactOrbitOf -/
def k5 : KC := (.seq (.ops [⟨(some 4), none, .mv (.c (.bool false))⟩])
  (.seq (.ops [⟨(some 5), none, .mv (.c (.int .i64 1048576))⟩])
  (.seq (.ops [⟨(some 16), none, .mv (.t 0)⟩, ⟨(some 17), none, .mv (.t 5)⟩, ⟨(some 18), none, .call (.c (.fn (.func 19) [] [])) [(.t 16), (.t 17)]⟩, ⟨(some 5), none, .mv (.t 18)⟩])
  (.seq (.seq (.ops [⟨(some 19), none, .mv (.t 5)⟩, ⟨(some 20), none, .bin .lss (.t 19) (.c (.int .i64 0))⟩])
  (.cond (.t 20) (.seq (.ops [⟨(some 4), none, .mv (.c (.bool true))⟩])
  .ret) .skip))
  (.seq (.ops [⟨(some 22), none, .mv (.t 0)⟩, ⟨(some 23), none, .call (.c (.fn (.func 21) [] [])) [(.t 22)]⟩, ⟨(some 24), none, .mv (.t 1)⟩, ⟨(some 25), none, .call (.c (.fn (.func 24) [] [])) [(.t 23), (.t 24)]⟩, ⟨(some 21), none, .mv (.t 25)⟩, ⟨(some 26), none, .extr 0 (.t 21)⟩, ⟨(some 27), none, .extr 1 (.t 21)⟩, ⟨(some 6), none, .mv (.t 26)⟩, ⟨(some 7), none, .mv (.t 27)⟩])
  (.seq (.ops [⟨(some 28), none, .mv (.t 0)⟩, ⟨(some 29), none, .call (.c (.fn (.func 21) [] [])) [(.t 28)]⟩, ⟨(some 8), none, .mv (.t 29)⟩])
  (.seq (.ops [⟨(some 31), none, .mv (.t 8)⟩, ⟨(some 32), none, .mv (.t 1)⟩, ⟨(some 33), none, .call (.c (.fn (.func 25) [] [])) [(.t 31), (.t 32)]⟩, ⟨(some 30), none, .mv (.t 33)⟩, ⟨(some 34), none, .extr 0 (.t 30)⟩, ⟨(some 35), none, .extr 1 (.t 30)⟩, ⟨(some 9), none, .mv (.t 34)⟩, ⟨(some 10), none, .mv (.t 35)⟩])
  (.seq (.seq (.ops [⟨(some 36), none, .mv (.t 9)⟩, ⟨(some 37), none, .mv (.t 6)⟩, ⟨(some 38), none, .call (.c (.fn (.func 18) [] [])) [(.t 36), (.t 37)]⟩, ⟨(some 39), none, .not (.t 38)⟩, ⟨(some 40), none, .mv (.t 39)⟩, ⟨(some 41), some (40, false), .mv (.t 10)⟩, ⟨(some 42), some (40, false), .mv (.t 7)⟩, ⟨(some 43), some (40, false), .bin .neq (.t 41) (.t 42)⟩, ⟨(some 44), none, .pick (.t 40) (.c (.bool true)) (.t 43)⟩])
  (.cond (.t 44) (.seq (.ops [⟨(some 4), none, .mv (.c (.bool false))⟩])
  .ret) .skip))
  (.seq (.seq (.ops [⟨(some 45), none, .mv (.t 8)⟩, ⟨(some 46), none, .mv (.t 0)⟩, ⟨(some 47), none, .call (.c (.fn (.func 21) [] [])) [(.t 46)]⟩, ⟨(some 48), none, .call (.c (.fn (.func 23) [] [])) [(.t 45), (.t 47)]⟩, ⟨(some 49), none, .not (.t 48)⟩])
  (.cond (.t 49) (.seq (.ops [⟨(some 4), none, .mv (.c (.bool false))⟩])
  .ret) .skip))
  (.seq (.ops [⟨(some 11), none, .mv (.c (.int .i64 1))⟩])
  (.seq (.ops [⟨(some 50), none, .mv (.t 8)⟩, ⟨(some 51), none, .mv (.t 11)⟩, ⟨(some 52), none, .call (.c (.fn (.func 26) [] [])) [(.t 50), (.t 51)]⟩, ⟨(some 11), none, .mv (.t 52)⟩])
  (.seq (.seq (.ops [⟨(some 53), none, .mv (.t 11)⟩, ⟨(some 54), none, .bin .lss (.t 53) (.c (.int .i64 0))⟩, ⟨(some 55), none, .mv (.t 54)⟩, ⟨(some 56), some (55, false), .mv (.t 9)⟩, ⟨(some 57), some (55, false), .mv (.t 6)⟩, ⟨(some 58), some (55, false), .call (.c (.fn (.func 18) [] [])) [(.t 56), (.t 57)]⟩, ⟨(some 59), some (55, false), .not (.t 58)⟩, ⟨(some 60), none, .pick (.t 55) (.c (.bool true)) (.t 59)⟩, ⟨(some 61), none, .mv (.t 60)⟩, ⟨(some 62), some (61, false), .mv (.t 10)⟩, ⟨(some 63), some (61, false), .mv (.t 7)⟩, ⟨(some 64), some (61, false), .bin .neq (.t 62) (.t 63)⟩, ⟨(some 65), none, .pick (.t 61) (.c (.bool true)) (.t 64)⟩])
  (.cond (.t 65) (.seq (.ops [⟨(some 4), none, .mv (.c (.bool false))⟩])
  .ret) .skip))
  (.seq (.ops [⟨(some 12), none, .mv (.c (.int .i64 1))⟩])
  (.seq (.ops [⟨(some 66), none, .mv (.t 9)⟩, ⟨(some 67), none, .mv (.t 12)⟩, ⟨(some 68), none, .call (.c (.fn (.func 27) [] [])) [(.t 66), (.t 67)]⟩, ⟨(some 12), none, .mv (.t 68)⟩])
  (.seq (.ops [⟨(some 13), none, .mv (.c (.int .i64 1))⟩])
  (.seq (.ops [⟨(some 69), none, .mv (.t 9)⟩, ⟨(some 70), none, .mv (.t 13)⟩, ⟨(some 71), none, .call (.c (.fn (.func 28) [] [])) [(.t 69), (.t 70)]⟩, ⟨(some 13), none, .mv (.t 71)⟩])
  (.seq (.seq (.ops [⟨(some 72), none, .mv (.t 13)⟩, ⟨(some 73), none, .bin .lss (.t 72) (.c (.int .i64 0))⟩])
  (.cond (.t 73) (.seq (.ops [⟨(some 4), none, .mv (.c (.bool false))⟩])
  .ret) .skip))
  (.seq (.seq (.ops [⟨(some 74), none, .mv (.t 13)⟩, ⟨(some 75), none, .mv (.t 12)⟩, ⟨(some 76), none, .bin .neq (.t 74) (.t 75)⟩])
  (.cond (.t 76) (.seq (.ops [⟨(some 4), none, .mv (.c (.bool false))⟩])
  .ret) .skip))
  (.seq (.ops [⟨(some 78), none, .mv (.t 0)⟩, ⟨(some 79), none, .call (.c (.fn (.func 21) [] [])) [(.t 78)]⟩, ⟨(some 80), none, .mv (.t 1)⟩, ⟨(some 81), none, .call (.c (.fn (.func 25) [] [])) [(.t 79), (.t 80)]⟩, ⟨(some 77), none, .mv (.t 81)⟩, ⟨(some 82), none, .extr 0 (.t 77)⟩, ⟨(some 83), none, .extr 1 (.t 77)⟩, ⟨(some 14), none, .mv (.t 82)⟩, ⟨(some 15), none, .mv (.t 83)⟩])
  (.seq (.seq (.ops [⟨(some 84), none, .mv (.t 14)⟩, ⟨(some 85), none, .mv (.t 6)⟩, ⟨(some 86), none, .call (.c (.fn (.func 18) [] [])) [(.t 84), (.t 85)]⟩, ⟨(some 87), none, .not (.t 86)⟩, ⟨(some 88), none, .mv (.t 87)⟩, ⟨(some 89), some (88, false), .mv (.t 15)⟩, ⟨(some 90), some (88, false), .mv (.t 7)⟩, ⟨(some 91), some (88, false), .bin .neq (.t 89) (.t 90)⟩, ⟨(some 92), none, .pick (.t 88) (.c (.bool true)) (.t 91)⟩])
  (.cond (.t 92) (.seq (.ops [⟨(some 4), none, .mv (.c (.bool false))⟩])
  .ret) .skip))
  (.seq (.ops [⟨(some 13), none, .mv (.c (.int .i64 1))⟩])
  (.seq (.ops [⟨(some 93), none, .mv (.t 9)⟩, ⟨(some 94), none, .mv (.t 13)⟩, ⟨(some 95), none, .call (.c (.fn (.func 28) [] [])) [(.t 93), (.t 94)]⟩, ⟨(some 13), none, .mv (.t 95)⟩])
  (.seq (.seq (.ops [⟨(some 96), none, .mv (.t 13)⟩, ⟨(some 97), none, .bin .lss (.t 96) (.c (.int .i64 0))⟩])
  (.cond (.t 97) (.seq (.ops [⟨(some 4), none, .mv (.c (.bool false))⟩])
  .ret) .skip))
  (.seq (.seq (.ops [⟨(some 98), none, .mv (.t 13)⟩, ⟨(some 99), none, .mv (.t 12)⟩, ⟨(some 100), none, .bin .neq (.t 98) (.t 99)⟩])
  (.cond (.t 100) (.seq (.ops [⟨(some 4), none, .mv (.c (.bool false))⟩])
  .ret) .skip))
  (.seq (.ops [⟨(some 4), none, .mv (.c (.bool true))⟩])
  .ret)))))))))))))))))))))))))
theorem e5 {args : List PV} {σ : Heap} {K : PV → Heap → Prop} (hl : args.length ≤ 101) (h : Wf σ → (∀ a ∈ args, PV.upto σ.length a) → vc (mkCfg Try.prog mixed [] 101 σ.length) k5 (FinK σ.length [.t 4] K) (argEnv 0 args) σ) : ACall Try.prog 5 args σ K :=
  ACall_enter (C := mkCfg Try.prog mixed [] 101 σ.length) (c := Try.f5.body.getD .skip) Try.func5 (by kernel_rfl) (by kernel_rfl) (by kernel_rfl) rfl hl (by kernel_rfl) (by kernel_rfl) h
end Go.Proofs.Ytpepbomifjbgnaa
namespace Go.Proofs.Ytpepbomifjbgnaa
open Go.Kv
set_option linter.unusedVariables false
set_option linter.unusedSimpArgs false
attribute [local irreducible] ACall PCall KL
theorem hkt_OrbitOf (σ : Heap) (K : PV → Heap → Prop) (l : List PV) : HK σ K (.tup l) = K (.tup l) σ := rfl
theorem p5_at (t0 : List (List Int)) (ht0 : t0.length ≤ 9223372036854775807) (hm0 : ∀ r ∈ t0, r.length = 6) (t1 : Int) {T : List Int} {r : Int} {w : PV} [hw : Still w] (him : ∀ σ, Imm σ w (.list (ints T))) (hs : t0.length ≤ 1048576 → Pure Try.prog 24 [.list (aggs t0), .int .i64 t1] (.tup [w, .int .i64 r])) (hi : t0.length ≤ 1048576 → NewIO Try.prog 25 [.list (aggs t0), .int .i64 t1] 2 T r) (hT : T.length ≤ 1048576) : Pure Try.prog 5 [.list (aggs t0), .int .i64 t1] (.bool true) := by
  refine e5 (by simp) fun _ _ => ?_
  simp only [k5, argEnv, take6, List.drop_zero, Int.cast_ofNat_Int, go_sem, ↓reduceIte, Nat.reduceEqDiff, Nat.reduceAdd, Nat.reduceMul, Nat.reduceLeDiff, Nat.reduceLT, Int.reduceLE, Int.reduceLT, reduceCtorEq]
  refine (p19 t0 _ ht0 (by omega)).go ?_
  try simp only [OpK_eq, bne_self_eq_false, hkt_OrbitOf, take6, List.drop_zero, Int.cast_ofNat_Int, go_sem, ↓reduceIte, Nat.reduceEqDiff, Nat.reduceAdd, Nat.reduceMul, Nat.reduceLeDiff, Nat.reduceLT, Int.reduceLE, Int.reduceLT, reduceCtorEq]
  refine ⟨fun h => Kv.Fin.still ⟨rfl, rfl⟩, fun hz0 => ?_⟩
  obtain ⟨hq0, hz00, hz10⟩ := szA_all t0.length _ (by omega) hz0
  have hs := hs hq0
  have hi := hi hq0
  refine Pure.go (r := .list (aggs t0)) (p21 t0 hq0 hm0) ?_
  try simp only [OpK_eq, bne_self_eq_false, hkt_OrbitOf, take6, List.drop_zero, Int.cast_ofNat_Int, go_sem, ↓reduceIte, Nat.reduceEqDiff, Nat.reduceAdd, Nat.reduceMul, Nat.reduceLeDiff, Nat.reduceLT, Int.reduceLE, Int.reduceLT, reduceCtorEq]
  first | refine hs.go ?_ | refine hs.pgo ?_
  try simp only [OpK_eq, bne_self_eq_false, hkt_OrbitOf, take6, List.drop_zero, Int.cast_ofNat_Int, go_sem, ↓reduceIte, Nat.reduceEqDiff, Nat.reduceAdd, Nat.reduceMul, Nat.reduceLeDiff, Nat.reduceLT, Int.reduceLE, Int.reduceLT, reduceCtorEq]
  refine p21O t0 hq0 hm0 fun xa0 σ1 o_a0 k1 l1 => ?_
  try simp only [OpK_eq, bne_self_eq_false, hkt_OrbitOf, take6, List.drop_zero, Int.cast_ofNat_Int, go_sem, ↓reduceIte, Nat.reduceEqDiff, Nat.reduceAdd, Nat.reduceMul, Nat.reduceLeDiff, Nat.reduceLT, Int.reduceLE, Int.reduceLT, reduceCtorEq]
  refine hi.lend (.cons o_a0.imm (.cons Imm.still (.nil _))) fun xg σ2 o_g k2 l2 => ?_
  replace o_a0 := o_a0.keep fun j h1 h2 => k2 j (by first | omega | (simp at *; omega))
  try simp only [OpK_eq, bne_self_eq_false, hkt_OrbitOf, take6, List.drop_zero, Int.cast_ofNat_Int, go_sem, ↓reduceIte, Nat.reduceEqDiff, Nat.reduceAdd, Nat.reduceMul, Nat.reduceLeDiff, Nat.reduceLT, Int.reduceLE, Int.reduceLT, reduceCtorEq]
  refine (p18 T T (by omega) (by omega)).lend (.cons o_g.imm (.cons (him _) (.nil _))) ?_
  try simp only [OpK_eq, bne_self_eq_false, hkt_OrbitOf, take6, List.drop_zero, Int.cast_ofNat_Int, go_sem, ↓reduceIte, Nat.reduceEqDiff, Nat.reduceAdd, Nat.reduceMul, Nat.reduceLeDiff, Nat.reduceLT, Int.reduceLE, Int.reduceLT, reduceCtorEq]
  refine Pure.go (r := .list (aggs t0)) (p21 t0 hq0 hm0) ?_
  try simp only [OpK_eq, bne_self_eq_false, hkt_OrbitOf, take6, List.drop_zero, Int.cast_ofNat_Int, go_sem, ↓reduceIte, Nat.reduceEqDiff, Nat.reduceAdd, Nat.reduceMul, Nat.reduceLeDiff, Nat.reduceLT, Int.reduceLE, Int.reduceLT, reduceCtorEq]
  refine (p23 t0 t0 (by omega) (by omega) hm0 hm0).lend (.cons o_a0.imm (.cons Imm.still (.nil _))) ?_
  try simp only [OpK_eq, bne_self_eq_false, hkt_OrbitOf, take6, List.drop_zero, Int.cast_ofNat_Int, go_sem, ↓reduceIte, Nat.reduceEqDiff, Nat.reduceAdd, Nat.reduceMul, Nat.reduceLeDiff, Nat.reduceLT, Int.reduceLE, Int.reduceLT, reduceCtorEq]
  refine p26O o_a0 1 (by omega) hm0 (by omega) fun σ3 o_a0' k3 l3 => ?_
  replace o_g := o_g.keep fun j h1 h2 => k3 j (by first | omega | (simp at *; omega))
  replace o_a0 := o_a0'
  clear o_a0'
  try simp only [OpK_eq, bne_self_eq_false, hkt_OrbitOf, take6, List.drop_zero, Int.cast_ofNat_Int, go_sem, ↓reduceIte, Nat.reduceEqDiff, Nat.reduceAdd, Nat.reduceMul, Nat.reduceLeDiff, Nat.reduceLT, Int.reduceLE, Int.reduceLT, reduceCtorEq]
  repeat' (first | refine And.intro ?_ ?_ | intro _)
  all_goals (try omega)
  refine (p18 T T (by omega) (by omega)).lend (.cons o_g.imm (.cons (him _) (.nil _))) ?_
  try simp only [OpK_eq, bne_self_eq_false, hkt_OrbitOf, take6, List.drop_zero, Int.cast_ofNat_Int, go_sem, ↓reduceIte, Nat.reduceEqDiff, Nat.reduceAdd, Nat.reduceMul, Nat.reduceLeDiff, Nat.reduceLT, Int.reduceLE, Int.reduceLT, reduceCtorEq]
  refine p27O o_g 1 (by omega) (by omega) fun σ4 o_g' k4 l4 => ?_
  replace o_a0 := o_a0.keep fun j h1 h2 => k4 j (by first | omega | (simp at *; omega))
  replace o_g := o_g'
  clear o_g'
  try simp only [OpK_eq, bne_self_eq_false, hkt_OrbitOf, take6, List.drop_zero, Int.cast_ofNat_Int, go_sem, ↓reduceIte, Nat.reduceEqDiff, Nat.reduceAdd, Nat.reduceMul, Nat.reduceLeDiff, Nat.reduceLT, Int.reduceLE, Int.reduceLT, reduceCtorEq]
  refine (p28 1 T.length (by omega) (by omega)).lend (.cons o_g.imm (.cons Imm.still (.nil _))) ?_
  try simp only [OpK_eq, bne_self_eq_false, hkt_OrbitOf, take6, List.drop_zero, Int.cast_ofNat_Int, go_sem, ↓reduceIte, Nat.reduceEqDiff, Nat.reduceAdd, Nat.reduceMul, Nat.reduceLeDiff, Nat.reduceLT, Int.reduceLE, Int.reduceLT, reduceCtorEq]
  repeat' (first | refine And.intro ?_ ?_ | intro _)
  all_goals (try omega)
  refine Pure.go (r := .list (aggs t0)) (p21 t0 hq0 hm0) ?_
  try simp only [OpK_eq, bne_self_eq_false, hkt_OrbitOf, take6, List.drop_zero, Int.cast_ofNat_Int, go_sem, ↓reduceIte, Nat.reduceEqDiff, Nat.reduceAdd, Nat.reduceMul, Nat.reduceLeDiff, Nat.reduceLT, Int.reduceLE, Int.reduceLT, reduceCtorEq]
  refine hi.lend (.still inferInstance) fun xh σ5 o_h k5 l5 => ?_
  replace o_a0 := o_a0.keep fun j h1 h2 => k5 j (by first | omega | (simp at *; omega))
  replace o_g := o_g.keep fun j h1 h2 => k5 j (by first | omega | (simp at *; omega))
  try simp only [OpK_eq, bne_self_eq_false, hkt_OrbitOf, take6, List.drop_zero, Int.cast_ofNat_Int, go_sem, ↓reduceIte, Nat.reduceEqDiff, Nat.reduceAdd, Nat.reduceMul, Nat.reduceLeDiff, Nat.reduceLT, Int.reduceLE, Int.reduceLT, reduceCtorEq]
  refine (p18 T T (by omega) (by omega)).lend (.cons o_h.imm (.cons (him _) (.nil _))) ?_
  try simp only [OpK_eq, bne_self_eq_false, hkt_OrbitOf, take6, List.drop_zero, Int.cast_ofNat_Int, go_sem, ↓reduceIte, Nat.reduceEqDiff, Nat.reduceAdd, Nat.reduceMul, Nat.reduceLeDiff, Nat.reduceLT, Int.reduceLE, Int.reduceLT, reduceCtorEq]
  refine (p28 1 T.length (by omega) (by omega)).lend (.cons o_g.imm (.cons Imm.still (.nil _))) ?_
  try simp only [OpK_eq, bne_self_eq_false, hkt_OrbitOf, take6, List.drop_zero, Int.cast_ofNat_Int, go_sem, ↓reduceIte, Nat.reduceEqDiff, Nat.reduceAdd, Nat.reduceMul, Nat.reduceLeDiff, Nat.reduceLT, Int.reduceLE, Int.reduceLT, reduceCtorEq]
  repeat' (first | refine And.intro ?_ ?_ | intro _)
  all_goals (try omega)
  exact Kv.Fin.still ⟨rfl, rfl⟩
theorem p5 (a : List (List Int)) (ha : a.length ≤ 9223372036854775807) (h6 : ∀ r ∈ a, r.length = 6) (p : Int) : Pure Try.prog 5 [.list (aggs a), .int .i64 p] (.bool true) := by
  by_cases h : ocd a p = 0
  · obtain ⟨hl, hp⟩ := ocd_zero h
    obtain ⟨fs, n, rfl, hf, hl1, hl2, hn, hn1, hn5⟩ := lcode_maps h6 hl
    rw [hn] at hp
    obtain ⟨q, rfl⟩ : ∃ q : Nat, p = q := ⟨p.toNat, by omega⟩
    have h5 := orb_len fs q
    exact p5_at _ ha h6 q (fun _ => Imm.still) (fun _ => p24_in fs n hf (by omega) hl2 hl q (by omega)) (fun _ => p25_in fs n hf (by omega) hl2 hl q (by omega)) (by rw [nz_len]; omega)
  · exact p5_at a ha h6 p (T := []) (w := .nils) (fun _ => Imm.nils) (fun h1 => p24_out a p h1 h6 h) (fun h1 => Pure.ownI (p25_out a p h1 h6 h)) (by simp)
end Go.Proofs.Ytpepbomifjbgnaa
