/- The law's function of TableOf, walked. -/
import Derived.Test.YtpepbomifjbgnaaCb
import Derived.Test.YtpepbomifjbgnaaNO
import Derived.Test.YtpepbomifjbgnaaTD
import Derived.Test.YtpepbomifjbgnaaG2
import Derived.Test.YtpepbomifjbgnaaG3
namespace Go.Proofs.Ytpepbomifjbgnaa
open Go.Kv
set_option maxRecDepth 100000
/- laws.FnExactTableOf -/
def k8 : KC := (.seq (.ops [⟨(some 2), none, .mv (.c (.bool false))⟩])
  (.seq (.ops [⟨(some 3), none, .mv (.c (.int .i64 1048576))⟩])
  (.seq (.ops [⟨(some 14), none, .mv (.t 0)⟩, ⟨(some 15), none, .mv (.t 3)⟩, ⟨(some 16), none, .call (.c (.fn (.func 19) [] [])) [(.t 14), (.t 15)]⟩, ⟨(some 3), none, .mv (.t 16)⟩])
  (.seq (.seq (.ops [⟨(some 17), none, .mv (.t 3)⟩, ⟨(some 18), none, .bin .lss (.t 17) (.c (.int .i64 0))⟩])
  (.cond (.t 18) (.seq (.ops [⟨(some 2), none, .mv (.c (.bool true))⟩])
  .ret) .skip))
  (.seq (.ops [⟨(some 20), none, .mv (.t 0)⟩, ⟨(some 21), none, .call (.c (.fn (.func 21) [] [])) [(.t 20)]⟩, ⟨(some 22), none, .call (.c (.fn (.func 35) [] [])) [(.t 21)]⟩, ⟨(some 19), none, .mv (.t 22)⟩, ⟨(some 23), none, .extr 0 (.t 19)⟩, ⟨(some 24), none, .extr 1 (.t 19)⟩, ⟨(some 4), none, .mv (.t 23)⟩, ⟨(some 5), none, .mv (.t 24)⟩])
  (.seq (.ops [⟨(some 25), none, .mv (.t 0)⟩, ⟨(some 26), none, .call (.c (.fn (.func 21) [] [])) [(.t 25)]⟩, ⟨(some 6), none, .mv (.t 26)⟩])
  (.seq (.ops [⟨(some 28), none, .mv (.t 6)⟩, ⟨(some 29), none, .call (.c (.fn (.func 36) [] [])) [(.t 28)]⟩, ⟨(some 27), none, .mv (.t 29)⟩, ⟨(some 30), none, .extr 0 (.t 27)⟩, ⟨(some 31), none, .extr 1 (.t 27)⟩, ⟨(some 7), none, .mv (.t 30)⟩, ⟨(some 8), none, .mv (.t 31)⟩])
  (.seq (.seq (.ops [⟨(some 32), none, .mv (.t 7)⟩, ⟨(some 33), none, .mv (.t 4)⟩, ⟨(some 34), none, .call (.c (.fn (.func 17) [] [])) [(.t 32), (.t 33)]⟩, ⟨(some 35), none, .not (.t 34)⟩, ⟨(some 36), none, .mv (.t 35)⟩, ⟨(some 37), some (36, false), .mv (.t 8)⟩, ⟨(some 38), some (36, false), .mv (.t 5)⟩, ⟨(some 39), some (36, false), .bin .neq (.t 37) (.t 38)⟩, ⟨(some 40), none, .pick (.t 36) (.c (.bool true)) (.t 39)⟩])
  (.cond (.t 40) (.seq (.ops [⟨(some 2), none, .mv (.c (.bool false))⟩])
  .ret) .skip))
  (.seq (.seq (.ops [⟨(some 41), none, .mv (.t 6)⟩, ⟨(some 42), none, .mv (.t 0)⟩, ⟨(some 43), none, .call (.c (.fn (.func 21) [] [])) [(.t 42)]⟩, ⟨(some 44), none, .call (.c (.fn (.func 23) [] [])) [(.t 41), (.t 43)]⟩, ⟨(some 45), none, .not (.t 44)⟩])
  (.cond (.t 45) (.seq (.ops [⟨(some 2), none, .mv (.c (.bool false))⟩])
  .ret) .skip))
  (.seq (.ops [⟨(some 9), none, .mv (.c (.int .i64 1))⟩])
  (.seq (.ops [⟨(some 46), none, .mv (.t 6)⟩, ⟨(some 47), none, .mv (.t 9)⟩, ⟨(some 48), none, .call (.c (.fn (.func 26) [] [])) [(.t 46), (.t 47)]⟩, ⟨(some 9), none, .mv (.t 48)⟩])
  (.seq (.seq (.ops [⟨(some 49), none, .mv (.t 9)⟩, ⟨(some 50), none, .bin .lss (.t 49) (.c (.int .i64 0))⟩, ⟨(some 51), none, .mv (.t 50)⟩, ⟨(some 52), some (51, false), .mv (.t 7)⟩, ⟨(some 53), some (51, false), .mv (.t 4)⟩, ⟨(some 54), some (51, false), .call (.c (.fn (.func 17) [] [])) [(.t 52), (.t 53)]⟩, ⟨(some 55), some (51, false), .not (.t 54)⟩, ⟨(some 56), none, .pick (.t 51) (.c (.bool true)) (.t 55)⟩, ⟨(some 57), none, .mv (.t 56)⟩, ⟨(some 58), some (57, false), .mv (.t 8)⟩, ⟨(some 59), some (57, false), .mv (.t 5)⟩, ⟨(some 60), some (57, false), .bin .neq (.t 58) (.t 59)⟩, ⟨(some 61), none, .pick (.t 57) (.c (.bool true)) (.t 60)⟩])
  (.cond (.t 61) (.seq (.ops [⟨(some 2), none, .mv (.c (.bool false))⟩])
  .ret) .skip))
  (.seq (.ops [⟨(some 10), none, .mv (.c (.int .i64 1))⟩])
  (.seq (.ops [⟨(some 62), none, .mv (.t 7)⟩, ⟨(some 63), none, .mv (.t 10)⟩, ⟨(some 64), none, .call (.c (.fn (.func 31) [] [])) [(.t 62), (.t 63)]⟩, ⟨(some 10), none, .mv (.t 64)⟩])
  (.seq (.ops [⟨(some 11), none, .mv (.c (.int .i64 1))⟩])
  (.seq (.ops [⟨(some 65), none, .mv (.t 7)⟩, ⟨(some 66), none, .mv (.t 11)⟩, ⟨(some 67), none, .call (.c (.fn (.func 32) [] [])) [(.t 65), (.t 66)]⟩, ⟨(some 11), none, .mv (.t 67)⟩])
  (.seq (.seq (.ops [⟨(some 68), none, .mv (.t 11)⟩, ⟨(some 69), none, .bin .lss (.t 68) (.c (.int .i64 0))⟩])
  (.cond (.t 69) (.seq (.ops [⟨(some 2), none, .mv (.c (.bool false))⟩])
  .ret) .skip))
  (.seq (.seq (.ops [⟨(some 70), none, .mv (.t 11)⟩, ⟨(some 71), none, .mv (.t 10)⟩, ⟨(some 72), none, .bin .neq (.t 70) (.t 71)⟩])
  (.cond (.t 72) (.seq (.ops [⟨(some 2), none, .mv (.c (.bool false))⟩])
  .ret) .skip))
  (.seq (.ops [⟨(some 74), none, .mv (.t 0)⟩, ⟨(some 75), none, .call (.c (.fn (.func 21) [] [])) [(.t 74)]⟩, ⟨(some 76), none, .call (.c (.fn (.func 36) [] [])) [(.t 75)]⟩, ⟨(some 73), none, .mv (.t 76)⟩, ⟨(some 77), none, .extr 0 (.t 73)⟩, ⟨(some 78), none, .extr 1 (.t 73)⟩, ⟨(some 12), none, .mv (.t 77)⟩, ⟨(some 13), none, .mv (.t 78)⟩])
  (.seq (.seq (.ops [⟨(some 79), none, .mv (.t 12)⟩, ⟨(some 80), none, .mv (.t 4)⟩, ⟨(some 81), none, .call (.c (.fn (.func 17) [] [])) [(.t 79), (.t 80)]⟩, ⟨(some 82), none, .not (.t 81)⟩, ⟨(some 83), none, .mv (.t 82)⟩, ⟨(some 84), some (83, false), .mv (.t 13)⟩, ⟨(some 85), some (83, false), .mv (.t 5)⟩, ⟨(some 86), some (83, false), .bin .neq (.t 84) (.t 85)⟩, ⟨(some 87), none, .pick (.t 83) (.c (.bool true)) (.t 86)⟩])
  (.cond (.t 87) (.seq (.ops [⟨(some 2), none, .mv (.c (.bool false))⟩])
  .ret) .skip))
  (.seq (.ops [⟨(some 11), none, .mv (.c (.int .i64 1))⟩])
  (.seq (.ops [⟨(some 88), none, .mv (.t 7)⟩, ⟨(some 89), none, .mv (.t 11)⟩, ⟨(some 90), none, .call (.c (.fn (.func 32) [] [])) [(.t 88), (.t 89)]⟩, ⟨(some 11), none, .mv (.t 90)⟩])
  (.seq (.seq (.ops [⟨(some 91), none, .mv (.t 11)⟩, ⟨(some 92), none, .bin .lss (.t 91) (.c (.int .i64 0))⟩])
  (.cond (.t 92) (.seq (.ops [⟨(some 2), none, .mv (.c (.bool false))⟩])
  .ret) .skip))
  (.seq (.seq (.ops [⟨(some 93), none, .mv (.t 11)⟩, ⟨(some 94), none, .mv (.t 10)⟩, ⟨(some 95), none, .bin .neq (.t 93) (.t 94)⟩])
  (.cond (.t 95) (.seq (.ops [⟨(some 2), none, .mv (.c (.bool false))⟩])
  .ret) .skip))
  (.seq (.ops [⟨(some 2), none, .mv (.c (.bool true))⟩])
  .ret)))))))))))))))))))))))))
theorem e8 {args : List PV} {σ : Heap} {K : PV → Heap → Prop} (hl : args.length ≤ 96) (h : Wf σ → (∀ a ∈ args, PV.upto σ.length a) → vc (mkCfg Try.prog mixed [] 96 σ.length) k8 (FinK σ.length [.t 2] K) (argEnv 0 args) σ) : ACall Try.prog 8 args σ K :=
  ACall_enter (C := mkCfg Try.prog mixed [] 96 σ.length) (c := Try.f8.body.getD .skip) Try.func8 (by kernel_rfl) (by kernel_rfl) (by kernel_rfl) rfl hl (by kernel_rfl) (by kernel_rfl) h
end Go.Proofs.Ytpepbomifjbgnaa
namespace Go.Proofs.Ytpepbomifjbgnaa
open Go.Kv
set_option linter.unusedVariables false
set_option linter.unusedSimpArgs false
attribute [local irreducible] ACall PCall KL
theorem hkt_TableOf (σ : Heap) (K : PV → Heap → Prop) (l : List PV) : HK σ K (.tup l) = K (.tup l) σ := rfl
theorem p8_at (t0 : List (List Int)) (ht0 : t0.length ≤ 9223372036854775807) (hm0 : ∀ r ∈ t0, r.length = 6) {T : List (List Int)} {r : Int} {w : PV} [hw : Still w] (him : ∀ σ, Imm σ w (.list (rows T))) (hs : t0.length ≤ 1048576 → Pure Try.prog 35 [.list (aggs t0)] (.tup [w, .int .i64 r])) (hi : t0.length ≤ 1048576 → NewTO Try.prog 36 [.list (aggs t0)] 23 2 T r) (hT : T.length ≤ 1048576 ∧ (∀ r ∈ T, r.length ≤ 1048576) ∧ tot T ≤ 1048576) : Pure Try.prog 8 [.list (aggs t0)] (.bool true) := by
  refine e8 (by simp) fun _ _ => ?_
  simp only [k8, argEnv, take6, List.drop_zero, Int.cast_ofNat_Int, go_sem, ↓reduceIte, Nat.reduceEqDiff, Nat.reduceAdd, Nat.reduceMul, Nat.reduceLeDiff, Nat.reduceLT, Int.reduceLE, Int.reduceLT, reduceCtorEq]
  refine (p19 t0 _ ht0 (by omega)).go ?_
  try simp only [OpK_eq, bne_self_eq_false, hkt_TableOf, take6, List.drop_zero, Int.cast_ofNat_Int, go_sem, ↓reduceIte, Nat.reduceEqDiff, Nat.reduceAdd, Nat.reduceMul, Nat.reduceLeDiff, Nat.reduceLT, Int.reduceLE, Int.reduceLT, reduceCtorEq]
  refine ⟨fun h => Kv.Fin.still ⟨rfl, rfl⟩, fun hz0 => ?_⟩
  obtain ⟨hq0, hz00, hz10⟩ := szA_all t0.length _ (by omega) hz0
  have hs := hs hq0
  have hi := hi hq0
  refine Pure.go (r := .list (aggs t0)) (p21 t0 hq0 hm0) ?_
  try simp only [OpK_eq, bne_self_eq_false, hkt_TableOf, take6, List.drop_zero, Int.cast_ofNat_Int, go_sem, ↓reduceIte, Nat.reduceEqDiff, Nat.reduceAdd, Nat.reduceMul, Nat.reduceLeDiff, Nat.reduceLT, Int.reduceLE, Int.reduceLT, reduceCtorEq]
  first | refine hs.go ?_ | refine hs.pgo ?_
  try simp only [OpK_eq, bne_self_eq_false, hkt_TableOf, take6, List.drop_zero, Int.cast_ofNat_Int, go_sem, ↓reduceIte, Nat.reduceEqDiff, Nat.reduceAdd, Nat.reduceMul, Nat.reduceLeDiff, Nat.reduceLT, Int.reduceLE, Int.reduceLT, reduceCtorEq]
  refine p21O t0 hq0 hm0 fun xa0 σ1 o_a0 k1 l1 => ?_
  try simp only [OpK_eq, bne_self_eq_false, hkt_TableOf, take6, List.drop_zero, Int.cast_ofNat_Int, go_sem, ↓reduceIte, Nat.reduceEqDiff, Nat.reduceAdd, Nat.reduceMul, Nat.reduceLeDiff, Nat.reduceLT, Int.reduceLE, Int.reduceLT, reduceCtorEq]
  refine hi.lend (.cons o_a0.imm (.nil _)) fun xg σ2 o_g k2 l2 => ?_
  replace o_a0 := o_a0.keep fun j h1 h2 => k2 j (by first | omega | (simp at *; omega))
  try simp only [OpK_eq, bne_self_eq_false, hkt_TableOf, take6, List.drop_zero, Int.cast_ofNat_Int, go_sem, ↓reduceIte, Nat.reduceEqDiff, Nat.reduceAdd, Nat.reduceMul, Nat.reduceLeDiff, Nat.reduceLT, Int.reduceLE, Int.reduceLT, reduceCtorEq]
  refine (p17 T T (by omega) (by omega) (fun r hr => by have := hT.2.1 r hr; omega) (fun r hr => by have := hT.2.1 r hr; omega)).lend (.cons o_g.imm (.cons (him _) (.nil _))) ?_
  try simp only [OpK_eq, bne_self_eq_false, hkt_TableOf, take6, List.drop_zero, Int.cast_ofNat_Int, go_sem, ↓reduceIte, Nat.reduceEqDiff, Nat.reduceAdd, Nat.reduceMul, Nat.reduceLeDiff, Nat.reduceLT, Int.reduceLE, Int.reduceLT, reduceCtorEq]
  refine Pure.go (r := .list (aggs t0)) (p21 t0 hq0 hm0) ?_
  try simp only [OpK_eq, bne_self_eq_false, hkt_TableOf, take6, List.drop_zero, Int.cast_ofNat_Int, go_sem, ↓reduceIte, Nat.reduceEqDiff, Nat.reduceAdd, Nat.reduceMul, Nat.reduceLeDiff, Nat.reduceLT, Int.reduceLE, Int.reduceLT, reduceCtorEq]
  refine (p23 t0 t0 (by omega) (by omega) hm0 hm0).lend (.cons o_a0.imm (.cons Imm.still (.nil _))) ?_
  try simp only [OpK_eq, bne_self_eq_false, hkt_TableOf, take6, List.drop_zero, Int.cast_ofNat_Int, go_sem, ↓reduceIte, Nat.reduceEqDiff, Nat.reduceAdd, Nat.reduceMul, Nat.reduceLeDiff, Nat.reduceLT, Int.reduceLE, Int.reduceLT, reduceCtorEq]
  refine p26O o_a0 1 (by omega) hm0 (by omega) fun σ3 o_a0' k3 l3 => ?_
  replace o_g := o_g.keep fun j h1 h2 => k3 j (by first | omega | (simp at *; omega))
  replace o_a0 := o_a0'
  clear o_a0'
  try simp only [OpK_eq, bne_self_eq_false, hkt_TableOf, take6, List.drop_zero, Int.cast_ofNat_Int, go_sem, ↓reduceIte, Nat.reduceEqDiff, Nat.reduceAdd, Nat.reduceMul, Nat.reduceLeDiff, Nat.reduceLT, Int.reduceLE, Int.reduceLT, reduceCtorEq]
  repeat' (first | refine And.intro ?_ ?_ | intro _)
  all_goals (try omega)
  refine (p17 T T (by omega) (by omega) (fun r hr => by have := hT.2.1 r hr; omega) (fun r hr => by have := hT.2.1 r hr; omega)).lend (.cons o_g.imm (.cons (him _) (.nil _))) ?_
  try simp only [OpK_eq, bne_self_eq_false, hkt_TableOf, take6, List.drop_zero, Int.cast_ofNat_Int, go_sem, ↓reduceIte, Nat.reduceEqDiff, Nat.reduceAdd, Nat.reduceMul, Nat.reduceLeDiff, Nat.reduceLT, Int.reduceLE, Int.reduceLT, reduceCtorEq]
  refine p31O o_g 1 (by omega) (by omega) (by omega) fun σ4 o_g' k4 l4 => ?_
  replace o_a0 := o_a0.keep fun j h1 h2 => k4 j (by first | omega | (simp at *; omega))
  replace o_g := o_g'
  clear o_g'
  try simp only [OpK_eq, bne_self_eq_false, hkt_TableOf, take6, List.drop_zero, Int.cast_ofNat_Int, go_sem, ↓reduceIte, Nat.reduceEqDiff, Nat.reduceAdd, Nat.reduceMul, Nat.reduceLeDiff, Nat.reduceLT, Int.reduceLE, Int.reduceLT, reduceCtorEq]
  refine (p32 1 T (by omega) (by omega) (by omega) (by omega)).lend (.cons o_g.imm (.cons Imm.still (.nil _))) ?_
  try simp only [OpK_eq, bne_self_eq_false, hkt_TableOf, take6, List.drop_zero, Int.cast_ofNat_Int, go_sem, ↓reduceIte, Nat.reduceEqDiff, Nat.reduceAdd, Nat.reduceMul, Nat.reduceLeDiff, Nat.reduceLT, Int.reduceLE, Int.reduceLT, reduceCtorEq]
  repeat' (first | refine And.intro ?_ ?_ | intro _)
  all_goals (try omega)
  refine Pure.go (r := .list (aggs t0)) (p21 t0 hq0 hm0) ?_
  try simp only [OpK_eq, bne_self_eq_false, hkt_TableOf, take6, List.drop_zero, Int.cast_ofNat_Int, go_sem, ↓reduceIte, Nat.reduceEqDiff, Nat.reduceAdd, Nat.reduceMul, Nat.reduceLeDiff, Nat.reduceLT, Int.reduceLE, Int.reduceLT, reduceCtorEq]
  refine hi.lend (.still inferInstance) fun xh σ5 o_h k5 l5 => ?_
  replace o_a0 := o_a0.keep fun j h1 h2 => k5 j (by first | omega | (simp at *; omega))
  replace o_g := o_g.keep fun j h1 h2 => k5 j (by first | omega | (simp at *; omega))
  try simp only [OpK_eq, bne_self_eq_false, hkt_TableOf, take6, List.drop_zero, Int.cast_ofNat_Int, go_sem, ↓reduceIte, Nat.reduceEqDiff, Nat.reduceAdd, Nat.reduceMul, Nat.reduceLeDiff, Nat.reduceLT, Int.reduceLE, Int.reduceLT, reduceCtorEq]
  refine (p17 T T (by omega) (by omega) (fun r hr => by have := hT.2.1 r hr; omega) (fun r hr => by have := hT.2.1 r hr; omega)).lend (.cons o_h.imm (.cons (him _) (.nil _))) ?_
  try simp only [OpK_eq, bne_self_eq_false, hkt_TableOf, take6, List.drop_zero, Int.cast_ofNat_Int, go_sem, ↓reduceIte, Nat.reduceEqDiff, Nat.reduceAdd, Nat.reduceMul, Nat.reduceLeDiff, Nat.reduceLT, Int.reduceLE, Int.reduceLT, reduceCtorEq]
  refine (p32 1 T (by omega) (by omega) (by omega) (by omega)).lend (.cons o_g.imm (.cons Imm.still (.nil _))) ?_
  try simp only [OpK_eq, bne_self_eq_false, hkt_TableOf, take6, List.drop_zero, Int.cast_ofNat_Int, go_sem, ↓reduceIte, Nat.reduceEqDiff, Nat.reduceAdd, Nat.reduceMul, Nat.reduceLeDiff, Nat.reduceLT, Int.reduceLE, Int.reduceLT, reduceCtorEq]
  repeat' (first | refine And.intro ?_ ?_ | intro _)
  all_goals (try omega)
  exact Kv.Fin.still ⟨rfl, rfl⟩
theorem tot_leT (n : Nat) : ∀ t : List (List Int), (∀ r ∈ t, r.length ≤ n) → tot t ≤ t.length * n
  | [], _ => by simp [tot]
  | a :: t, h => by
    have := h a (by simp)
    have := tot_leT n t fun r hr => h r (by simp [hr])
    simp only [tot, List.length_cons, Nat.succ_mul]
    omega
attribute [local irreducible] clR
theorem p8 (a : List (List Int)) (ha : a.length ≤ 9223372036854775807) (h6 : ∀ r ∈ a, r.length = 6) : Pure Try.prog 8 [.list (aggs a)] (.bool true) := by
  by_cases h : lcode a [] = 0
  · obtain ⟨fs, n, rfl, hf, hl1, hl2, hn, hn1, hn5⟩ := lcode_maps h6 h
    have hs := p35_in fs n hn1 hn5 hf (by omega) hl2 h
    have hM := monOk fs n hn1 hn5 hf (by omega)
    have hi := p36_of fs n hn1 hn5 hf (by omega) hl2 h hM
    cases hR : clR fs n with
    | none =>
      rw [hR] at hs hi
      exact p8_at _ ha h6 (T := []) (w := .nils) (fun _ => Imm.nils) (fun h1 => hs) (fun h1 => Pure.ownT hi) ⟨by simp, by simp, by simp [tot]⟩
    | some Q =>
      rw [hR] at hs hi
      by_cases h40 : 40 < (elS n Q).length
      · simp only [if_pos h40] at hs hi
        exact p8_at _ ha h6 (T := []) (w := .nils) (fun _ => Imm.nils) (fun h1 => hs) (fun h1 => Pure.ownT hi) ⟨by simp, by simp, by simp [tot]⟩
      · simp only [if_neg h40] at hs
        have hrl : ∀ r ∈ tabM n (elS n Q), r.length ≤ 40 := fun r hr => by
          obtain ⟨b, _, rfl⟩ := List.mem_map.1 hr
          simp [rowM]; omega
        have hlr : (tabM n (elS n Q)).length = (elS n Q).length := by simp [tabM]
        refine p8_at _ ha h6 (fun _ => Imm.still) (fun _ => hs) (fun _ => p36T fs n hn1 hn5 hf (by omega) hl2 h hR (by omega)) ⟨by omega, fun r hr => by have := hrl r hr; omega, ?_⟩
        have h1 := tot_leT 40 _ hrl
        have h2 : (tabM n (elS n Q)).length * 40 ≤ 40 * 40 := Nat.mul_le_mul (by omega) (Nat.le_refl 40)
        omega
  · exact p8_at a ha h6 (T := []) (w := .nils) (fun _ => Imm.nils) (fun h1 => p35_out a h1 h6 h) (fun h1 => Pure.ownT (p36_out a h1 h6 h)) ⟨by simp, by simp, by simp [tot]⟩
end Go.Proofs.Ytpepbomifjbgnaa
