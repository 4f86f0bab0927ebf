/- monoidOf, once newMonoid's contract is known. -/
import Derived.Test.YtpepbomifjbgnaaCb
import Derived.Test.YtpepbomifjbgnaaTJ
namespace Go.Proofs.Ytpepbomifjbgnaa
open Go.Kv
set_option maxRecDepth 100000
/- impl.monoidOf -/
/- live [8, 10, 32, 33, 34] -/
def k69_b0 : KC := (.seq (.ops [⟨(some 35), none, .bin .lss (.t 34) (.t 33)⟩])
  (.seq (.cond (.t 35) .skip (.exit 0))
  (.seq (.block 1 (.seq (.ops [⟨(some 36), none, .idxS 6 (.t 32) (.t 34)⟩, ⟨(some 37), none, .load true 6 (.t 36)⟩, ⟨(some 12), none, .alloc [.int .i64 0, .int .i64 0, .int .i64 0, .int .i64 0, .int .i64 0, .int .i64 0]⟩, ⟨none, none, .store 6 (.t 12) (.t 37)⟩])
  (.seq (.ops [⟨(some 38), none, .mv (.t 8)⟩, ⟨(some 39), none, .load true 6 (.t 12)⟩, ⟨(some 40), none, .call (.c (.fn (.func 119) [] [])) [(.t 38), (.t 39)]⟩, ⟨(some 13), none, .mv (.t 40)⟩])
  (.seq (.seq (.ops [⟨(some 41), none, .mv (.t 13)⟩, ⟨(some 42), none, .bin .lss (.t 41) (.c (.int .i64 0))⟩])
  (.cond (.t 42) (.seq (.ops [⟨(some 4), none, .mv (.c (.nilptr))⟩, ⟨(some 5), none, .mv (.c (.nils))⟩, ⟨(some 6), none, .mv (.c (.int .i64 4))⟩])
  .ret) .skip))
  (.ops [⟨(some 43), none, .mv (.t 10)⟩, ⟨(some 44), none, .mv (.t 13)⟩, ⟨(some 45), none, .bsl true 3 1 [(.t 44)]⟩, ⟨(some 46), none, .app (.t 43) (.t 45) 3 1⟩, ⟨(some 10), none, .mv (.t 46)⟩])))))
  (.ops [⟨(some 47), none, .bin .add (.t 34) (.c (.int .i64 1))⟩, ⟨(some 34), none, .mv (.t 47)⟩]))))
def k69 : KC := (.seq (.ops [⟨(some 4), none, .mv (.c (.nilptr))⟩, ⟨(some 5), none, .mv (.c (.nils))⟩, ⟨(some 6), none, .mv (.c (.int .i64 0))⟩])
  (.seq (.seq (.ops [⟨(some 14), none, .mv (.t 0)⟩, ⟨(some 15), none, .mv (.t 1)⟩, ⟨(some 16), none, .call (.c (.fn (.func 54) [] [])) [(.t 14), (.t 15)]⟩, ⟨(some 7), none, .mv (.t 16)⟩])
  (.seq (.ops [⟨(some 17), none, .mv (.t 7)⟩, ⟨(some 18), none, .bin .neq (.t 17) (.c (.int .i64 0))⟩])
  (.cond (.t 18) (.seq (.ops [⟨(some 19), none, .mv (.t 7)⟩, ⟨(some 4), none, .mv (.c (.nilptr))⟩, ⟨(some 5), none, .mv (.c (.nils))⟩, ⟨(some 6), none, .mv (.t 19)⟩])
  .ret) .skip)))
  (.seq (.ops [⟨(some 21), none, .mv (.t 0)⟩, ⟨(some 22), none, .mv (.t 0)⟩, ⟨(some 23), none, .idxS 6 (.t 22) (.c (.int .i64 0))⟩, ⟨(some 24), none, .fieldA 0 (.t 23)⟩, ⟨(some 25), none, .load false 1 (.t 24)⟩, ⟨(some 26), none, .call (.c (.fn (.func 118) [] [])) [(.t 21), (.t 25)]⟩, ⟨(some 20), none, .mv (.t 26)⟩, ⟨(some 27), none, .extr 0 (.t 20)⟩, ⟨(some 28), none, .extr 1 (.t 20)⟩, ⟨(some 8), none, .mv (.t 27)⟩, ⟨(some 9), none, .mv (.t 28)⟩])
  (.seq (.seq (.ops [⟨(some 29), none, .mv (.t 9)⟩, ⟨(some 30), none, .bin .neq (.t 29) (.c (.int .i64 0))⟩])
  (.cond (.t 30) (.seq (.ops [⟨(some 31), none, .mv (.t 9)⟩, ⟨(some 4), none, .mv (.c (.nilptr))⟩, ⟨(some 5), none, .mv (.c (.nils))⟩, ⟨(some 6), none, .mv (.t 31)⟩])
  .ret) .skip))
  (.seq (.ops [⟨(some 10), none, .mv (.c (.nils))⟩])
  (.seq (.seq (.ops [⟨(some 32), none, .mv (.t 1)⟩, ⟨(some 33), none, .len false (.t 32)⟩, ⟨(some 34), none, .mv (.c (.int .i64 0))⟩])
  (.block 0 (.loop k69_b0)))
  (.seq (.ops [⟨(some 48), none, .mv (.t 8)⟩, ⟨(some 49), none, .mv (.t 10)⟩, ⟨(some 4), none, .mv (.t 48)⟩, ⟨(some 5), none, .mv (.t 49)⟩, ⟨(some 6), none, .mv (.c (.int .i64 0))⟩])
  .ret)))))))
theorem e69 {args : List PV} {σ : Heap} {K : PV → Heap → Prop} (hl : args.length ≤ 50) (h : Wf σ → (∀ a ∈ args, PV.upto σ.length a) → vc (mkCfg Try.prog mixed [45] 50 σ.length) k69 (FinK σ.length [.t 4, .t 5, .t 6] K) (argEnv 0 args) σ) : ACall Try.prog 69 args σ K :=
  ACall_enter (C := mkCfg Try.prog mixed [45] 50 σ.length) (c := Try.f69.body.getD .skip) Try.func69 (by kernel_rfl) (by kernel_rfl) (by kernel_rfl) rfl hl (by kernel_rfl) (by kernel_rfl) h
/- impl.TableOf -/
def k36 : KC := (.seq (.ops [⟨(some 2), none, .mv (.c (.nils))⟩, ⟨(some 3), none, .mv (.c (.int .i64 0))⟩])
  (.seq (.ops [⟨(some 8), none, .mv (.t 0)⟩, ⟨(some 9), none, .call (.c (.fn (.func 69) [] [])) [(.t 8), (.c (.nils))]⟩, ⟨(some 7), none, .mv (.t 9)⟩, ⟨(some 10), none, .extr 0 (.t 7)⟩, ⟨(some 11), none, .extr 1 (.t 7)⟩, ⟨(some 12), none, .extr 2 (.t 7)⟩, ⟨(some 4), none, .mv (.t 10)⟩, ⟨(some 5), none, .mv (.t 11)⟩, ⟨(some 6), none, .mv (.t 12)⟩])
  (.seq (.block 0 (.seq (.ops [⟨(some 14), none, .mv (.t 6)⟩, ⟨(some 15), none, .bin .neq (.t 14) (.c (.int .i64 0))⟩, ⟨(some 13), none, .mv (.t 15)⟩])
  (.cond (.t 13) (.seq (.ops [⟨(some 16), none, .mv (.t 6)⟩, ⟨(some 2), none, .mv (.c (.nils))⟩, ⟨(some 3), none, .mv (.t 16)⟩])
  .ret) (.seq (.ops [⟨(some 18), none, .mv (.t 4)⟩, ⟨(some 19), none, .nilck (.t 18)⟩, ⟨(some 20), none, .fieldA 0 (.t 19)⟩, ⟨(some 21), none, .load false 1 (.t 20)⟩, ⟨(some 22), none, .len false (.t 21)⟩, ⟨(some 23), none, .bin .gtr (.t 22) (.c (.int .i64 40))⟩, ⟨(some 17), none, .mv (.t 23)⟩])
  (.cond (.t 17) (.seq (.ops [⟨(some 2), none, .mv (.c (.nils))⟩, ⟨(some 3), none, .mv (.c (.int .i64 3))⟩])
  .ret) .skip)))))
  (.seq (.ops [⟨(some 24), none, .mv (.t 4)⟩, ⟨(some 25), none, .call (.c (.fn (.func 70) [] [])) [(.t 24)]⟩, ⟨(some 2), none, .mv (.t 25)⟩, ⟨(some 3), none, .mv (.c (.int .i64 0))⟩])
  .ret))))
theorem e36 {args : List PV} {σ : Heap} {K : PV → Heap → Prop} (hl : args.length ≤ 26) (h : Wf σ → (∀ a ∈ args, PV.upto σ.length a) → vc (mkCfg Try.prog mixed [] 26 σ.length) k36 (FinK σ.length [.t 2, .t 3] K) (argEnv 0 args) σ) : ACall Try.prog 36 args σ K :=
  ACall_enter (C := mkCfg Try.prog mixed [] 26 σ.length) (c := Try.f36.body.getD .skip) Try.func36 (by kernel_rfl) (by kernel_rfl) (by kernel_rfl) rfl hl (by kernel_rfl) (by kernel_rfl) h
end Go.Proofs.Ytpepbomifjbgnaa
namespace Go.Proofs.Ytpepbomifjbgnaa
open Go.Kv
set_option linter.unusedVariables false
set_option linter.unusedSimpArgs false
attribute [local irreducible] ACall PCall KL
theorem p69_of (fs : List (List Nat)) (n : Nat) (hf : ∀ f ∈ fs, Ok f n) (h0 : 0 < fs.length) (hfl : fs.length ≤ 6) (hl : lcode (fs.map mp) [] = 0) (m : PV) [Still m] (c : Int)
    (hM : Pure Try.prog 118 [.list (aggs (fs.map mp)), .int .i64 n] (.tup [m, .int .i64 c])) :
    Pure Try.prog 69 [.list (aggs (fs.map mp)), .nils] (if c = 0 then .tup [m, .nils, .int .i64 0] else .tup [.nilptr, .nils, .int .i64 c]) := by
  have hk := hf _ (List.getElem_mem h0)
  have h6k := hk.mp_len
  have hn : (mp fs[0]).getD 0 0 = (n : Int) := by simp [mp, mpN, hk.len]
  refine e69 (by simp) fun _ _ => ?_
  simp only [k69, argEnv, take6, List.drop_zero, Int.cast_ofNat_Int, go_sem, ↓reduceIte, Nat.reduceEqDiff, Nat.reduceAdd, Nat.reduceMul, Nat.reduceLeDiff, Nat.reduceLT, Int.reduceLE, Int.reduceLT, reduceCtorEq]
  refine (p54 _ (fs.map mp) [] .nil (by simp; omega) (by simp) (fun r hr => by obtain ⟨f, hf', rfl⟩ := List.mem_map.1 hr; exact (hf f hf').mp_len) (by simp)).go ?_
  rw [hl]
  try simp only [OpK_eq, HKv, map_getD h0, h6k, hn, List.length_map, take6, List.drop_zero, Int.cast_ofNat_Int, go_sem, ↓reduceIte, Nat.reduceEqDiff, Nat.reduceAdd, Nat.reduceMul, Nat.reduceLeDiff, Nat.reduceLT, Int.reduceLE, Int.reduceLT, reduceCtorEq]
  refine ⟨by omega, fun _ => ?_⟩
  refine hM.go ?_
  try simp only [OpK_eq, HKv, take6, List.drop_zero, Int.cast_ofNat_Int, go_sem, ↓reduceIte, Nat.reduceEqDiff, Nat.reduceAdd, Nat.reduceMul, Nat.reduceLeDiff, Nat.reduceLT, Int.reduceLE, Int.reduceLT, reduceCtorEq]
  refine ⟨fun g1 => ?_, fun g1 => ?_⟩
  · rw [if_neg (by omega)]
    exact Kv.Fin.still ⟨rfl, rfl⟩
  · refine KL_ind k69_b0.eq_1 (fun y : Nat => [(8, m), (10, .nils), (32, .nils), (33, .int .i64 0), (34, .int .i64 0)]) (fun _ => []) (fun y => True) (fun y => 0) [8, 10, 32, 33, 34] 0 (by simp [keep]) rfl trivial fun y _ ih => ?_
    try simp only [OpK_eq, HKv, take6, List.drop_zero, Int.cast_ofNat_Int, go_sem, ↓reduceIte, Nat.reduceEqDiff, Nat.reduceAdd, Nat.reduceMul, Nat.reduceLeDiff, Nat.reduceLT, Int.reduceLE, Int.reduceLT, reduceCtorEq]
    rw [if_pos (by omega)]
    exact Kv.Fin.still ⟨rfl, rfl⟩
/-- What newMonoid owes. -/
def MonOk (fs : List (List Nat)) (n : Nat) : Prop := match clR fs n with
  | none => Pure Try.prog 118 [.list (aggs (fs.map mp)), .int .i64 n] (.tup [.nilptr, .int .i64 3])
  | some Q => ∃ W P, Still W ∧ PlOk n P (elS n Q) ∧ Pure Try.prog 118 [.list (aggs (fs.map mp)), .int .i64 n] (.tup [.fptr (moV (.list (aggs ((elS n Q).map mp))) W P) 0, .int .i64 0])
set_option maxRecDepth 8000 in
theorem p36_of (fs : List (List Nat)) (n : Nat) (h1 : 1 ≤ n) (h5 : n ≤ 5) (hf : ∀ f ∈ fs, Ok f n) (h0 : 0 < fs.length) (hfl : fs.length ≤ 6) (hl : lcode (fs.map mp) [] = 0) (hM : MonOk fs n) :
    Pure Try.prog 36 [.list (aggs (fs.map mp))] (match clR fs n with | none => .tup [.nils, .int .i64 3] | some Q => if 40 < (elS n Q).length then .tup [.nils, .int .i64 3] else .tup [.list (rows (tabM n (elS n Q))), .int .i64 0]) := by
  unfold MonOk at hM
  cases hR : clR fs n with
  | none =>
    rw [hR] at hM
    simp only at hM ⊢
    have hE := p69_of fs n hf h0 hfl hl _ _ hM
    rw [if_neg (by decide)] at hE
    refine e36 (by simp) fun _ _ => ?_
    simp only [k36, argEnv, take6, List.drop_zero, Int.cast_ofNat_Int, go_sem, ↓reduceIte, Nat.reduceEqDiff, Nat.reduceAdd, Nat.reduceMul, Nat.reduceLeDiff, Nat.reduceLT, Int.reduceLE, Int.reduceLT, reduceCtorEq]
    refine hE.go ?_
    try simp only [OpK_eq, HKv, take6, List.drop_zero, Int.cast_ofNat_Int, go_sem, ↓reduceIte, Nat.reduceEqDiff, Nat.reduceAdd, Nat.reduceMul, Nat.reduceLeDiff, Nat.reduceLT, Int.reduceLE, Int.reduceLT, reduceCtorEq]
    exact ⟨fun _ => Kv.Fin.still ⟨rfl, rfl⟩, fun h => absurd h (by decide)⟩
  | some Q =>
    rw [hR] at hM
    simp only at hM ⊢
    obtain ⟨W, P, hW, hP, hM⟩ := hM
    obtain ⟨c3, c4⟩ := clB_okQ h1 h5 hf _ _ hR
    obtain ⟨s1, s2, s3⟩ := elS_ok c3
    have hE := p69_of fs n hf h0 hfl hl _ _ hM
    rw [if_pos rfl] at hE
    have hT := p70 W P hP.1 (elS n Q) n s1.1 (by omega) hP.2.1
    rw [tabP_eq hP s1.1] at hT
    have hml : (moV (.list (aggs ((elS n Q).map mp))) W P).length = 3127 := by rw [moV, List.length_cons, List.length_cons, ints_length, hP.1]
    have hm0 : (moV (.list (aggs ((elS n Q).map mp))) W P)[0]? = some (.list (aggs ((elS n Q).map mp))) := rfl
    refine e36 (by simp) fun _ _ => ?_
    simp only [k36, argEnv, take6, List.drop_zero, Int.cast_ofNat_Int, go_sem, ↓reduceIte, Nat.reduceEqDiff, Nat.reduceAdd, Nat.reduceMul, Nat.reduceLeDiff, Nat.reduceLT, Int.reduceLE, Int.reduceLT, reduceCtorEq]
    refine hE.go ?_
    try simp only [OpK_eq, HKv, hml, hm0, aggs_length, List.length_map, take6, List.drop_zero, Int.cast_ofNat_Int, go_sem, ↓reduceIte, Nat.reduceEqDiff, Nat.reduceAdd, Nat.reduceMul, Nat.reduceLeDiff, Nat.reduceLT, Int.reduceLE, Int.reduceLT, reduceCtorEq]
    refine ⟨fun g1 => ?_, fun g1 => ?_⟩
    · rw [if_pos (by omega)]
      exact Kv.Fin.still ⟨rfl, rfl⟩
    · rw [if_neg (by omega)]
      refine hT.go ?_
      try simp only [OpK_eq, HKv, take6, List.drop_zero, Int.cast_ofNat_Int, go_sem, ↓reduceIte, Nat.reduceEqDiff, Nat.reduceAdd, Nat.reduceMul, Nat.reduceLeDiff, Nat.reduceLT, Int.reduceLE, Int.reduceLT, reduceCtorEq]
      exact Kv.Fin.still ⟨rfl, rfl⟩
end Go.Proofs.Ytpepbomifjbgnaa
