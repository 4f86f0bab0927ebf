/- The number of classes of maps: both sides. -/
import Derived.Test.YtpfapiiinkkcgaaGreatCb
import Derived.Test.YtpfapiiinkkcgaaGreatCO
import Derived.Test.YtpfapiiinkkcgaaGreatG5
namespace Go.Proofs.YtpfapiiinkkcgaaGreat
open Go.Kv
set_option maxRecDepth 100000
/- impl.CountShapes -/
/- live [4, 5, 14, 15, 16] -/
def k17_b0 : KC := (.seq (.ops [⟨(some 17), none, .bin .lss (.t 16) (.t 15)⟩])
  (.seq (.cond (.t 17) .skip (.exit 0))
  (.seq (.block 1 (.seq (.ops [⟨(some 18), none, .idxS 6 (.t 14) (.t 16)⟩, ⟨(some 19), none, .load true 6 (.t 18)⟩, ⟨(some 7), none, .alloc [.int .i64 0, .int .i64 0, .int .i64 0, .int .i64 0, .int .i64 0, .int .i64 0]⟩, ⟨none, none, .store 6 (.t 7) (.t 19)⟩])
  (.seq (.draw [⟨(some 20), none, .load true 6 (.t 7)⟩, ⟨(some 21), none, .mv (.t 4)⟩, ⟨(some 23), none, .load true 6 (.t 7)⟩, ⟨(some 22), none, .pcall (.c (.fn (.func 80) [] [])) [(.t 20), (.t 21)]⟩, ⟨(some 24), none, .aeq false 6 (.t 22) (.t 23)⟩])
  (.cond (.t 24) (.ops [⟨(some 25), none, .mv (.t 5)⟩, ⟨(some 26), none, .bin .add (.t 25) (.c (.int .i64 1))⟩, ⟨(some 5), none, .mv (.t 26)⟩]) .skip))))
  (.ops [⟨(some 27), none, .bin .add (.t 16) (.c (.int .i64 1))⟩, ⟨(some 16), none, .mv (.t 27)⟩]))))
def k17 : KC := (.seq (.ops [⟨(some 2), none, .mv (.c (.int .i64 0))⟩, ⟨(some 3), none, .mv (.c (.int .i64 0))⟩])
  (.seq (.seq (.ops [⟨(some 8), none, .mv (.t 0)⟩, ⟨(some 9), none, .call (.c (.fn (.func 77) [] [])) [(.t 8), (.c (.int .i64 1)), (.c (.int .i64 5))]⟩, ⟨(some 10), none, .not (.t 9)⟩])
  (.cond (.t 10) (.seq (.ops [⟨(some 2), none, .mv (.c (.int .i64 0))⟩, ⟨(some 3), none, .mv (.c (.int .i64 2))⟩])
  .ret) .skip))
  (.seq (.ops [⟨(some 11), none, .mv (.t 0)⟩, ⟨(some 12), none, .call (.c (.fn (.func 78) [] [])) [(.t 11)]⟩, ⟨(some 4), none, .mv (.t 12)⟩])
  (.seq (.ops [⟨(some 5), none, .mv (.c (.int .i64 0))⟩])
  (.seq (.seq (.ops [⟨(some 13), none, .mv (.t 0)⟩, ⟨(some 14), none, .call (.c (.fn (.func 79) [] [])) [(.t 13)]⟩, ⟨(some 15), none, .len false (.t 14)⟩, ⟨(some 16), none, .mv (.c (.int .i64 0))⟩])
  (.block 0 (.loop k17_b0)))
  (.seq (.ops [⟨(some 28), none, .mv (.t 5)⟩, ⟨(some 2), none, .mv (.t 28)⟩, ⟨(some 3), none, .mv (.c (.int .i64 0))⟩])
  .ret))))))
theorem e17 {args : List PV} {σ : Heap} {K : PV → Heap → Prop} (hl : args.length ≤ 29) (h : Wf σ → (∀ a ∈ args, PV.upto σ.length a) → vc (mkCfg Tryz.prog mixed [] 29 σ.length) k17 (FinK σ.length [.t 2, .t 3] K) (argEnv 0 args) σ) : ACall Tryz.prog 17 args σ K :=
  ACall_enter (C := mkCfg Tryz.prog mixed [] 29 σ.length) (c := Tryz.f17.body.getD .skip) Tryz.func17 (by kernel_rfl) (by kernel_rfl) (by kernel_rfl) rfl hl (by kernel_rfl) (by kernel_rfl) h
/- spec.CountShapes -/
/- live [0, 4, 5, 6, 7, 8, 9, 10, 11, 12] -/
def k18_b0 : KC := (.seq (.seq (.ops [⟨(some 51), none, .mv (.t 12)⟩, ⟨(some 52), none, .mv (.t 0)⟩, ⟨(some 53), none, .bin .lss (.t 51) (.t 52)⟩])
  (.cond (.t 53) .skip (.exit 4)))
  (.seq (.block 5 (.ops [⟨(some 56), none, .mv (.t 10)⟩, ⟨(some 57), none, .mv (.t 0)⟩, ⟨(some 58), none, .bin .mul (.t 56) (.t 57)⟩, ⟨(some 59), none, .mv (.t 12)⟩, ⟨(some 60), none, .fieldA 1 (.t 11)⟩, ⟨(some 61), none, .idxA 5 1 (.t 60) (.t 59)⟩, ⟨(some 62), none, .load false 1 (.t 61)⟩, ⟨(some 63), none, .bin .add (.t 58) (.t 62)⟩, ⟨(some 10), none, .mv (.t 63)⟩]))
  (.ops [⟨(some 54), none, .mv (.t 12)⟩, ⟨(some 55), none, .bin .add (.t 54) (.c (.int .i64 1))⟩, ⟨(some 12), none, .mv (.t 55)⟩])))
/- live [0, 4, 5, 6, 7, 8, 9] -/
def k18_b1 : KC := (.seq (.seq (.ops [⟨(some 36), none, .mv (.t 9)⟩, ⟨(some 37), none, .mv (.t 4)⟩, ⟨(some 38), none, .len false (.t 37)⟩, ⟨(some 39), none, .bin .lss (.t 36) (.t 38)⟩])
  (.cond (.t 39) .skip (.exit 2)))
  (.seq (.block 3 (.seq (.draw [⟨(some 42), none, .mv (.t 5)⟩, ⟨(some 43), none, .mv (.t 8)⟩, ⟨(some 44), none, .idxS 6 (.t 42) (.t 43)⟩, ⟨(some 45), none, .load true 6 (.t 44)⟩, ⟨(some 46), none, .mv (.t 4)⟩, ⟨(some 47), none, .mv (.t 9)⟩, ⟨(some 48), none, .idxS 6 (.t 46) (.t 47)⟩, ⟨(some 49), none, .load true 6 (.t 48)⟩, ⟨(some 50), none, .pcall (.c (.fn (.func 83) [] [])) [(.t 45), (.t 49)]⟩, ⟨(some 11), none, .alloc [.int .i64 0, .int .i64 0, .int .i64 0, .int .i64 0, .int .i64 0, .int .i64 0]⟩, ⟨(some 10), none, .mv (.c (.int .i64 0))⟩, ⟨none, none, .store 6 (.t 11) (.t 50)⟩])
  (.seq (.seq (.ops [⟨(some 12), none, .mv (.c (.int .i64 0))⟩])
  (.block 4 (.loop k18_b0)))
  (.ops [⟨(some 64), none, .mv (.t 6)⟩, ⟨(some 65), none, .mv (.t 10)⟩, ⟨(some 66), none, .idxS 1 (.t 64) (.t 65)⟩, ⟨none, none, .store 1 (.t 66) (.c (.bool true))⟩]))))
  (.ops [⟨(some 40), none, .mv (.t 9)⟩, ⟨(some 41), none, .bin .add (.t 40) (.c (.int .i64 1))⟩, ⟨(some 9), none, .mv (.t 41)⟩])))
/- live [0, 4, 5, 6, 7, 8] -/
def k18_b2 : KC := (.seq (.seq (.ops [⟨(some 24), none, .mv (.t 8)⟩, ⟨(some 25), none, .mv (.t 5)⟩, ⟨(some 26), none, .len false (.t 25)⟩, ⟨(some 27), none, .bin .lss (.t 24) (.t 26)⟩])
  (.cond (.t 27) .skip (.exit 0)))
  (.seq (.block 1 (.seq (.seq (.ops [⟨(some 30), none, .mv (.t 6)⟩, ⟨(some 31), none, .mv (.t 8)⟩, ⟨(some 32), none, .idxS 1 (.t 30) (.t 31)⟩, ⟨(some 33), none, .load false 1 (.t 32)⟩])
  (.cond (.t 33) (.exit 1) .skip))
  (.seq (.ops [⟨(some 34), none, .mv (.t 7)⟩, ⟨(some 35), none, .bin .add (.t 34) (.c (.int .i64 1))⟩, ⟨(some 7), none, .mv (.t 35)⟩])
  (.seq (.ops [⟨(some 9), none, .mv (.c (.int .i64 0))⟩])
  (.block 2 (.loop k18_b1))))))
  (.ops [⟨(some 28), none, .mv (.t 8)⟩, ⟨(some 29), none, .bin .add (.t 28) (.c (.int .i64 1))⟩, ⟨(some 8), none, .mv (.t 29)⟩])))
def k18 : KC := (.seq (.ops [⟨(some 2), none, .mv (.c (.int .i64 0))⟩, ⟨(some 3), none, .mv (.c (.int .i64 0))⟩])
  (.seq (.seq (.ops [⟨(some 13), none, .mv (.t 0)⟩, ⟨(some 14), none, .call (.c (.fn (.func 71) [] [])) [(.t 13), (.c (.int .i64 1)), (.c (.int .i64 5))]⟩, ⟨(some 15), none, .not (.t 14)⟩])
  (.cond (.t 15) (.seq (.ops [⟨(some 2), none, .mv (.c (.int .i64 0))⟩, ⟨(some 3), none, .mv (.c (.int .i64 2))⟩])
  .ret) .skip))
  (.seq (.ops [⟨(some 16), none, .mv (.t 0)⟩, ⟨(some 17), none, .bsl false 2 1 []⟩, ⟨(some 18), none, .call (.c (.fn (.func 81) [] [])) [(.t 16), (.t 17)]⟩, ⟨(some 19), none, .mv (.t 0)⟩, ⟨(some 20), none, .call (.c (.fn (.func 82) [] [])) [(.t 19)]⟩, ⟨(some 4), none, .mv (.t 18)⟩, ⟨(some 5), none, .mv (.t 20)⟩])
  (.seq (.ops [⟨(some 21), none, .mv (.t 5)⟩, ⟨(some 22), none, .len false (.t 21)⟩, ⟨(some 23), none, .mks 4 1 (.bool false) (.t 22) (.t 22)⟩, ⟨(some 6), none, .mv (.t 23)⟩, ⟨(some 7), none, .mv (.c (.int .i64 0))⟩])
  (.seq (.seq (.ops [⟨(some 8), none, .mv (.c (.int .i64 0))⟩])
  (.block 0 (.loop k18_b2)))
  (.seq (.ops [⟨(some 67), none, .mv (.t 7)⟩, ⟨(some 2), none, .mv (.t 67)⟩, ⟨(some 3), none, .mv (.c (.int .i64 0))⟩])
  .ret))))))
theorem e18 {args : List PV} {σ : Heap} {K : PV → Heap → Prop} (hl : args.length ≤ 68) (h : Wf σ → (∀ a ∈ args, PV.upto σ.length a) → vc (mkCfg Tryz.prog mixed [] 68 σ.length) k18 (FinK σ.length [.t 2, .t 3] K) (argEnv 0 args) σ) : ACall Tryz.prog 18 args σ K :=
  ACall_enter (C := mkCfg Tryz.prog mixed [] 68 σ.length) (c := Tryz.f18.body.getD .skip) Tryz.func18 (by kernel_rfl) (by kernel_rfl) (by kernel_rfl) rfl hl (by kernel_rfl) (by kernel_rfl) h
end Go.Proofs.YtpfapiiinkkcgaaGreat
namespace Go.Proofs.YtpfapiiinkkcgaaGreat
open Go.Kv
set_option linter.unusedVariables false
set_option linter.unusedSimpArgs false
attribute [local irreducible] ACall PCall KL
theorem p17_out (k : Int) (h : ¬ (1 ≤ k ∧ k ≤ 5)) : Pure Tryz.prog 17 [.int .i64 k] (.tup [.int .i64 0, .int .i64 2]) := by
  refine e17 (by simp) fun _ _ => ?_
  simp only [k17, argEnv, take6, List.drop_zero, Int.cast_ofNat_Int, go_sem, ↓reduceIte, Nat.reduceEqDiff, Nat.reduceAdd, Nat.reduceMul, Nat.reduceLeDiff, Nat.reduceLT, Int.reduceLE, Int.reduceLT, reduceCtorEq]
  refine (p77 _ _ _).go ?_
  rw [decide_eq_false h]
  try simp only [take6, List.drop_zero, Int.cast_ofNat_Int, go_sem, ↓reduceIte, Nat.reduceEqDiff, Nat.reduceAdd, Nat.reduceMul, Nat.reduceLeDiff, Nat.reduceLT, Int.reduceLE, Int.reduceLT, reduceCtorEq]
  exact Kv.Fin.still ⟨rfl, rfl⟩
theorem p18_out (k : Int) (h : ¬ (1 ≤ k ∧ k ≤ 5)) : Pure Tryz.prog 18 [.int .i64 k] (.tup [.int .i64 0, .int .i64 2]) := by
  refine e18 (by simp) fun _ _ => ?_
  simp only [k18, argEnv, take6, List.drop_zero, Int.cast_ofNat_Int, go_sem, ↓reduceIte, Nat.reduceEqDiff, Nat.reduceAdd, Nat.reduceMul, Nat.reduceLeDiff, Nat.reduceLT, Int.reduceLE, Int.reduceLT, reduceCtorEq]
  refine (p71 _ _ _).go ?_
  rw [decide_eq_false h]
  try simp only [take6, List.drop_zero, Int.cast_ofNat_Int, go_sem, ↓reduceIte, Nat.reduceEqDiff, Nat.reduceAdd, Nat.reduceMul, Nat.reduceLeDiff, Nat.reduceLT, Int.reduceLE, Int.reduceLT, reduceCtorEq]
  exact Kv.Fin.still ⟨rfl, rfl⟩
theorem HKc (σ : Heap) (K : PV → Heap → Prop) (v : PV) : HK σ K v = K v σ := rfl
theorem allM_len (n : Nat) : (allM n).length = n ^ n := by simp [allM]
theorem allM_get {n x : Nat} (h : x < n ^ n) : ((allM n).map mp).getD x [] = mp (dg n n x) := by
  simp [allM, List.getD_eq_getElem?_getD, h]
theorem p17_in (n : Nat) (h1 : 1 ≤ n) (h5 : n ≤ 5) : Pure Tryz.prog 17 [.int .i64 n] (.tup [.int .i64 (reps n (n ^ n)), .int .i64 0]) := by
  have hnn := nn_le n (by omega)
  have hpl := prm_len h1 h5
  refine e17 (by simp) fun _ _ => ?_
  simp only [k17, argEnv, take6, List.drop_zero, Int.cast_ofNat_Int, go_sem, ↓reduceIte, Nat.reduceEqDiff, Nat.reduceAdd, Nat.reduceMul, Nat.reduceLeDiff, Nat.reduceLT, Int.reduceLE, Int.reduceLT, reduceCtorEq]
  refine (p77 _ _ _).go ?_
  rw [decide_eq_true (by omega)]
  try simp only [take6, List.drop_zero, Int.cast_ofNat_Int, go_sem, ↓reduceIte, Nat.reduceEqDiff, Nat.reduceAdd, Nat.reduceMul, Nat.reduceLeDiff, Nat.reduceLT, Int.reduceLE, Int.reduceLT, reduceCtorEq]
  refine (p78 n h1 h5).go ?_
  try simp only [take6, List.drop_zero, Int.cast_ofNat_Int, go_sem, ↓reduceIte, Nat.reduceEqDiff, Nat.reduceAdd, Nat.reduceMul, Nat.reduceLeDiff, Nat.reduceLT, Int.reduceLE, Int.reduceLT, reduceCtorEq]
  refine (p79 n h1 h5).go fun v s ⟨hv, hs⟩ => ?_
  subst hv; subst hs
  try simp only [ren_ref, take6, List.drop_zero, Int.cast_ofNat_Int, go_sem, ↓reduceIte, Nat.reduceEqDiff, Nat.reduceAdd, Nat.reduceMul, Nat.reduceLeDiff, Nat.reduceLT, Int.reduceLE, Int.reduceLT, reduceCtorEq]
  have hI : Imm [.arr (n ^ n - 1) 34 6 (aggs ((allM n).map mp))] (.ref 0 (n ^ n - 1) 0 (n ^ n)) (.list (aggs ((allM n).map mp))) := Imm.refa' rfl (by simp [allM])
  refine KL_freeze (env' := [(4, .list (aggs ((prm n).map mp))), (5, .int .i64 0), (14, .list (aggs ((allM n).map mp))), (15, .int .i64 (n ^ n : Nat)), (16, .int .i64 0)]) [4, 5, 14, 15, 16] rfl (by simp [keep]) (.cons Imm.still (.cons Imm.still (.cons hI (.cons Imm.still (.cons Imm.still .nil))))) ?_
  refine KL_indD k17_b0.eq_1 (fun x : Nat => [(4, .list (aggs ((prm n).map mp))), (5, .int .i64 (reps n x)), (14, .list (aggs ((allM n).map mp))), (15, .int .i64 (n ^ n : Nat)), (16, .int .i64 x)]) (fun _ => []) (fun x => x ≤ n ^ n) (fun x => n ^ n - x) [4, 5, 14, 15, 16] 0 (by simp [keep, reps]) ⟨[], rfl⟩ (Nat.zero_le _) (fun x hx => ?_) fun x hx ih => ?_
  · exact ⟨Nat.zero_le _, Env.undr_upto (by simp [Env.undr, PV.undr, undrX_ints, undrX_aggs, undrL_ints]), .nil _⟩
  have hrs := reps_succ n x
  have hrl := reps_le n x
  try simp only [OpK_eq, List.length_map, allM_len, take6, List.drop_zero, Int.cast_ofNat_Int, go_sem, ↓reduceIte, Nat.reduceEqDiff, Nat.reduceAdd, Nat.reduceMul, Nat.reduceLeDiff, Nat.reduceLT, Int.reduceLE, Int.reduceLT, reduceCtorEq]
  refine ⟨fun h2 => ?_, fun h2 => ?_⟩
  · have hxl : x < n ^ n := by omega
    have hf := dg_ok h1 h5 x
    have h6 := hf.mp_len
    have h6l : (mp (lsf (dg n n x) (prm n))).length = 6 := by have := (lsf_ok hf _ (Nat.le_refl _)).mp_len; rwa [List.take_length] at this
    rw [allM_get hxl]
    try simp only [OpK_eq, h6, take6, List.drop_zero, Int.cast_ofNat_Int, go_sem, ↓reduceIte, Nat.reduceEqDiff, Nat.reduceAdd, Nat.reduceMul, Nat.reduceLeDiff, Nat.reduceLT, Int.reduceLE, Int.reduceLT, reduceCtorEq]
    refine ⟨h2, fun _ => ?_⟩
    refine (p80 _ n hf).pgo ?_
    try simp only [OpK_eq, h6, h6l, HKc, take6, List.drop_zero, Int.cast_ofNat_Int, go_sem, ↓reduceIte, Nat.reduceEqDiff, Nat.reduceAdd, Nat.reduceMul, Nat.reduceLeDiff, Nat.reduceLT, Int.reduceLE, Int.reduceLT, reduceCtorEq]
    refine ⟨fun h3 => ?_, fun h3 => ?_⟩
    · have h3' : rep n x = true := decide_eq_true (mp_inj h3)
      rw [if_pos h3'] at hrs
      refine ⟨by omega, by omega, ih (x + 1) (by omega) (by omega) _ _ (by simp [keep, hrs]) ⟨[_], rfl⟩⟩
    · have h3' : ¬ rep n x = true := fun h => h3 (by rw [of_decide_eq_true h])
      rw [if_neg h3', Nat.add_zero] at hrs
      refine ⟨by omega, ih (x + 1) (by omega) (by omega) _ _ (by simp [keep, hrs]) ⟨[_], rfl⟩⟩
  · have hx2 : x = n ^ n := by omega
    rw [hx2]
    exact Kv.Fin.still ⟨rfl, rfl⟩
def bls (m : List Bool) : List PV := m.map PV.bool
@[simp] theorem bls_length (m : List Bool) : (bls m).length = m.length := by simp [bls]
theorem bls_get {m : List Bool} {i : Nat} (h : i < m.length) : (bls m)[i]? = some (.bool (m.getD i false)) := by
  simp [bls, List.getD_eq_getElem?_getD, h]
theorem bls_set (m : List Bool) (i : Nat) (b : Bool) : (bls m).set i (.bool b) = bls (m.set i b) := by simp [bls, List.map_set]
theorem undrX_bls (n : Nat) (l : List Bool) : PV.undrX n (bls l) = true := by
  induction l with
  | nil => rfl
  | cons a l ih => simp only [bls, List.map_cons, PV.undrX, PV.undr, Bool.true_and] at ih ⊢; exact ih
theorem p18_in (n : Nat) (h1 : 1 ≤ n) (h5 : n ≤ 5) : Pure Tryz.prog 18 [.int .i64 n] (.tup [.int .i64 (reps n (n ^ n)), .int .i64 0]) := by
  have hnn := nn_le n (by omega)
  have hpl := prm_len h1 h5
  have ho := p81 n h1 h5 n [] (by simp) (by simp)
  rw [ords_all n h1] at ho
  refine e18 (by simp) fun _ _ => ?_
  simp only [k18, argEnv, take6, List.drop_zero, Int.cast_ofNat_Int, go_sem, ↓reduceIte, Nat.reduceEqDiff, Nat.reduceAdd, Nat.reduceMul, Nat.reduceLeDiff, Nat.reduceLT, Int.reduceLE, Int.reduceLT, reduceCtorEq]
  refine (p71 _ _ _).go ?_
  rw [decide_eq_true (by omega)]
  try simp only [take6, List.drop_zero, Int.cast_ofNat_Int, go_sem, ↓reduceIte, Nat.reduceEqDiff, Nat.reduceAdd, Nat.reduceMul, Nat.reduceLeDiff, Nat.reduceLT, Int.reduceLE, Int.reduceLT, reduceCtorEq]
  refine ho.give (id := 0) rfl (.cons Imm.still (.cons (Imm.refn (l := []) (solo_get (o := .arr 0 2 1 (ints [])) rfl) rfl) (.nil _))) ?_
  try simp only [take6, List.drop_zero, Int.cast_ofNat_Int, go_sem, ↓reduceIte, Nat.reduceEqDiff, Nat.reduceAdd, Nat.reduceMul, Nat.reduceLeDiff, Nat.reduceLT, Int.reduceLE, Int.reduceLT, reduceCtorEq]
  refine (p82 n h1 h5).go ?_
  try simp only [List.length_map, allM_len, take6, List.drop_zero, Int.cast_ofNat_Int, go_sem, ↓reduceIte, Nat.reduceEqDiff, Nat.reduceAdd, Nat.reduceMul, Nat.reduceLeDiff, Nat.reduceLT, Int.reduceLE, Int.reduceLT, reduceCtorEq]
  have htk : ∀ y, y ≤ (prm n).length → ∀ p ∈ (prm n).take y, p ∈ prm n := fun y _ p hp => List.mem_of_mem_take hp
  refine ⟨⟨Int.le_refl _, by omega⟩, ?_⟩
  refine KL_indD k18_b2.eq_1 (fun x : Nat × List Bool => [(0, .int .i64 n), (4, .list (aggs ((prm n).map mp))), (5, .list (aggs ((allM n).map mp))), (6, .ref 1 0 0 (n ^ n)), (7, .int .i64 (reps n x.1)), (8, .int .i64 x.1)]) (fun x => [.dead, .arr 0 4 1 (bls x.2)]) (fun x => x.1 ≤ n ^ n ∧ x.2.length = n ^ n ∧ ∀ j, j < n ^ n → (x.2.getD j false = true ↔ ∃ i, i < x.1 ∧ orbC n (dg n n i) (dg n n j))) (fun x => n ^ n - x.1) [0, 4, 5, 6, 7, 8] (0, List.replicate (n ^ n) false) (by simp [keep, reps]) ⟨[], by simp [bls]⟩ ⟨Nat.zero_le _, by simp, fun j hj => ?_⟩ (fun x hx => ?_) fun ⟨x, M⟩ ⟨hx, hM, hI⟩ ih => ?_
  · simp [List.getD_eq_getElem?_getD, List.getElem?_replicate, hj]
  · exact ⟨Nat.zero_le _, Env.undr_upto (by simp [Env.undr, PV.undr, undrX_aggs]), .cons (by simp [AObj.undr]) (.cons (by simp [AObj.undr, undrX_bls]) (.nil _))⟩
  simp only at hx hM hI
  have hrs := reps_succ n x
  have hrl := reps_le n x
  try simp only [OpK_eq, List.length_map, allM_len, bls_length, hM, take6, List.drop_zero, Int.cast_ofNat_Int, go_sem, ↓reduceIte, Nat.reduceEqDiff, Nat.reduceAdd, Nat.reduceMul, Nat.reduceLeDiff, Nat.reduceLT, Int.reduceLE, Int.reduceLT, reduceCtorEq]
  refine ⟨fun h2 => ?_, fun h2 => ?_⟩
  · have hxl : x < n ^ n := by omega
    have hf := dg_ok h1 h5 x
    have h6 := hf.mp_len
    refine ⟨⟨h2, Nat.le_refl _⟩, hxl, fun q hq => ?_⟩
    rw [bls_get (by omega)] at hq; cases hq
    refine ⟨by simp [PV.cs], fun q hq => ?_⟩
    simp only [PV.cs, List.getElem?_cons_zero, Option.some.injEq] at hq; subst hq
    have hIx := hI x hxl
    cases hmx : M.getD x false with
    | true =>
      have hmet := hIx.1 hmx
      have hnr : ¬ rep n x = true := fun h => (rep_iff h1 h5 hxl).1 h hmet
      rw [if_neg hnr, Nat.add_zero] at hrs
      try simp only [HKc, OpK_eq, take6, List.drop_zero, Int.cast_ofNat_Int, go_sem, ↓reduceIte, Nat.reduceEqDiff, Nat.reduceAdd, Nat.reduceMul, Nat.reduceLeDiff, Nat.reduceLT, Int.reduceLE, Int.reduceLT, reduceCtorEq]
      refine ⟨by omega, ih (x + 1, M) ⟨by show x + 1 ≤ n ^ n; omega, hM, fun j hj => ?_⟩ (by show n ^ n - (x + 1) < n ^ n - x; omega) _ _ (by simp [keep, hrs]) ⟨[], rfl⟩⟩
      rw [hI j hj]
      constructor
      · rintro ⟨i, hi, ho⟩; exact ⟨i, by show i < x + 1; omega, ho⟩
      · rintro ⟨i, hi, ho⟩
        have hi : i < x + 1 := hi
        by_cases e : i = x
        · subst e
          obtain ⟨i0, hi0, ho0⟩ := hmet
          exact ⟨i0, hi0, orbC_trans (dg_ok h1 h5 i0) (dg_ok h1 h5 i) (dg_ok h1 h5 j) ho0 ho⟩
        · exact ⟨i, by omega, ho⟩
    | false =>
      have hnm : ¬ ∃ i, i < x ∧ orbC n (dg n n i) (dg n n x) := fun h => by rw [hIx.2 h] at hmx; cases hmx
      rw [if_pos ((rep_iff h1 h5 hxl).2 hnm)] at hrs
      try simp only [HKc, OpK_eq, take6, List.drop_zero, Int.cast_ofNat_Int, go_sem, ↓reduceIte, Nat.reduceEqDiff, Nat.reduceAdd, Nat.reduceMul, Nat.reduceLeDiff, Nat.reduceLT, Int.reduceLE, Int.reduceLT, reduceCtorEq]
      refine ⟨by omega, ?_⟩
      refine KL_indD k18_b1.eq_1 (fun y : Nat × List Bool => [(0, .int .i64 n), (4, .list (aggs ((prm n).map mp))), (5, .list (aggs ((allM n).map mp))), (6, .ref 1 0 0 (n ^ n)), (7, .int .i64 (reps n (x + 1) : Nat)), (8, .int .i64 x), (9, .int .i64 y.1)]) (fun y => [.dead, .arr 0 4 1 (bls y.2)]) (fun y => y.1 ≤ (prm n).length ∧ y.2.length = n ^ n ∧ ∀ j, j < n ^ n → (y.2.getD j false = true ↔ (∃ i, i < x ∧ orbC n (dg n n i) (dg n n j)) ∨ ∃ p ∈ (prm n).take y.1, rnm (dg n n x) p = dg n n j)) (fun y => (prm n).length - y.1) [0, 4, 5, 6, 7, 8, 9] (0, M) (by simp [keep, hrs]) ⟨[], rfl⟩ ⟨Nat.zero_le _, hM, fun j hj => ?_⟩ (fun y hy => ?_) fun ⟨y, N⟩ ⟨hy, hN, hJ⟩ ihy => ?_
      · rw [hI j hj]; simp
      · exact ⟨Nat.zero_le _, Env.undr_upto (by simp [Env.undr, PV.undr, undrX_aggs]), .cons (by simp [AObj.undr]) (.cons (by simp [AObj.undr, undrX_bls]) (.nil _))⟩
      simp only at hy hN hJ
      try simp only [OpK_eq, List.length_map, allM_len, bls_length, hN, take6, List.drop_zero, Int.cast_ofNat_Int, go_sem, ↓reduceIte, Nat.reduceEqDiff, Nat.reduceAdd, Nat.reduceMul, Nat.reduceLeDiff, Nat.reduceLT, Int.reduceLE, Int.reduceLT, reduceCtorEq]
      refine ⟨fun h3 => ?_, fun h3 => ?_⟩
      · have hyl : y < (prm n).length := by omega
        have hm : (prm n)[y] ∈ prm n := List.getElem_mem _
        have hp := prm_ok h1 h5 hm
        have hlp := hp.mp_len
        have hr := rnm_ok hf hp (prm_nd hm)
        have hlr := hr.mp_len
        have e : ((prm n).map mp).getD y [] = mp (prm n)[y] := by simp [List.getD_eq_getElem?_getD, hyl]
        have htake : (prm n).take (y + 1) = (prm n).take y ++ [(prm n)[y]] := List.take_succ_eq_append_getElem hyl
        rw [e, allM_get hxl]
        generalize hpe : (prm n)[y] = p at *
        have hnb := dg_nbl hr
        generalize hge : rnm (dg n n x) p = g at *
        have hgl := hr.len
        have hnx : ∀ k, k < n ^ n → k ≤ 3125 := fun k hk => by omega
        try simp only [h6, hlp, take6, List.drop_zero, Int.cast_ofNat_Int, go_sem, ↓reduceIte, Nat.reduceEqDiff, Nat.reduceAdd, Nat.reduceMul, Nat.reduceLeDiff, Nat.reduceLT, Int.reduceLE, Int.reduceLT, reduceCtorEq]
        refine ⟨h2, fun _ => ⟨h3, fun _ => ?_⟩⟩
        refine (p83 _ p n hf hp (prm_nd hm)).pgo ?_
        rw [hge]
        try simp only [HKc, OpK_eq, hlr, take6, List.drop_zero, Int.cast_ofNat_Int, go_sem, ↓reduceIte, Nat.reduceEqDiff, Nat.reduceAdd, Nat.reduceMul, Nat.reduceLeDiff, Nat.reduceLT, Int.reduceLE, Int.reduceLT, reduceCtorEq]
        refine KL_ind k18_b0.eq_1 (fun z : Nat => [(0, .int .i64 n), (4, .list (aggs ((prm n).map mp))), (5, .list (aggs ((allM n).map mp))), (6, .ref 1 0 0 (n ^ n)), (7, .int .i64 (reps n (x + 1) : Nat)), (8, .int .i64 x), (9, .int .i64 y), (10, .int .i64 (nbl n (g.take z) : Nat)), (11, .ptr 2 0), (12, .int .i64 z)]) (fun _ => [.dead, .arr 0 4 1 (bls N), .box (ints (mp g))]) (fun z => z ≤ n) (fun z => n - z) [0, 4, 5, 6, 7, 8, 9, 10, 11, 12] 0 (by simp [keep, nbl]) rfl (Nat.zero_le _) fun z hz ihz => ?_
        have hzl : ∀ z, z ≤ n → nbl n (g.take z) ≤ 3125 := fun z hz => by
          have := nbl_lt (n := n) (l := g.take z) fun a ha => hr.lt a (List.mem_of_mem_take ha)
          rw [List.length_take, hgl, Nat.min_eq_left hz] at this
          have := pw_le h1 h5 hz
          omega
        try simp only [hlr, take6, List.drop_zero, Int.cast_ofNat_Int, go_sem, ↓reduceIte, Nat.reduceEqDiff, Nat.reduceAdd, Nat.reduceMul, Nat.reduceLeDiff, Nat.reduceLT, Int.reduceLE, Int.reduceLT, reduceCtorEq]
        refine ⟨fun h4 => ?_, fun h4 => ?_⟩
        · have hzn : z < n := by omega
          have hnt := nbl_take (n := n) (l := g) (x := z) (by omega)
          have hz0 := hzl z hz
          have hz1 := hzl (z + 1) (by omega)
          have hcast : (nbl n (g.take z) : Int) * (n : Int) + (g.getD z 0 : Int) = (nbl n (g.take (z + 1)) : Nat) := by rw [hnt]; push_cast; rfl
          have hprod : (nbl n (g.take z) : Int) * (n : Int) = ((nbl n (g.take z) * n : Nat) : Int) := by push_cast; rfl
          rw [hcast, hprod]
          refine ⟨by omega, by omega, by omega, fun _ => ⟨by omega, by omega, ?_⟩⟩
          exact ihz (z + 1) (by omega) (by omega) _ _ (by simp [keep]) rfl
        · have hzn : z = n := by omega
          rw [hzn, List.take_of_length_le (by omega)]
          have hlt : nbl n g < N.length := by rw [hN]; exact hnb.1
          refine ⟨⟨by omega, by simp [hN]⟩, by rw [bls_length]; exact hlt, fun q hq => ?_⟩
          rw [bls_get hlt] at hq; cases hq
          have hput : ∀ b y, putE (.bool b) 0 y = y := fun b y => rfl
          rw [hput, bls_set]
          refine ⟨by simp [PV.cs], by omega, ihy (y + 1, N.set (nbl n g) true) ⟨by show y + 1 ≤ (prm n).length; omega, by simp [hN], fun j hj => ?_⟩ (by show (prm n).length - (y + 1) < (prm n).length - y; omega) _ _ (by simp [keep]) ⟨[_], rfl⟩⟩
          have hgd : (N.set (nbl n g) true).getD j false = if nbl n g = j then true else N.getD j false := by
            simp only [List.getD_eq_getElem?_getD, List.getElem?_set]
            by_cases ee : nbl n g = j
            · rw [if_pos ee, if_pos ee, if_pos (by omega)]; rfl
            · rw [if_neg ee, if_neg ee]
          show (N.set (nbl n g) true).getD j false = true ↔ _ ∨ ∃ p ∈ (prm n).take (y + 1), _
          rw [hgd, htake]
          by_cases ee : nbl n g = j
          · rw [if_pos ee]
            refine ⟨fun _ => .inr ⟨p, by simp, ?_⟩, fun _ => rfl⟩
            rw [hge, ← ee, hnb.2]
          · rw [if_neg ee, hJ j hj]
            constructor
            · rintro (h | ⟨q, hq, h⟩)
              · exact .inl h
              · exact .inr ⟨q, by simp [hq], h⟩
            · rintro (h | ⟨q, hq, h⟩)
              · exact .inl h
              · rcases List.mem_append.1 hq with hq | hq
                · exact .inr ⟨q, hq, h⟩
                · simp only [List.mem_singleton] at hq
                  subst hq
                  rw [hge] at h
                  exact absurd (by rw [h]; exact nbl_at h1 hj) ee
      · obtain rfl : y = (prm n).length := by omega
        rw [List.take_length] at hJ
        refine ⟨by omega, ih (x + 1, N) ⟨by show x + 1 ≤ n ^ n; omega, hN, fun j hj => ?_⟩ (by show n ^ n - (x + 1) < n ^ n - x; omega) _ _ (by simp [keep]) ⟨[], rfl⟩⟩
        rw [hJ j hj]
        constructor
        · rintro (⟨i, hi, ho⟩ | ho)
          · exact ⟨i, by show i < x + 1; omega, ho⟩
          · exact ⟨x, by show x < x + 1; omega, ho⟩
        · rintro ⟨i, hi, ho⟩
          have hi : i < x + 1 := hi
          by_cases e : i = x
          · subst e; exact .inr ho
          · exact .inl ⟨i, by omega, ho⟩
  · have hx2 : x = n ^ n := by omega
    rw [hx2]
    exact Kv.Fin.freeze Imm.still ⟨rfl, rfl⟩
end Go.Proofs.YtpfapiiinkkcgaaGreat
