/- All maps of n points. -/
import Derived.Test.YtpkddcjecfogeaaCb
import Derived.Test.YtpkddcjecfogeaaA
import Derived.Test.YtpkddcjecfogeaaSlM
namespace Go.Proofs.Ytpkddcjecfogeaa
open Go.Kv
set_option maxRecDepth 100000
/- spec.l01All -/
/- live [0, 3, 4, 5] -/
def k62_b0 : KC := (.seq (.seq (.ops [⟨(some 11), none, .mv (.t 5)⟩, ⟨(some 12), none, .mv (.t 0)⟩, ⟨(some 13), none, .bin .lss (.t 11) (.t 12)⟩])
  (.cond (.t 13) .skip (.exit 0)))
  (.seq (.block 1 (.ops [⟨(some 16), none, .mv (.t 3)⟩, ⟨(some 17), none, .mv (.t 0)⟩, ⟨(some 18), none, .bin .mul (.t 16) (.t 17)⟩, ⟨(some 3), none, .mv (.t 18)⟩]))
  (.ops [⟨(some 14), none, .mv (.t 5)⟩, ⟨(some 15), none, .bin .add (.t 14) (.c (.int .i64 1))⟩, ⟨(some 5), none, .mv (.t 15)⟩])))
/- live [0, 3, 4, 6, 7, 8, 9] -/
def k62_b1 : KC := (.seq (.seq (.ops [⟨(some 29), none, .mv (.t 9)⟩, ⟨(some 30), none, .bin .geq (.t 29) (.c (.int .i64 0))⟩])
  (.cond (.t 30) .skip (.exit 4)))
  (.seq (.block 5 (.seq (.ops [⟨(some 33), none, .mv (.t 9)⟩, ⟨(some 34), none, .mv (.t 8)⟩, ⟨(some 35), none, .mv (.t 0)⟩, ⟨(some 36), none, .bin .rem (.t 34) (.t 35)⟩, ⟨(some 37), none, .fieldA 1 (.t 7)⟩, ⟨(some 38), none, .idxA 5 1 (.t 37) (.t 33)⟩, ⟨none, none, .store 1 (.t 38) (.t 36)⟩])
  (.ops [⟨(some 39), none, .mv (.t 8)⟩, ⟨(some 40), none, .mv (.t 0)⟩, ⟨(some 41), none, .bin .quo (.t 39) (.t 40)⟩, ⟨(some 8), none, .mv (.t 41)⟩])))
  (.ops [⟨(some 31), none, .mv (.t 9)⟩, ⟨(some 32), none, .bin .sub (.t 31) (.c (.int .i64 1))⟩, ⟨(some 9), none, .mv (.t 32)⟩])))
/- live [0, 3, 4, 6] -/
def k62_b2 : KC := (.seq (.seq (.ops [⟨(some 19), none, .mv (.t 6)⟩, ⟨(some 20), none, .mv (.t 3)⟩, ⟨(some 21), none, .bin .lss (.t 19) (.t 20)⟩])
  (.cond (.t 21) .skip (.exit 2)))
  (.seq (.block 3 (.seq (.ops [⟨(some 24), none, .mv (.t 0)⟩, ⟨(some 25), none, .build [.int .i64 0, .int .i64 0, .int .i64 0, .int .i64 0, .int .i64 0, .int .i64 0] [(0, 1, (.t 24))]⟩, ⟨(some 26), none, .mv (.t 6)⟩, ⟨(some 7), none, .alloc [.int .i64 0, .int .i64 0, .int .i64 0, .int .i64 0, .int .i64 0, .int .i64 0]⟩, ⟨none, none, .store 6 (.t 7) (.t 25)⟩, ⟨(some 8), none, .mv (.t 26)⟩])
  (.seq (.seq (.ops [⟨(some 27), none, .mv (.t 0)⟩, ⟨(some 28), none, .bin .sub (.t 27) (.c (.int .i64 1))⟩, ⟨(some 9), none, .mv (.t 28)⟩])
  (.block 4 (.loop k62_b1)))
  (.ops [⟨(some 42), none, .mv (.t 4)⟩, ⟨(some 43), none, .load true 6 (.t 7)⟩, ⟨(some 44), none, .bsl true 28 6 [(.t 43)]⟩, ⟨(some 45), none, .app (.t 42) (.t 44) 28 6⟩, ⟨(some 4), none, .mv (.t 45)⟩]))))
  (.ops [⟨(some 22), none, .mv (.t 6)⟩, ⟨(some 23), none, .bin .add (.t 22) (.c (.int .i64 1))⟩, ⟨(some 6), none, .mv (.t 23)⟩])))
def k62 : KC := (.seq (.ops [⟨(some 2), none, .mv (.c (.nils))⟩])
  (.seq (.ops [⟨(some 10), none, .bsl false 28 6 []⟩, ⟨(some 3), none, .mv (.c (.int .i64 1))⟩, ⟨(some 4), none, .mv (.t 10)⟩])
  (.seq (.seq (.ops [⟨(some 5), none, .mv (.c (.int .i64 0))⟩])
  (.block 0 (.loop k62_b0)))
  (.seq (.seq (.ops [⟨(some 6), none, .mv (.c (.int .i64 0))⟩])
  (.block 2 (.loop k62_b2)))
  (.seq (.ops [⟨(some 46), none, .mv (.t 4)⟩, ⟨(some 2), none, .mv (.t 46)⟩])
  .ret)))))
theorem e62 {args : List PV} {σ : Heap} {K : PV → Heap → Prop} (hl : args.length ≤ 47) (h : Wf σ → (∀ a ∈ args, PV.upto σ.length a) → vc (mkCfg Try.prog mixed [44] 47 σ.length) k62 (FinK σ.length [.t 2] K) (argEnv 0 args) σ) : ACall Try.prog 62 args σ K :=
  ACall_enter (C := mkCfg Try.prog mixed [44] 47 σ.length) (c := Try.f62.body.getD .skip) Try.func62 (by kernel_rfl) (by kernel_rfl) (by kernel_rfl) rfl hl (by kernel_rfl) (by kernel_rfl) h
/- impl.maps -/
/- live [0, 3, 4, 5, 6, 9, 10] -/
def k66_b0 : KC := (.seq (.seq (.ops [⟨(some 17), none, .mv (.t 6)⟩, ⟨(some 18), none, .bin .geq (.t 17) (.c (.int .i64 0))⟩])
  (.cond (.t 18) .skip (.exit 2)))
  (.seq (.block 3 (.seq (.ops [⟨(some 21), none, .mv (.t 6)⟩, ⟨(some 22), none, .mv (.t 4)⟩, ⟨(some 23), none, .mv (.t 0)⟩, ⟨(some 24), none, .bin .rem (.t 22) (.t 23)⟩, ⟨(some 25), none, .fieldA 1 (.t 5)⟩, ⟨(some 26), none, .idxA 5 1 (.t 25) (.t 21)⟩, ⟨none, none, .store 1 (.t 26) (.t 24)⟩])
  (.ops [⟨(some 27), none, .mv (.t 4)⟩, ⟨(some 28), none, .mv (.t 0)⟩, ⟨(some 29), none, .bin .quo (.t 27) (.t 28)⟩, ⟨(some 4), none, .mv (.t 29)⟩])))
  (.ops [⟨(some 19), none, .mv (.t 6)⟩, ⟨(some 20), none, .bin .sub (.t 19) (.c (.int .i64 1))⟩, ⟨(some 6), none, .mv (.t 20)⟩])))
/- live [0, 3, 9, 10] -/
def k66_b1 : KC := (.seq (.ops [⟨(some 11), none, .bin .lss (.t 10) (.t 9)⟩])
  (.seq (.cond (.t 11) .skip (.exit 0))
  (.seq (.block 1 (.seq (.ops [⟨(some 12), none, .mv (.t 10)⟩, ⟨(some 4), none, .mv (.t 12)⟩])
  (.seq (.ops [⟨(some 13), none, .mv (.t 0)⟩, ⟨(some 14), none, .build [.int .i64 0, .int .i64 0, .int .i64 0, .int .i64 0, .int .i64 0, .int .i64 0] [(0, 1, (.t 13))]⟩, ⟨(some 5), none, .alloc [.int .i64 0, .int .i64 0, .int .i64 0, .int .i64 0, .int .i64 0, .int .i64 0]⟩, ⟨none, none, .store 6 (.t 5) (.t 14)⟩])
  (.seq (.seq (.ops [⟨(some 15), none, .mv (.t 0)⟩, ⟨(some 16), none, .bin .sub (.t 15) (.c (.int .i64 1))⟩, ⟨(some 6), none, .mv (.t 16)⟩])
  (.block 2 (.loop k66_b0)))
  (.ops [⟨(some 30), none, .mv (.t 3)⟩, ⟨(some 31), none, .load true 6 (.t 5)⟩, ⟨(some 32), none, .bsl true 28 6 [(.t 31)]⟩, ⟨(some 33), none, .app (.t 30) (.t 32) 28 6⟩, ⟨(some 3), none, .mv (.t 33)⟩])))))
  (.ops [⟨(some 34), none, .bin .add (.t 10) (.c (.int .i64 1))⟩, ⟨(some 10), none, .mv (.t 34)⟩]))))
def k66 : KC := (.seq (.ops [⟨(some 2), none, .mv (.c (.nils))⟩])
  (.seq (.ops [⟨(some 3), none, .mv (.c (.nils))⟩])
  (.seq (.seq (.ops [⟨(some 7), none, .mv (.t 0)⟩, ⟨(some 8), none, .mv (.t 0)⟩, ⟨(some 9), none, .call (.c (.fn (.func 121) [] [])) [(.t 7), (.t 8)]⟩, ⟨(some 10), none, .mv (.c (.int .i64 0))⟩])
  (.block 0 (.loop k66_b1)))
  (.seq (.ops [⟨(some 35), none, .mv (.t 3)⟩, ⟨(some 2), none, .mv (.t 35)⟩])
  .ret))))
theorem e66 {args : List PV} {σ : Heap} {K : PV → Heap → Prop} (hl : args.length ≤ 36) (h : Wf σ → (∀ a ∈ args, PV.upto σ.length a) → vc (mkCfg Try.prog mixed [32] 36 σ.length) k66 (FinK σ.length [.t 2] K) (argEnv 0 args) σ) : ACall Try.prog 66 args σ K :=
  ACall_enter (C := mkCfg Try.prog mixed [32] 36 σ.length) (c := Try.f66.body.getD .skip) Try.func66 (by kernel_rfl) (by kernel_rfl) (by kernel_rfl) rfl hl (by kernel_rfl) (by kernel_rfl) h
end Go.Proofs.Ytpkddcjecfogeaa
namespace Go.Proofs.Ytpkddcjecfogeaa
open Go.Kv
set_option linter.unusedVariables false
set_option linter.unusedSimpArgs false
attribute [local irreducible] ACall PCall KL
/-- The last j digits of k in base n, the greatest first. -/
def dg (n : Nat) : Nat → Nat → List Nat
  | 0, _ => []
  | j + 1, k => (k / n ^ j % n) :: dg n j k
@[simp] theorem dg_length (n : Nat) : ∀ j k, (dg n j k).length = j
  | 0, k => rfl
  | j + 1, k => by simp [dg, dg_length n j k]
theorem dg_lt {n : Nat} (hn : 1 ≤ n) : ∀ j k, ∀ x ∈ dg n j k, x < n
  | 0, k, x, h => by simp [dg] at h
  | j + 1, k, x, h => by
    simp only [dg, List.mem_cons] at h
    rcases h with rfl | h
    · exact Nat.mod_lt _ hn
    · exact dg_lt hn j k x h
theorem dg_ok {n : Nat} (h : 1 ≤ n) (h' : n ≤ 5) (k : Nat) : Ok (dg n n k) n := ⟨dg_length _ _ _, h, h', dg_lt h n k⟩
/-- All maps of n points, in order. -/
def allM (n : Nat) : List (List Nat) := (List.range (n ^ n)).map (dg n n)
def fstM (n x : Nat) : List (List Int) := (List.range x).map fun k => mp (dg n n k)
@[simp] theorem fstM_length (n x : Nat) : (fstM n x).length = x := by simp [fstM]
theorem fstM_succ (n x : Nat) : fstM n x ++ [mp (dg n n x)] = fstM n (x + 1) := by simp [fstM, List.range_succ]
theorem fstM_all (n : Nat) : fstM n (n ^ n) = (allM n).map mp := by simp [fstM, allM, Function.comp_def]
theorem nn_le : ∀ n < 6, n ^ n ≤ 3125 := by decide
theorem dg_step {n j k : Nat} (hj : j < n) : (List.replicate (n - j) 0 ++ dg n j k).set (n - j - 1) (k / n ^ j % n) = List.replicate (n - (j + 1)) 0 ++ dg n (j + 1) k := by
  have e : n - j = (n - (j + 1)) + 1 := by omega
  rw [e, List.replicate_succ', List.append_assoc, List.set_append_right _ _ (by simp)]
  simp [dg]
/-- The digits of k, written from the last one on. -/
theorem lp66 {fz : List Nat} {N n0 : Nat} {Q : Exit → Env → Heap → Prop} {env : Env} {σ : Heap} {id n k : Nat} {v3 v9 v10 : PV} (h1 : 1 ≤ n) (h5 : n ≤ 5) (hid : σ[id]? = some (.box (ints (mpN n (List.replicate n 0)))))
    (hE : keep [0, 3, 4, 5, 6, 9, 10] env = [(0, .int .i64 n), (3, v3), (4, .int .i64 k), (5, .ptr id 0), (6, .int .i64 (n - 1)), (9, v9), (10, v10)]) (hk : k < 3125)
    (hQ : ∀ a b c d, Q (.exit 2) [(18, a), (17, b), (0, .int .i64 n), (3, v3), (4, c), (5, .ptr id 0), (6, d), (9, v9), (10, v10)] (σ.set id (.box (ints (mp (dg n n k)))))) :
    KL (mkCfg Try.prog mixed fz N n0) k66_b0 Q env σ := by
  have hlt := (List.getElem?_eq_some_iff.1 hid).1
  have hself : ∀ o, (σ.set id o)[id]? = some o := fun o => List.getElem?_set_self hlt
  have hset : ∀ o o', (σ.set id o).set id o' = σ.set id o' := fun o o' => List.set_set ..
  refine KL_ind k66_b0.eq_1 (fun j : Nat => [(0, .int .i64 n), (3, v3), (4, .int .i64 (k / n ^ j : Nat)), (5, .ptr id 0), (6, .int .i64 ((n : Int) - 1 - j)), (9, v9), (10, v10)]) (fun j => σ.set id (.box (ints (mpN n (List.replicate (n - j) 0 ++ dg n j k))))) (fun j => j ≤ n) (fun j => n - j) [0, 3, 4, 5, 6, 9, 10] 0 ?_ ?_ (Nat.zero_le _) fun j hj ih => ?_
  · rw [hE]; simp
  · simp [dg, hp_same hid]
  · have hl : (mpN n (List.replicate (n - j) 0 ++ dg n j k)).length = 6 := mpN_length (by simp; omega)
    try simp only [hself, hset, hl, take6, List.drop_zero, Int.cast_ofNat_Int, go_sem, ↓reduceIte, Nat.reduceEqDiff, Nat.reduceAdd, Nat.reduceMul, Nat.reduceLeDiff, Nat.reduceLT, Int.reduceLE, Int.reduceLT, reduceCtorEq]
    refine ⟨fun h => ?_, fun h => ?_⟩
    · have e1 : ((n : Int) - 1 - j).toNat = n - j - 1 := by omega
      rw [e1]
      have hd : k / n ^ j ≤ k := Nat.div_le_self _ _
      have e2 : (((k / n ^ j : Nat) : Int) % n) = ((k / n ^ j % n : Nat) : Int) := by simp
      have e3 : (((k / n ^ j : Nat) : Int) / n) = ((k / n ^ (j + 1) : Nat) : Int) := by rw [Nat.pow_succ, ← Nat.div_div_eq_div_mul]; simp
      have hd2 : k / n ^ (j + 1) ≤ k := Nat.div_le_self _ _
      have hz : (0 : Int) ≤ ((k / n ^ j : Nat) : Int) := Int.natCast_nonneg _
      have hz2 : (0 : Int) ≤ ((k / n ^ (j + 1) : Nat) : Int) := Int.natCast_nonneg _
      rw [e2, e3]
      repeat' (first | refine And.intro ?_ ?_ | intro _)
      all_goals (try omega)
      refine ih (j + 1) (by omega) (by omega) _ _ ?_ ?_
      · simp [keep]; omega
      · rw [mpN_set (by simp; omega), dg_step (by omega)]
    · obtain rfl : j = n := by omega
      simp only [Nat.sub_self, List.replicate_zero, List.nil_append]
      rw [← (dg_ok h1 h5 k).mp_eq]
      exact hQ _ _ _ _
theorem p66 (n : Nat) (h1 : 1 ≤ n) (h5 : n ≤ 5) : ACall Try.prog 66 [.int .i64 n] [] (fun v s => v = .ref 0 (n ^ n - 1) 0 (n ^ n) ∧ s = [.arr (n ^ n - 1) 28 6 (aggs ((allM n).map mp))]) := by
  have hnn := nn_le n (by omega)
  have hn1 : 0 < n ^ n := Nat.pow_pos (by omega)
  refine e66 (by simp) fun _ _ => ?_
  simp only [k66, argEnv, take6, List.drop_zero, Int.cast_ofNat_Int, go_sem, ↓reduceIte, Nat.reduceEqDiff, Nat.reduceAdd, Nat.reduceMul, Nat.reduceLeDiff, Nat.reduceLT, Int.reduceLE, Int.reduceLT, reduceCtorEq]
  refine (p121 n n (by omega) (by omega)).go ?_
  try simp only [take6, List.drop_zero, Int.cast_ofNat_Int, go_sem, ↓reduceIte, Nat.reduceEqDiff, Nat.reduceAdd, Nat.reduceMul, Nat.reduceLeDiff, Nat.reduceLT, Int.reduceLE, Int.reduceLT, reduceCtorEq]
  rw [← Int.natCast_pow]
  have hall := fstM_all n
  generalize hN : n ^ n = M at *
  refine KL_indD k66_b1.eq_1 (fun x : Nat => [(0, .int .i64 n), (3, nref 1 x), (9, .int .i64 M), (10, .int .i64 x)]) (fun x => nhp [.box (ints (mp (dg n n 0))), .arr (x - 1) 28 6 (aggs (fstM n x))] x) (fun x => x ≤ M) (fun x => M - x) [0, 3, 9, 10] 0 (by simp [keep, nref]) ⟨[], rfl⟩ (Nat.zero_le _) (fun x hx => ?_) fun x hx ih => ?_
  · refine ⟨Nat.zero_le _, ?_, ?_⟩
    · rcases x with _ | x
      · exact Env.undr_upto (by rfl)
      · exact Env.undr_upto (by simp [Env.undr, PV.undr, nref, nhp])
    · rcases x with _ | x
      · exact Hb.nil _
      · exact .cons (by simp [AObj.undr, undrL_ints]) (.cons (by simp [AObj.undr, undrX_aggs]) (.nil _))
  · try simp only [take6, List.drop_zero, Int.cast_ofNat_Int, go_sem, ↓reduceIte, Nat.reduceEqDiff, Nat.reduceAdd, Nat.reduceMul, Nat.reduceLeDiff, Nat.reduceLT, Int.reduceLE, Int.reduceLT, reduceCtorEq]
    refine ⟨fun h => ?_, fun h => ?_⟩
    · have hm : (mp (dg n n x)).length = 6 := (dg_ok h1 h5 x).mp_len
      rcases x with _ | x
      · try simp only [take6, List.drop_zero, Int.cast_ofNat_Int, go_sem, ↓reduceIte, Nat.reduceEqDiff, Nat.reduceAdd, Nat.reduceMul, Nat.reduceLeDiff, Nat.reduceLT, Int.reduceLE, Int.reduceLT, reduceCtorEq]
        refine ⟨by omega, ?_⟩
        refine lp66 (id := 0) (k := 0) h1 h5 ?_ (by rfl) (by omega) fun a b c d => ?_
        · rw [mpN_rep h5]; rfl
        try simp only [hm, take6, List.drop_zero, Int.cast_ofNat_Int, go_sem, ↓reduceIte, Nat.reduceEqDiff, Nat.reduceAdd, Nat.reduceMul, Nat.reduceLeDiff, Nat.reduceLT, Int.reduceLE, Int.reduceLT, reduceCtorEq]
        refine ⟨by omega, ?_⟩
        exact ih 1 (by omega) (by omega) _ _ (by rfl) ⟨[], by rfl⟩
      · try simp only [take6, List.drop_zero, Int.cast_ofNat_Int, go_sem, ↓reduceIte, Nat.reduceEqDiff, Nat.reduceAdd, Nat.reduceMul, Nat.reduceLeDiff, Nat.reduceLT, Int.reduceLE, Int.reduceLT, reduceCtorEq]
        refine ⟨by omega, ?_⟩
        refine lp66 (id := 2) (k := x + 1) h1 h5 ?_ (by rfl) (by omega) fun a b c d => ?_
        · rw [mpN_rep h5]; rfl
        try simp only [hm, fstM_length, take6, List.drop_zero, Int.cast_ofNat_Int, go_sem, ↓reduceIte, Nat.reduceEqDiff, Nat.reduceAdd, Nat.reduceMul, Nat.reduceLeDiff, Nat.reduceLT, Int.reduceLE, Int.reduceLT, reduceCtorEq]
        repeat' (first | refine And.intro ?_ ?_ | intro _)
        all_goals (try omega)
        refine ih (x + 1 + 1) (by omega) (by omega) _ _ (by rfl) ⟨[.box (ints (mp (dg n n (x + 1))))], ?_⟩
        rw [nhp_succ, List.take_of_length_le (by simp), fstM_succ]
        rfl
    · obtain rfl : x = M := by omega
      rw [nref_pos hn1, nhp_pos hn1, hall]
      try simp only [take6, List.drop_zero, Int.cast_ofNat_Int, go_sem, ↓reduceIte, Nat.reduceEqDiff, Nat.reduceAdd, Nat.reduceMul, Nat.reduceLeDiff, Nat.reduceLT, Int.reduceLE, Int.reduceLT, reduceCtorEq]
      exact Kv.Fin.one (i := 1) rfl flat_aggs 0 ⟨rfl, rfl⟩
/-- The digits of k, as the specification writes them. -/
theorem lp62 {fz : List Nat} {N n0 : Nat} {Q : Exit → Env → Heap → Prop} {env : Env} {σ : Heap} {id n k : Nat} {v3 v4 v6 : PV} (h1 : 1 ≤ n) (h5 : n ≤ 5) (hid : σ[id]? = some (.box (ints (mpN n (List.replicate n 0)))))
    (hE : keep [0, 3, 4, 6, 7, 8, 9] env = [(0, .int .i64 n), (3, v3), (4, v4), (6, v6), (7, .ptr id 0), (8, .int .i64 k), (9, .int .i64 (n - 1))]) (hk : k < 3125)
    (hQ : ∀ a b c d, Q (.exit 4) [(30, a), (29, b), (0, .int .i64 n), (3, v3), (4, v4), (6, v6), (7, .ptr id 0), (8, c), (9, d)] (σ.set id (.box (ints (mp (dg n n k)))))) :
    KL (mkCfg Try.prog mixed fz N n0) k62_b1 Q env σ := by
  have hlt := (List.getElem?_eq_some_iff.1 hid).1
  have hself : ∀ o, (σ.set id o)[id]? = some o := fun o => List.getElem?_set_self hlt
  have hset : ∀ o o', (σ.set id o).set id o' = σ.set id o' := fun o o' => List.set_set ..
  refine KL_ind k62_b1.eq_1 (fun j : Nat => [(0, .int .i64 n), (3, v3), (4, v4), (6, v6), (7, .ptr id 0), (8, .int .i64 (k / n ^ j : Nat)), (9, .int .i64 ((n : Int) - 1 - j))]) (fun j => σ.set id (.box (ints (mpN n (List.replicate (n - j) 0 ++ dg n j k))))) (fun j => j ≤ n) (fun j => n - j) [0, 3, 4, 6, 7, 8, 9] 0 ?_ ?_ (Nat.zero_le _) fun j hj ih => ?_
  · rw [hE]; simp
  · simp [dg, hp_same hid]
  · have hl : (mpN n (List.replicate (n - j) 0 ++ dg n j k)).length = 6 := mpN_length (by simp; omega)
    try simp only [hself, hset, hl, take6, List.drop_zero, Int.cast_ofNat_Int, go_sem, ↓reduceIte, Nat.reduceEqDiff, Nat.reduceAdd, Nat.reduceMul, Nat.reduceLeDiff, Nat.reduceLT, Int.reduceLE, Int.reduceLT, reduceCtorEq]
    refine ⟨fun h => ?_, fun h => ?_⟩
    · have e1 : ((n : Int) - 1 - j).toNat = n - j - 1 := by omega
      rw [e1]
      have hd : k / n ^ j ≤ k := Nat.div_le_self _ _
      have e2 : (((k / n ^ j : Nat) : Int) % n) = ((k / n ^ j % n : Nat) : Int) := by simp
      have e3 : (((k / n ^ j : Nat) : Int) / n) = ((k / n ^ (j + 1) : Nat) : Int) := by rw [Nat.pow_succ, ← Nat.div_div_eq_div_mul]; simp
      have hd2 : k / n ^ (j + 1) ≤ k := Nat.div_le_self _ _
      have hz : (0 : Int) ≤ ((k / n ^ j : Nat) : Int) := Int.natCast_nonneg _
      have hz2 : (0 : Int) ≤ ((k / n ^ (j + 1) : Nat) : Int) := Int.natCast_nonneg _
      rw [e2, e3]
      repeat' (first | refine And.intro ?_ ?_ | intro _)
      all_goals (try omega)
      refine ih (j + 1) (by omega) (by omega) _ _ ?_ ?_
      · simp [keep]; omega
      · rw [mpN_set (by simp; omega), dg_step (by omega)]
    · obtain rfl : j = n := by omega
      simp only [Nat.sub_self, List.replicate_zero, List.nil_append]
      rw [← (dg_ok h1 h5 k).mp_eq]
      exact hQ _ _ _ _
theorem pw_le {n : Nat} (h1 : 1 ≤ n) (h5 : n ≤ 5) {x : Nat} (hx : x ≤ n) : n ^ x ≤ 3125 := Nat.le_trans (Nat.pow_le_pow_right h1 hx) (nn_le n (by omega))
theorem p62 (n : Nat) (h1 : 1 ≤ n) (h5 : n ≤ 5) : Pure Try.prog 62 [.int .i64 n] (.list (aggs ((allM n).map mp))) := by
  refine e62 (by simp) fun _ _ => ?_
  simp only [k62, argEnv, take6, List.drop_zero, Int.cast_ofNat_Int, go_sem, ↓reduceIte, Nat.reduceEqDiff, Nat.reduceAdd, Nat.reduceMul, Nat.reduceLeDiff, Nat.reduceLT, Int.reduceLE, Int.reduceLT, reduceCtorEq]
  refine KL_ind k62_b0.eq_1 (fun x : Nat => [(0, .int .i64 n), (3, .int .i64 (n ^ x : Nat)), (4, .ref 0 0 0 0), (5, .int .i64 x)]) (fun x => [.arr 0 28 6 (aggs [])]) (fun x => x ≤ n) (fun x => n - x) [0, 3, 4, 5] 0 (by simp [keep]) (by rfl) (Nat.zero_le _) fun x hx ih => ?_
  try simp only [take6, List.drop_zero, Int.cast_ofNat_Int, go_sem, ↓reduceIte, Nat.reduceEqDiff, Nat.reduceAdd, Nat.reduceMul, Nat.reduceLeDiff, Nat.reduceLT, Int.reduceLE, Int.reduceLT, reduceCtorEq]
  have hpw := pw_le h1 h5 hx
  refine ⟨fun h => ?_, fun h => ?_⟩
  · have hpw2 := pw_le h1 h5 (x := x + 1) (by omega)
    have hz2 : (0 : Int) ≤ ((n ^ (x + 1) : Nat) : Int) := Int.natCast_nonneg _
    have e : ((n ^ x : Nat) : Int) * n = ((n ^ (x + 1) : Nat) : Int) := by rw [Nat.pow_succ]; simp
    rw [e]
    repeat' (first | refine And.intro ?_ ?_ | intro _)
    all_goals (try omega)
    exact ih (x + 1) (by omega) (by omega) _ _ (by rfl) rfl
  · obtain rfl : x = n := by omega
    have hall := fstM_all x
    generalize hN : x ^ x = M at *
    refine KL_indD k62_b2.eq_1 (fun k : Nat => [(0, .int .i64 x), (3, .int .i64 M), (4, .ref 0 k 0 k), (6, .int .i64 k)]) (fun k => [.arr k 28 6 (aggs (fstM x k))]) (fun k => k ≤ M) (fun k => M - k) [0, 3, 4, 6] 0 (by rfl) ⟨[], rfl⟩ (Nat.zero_le _) (fun k hx => ?_) fun k hx ih => ?_
    · exact ⟨Nat.zero_le _, Env.undr_upto (by rfl), .cons (by simp [AObj.undr, undrX_aggs]) (.nil _)⟩
    · try simp only [take6, List.drop_zero, Int.cast_ofNat_Int, go_sem, ↓reduceIte, Nat.reduceEqDiff, Nat.reduceAdd, Nat.reduceMul, Nat.reduceLeDiff, Nat.reduceLT, Int.reduceLE, Int.reduceLT, reduceCtorEq]
      refine ⟨fun h => ?_, fun h => ?_⟩
      · have hm : (mp (dg x x k)).length = 6 := (dg_ok h1 h5 k).mp_len
        refine ⟨by omega, ?_⟩
        refine lp62 (id := 1) (k := k) h1 h5 ?_ (by rfl) (by omega) fun a b c d => ?_
        · rw [mpN_rep h5]; rfl
        try simp only [hm, fstM_length, take6, List.drop_zero, Int.cast_ofNat_Int, go_sem, ↓reduceIte, Nat.reduceEqDiff, Nat.reduceAdd, Nat.reduceMul, Nat.reduceLeDiff, Nat.reduceLT, Int.reduceLE, Int.reduceLT, reduceCtorEq]
        repeat' (first | refine And.intro ?_ ?_ | intro _)
        all_goals (try omega)
        refine ih (k + 1) (by omega) (by omega) _ _ (by rfl) ⟨[.box (ints (mp (dg x x k)))], ?_⟩
        rw [List.take_of_length_le (by simp), fstM_succ]
        rfl
      · obtain rfl : k = M := by omega
        rw [hall]
        refine Kv.Fin.freeze ?_ ⟨rfl, rfl⟩
        have := Imm.refa (σ := [.arr k 28 6 (aggs ((allM x).map mp))]) (id := 0) rfl
        rw [← hall, fstM_length] at this
        rw [← hall]; exact this
end Go.Proofs.Ytpkddcjecfogeaa
