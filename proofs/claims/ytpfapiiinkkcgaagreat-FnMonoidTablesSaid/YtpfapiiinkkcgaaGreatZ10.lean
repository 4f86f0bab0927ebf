/- Several texts of this session as one, less what the claim does not need. -/
import Derived.Test.YtpfapiiinkkcgaaGreatCb
import Derived.Test.YtpfapiiinkkcgaaGreatZ7
import Derived.Test.YtpfapiiinkkcgaaGreatZ9
import Derived.Test.YtpfapiiinkkcgaaGreatZ8
import Derived.Test.YtpfapiiinkkcgaaGreatZ5
section
/- Maps in order: the specification. -/
namespace Go.Proofs.YtpfapiiinkkcgaaGreat
open Go.Kv
set_option maxRecDepth 100000
/- spec.l02Find -/
/- live [0, 3, 5, 6, 31, 32, 33, 34, 35, 36] -/
def k160_b0 : KC := (.seq (.seq (.ops [⟨(some 10), none, .mv (.t 5)⟩, ⟨(some 11), none, .mv (.t 6)⟩, ⟨(some 12), none, .bin .lss (.t 10) (.t 11)⟩])
  (.cond (.t 12) .skip (.exit 0)))
  (.block 1 (.seq (.ops [⟨(some 13), none, .mv (.t 5)⟩, ⟨(some 14), none, .mv (.t 6)⟩, ⟨(some 15), none, .bin .add (.t 13) (.t 14)⟩, ⟨(some 16), none, .bin .quo (.t 15) (.c (.int .i64 2))⟩, ⟨(some 7), none, .mv (.t 16)⟩])
  (.seq (.draw [⟨(some 17), none, .mv (.t 0)⟩, ⟨(some 18), none, .mv (.t 7)⟩, ⟨(some 19), none, .idxS 6 (.t 17) (.t 18)⟩, ⟨(some 20), none, .load true 6 (.t 19)⟩, ⟨(some 21), none, .load true 6 (.t 3)⟩, ⟨(some 22), none, .pcall (.c (.fn (.func 170) [] [])) [(.t 20), (.t 21)]⟩])
  (.cond (.t 22) (.ops [⟨(some 23), none, .mv (.t 7)⟩, ⟨(some 24), none, .bin .add (.t 23) (.c (.int .i64 1))⟩, ⟨(some 5), none, .mv (.t 24)⟩]) (.ops [⟨(some 25), none, .mv (.t 7)⟩, ⟨(some 6), none, .mv (.t 25)⟩]))))))
def k160 : KC := (.seq (.ops [⟨(some 3), none, .box true (.t 1)⟩, ⟨(some 4), none, .mv (.c (.int .i64 0))⟩])
  (.seq (.ops [⟨(some 8), none, .mv (.t 0)⟩, ⟨(some 9), none, .len false (.t 8)⟩, ⟨(some 5), none, .mv (.c (.int .i64 0))⟩, ⟨(some 6), none, .mv (.t 9)⟩])
  (.seq (.block 0 (.loop k160_b0))
  (.seq (.seq (.draw [⟨(some 26), none, .mv (.t 5)⟩, ⟨(some 27), none, .mv (.t 0)⟩, ⟨(some 28), none, .len false (.t 27)⟩, ⟨(some 29), none, .bin .lss (.t 26) (.t 28)⟩, ⟨(some 30), none, .mv (.t 29)⟩, ⟨(some 31), some (30, true), .mv (.t 0)⟩, ⟨(some 32), some (30, true), .mv (.t 5)⟩, ⟨(some 33), some (30, true), .idxS 6 (.t 31) (.t 32)⟩, ⟨(some 34), some (30, true), .load true 6 (.t 33)⟩, ⟨(some 35), some (30, true), .load true 6 (.t 3)⟩, ⟨(some 36), some (30, true), .aeq false 6 (.t 34) (.t 35)⟩, ⟨(some 37), none, .pick (.t 30) (.t 36) (.c (.bool false))⟩])
  (.cond (.t 37) (.seq (.ops [⟨(some 38), none, .mv (.t 5)⟩, ⟨(some 4), none, .mv (.t 38)⟩])
  .ret) .skip))
  (.seq (.ops [⟨(some 4), none, .mv (.c (.int .i64 (-1)))⟩])
  .ret)))))
theorem e160 {args : List PV} {σ : Heap} {K : PV → Heap → Prop} (hl : args.length ≤ 39) (h : Wf σ → (∀ a ∈ args, PV.upto σ.length a) → vc (mkCfg Tryz.prog mixed [3] 39 σ.length) k160 (FinK σ.length [.t 4] K) (argEnv 0 args) σ) : ACall Tryz.prog 160 args σ K :=
  ACall_enter (C := mkCfg Tryz.prog mixed [3] 39 σ.length) (c := Tryz.f160.body.getD .skip) Tryz.func160 (by kernel_rfl) (by kernel_rfl) (by kernel_rfl) rfl hl (by kernel_rfl) (by kernel_rfl) h
/- spec.l01Put -/
/- live [0, 3, 5, 6, 32, 33, 34, 35, 36, 37] -/
def k159_b0 : KC := (.seq (.seq (.ops [⟨(some 11), none, .mv (.t 5)⟩, ⟨(some 12), none, .mv (.t 6)⟩, ⟨(some 13), none, .bin .lss (.t 11) (.t 12)⟩])
  (.cond (.t 13) .skip (.exit 0)))
  (.block 1 (.seq (.ops [⟨(some 14), none, .mv (.t 5)⟩, ⟨(some 15), none, .mv (.t 6)⟩, ⟨(some 16), none, .bin .add (.t 14) (.t 15)⟩, ⟨(some 17), none, .bin .quo (.t 16) (.c (.int .i64 2))⟩, ⟨(some 7), none, .mv (.t 17)⟩])
  (.seq (.draw [⟨(some 18), none, .mv (.t 0)⟩, ⟨(some 19), none, .mv (.t 7)⟩, ⟨(some 20), none, .idxS 6 (.t 18) (.t 19)⟩, ⟨(some 21), none, .load true 6 (.t 20)⟩, ⟨(some 22), none, .load true 6 (.t 3)⟩, ⟨(some 23), none, .pcall (.c (.fn (.func 170) [] [])) [(.t 21), (.t 22)]⟩])
  (.cond (.t 23) (.ops [⟨(some 24), none, .mv (.t 7)⟩, ⟨(some 25), none, .bin .add (.t 24) (.c (.int .i64 1))⟩, ⟨(some 5), none, .mv (.t 25)⟩]) (.ops [⟨(some 26), none, .mv (.t 7)⟩, ⟨(some 6), none, .mv (.t 26)⟩]))))))
def k159 : KC := (.seq (.ops [⟨(some 3), none, .box true (.t 1)⟩, ⟨(some 4), none, .mv (.c (.nils))⟩])
  (.seq (.ops [⟨(some 9), none, .mv (.t 0)⟩, ⟨(some 10), none, .len false (.t 9)⟩, ⟨(some 5), none, .mv (.c (.int .i64 0))⟩, ⟨(some 6), none, .mv (.t 10)⟩])
  (.seq (.block 0 (.loop k159_b0))
  (.seq (.seq (.draw [⟨(some 27), none, .mv (.t 5)⟩, ⟨(some 28), none, .mv (.t 0)⟩, ⟨(some 29), none, .len false (.t 28)⟩, ⟨(some 30), none, .bin .lss (.t 27) (.t 29)⟩, ⟨(some 31), none, .mv (.t 30)⟩, ⟨(some 32), some (31, true), .mv (.t 0)⟩, ⟨(some 33), some (31, true), .mv (.t 5)⟩, ⟨(some 34), some (31, true), .idxS 6 (.t 32) (.t 33)⟩, ⟨(some 35), some (31, true), .load true 6 (.t 34)⟩, ⟨(some 36), some (31, true), .load true 6 (.t 3)⟩, ⟨(some 37), some (31, true), .aeq false 6 (.t 35) (.t 36)⟩, ⟨(some 38), none, .pick (.t 31) (.t 37) (.c (.bool false))⟩])
  (.cond (.t 38) (.seq (.ops [⟨(some 39), none, .mv (.t 0)⟩, ⟨(some 4), none, .mv (.t 39)⟩])
  .ret) .skip))
  (.seq (.tree (.op ⟨(some 41), none, .mv (.t 0)⟩ (.op ⟨(some 42), none, .mv (.t 5)⟩ (.alt (.op ⟨(some 40), none, .bsl false 34 6 []⟩ (.alt (.op ⟨(some 43), none, .sls 6 (.t 41) none (some (.t 42))⟩ (.alt (.op ⟨(some 44), none, .app (.t 40) (.t 43) 34 6⟩ (.op ⟨(some 45), none, .load true 6 (.t 3)⟩ (.op ⟨(some 46), none, .bsl true 34 6 [(.t 45)]⟩ (.op ⟨(some 47), none, .app (.t 44) (.t 46) 34 6⟩ (.op ⟨(some 8), none, .mv (.t 47)⟩ .fin))))) (.op ⟨(some 45), none, .load true 6 (.t 3)⟩ (.alt (.op ⟨(some 44), none, .app (.t 40) (.t 43) 34 6⟩ (.op ⟨(some 46), none, .bsl true 34 6 [(.t 45)]⟩ (.op ⟨(some 47), none, .app (.t 44) (.t 46) 34 6⟩ (.op ⟨(some 8), none, .mv (.t 47)⟩ .fin)))) (.op ⟨(some 46), none, .bsl true 34 6 [(.t 45)]⟩ (.op ⟨(some 44), none, .app (.t 40) (.t 43) 34 6⟩ (.op ⟨(some 47), none, .app (.t 44) (.t 46) 34 6⟩ (.op ⟨(some 8), none, .mv (.t 47)⟩ .fin)))))))) (.op ⟨(some 45), none, .load true 6 (.t 3)⟩ (.alt (.op ⟨(some 43), none, .sls 6 (.t 41) none (some (.t 42))⟩ (.alt (.op ⟨(some 44), none, .app (.t 40) (.t 43) 34 6⟩ (.op ⟨(some 46), none, .bsl true 34 6 [(.t 45)]⟩ (.op ⟨(some 47), none, .app (.t 44) (.t 46) 34 6⟩ (.op ⟨(some 8), none, .mv (.t 47)⟩ .fin)))) (.op ⟨(some 46), none, .bsl true 34 6 [(.t 45)]⟩ (.op ⟨(some 44), none, .app (.t 40) (.t 43) 34 6⟩ (.op ⟨(some 47), none, .app (.t 44) (.t 46) 34 6⟩ (.op ⟨(some 8), none, .mv (.t 47)⟩ .fin)))))) (.op ⟨(some 46), none, .bsl true 34 6 [(.t 45)]⟩ (.op ⟨(some 43), none, .sls 6 (.t 41) none (some (.t 42))⟩ (.op ⟨(some 44), none, .app (.t 40) (.t 43) 34 6⟩ (.op ⟨(some 47), none, .app (.t 44) (.t 46) 34 6⟩ (.op ⟨(some 8), none, .mv (.t 47)⟩ .fin))))))))) (.alt (.op ⟨(some 43), none, .sls 6 (.t 41) none (some (.t 42))⟩ (.alt (.op ⟨(some 40), none, .bsl false 34 6 []⟩ (.alt (.op ⟨(some 44), none, .app (.t 40) (.t 43) 34 6⟩ (.op ⟨(some 45), none, .load true 6 (.t 3)⟩ (.op ⟨(some 46), none, .bsl true 34 6 [(.t 45)]⟩ (.op ⟨(some 47), none, .app (.t 44) (.t 46) 34 6⟩ (.op ⟨(some 8), none, .mv (.t 47)⟩ .fin))))) (.op ⟨(some 45), none, .load true 6 (.t 3)⟩ (.alt (.op ⟨(some 44), none, .app (.t 40) (.t 43) 34 6⟩ (.op ⟨(some 46), none, .bsl true 34 6 [(.t 45)]⟩ (.op ⟨(some 47), none, .app (.t 44) (.t 46) 34 6⟩ (.op ⟨(some 8), none, .mv (.t 47)⟩ .fin)))) (.op ⟨(some 46), none, .bsl true 34 6 [(.t 45)]⟩ (.op ⟨(some 44), none, .app (.t 40) (.t 43) 34 6⟩ (.op ⟨(some 47), none, .app (.t 44) (.t 46) 34 6⟩ (.op ⟨(some 8), none, .mv (.t 47)⟩ .fin)))))))) (.op ⟨(some 45), none, .load true 6 (.t 3)⟩ (.alt (.op ⟨(some 40), none, .bsl false 34 6 []⟩ (.alt (.op ⟨(some 44), none, .app (.t 40) (.t 43) 34 6⟩ (.op ⟨(some 46), none, .bsl true 34 6 [(.t 45)]⟩ (.op ⟨(some 47), none, .app (.t 44) (.t 46) 34 6⟩ (.op ⟨(some 8), none, .mv (.t 47)⟩ .fin)))) (.op ⟨(some 46), none, .bsl true 34 6 [(.t 45)]⟩ (.op ⟨(some 44), none, .app (.t 40) (.t 43) 34 6⟩ (.op ⟨(some 47), none, .app (.t 44) (.t 46) 34 6⟩ (.op ⟨(some 8), none, .mv (.t 47)⟩ .fin)))))) (.op ⟨(some 46), none, .bsl true 34 6 [(.t 45)]⟩ (.op ⟨(some 40), none, .bsl false 34 6 []⟩ (.op ⟨(some 44), none, .app (.t 40) (.t 43) 34 6⟩ (.op ⟨(some 47), none, .app (.t 44) (.t 46) 34 6⟩ (.op ⟨(some 8), none, .mv (.t 47)⟩ .fin))))))))) (.op ⟨(some 45), none, .load true 6 (.t 3)⟩ (.alt (.op ⟨(some 40), none, .bsl false 34 6 []⟩ (.alt (.op ⟨(some 43), none, .sls 6 (.t 41) none (some (.t 42))⟩ (.alt (.op ⟨(some 44), none, .app (.t 40) (.t 43) 34 6⟩ (.op ⟨(some 46), none, .bsl true 34 6 [(.t 45)]⟩ (.op ⟨(some 47), none, .app (.t 44) (.t 46) 34 6⟩ (.op ⟨(some 8), none, .mv (.t 47)⟩ .fin)))) (.op ⟨(some 46), none, .bsl true 34 6 [(.t 45)]⟩ (.op ⟨(some 44), none, .app (.t 40) (.t 43) 34 6⟩ (.op ⟨(some 47), none, .app (.t 44) (.t 46) 34 6⟩ (.op ⟨(some 8), none, .mv (.t 47)⟩ .fin)))))) (.op ⟨(some 46), none, .bsl true 34 6 [(.t 45)]⟩ (.op ⟨(some 43), none, .sls 6 (.t 41) none (some (.t 42))⟩ (.op ⟨(some 44), none, .app (.t 40) (.t 43) 34 6⟩ (.op ⟨(some 47), none, .app (.t 44) (.t 46) 34 6⟩ (.op ⟨(some 8), none, .mv (.t 47)⟩ .fin))))))) (.alt (.op ⟨(some 43), none, .sls 6 (.t 41) none (some (.t 42))⟩ (.alt (.op ⟨(some 40), none, .bsl false 34 6 []⟩ (.alt (.op ⟨(some 44), none, .app (.t 40) (.t 43) 34 6⟩ (.op ⟨(some 46), none, .bsl true 34 6 [(.t 45)]⟩ (.op ⟨(some 47), none, .app (.t 44) (.t 46) 34 6⟩ (.op ⟨(some 8), none, .mv (.t 47)⟩ .fin)))) (.op ⟨(some 46), none, .bsl true 34 6 [(.t 45)]⟩ (.op ⟨(some 44), none, .app (.t 40) (.t 43) 34 6⟩ (.op ⟨(some 47), none, .app (.t 44) (.t 46) 34 6⟩ (.op ⟨(some 8), none, .mv (.t 47)⟩ .fin)))))) (.op ⟨(some 46), none, .bsl true 34 6 [(.t 45)]⟩ (.op ⟨(some 40), none, .bsl false 34 6 []⟩ (.op ⟨(some 44), none, .app (.t 40) (.t 43) 34 6⟩ (.op ⟨(some 47), none, .app (.t 44) (.t 46) 34 6⟩ (.op ⟨(some 8), none, .mv (.t 47)⟩ .fin))))))) (.op ⟨(some 46), none, .bsl true 34 6 [(.t 45)]⟩ (.alt (.op ⟨(some 40), none, .bsl false 34 6 []⟩ (.op ⟨(some 43), none, .sls 6 (.t 41) none (some (.t 42))⟩ (.op ⟨(some 44), none, .app (.t 40) (.t 43) 34 6⟩ (.op ⟨(some 47), none, .app (.t 44) (.t 46) 34 6⟩ (.op ⟨(some 8), none, .mv (.t 47)⟩ .fin))))) (.op ⟨(some 43), none, .sls 6 (.t 41) none (some (.t 42))⟩ (.op ⟨(some 40), none, .bsl false 34 6 []⟩ (.op ⟨(some 44), none, .app (.t 40) (.t 43) 34 6⟩ (.op ⟨(some 47), none, .app (.t 44) (.t 46) 34 6⟩ (.op ⟨(some 8), none, .mv (.t 47)⟩ .fin)))))))))))))))
  (.seq (.ops [⟨(some 48), none, .mv (.t 8)⟩, ⟨(some 49), none, .mv (.t 0)⟩, ⟨(some 50), none, .mv (.t 5)⟩, ⟨(some 51), none, .sls 6 (.t 49) (some (.t 50)) none⟩, ⟨(some 52), none, .app (.t 48) (.t 51) 34 6⟩, ⟨(some 4), none, .mv (.t 52)⟩])
  .ret))))))
theorem e159 {args : List PV} {σ : Heap} {K : PV → Heap → Prop} (hl : args.length ≤ 53) (h : Wf σ → (∀ a ∈ args, PV.upto σ.length a) → vc (mkCfg Tryz.prog mixed [3, 46] 53 σ.length) k159 (FinK σ.length [.t 4] K) (argEnv 0 args) σ) : ACall Tryz.prog 159 args σ K :=
  ACall_enter (C := mkCfg Tryz.prog mixed [3, 46] 53 σ.length) (c := Tryz.f159.body.getD .skip) Tryz.func159 (by kernel_rfl) (by kernel_rfl) (by kernel_rfl) rfl hl (by kernel_rfl) (by kernel_rfl) h
end Go.Proofs.YtpfapiiinkkcgaaGreat
namespace Go.Proofs.YtpfapiiinkkcgaaGreat
open Go.Kv
set_option linter.unusedVariables false
set_option linter.unusedSimpArgs false
attribute [local irreducible] ACall PCall KL
/-- Maps in ascending order. -/
def SrM (n : Nat) (S : List (List Nat)) : Prop := (∀ f ∈ S, Ok f n) ∧ S.Pairwise (fun a b => nbl n a < nbl n b)
/-- How many come ahead of a map. -/
def loM (n : Nat) (S : List (List Nat)) (f : List Nat) : Nat := (S.takeWhile fun x => decide (nbl n x < nbl n f)).length
theorem loM_le (n : Nat) (S : List (List Nat)) (f : List Nat) : loM n S f ≤ S.length := by
  unfold loM
  exact (List.takeWhile_sublist _).length_le
theorem loM_iff {n : Nat} : ∀ {S : List (List Nat)} (f : List Nat), S.Pairwise (fun a b => nbl n a < nbl n b) → ∀ i (h : i < S.length), nbl n S[i] < nbl n f ↔ i < loM n S f
  | [], f, _, i, h => by simp at h
  | a :: S, f, hp, i, h => by
    rw [List.pairwise_cons] at hp
    unfold loM
    rw [List.takeWhile_cons]
    by_cases ha : nbl n a < nbl n f
    · rw [if_pos (by simpa using ha), List.length_cons]
      cases i with
      | zero => simp [ha]
      | succ i =>
        have := loM_iff f hp.2 i (by simpa using h)
        simp only [List.getElem_cons_succ]
        rw [this]; unfold loM; omega
    · rw [if_neg (by simpa using ha)]
      simp only [List.length_nil, Nat.not_lt_zero, iff_false]
      cases i with
      | zero => exact ha
      | succ i =>
        have := hp.1 _ (List.getElem_mem (by simpa using h : i < S.length))
        simp only [List.getElem_cons_succ]
        omega
theorem p160 (n : Nat) (S : List (List Nat)) (hS : SrM n S) (hl : S.length ≤ 100000) (f : List Nat) (hf : Ok f n) : Pure Tryz.prog 160 [.list (aggs (S.map mp)), .agg (ints (mp f))] (.int .i64 (if loM n S f < S.length ∧ S.getD (loM n S f) [] = f then loM n S f else -1)) := by
  have hlf := hf.mp_len
  have hle := loM_le n S f
  refine e160 (by simp) fun _ _ => ?_
  simp only [k160, argEnv, hlf, take6, List.drop_zero, Int.cast_ofNat_Int, go_sem, ↓reduceIte, Nat.reduceEqDiff, Nat.reduceAdd, Nat.reduceMul, Nat.reduceLeDiff, Nat.reduceLT, Int.reduceLE, Int.reduceLT, reduceCtorEq]
  try simp only [OpK_eq, HKv, hlf, aggs_length, List.length_map, take6, List.drop_zero, Int.cast_ofNat_Int, go_sem, ↓reduceIte, Nat.reduceEqDiff, Nat.reduceAdd, Nat.reduceMul, Nat.reduceLeDiff, Nat.reduceLT, Int.reduceLE, Int.reduceLT, reduceCtorEq]
  have hSl : (S.map mp).length = S.length := List.length_map _
  refine KL_ind k160_b0.eq_1 (fun y : Nat × Nat => [(0, .list (aggs (S.map mp))), (3, .fptr (ints (mp f)) 0), (5, .int .i64 y.1), (6, .int .i64 y.2), (31, .undef), (32, .undef), (33, .undef), (34, .undef), (35, .undef), (36, .undef)]) (fun _ => []) (fun y => y.1 ≤ loM n S f ∧ loM n S f ≤ y.2 ∧ y.2 ≤ S.length) (fun y => y.2 - y.1) [0, 3, 5, 6, 31, 32, 33, 34, 35, 36] (0, S.length) (by simp [keep]) rfl ⟨Nat.zero_le _, hle, Nat.le_refl _⟩ fun ⟨lw, hg⟩ ⟨h1, h2, h3⟩ ih => ?_
  simp only at h1 h2 h3
  try simp only [OpK_eq, HKv, hlf, aggs_length, List.length_map, take6, List.drop_zero, Int.cast_ofNat_Int, go_sem, ↓reduceIte, Nat.reduceEqDiff, Nat.reduceAdd, Nat.reduceMul, Nat.reduceLeDiff, Nat.reduceLT, Int.reduceLE, Int.reduceLT, reduceCtorEq]
  refine ⟨fun g1 => ?_, fun g1 => ?_⟩
  · have hm : ((lw : Int) + hg) / 2 = (((lw + hg) / 2 : Nat) : Int) := by omega
    rw [hm]
    have hmS : (lw + hg) / 2 < S.length := by omega
    have hgm : (S.map mp).getD ((lw + hg) / 2) [] = mp S[(lw + hg) / 2] := by simp [List.getD_eq_getElem?_getD, hmS]
    have hOk := hS.1 _ (List.getElem_mem hmS)
    have h6m := hOk.mp_len
    have hiff := loM_iff f hS.2 ((lw + hg) / 2) hmS
    have hlt := ltM_nbl hOk hf
    generalize (lw + hg) / 2 = m at *
    try simp only [OpK_eq, HKv, hlf, aggs_length, List.length_map, hgm, h6m, take6, List.drop_zero, Int.cast_ofNat_Int, go_sem, ↓reduceIte, Nat.reduceEqDiff, Nat.reduceAdd, Nat.reduceMul, Nat.reduceLeDiff, Nat.reduceLT, Int.reduceLE, Int.reduceLT, reduceCtorEq]
    refine ⟨by omega, by omega, by omega, by omega, fun _ => ?_⟩
    refine (p170 S[m] f n hOk hf).pgo ?_
    by_cases hb : nbl n S[m] < nbl n f
    · have e : ltM S[m] f = true := hlt.2 hb
      have := hiff.1 hb
      rw [e]
      try simp only [OpK_eq, HKv, take6, List.drop_zero, Int.cast_ofNat_Int, go_sem, ↓reduceIte, Nat.reduceEqDiff, Nat.reduceAdd, Nat.reduceMul, Nat.reduceLeDiff, Nat.reduceLT, Int.reduceLE, Int.reduceLT, reduceCtorEq]
      exact ⟨by omega, ih (m + 1, hg) ⟨by show m + 1 ≤ loM n S f; omega, h2, h3⟩ (by show hg - (m + 1) < hg - lw; omega) _ _ (by simp [keep]) rfl⟩
    · have e : ltM S[m] f = false := by
        cases hc : ltM S[m] f with
        | true => exact absurd (hlt.1 hc) hb
        | false => rfl
      have : ¬ m < loM n S f := fun h => hb (hiff.2 h)
      rw [e]
      try simp only [OpK_eq, HKv, take6, List.drop_zero, Int.cast_ofNat_Int, go_sem, ↓reduceIte, Nat.reduceEqDiff, Nat.reduceAdd, Nat.reduceMul, Nat.reduceLeDiff, Nat.reduceLT, Int.reduceLE, Int.reduceLT, reduceCtorEq]
      exact ih (lw, m) ⟨h1, by show loM n S f ≤ m; omega, by show m ≤ S.length; omega⟩ (by show m - lw < hg - lw; omega) _ _ (by simp [keep]) rfl
  · obtain rfl : lw = loM n S f := by omega
    by_cases hlo : loM n S f < S.length
    · have hgm : (S.map mp).getD (loM n S f) [] = mp S[loM n S f] := by simp [List.getD_eq_getElem?_getD, hlo]
      have hgs : S.getD (loM n S f) [] = S[loM n S f] := by simp [List.getD_eq_getElem?_getD, hlo]
      have hOk := hS.1 _ (List.getElem_mem hlo)
      have h6m := hOk.mp_len
      rw [hgm, hgs, take6 h6m]
      refine ⟨fun _ => ⟨by omega, fun _ => ⟨h6m, by omega, h6m, fun he => Kv.Fin.still ⟨?_, rfl⟩, fun he => Kv.Fin.still ⟨?_, rfl⟩⟩⟩, fun h => absurd hlo (by omega)⟩
      · rw [if_pos ⟨hlo, mp_inj he⟩]
      · rw [if_neg (fun h => he (by rw [h.2]))]
    · refine ⟨fun h => absurd (by omega) hlo, fun _ => Kv.Fin.still ⟨by rw [if_neg (fun h => hlo h.1)], rfl⟩⟩
theorem ok6' {m : List Int} (hm : m.length = 6) : okL 6 [PV.agg (ints m)] := by
  have := okL_aggs 6 [m]
  simp only [List.mem_singleton, forall_eq, hm] at this
  simpa [aggs] using this
/-- A map is put in its place. -/
def putM (n : Nat) (S : List (List Nat)) (f : List Nat) : List (List Nat) := if loM n S f < S.length ∧ S.getD (loM n S f) [] = f then S else S.take (loM n S f) ++ f :: S.drop (loM n S f)
set_option maxHeartbeats 4000000 in
theorem p159 (n : Nat) (S : List (List Nat)) (hS : SrM n S) (hl : S.length ≤ 100000) (f : List Nat) (hf : Ok f n) : Pure Tryz.prog 159 [.list (aggs (S.map mp)), .agg (ints (mp f))] (.list (aggs ((putM n S f).map mp))) := by
  have hlf := hf.mp_len
  have hle := loM_le n S f
  refine e159 (by simp) fun _ _ => ?_
  simp only [k159, argEnv, hlf, take6, List.drop_zero, Int.cast_ofNat_Int, go_sem, ↓reduceIte, Nat.reduceEqDiff, Nat.reduceAdd, Nat.reduceMul, Nat.reduceLeDiff, Nat.reduceLT, Int.reduceLE, Int.reduceLT, reduceCtorEq]
  try simp only [OpK_eq, HKv, hlf, aggs_length, List.length_map, take6, List.drop_zero, Int.cast_ofNat_Int, go_sem, ↓reduceIte, Nat.reduceEqDiff, Nat.reduceAdd, Nat.reduceMul, Nat.reduceLeDiff, Nat.reduceLT, Int.reduceLE, Int.reduceLT, reduceCtorEq]
  have hSl : (S.map mp).length = S.length := List.length_map _
  refine KL_ind k159_b0.eq_1 (fun y : Nat × Nat => [(0, .list (aggs (S.map mp))), (3, .fptr (ints (mp f)) 0), (5, .int .i64 y.1), (6, .int .i64 y.2), (32, .undef), (33, .undef), (34, .undef), (35, .undef), (36, .undef), (37, .undef)]) (fun _ => []) (fun y => y.1 ≤ loM n S f ∧ loM n S f ≤ y.2 ∧ y.2 ≤ S.length) (fun y => y.2 - y.1) [0, 3, 5, 6, 32, 33, 34, 35, 36, 37] (0, S.length) (by simp [keep]) rfl ⟨Nat.zero_le _, hle, Nat.le_refl _⟩ fun ⟨lw, hg⟩ ⟨h1, h2, h3⟩ ih => ?_
  simp only at h1 h2 h3
  try simp only [OpK_eq, HKv, hlf, aggs_length, List.length_map, take6, List.drop_zero, Int.cast_ofNat_Int, go_sem, ↓reduceIte, Nat.reduceEqDiff, Nat.reduceAdd, Nat.reduceMul, Nat.reduceLeDiff, Nat.reduceLT, Int.reduceLE, Int.reduceLT, reduceCtorEq]
  refine ⟨fun g1 => ?_, fun g1 => ?_⟩
  · have hm : ((lw : Int) + hg) / 2 = (((lw + hg) / 2 : Nat) : Int) := by omega
    rw [hm]
    have hmS : (lw + hg) / 2 < S.length := by omega
    have hgm : (S.map mp).getD ((lw + hg) / 2) [] = mp S[(lw + hg) / 2] := by simp [List.getD_eq_getElem?_getD, hmS]
    have hOk := hS.1 _ (List.getElem_mem hmS)
    have h6m := hOk.mp_len
    have hiff := loM_iff f hS.2 ((lw + hg) / 2) hmS
    have hlt := ltM_nbl hOk hf
    generalize (lw + hg) / 2 = m at *
    try simp only [OpK_eq, HKv, hlf, aggs_length, List.length_map, hgm, h6m, take6, List.drop_zero, Int.cast_ofNat_Int, go_sem, ↓reduceIte, Nat.reduceEqDiff, Nat.reduceAdd, Nat.reduceMul, Nat.reduceLeDiff, Nat.reduceLT, Int.reduceLE, Int.reduceLT, reduceCtorEq]
    refine ⟨by omega, by omega, by omega, by omega, fun _ => ?_⟩
    refine (p170 S[m] f n hOk hf).pgo ?_
    by_cases hb : nbl n S[m] < nbl n f
    · have e : ltM S[m] f = true := hlt.2 hb
      have := hiff.1 hb
      rw [e]
      try simp only [OpK_eq, HKv, take6, List.drop_zero, Int.cast_ofNat_Int, go_sem, ↓reduceIte, Nat.reduceEqDiff, Nat.reduceAdd, Nat.reduceMul, Nat.reduceLeDiff, Nat.reduceLT, Int.reduceLE, Int.reduceLT, reduceCtorEq]
      exact ⟨by omega, ih (m + 1, hg) ⟨by show m + 1 ≤ loM n S f; omega, h2, h3⟩ (by show hg - (m + 1) < hg - lw; omega) _ _ (by simp [keep]) rfl⟩
    · have e : ltM S[m] f = false := by
        cases hc : ltM S[m] f with
        | true => exact absurd (hlt.1 hc) hb
        | false => rfl
      have : ¬ m < loM n S f := fun h => hb (hiff.2 h)
      rw [e]
      try simp only [OpK_eq, HKv, take6, List.drop_zero, Int.cast_ofNat_Int, go_sem, ↓reduceIte, Nat.reduceEqDiff, Nat.reduceAdd, Nat.reduceMul, Nat.reduceLeDiff, Nat.reduceLT, Int.reduceLE, Int.reduceLT, reduceCtorEq]
      exact ih (lw, m) ⟨h1, by show loM n S f ≤ m; omega, by show m ≤ S.length; omega⟩ (by show m - lw < hg - lw; omega) _ _ (by simp [keep]) rfl
  · obtain rfl : lw = loM n S f := by omega
    have hnew : ¬ (loM n S f < S.length ∧ S.getD (loM n S f) [] = f) → putM n S f = S.take (loM n S f) ++ f :: S.drop (loM n S f) := fun h => by unfold putM; rw [if_neg h]
    generalize hlo' : loM n S f = lo at *
    by_cases hc : lo < S.length ∧ S.getD lo [] = f
    · have hgm : (S.map mp).getD lo [] = mp f := by
        have : (S.map mp).getD lo [] = mp (S.getD lo []) := by simp [List.getD_eq_getElem?_getD, hc.1]
        rw [this, hc.2]
      have hp : putM n S f = S := by unfold putM; rw [hlo', if_pos hc]
      rw [hgm, take6 hlf, hp]
      exact ⟨fun _ => ⟨by omega, fun _ => ⟨hlf, by omega, hlf, fun _ => Kv.Fin.still ⟨rfl, rfl⟩, fun h => absurd rfl h⟩⟩, fun h => absurd hc.1 (by omega)⟩
    · rw [hnew hc]
      have hS6 : ∀ r ∈ S.map mp, r.length = 6 := fun r hr => by
        obtain ⟨g, hg', rfl⟩ := List.mem_map.1 hr
        exact (hS.1 g hg').mp_len
      have hget : lo < S.length → (S.map mp).getD lo [] = mp (S.getD lo []) ∧ Ok (S.getD lo []) n := fun h => by
        have e : S.getD lo [] = S[lo] := by simp [List.getD_eq_getElem?_getD, h]
        rw [e]
        exact ⟨by simp [List.getD_eq_getElem?_getD, h], hS.1 _ (List.getElem_mem h)⟩
      have hg6 : lo < S.length → ((S.map mp).getD lo []).length = 6 := fun h => by rw [(hget h).1]; exact (hget h).2.mp_len
      have hne : lo < S.length → List.take 6 ((S.map mp).getD lo []) ≠ mp f := fun h e => by
        rw [take6 (hg6 h), (hget h).1] at e
        exact hc ⟨h, mp_inj e⟩
      obtain ⟨A, hA⟩ : ∃ A, A = (S.map mp).take lo := ⟨_, rfl⟩
      obtain ⟨B, hB⟩ : ∃ B, B = (S.map mp).drop lo := ⟨_, rfl⟩
      have a1 : List.take (lo - 0) (S.map mp) = A := by rw [Nat.sub_zero, hA]
      have a2 : List.take lo (S.map mp) = A := hA.symm
      have b1 : List.take (S.length - lo) (List.drop lo (S.map mp)) = B := by rw [hB, List.take_of_length_le (by rw [List.length_drop, List.length_map]; exact Nat.le_refl _)]
      have hAl : A.length = lo := by rw [hA, List.length_take, List.length_map]; omega
      have hBl : B.length = S.length - lo := by rw [hB, List.length_drop, List.length_map]
      have hokA : okL 6 (aggs A) := by rw [okL_aggs, hA]; exact fun r hr => hS6 r (List.mem_of_mem_take hr)
      have hokB : okL 6 (aggs B) := by rw [okL_aggs, hB]; exact fun r hr => hS6 r (List.mem_of_mem_drop hr)
      have hokS : okL 6 (aggs (S.map mp)) := by rw [okL_aggs]; exact hS6
      have hlen4 : lo + 1 + (S.length - lo) = (A ++ mp f :: B).length := by rw [List.length_append, List.length_cons]; omega
      have t0 : (List.take 0 ([] : List PV)) ++ aggs A = aggs A := rfl
      have t1 : (aggs A).take lo ++ [PV.agg (ints (mp f))] = aggs (A ++ [mp f]) := by
        rw [List.take_of_length_le (by rw [aggs_length]; omega)]; simp [aggs]
      have t2 : (aggs (A ++ [mp f])).take (lo + 1) ++ aggs B = aggs (A ++ mp f :: B) := by
        rw [List.take_of_length_le (by rw [aggs_length, List.length_append, List.length_singleton]; omega)]; simp [aggs]
      have t3 : List.take lo A = A := List.take_of_length_le (by omega)
      have t4 : List.take (lo + 1) (A ++ [mp f]) = A ++ [mp f] := List.take_of_length_le (by rw [List.length_append, List.length_singleton]; omega)
      have t5 : aggs A ++ [PV.agg (ints (mp f))] = aggs (A ++ [mp f]) := by simp [aggs]
      have t6 : aggs (A ++ [mp f]) ++ aggs B = aggs (A ++ mp f :: B) := by simp [aggs]
      have hfin : (S.take lo ++ f :: S.drop lo).map mp = A ++ mp f :: B := by rw [hA, hB, List.map_append, List.map_cons, List.map_take, List.map_drop]
      have hlen3 : (A ++ [mp f]).length = lo + 1 := by rw [List.length_append, List.length_singleton]; omega
      rw [hfin]
      clear hfin hA hB
      have hok1 := ok6' hlf
      have hil : (ints (mp f)).length = 6 := by rw [ints_length, hlf]
      repeat' (first
        | omega
        | (rw [vT_alt]; refine ⟨?_, ?_⟩)
        | exact hg6 (by omega)
        | (have h6' := hg6 (by omega); omega)
        | (rw [take6 (hg6 (by omega))]; exact hg6 (by omega))
        | exact hokA
        | exact hokS
        | exact hokB
        | exact hok1
        | (exfalso; exact hne (by omega) (by assumption))
        | (with_reducible refine And.intro ?_ ?_)
        | (with_reducible intro _)
        | (simp only [OpK_eq, HKv, a1, a2, b1, hAl, hBl, hlen3, t0, t1, t2, t3, t4, t5, t6, hlf, hil, aggs_take, aggs_drop, aggs_length, List.length_map, take6, List.drop_zero, Int.cast_ofNat_Int, go_sem, ↓reduceIte, Nat.reduceEqDiff, Nat.reduceAdd, Nat.reduceMul, Nat.reduceLeDiff, Nat.reduceLT, Int.reduceLE, Int.reduceLT, reduceCtorEq]))
      all_goals exact Kv.Fin.freeze (Imm.refa' rfl hlen4) ⟨rfl, rfl⟩
end Go.Proofs.YtpfapiiinkkcgaaGreat
end
section
/- Maps in order: plain laws, and the table of products. -/
namespace Go.Proofs.YtpfapiiinkkcgaaGreat
open Go.Kv
set_option maxRecDepth 100000
/- spec.l06Table -/
/- live [0, 3, 4, 5, 6] -/
def k103_b0 : KC := (.seq (.seq (.ops [⟨(some 15), none, .mv (.t 6)⟩, ⟨(some 16), none, .mv (.t 0)⟩, ⟨(some 17), none, .len false (.t 16)⟩, ⟨(some 18), none, .bin .lss (.t 15) (.t 17)⟩])
  (.cond (.t 18) .skip (.exit 2)))
  (.seq (.block 3 (.draw [⟨(some 21), none, .mv (.t 5)⟩, ⟨(some 22), none, .mv (.t 0)⟩, ⟨(some 23), none, .mv (.t 0)⟩, ⟨(some 24), none, .mv (.t 4)⟩, ⟨(some 25), none, .idxS 6 (.t 23) (.t 24)⟩, ⟨(some 26), none, .load true 6 (.t 25)⟩, ⟨(some 27), none, .mv (.t 0)⟩, ⟨(some 28), none, .mv (.t 6)⟩, ⟨(some 29), none, .idxS 6 (.t 27) (.t 28)⟩, ⟨(some 30), none, .load true 6 (.t 29)⟩, ⟨(some 31), none, .pcall (.c (.fn (.func 131) [] [])) [(.t 26), (.t 30)]⟩, ⟨(some 32), none, .pcall (.c (.fn (.func 160) [] [])) [(.t 22), (.t 31)]⟩, ⟨(some 33), none, .bsl true 2 1 [(.t 32)]⟩, ⟨(some 34), none, .app (.t 21) (.t 33) 2 1⟩, ⟨(some 5), none, .mv (.t 34)⟩]))
  (.ops [⟨(some 19), none, .mv (.t 6)⟩, ⟨(some 20), none, .bin .add (.t 19) (.c (.int .i64 1))⟩, ⟨(some 6), none, .mv (.t 20)⟩])))
/- live [0, 3, 4] -/
def k103_b1 : KC := (.seq (.seq (.ops [⟨(some 8), none, .mv (.t 4)⟩, ⟨(some 9), none, .mv (.t 0)⟩, ⟨(some 10), none, .len false (.t 9)⟩, ⟨(some 11), none, .bin .lss (.t 8) (.t 10)⟩])
  (.cond (.t 11) .skip (.exit 0)))
  (.seq (.block 1 (.seq (.ops [⟨(some 14), none, .bsl false 2 1 []⟩, ⟨(some 5), none, .mv (.t 14)⟩])
  (.seq (.seq (.ops [⟨(some 6), none, .mv (.c (.int .i64 0))⟩])
  (.block 2 (.loop k103_b0)))
  (.ops [⟨(some 35), none, .mv (.t 3)⟩, ⟨(some 36), none, .mv (.t 5)⟩, ⟨(some 37), none, .bsl true 25 1 [(.t 36)]⟩, ⟨(some 38), none, .app (.t 35) (.t 37) 25 1⟩, ⟨(some 3), none, .mv (.t 38)⟩]))))
  (.ops [⟨(some 12), none, .mv (.t 4)⟩, ⟨(some 13), none, .bin .add (.t 12) (.c (.int .i64 1))⟩, ⟨(some 4), none, .mv (.t 13)⟩])))
def k103 : KC := (.seq (.ops [⟨(some 2), none, .mv (.c (.nils))⟩])
  (.seq (.ops [⟨(some 7), none, .bsl false 25 1 []⟩, ⟨(some 3), none, .mv (.t 7)⟩])
  (.seq (.seq (.ops [⟨(some 4), none, .mv (.c (.int .i64 0))⟩])
  (.block 0 (.loop k103_b1)))
  (.seq (.ops [⟨(some 39), none, .mv (.t 3)⟩, ⟨(some 2), none, .mv (.t 39)⟩])
  .ret))))
theorem e103 {args : List PV} {σ : Heap} {K : PV → Heap → Prop} (hl : args.length ≤ 40) (h : Wf σ → (∀ a ∈ args, PV.upto σ.length a) → vc (mkCfg Tryz.prog mixed [33, 37] 40 σ.length) k103 (FinK σ.length [.t 2] K) (argEnv 0 args) σ) : ACall Tryz.prog 103 args σ K :=
  ACall_enter (C := mkCfg Tryz.prog mixed [33, 37] 40 σ.length) (c := Tryz.f103.body.getD .skip) Tryz.func103 (by kernel_rfl) (by kernel_rfl) (by kernel_rfl) rfl hl (by kernel_rfl) (by kernel_rfl) h
end Go.Proofs.YtpfapiiinkkcgaaGreat
namespace Go.Proofs.YtpfapiiinkkcgaaGreat
open Go.Kv
set_option linter.unusedVariables false
set_option linter.unusedSimpArgs false
attribute [local irreducible] ACall PCall KL
theorem lo_mem {n : Nat} {S : List (List Nat)} (hS : SrM n S) {f : List Nat} (hf : Ok f n) : (loM n S f < S.length ∧ S.getD (loM n S f) [] = f) ↔ f ∈ S := by
  constructor
  · rintro ⟨h1, h2⟩
    rw [← h2, List.getD_eq_getElem?_getD, List.getElem?_eq_getElem h1]
    exact List.getElem_mem _
  · intro h
    obtain ⟨i, hi, e⟩ := List.getElem_of_mem h
    have hle := loM_le n S f
    have h1 : ¬ i < loM n S f := fun hh => by
      have := (loM_iff f hS.2 i hi).2 hh
      rw [e] at this; omega
    have hlo : loM n S f < S.length := by omega
    have h2 : ¬ nbl n S[loM n S f] < nbl n f := fun hh => by
      have := (loM_iff f hS.2 _ hlo).1 hh
      omega
    have h3 : loM n S f = i := by
      refine Classical.byContradiction fun hne => ?_
      have := List.pairwise_iff_getElem.1 hS.2 (loM n S f) i hlo hi (by omega)
      rw [e] at this
      exact h2 this
    refine ⟨hlo, ?_⟩
    rw [List.getD_eq_getElem?_getD, List.getElem?_eq_getElem hlo]
    simp only [h3, Option.getD_some]
    exact e
theorem putM_mem {n : Nat} {S : List (List Nat)} (hS : SrM n S) {f : List Nat} (hf : Ok f n) {x : List Nat} : x ∈ putM n S f ↔ x = f ∨ x ∈ S := by
  unfold putM
  split
  · rename_i h
    have := (lo_mem hS hf).1 h
    exact ⟨fun h => .inr h, fun h => by rcases h with rfl | h <;> assumption⟩
  · rw [List.mem_append, List.mem_cons]
    constructor
    · rintro (h | h | h)
      · exact .inr (List.mem_of_mem_take h)
      · exact .inl h
      · exact .inr (List.mem_of_mem_drop h)
    · rintro (h | h)
      · exact .inr (.inl h)
      · rw [← List.take_append_drop (loM n S f) S, List.mem_append] at h
        rcases h with h | h
        · exact .inl h
        · exact .inr (.inr h)
theorem putM_srm {n : Nat} {S : List (List Nat)} (hS : SrM n S) {f : List Nat} (hf : Ok f n) : SrM n (putM n S f) := by
  refine ⟨fun g hg => ?_, ?_⟩
  · rcases (putM_mem hS hf).1 hg with rfl | hg
    · exact hf
    · exact hS.1 g hg
  · unfold putM
    split
    · exact hS.2
    · rename_i hno
      have hnm : f ∉ S := fun h => hno ((lo_mem hS hf).2 h)
      have hle := loM_le n S f
      have hfr : ∀ x ∈ S.take (loM n S f), nbl n x < nbl n f := fun x hx => by
        obtain ⟨i, hi, rfl⟩ := List.getElem_of_mem hx
        rw [List.length_take] at hi
        rw [List.getElem_take]
        exact (loM_iff f hS.2 i (by omega)).2 (by omega)
      have hbk : ∀ x ∈ S.drop (loM n S f), nbl n f < nbl n x := fun x hx => by
        obtain ⟨i, hi, rfl⟩ := List.getElem_of_mem hx
        rw [List.length_drop] at hi
        rw [List.getElem_drop]
        have h1 : ¬ nbl n S[loM n S f + i] < nbl n f := fun hh => by
          have := (loM_iff f hS.2 _ (by omega)).1 hh
          omega
        have h2 : nbl n S[loM n S f + i] ≠ nbl n f := fun hh => hnm (by
          rw [← nbl_inj (hS.1 _ (List.getElem_mem (by omega))) hf hh]
          exact List.getElem_mem _)
        omega
      rw [List.pairwise_append, List.pairwise_cons]
      refine ⟨hS.2.sublist (List.take_sublist _ _), ⟨hbk, hS.2.sublist (List.drop_sublist _ _)⟩, fun a ha b hb => ?_⟩
      have h1 := hfr a ha
      rcases List.mem_cons.1 hb with rfl | hb
      · exact h1
      · have := hbk b hb; omega
theorem putM_len {n : Nat} {S : List (List Nat)} (f : List Nat) : (putM n S f).length ≤ S.length + 1 := by
  have hle := loM_le n S f
  unfold putM
  split
  · omega
  · rw [List.length_append, List.length_cons, List.length_take, List.length_drop]; omega
/-- The place of a map, or -1. -/
def plM (n : Nat) (S : List (List Nat)) (f : List Nat) : Int := if loM n S f < S.length ∧ S.getD (loM n S f) [] = f then loM n S f else -1
/-- The table of products. -/
def rowM (n : Nat) (S : List (List Nat)) (f : List Nat) : List Int := S.map fun g => plM n S (mul f g)
def tabM (n : Nat) (S : List (List Nat)) : List (List Int) := S.map fun f => rowM n S f
theorem p103o (n : Nat) (S : List (List Nat)) (hS : SrM n S) (hl : S.length ≤ 1000) : ACall Tryz.prog 103 [.list (aggs (S.map mp))] [] fun v s => TabN 25 2 s v (tabM n S) ∧ Free s := by
  refine e103 (by simp) fun _ _ => ?_
  simp only [k103, argEnv, take6, List.drop_zero, Int.cast_ofNat_Int, go_sem, ↓reduceIte, Nat.reduceEqDiff, Nat.reduceAdd, Nat.reduceMul, Nat.reduceLeDiff, Nat.reduceLT, Int.reduceLE, Int.reduceLT, reduceCtorEq]
  have hS6 : ∀ i, i < S.length → (S.map mp).getD i [] = mp (S.getD i []) ∧ Ok (S.getD i []) n := fun i h => by
    have e : S.getD i [] = S[i] := by simp [List.getD_eq_getElem?_getD, h]
    rw [e]
    exact ⟨by simp [List.getD_eq_getElem?_getD, h], hS.1 _ (List.getElem_mem h)⟩
  refine KL_ind k103_b1.eq_1 (fun y : Nat × PV × Heap => [(0, .list (aggs (S.map mp))), (3, y.2.1), (4, .int .i64 y.1)]) (fun y => y.2.2) (fun y => y.1 ≤ S.length ∧ TabN 25 2 y.2.2 y.2.1 ((tabM n S).take y.1) ∧ Free y.2.2) (fun y => S.length - y.1) [0, 3, 4] (0, .ref 0 0 0 0, [.arr 0 25 1 []]) (by simp [keep]) rfl ⟨Nat.zero_le _, by rw [List.take_zero]; exact TabN.empty, Free.empty _ _ _⟩ fun ⟨x, v, σ⟩ ⟨hx, hT, hF⟩ ih => ?_
  simp only at hx hT hF
  try simp only [OpK_eq, HKv, aggs_length, List.length_map, take6, List.drop_zero, Int.cast_ofNat_Int, go_sem, ↓reduceIte, Nat.reduceEqDiff, Nat.reduceAdd, Nat.reduceMul, Nat.reduceLeDiff, Nat.reduceLT, Int.reduceLE, Int.reduceLT, reduceCtorEq]
  refine ⟨fun g1 => ?_, fun g1 => ?_⟩
  · have hxl : x < S.length := by omega
    obtain ⟨e1, o1⟩ := hS6 x hxl
    have h61 := o1.mp_len
    have hrl : (rowM n S (S.getD x [])).length = S.length := List.length_map _
    have hself : ∀ a : AObj, (σ ++ [a])[σ.length]? = some a := fun a => by simp
    have hset : ∀ a b : AObj, (σ ++ [a]).set σ.length b = σ ++ [b] := fun a b => by simp [List.set_append_right]
    refine KL_ind k103_b0.eq_1 (fun y : Nat => [(0, .list (aggs (S.map mp))), (3, v), (4, .int .i64 x), (5, .ref σ.length y 0 y), (6, .int .i64 y)]) (fun y => σ ++ [.arr y 2 1 (ints ((rowM n S (S.getD x [])).take y))]) (fun y => y ≤ S.length) (fun y => S.length - y) [0, 3, 4, 5, 6] 0 (by simp [keep]) rfl (Nat.zero_le _) fun y hy ihy => ?_
    have htl : ((rowM n S (S.getD x [])).take y).length = y := by rw [List.length_take]; omega
    try simp only [OpK_eq, HKv, aggs_length, List.length_map, e1, h61, take6, List.drop_zero, Int.cast_ofNat_Int, go_sem, ↓reduceIte, Nat.reduceEqDiff, Nat.reduceAdd, Nat.reduceMul, Nat.reduceLeDiff, Nat.reduceLT, Int.reduceLE, Int.reduceLT, reduceCtorEq]
    refine ⟨fun g2 => ?_, fun g2 => ?_⟩
    · have hyl : y < S.length := by omega
      obtain ⟨e2, o2⟩ := hS6 y hyl
      have h62 := o2.mp_len
      try simp only [OpK_eq, HKv, aggs_length, List.length_map, e1, h61, e2, h62, hself, hset, take6, List.drop_zero, Int.cast_ofNat_Int, go_sem, ↓reduceIte, Nat.reduceEqDiff, Nat.reduceAdd, Nat.reduceMul, Nat.reduceLeDiff, Nat.reduceLT, Int.reduceLE, Int.reduceLT, reduceCtorEq]
      refine ⟨by omega, fun _ => ⟨by omega, fun _ => ?_⟩⟩
      refine (p131 _ _ n o1 o2).pgo ?_
      have hFd := p160 n S hS (by omega) (mul (S.getD x []) (S.getD y [])) (o1.mul o2)
      have hpl : (if loM n S (mul (S.getD x []) (S.getD y [])) < S.length ∧ S.getD (loM n S (mul (S.getD x []) (S.getD y []))) [] = mul (S.getD x []) (S.getD y []) then (loM n S (mul (S.getD x []) (S.getD y [])) : Int) else -1) = plM n S (mul (S.getD x []) (S.getD y [])) := rfl
      rw [hpl] at hFd
      try simp only [OpK_eq, HKv, take6, List.drop_zero, Int.cast_ofNat_Int, go_sem, ↓reduceIte, Nat.reduceEqDiff, Nat.reduceAdd, Nat.reduceMul, Nat.reduceLeDiff, Nat.reduceLT, Int.reduceLE, Int.reduceLT, reduceCtorEq]
      refine hFd.pgo ?_
      have hts : (rowM n S (S.getD x [])).take (y + 1) = (rowM n S (S.getD x [])).take y ++ [plM n S (mul (S.getD x []) (S.getD y []))] := by
        have hyr : y < (rowM n S (S.getD x [])).length := by omega
        rw [List.take_succ_eq_append_getElem hyr]
        have : (rowM n S (S.getD x []))[y] = plM n S (mul (S.getD x []) S[y]) := by simp [rowM]
        rw [this]
        simp [List.getD_eq_getElem?_getD, hyl]
      have ht2 : List.take y ((rowM n S (S.getD x [])).take y) = (rowM n S (S.getD x [])).take y := List.take_of_length_le (by omega)
      try simp only [OpK_eq, HKv, hself, hset, htl, ht2, take6, List.drop_zero, Int.cast_ofNat_Int, go_sem, ↓reduceIte, Nat.reduceEqDiff, Nat.reduceAdd, Nat.reduceMul, Nat.reduceLeDiff, Nat.reduceLT, Int.reduceLE, Int.reduceLT, reduceCtorEq]
      refine ⟨⟨by omega, by omega⟩, by omega, ihy (y + 1) (by omega) (by omega) _ _ (by simp [keep]) ?_⟩
      rw [hts]
    · obtain rfl : y = S.length := by omega
      have htx : (tabM n S).take (x + 1) = (tabM n S).take x ++ [rowM n S (S.getD x [])] := by
        have hxt : x < (tabM n S).length := by rw [tabM, List.length_map]; exact hxl
        rw [List.take_succ_eq_append_getElem hxt]
        have : (tabM n S)[x] = rowM n S S[x] := by simp [tabM]
        rw [this]
        simp [List.getD_eq_getElem?_getD, hxl]
      rw [List.take_of_length_le (by omega : (rowM n S (S.getD x [])).length ≤ S.length)]
      refine hT.pushRow hF (rowM n S (S.getD x [])) (by omega) (by rw [List.length_take]; omega) fun v' σ' q1 q2 => ?_
      try simp only [OpK_eq, HKv, take6, List.drop_zero, Int.cast_ofNat_Int, go_sem, ↓reduceIte, Nat.reduceEqDiff, Nat.reduceAdd, Nat.reduceMul, Nat.reduceLeDiff, Nat.reduceLT, Int.reduceLE, Int.reduceLT, reduceCtorEq]
      exact ⟨by omega, ih (x + 1, v', σ') ⟨by show x + 1 ≤ S.length; omega, by show TabN _ _ σ' v' ((tabM n S).take (x + 1)); rw [htx]; exact q1, q2⟩ (by show S.length - (x + 1) < S.length - x; omega) _ _ (by simp [keep]) rfl⟩
  · obtain rfl : x = S.length := by omega
    rw [List.take_of_length_le (by rw [tabM, List.length_map]; exact Nat.le_refl _)] at hT
    try simp only [OpK_eq, HKv, take6, List.drop_zero, Int.cast_ofNat_Int, go_sem, ↓reduceIte, Nat.reduceEqDiff, Nat.reduceAdd, Nat.reduceMul, Nat.reduceLeDiff, Nat.reduceLT, Int.reduceLE, Int.reduceLT, reduceCtorEq]
    exact Kv.Fin.now ⟨hT, hF⟩
theorem p103 (n : Nat) (S : List (List Nat)) (hS : SrM n S) (hl : S.length ≤ 1000) : Pure Tryz.prog 103 [.list (aggs (S.map mp))] (.list (rows (tabM n S))) :=
  (p103o n S hS hl).ret fun v s ⟨hT, _⟩ => Kv.Fin.freeze hT.imm ⟨rfl, rfl⟩
end Go.Proofs.YtpfapiiinkkcgaaGreat
end
section
/- A word's slice, in the heap. -/
namespace Go.Proofs.YtpfapiiinkkcgaaGreat
open Go.Kv
set_option linter.unusedVariables false
set_option linter.unusedSimpArgs false
attribute [local irreducible] ACall PCall KL
/-- A word's slice, in the heap; A: what is not to be it. -/
def Wd (σ : Heap) (A : Nat → Prop) (w : PV) (l : List Int) : Prop := (w = .nils ∧ l = []) ∨ ∃ id ver, w = .ref id ver 0 l.length ∧ σ[id]? = some (.arr ver 2 1 (ints l)) ∧ ¬ A id
theorem Wd.imm {σ : Heap} {A : Nat → Prop} {w : PV} {l : List Int} (h : Wd σ A w l) : Imm σ w (.list (ints l)) := by
  rcases h with ⟨rfl, rfl⟩ | ⟨id, ver, rfl, h, _⟩
  · exact .nils
  · exact .refi h
theorem Wd.keep {σ σ' : Heap} {A A' : Nat → Prop} {w : PV} {l : List Int} (h : Wd σ A w l) (hk : ∀ id, id < σ.length → ¬ A id → σ'[id]? = σ[id]? ∧ ¬ A' id) : Wd σ' A' w l := by
  rcases h with ⟨rfl, rfl⟩ | ⟨id, ver, rfl, h, ha⟩
  · exact .inl ⟨rfl, rfl⟩
  · have := hk id (List.getElem?_eq_some_iff.1 h).1 ha
    exact .inr ⟨id, ver, rfl, this.1.trans h, this.2⟩
theorem Wd.cs {σ : Heap} {A : Nat → Prop} {w : PV} {l : List Int} (h : Wd σ A w l) : w.cs = [w] ∧ w.ok = true := by
  rcases h with ⟨rfl, rfl⟩ | ⟨id, ver, rfl, h, ha⟩ <;> exact ⟨rfl, rfl⟩
end Go.Proofs.YtpfapiiinkkcgaaGreat
end
section
/- The search: what it calls. -/
namespace Go.Proofs.YtpfapiiinkkcgaaGreat
open Go.Kv
set_option maxRecDepth 100000
end Go.Proofs.YtpfapiiinkkcgaaGreat
namespace Go.Proofs.YtpfapiiinkkcgaaGreat
open Go.Kv
set_option linter.unusedVariables false
set_option linter.unusedSimpArgs false
attribute [local irreducible] ACall PCall KL
/-- What has been met: points, and a word. -/
abbrev Met := List Int × List Int
def mcell (m : Met) : PV := .agg [.list (ints m.1), .list (ints m.2)]
def mets (l : List Met) : List PV := l.map mcell
@[simp] theorem mets_length (l : List Met) : (mets l).length = l.length := by simp [mets]
instance (m : Met) : Still (mcell m) := by unfold mcell; infer_instance
instance (l : List Met) : Still (.list (mets l)) := Still.list fun x hx => by
  obtain ⟨m, _, rfl⟩ := List.mem_map.1 hx
  refine ⟨inferInstance, fun c hc => ?_⟩
  simp only [mcell, PV.cs, List.mem_cons, List.mem_singleton, List.not_mem_nil, or_false] at hc
  rcases hc with rfl | rfl <;> exact upto_ints 0 _
end Go.Proofs.YtpfapiiinkkcgaaGreat
end
section
/- A table of words, in the heap. -/
namespace Go.Proofs.YtpfapiiinkkcgaaGreat
open Go.Kv
set_option linter.unusedVariables false
set_option linter.unusedSimpArgs false
attribute [local irreducible] ACall PCall KL
/-- The words' table, in the heap. -/
structure WG (σ : Heap) (A : Nat → Prop) (q ver : Nat) (ws : List PV) (L : List (List Int)) : Prop where
  out : σ[q]? = some (.arr ver 25 1 ws)
  len : ws.length = L.length
  row : ∀ (i : Nat) (w : PV) (l : List Int), ws[i]? = some w → L[i]? = some l → Wd σ (fun id => A id ∨ id = q) w l
theorem WG.cell {σ : Heap} {A : Nat → Prop} {q ver : Nat} {ws : List PV} {L : List (List Int)} (h : WG σ A q ver ws L) {i : Nat} (hi : i < L.length) : ∃ w, ws[i]? = some w ∧ Wd σ (fun id => A id ∨ id = q) w L[i] := by
  have hw : i < ws.length := by rw [h.len]; exact hi
  exact ⟨ws[i], by simp [hw], h.row i _ _ (by simp [hw]) (by simp [hi])⟩
theorem WG.keep {σ σ' : Heap} {A : Nat → Prop} {q ver : Nat} {ws : List PV} {L : List (List Int)} (h : WG σ A q ver ws L) (hk : ∀ id, id < σ.length → ¬ A id → σ'[id]? = σ[id]?) (hq : ¬ A q) : WG σ' A q ver ws L where
  out := (hk q (List.getElem?_eq_some_iff.1 h.out).1 hq).trans h.out
  len := h.len
  row := fun i w m hw hm => (h.row i w m hw hm).keep fun id hid hA => ⟨hk id hid (fun h => hA (.inl h)), hA⟩
theorem WG.push {σ : Heap} {A : Nat → Prop} {q ver : Nat} {ws : List PV} {L : List (List Int)} (h : WG σ A q ver ws L) {l : List Int} {w : PV} (hw : Wd σ (fun id => A id ∨ id = q) w l) (hl : L.length ≤ 1000) {K : PV → Heap → Prop}
    (hK : WG (σ.set q (.arr (ver + 1) 25 1 (ws ++ [w]))) A q (ver + 1) (ws ++ [w]) (L ++ [l]) → K (.ref q (ver + 1) 0 (L.length + 1)) (σ.set q (.arr (ver + 1) 25 1 (ws ++ [w])))) :
    aApp 25 1 (.ref q ver 0 L.length) (.list [w]) σ K := by
  have hlt := (List.getElem?_eq_some_iff.1 h.out).1
  have hzl := h.len
  have hok : okL 1 [w] = True := by
    rcases hw with ⟨rfl, rfl⟩ | ⟨id, ver, rfl, _, _⟩ <;> simp [okL, PV.cs, PV.ok]
  have hset : ∀ id, id < σ.length → ¬ (A id ∨ id = q) → (σ.set q (.arr (ver + 1) 25 1 (ws ++ [w])))[id]? = σ[id]? ∧ ¬ (A id ∨ id = q) := fun id _ hA => by
    refine ⟨List.getElem?_set_ne ?_, hA⟩
    rintro rfl; exact hA (.inr rfl)
  have hQ : WG (σ.set q (.arr (ver + 1) 25 1 (ws ++ [w]))) A q (ver + 1) (ws ++ [w]) (L ++ [l]) := by
    refine ⟨List.getElem?_set_self hlt, by simp [h.len], fun i w' m hw' hm => ?_⟩
    rw [List.getElem?_append] at hw' hm
    split at hw'
    · rename_i hi
      rw [if_pos (by rw [← h.len]; exact hi)] at hm
      exact (h.row i w' m hw' hm).keep hset
    · rename_i hi
      rw [if_neg (by rw [← h.len]; exact hi)] at hm
      have e1 := List.mem_of_getElem? hw'
      have e2 := List.mem_of_getElem? hm
      simp only [List.mem_singleton] at e1 e2
      subst e1; subst e2
      exact hw.keep hset
  simp only [aApp_ref, h.out, AppR_arr, aNews_list, hok, true_and, AppM_def]
  rw [List.take_of_length_le (by omega)]
  exact ⟨⟨by omega, by simp; omega⟩, hK hQ⟩
end Go.Proofs.YtpfapiiinkkcgaaGreat
end
section
/- The maps of all words, in the order in which they are met: the specification. -/
namespace Go.Proofs.YtpfapiiinkkcgaaGreat
open Go.Kv
set_option maxRecDepth 100000
/- spec.l02Closed -/
/- live [0, 7, 8, 9, 10, 11] -/
def k158_b0 : KC := (.seq (.seq (.ops [⟨(some 27), none, .mv (.t 11)⟩, ⟨(some 28), none, .mv (.t 0)⟩, ⟨(some 29), none, .len false (.t 28)⟩, ⟨(some 30), none, .bin .lss (.t 27) (.t 29)⟩])
  (.cond (.t 30) .skip (.exit 2)))
  (.seq (.block 3 (.seq (.draw [⟨(some 33), none, .mv (.t 7)⟩, ⟨(some 34), none, .mv (.t 10)⟩, ⟨(some 35), none, .idxS 6 (.t 33) (.t 34)⟩, ⟨(some 36), none, .load true 6 (.t 35)⟩, ⟨(some 37), none, .mv (.t 0)⟩, ⟨(some 38), none, .mv (.t 11)⟩, ⟨(some 39), none, .idxS 6 (.t 37) (.t 38)⟩, ⟨(some 40), none, .load true 6 (.t 39)⟩, ⟨(some 41), none, .pcall (.c (.fn (.func 131) [] [])) [(.t 36), (.t 40)]⟩, ⟨(some 12), none, .alloc [.int .i64 0, .int .i64 0, .int .i64 0, .int .i64 0, .int .i64 0, .int .i64 0]⟩, ⟨none, none, .store 6 (.t 12) (.t 41)⟩])
  (.seq (.seq (.ops [⟨(some 42), none, .mv (.t 9)⟩, ⟨(some 43), none, .load true 6 (.t 12)⟩, ⟨(some 44), none, .call (.c (.fn (.func 160) [] [])) [(.t 42), (.t 43)]⟩, ⟨(some 45), none, .bin .geq (.t 44) (.c (.int .i64 0))⟩])
  (.cond (.t 45) (.exit 3) .skip))
  (.seq (.seq (.ops [⟨(some 46), none, .mv (.t 7)⟩, ⟨(some 47), none, .len false (.t 46)⟩, ⟨(some 48), none, .bin .eql (.t 47) (.c (.int .i64 300))⟩])
  (.cond (.t 48) (.seq (.ops [⟨(some 4), none, .mv (.c (.nils))⟩, ⟨(some 5), none, .mv (.c (.nils))⟩, ⟨(some 6), none, .mv (.c (.bool false))⟩])
  .ret) .skip))
  (.seq (.ops [⟨(some 49), none, .mv (.t 7)⟩, ⟨(some 50), none, .load true 6 (.t 12)⟩, ⟨(some 51), none, .bsl true 34 6 [(.t 50)]⟩, ⟨(some 52), none, .app (.t 49) (.t 51) 34 6⟩, ⟨(some 7), none, .mv (.t 52)⟩])
  (.seq (.ops [⟨(some 53), none, .mv (.t 8)⟩, ⟨(some 54), none, .mv (.t 8)⟩, ⟨(some 55), none, .mv (.t 10)⟩, ⟨(some 56), none, .idxS 1 (.t 54) (.t 55)⟩, ⟨(some 57), none, .load false 1 (.t 56)⟩, ⟨(some 58), none, .call (.c (.fn (.func 141) [] [])) [(.t 57)]⟩, ⟨(some 59), none, .mv (.t 11)⟩, ⟨(some 60), none, .bsl true 2 1 [(.t 59)]⟩, ⟨(some 61), none, .app (.t 58) (.t 60) 2 1⟩, ⟨(some 62), none, .bsl true 25 1 [(.t 61)]⟩, ⟨(some 63), none, .app (.t 53) (.t 62) 25 1⟩, ⟨(some 8), none, .mv (.t 63)⟩])
  (.ops [⟨(some 64), none, .mv (.t 9)⟩, ⟨(some 65), none, .load true 6 (.t 12)⟩, ⟨(some 66), none, .call (.c (.fn (.func 159) [] [])) [(.t 64), (.t 65)]⟩, ⟨(some 9), none, .mv (.t 66)⟩])))))))
  (.ops [⟨(some 31), none, .mv (.t 11)⟩, ⟨(some 32), none, .bin .add (.t 31) (.c (.int .i64 1))⟩, ⟨(some 11), none, .mv (.t 32)⟩])))
/- live [0, 7, 8, 9, 10] -/
def k158_b1 : KC := (.seq (.seq (.ops [⟨(some 21), none, .mv (.t 10)⟩, ⟨(some 22), none, .mv (.t 7)⟩, ⟨(some 23), none, .len false (.t 22)⟩, ⟨(some 24), none, .bin .lss (.t 21) (.t 23)⟩])
  (.cond (.t 24) .skip (.exit 0)))
  (.seq (.block 1 (.seq (.ops [⟨(some 11), none, .mv (.c (.int .i64 0))⟩])
  (.block 2 (.loop k158_b0))))
  (.ops [⟨(some 25), none, .mv (.t 10)⟩, ⟨(some 26), none, .bin .add (.t 25) (.c (.int .i64 1))⟩, ⟨(some 10), none, .mv (.t 26)⟩])))
def k158 : KC := (.seq (.ops [⟨(some 4), none, .mv (.c (.nils))⟩, ⟨(some 5), none, .mv (.c (.nils))⟩, ⟨(some 6), none, .mv (.c (.bool false))⟩])
  (.seq (.ops [⟨(some 13), none, .mv (.t 1)⟩, ⟨(some 14), none, .call (.c (.fn (.func 143) [] [])) [(.t 13)]⟩, ⟨(some 15), none, .bsl false 34 6 [(.t 14)]⟩, ⟨(some 16), none, .bsl false 2 1 []⟩, ⟨(some 17), none, .bsl false 25 1 [(.t 16)]⟩, ⟨(some 7), none, .mv (.t 15)⟩, ⟨(some 8), none, .mv (.t 17)⟩])
  (.seq (.ops [⟨(some 18), none, .mv (.t 1)⟩, ⟨(some 19), none, .call (.c (.fn (.func 143) [] [])) [(.t 18)]⟩, ⟨(some 20), none, .bsl false 34 6 [(.t 19)]⟩, ⟨(some 9), none, .mv (.t 20)⟩])
  (.seq (.seq (.ops [⟨(some 10), none, .mv (.c (.int .i64 0))⟩])
  (.block 0 (.loop k158_b1)))
  (.seq (.ops [⟨(some 67), none, .mv (.t 7)⟩, ⟨(some 68), none, .mv (.t 8)⟩, ⟨(some 4), none, .mv (.t 67)⟩, ⟨(some 5), none, .mv (.t 68)⟩, ⟨(some 6), none, .mv (.c (.bool true))⟩])
  .ret)))))
theorem e158 {args : List PV} {σ : Heap} {K : PV → Heap → Prop} (hl : args.length ≤ 69) (h : Wf σ → (∀ a ∈ args, PV.upto σ.length a) → vc (mkCfg Tryz.prog mixed [51, 60, 62] 69 σ.length) k158 (FinK σ.length [.t 4, .t 5, .t 6] K) (argEnv 0 args) σ) : ACall Tryz.prog 158 args σ K :=
  ACall_enter (C := mkCfg Tryz.prog mixed [51, 60, 62] 69 σ.length) (c := Tryz.f158.body.getD .skip) Tryz.func158 (by kernel_rfl) (by kernel_rfl) (by kernel_rfl) rfl hl (by kernel_rfl) (by kernel_rfl) h
end Go.Proofs.YtpfapiiinkkcgaaGreat
namespace Go.Proofs.YtpfapiiinkkcgaaGreat
open Go.Kv
set_option linter.unusedVariables false
set_option linter.unusedSimpArgs false
attribute [local irreducible] ACall PCall KL
/-- What one map gives, by the first k of the list; nothing, if there are too many. -/
def clA (fs : List (List Nat)) (m : List Nat) (Q : List (List Nat)) : Nat → Option (List (List Nat))
  | 0 => some Q
  | k + 1 => match clA fs m Q k with
    | none => none
    | some R => if mul m (fs.getD k []) ∈ R then some R else if R.length = 300 then none else some (R ++ [mul m (fs.getD k [])])
/-- What has been met behind i maps. -/
def clB (fs : List (List Nat)) (n : Nat) : Nat → Option (List (List Nat))
  | 0 => some [List.range n]
  | i + 1 => match clB fs n i with
    | none => none
    | some Q => match Q[i]? with
      | some m => clA fs m Q fs.length
      | none => some Q
theorem range_ok {n : Nat} (h1 : 1 ≤ n) (h5 : n ≤ 5) : Ok (List.range n) n := by
  refine ⟨?_, ?_, ?_, ?_⟩ <;> first | exact h1 | exact h5 | simp
theorem clA_pre {fs : List (List Nat)} {m : List Nat} {Q : List (List Nat)} : ∀ k R, clA fs m Q k = some R → ∃ r, R = Q ++ r
  | 0, R, h => by
    have : Q = R := by simpa [clA] using h
    exact ⟨[], by simp [this]⟩
  | k + 1, R, h => by
    unfold clA at h
    cases hc : clA fs m Q k with
    | none => rw [hc] at h; cases h
    | some R' =>
      obtain ⟨r, hr⟩ := clA_pre k R' hc
      rw [hc] at h
      simp only at h
      split at h
      · cases h; exact ⟨r, hr⟩
      · split at h
        · cases h
        · cases h; exact ⟨r ++ [mul m (fs.getD k [])], by rw [hr, List.append_assoc]⟩
theorem clA_none {fs : List (List Nat)} {m : List Nat} {Q : List (List Nat)} {k : Nat} (h : clA fs m Q k = none) : ∀ d, clA fs m Q (k + d) = none
  | 0 => h
  | d + 1 => by
    show clA fs m Q (k + d + 1) = none
    unfold clA
    rw [clA_none h d]
theorem WG.immN {σ : Heap} {A : Nat → Prop} {q ver k : Nat} {ws : List PV} {L : List (List Int)} (h : WG σ A q ver ws L) (hk : k = L.length) : Imm σ (.ref q ver 0 k) (.list (rows L)) := by
  subst hk
  refine .ref q ver 0 L.length _ 1 ws (rows L) h.out (by rw [h.len]; simp) (rows_length L) (fun i x d hx hd => ?_) (fun i x d j c c' hx hd hc hc' => ?_)
  all_goals
    rw [Nat.zero_add] at hx
    have hi : i < L.length := by have := (List.getElem?_eq_some_iff.1 hd).1; rwa [rows_length] at this
    obtain ⟨w, hw, hW⟩ := h.cell hi
    obtain ⟨y, hy, rfl⟩ := rows_get hd
    rw [List.getElem?_eq_getElem hi] at hy; cases hy
    rw [hw] at hx; cases hx
  · have := hW.cs
    refine ⟨by rw [this.1]; rfl, rfl⟩
  · have h1 := List.mem_of_getElem? hc
    have h2 := List.mem_of_getElem? hc'
    rw [hW.cs.1] at h1
    simp only [PV.cs, List.mem_singleton] at h1 h2
    subst h1; subst h2
    exact hW.imm
set_option maxHeartbeats 4000000 in
theorem p158 (fs : List (List Nat)) (n : Nat) (h1 : 1 ≤ n) (h5 : n ≤ 5) (hf : ∀ f ∈ fs, Ok f n) (hfl : fs.length ≤ 1000) {K : PV → Heap → Prop}
    (hK1 : ∀ i Q W, clB fs n i = some Q → i = Q.length → (∀ f ∈ Q, Ok f n) → Q.length ≤ 300 → K (.tup [.list (aggs (Q.map mp)), .list (rows W), .bool true]) [])
    (hK2 : ∀ i, i ≤ 301 → clB fs n i = none → K (.tup [.nils, .nils, .bool false]) []) : ACall Tryz.prog 158 [.list (aggs (fs.map mp)), .int .i64 n] [] K := by
  have h0k := range_ok h1 h5
  have h06 := h0k.mp_len
  refine e158 (by simp) fun _ _ => ?_
  simp only [k158, argEnv, take6, List.drop_zero, Int.cast_ofNat_Int, go_sem, ↓reduceIte, Nat.reduceEqDiff, Nat.reduceAdd, Nat.reduceMul, Nat.reduceLeDiff, Nat.reduceLT, Int.reduceLE, Int.reduceLT, reduceCtorEq]
  refine (p143 n h1 h5).go ?_
  try simp only [OpK_eq, HKv, h06, take6, List.drop_zero, Int.cast_ofNat_Int, go_sem, ↓reduceIte, Nat.reduceEqDiff, Nat.reduceAdd, Nat.reduceMul, Nat.reduceLeDiff, Nat.reduceLT, Int.reduceLE, Int.reduceLT, reduceCtorEq]
  refine (p143 n h1 h5).go ?_
  try simp only [OpK_eq, HKv, h06, take6, List.drop_zero, Int.cast_ofNat_Int, go_sem, ↓reduceIte, Nat.reduceEqDiff, Nat.reduceAdd, Nat.reduceMul, Nat.reduceLeDiff, Nat.reduceLT, Int.reduceLE, Int.reduceLT, reduceCtorEq]
  refine KL_freezeAt (id := 3) [0, 7, 8, 9, 10] rfl (env0 := [(0, .list (aggs (fs.map mp))), (7, .ref 0 0 0 1), (8, .ref 2 0 0 1), (9, .ref 3 0 0 1), (10, .int .i64 0)]) (env' := [(0, .list (aggs (fs.map mp))), (7, .ref 0 0 0 1), (8, .ref 2 0 0 1), (9, .list (aggs ([List.range n].map mp))), (10, .int .i64 0)]) (by simp [keep]) (by rfl) (fun t => ?_) ?_
  · simp only [look_cons, look_nil]
    repeat' split
    · exact .inl Imm.still
    · exact .inr ⟨rfl, 0, 0, 0, 1, by decide, rfl⟩
    · exact .inr ⟨rfl, 2, 0, 0, 1, by decide, rfl⟩
    · exact .inl (Imm.refa (l := [mp (List.range n)]) (solo_get rfl))
    · exact .inl Imm.still
    · exact .inl (.refl _ Plain.undef.up)
  refine KL_ind k158_b1.eq_1 (fun y : Nat × Nat × Nat × List PV × List (List Int) × List (List Nat) × List (List Nat) × Heap => [(0, .list (aggs (fs.map mp))), (7, .ref 0 y.2.1 0 y.2.2.2.2.2.2.1.length), (8, .ref 2 y.2.2.1 0 y.2.2.2.2.2.2.1.length), (9, .list (aggs (y.2.2.2.2.2.1.map mp))), (10, .int .i64 y.1)]) (fun y => y.2.2.2.2.2.2.2)
    (fun ⟨i, v0, v2, ws, W, S, Q, σ⟩ => i ≤ Q.length ∧ clB fs n i = some Q ∧ (∀ f ∈ Q, Ok f n) ∧ Q.length ≤ 300 ∧ SrM n S ∧ (∀ f, f ∈ S ↔ f ∈ Q) ∧ S.length ≤ Q.length ∧ σ[0]? = some (.arr v0 34 6 (aggs (Q.map mp))) ∧ WG σ (fun id => id = 0) 2 v2 ws W ∧ W.length = Q.length ∧ (∀ w ∈ W, w.length + 1 ≤ W.length)) (fun y => 301 - y.1) [0, 7, 8, 9, 10]
    (0, 0, 0, [.ref 1 0 0 0], [[]], [List.range n], [List.range n], _) (by simp [keep]) rfl ?_ fun ⟨i, v0, v2, ws, W, S, Q, σ⟩ ⟨j1, j2, j3, j4, j5, j6, j7, j8, j9, j10, j11⟩ ih => ?_
  · refine ⟨Nat.zero_le _, rfl, fun f hf' => ?_, by simp, ⟨fun f hf' => ?_, by simp⟩, fun f => Iff.rfl, Nat.le_refl _, rfl, ⟨rfl, rfl, fun j w l hw hl => ?_⟩, rfl, fun w hw => ?_⟩
    · simp only [List.mem_singleton] at hf'; rw [hf']; exact h0k
    · simp only [List.mem_singleton] at hf'; rw [hf']; exact h0k
    · have e1 := List.mem_of_getElem? hw
      have e2 := List.mem_of_getElem? hl
      simp only [List.mem_singleton] at e1 e2
      subst e1; subst e2
      exact .inr ⟨1, 0, rfl, rfl, by decide⟩
    · simp only [List.mem_singleton] at hw; subst hw; simp
  try simp only at j1 j2 j3 j4 j5 j6 j7 j8 j9 j10 j11
  try simp only [OpK_eq, HKv, j8, aggs_length, List.length_map, take6, List.drop_zero, Int.cast_ofNat_Int, go_sem, ↓reduceIte, Nat.reduceEqDiff, Nat.reduceAdd, Nat.reduceMul, Nat.reduceLeDiff, Nat.reduceLT, Int.reduceLE, Int.reduceLT, reduceCtorEq]
  refine ⟨fun g1 => ?_, fun g1 => ?_⟩
  · have hil : i < Q.length := by omega
    have hm? : Q[i]? = some Q[i] := List.getElem?_eq_getElem hil
    have hBs : clB fs n (i + 1) = clA fs Q[i] Q fs.length := by
      rw [clB, j2]
      simp only
      rw [hm?]
    have hmO := j3 _ (List.getElem_mem hil)
    generalize hm : Q[i] = m at *
    refine KL_ind k158_b0.eq_1 (fun y : Nat × Nat × Nat × List PV × List (List Int) × List (List Nat) × List (List Nat) × Heap => [(0, .list (aggs (fs.map mp))), (7, .ref 0 y.2.1 0 y.2.2.2.2.2.2.1.length), (8, .ref 2 y.2.2.1 0 y.2.2.2.2.2.2.1.length), (9, .list (aggs (y.2.2.2.2.2.1.map mp))), (10, .int .i64 i), (11, .int .i64 y.1)]) (fun y => y.2.2.2.2.2.2.2)
      (fun ⟨k, v0, v2, ws, W, S, R, τ⟩ => k ≤ fs.length ∧ clA fs m Q k = some R ∧ (∀ f ∈ R, Ok f n) ∧ R.length ≤ 300 ∧ SrM n S ∧ (∀ f, f ∈ S ↔ f ∈ R) ∧ S.length ≤ R.length ∧ τ[0]? = some (.arr v0 34 6 (aggs (R.map mp))) ∧ WG τ (fun id => id = 0) 2 v2 ws W ∧ W.length = R.length ∧ (∀ w ∈ W, w.length + 1 ≤ W.length)) (fun y => fs.length - y.1) [0, 7, 8, 9, 10, 11]
      (0, v0, v2, ws, W, S, Q, σ) (by simp [keep]) rfl ⟨Nat.zero_le _, rfl, j3, j4, j5, j6, j7, j8, j9, j10, j11⟩ fun ⟨k, u0, u2, ws2, W2, S2, R, τ⟩ ⟨l1, l2, l3, l4, l5, l6, l7, l8, l9, l10, l11⟩ ihk => ?_
    obtain ⟨r, hr⟩ := clA_pre k R l2
    have hiR : i < R.length := by rw [hr, List.length_append]; omega
    have hRi : (R.map mp).getD i [] = mp m := by
      rw [List.getD_eq_getElem?_getD, List.getElem?_map, hr, List.getElem?_append_left hil, hm?]; rfl
    have h6m := hmO.mp_len
    try simp only [OpK_eq, HKv, l8, aggs_length, List.length_map, take6, List.drop_zero, Int.cast_ofNat_Int, go_sem, ↓reduceIte, Nat.reduceEqDiff, Nat.reduceAdd, Nat.reduceMul, Nat.reduceLeDiff, Nat.reduceLT, Int.reduceLE, Int.reduceLT, reduceCtorEq]
    refine ⟨fun g2 => ?_, fun g2 => ?_⟩
    · have hkl : k < fs.length := by omega
      have hfk := hf _ (List.getElem_mem hkl)
      have h6k := hfk.mp_len
      have hgk : (fs.map mp).getD k [] = mp fs[k] := by simp [List.getD_eq_getElem?_getD, hkl]
      have hgf : fs.getD k [] = fs[k] := by simp [List.getD_eq_getElem?_getD, hkl]
      try simp only [OpK_eq, HKv, l8, aggs_length, List.length_map, hRi, h6m, hgk, h6k, take6, List.drop_zero, Int.cast_ofNat_Int, go_sem, ↓reduceIte, Nat.reduceEqDiff, Nat.reduceAdd, Nat.reduceMul, Nat.reduceLeDiff, Nat.reduceLT, Int.reduceLE, Int.reduceLT, reduceCtorEq]
      refine ⟨⟨by omega, by omega⟩, by omega, fun _ => ⟨by omega, fun _ => ?_⟩⟩
      refine (p131 m fs[k] n hmO hfk).pgo ?_
      have hgO := hmO.mul hfk
      have hAs : clA fs m Q (k + 1) = if mul m fs[k] ∈ R then some R else if R.length = 300 then none else some (R ++ [mul m fs[k]]) := by
        rw [clA, l2]
        simp only
        rw [hgf]
      generalize hg' : mul m fs[k] = g at *
      have h6g := hgO.mp_len
      have hgb : ∀ (s : Heap) (a : AObj), (s ++ [a])[s.length]? = some a := fun s a => by simp
      have hsb : ∀ (s : Heap) (a b : AObj), (s ++ [a]).set s.length b = s ++ [b] := fun s a b => by simp [List.set_append_right]
      have hilg : (ints (mp g)).length = 6 := by rw [ints_length, h6g]
      try simp only [OpK_eq, HKv, hgb, hsb, hilg, h6g, take6, List.drop_zero, Int.cast_ofNat_Int, go_sem, ↓reduceIte, Nat.reduceEqDiff, Nat.reduceAdd, Nat.reduceMul, Nat.reduceLeDiff, Nat.reduceLT, Int.reduceLE, Int.reduceLT, reduceCtorEq]
      have hFd := p160 n S2 l5 (by omega) g hgO
      have hlom := lo_mem l5 hgO
      by_cases hin : g ∈ R
      · rw [if_pos hin] at hAs
        rw [if_pos (hlom.2 ((l6 g).2 hin))] at hFd
        refine hFd.go ?_
        try simp only [OpK_eq, HKv, take6, List.drop_zero, Int.cast_ofNat_Int, go_sem, ↓reduceIte, Nat.reduceEqDiff, Nat.reduceAdd, Nat.reduceMul, Nat.reduceLeDiff, Nat.reduceLT, Int.reduceLE, Int.reduceLT, reduceCtorEq]
        refine ⟨by omega, ihk (k + 1, u0, u2, ws2, W2, S2, R, _) ⟨by omega, hAs, l3, l4, l5, l6, l7, (List.getElem?_append_left (List.getElem?_eq_some_iff.1 l8).1).trans l8, l9.keep (fun id hid _ => List.getElem?_append_left hid) (by decide), l10, l11⟩ (by show fs.length - (k + 1) < fs.length - k; omega) _ _ (by simp [keep]) rfl⟩
      · rw [if_neg hin] at hAs
        rw [if_neg (fun h => hin ((l6 g).1 (hlom.1 h)))] at hFd
        refine hFd.go ?_
        have h0' : ∀ X, (τ ++ X)[0]? = some (.arr u0 34 6 (aggs (R.map mp))) := fun X => (List.getElem?_append_left (List.getElem?_eq_some_iff.1 l8).1).trans l8
        have hok := ok6' h6g
        have t6 : List.take 6 (mp g) = mp g := take6 h6g
        have tR : List.take R.length (R.map mp) = R.map mp := List.take_of_length_le (by rw [List.length_map]; exact Nat.le_refl _)
        have tRg : R.map mp ++ [mp g] = (R ++ [g]).map mp := by simp
        try simp only [OpK_eq, HKv, h0', aggs_length, List.length_map, t6, tR, tRg, take6, List.drop_zero, Int.cast_ofNat_Int, go_sem, ↓reduceIte, Nat.reduceEqDiff, Nat.reduceAdd, Nat.reduceMul, Nat.reduceLeDiff, Nat.reduceLT, Int.reduceLE, Int.reduceLT, reduceCtorEq]
        refine ⟨fun h300 => Kv.Fin.still (hK2 (i + 1) (by omega) ?_), fun h300 => ⟨by omega, h6g, h6g, ⟨by omega, by omega⟩, ?_⟩⟩
        · rw [hBs]
          have hN : clA fs m Q (k + 1) = none := by rw [hAs, if_pos (by omega)]
          have := clA_none hN (fs.length - (k + 1))
          rwa [show k + 1 + (fs.length - (k + 1)) = fs.length by omega] at this
        · rw [if_neg (by omega)] at hAs
          have hτ0 := (List.getElem?_eq_some_iff.1 l8).1
          have r0 : ((τ ++ [AObj.box (ints (mp g))]).set 0 (.arr (u0 + 1) 34 6 (aggs ((R ++ [g]).map mp))))[0]? = some (.arr (u0 + 1) 34 6 (aggs ((R ++ [g]).map mp))) := List.getElem?_set_self (by simp)
          have rb : ((τ ++ [AObj.box (ints (mp g))]).set 0 (.arr (u0 + 1) 34 6 (aggs ((R ++ [g]).map mp))))[τ.length]? = some (.box (ints (mp g))) := by
            rw [List.getElem?_set_ne (by omega)]; simp
          have hW : WG ((τ ++ [AObj.box (ints (mp g))]).set 0 (.arr (u0 + 1) 34 6 (aggs ((R ++ [g]).map mp)))) (fun id => id = 0) 2 u2 ws2 W2 := l9.keep (fun id hid hA => by
            rw [List.getElem?_set_ne (fun e => hA e.symm), List.getElem?_append_left hid]) (by decide)
          generalize (τ ++ [AObj.box (ints (mp g))]).set 0 (.arr (u0 + 1) 34 6 (aggs ((R ++ [g]).map mp))) = ρ at *
          obtain ⟨w, hw, hWd⟩ := hW.cell (i := i) (by omega)
          have hWo := hW.out
          have hwl := hW.len
          have hwcs := hWd.cs
          try simp only [OpK_eq, HKv, hWo, take6, List.drop_zero, Int.cast_ofNat_Int, go_sem, ↓reduceIte, Nat.reduceEqDiff, Nat.reduceAdd, Nat.reduceMul, Nat.reduceLeDiff, Nat.reduceLT, Int.reduceLE, Int.reduceLT, reduceCtorEq]
          refine ⟨⟨by omega, by omega⟩, by omega, fun q hq => ?_⟩
          rw [hw] at hq; cases hq
          rw [hwcs.1]
          refine ⟨by simp, fun q hq => ?_⟩
          simp only [List.getElem?_cons_zero, Option.some.injEq] at hq; subst hq
          have hWi : W2[i].length + 1 ≤ W2.length := l11 _ (List.getElem_mem _)
          generalize W2[i]'(by omega) = wi at hWd hWi
          try simp only [OpK_eq, HKv, take6, List.drop_zero, Int.cast_ofNat_Int, go_sem, ↓reduceIte, Nat.reduceEqDiff, Nat.reduceAdd, Nat.reduceMul, Nat.reduceLeDiff, Nat.reduceLT, Int.reduceLE, Int.reduceLT, reduceCtorEq]
          refine ACall.lend (p141 wi (by omega)) (.cons hWd.imm (.nil _)) fun v s hv => ?_
          obtain ⟨rfl, rfl⟩ := hv
          refine ⟨⟨free_ref _ _ _ _, Free.ints _ _ _ _⟩, ?_⟩
          try simp only [OpK_eq, HKv, ren_ref, ren_arr, ren_ints, Nat.zero_add, hgb, hsb, take6, List.drop_zero, Int.cast_ofNat_Int, go_sem, ↓reduceIte, Nat.reduceEqDiff, Nat.reduceAdd, Nat.reduceMul, Nat.reduceLeDiff, Nat.reduceLT, Int.reduceLE, Int.reduceLT, reduceCtorEq]
          have hW3 : WG (ρ ++ [AObj.arr 2 2 1 (ints (wi ++ [(k : Int)]))]) (fun id => id = 0) 2 u2 ws2 W2 := hW.keep (fun id hid _ => List.getElem?_append_left hid) (by decide)
          have hρ2 := (List.getElem?_eq_some_iff.1 hWo).1
          have hwd : Wd (ρ ++ [AObj.arr 2 2 1 (ints (wi ++ [(k : Int)]))]) (fun id => id = 0 ∨ id = 2) (.ref ρ.length 2 0 (wi.length + 1)) (wi ++ [(k : Int)]) := by
            have e : wi.length + 1 = (wi ++ [(k : Int)]).length := by simp
            rw [e]
            exact .inr ⟨_, 2, rfl, by simp, fun h => by rcases h with h | h <;> omega⟩
          have hpush : ∀ K' : PV → Heap → Prop, (WG ((ρ ++ [AObj.arr 2 2 1 (ints (wi ++ [(k : Int)]))]).set 2 (.arr (u2 + 1) 25 1 (ws2 ++ [.ref ρ.length 2 0 (wi.length + 1)]))) (fun id => id = 0) 2 (u2 + 1) (ws2 ++ [.ref ρ.length 2 0 (wi.length + 1)]) (W2 ++ [wi ++ [(k : Int)]]) → K' (.ref 2 (u2 + 1) 0 (R.length + 1)) ((ρ ++ [AObj.arr 2 2 1 (ints (wi ++ [(k : Int)]))]).set 2 (.arr (u2 + 1) 25 1 (ws2 ++ [.ref ρ.length 2 0 (wi.length + 1)])))) → aApp 25 1 (.ref 2 u2 0 R.length) (.list [.ref ρ.length 2 0 (wi.length + 1)]) (ρ ++ [AObj.arr 2 2 1 (ints (wi ++ [(k : Int)]))]) K' := fun K' hk => by
            have := hW3.push hwd (by omega) (K := K') (by rw [l10]; exact hk)
            rwa [l10] at this
          refine ⟨⟨by omega, by omega⟩, ?_⟩
          rw [← aApp_ref]
          refine hpush _ fun hWn => ?_
          have n0 : ((ρ ++ [AObj.arr 2 2 1 (ints (wi ++ [(k : Int)]))]).set 2 (.arr (u2 + 1) 25 1 (ws2 ++ [.ref ρ.length 2 0 (wi.length + 1)])))[0]? = some (.arr (u0 + 1) 34 6 (aggs ((R ++ [g]).map mp))) := by
            rw [List.getElem?_set_ne (by decide), List.getElem?_append_left (by omega)]; exact r0
          have hτ2 := (List.getElem?_eq_some_iff.1 l9.out).1
          have nb : ((ρ ++ [AObj.arr 2 2 1 (ints (wi ++ [(k : Int)]))]).set 2 (.arr (u2 + 1) 25 1 (ws2 ++ [.ref ρ.length 2 0 (wi.length + 1)])))[τ.length]? = some (.box (ints (mp g))) := by
            have hb := (List.getElem?_eq_some_iff.1 rb).1
            rw [List.getElem?_set_ne (by omega), List.getElem?_append_left hb]; exact rb
          generalize (ρ ++ [AObj.arr 2 2 1 (ints (wi ++ [(k : Int)]))]).set 2 (.arr (u2 + 1) 25 1 (ws2 ++ [.ref ρ.length 2 0 (wi.length + 1)])) = ρ2 at *
          try simp only [OpK_eq, HKv, nb, hilg, h6g, take6, List.drop_zero, Int.cast_ofNat_Int, go_sem, ↓reduceIte, Nat.reduceEqDiff, Nat.reduceAdd, Nat.reduceMul, Nat.reduceLeDiff, Nat.reduceLT, Int.reduceLE, Int.reduceLT, reduceCtorEq]
          refine (p159 n S2 l5 (by omega) g hgO).go ?_
          have hpm := fun x => putM_mem l5 hgO (x := x)
          have hps := putM_srm l5 hgO
          have hpl := putM_len (n := n) (S := S2) g
          try simp only [OpK_eq, HKv, take6, List.drop_zero, Int.cast_ofNat_Int, go_sem, ↓reduceIte, Nat.reduceEqDiff, Nat.reduceAdd, Nat.reduceMul, Nat.reduceLeDiff, Nat.reduceLT, Int.reduceLE, Int.reduceLT, reduceCtorEq]
          refine ⟨by omega, ihk (k + 1, u0 + 1, u2 + 1, _, W2 ++ [wi ++ [(k : Int)]], putM n S2 g, R ++ [g], ρ2) ⟨by omega, hAs, fun f hf' => ?_, by simp; omega, hps, fun f => ?_, by simp; omega, n0, hWn, by simp [l10], fun x hx => ?_⟩ (by show fs.length - (k + 1) < fs.length - k; omega) _ _ (by simp [keep]) rfl⟩
          · rcases List.mem_append.1 hf' with hf' | hf'
            · exact l3 f hf'
            · simp only [List.mem_singleton] at hf'; rw [hf']; exact hgO
          · rw [hpm, List.mem_append, List.mem_singleton, l6]
            exact ⟨fun h => h.elim .inr .inl, fun h => h.elim .inr .inl⟩
          · rw [List.length_append, List.length_singleton]
            rcases List.mem_append.1 hx with hx | hx
            · have := l11 x hx; omega
            · simp only [List.mem_singleton] at hx
              rw [hx, List.length_append, List.length_singleton]; omega
    · have hke : k = fs.length := by omega
      subst hke
      try simp only [take6, List.drop_zero, Int.cast_ofNat_Int, go_sem, ↓reduceIte, Nat.reduceEqDiff, Nat.reduceAdd, Nat.reduceMul, Nat.reduceLeDiff, Nat.reduceLT, Int.reduceLE, Int.reduceLT, reduceCtorEq]
      exact ⟨by omega, ih (i + 1, u0, u2, ws2, W2, S2, R, τ) ⟨by omega, by rw [hBs]; exact l2, l3, l4, l5, l6, l7, l8, l9, l10, l11⟩ (by show 301 - (i + 1) < 301 - i; omega) _ _ (by simp [keep]) rfl⟩
  · have hiQ : i = Q.length := by omega
    have hl1 : Q.length = (Q.map mp).length := (List.length_map _).symm
    refine Kv.Fin.freeze (Imm.tupL (.cons (Imm.refa' j8 hl1) (.cons (WG.immN j9 j10.symm) (.cons Imm.still (.nil _))))) (hK1 i Q W j2 hiQ j3 j4)
end Go.Proofs.YtpfapiiinkkcgaaGreat
end
section
/- The elements of a monoid, and its table: the specification. -/
namespace Go.Proofs.YtpfapiiinkkcgaaGreat
open Go.Kv
set_option maxRecDepth 100000
/- spec.l02Elements -/
/- live [7, 10, 11] -/
def k102_b0 : KC := (.seq (.seq (.ops [⟨(some 31), none, .mv (.t 11)⟩, ⟨(some 32), none, .mv (.t 7)⟩, ⟨(some 33), none, .len false (.t 32)⟩, ⟨(some 34), none, .bin .lss (.t 31) (.t 33)⟩])
  (.cond (.t 34) .skip (.exit 0)))
  (.seq (.block 1 (.ops [⟨(some 37), none, .mv (.t 10)⟩, ⟨(some 38), none, .mv (.t 7)⟩, ⟨(some 39), none, .mv (.t 11)⟩, ⟨(some 40), none, .idxS 6 (.t 38) (.t 39)⟩, ⟨(some 41), none, .load true 6 (.t 40)⟩, ⟨(some 42), none, .call (.c (.fn (.func 159) [] [])) [(.t 37), (.t 41)]⟩, ⟨(some 10), none, .mv (.t 42)⟩]))
  (.ops [⟨(some 35), none, .mv (.t 11)⟩, ⟨(some 36), none, .bin .add (.t 35) (.c (.int .i64 1))⟩, ⟨(some 11), none, .mv (.t 36)⟩])))
def k102 : KC := (.seq (.ops [⟨(some 4), none, .mv (.c (.nils))⟩, ⟨(some 5), none, .mv (.c (.int .i64 0))⟩])
  (.seq (.seq (.ops [⟨(some 12), none, .mv (.t 0)⟩, ⟨(some 13), none, .mv (.t 1)⟩, ⟨(some 14), none, .call (.c (.fn (.func 157) [] [])) [(.t 12), (.t 13)]⟩, ⟨(some 6), none, .mv (.t 14)⟩])
  (.seq (.ops [⟨(some 15), none, .mv (.t 6)⟩, ⟨(some 16), none, .bin .neq (.t 15) (.c (.int .i64 0))⟩])
  (.cond (.t 16) (.seq (.ops [⟨(some 17), none, .mv (.t 6)⟩, ⟨(some 4), none, .mv (.c (.nils))⟩, ⟨(some 5), none, .mv (.t 17)⟩])
  .ret) .skip)))
  (.seq (.ops [⟨(some 19), none, .mv (.t 0)⟩, ⟨(some 20), none, .mv (.t 0)⟩, ⟨(some 21), none, .idxS 6 (.t 20) (.c (.int .i64 0))⟩, ⟨(some 22), none, .fieldA 0 (.t 21)⟩, ⟨(some 23), none, .load false 1 (.t 22)⟩, ⟨(some 24), none, .call (.c (.fn (.func 158) [] [])) [(.t 19), (.t 23)]⟩, ⟨(some 18), none, .mv (.t 24)⟩, ⟨(some 25), none, .extr 0 (.t 18)⟩, ⟨(some 26), none, .extr 1 (.t 18)⟩, ⟨(some 27), none, .extr 2 (.t 18)⟩, ⟨(some 7), none, .mv (.t 25)⟩, ⟨(some 8), none, .mv (.t 26)⟩, ⟨(some 9), none, .mv (.t 27)⟩])
  (.seq (.seq (.ops [⟨(some 28), none, .mv (.t 9)⟩, ⟨(some 29), none, .not (.t 28)⟩])
  (.cond (.t 29) (.seq (.ops [⟨(some 4), none, .mv (.c (.nils))⟩, ⟨(some 5), none, .mv (.c (.int .i64 3))⟩])
  .ret) .skip))
  (.seq (.ops [⟨(some 30), none, .bsl false 34 6 []⟩, ⟨(some 10), none, .mv (.t 30)⟩])
  (.seq (.seq (.ops [⟨(some 11), none, .mv (.c (.int .i64 0))⟩])
  (.block 0 (.loop k102_b0)))
  (.seq (.ops [⟨(some 43), none, .mv (.t 10)⟩, ⟨(some 4), none, .mv (.t 43)⟩, ⟨(some 5), none, .mv (.c (.int .i64 0))⟩])
  .ret)))))))
theorem e102 {args : List PV} {σ : Heap} {K : PV → Heap → Prop} (hl : args.length ≤ 44) (h : Wf σ → (∀ a ∈ args, PV.upto σ.length a) → vc (mkCfg Tryz.prog mixed [] 44 σ.length) k102 (FinK σ.length [.t 4, .t 5] K) (argEnv 0 args) σ) : ACall Tryz.prog 102 args σ K :=
  ACall_enter (C := mkCfg Tryz.prog mixed [] 44 σ.length) (c := Tryz.f102.body.getD .skip) Tryz.func102 (by kernel_rfl) (by kernel_rfl) (by kernel_rfl) rfl hl (by kernel_rfl) (by kernel_rfl) h
/- spec.TableOf -/
def k30 : KC := (.seq (.ops [⟨(some 2), none, .mv (.c (.nils))⟩, ⟨(some 3), none, .mv (.c (.int .i64 0))⟩])
  (.seq (.ops [⟨(some 7), none, .mv (.t 0)⟩, ⟨(some 8), none, .call (.c (.fn (.func 102) [] [])) [(.t 7), (.c (.nils))]⟩, ⟨(some 6), none, .mv (.t 8)⟩, ⟨(some 9), none, .extr 0 (.t 6)⟩, ⟨(some 10), none, .extr 1 (.t 6)⟩, ⟨(some 4), none, .mv (.t 9)⟩, ⟨(some 5), none, .mv (.t 10)⟩])
  (.seq (.seq (.ops [⟨(some 11), none, .mv (.t 5)⟩, ⟨(some 12), none, .bin .eql (.t 11) (.c (.int .i64 0))⟩, ⟨(some 13), none, .mv (.t 12)⟩, ⟨(some 14), some (13, true), .mv (.t 4)⟩, ⟨(some 15), some (13, true), .len false (.t 14)⟩, ⟨(some 16), some (13, true), .bin .gtr (.t 15) (.c (.int .i64 40))⟩, ⟨(some 17), none, .pick (.t 13) (.t 16) (.c (.bool false))⟩])
  (.cond (.t 17) (.ops [⟨(some 5), none, .mv (.c (.int .i64 3))⟩]) .skip))
  (.seq (.seq (.ops [⟨(some 18), none, .mv (.t 5)⟩, ⟨(some 19), none, .bin .neq (.t 18) (.c (.int .i64 0))⟩])
  (.cond (.t 19) (.seq (.ops [⟨(some 20), none, .mv (.t 5)⟩, ⟨(some 2), none, .mv (.c (.nils))⟩, ⟨(some 3), none, .mv (.t 20)⟩])
  .ret) .skip))
  (.seq (.ops [⟨(some 21), none, .mv (.t 4)⟩, ⟨(some 22), none, .call (.c (.fn (.func 103) [] [])) [(.t 21)]⟩, ⟨(some 2), none, .mv (.t 22)⟩, ⟨(some 3), none, .mv (.c (.int .i64 0))⟩])
  .ret)))))
theorem e30 {args : List PV} {σ : Heap} {K : PV → Heap → Prop} (hl : args.length ≤ 23) (h : Wf σ → (∀ a ∈ args, PV.upto σ.length a) → vc (mkCfg Tryz.prog mixed [] 23 σ.length) k30 (FinK σ.length [.t 2, .t 3] K) (argEnv 0 args) σ) : ACall Tryz.prog 30 args σ K :=
  ACall_enter (C := mkCfg Tryz.prog mixed [] 23 σ.length) (c := Tryz.f30.body.getD .skip) Tryz.func30 (by kernel_rfl) (by kernel_rfl) (by kernel_rfl) rfl hl (by kernel_rfl) (by kernel_rfl) h
end Go.Proofs.YtpfapiiinkkcgaaGreat
namespace Go.Proofs.YtpfapiiinkkcgaaGreat
open Go.Kv
set_option linter.unusedVariables false
set_option linter.unusedSimpArgs false
attribute [local irreducible] ACall PCall KL
theorem clB_none {fs : List (List Nat)} {n i : Nat} (h : clB fs n i = none) : ∀ d, clB fs n (i + d) = none
  | 0 => h
  | d + 1 => by
    show clB fs n (i + d + 1) = none
    rw [clB, clB_none h d]
theorem clB_stop {fs : List (List Nat)} {n i : Nat} {Q : List (List Nat)} (h : clB fs n i = some Q) (hi : Q.length ≤ i) : ∀ d, clB fs n (i + d) = some Q
  | 0 => h
  | d + 1 => by
    show clB fs n (i + d + 1) = some Q
    rw [clB, clB_stop h hi d]
    simp only
    rw [List.getElem?_eq_none (by omega)]
/-- The maps of all words, if there are not too many. -/
def clR (fs : List (List Nat)) (n : Nat) : Option (List (List Nat)) := clB fs n 301
/-- In order. -/
def elS (n : Nat) (Q : List (List Nat)) : List (List Nat) := Q.foldl (putM n) []
theorem fold_putM {n : Nat} : ∀ (Q S : List (List Nat)), SrM n S → (∀ f ∈ Q, Ok f n) → SrM n (Q.foldl (putM n) S) ∧ (∀ f, f ∈ Q.foldl (putM n) S ↔ f ∈ Q ∨ f ∈ S) ∧ (Q.foldl (putM n) S).length ≤ Q.length + S.length
  | [], S, h, _ => ⟨h, fun f => by simp, by simp⟩
  | a :: Q, S, h, hQ => by
    have ha := hQ a (by simp)
    obtain ⟨h1, h2, h3⟩ := fold_putM Q (putM n S a) (putM_srm h ha) fun f hf => hQ f (by simp [hf])
    refine ⟨h1, fun f => ?_, ?_⟩
    · rw [List.foldl_cons, h2, putM_mem h ha, List.mem_cons]
      constructor
      · rintro (h | h | h)
        · exact .inl (.inr h)
        · exact .inl (.inl h)
        · exact .inr h
      · rintro ((h | h) | h)
        · exact .inr (.inl h)
        · exact .inl h
        · exact .inr (.inr h)
    · have := putM_len (n := n) (S := S) a
      rw [List.foldl_cons, List.length_cons]; omega
theorem p102_in (fs : List (List Nat)) (n : Nat) (h1 : 1 ≤ n) (h5 : n ≤ 5) (hf : ∀ f ∈ fs, Ok f n) (h0 : 0 < fs.length) (hfl : fs.length ≤ 6) (hl : lcode (fs.map mp) [] = 0) :
    Pure Tryz.prog 102 [.list (aggs (fs.map mp)), .nils] (match clR fs n with | none => .tup [.nils, .int .i64 3] | some Q => .tup [.list (aggs ((elS n Q).map mp)), .int .i64 0]) := by
  have hk := hf _ (List.getElem_mem h0)
  have h6k := hk.mp_len
  have hn : (mp fs[0]).getD 0 0 = (n : Int) := by simp [mp, mpN, hk.len]
  refine e102 (by simp) fun _ _ => ?_
  simp only [k102, argEnv, take6, List.drop_zero, Int.cast_ofNat_Int, go_sem, ↓reduceIte, Nat.reduceEqDiff, Nat.reduceAdd, Nat.reduceMul, Nat.reduceLeDiff, Nat.reduceLT, Int.reduceLE, Int.reduceLT, reduceCtorEq]
  refine (p157n (fs.map mp) (by simp; omega) (fun r hr => by obtain ⟨f, hf', rfl⟩ := List.mem_map.1 hr; exact (hf f hf').mp_len)).go ?_
  rw [hl]
  try simp only [OpK_eq, HKv, map_getD h0, h6k, hn, List.length_map, take6, List.drop_zero, Int.cast_ofNat_Int, go_sem, ↓reduceIte, Nat.reduceEqDiff, Nat.reduceAdd, Nat.reduceMul, Nat.reduceLeDiff, Nat.reduceLT, Int.reduceLE, Int.reduceLT, reduceCtorEq]
  refine ⟨by omega, fun _ => ?_⟩
  refine p158 fs n h1 h5 hf (by omega) (fun i Q W c1 c2 c3 c4 => ?_) (fun i c0 c1 => ?_)
  · have hR : clR fs n = some Q := by
      have := clB_stop c1 (by omega) (301 - i)
      rwa [show i + (301 - i) = 301 by omega] at this
    rw [hR]
    try simp only [OpK_eq, HKv, take6, List.drop_zero, Int.cast_ofNat_Int, go_sem, ↓reduceIte, Nat.reduceEqDiff, Nat.reduceAdd, Nat.reduceMul, Nat.reduceLeDiff, Nat.reduceLT, Int.reduceLE, Int.reduceLT, reduceCtorEq]
    refine KL_freeze (env0 := [(7, .list (aggs (Q.map mp))), (10, .ref 0 0 0 0), (11, .int .i64 0)]) (env' := [(7, .list (aggs (Q.map mp))), (10, .list (aggs (([] : List (List Nat)).map mp))), (11, .int .i64 0)]) [7, 10, 11] rfl (by simp [keep]) (.cons Imm.still (.cons (Imm.refa (l := []) rfl) (.cons Imm.still .nil))) ?_
    refine KL_ind k102_b0.eq_1 (fun y : Nat => [(7, .list (aggs (Q.map mp))), (10, .list (aggs ((elS n (Q.take y)).map mp))), (11, .int .i64 y)]) (fun _ => []) (fun y => y ≤ Q.length) (fun y => Q.length - y) [7, 10, 11] 0 (by simp [keep, elS]) rfl (Nat.zero_le _) fun y hy ih => ?_
    try simp only [OpK_eq, HKv, aggs_length, List.length_map, take6, List.drop_zero, Int.cast_ofNat_Int, go_sem, ↓reduceIte, Nat.reduceEqDiff, Nat.reduceAdd, Nat.reduceMul, Nat.reduceLeDiff, Nat.reduceLT, Int.reduceLE, Int.reduceLT, reduceCtorEq]
    refine ⟨fun g1 => ?_, fun g1 => ?_⟩
    · have hyl : y < Q.length := by omega
      have hgy : (Q.map mp).getD y [] = mp Q[y] := by simp [List.getD_eq_getElem?_getD, hyl]
      have hOy := c3 _ (List.getElem_mem hyl)
      have h6y := hOy.mp_len
      obtain ⟨s1, s2, s3⟩ := fold_putM (n := n) (Q.take y) [] ⟨by simp, by simp⟩ fun f hf' => c3 f (List.mem_of_mem_take hf')
      have hes : elS n (Q.take (y + 1)) = putM n (elS n (Q.take y)) Q[y] := by
        unfold elS
        rw [List.take_succ_eq_append_getElem hyl, List.foldl_append]; rfl
      have s3' : (elS n (Q.take y)).length ≤ Q.length := by
        have : (elS n (Q.take y)).length ≤ (Q.take y).length + 0 := s3
        rw [List.length_take] at this; omega
      try simp only [OpK_eq, HKv, aggs_length, List.length_map, hgy, h6y, take6, List.drop_zero, Int.cast_ofNat_Int, go_sem, ↓reduceIte, Nat.reduceEqDiff, Nat.reduceAdd, Nat.reduceMul, Nat.reduceLeDiff, Nat.reduceLT, Int.reduceLE, Int.reduceLT, reduceCtorEq]
      refine ⟨by omega, fun _ => ?_⟩
      refine (p159 n (elS n (Q.take y)) s1 (by omega) Q[y] hOy).go ?_
      try simp only [OpK_eq, HKv, take6, List.drop_zero, Int.cast_ofNat_Int, go_sem, ↓reduceIte, Nat.reduceEqDiff, Nat.reduceAdd, Nat.reduceMul, Nat.reduceLeDiff, Nat.reduceLT, Int.reduceLE, Int.reduceLT, reduceCtorEq]
      exact ⟨by omega, ih (y + 1) (by omega) (by omega) _ _ (by simp [keep, hes]) rfl⟩
    · obtain rfl : y = Q.length := by omega
      rw [List.take_length]
      try simp only [OpK_eq, HKv, take6, List.drop_zero, Int.cast_ofNat_Int, go_sem, ↓reduceIte, Nat.reduceEqDiff, Nat.reduceAdd, Nat.reduceMul, Nat.reduceLeDiff, Nat.reduceLT, Int.reduceLE, Int.reduceLT, reduceCtorEq]
      exact Kv.Fin.still ⟨rfl, rfl⟩
  · have hR : clR fs n = none := by
      have := clB_none c1 (301 - i)
      rwa [show i + (301 - i) = 301 by omega] at this
    rw [hR]
    try simp only [OpK_eq, HKv, take6, List.drop_zero, Int.cast_ofNat_Int, go_sem, ↓reduceIte, Nat.reduceEqDiff, Nat.reduceAdd, Nat.reduceMul, Nat.reduceLeDiff, Nat.reduceLT, Int.reduceLE, Int.reduceLT, reduceCtorEq]
    exact Kv.Fin.still ⟨rfl, rfl⟩
theorem elS_ok {n : Nat} {Q : List (List Nat)} (hQ : ∀ f ∈ Q, Ok f n) : SrM n (elS n Q) ∧ (∀ f, f ∈ elS n Q ↔ f ∈ Q) ∧ (elS n Q).length ≤ Q.length := by
  obtain ⟨h1, h2, h3⟩ := fold_putM (n := n) Q [] ⟨by simp, by simp⟩ hQ
  exact ⟨h1, fun f => by rw [elS, h2]; simp, h3⟩
theorem clA_okQ {fs : List (List Nat)} {n : Nat} (hf : ∀ f ∈ fs, Ok f n) {m : List Nat} (hm : Ok m n) {Q : List (List Nat)} (hQ : ∀ f ∈ Q, Ok f n) (hl : Q.length ≤ 300) : ∀ k R, k ≤ fs.length → clA fs m Q k = some R → (∀ f ∈ R, Ok f n) ∧ R.length ≤ 300
  | 0, R, _, h => by
    have : Q = R := by simpa [clA] using h
    subst this; exact ⟨hQ, hl⟩
  | k + 1, R, hk, h => by
    unfold clA at h
    cases hc : clA fs m Q k with
    | none => rw [hc] at h; cases h
    | some R' =>
      obtain ⟨h1, h2⟩ := clA_okQ hf hm hQ hl k R' (by omega) hc
      have hgf : fs.getD k [] = fs[k] := by simp [List.getD_eq_getElem?_getD, show k < fs.length by omega]
      rw [hc] at h
      simp only at h
      split at h
      · cases h; exact ⟨h1, h2⟩
      · split at h
        · cases h
        · cases h
          refine ⟨fun f hf' => ?_, by rw [List.length_append, List.length_singleton]; omega⟩
          rcases List.mem_append.1 hf' with hf' | hf'
          · exact h1 f hf'
          · simp only [List.mem_singleton] at hf'
            rw [hf', hgf]
            exact hm.mul (hf _ (List.getElem_mem _))
theorem clB_okQ {fs : List (List Nat)} {n : Nat} (h1 : 1 ≤ n) (h5 : n ≤ 5) (hf : ∀ f ∈ fs, Ok f n) : ∀ i Q, clB fs n i = some Q → (∀ f ∈ Q, Ok f n) ∧ Q.length ≤ 300
  | 0, Q, h => by
    have : [List.range n] = Q := by simpa [clB] using h
    subst this
    refine ⟨fun f hf' => ?_, by simp⟩
    simp only [List.mem_singleton] at hf'; rw [hf']; exact range_ok h1 h5
  | i + 1, Q, h => by
    rw [clB] at h
    cases hc : clB fs n i with
    | none => rw [hc] at h; cases h
    | some R =>
      obtain ⟨h2, h3⟩ := clB_okQ h1 h5 hf i R hc
      rw [hc] at h
      simp only at h
      cases hg : R[i]? with
      | none => rw [hg] at h; cases h; exact ⟨h2, h3⟩
      | some m => rw [hg] at h; exact clA_okQ hf (h2 m (List.mem_of_getElem? hg)) h2 h3 fs.length Q (Nat.le_refl _) h
theorem p30_in (fs : List (List Nat)) (n : Nat) (h1 : 1 ≤ n) (h5 : n ≤ 5) (hf : ∀ f ∈ fs, Ok f n) (h0 : 0 < fs.length) (hfl : fs.length ≤ 6) (hl : lcode (fs.map mp) [] = 0) :
    Pure Tryz.prog 30 [.list (aggs (fs.map mp))] (match clR fs n with | none => .tup [.nils, .int .i64 3] | some Q => if 40 < (elS n Q).length then .tup [.nils, .int .i64 3] else .tup [.list (rows (tabM n (elS n Q))), .int .i64 0]) := by
  have hE := p102_in fs n h1 h5 hf h0 hfl hl
  cases hR : clR fs n with
  | none =>
    rw [hR] at hE
    simp only at hE ⊢
    refine e30 (by simp) fun _ _ => ?_
    simp only [k30, argEnv, take6, List.drop_zero, Int.cast_ofNat_Int, go_sem, ↓reduceIte, Nat.reduceEqDiff, Nat.reduceAdd, Nat.reduceMul, Nat.reduceLeDiff, Nat.reduceLT, Int.reduceLE, Int.reduceLT, reduceCtorEq]
    refine hE.go ?_
    try simp only [OpK_eq, HKv, take6, List.drop_zero, Int.cast_ofNat_Int, go_sem, ↓reduceIte, Nat.reduceEqDiff, Nat.reduceAdd, Nat.reduceMul, Nat.reduceLeDiff, Nat.reduceLT, Int.reduceLE, Int.reduceLT, reduceCtorEq]
    exact ⟨fun h => absurd h (by decide), fun _ => ⟨fun _ => Kv.Fin.still ⟨rfl, rfl⟩, fun h => absurd h (by decide)⟩⟩
  | some Q =>
    rw [hR] at hE
    simp only at hE ⊢
    obtain ⟨c3, c4⟩ := clB_okQ h1 h5 hf _ _ hR
    obtain ⟨s1, s2, s3⟩ := elS_ok c3
    refine e30 (by simp) fun _ _ => ?_
    simp only [k30, argEnv, take6, List.drop_zero, Int.cast_ofNat_Int, go_sem, ↓reduceIte, Nat.reduceEqDiff, Nat.reduceAdd, Nat.reduceMul, Nat.reduceLeDiff, Nat.reduceLT, Int.reduceLE, Int.reduceLT, reduceCtorEq]
    refine hE.go ?_
    generalize elS n Q = S at *
    try simp only [OpK_eq, HKv, aggs_length, List.length_map, take6, List.drop_zero, Int.cast_ofNat_Int, go_sem, ↓reduceIte, Nat.reduceEqDiff, Nat.reduceAdd, Nat.reduceMul, Nat.reduceLeDiff, Nat.reduceLT, Int.reduceLE, Int.reduceLT, reduceCtorEq]
    refine ⟨fun g1 => ?_, fun g1 => ?_⟩
    · rw [if_pos (by omega)]
      exact ⟨fun _ => Kv.Fin.still ⟨rfl, rfl⟩, fun h => absurd h (by decide)⟩
    · rw [if_neg (by omega)]
      refine (p103 n S s1 (by omega)).go ?_
      try simp only [OpK_eq, HKv, take6, List.drop_zero, Int.cast_ofNat_Int, go_sem, ↓reduceIte, Nat.reduceEqDiff, Nat.reduceAdd, Nat.reduceMul, Nat.reduceLeDiff, Nat.reduceLT, Int.reduceLE, Int.reduceLT, reduceCtorEq]
      exact Kv.Fin.still ⟨rfl, rfl⟩
theorem p102_out (a : List (List Int)) (ha : a.length ≤ 1048576) (h6 : ∀ r ∈ a, r.length = 6) (hc : lcode a [] ≠ 0) : Pure Tryz.prog 102 [.list (aggs a), .nils] (.tup [.nils, .int .i64 (lcode a [])]) := by
  refine e102 (by simp) fun _ _ => ?_
  simp only [k102, argEnv, take6, List.drop_zero, Int.cast_ofNat_Int, go_sem, ↓reduceIte, Nat.reduceEqDiff, Nat.reduceAdd, Nat.reduceMul, Nat.reduceLeDiff, Nat.reduceLT, Int.reduceLE, Int.reduceLT, reduceCtorEq]
  refine (p157n a ha h6).go ?_
  try simp only [OpK_eq, HKv, take6, List.drop_zero, Int.cast_ofNat_Int, go_sem, ↓reduceIte, Nat.reduceEqDiff, Nat.reduceAdd, Nat.reduceMul, Nat.reduceLeDiff, Nat.reduceLT, Int.reduceLE, Int.reduceLT, reduceCtorEq]
  exact ⟨fun h1 => Kv.Fin.still ⟨rfl, rfl⟩, fun h1 => absurd h1 hc⟩
theorem p30_out (a : List (List Int)) (ha : a.length ≤ 1048576) (h6 : ∀ r ∈ a, r.length = 6) (hc : lcode a [] ≠ 0) : Pure Tryz.prog 30 [.list (aggs a)] (.tup [.nils, .int .i64 (lcode a [])]) := by
  refine e30 (by simp) fun _ _ => ?_
  simp only [k30, argEnv, take6, List.drop_zero, Int.cast_ofNat_Int, go_sem, ↓reduceIte, Nat.reduceEqDiff, Nat.reduceAdd, Nat.reduceMul, Nat.reduceLeDiff, Nat.reduceLT, Int.reduceLE, Int.reduceLT, reduceCtorEq]
  refine (p102_out a ha h6 hc).go ?_
  try simp only [OpK_eq, HKv, take6, List.drop_zero, Int.cast_ofNat_Int, go_sem, ↓reduceIte, Nat.reduceEqDiff, Nat.reduceAdd, Nat.reduceMul, Nat.reduceLeDiff, Nat.reduceLT, Int.reduceLE, Int.reduceLT, reduceCtorEq]
  exact ⟨fun h => absurd h hc, fun _ => ⟨fun _ => Kv.Fin.still ⟨rfl, rfl⟩, fun h => absurd h hc⟩⟩
end Go.Proofs.YtpfapiiinkkcgaaGreat
end
