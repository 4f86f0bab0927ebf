/- Maps in order: the specification. -/
import Derived.Test.YtpepbomifjbgnaaCb
import Derived.Test.YtpepbomifjbgnaaCO
import Derived.Test.YtpepbomifjbgnaaLF
import Derived.Test.YtpepbomifjbgnaaG6
namespace Go.Proofs.Ytpepbomifjbgnaa
open Go.Kv
set_option maxRecDepth 100000
/- spec.l02Find -/
/- live [0, 3, 5, 6, 31, 32, 33, 34, 35, 36] -/
def k116_b0 : KC := (.seq (.seq (.ops [⟨(some 10), none, .mv (.t 5)⟩, ⟨(some 11), none, .mv (.t 6)⟩, ⟨(some 12), none, .bin .lss (.t 10) (.t 11)⟩])
  (.cond (.t 12) .skip (.exit 0)))
  (.block 1 (.seq (.ops [⟨(some 13), none, .mv (.t 5)⟩, ⟨(some 14), none, .mv (.t 6)⟩, ⟨(some 15), none, .bin .add (.t 13) (.t 14)⟩, ⟨(some 16), none, .bin .quo (.t 15) (.c (.int .i64 2))⟩, ⟨(some 7), none, .mv (.t 16)⟩])
  (.seq (.draw [⟨(some 17), none, .mv (.t 0)⟩, ⟨(some 18), none, .mv (.t 7)⟩, ⟨(some 19), none, .idxS 6 (.t 17) (.t 18)⟩, ⟨(some 20), none, .load true 6 (.t 19)⟩, ⟨(some 21), none, .load true 6 (.t 3)⟩, ⟨(some 22), none, .pcall (.c (.fn (.func 143) [] [])) [(.t 20), (.t 21)]⟩])
  (.cond (.t 22) (.ops [⟨(some 23), none, .mv (.t 7)⟩, ⟨(some 24), none, .bin .add (.t 23) (.c (.int .i64 1))⟩, ⟨(some 5), none, .mv (.t 24)⟩]) (.ops [⟨(some 25), none, .mv (.t 7)⟩, ⟨(some 6), none, .mv (.t 25)⟩]))))))
def k116 : KC := (.seq (.ops [⟨(some 3), none, .box true (.t 1)⟩, ⟨(some 4), none, .mv (.c (.int .i64 0))⟩])
  (.seq (.ops [⟨(some 8), none, .mv (.t 0)⟩, ⟨(some 9), none, .len false (.t 8)⟩, ⟨(some 5), none, .mv (.c (.int .i64 0))⟩, ⟨(some 6), none, .mv (.t 9)⟩])
  (.seq (.block 0 (.loop k116_b0))
  (.seq (.seq (.draw [⟨(some 26), none, .mv (.t 5)⟩, ⟨(some 27), none, .mv (.t 0)⟩, ⟨(some 28), none, .len false (.t 27)⟩, ⟨(some 29), none, .bin .lss (.t 26) (.t 28)⟩, ⟨(some 30), none, .mv (.t 29)⟩, ⟨(some 31), some (30, true), .mv (.t 0)⟩, ⟨(some 32), some (30, true), .mv (.t 5)⟩, ⟨(some 33), some (30, true), .idxS 6 (.t 31) (.t 32)⟩, ⟨(some 34), some (30, true), .load true 6 (.t 33)⟩, ⟨(some 35), some (30, true), .load true 6 (.t 3)⟩, ⟨(some 36), some (30, true), .aeq false 6 (.t 34) (.t 35)⟩, ⟨(some 37), none, .pick (.t 30) (.t 36) (.c (.bool false))⟩])
  (.cond (.t 37) (.seq (.ops [⟨(some 38), none, .mv (.t 5)⟩, ⟨(some 4), none, .mv (.t 38)⟩])
  .ret) .skip))
  (.seq (.ops [⟨(some 4), none, .mv (.c (.int .i64 (-1)))⟩])
  .ret)))))
theorem e116 {args : List PV} {σ : Heap} {K : PV → Heap → Prop} (hl : args.length ≤ 39) (h : Wf σ → (∀ a ∈ args, PV.upto σ.length a) → vc (mkCfg Try.prog mixed [3] 39 σ.length) k116 (FinK σ.length [.t 4] K) (argEnv 0 args) σ) : ACall Try.prog 116 args σ K :=
  ACall_enter (C := mkCfg Try.prog mixed [3] 39 σ.length) (c := Try.f116.body.getD .skip) Try.func116 (by kernel_rfl) (by kernel_rfl) (by kernel_rfl) rfl hl (by kernel_rfl) (by kernel_rfl) h
/- spec.l01Put -/
/- live [0, 3, 5, 6, 32, 33, 34, 35, 36, 37] -/
def k115_b0 : KC := (.seq (.seq (.ops [⟨(some 11), none, .mv (.t 5)⟩, ⟨(some 12), none, .mv (.t 6)⟩, ⟨(some 13), none, .bin .lss (.t 11) (.t 12)⟩])
  (.cond (.t 13) .skip (.exit 0)))
  (.block 1 (.seq (.ops [⟨(some 14), none, .mv (.t 5)⟩, ⟨(some 15), none, .mv (.t 6)⟩, ⟨(some 16), none, .bin .add (.t 14) (.t 15)⟩, ⟨(some 17), none, .bin .quo (.t 16) (.c (.int .i64 2))⟩, ⟨(some 7), none, .mv (.t 17)⟩])
  (.seq (.draw [⟨(some 18), none, .mv (.t 0)⟩, ⟨(some 19), none, .mv (.t 7)⟩, ⟨(some 20), none, .idxS 6 (.t 18) (.t 19)⟩, ⟨(some 21), none, .load true 6 (.t 20)⟩, ⟨(some 22), none, .load true 6 (.t 3)⟩, ⟨(some 23), none, .pcall (.c (.fn (.func 143) [] [])) [(.t 21), (.t 22)]⟩])
  (.cond (.t 23) (.ops [⟨(some 24), none, .mv (.t 7)⟩, ⟨(some 25), none, .bin .add (.t 24) (.c (.int .i64 1))⟩, ⟨(some 5), none, .mv (.t 25)⟩]) (.ops [⟨(some 26), none, .mv (.t 7)⟩, ⟨(some 6), none, .mv (.t 26)⟩]))))))
def k115 : KC := (.seq (.ops [⟨(some 3), none, .box true (.t 1)⟩, ⟨(some 4), none, .mv (.c (.nils))⟩])
  (.seq (.ops [⟨(some 9), none, .mv (.t 0)⟩, ⟨(some 10), none, .len false (.t 9)⟩, ⟨(some 5), none, .mv (.c (.int .i64 0))⟩, ⟨(some 6), none, .mv (.t 10)⟩])
  (.seq (.block 0 (.loop k115_b0))
  (.seq (.seq (.draw [⟨(some 27), none, .mv (.t 5)⟩, ⟨(some 28), none, .mv (.t 0)⟩, ⟨(some 29), none, .len false (.t 28)⟩, ⟨(some 30), none, .bin .lss (.t 27) (.t 29)⟩, ⟨(some 31), none, .mv (.t 30)⟩, ⟨(some 32), some (31, true), .mv (.t 0)⟩, ⟨(some 33), some (31, true), .mv (.t 5)⟩, ⟨(some 34), some (31, true), .idxS 6 (.t 32) (.t 33)⟩, ⟨(some 35), some (31, true), .load true 6 (.t 34)⟩, ⟨(some 36), some (31, true), .load true 6 (.t 3)⟩, ⟨(some 37), some (31, true), .aeq false 6 (.t 35) (.t 36)⟩, ⟨(some 38), none, .pick (.t 31) (.t 37) (.c (.bool false))⟩])
  (.cond (.t 38) (.seq (.ops [⟨(some 39), none, .mv (.t 0)⟩, ⟨(some 4), none, .mv (.t 39)⟩])
  .ret) .skip))
  (.seq (.tree (.op ⟨(some 41), none, .mv (.t 0)⟩ (.op ⟨(some 42), none, .mv (.t 5)⟩ (.alt (.op ⟨(some 40), none, .bsl false 59 6 []⟩ (.alt (.op ⟨(some 43), none, .sls 6 (.t 41) none (some (.t 42))⟩ (.alt (.op ⟨(some 44), none, .app (.t 40) (.t 43) 59 6⟩ (.op ⟨(some 45), none, .load true 6 (.t 3)⟩ (.op ⟨(some 46), none, .bsl true 59 6 [(.t 45)]⟩ (.op ⟨(some 47), none, .app (.t 44) (.t 46) 59 6⟩ (.op ⟨(some 8), none, .mv (.t 47)⟩ .fin))))) (.op ⟨(some 45), none, .load true 6 (.t 3)⟩ (.alt (.op ⟨(some 44), none, .app (.t 40) (.t 43) 59 6⟩ (.op ⟨(some 46), none, .bsl true 59 6 [(.t 45)]⟩ (.op ⟨(some 47), none, .app (.t 44) (.t 46) 59 6⟩ (.op ⟨(some 8), none, .mv (.t 47)⟩ .fin)))) (.op ⟨(some 46), none, .bsl true 59 6 [(.t 45)]⟩ (.op ⟨(some 44), none, .app (.t 40) (.t 43) 59 6⟩ (.op ⟨(some 47), none, .app (.t 44) (.t 46) 59 6⟩ (.op ⟨(some 8), none, .mv (.t 47)⟩ .fin)))))))) (.op ⟨(some 45), none, .load true 6 (.t 3)⟩ (.alt (.op ⟨(some 43), none, .sls 6 (.t 41) none (some (.t 42))⟩ (.alt (.op ⟨(some 44), none, .app (.t 40) (.t 43) 59 6⟩ (.op ⟨(some 46), none, .bsl true 59 6 [(.t 45)]⟩ (.op ⟨(some 47), none, .app (.t 44) (.t 46) 59 6⟩ (.op ⟨(some 8), none, .mv (.t 47)⟩ .fin)))) (.op ⟨(some 46), none, .bsl true 59 6 [(.t 45)]⟩ (.op ⟨(some 44), none, .app (.t 40) (.t 43) 59 6⟩ (.op ⟨(some 47), none, .app (.t 44) (.t 46) 59 6⟩ (.op ⟨(some 8), none, .mv (.t 47)⟩ .fin)))))) (.op ⟨(some 46), none, .bsl true 59 6 [(.t 45)]⟩ (.op ⟨(some 43), none, .sls 6 (.t 41) none (some (.t 42))⟩ (.op ⟨(some 44), none, .app (.t 40) (.t 43) 59 6⟩ (.op ⟨(some 47), none, .app (.t 44) (.t 46) 59 6⟩ (.op ⟨(some 8), none, .mv (.t 47)⟩ .fin))))))))) (.alt (.op ⟨(some 43), none, .sls 6 (.t 41) none (some (.t 42))⟩ (.alt (.op ⟨(some 40), none, .bsl false 59 6 []⟩ (.alt (.op ⟨(some 44), none, .app (.t 40) (.t 43) 59 6⟩ (.op ⟨(some 45), none, .load true 6 (.t 3)⟩ (.op ⟨(some 46), none, .bsl true 59 6 [(.t 45)]⟩ (.op ⟨(some 47), none, .app (.t 44) (.t 46) 59 6⟩ (.op ⟨(some 8), none, .mv (.t 47)⟩ .fin))))) (.op ⟨(some 45), none, .load true 6 (.t 3)⟩ (.alt (.op ⟨(some 44), none, .app (.t 40) (.t 43) 59 6⟩ (.op ⟨(some 46), none, .bsl true 59 6 [(.t 45)]⟩ (.op ⟨(some 47), none, .app (.t 44) (.t 46) 59 6⟩ (.op ⟨(some 8), none, .mv (.t 47)⟩ .fin)))) (.op ⟨(some 46), none, .bsl true 59 6 [(.t 45)]⟩ (.op ⟨(some 44), none, .app (.t 40) (.t 43) 59 6⟩ (.op ⟨(some 47), none, .app (.t 44) (.t 46) 59 6⟩ (.op ⟨(some 8), none, .mv (.t 47)⟩ .fin)))))))) (.op ⟨(some 45), none, .load true 6 (.t 3)⟩ (.alt (.op ⟨(some 40), none, .bsl false 59 6 []⟩ (.alt (.op ⟨(some 44), none, .app (.t 40) (.t 43) 59 6⟩ (.op ⟨(some 46), none, .bsl true 59 6 [(.t 45)]⟩ (.op ⟨(some 47), none, .app (.t 44) (.t 46) 59 6⟩ (.op ⟨(some 8), none, .mv (.t 47)⟩ .fin)))) (.op ⟨(some 46), none, .bsl true 59 6 [(.t 45)]⟩ (.op ⟨(some 44), none, .app (.t 40) (.t 43) 59 6⟩ (.op ⟨(some 47), none, .app (.t 44) (.t 46) 59 6⟩ (.op ⟨(some 8), none, .mv (.t 47)⟩ .fin)))))) (.op ⟨(some 46), none, .bsl true 59 6 [(.t 45)]⟩ (.op ⟨(some 40), none, .bsl false 59 6 []⟩ (.op ⟨(some 44), none, .app (.t 40) (.t 43) 59 6⟩ (.op ⟨(some 47), none, .app (.t 44) (.t 46) 59 6⟩ (.op ⟨(some 8), none, .mv (.t 47)⟩ .fin))))))))) (.op ⟨(some 45), none, .load true 6 (.t 3)⟩ (.alt (.op ⟨(some 40), none, .bsl false 59 6 []⟩ (.alt (.op ⟨(some 43), none, .sls 6 (.t 41) none (some (.t 42))⟩ (.alt (.op ⟨(some 44), none, .app (.t 40) (.t 43) 59 6⟩ (.op ⟨(some 46), none, .bsl true 59 6 [(.t 45)]⟩ (.op ⟨(some 47), none, .app (.t 44) (.t 46) 59 6⟩ (.op ⟨(some 8), none, .mv (.t 47)⟩ .fin)))) (.op ⟨(some 46), none, .bsl true 59 6 [(.t 45)]⟩ (.op ⟨(some 44), none, .app (.t 40) (.t 43) 59 6⟩ (.op ⟨(some 47), none, .app (.t 44) (.t 46) 59 6⟩ (.op ⟨(some 8), none, .mv (.t 47)⟩ .fin)))))) (.op ⟨(some 46), none, .bsl true 59 6 [(.t 45)]⟩ (.op ⟨(some 43), none, .sls 6 (.t 41) none (some (.t 42))⟩ (.op ⟨(some 44), none, .app (.t 40) (.t 43) 59 6⟩ (.op ⟨(some 47), none, .app (.t 44) (.t 46) 59 6⟩ (.op ⟨(some 8), none, .mv (.t 47)⟩ .fin))))))) (.alt (.op ⟨(some 43), none, .sls 6 (.t 41) none (some (.t 42))⟩ (.alt (.op ⟨(some 40), none, .bsl false 59 6 []⟩ (.alt (.op ⟨(some 44), none, .app (.t 40) (.t 43) 59 6⟩ (.op ⟨(some 46), none, .bsl true 59 6 [(.t 45)]⟩ (.op ⟨(some 47), none, .app (.t 44) (.t 46) 59 6⟩ (.op ⟨(some 8), none, .mv (.t 47)⟩ .fin)))) (.op ⟨(some 46), none, .bsl true 59 6 [(.t 45)]⟩ (.op ⟨(some 44), none, .app (.t 40) (.t 43) 59 6⟩ (.op ⟨(some 47), none, .app (.t 44) (.t 46) 59 6⟩ (.op ⟨(some 8), none, .mv (.t 47)⟩ .fin)))))) (.op ⟨(some 46), none, .bsl true 59 6 [(.t 45)]⟩ (.op ⟨(some 40), none, .bsl false 59 6 []⟩ (.op ⟨(some 44), none, .app (.t 40) (.t 43) 59 6⟩ (.op ⟨(some 47), none, .app (.t 44) (.t 46) 59 6⟩ (.op ⟨(some 8), none, .mv (.t 47)⟩ .fin))))))) (.op ⟨(some 46), none, .bsl true 59 6 [(.t 45)]⟩ (.alt (.op ⟨(some 40), none, .bsl false 59 6 []⟩ (.op ⟨(some 43), none, .sls 6 (.t 41) none (some (.t 42))⟩ (.op ⟨(some 44), none, .app (.t 40) (.t 43) 59 6⟩ (.op ⟨(some 47), none, .app (.t 44) (.t 46) 59 6⟩ (.op ⟨(some 8), none, .mv (.t 47)⟩ .fin))))) (.op ⟨(some 43), none, .sls 6 (.t 41) none (some (.t 42))⟩ (.op ⟨(some 40), none, .bsl false 59 6 []⟩ (.op ⟨(some 44), none, .app (.t 40) (.t 43) 59 6⟩ (.op ⟨(some 47), none, .app (.t 44) (.t 46) 59 6⟩ (.op ⟨(some 8), none, .mv (.t 47)⟩ .fin)))))))))))))))
  (.seq (.ops [⟨(some 48), none, .mv (.t 8)⟩, ⟨(some 49), none, .mv (.t 0)⟩, ⟨(some 50), none, .mv (.t 5)⟩, ⟨(some 51), none, .sls 6 (.t 49) (some (.t 50)) none⟩, ⟨(some 52), none, .app (.t 48) (.t 51) 59 6⟩, ⟨(some 4), none, .mv (.t 52)⟩])
  .ret))))))
theorem e115 {args : List PV} {σ : Heap} {K : PV → Heap → Prop} (hl : args.length ≤ 53) (h : Wf σ → (∀ a ∈ args, PV.upto σ.length a) → vc (mkCfg Try.prog mixed [3, 46] 53 σ.length) k115 (FinK σ.length [.t 4] K) (argEnv 0 args) σ) : ACall Try.prog 115 args σ K :=
  ACall_enter (C := mkCfg Try.prog mixed [3, 46] 53 σ.length) (c := Try.f115.body.getD .skip) Try.func115 (by kernel_rfl) (by kernel_rfl) (by kernel_rfl) rfl hl (by kernel_rfl) (by kernel_rfl) h
end Go.Proofs.Ytpepbomifjbgnaa
namespace Go.Proofs.Ytpepbomifjbgnaa
open Go.Kv
set_option linter.unusedVariables false
set_option linter.unusedSimpArgs false
attribute [local irreducible] ACall PCall KL
/-- Maps in ascending order. -/
def SrM (n : Nat) (S : List (List Nat)) : Prop := (∀ f ∈ S, Ok f n) ∧ S.Pairwise (fun a b => nbl n a < nbl n b)
/-- How many come ahead of a map. -/
def loM (n : Nat) (S : List (List Nat)) (f : List Nat) : Nat := (S.takeWhile fun x => decide (nbl n x < nbl n f)).length
theorem loM_le (n : Nat) (S : List (List Nat)) (f : List Nat) : loM n S f ≤ S.length := by
  unfold loM
  exact (List.takeWhile_sublist _).length_le
theorem loM_iff {n : Nat} : ∀ {S : List (List Nat)} (f : List Nat), S.Pairwise (fun a b => nbl n a < nbl n b) → ∀ i (h : i < S.length), nbl n S[i] < nbl n f ↔ i < loM n S f
  | [], f, _, i, h => by simp at h
  | a :: S, f, hp, i, h => by
    rw [List.pairwise_cons] at hp
    unfold loM
    rw [List.takeWhile_cons]
    by_cases ha : nbl n a < nbl n f
    · rw [if_pos (by simpa using ha), List.length_cons]
      cases i with
      | zero => simp [ha]
      | succ i =>
        have := loM_iff f hp.2 i (by simpa using h)
        simp only [List.getElem_cons_succ]
        rw [this]; unfold loM; omega
    · rw [if_neg (by simpa using ha)]
      simp only [List.length_nil, Nat.not_lt_zero, iff_false]
      cases i with
      | zero => exact ha
      | succ i =>
        have := hp.1 _ (List.getElem_mem (by simpa using h : i < S.length))
        simp only [List.getElem_cons_succ]
        omega
theorem p116 (n : Nat) (S : List (List Nat)) (hS : SrM n S) (hl : S.length ≤ 100000) (f : List Nat) (hf : Ok f n) : Pure Try.prog 116 [.list (aggs (S.map mp)), .agg (ints (mp f))] (.int .i64 (if loM n S f < S.length ∧ S.getD (loM n S f) [] = f then loM n S f else -1)) := by
  have hlf := hf.mp_len
  have hle := loM_le n S f
  refine e116 (by simp) fun _ _ => ?_
  simp only [k116, argEnv, hlf, take6, List.drop_zero, Int.cast_ofNat_Int, go_sem, ↓reduceIte, Nat.reduceEqDiff, Nat.reduceAdd, Nat.reduceMul, Nat.reduceLeDiff, Nat.reduceLT, Int.reduceLE, Int.reduceLT, reduceCtorEq]
  try simp only [OpK_eq, HKv, hlf, aggs_length, List.length_map, take6, List.drop_zero, Int.cast_ofNat_Int, go_sem, ↓reduceIte, Nat.reduceEqDiff, Nat.reduceAdd, Nat.reduceMul, Nat.reduceLeDiff, Nat.reduceLT, Int.reduceLE, Int.reduceLT, reduceCtorEq]
  have hSl : (S.map mp).length = S.length := List.length_map _
  refine KL_ind k116_b0.eq_1 (fun y : Nat × Nat => [(0, .list (aggs (S.map mp))), (3, .fptr (ints (mp f)) 0), (5, .int .i64 y.1), (6, .int .i64 y.2), (31, .undef), (32, .undef), (33, .undef), (34, .undef), (35, .undef), (36, .undef)]) (fun _ => []) (fun y => y.1 ≤ loM n S f ∧ loM n S f ≤ y.2 ∧ y.2 ≤ S.length) (fun y => y.2 - y.1) [0, 3, 5, 6, 31, 32, 33, 34, 35, 36] (0, S.length) (by simp [keep]) rfl ⟨Nat.zero_le _, hle, Nat.le_refl _⟩ fun ⟨lw, hg⟩ ⟨h1, h2, h3⟩ ih => ?_
  simp only at h1 h2 h3
  try simp only [OpK_eq, HKv, hlf, aggs_length, List.length_map, take6, List.drop_zero, Int.cast_ofNat_Int, go_sem, ↓reduceIte, Nat.reduceEqDiff, Nat.reduceAdd, Nat.reduceMul, Nat.reduceLeDiff, Nat.reduceLT, Int.reduceLE, Int.reduceLT, reduceCtorEq]
  refine ⟨fun g1 => ?_, fun g1 => ?_⟩
  · have hm : ((lw : Int) + hg) / 2 = (((lw + hg) / 2 : Nat) : Int) := by omega
    rw [hm]
    have hmS : (lw + hg) / 2 < S.length := by omega
    have hgm : (S.map mp).getD ((lw + hg) / 2) [] = mp S[(lw + hg) / 2] := by simp [List.getD_eq_getElem?_getD, hmS]
    have hOk := hS.1 _ (List.getElem_mem hmS)
    have h6m := hOk.mp_len
    have hiff := loM_iff f hS.2 ((lw + hg) / 2) hmS
    have hlt := ltM_nbl hOk hf
    generalize (lw + hg) / 2 = m at *
    try simp only [OpK_eq, HKv, hlf, aggs_length, List.length_map, hgm, h6m, take6, List.drop_zero, Int.cast_ofNat_Int, go_sem, ↓reduceIte, Nat.reduceEqDiff, Nat.reduceAdd, Nat.reduceMul, Nat.reduceLeDiff, Nat.reduceLT, Int.reduceLE, Int.reduceLT, reduceCtorEq]
    refine ⟨by omega, by omega, by omega, by omega, fun _ => ?_⟩
    refine (p143 S[m] f n hOk hf).pgo ?_
    by_cases hb : nbl n S[m] < nbl n f
    · have e : ltM S[m] f = true := hlt.2 hb
      have := hiff.1 hb
      rw [e]
      try simp only [OpK_eq, HKv, take6, List.drop_zero, Int.cast_ofNat_Int, go_sem, ↓reduceIte, Nat.reduceEqDiff, Nat.reduceAdd, Nat.reduceMul, Nat.reduceLeDiff, Nat.reduceLT, Int.reduceLE, Int.reduceLT, reduceCtorEq]
      exact ⟨by omega, ih (m + 1, hg) ⟨by show m + 1 ≤ loM n S f; omega, h2, h3⟩ (by show hg - (m + 1) < hg - lw; omega) _ _ (by simp [keep]) rfl⟩
    · have e : ltM S[m] f = false := by
        cases hc : ltM S[m] f with
        | true => exact absurd (hlt.1 hc) hb
        | false => rfl
      have : ¬ m < loM n S f := fun h => hb (hiff.2 h)
      rw [e]
      try simp only [OpK_eq, HKv, take6, List.drop_zero, Int.cast_ofNat_Int, go_sem, ↓reduceIte, Nat.reduceEqDiff, Nat.reduceAdd, Nat.reduceMul, Nat.reduceLeDiff, Nat.reduceLT, Int.reduceLE, Int.reduceLT, reduceCtorEq]
      exact ih (lw, m) ⟨h1, by show loM n S f ≤ m; omega, by show m ≤ S.length; omega⟩ (by show m - lw < hg - lw; omega) _ _ (by simp [keep]) rfl
  · obtain rfl : lw = loM n S f := by omega
    by_cases hlo : loM n S f < S.length
    · have hgm : (S.map mp).getD (loM n S f) [] = mp S[loM n S f] := by simp [List.getD_eq_getElem?_getD, hlo]
      have hgs : S.getD (loM n S f) [] = S[loM n S f] := by simp [List.getD_eq_getElem?_getD, hlo]
      have hOk := hS.1 _ (List.getElem_mem hlo)
      have h6m := hOk.mp_len
      rw [hgm, hgs, take6 h6m]
      refine ⟨fun _ => ⟨by omega, fun _ => ⟨h6m, by omega, h6m, fun he => Kv.Fin.still ⟨?_, rfl⟩, fun he => Kv.Fin.still ⟨?_, rfl⟩⟩⟩, fun h => absurd hlo (by omega)⟩
      · rw [if_pos ⟨hlo, mp_inj he⟩]
      · rw [if_neg (fun h => he (by rw [h.2]))]
    · refine ⟨fun h => absurd (by omega) hlo, fun _ => Kv.Fin.still ⟨by rw [if_neg (fun h => hlo h.1)], rfl⟩⟩
theorem ok6' {m : List Int} (hm : m.length = 6) : okL 6 [PV.agg (ints m)] := by
  have := okL_aggs 6 [m]
  simp only [List.mem_singleton, forall_eq, hm] at this
  simpa [aggs] using this
/-- A map is put in its place. -/
def putM (n : Nat) (S : List (List Nat)) (f : List Nat) : List (List Nat) := if loM n S f < S.length ∧ S.getD (loM n S f) [] = f then S else S.take (loM n S f) ++ f :: S.drop (loM n S f)
set_option maxHeartbeats 4000000 in
theorem p115 (n : Nat) (S : List (List Nat)) (hS : SrM n S) (hl : S.length ≤ 100000) (f : List Nat) (hf : Ok f n) : Pure Try.prog 115 [.list (aggs (S.map mp)), .agg (ints (mp f))] (.list (aggs ((putM n S f).map mp))) := by
  have hlf := hf.mp_len
  have hle := loM_le n S f
  refine e115 (by simp) fun _ _ => ?_
  simp only [k115, argEnv, hlf, take6, List.drop_zero, Int.cast_ofNat_Int, go_sem, ↓reduceIte, Nat.reduceEqDiff, Nat.reduceAdd, Nat.reduceMul, Nat.reduceLeDiff, Nat.reduceLT, Int.reduceLE, Int.reduceLT, reduceCtorEq]
  try simp only [OpK_eq, HKv, hlf, aggs_length, List.length_map, take6, List.drop_zero, Int.cast_ofNat_Int, go_sem, ↓reduceIte, Nat.reduceEqDiff, Nat.reduceAdd, Nat.reduceMul, Nat.reduceLeDiff, Nat.reduceLT, Int.reduceLE, Int.reduceLT, reduceCtorEq]
  have hSl : (S.map mp).length = S.length := List.length_map _
  refine KL_ind k115_b0.eq_1 (fun y : Nat × Nat => [(0, .list (aggs (S.map mp))), (3, .fptr (ints (mp f)) 0), (5, .int .i64 y.1), (6, .int .i64 y.2), (32, .undef), (33, .undef), (34, .undef), (35, .undef), (36, .undef), (37, .undef)]) (fun _ => []) (fun y => y.1 ≤ loM n S f ∧ loM n S f ≤ y.2 ∧ y.2 ≤ S.length) (fun y => y.2 - y.1) [0, 3, 5, 6, 32, 33, 34, 35, 36, 37] (0, S.length) (by simp [keep]) rfl ⟨Nat.zero_le _, hle, Nat.le_refl _⟩ fun ⟨lw, hg⟩ ⟨h1, h2, h3⟩ ih => ?_
  simp only at h1 h2 h3
  try simp only [OpK_eq, HKv, hlf, aggs_length, List.length_map, take6, List.drop_zero, Int.cast_ofNat_Int, go_sem, ↓reduceIte, Nat.reduceEqDiff, Nat.reduceAdd, Nat.reduceMul, Nat.reduceLeDiff, Nat.reduceLT, Int.reduceLE, Int.reduceLT, reduceCtorEq]
  refine ⟨fun g1 => ?_, fun g1 => ?_⟩
  · have hm : ((lw : Int) + hg) / 2 = (((lw + hg) / 2 : Nat) : Int) := by omega
    rw [hm]
    have hmS : (lw + hg) / 2 < S.length := by omega
    have hgm : (S.map mp).getD ((lw + hg) / 2) [] = mp S[(lw + hg) / 2] := by simp [List.getD_eq_getElem?_getD, hmS]
    have hOk := hS.1 _ (List.getElem_mem hmS)
    have h6m := hOk.mp_len
    have hiff := loM_iff f hS.2 ((lw + hg) / 2) hmS
    have hlt := ltM_nbl hOk hf
    generalize (lw + hg) / 2 = m at *
    try simp only [OpK_eq, HKv, hlf, aggs_length, List.length_map, hgm, h6m, take6, List.drop_zero, Int.cast_ofNat_Int, go_sem, ↓reduceIte, Nat.reduceEqDiff, Nat.reduceAdd, Nat.reduceMul, Nat.reduceLeDiff, Nat.reduceLT, Int.reduceLE, Int.reduceLT, reduceCtorEq]
    refine ⟨by omega, by omega, by omega, by omega, fun _ => ?_⟩
    refine (p143 S[m] f n hOk hf).pgo ?_
    by_cases hb : nbl n S[m] < nbl n f
    · have e : ltM S[m] f = true := hlt.2 hb
      have := hiff.1 hb
      rw [e]
      try simp only [OpK_eq, HKv, take6, List.drop_zero, Int.cast_ofNat_Int, go_sem, ↓reduceIte, Nat.reduceEqDiff, Nat.reduceAdd, Nat.reduceMul, Nat.reduceLeDiff, Nat.reduceLT, Int.reduceLE, Int.reduceLT, reduceCtorEq]
      exact ⟨by omega, ih (m + 1, hg) ⟨by show m + 1 ≤ loM n S f; omega, h2, h3⟩ (by show hg - (m + 1) < hg - lw; omega) _ _ (by simp [keep]) rfl⟩
    · have e : ltM S[m] f = false := by
        cases hc : ltM S[m] f with
        | true => exact absurd (hlt.1 hc) hb
        | false => rfl
      have : ¬ m < loM n S f := fun h => hb (hiff.2 h)
      rw [e]
      try simp only [OpK_eq, HKv, take6, List.drop_zero, Int.cast_ofNat_Int, go_sem, ↓reduceIte, Nat.reduceEqDiff, Nat.reduceAdd, Nat.reduceMul, Nat.reduceLeDiff, Nat.reduceLT, Int.reduceLE, Int.reduceLT, reduceCtorEq]
      exact ih (lw, m) ⟨h1, by show loM n S f ≤ m; omega, by show m ≤ S.length; omega⟩ (by show m - lw < hg - lw; omega) _ _ (by simp [keep]) rfl
  · obtain rfl : lw = loM n S f := by omega
    have hnew : ¬ (loM n S f < S.length ∧ S.getD (loM n S f) [] = f) → putM n S f = S.take (loM n S f) ++ f :: S.drop (loM n S f) := fun h => by unfold putM; rw [if_neg h]
    generalize hlo' : loM n S f = lo at *
    by_cases hc : lo < S.length ∧ S.getD lo [] = f
    · have hgm : (S.map mp).getD lo [] = mp f := by
        have : (S.map mp).getD lo [] = mp (S.getD lo []) := by simp [List.getD_eq_getElem?_getD, hc.1]
        rw [this, hc.2]
      have hp : putM n S f = S := by unfold putM; rw [hlo', if_pos hc]
      rw [hgm, take6 hlf, hp]
      exact ⟨fun _ => ⟨by omega, fun _ => ⟨hlf, by omega, hlf, fun _ => Kv.Fin.still ⟨rfl, rfl⟩, fun h => absurd rfl h⟩⟩, fun h => absurd hc.1 (by omega)⟩
    · rw [hnew hc]
      have hS6 : ∀ r ∈ S.map mp, r.length = 6 := fun r hr => by
        obtain ⟨g, hg', rfl⟩ := List.mem_map.1 hr
        exact (hS.1 g hg').mp_len
      have hget : lo < S.length → (S.map mp).getD lo [] = mp (S.getD lo []) ∧ Ok (S.getD lo []) n := fun h => by
        have e : S.getD lo [] = S[lo] := by simp [List.getD_eq_getElem?_getD, h]
        rw [e]
        exact ⟨by simp [List.getD_eq_getElem?_getD, h], hS.1 _ (List.getElem_mem h)⟩
      have hg6 : lo < S.length → ((S.map mp).getD lo []).length = 6 := fun h => by rw [(hget h).1]; exact (hget h).2.mp_len
      have hne : lo < S.length → List.take 6 ((S.map mp).getD lo []) ≠ mp f := fun h e => by
        rw [take6 (hg6 h), (hget h).1] at e
        exact hc ⟨h, mp_inj e⟩
      obtain ⟨A, hA⟩ : ∃ A, A = (S.map mp).take lo := ⟨_, rfl⟩
      obtain ⟨B, hB⟩ : ∃ B, B = (S.map mp).drop lo := ⟨_, rfl⟩
      have a1 : List.take (lo - 0) (S.map mp) = A := by rw [Nat.sub_zero, hA]
      have a2 : List.take lo (S.map mp) = A := hA.symm
      have b1 : List.take (S.length - lo) (List.drop lo (S.map mp)) = B := by rw [hB, List.take_of_length_le (by rw [List.length_drop, List.length_map]; exact Nat.le_refl _)]
      have hAl : A.length = lo := by rw [hA, List.length_take, List.length_map]; omega
      have hBl : B.length = S.length - lo := by rw [hB, List.length_drop, List.length_map]
      have hokA : okL 6 (aggs A) := by rw [okL_aggs, hA]; exact fun r hr => hS6 r (List.mem_of_mem_take hr)
      have hokB : okL 6 (aggs B) := by rw [okL_aggs, hB]; exact fun r hr => hS6 r (List.mem_of_mem_drop hr)
      have hokS : okL 6 (aggs (S.map mp)) := by rw [okL_aggs]; exact hS6
      have hlen4 : lo + 1 + (S.length - lo) = (A ++ mp f :: B).length := by rw [List.length_append, List.length_cons]; omega
      have t0 : (List.take 0 ([] : List PV)) ++ aggs A = aggs A := rfl
      have t1 : (aggs A).take lo ++ [PV.agg (ints (mp f))] = aggs (A ++ [mp f]) := by
        rw [List.take_of_length_le (by rw [aggs_length]; omega)]; simp [aggs]
      have t2 : (aggs (A ++ [mp f])).take (lo + 1) ++ aggs B = aggs (A ++ mp f :: B) := by
        rw [List.take_of_length_le (by rw [aggs_length, List.length_append, List.length_singleton]; omega)]; simp [aggs]
      have t3 : List.take lo A = A := List.take_of_length_le (by omega)
      have t4 : List.take (lo + 1) (A ++ [mp f]) = A ++ [mp f] := List.take_of_length_le (by rw [List.length_append, List.length_singleton]; omega)
      have t5 : aggs A ++ [PV.agg (ints (mp f))] = aggs (A ++ [mp f]) := by simp [aggs]
      have t6 : aggs (A ++ [mp f]) ++ aggs B = aggs (A ++ mp f :: B) := by simp [aggs]
      have hfin : (S.take lo ++ f :: S.drop lo).map mp = A ++ mp f :: B := by rw [hA, hB, List.map_append, List.map_cons, List.map_take, List.map_drop]
      have hlen3 : (A ++ [mp f]).length = lo + 1 := by rw [List.length_append, List.length_singleton]; omega
      rw [hfin]
      clear hfin hA hB
      have hok1 := ok6' hlf
      have hil : (ints (mp f)).length = 6 := by rw [ints_length, hlf]
      repeat' (first
        | omega
        | (rw [vT_alt]; refine ⟨?_, ?_⟩)
        | exact hg6 (by omega)
        | (have h6' := hg6 (by omega); omega)
        | (rw [take6 (hg6 (by omega))]; exact hg6 (by omega))
        | exact hokA
        | exact hokS
        | exact hokB
        | exact hok1
        | (exfalso; exact hne (by omega) (by assumption))
        | (with_reducible refine And.intro ?_ ?_)
        | (with_reducible intro _)
        | (simp only [OpK_eq, HKv, a1, a2, b1, hAl, hBl, hlen3, t0, t1, t2, t3, t4, t5, t6, hlf, hil, aggs_take, aggs_drop, aggs_length, List.length_map, take6, List.drop_zero, Int.cast_ofNat_Int, go_sem, ↓reduceIte, Nat.reduceEqDiff, Nat.reduceAdd, Nat.reduceMul, Nat.reduceLeDiff, Nat.reduceLT, Int.reduceLE, Int.reduceLT, reduceCtorEq]))
      all_goals exact Kv.Fin.freeze (Imm.refa' rfl hlen4) ⟨rfl, rfl⟩
end Go.Proofs.Ytpepbomifjbgnaa
