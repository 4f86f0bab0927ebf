/- Numbers of commuting maps: both sides, and the law's function. -/
import Derived.Test.YtkljidghocnllaaCb
import Derived.Test.YtkljidghocnllaaMA
import Derived.Test.YtkljidghocnllaaMB
namespace Go.Proofs.Ytkljidghocnllaa
open Go.Kv
set_option maxRecDepth 100000
/- impl.commute -/
def k101 : KC := (.seq (.ops [⟨(some 2), none, .box true (.t 0)⟩, ⟨(some 3), none, .box true (.t 1)⟩, ⟨(some 4), none, .mv (.c (.bool false))⟩])
  (.seq (.draw [⟨(some 5), none, .load true 6 (.t 2)⟩, ⟨(some 6), none, .load true 6 (.t 3)⟩, ⟨(some 8), none, .load true 6 (.t 3)⟩, ⟨(some 9), none, .load true 6 (.t 2)⟩, ⟨(some 7), none, .pcall (.c (.fn (.func 131) [] [])) [(.t 5), (.t 6)]⟩, ⟨(some 10), none, .pcall (.c (.fn (.func 131) [] [])) [(.t 8), (.t 9)]⟩, ⟨(some 11), none, .aeq false 6 (.t 7) (.t 10)⟩, ⟨(some 4), none, .mv (.t 11)⟩])
  .ret))
theorem e101 {args : List PV} {σ : Heap} {K : PV → Heap → Prop} (hl : args.length ≤ 12) (h : Wf σ → (∀ a ∈ args, PV.upto σ.length a) → vc (mkCfg Try.prog mixed [2, 3] 12 σ.length) k101 (FinK σ.length [.t 4] K) (argEnv 0 args) σ) : ACall Try.prog 101 args σ K :=
  ACall_enter (C := mkCfg Try.prog mixed [2, 3] 12 σ.length) (c := Try.f101.body.getD .skip) Try.func101 (by kernel_rfl) (by kernel_rfl) (by kernel_rfl) rfl hl (by kernel_rfl) (by kernel_rfl) h
end Go.Proofs.Ytkljidghocnllaa
namespace Go.Proofs.Ytkljidghocnllaa
open Go.Kv
set_option linter.unusedVariables false
set_option linter.unusedSimpArgs false
attribute [local irreducible] ACall PCall KL
theorem p101 (f g : List Nat) (n : Nat) (hf : Ok f n) (hg : Ok g n) : Pure Try.prog 101 [.agg (ints (mp f)), .agg (ints (mp g))] (.bool (decide (mul f g = mul g f))) := by
  have hlg := hg.mp_len
  have hlf := hf.mp_len
  have h1 := (hf.mul hg).mp_len
  have h2 := (hg.mul hf).mp_len
  refine e101 (by simp) fun _ _ => ?_
  simp only [k101, argEnv, hlf, hlg, take6, List.drop_zero, Int.cast_ofNat_Int, go_sem, ↓reduceIte, Nat.reduceEqDiff, Nat.reduceAdd, Nat.reduceMul, Nat.reduceLeDiff, Nat.reduceLT, Int.reduceLE, Int.reduceLT, reduceCtorEq]
  refine (p131 f g n hf hg).pgo ?_
  try simp only [take6, List.drop_zero, Int.cast_ofNat_Int, go_sem, ↓reduceIte, Nat.reduceEqDiff, Nat.reduceAdd, Nat.reduceMul, Nat.reduceLeDiff, Nat.reduceLT, Int.reduceLE, Int.reduceLT, reduceCtorEq]
  refine (p131 g f n hg hf).pgo ?_
  try simp only [h1, h2, take6, List.drop_zero, Int.cast_ofNat_Int, go_sem, ↓reduceIte, Nat.reduceEqDiff, Nat.reduceAdd, Nat.reduceMul, Nat.reduceLeDiff, Nat.reduceLT, Int.reduceLE, Int.reduceLT, reduceCtorEq]
  refine Kv.Fin.still ⟨?_, rfl⟩
  congr 1
  exact decide_eq_decide.2 ⟨mp_inj, fun h => by rw [h]⟩
def comM (f : List Nat) (n : Nat) : List (List Nat) := (allM n).filter fun g => decide (mul f g = mul g f)
theorem allM_ok {n : Nat} (h1 : 1 ≤ n) (h5 : n ≤ 5) {g : List Nat} (h : g ∈ allM n) : Ok g n := by
  simp only [allM, List.mem_map] at h
  obtain ⟨k, _, rfl⟩ := h
  exact dg_ok h1 h5 k
end Go.Proofs.Ytkljidghocnllaa
