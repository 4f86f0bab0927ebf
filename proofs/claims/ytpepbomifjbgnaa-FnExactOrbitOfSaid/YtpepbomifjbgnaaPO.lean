/- The points of a set of bits. -/
import Derived.Test.YtpepbomifjbgnaaCb
import Derived.Test.YtpepbomifjbgnaaSS
namespace Go.Proofs.Ytpepbomifjbgnaa
open Go.Kv
set_option maxRecDepth 100000
/- spec.l01Points -/
/- live [0, 3, 4] -/
def k58_b0 : KC := (.seq (.seq (.ops [⟨(some 6), none, .mv (.t 4)⟩, ⟨(some 7), none, .bin .lss (.t 6) (.c (.int .i64 62))⟩])
  (.cond (.t 7) .skip (.exit 0)))
  (.seq (.block 1 (.seq (.ops [⟨(some 10), none, .mv (.t 0)⟩, ⟨(some 11), none, .mv (.t 4)⟩, ⟨(some 12), none, .conv .u64 (.t 11)⟩, ⟨(some 13), none, .bin .shr (.t 10) (.t 12)⟩, ⟨(some 14), none, .bin .and (.t 13) (.c (.int .i64 1))⟩, ⟨(some 15), none, .bin .eql (.t 14) (.c (.int .i64 1))⟩])
  (.cond (.t 15) (.ops [⟨(some 16), none, .mv (.t 3)⟩, ⟨(some 17), none, .mv (.t 4)⟩, ⟨(some 18), none, .bsl true 2 1 [(.t 17)]⟩, ⟨(some 19), none, .app (.t 16) (.t 18) 2 1⟩, ⟨(some 3), none, .mv (.t 19)⟩]) .skip)))
  (.ops [⟨(some 8), none, .mv (.t 4)⟩, ⟨(some 9), none, .bin .add (.t 8) (.c (.int .i64 1))⟩, ⟨(some 4), none, .mv (.t 9)⟩])))
def k58 : KC := (.seq (.ops [⟨(some 2), none, .mv (.c (.nils))⟩])
  (.seq (.ops [⟨(some 5), none, .bsl false 2 1 []⟩, ⟨(some 3), none, .mv (.t 5)⟩])
  (.seq (.seq (.ops [⟨(some 4), none, .mv (.c (.int .i64 0))⟩])
  (.block 0 (.loop k58_b0)))
  (.seq (.ops [⟨(some 20), none, .mv (.t 3)⟩, ⟨(some 2), none, .mv (.t 20)⟩])
  .ret))))
theorem e58 {args : List PV} {σ : Heap} {K : PV → Heap → Prop} (hl : args.length ≤ 21) (h : Wf σ → (∀ a ∈ args, PV.upto σ.length a) → vc (mkCfg Try.prog mixed [18] 21 σ.length) k58 (FinK σ.length [.t 2] K) (argEnv 0 args) σ) : ACall Try.prog 58 args σ K :=
  ACall_enter (C := mkCfg Try.prog mixed [18] 21 σ.length) (c := Try.f58.body.getD .skip) Try.func58 (by kernel_rfl) (by kernel_rfl) (by kernel_rfl) rfl hl (by kernel_rfl) (by kernel_rfl) h
end Go.Proofs.Ytpepbomifjbgnaa
namespace Go.Proofs.Ytpepbomifjbgnaa
open Go.Kv
set_option linter.unusedVariables false
set_option linter.unusedSimpArgs false
attribute [local irreducible] ACall PCall KL
def pof (s x : Nat) : List Nat := (List.range x).filter fun i => s.testBit i
theorem pof_succ (s x : Nat) : pof s (x + 1) = pof s x ++ if s.testBit x = true then [x] else [] := by
  unfold pof
  rw [List.range_succ, List.filter_append]
  congr 1
  by_cases h : s.testBit x = true <;> simp [h]
theorem pof_le (s x : Nat) : (pof s x).length ≤ x := by
  have := List.length_filter_le (fun i => s.testBit i) (List.range x)
  simpa [pof] using this
theorem p58 (s : Nat) (hs : s < 2 ^ 62) : Pure Try.prog 58 [.int .i64 s] (.list (ints ((pof s 62).map fun x : Nat => (x : Int)))) := by
  refine e58 (by simp) fun _ _ => ?_
  simp only [k58, argEnv, take6, List.drop_zero, Int.cast_ofNat_Int, go_sem, ↓reduceIte, Nat.reduceEqDiff, Nat.reduceAdd, Nat.reduceMul, Nat.reduceLeDiff, Nat.reduceLT, Int.reduceLE, Int.reduceLT, reduceCtorEq]
  refine KL_ind k58_b0.eq_1 (fun x : Nat => [(0, .int .i64 s), (3, .ref 0 (pof s x).length 0 (pof s x).length), (4, .int .i64 x)]) (fun x => [.arr (pof s x).length 2 1 (ints ((pof s x).map fun x : Nat => (x : Int)))]) (fun x => x ≤ 62) (fun x => 62 - x) [0, 3, 4] 0 (by rfl) (by rfl) (Nat.zero_le _) fun x hx ih => ?_
  have hps := pof_succ s x
  have hpl := pof_le s x
  have hx61 : x ≤ 61 ∨ x = 62 := by omega
  rcases hx61 with hx61 | rfl
  · try simp only [OpK_eq, aConv_u64 hx61, aBin_shr (show x ≤ 63 by omega), aBin_and1 (shr_le hs), List.length_map, take6, List.drop_zero, Int.cast_ofNat_Int, go_sem, ↓reduceIte, Nat.reduceEqDiff, Nat.reduceAdd, Nat.reduceMul, Nat.reduceLeDiff, Nat.reduceLT, Int.reduceLE, Int.reduceLT, reduceCtorEq]
    refine ⟨fun h1 => ⟨fun h2 => ?_, fun h2 => ?_⟩, fun h1 => absurd h1 (by omega)⟩
    · rw [bit_one] at h2
      rw [if_pos h2] at hps
      refine ⟨⟨Nat.le_refl _, by omega⟩, by omega, ih (x + 1) (by omega) (by omega) _ _ (by simp [keep, hps]) ?_⟩
      rw [hps, List.take_of_length_le (by simp)]
      simp
    · rw [bit_one] at h2
      rw [if_neg h2, List.append_nil] at hps
      refine ⟨by omega, ih (x + 1) (by omega) (by omega) _ _ (by simp [keep, hps]) ?_⟩
      rw [hps]
  · try simp only [OpK_eq, take6, List.drop_zero, Int.cast_ofNat_Int, go_sem, ↓reduceIte, Nat.reduceEqDiff, Nat.reduceAdd, Nat.reduceMul, Nat.reduceLeDiff, Nat.reduceLT, Int.reduceLE, Int.reduceLT, reduceCtorEq]
    exact Kv.Fin.freeze (Imm.refn rfl (by simp)) ⟨rfl, rfl⟩
end Go.Proofs.Ytpepbomifjbgnaa
