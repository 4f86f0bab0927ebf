/- The draws of one map, and of what is none. -/
import Derived.Test.YtpfapiiinkkcgaaGreatCb
import Derived.Test.YtpfapiiinkkcgaaGreatDC
namespace Go.Proofs.YtpfapiiinkkcgaaGreat
open Go.Kv
set_option maxRecDepth 100000
/- spec.l01Draw -/
def k122 : KC := (.seq (.ops [⟨(some 2), none, .alloc [.int .i64 0, .int .i64 0, .int .i64 0, .int .i64 0, .int .i64 0, .int .i64 0]⟩])
  (.seq (.ops [⟨(some 3), none, .mv (.t 0)⟩, ⟨(some 4), none, .mv (.t 0)⟩, ⟨(some 5), none, .bsl false 2 1 [(.c (.int .i64 1)), (.c (.int .i64 2)), (.c (.int .i64 3)), (.c (.int .i64 3)), (.c (.int .i64 4)), (.c (.int .i64 4)), (.c (.int .i64 5)), (.c (.int .i64 5))]⟩, ⟨(some 6), none, .call (.c (.fn (.func 76) [] [])) [(.t 4), (.t 5)]⟩, ⟨(some 7), none, .call (.c (.fn (.func 125) [] [])) [(.t 3), (.t 6)]⟩, ⟨none, none, .store 6 (.t 2) (.t 7)⟩])
  .ret))
theorem e122 {args : List PV} {σ : Heap} {K : PV → Heap → Prop} (hl : args.length ≤ 8) (h : Wf σ → (∀ a ∈ args, PV.upto σ.length a) → vc (mkCfg Tryz.prog mixed [] 8 σ.length) k122 (FinK σ.length [.cell 2 true 6] K) (argEnv 0 args) σ) : ACall Tryz.prog 122 args σ K :=
  ACall_enter (C := mkCfg Tryz.prog mixed [] 8 σ.length) (c := Tryz.f122.body.getD .skip) Tryz.func122 (by kernel_rfl) (by kernel_rfl) (by kernel_rfl) rfl hl (by kernel_rfl) (by kernel_rfl) h
/- spec.l01Bad -/
def k126 : KC := (.seq (.ops [⟨(some 3), none, .box false (.t 1)⟩, ⟨(some 4), none, .alloc [.int .i64 0, .int .i64 0, .int .i64 0, .int .i64 0, .int .i64 0, .int .i64 0]⟩])
  (.seq (.seq (.ops [⟨(some 5), none, .mv (.t 0)⟩, ⟨(some 6), none, .call (.c (.fn (.func 124) [] [])) [(.t 5), (.c (.int .i64 40))]⟩])
  (.block 0 (.seq (.ops [⟨(some 8), none, .bin .eql (.t 6) (.c (.int .i64 0))⟩, ⟨(some 7), none, .mv (.t 8)⟩])
  (.cond (.t 7) (.ops [⟨(some 9), none, .mv (.t 0)⟩, ⟨(some 10), none, .fieldA 0 (.t 3)⟩, ⟨(some 11), none, .load false 1 (.t 10)⟩, ⟨(some 12), none, .bin .add (.t 11) (.c (.int .i64 1))⟩, ⟨(some 13), none, .bsl false 2 1 [(.c (.int .i64 0)), (.c (.int .i64 6)), (.c (.int .i64 (-1))), (.t 12)]⟩, ⟨(some 14), none, .call (.c (.fn (.func 76) [] [])) [(.t 9), (.t 13)]⟩, ⟨(some 15), none, .fieldA 0 (.t 3)⟩, ⟨none, none, .store 1 (.t 15) (.t 14)⟩]) (.seq (.ops [⟨(some 17), none, .bin .eql (.t 6) (.c (.int .i64 1))⟩, ⟨(some 16), none, .mv (.t 17)⟩])
  (.cond (.t 16) (.tree (.op ⟨(some 18), none, .mv (.t 0)⟩ (.op ⟨(some 20), none, .mv (.t 0)⟩ (.alt (.op ⟨(some 19), none, .call (.c (.fn (.func 124) [] [])) [(.t 18), (.c (.int .i64 5))]⟩ (.alt (.op ⟨(some 21), none, .fieldA 0 (.t 3)⟩ (.alt (.op ⟨(some 22), none, .load false 1 (.t 21)⟩ (.alt (.op ⟨(some 23), none, .bsl false 2 1 [(.c (.int .i64 (-1))), (.t 22), (.c (.int .i64 1099511627776))]⟩ (.alt (.op ⟨(some 24), none, .call (.c (.fn (.func 76) [] [])) [(.t 20), (.t 23)]⟩ (.op ⟨(some 25), none, .fieldA 1 (.t 3)⟩ (.op ⟨(some 26), none, .idxA 5 1 (.t 25) (.t 19)⟩ (.op ⟨none, none, .store 1 (.t 26) (.t 24)⟩ .fin)))) (.op ⟨(some 25), none, .fieldA 1 (.t 3)⟩ (.op ⟨(some 24), none, .call (.c (.fn (.func 76) [] [])) [(.t 20), (.t 23)]⟩ (.op ⟨(some 26), none, .idxA 5 1 (.t 25) (.t 19)⟩ (.op ⟨none, none, .store 1 (.t 26) (.t 24)⟩ .fin)))))) (.op ⟨(some 25), none, .fieldA 1 (.t 3)⟩ (.op ⟨(some 23), none, .bsl false 2 1 [(.c (.int .i64 (-1))), (.t 22), (.c (.int .i64 1099511627776))]⟩ (.op ⟨(some 24), none, .call (.c (.fn (.func 76) [] [])) [(.t 20), (.t 23)]⟩ (.op ⟨(some 26), none, .idxA 5 1 (.t 25) (.t 19)⟩ (.op ⟨none, none, .store 1 (.t 26) (.t 24)⟩ .fin))))))) (.op ⟨(some 25), none, .fieldA 1 (.t 3)⟩ (.op ⟨(some 22), none, .load false 1 (.t 21)⟩ (.op ⟨(some 23), none, .bsl false 2 1 [(.c (.int .i64 (-1))), (.t 22), (.c (.int .i64 1099511627776))]⟩ (.op ⟨(some 24), none, .call (.c (.fn (.func 76) [] [])) [(.t 20), (.t 23)]⟩ (.op ⟨(some 26), none, .idxA 5 1 (.t 25) (.t 19)⟩ (.op ⟨none, none, .store 1 (.t 26) (.t 24)⟩ .fin)))))))) (.op ⟨(some 25), none, .fieldA 1 (.t 3)⟩ (.op ⟨(some 21), none, .fieldA 0 (.t 3)⟩ (.op ⟨(some 22), none, .load false 1 (.t 21)⟩ (.op ⟨(some 23), none, .bsl false 2 1 [(.c (.int .i64 (-1))), (.t 22), (.c (.int .i64 1099511627776))]⟩ (.op ⟨(some 24), none, .call (.c (.fn (.func 76) [] [])) [(.t 20), (.t 23)]⟩ (.op ⟨(some 26), none, .idxA 5 1 (.t 25) (.t 19)⟩ (.op ⟨none, none, .store 1 (.t 26) (.t 24)⟩ .fin))))))))) (.alt (.op ⟨(some 21), none, .fieldA 0 (.t 3)⟩ (.alt (.op ⟨(some 19), none, .call (.c (.fn (.func 124) [] [])) [(.t 18), (.c (.int .i64 5))]⟩ (.alt (.op ⟨(some 22), none, .load false 1 (.t 21)⟩ (.alt (.op ⟨(some 23), none, .bsl false 2 1 [(.c (.int .i64 (-1))), (.t 22), (.c (.int .i64 1099511627776))]⟩ (.alt (.op ⟨(some 24), none, .call (.c (.fn (.func 76) [] [])) [(.t 20), (.t 23)]⟩ (.op ⟨(some 25), none, .fieldA 1 (.t 3)⟩ (.op ⟨(some 26), none, .idxA 5 1 (.t 25) (.t 19)⟩ (.op ⟨none, none, .store 1 (.t 26) (.t 24)⟩ .fin)))) (.op ⟨(some 25), none, .fieldA 1 (.t 3)⟩ (.op ⟨(some 24), none, .call (.c (.fn (.func 76) [] [])) [(.t 20), (.t 23)]⟩ (.op ⟨(some 26), none, .idxA 5 1 (.t 25) (.t 19)⟩ (.op ⟨none, none, .store 1 (.t 26) (.t 24)⟩ .fin)))))) (.op ⟨(some 25), none, .fieldA 1 (.t 3)⟩ (.op ⟨(some 23), none, .bsl false 2 1 [(.c (.int .i64 (-1))), (.t 22), (.c (.int .i64 1099511627776))]⟩ (.op ⟨(some 24), none, .call (.c (.fn (.func 76) [] [])) [(.t 20), (.t 23)]⟩ (.op ⟨(some 26), none, .idxA 5 1 (.t 25) (.t 19)⟩ (.op ⟨none, none, .store 1 (.t 26) (.t 24)⟩ .fin))))))) (.op ⟨(some 25), none, .fieldA 1 (.t 3)⟩ (.op ⟨(some 22), none, .load false 1 (.t 21)⟩ (.op ⟨(some 23), none, .bsl false 2 1 [(.c (.int .i64 (-1))), (.t 22), (.c (.int .i64 1099511627776))]⟩ (.op ⟨(some 24), none, .call (.c (.fn (.func 76) [] [])) [(.t 20), (.t 23)]⟩ (.op ⟨(some 26), none, .idxA 5 1 (.t 25) (.t 19)⟩ (.op ⟨none, none, .store 1 (.t 26) (.t 24)⟩ .fin)))))))) (.alt (.op ⟨(some 22), none, .load false 1 (.t 21)⟩ (.alt (.op ⟨(some 19), none, .call (.c (.fn (.func 124) [] [])) [(.t 18), (.c (.int .i64 5))]⟩ (.alt (.op ⟨(some 23), none, .bsl false 2 1 [(.c (.int .i64 (-1))), (.t 22), (.c (.int .i64 1099511627776))]⟩ (.alt (.op ⟨(some 24), none, .call (.c (.fn (.func 76) [] [])) [(.t 20), (.t 23)]⟩ (.op ⟨(some 25), none, .fieldA 1 (.t 3)⟩ (.op ⟨(some 26), none, .idxA 5 1 (.t 25) (.t 19)⟩ (.op ⟨none, none, .store 1 (.t 26) (.t 24)⟩ .fin)))) (.op ⟨(some 25), none, .fieldA 1 (.t 3)⟩ (.op ⟨(some 24), none, .call (.c (.fn (.func 76) [] [])) [(.t 20), (.t 23)]⟩ (.op ⟨(some 26), none, .idxA 5 1 (.t 25) (.t 19)⟩ (.op ⟨none, none, .store 1 (.t 26) (.t 24)⟩ .fin)))))) (.op ⟨(some 25), none, .fieldA 1 (.t 3)⟩ (.op ⟨(some 23), none, .bsl false 2 1 [(.c (.int .i64 (-1))), (.t 22), (.c (.int .i64 1099511627776))]⟩ (.op ⟨(some 24), none, .call (.c (.fn (.func 76) [] [])) [(.t 20), (.t 23)]⟩ (.op ⟨(some 26), none, .idxA 5 1 (.t 25) (.t 19)⟩ (.op ⟨none, none, .store 1 (.t 26) (.t 24)⟩ .fin))))))) (.alt (.op ⟨(some 23), none, .bsl false 2 1 [(.c (.int .i64 (-1))), (.t 22), (.c (.int .i64 1099511627776))]⟩ (.alt (.op ⟨(some 19), none, .call (.c (.fn (.func 124) [] [])) [(.t 18), (.c (.int .i64 5))]⟩ (.alt (.op ⟨(some 24), none, .call (.c (.fn (.func 76) [] [])) [(.t 20), (.t 23)]⟩ (.op ⟨(some 25), none, .fieldA 1 (.t 3)⟩ (.op ⟨(some 26), none, .idxA 5 1 (.t 25) (.t 19)⟩ (.op ⟨none, none, .store 1 (.t 26) (.t 24)⟩ .fin)))) (.op ⟨(some 25), none, .fieldA 1 (.t 3)⟩ (.op ⟨(some 24), none, .call (.c (.fn (.func 76) [] [])) [(.t 20), (.t 23)]⟩ (.op ⟨(some 26), none, .idxA 5 1 (.t 25) (.t 19)⟩ (.op ⟨none, none, .store 1 (.t 26) (.t 24)⟩ .fin)))))) (.op ⟨(some 25), none, .fieldA 1 (.t 3)⟩ (.op ⟨(some 19), none, .call (.c (.fn (.func 124) [] [])) [(.t 18), (.c (.int .i64 5))]⟩ (.op ⟨(some 24), none, .call (.c (.fn (.func 76) [] [])) [(.t 20), (.t 23)]⟩ (.op ⟨(some 26), none, .idxA 5 1 (.t 25) (.t 19)⟩ (.op ⟨none, none, .store 1 (.t 26) (.t 24)⟩ .fin))))))) (.op ⟨(some 25), none, .fieldA 1 (.t 3)⟩ (.alt (.op ⟨(some 19), none, .call (.c (.fn (.func 124) [] [])) [(.t 18), (.c (.int .i64 5))]⟩ (.op ⟨(some 23), none, .bsl false 2 1 [(.c (.int .i64 (-1))), (.t 22), (.c (.int .i64 1099511627776))]⟩ (.op ⟨(some 24), none, .call (.c (.fn (.func 76) [] [])) [(.t 20), (.t 23)]⟩ (.op ⟨(some 26), none, .idxA 5 1 (.t 25) (.t 19)⟩ (.op ⟨none, none, .store 1 (.t 26) (.t 24)⟩ .fin))))) (.op ⟨(some 23), none, .bsl false 2 1 [(.c (.int .i64 (-1))), (.t 22), (.c (.int .i64 1099511627776))]⟩ (.op ⟨(some 19), none, .call (.c (.fn (.func 124) [] [])) [(.t 18), (.c (.int .i64 5))]⟩ (.op ⟨(some 24), none, .call (.c (.fn (.func 76) [] [])) [(.t 20), (.t 23)]⟩ (.op ⟨(some 26), none, .idxA 5 1 (.t 25) (.t 19)⟩ (.op ⟨none, none, .store 1 (.t 26) (.t 24)⟩ .fin)))))))))) (.op ⟨(some 25), none, .fieldA 1 (.t 3)⟩ (.alt (.op ⟨(some 19), none, .call (.c (.fn (.func 124) [] [])) [(.t 18), (.c (.int .i64 5))]⟩ (.op ⟨(some 22), none, .load false 1 (.t 21)⟩ (.op ⟨(some 23), none, .bsl false 2 1 [(.c (.int .i64 (-1))), (.t 22), (.c (.int .i64 1099511627776))]⟩ (.op ⟨(some 24), none, .call (.c (.fn (.func 76) [] [])) [(.t 20), (.t 23)]⟩ (.op ⟨(some 26), none, .idxA 5 1 (.t 25) (.t 19)⟩ (.op ⟨none, none, .store 1 (.t 26) (.t 24)⟩ .fin)))))) (.op ⟨(some 22), none, .load false 1 (.t 21)⟩ (.alt (.op ⟨(some 19), none, .call (.c (.fn (.func 124) [] [])) [(.t 18), (.c (.int .i64 5))]⟩ (.op ⟨(some 23), none, .bsl false 2 1 [(.c (.int .i64 (-1))), (.t 22), (.c (.int .i64 1099511627776))]⟩ (.op ⟨(some 24), none, .call (.c (.fn (.func 76) [] [])) [(.t 20), (.t 23)]⟩ (.op ⟨(some 26), none, .idxA 5 1 (.t 25) (.t 19)⟩ (.op ⟨none, none, .store 1 (.t 26) (.t 24)⟩ .fin))))) (.op ⟨(some 23), none, .bsl false 2 1 [(.c (.int .i64 (-1))), (.t 22), (.c (.int .i64 1099511627776))]⟩ (.op ⟨(some 19), none, .call (.c (.fn (.func 124) [] [])) [(.t 18), (.c (.int .i64 5))]⟩ (.op ⟨(some 24), none, .call (.c (.fn (.func 76) [] [])) [(.t 20), (.t 23)]⟩ (.op ⟨(some 26), none, .idxA 5 1 (.t 25) (.t 19)⟩ (.op ⟨none, none, .store 1 (.t 26) (.t 24)⟩ .fin)))))))))))) (.op ⟨(some 25), none, .fieldA 1 (.t 3)⟩ (.alt (.op ⟨(some 19), none, .call (.c (.fn (.func 124) [] [])) [(.t 18), (.c (.int .i64 5))]⟩ (.op ⟨(some 21), none, .fieldA 0 (.t 3)⟩ (.op ⟨(some 22), none, .load false 1 (.t 21)⟩ (.op ⟨(some 23), none, .bsl false 2 1 [(.c (.int .i64 (-1))), (.t 22), (.c (.int .i64 1099511627776))]⟩ (.op ⟨(some 24), none, .call (.c (.fn (.func 76) [] [])) [(.t 20), (.t 23)]⟩ (.op ⟨(some 26), none, .idxA 5 1 (.t 25) (.t 19)⟩ (.op ⟨none, none, .store 1 (.t 26) (.t 24)⟩ .fin))))))) (.op ⟨(some 21), none, .fieldA 0 (.t 3)⟩ (.alt (.op ⟨(some 19), none, .call (.c (.fn (.func 124) [] [])) [(.t 18), (.c (.int .i64 5))]⟩ (.op ⟨(some 22), none, .load false 1 (.t 21)⟩ (.op ⟨(some 23), none, .bsl false 2 1 [(.c (.int .i64 (-1))), (.t 22), (.c (.int .i64 1099511627776))]⟩ (.op ⟨(some 24), none, .call (.c (.fn (.func 76) [] [])) [(.t 20), (.t 23)]⟩ (.op ⟨(some 26), none, .idxA 5 1 (.t 25) (.t 19)⟩ (.op ⟨none, none, .store 1 (.t 26) (.t 24)⟩ .fin)))))) (.op ⟨(some 22), none, .load false 1 (.t 21)⟩ (.alt (.op ⟨(some 19), none, .call (.c (.fn (.func 124) [] [])) [(.t 18), (.c (.int .i64 5))]⟩ (.op ⟨(some 23), none, .bsl false 2 1 [(.c (.int .i64 (-1))), (.t 22), (.c (.int .i64 1099511627776))]⟩ (.op ⟨(some 24), none, .call (.c (.fn (.func 76) [] [])) [(.t 20), (.t 23)]⟩ (.op ⟨(some 26), none, .idxA 5 1 (.t 25) (.t 19)⟩ (.op ⟨none, none, .store 1 (.t 26) (.t 24)⟩ .fin))))) (.op ⟨(some 23), none, .bsl false 2 1 [(.c (.int .i64 (-1))), (.t 22), (.c (.int .i64 1099511627776))]⟩ (.op ⟨(some 19), none, .call (.c (.fn (.func 124) [] [])) [(.t 18), (.c (.int .i64 5))]⟩ (.op ⟨(some 24), none, .call (.c (.fn (.func 76) [] [])) [(.t 20), (.t 23)]⟩ (.op ⟨(some 26), none, .idxA 5 1 (.t 25) (.t 19)⟩ (.op ⟨none, none, .store 1 (.t 26) (.t 24)⟩ .fin)))))))))))))))) .skip))))))
  (.seq (.ops [⟨(some 27), none, .load true 6 (.t 3)⟩, ⟨none, none, .store 6 (.t 4) (.t 27)⟩])
  .ret)))
theorem e126 {args : List PV} {σ : Heap} {K : PV → Heap → Prop} (hl : args.length ≤ 28) (h : Wf σ → (∀ a ∈ args, PV.upto σ.length a) → vc (mkCfg Tryz.prog mixed [] 28 σ.length) k126 (FinK σ.length [.cell 4 true 6] K) (argEnv 0 args) σ) : ACall Tryz.prog 126 args σ K :=
  ACall_enter (C := mkCfg Tryz.prog mixed [] 28 σ.length) (c := Tryz.f126.body.getD .skip) Tryz.func126 (by kernel_rfl) (by kernel_rfl) (by kernel_rfl) rfl hl (by kernel_rfl) (by kernel_rfl) h
/- spec.l01Spoil -/
def k84 : KC := (.seq (.ops [⟨(some 2), none, .alloc [.int .i64 0, .int .i64 0, .int .i64 0, .int .i64 0, .int .i64 0, .int .i64 0]⟩])
  (.seq (.ops [⟨(some 3), none, .mv (.t 0)⟩, ⟨(some 4), none, .mv (.t 0)⟩, ⟨(some 5), none, .call (.c (.fn (.func 122) [] [])) [(.t 4)]⟩, ⟨(some 6), none, .call (.c (.fn (.func 126) [] [])) [(.t 3), (.t 5)]⟩, ⟨none, none, .store 6 (.t 2) (.t 6)⟩])
  .ret))
theorem e84 {args : List PV} {σ : Heap} {K : PV → Heap → Prop} (hl : args.length ≤ 7) (h : Wf σ → (∀ a ∈ args, PV.upto σ.length a) → vc (mkCfg Tryz.prog mixed [] 7 σ.length) k84 (FinK σ.length [.cell 2 true 6] K) (argEnv 0 args) σ) : ACall Tryz.prog 84 args σ K :=
  ACall_enter (C := mkCfg Tryz.prog mixed [] 7 σ.length) (c := Tryz.f84.body.getD .skip) Tryz.func84 (by kernel_rfl) (by kernel_rfl) (by kernel_rfl) rfl hl (by kernel_rfl) (by kernel_rfl) h
end Go.Proofs.YtpfapiiinkkcgaaGreat
namespace Go.Proofs.YtpfapiiinkkcgaaGreat
open Go.Kv
set_option linter.unusedVariables false
set_option linter.unusedSimpArgs false
attribute [local irreducible] ACall PCall KL
theorem p122S {l : List Int} (hl : Byt l) {σ : Heap} {b : Nat} (hS : Src σ b l) {K : PV → Heap → Prop}
    (hK : ∀ (m : List Int) σ', m.length = 6 → (∃ f n, Ok f n ∧ m = mp f) → Src σ' b l → Kept σ σ' b → K (.agg (ints m)) σ') : ACall Tryz.prog 122 [.ptr b 0] σ K := by
  have hlt := hS.lt
  refine e122 (by simp) fun _ _ => ?_
  simp only [k122, argEnv, take6, List.drop_zero, Int.cast_ofNat_Int, go_sem, ↓reduceIte, Nat.reduceEqDiff, Nat.reduceAdd, Nat.reduceMul, Nat.reduceLeDiff, Nat.reduceLT, Int.reduceLE, Int.reduceLT, reduceCtorEq]
  try simp only [OpK_eq, HKv, take6, List.drop_zero, Int.cast_ofNat_Int, go_sem, ↓reduceIte, Nat.reduceEqDiff, Nat.reduceAdd, Nat.reduceMul, Nat.reduceLeDiff, Nat.reduceLT, Int.reduceLE, Int.reduceLT, reduceCtorEq]
  generalize hz : AObj.box [PV.int .i64 0, PV.int .i64 0, PV.int .i64 0, PV.int .i64 0, PV.int .i64 0, PV.int .i64 0] = z
  refine p76 hl ((hS.app _).app _) [1, 2, 3, 3, 4, 4, 5, 5] (by simp) (id := σ.length + 1) (ver := 0) (e := 2) (by rw [List.getElem?_append_right (by simp)]; simp [ints]) (by omega) 8 rfl fun r τ h2 h4 h5 h6 => ?_
  have hr : ∃ n : Nat, r = n ∧ 1 ≤ n ∧ n ≤ 5 := by
    simp only [List.mem_cons, List.not_mem_nil, or_false] at h2
    exact ⟨r.toNat, by omega, by omega, by omega⟩
  obtain ⟨n, rfl, hn1, hn5⟩ := hr
  have hz1 : τ[σ.length]? = some z := by
    rw [h5.2 _ (by simp) (by omega), List.getElem?_append_left (by simp)]; simp
  have hk1 : Kept σ τ b := ((Kept.app _ _ _).trans (Kept.app _ _ _)).trans h5
  clear h5 h6
  try simp only [OpK_eq, HKv, take6, List.drop_zero, Int.cast_ofNat_Int, go_sem, ↓reduceIte, Nat.reduceEqDiff, Nat.reduceAdd, Nat.reduceMul, Nat.reduceLeDiff, Nat.reduceLT, Int.reduceLE, Int.reduceLT, reduceCtorEq]
  refine p125S hl h4 n hn1 hn5 fun m ρ q1 q2' q3 q4 => ?_
  have q2 : ∃ f n, Ok f n ∧ m = mp f := by obtain ⟨f, h1, h2⟩ := q2'; exact ⟨f, n, h1, h2⟩
  have hzl := (List.getElem?_eq_some_iff.1 hz1).1
  have hz2 : ρ[σ.length]? = some z := (q4.2 _ hzl (by omega)).trans hz1
  have hself : ∀ o, (ρ.set σ.length o)[σ.length]? = some o := fun o => List.getElem?_set_self (List.getElem?_eq_some_iff.1 hz2).1
  have hil : (ints m).length = 6 := by rw [ints_length, q1]
  subst hz
  try simp only [OpK_eq, HKv, hz2, hself, hil, take6, List.drop_zero, Int.cast_ofNat_Int, go_sem, ↓reduceIte, Nat.reduceEqDiff, Nat.reduceAdd, Nat.reduceMul, Nat.reduceLeDiff, Nat.reduceLT, Int.reduceLE, Int.reduceLT, reduceCtorEq]
  have hk2 := hk1.trans q4
  exact Kv.Fin.now (hK m _ q1 q2 (q3.keep (List.getElem?_set_ne (by omega))) ⟨by rw [List.length_set]; exact hk2.1, fun j hj hb => (List.getElem?_set_ne (by omega)).trans (hk2.2 j hj hb)⟩)
theorem p122 {l : List Int} (hl : Byt l) {σ : Heap} {b : Nat} (hS : Src σ b l) {K : PV → Heap → Prop}
    (hK : ∀ (m : List Int) σ', m.length = 6 → (0 ≤ m.getD 0 0 ∧ m.getD 0 0 ≤ 5) → Src σ' b l → Kept σ σ' b → K (.agg (ints m)) σ') : ACall Tryz.prog 122 [.ptr b 0] σ K :=
  p122S hl hS fun m σ' h1 h2 h3 h4 => hK m σ' h1 (by
    obtain ⟨f, n, hf, rfl⟩ := h2
    have : (mp f).getD 0 0 = (f.length : Int) := rfl
    have := hf.le
    have := hf.len
    omega) h3 h4
/-- A map that is being spoilt. -/
structure BI (σ τ : Heap) (b : Nat) (l m : List Int) : Prop where
  src : Src τ b l
  kept : Kept σ τ b
  a : τ[σ.length + 1]? = some (.box [PV.int .i64 0, PV.int .i64 0, PV.int .i64 0, PV.int .i64 0, PV.int .i64 0, PV.int .i64 0])
  c : τ[σ.length]? = some (.box (ints m))
  len : m.length = 6
  lt : b < σ.length
theorem BI.step {σ τ τ' : Heap} {b : Nat} {l m : List Int} (h : BI σ τ b l m) (hS : Src τ' b l) (hK : Kept τ τ' b) : BI σ τ' b l m :=
  have h1 := (List.getElem?_eq_some_iff.1 h.a).1
  have h2 := (List.getElem?_eq_some_iff.1 h.c).1
  have h3 := h.lt
  ⟨hS, h.kept.trans hK, (hK.2 _ h1 (by omega)).trans h.a, (hK.2 _ h2 (by omega)).trans h.c, h.len, h.lt⟩
theorem BI.app {σ τ : Heap} {b : Nat} {l m : List Int} (h : BI σ τ b l m) (X : Heap) : BI σ (τ ++ X) b l m := h.step (h.src.app X) (Kept.app _ _ _)
theorem BI.set {σ τ : Heap} {b : Nat} {l m : List Int} (h : BI σ τ b l m) {m' : List Int} (h6 : m'.length = 6) : BI σ (τ.set σ.length (.box (ints m'))) b l m' :=
  have h2 := (List.getElem?_eq_some_iff.1 h.c).1
  have h3 := h.lt
  ⟨h.src.keep (List.getElem?_set_ne (by omega)), ⟨by rw [List.length_set]; exact h.kept.1, fun j hj hb => (List.getElem?_set_ne (by omega)).trans (h.kept.2 j hj hb)⟩, (List.getElem?_set_ne (by omega)).trans h.a, List.getElem?_set_self h2, h6, h.lt⟩
theorem BI.fin {σ τ : Heap} {b : Nat} {l m : List Int} (h : BI σ τ b l m) (o : AObj) : Src (τ.set (σ.length + 1) o) b l ∧ Kept σ (τ.set (σ.length + 1) o) b :=
  have h3 := h.lt
  ⟨h.src.keep (List.getElem?_set_ne (by omega)), by rw [List.length_set]; exact h.kept.1, fun j hj hb => (List.getElem?_set_ne (by omega)).trans (h.kept.2 j hj hb)⟩
theorem BI.self {σ τ : Heap} {b : Nat} {l m : List Int} (h : BI σ τ b l m) (o : AObj) : (τ.set (σ.length + 1) o)[σ.length + 1]? = some o := List.getElem?_set_self (List.getElem?_eq_some_iff.1 h.a).1
/-- The same, with a list of numbers beside it. -/
structure BJ (σ τ : Heap) (b : Nat) (l m : List Int) (id : Nat) (L : List Int) : Prop where
  bi : BI σ τ b l m
  arr : τ[id]? = some (.arr 0 2 1 (ints L))
  ne : id ≠ b
theorem BI.bj {σ τ : Heap} {b : Nat} {l m : List Int} (h : BI σ τ b l m) (L : List Int) : BJ σ (τ ++ [.arr 0 2 1 (ints L)]) b l m τ.length L :=
  ⟨h.app _, by simp, by have := h.src.lt; omega⟩
theorem BJ.step {σ τ τ' : Heap} {b : Nat} {l m : List Int} {id : Nat} {L : List Int} (h : BJ σ τ b l m id L) (hS : Src τ' b l) (hK : Kept τ τ' b) : BJ σ τ' b l m id L :=
  ⟨h.bi.step hS hK, (hK.2 _ (List.getElem?_eq_some_iff.1 h.arr).1 h.ne).trans h.arr, h.ne⟩
theorem nextI {l : List Int} (hl : Byt l) {σ ρ : Heap} {b : Nat} {m : List Int} (h : BI σ ρ b l m) (n : Int) {K : PV → Heap → Prop} (hK : ∀ (r : Int) ρ', 0 ≤ r → (1 ≤ n → r < n) → BI σ ρ' b l m → K (.int .i64 r) ρ') : ACall Tryz.prog 124 [.ptr b 0, .int .i64 n] ρ K :=
  p124 hl h.src n fun r ρ' h1 h2 h3 h4 _ => hK r ρ' h1 h2 (h.step h3 h4)
theorem nextJ {l : List Int} (hl : Byt l) {σ ρ : Heap} {b : Nat} {m : List Int} {id : Nat} {L : List Int} (h : BJ σ ρ b l m id L) (n : Int) {K : PV → Heap → Prop} (hK : ∀ (r : Int) ρ', 0 ≤ r → (1 ≤ n → r < n) → BJ σ ρ' b l m id L → K (.int .i64 r) ρ') : ACall Tryz.prog 124 [.ptr b 0, .int .i64 n] ρ K :=
  p124 hl h.bi.src n fun r ρ' h1 h2 h3 h4 _ => hK r ρ' h1 h2 (h.step h3 h4)
theorem pickJ {l : List Int} (hl : Byt l) {σ ρ : Heap} {b : Nat} {m : List Int} {id : Nat} {L : List Int} (h : BJ σ ρ b l m id L) (h0 : 1 ≤ L.length ∧ L.length ≤ 1000) (k : Nat) (hk : k = L.length) {K : PV → Heap → Prop} (hK : ∀ (r : Int) ρ', r ∈ L → BI σ ρ' b l m → K (.int .i64 r) ρ') : ACall Tryz.prog 76 [.ptr b 0, .ref id 0 0 k] ρ K :=
  p76 hl h.bi.src L h0 h.arr h.ne k hk fun r ρ' h1 h2 h3 _ => hK r ρ' h1 (h.bi.step h2 h3)
theorem p126 {l : List Int} (hl : Byt l) {σ : Heap} {b : Nat} (hS : Src σ b l) (f : List Int) (h6 : f.length = 6) (hp : 0 ≤ f.getD 0 0 ∧ f.getD 0 0 ≤ 5) {K : PV → Heap → Prop}
    (hK : ∀ (m : List Int) σ', m.length = 6 → Src σ' b l → Kept σ σ' b → K (.agg (ints m)) σ') : ACall Tryz.prog 126 [.ptr b 0, .agg (ints f)] σ K := by
  have hlt := hS.lt
  have hil : (ints f).length = 6 := by rw [ints_length, h6]
  refine e126 (by simp) fun _ _ => ?_
  simp only [k126, argEnv, take6, List.drop_zero, Int.cast_ofNat_Int, go_sem, ↓reduceIte, Nat.reduceEqDiff, Nat.reduceAdd, Nat.reduceMul, Nat.reduceLeDiff, Nat.reduceLT, Int.reduceLE, Int.reduceLT, reduceCtorEq]
  try simp only [OpK_eq, HKv, hil, take6, List.drop_zero, Int.cast_ofNat_Int, go_sem, ↓reduceIte, Nat.reduceEqDiff, Nat.reduceAdd, Nat.reduceMul, Nat.reduceLeDiff, Nat.reduceLT, Int.reduceLE, Int.reduceLT, reduceCtorEq]
  have hB0 : BI σ (σ ++ [AObj.box (ints f)] ++ [AObj.box [PV.int .i64 0, PV.int .i64 0, PV.int .i64 0, PV.int .i64 0, PV.int .i64 0, PV.int .i64 0]]) b l f := by
    refine ⟨(hS.app _).app _, (Kept.app _ _ _).trans (Kept.app _ _ _), ?_, ?_, h6, hlt⟩
    · rw [List.getElem?_append_right (by simp)]; simp
    · rw [List.getElem?_append_left (by simp)]; simp
  refine nextI hl hB0 _ fun r τ h2 h3 hB => ?_
  clear hB0
  have hend : ∀ (m : List Int) (ρ : Heap), BI σ ρ b l m → K (.agg (ints m)) (ρ.set (σ.length + 1) (.box (ints m))) := fun m ρ h => hK m _ h.len (h.fin _).1 (h.fin _).2
  have hC := hB.c
  have hA := hB.a
  have hs := hB.self
  try simp only [OpK_eq, HKv, hC, hA, hs, hil, h6, take6, List.drop_zero, Int.cast_ofNat_Int, go_sem, ↓reduceIte, Nat.reduceEqDiff, Nat.reduceAdd, Nat.reduceMul, Nat.reduceLeDiff, Nat.reduceLT, Int.reduceLE, Int.reduceLT, reduceCtorEq]
  have fin : ∀ (m : List Int) (ρ : Heap), BI σ ρ b l m → ∀ o, (ρ.set σ.length o)[σ.length]? = some o := fun m ρ h o => List.getElem?_set_self (List.getElem?_eq_some_iff.1 h.c).1
  refine ⟨fun _ => ?_, fun _ => ⟨fun _ => ?_, fun _ => ?_⟩⟩
  · refine ⟨by omega, ?_⟩
    refine pickJ hl (hB.bj [0, 6, -1, f.getD 0 0 + 1]) (by simp) 4 rfl fun r2 ρ h4 hB2 => ?_
    have h7 : (f.set 0 r2).length = 6 := by rw [List.length_set]; exact h6
    have hB3 := hB2.set h7
    have hC2 := hB2.c
    have hC3 := hB3.c
    have hA3 := hB3.a
    have hs3 := hB3.self
    have hil3 : (ints (f.set 0 r2)).length = 6 := by rw [ints_length, h7]
    try simp only [OpK_eq, HKv, hC2, ints_set1, hil, hC3, hA3, hs3, hil3, h7, take6, List.drop_zero, Int.cast_ofNat_Int, go_sem, ↓reduceIte, Nat.reduceEqDiff, Nat.reduceAdd, Nat.reduceMul, Nat.reduceLeDiff, Nat.reduceLT, Int.reduceLE, Int.reduceLT, reduceCtorEq]
    exact Kv.Fin.now (hend _ _ hB3)
  · have hcI : ∀ ρ, BI σ ρ b l f → ρ[σ.length]? = some (.box (ints f)) := fun ρ h => h.c
    clear hC hA hs
    have g1 : ∀ ρ k v, BI σ ρ b l f → (ρ.set σ.length (.box (ints (f.set k v))))[σ.length]? = some (.box (ints (f.set k v))) := fun ρ k v h => fin f ρ h _
    have g2 : ∀ ρ k v, BI σ ρ b l f → (ρ.set σ.length (.box (ints (f.set k v))))[σ.length + 1]? = some (.box [PV.int .i64 0, PV.int .i64 0, PV.int .i64 0, PV.int .i64 0, PV.int .i64 0, PV.int .i64 0]) := fun ρ k v h => (h.set (m' := f.set k v) (by rw [List.length_set]; exact h6)).a
    have g3 : ∀ ρ k v o, BI σ ρ b l f → ((ρ.set σ.length (.box (ints (f.set k v)))).set (σ.length + 1) o)[σ.length + 1]? = some o := fun ρ k v o h => (h.set (m' := f.set k v) (by rw [List.length_set]; exact h6)).self o
    have g5 : ∀ ρ k v, BI σ ρ b l f → K (.agg (ints (f.set k v))) ((ρ.set σ.length (.box (ints (f.set k v)))).set (σ.length + 1) (.box (ints (f.set k v)))) := fun ρ k v h => hend _ _ (h.set (by rw [List.length_set]; exact h6))
    have g6 : ∀ k v, List.take 6 (f.set k v) = f.set k v := fun k v => take6 (by rw [List.length_set, h6])
    have g7 : ∀ k v, subC (ints (f.set k v)) 0 6 = ints (f.set k v) := fun k v => sub6 (by rw [ints_length, List.length_set, h6])
    have g8 : ∀ k v, putC [PV.int .i64 0, PV.int .i64 0, PV.int .i64 0, PV.int .i64 0, PV.int .i64 0, PV.int .i64 0] 0 (ints (f.set k v)) = ints (f.set k v) := fun k v => put6 (by rw [ints_length, List.length_set, h6]) rfl
    have g9 : ∀ k v, (f.set k v).length = 6 := fun k v => by rw [List.length_set, h6]
    have g4 : ∀ k v, (ints (f.set k v)).length = 6 := fun k v => by rw [ints_length, List.length_set, h6]
    repeat' (first
      | omega
      | (rw [vT_alt]; refine ⟨?_, ?_⟩)
      | (refine nextJ hl (σ := σ) (m := f) (L := [-1, f.getD 0 0, 1099511627776]) (by assumption) _ fun r2 ρ h4 h5 hB2 => ?_)
      | (refine nextJ hl (σ := σ) (m := f) (L := [-1, f.getD 0 0, 1099511627776]) (BI.bj (by assumption) [-1, f.getD 0 0, 1099511627776]) _ fun r2 ρ h4 h5 hB2 => ?_)
      | (refine nextI hl (σ := σ) (m := f) (by assumption) _ fun r2 ρ h4 h5 hB2 => ?_)
      | (refine pickJ hl (σ := σ) (m := f) (L := [-1, f.getD 0 0, 1099511627776]) (by assumption) (by simp) 3 rfl fun r3 ρ3 h4 hB3 => ?_)
      | (refine pickJ hl (σ := σ) (m := f) (L := [-1, f.getD 0 0, 1099511627776]) (BI.bj (by assumption) [-1, f.getD 0 0, 1099511627776]) (by simp) 3 rfl fun r3 ρ3 h4 hB3 => ?_)
      | (with_reducible refine And.intro ?_ ?_)
      | (with_reducible intro _)
      | (simp (disch := assumption) only [hcI, OpK_eq, HKv, hil, ints_set1, take6, List.drop_zero, Int.cast_ofNat_Int, go_sem, ↓reduceIte, Nat.reduceEqDiff, Nat.reduceAdd, Nat.reduceMul, Nat.reduceLeDiff, Nat.reduceLT, Int.reduceLE, Int.reduceLT, reduceCtorEq]))
    all_goals (simp (disch := assumption) only [g1, g2, g3, g4, g6, g7, g8, g9, OpK_eq, HKv, hil, ints_set1, take6, List.drop_zero, Int.cast_ofNat_Int, go_sem, ↓reduceIte, Nat.reduceEqDiff, Nat.reduceAdd, Nat.reduceMul, Nat.reduceLeDiff, Nat.reduceLT, Int.reduceLE, Int.reduceLT, reduceCtorEq])
    all_goals exact Kv.Fin.now (g5 _ _ _ (by assumption))
  · exact Kv.Fin.now (hend f τ hB)
theorem p84 {l : List Int} (hl : Byt l) {σ : Heap} {b : Nat} (hS : Src σ b l) {K : PV → Heap → Prop}
    (hK : ∀ (m : List Int) σ', m.length = 6 → Src σ' b l → Kept σ σ' b → K (.agg (ints m)) σ') : ACall Tryz.prog 84 [.ptr b 0] σ K := by
  have hlt := hS.lt
  refine e84 (by simp) fun _ _ => ?_
  simp only [k84, argEnv, take6, List.drop_zero, Int.cast_ofNat_Int, go_sem, ↓reduceIte, Nat.reduceEqDiff, Nat.reduceAdd, Nat.reduceMul, Nat.reduceLeDiff, Nat.reduceLT, Int.reduceLE, Int.reduceLT, reduceCtorEq]
  try simp only [OpK_eq, HKv, take6, List.drop_zero, Int.cast_ofNat_Int, go_sem, ↓reduceIte, Nat.reduceEqDiff, Nat.reduceAdd, Nat.reduceMul, Nat.reduceLeDiff, Nat.reduceLT, Int.reduceLE, Int.reduceLT, reduceCtorEq]
  generalize hz : AObj.box [PV.int .i64 0, PV.int .i64 0, PV.int .i64 0, PV.int .i64 0, PV.int .i64 0, PV.int .i64 0] = z
  refine p122 hl (hS.app _) fun m τ q1 q2 q3 q4 => ?_
  have hk1 : Kept σ τ b := (Kept.app _ _ _).trans q4
  have hz1 : τ[σ.length]? = some z := by
    rw [q4.2 _ (by simp) (by omega)]; simp
  try simp only [OpK_eq, HKv, take6, List.drop_zero, Int.cast_ofNat_Int, go_sem, ↓reduceIte, Nat.reduceEqDiff, Nat.reduceAdd, Nat.reduceMul, Nat.reduceLeDiff, Nat.reduceLT, Int.reduceLE, Int.reduceLT, reduceCtorEq]
  refine p126 hl q3 m q1 q2 fun m2 ρ q5 q6 q7 => ?_
  have hzl := (List.getElem?_eq_some_iff.1 hz1).1
  have hz2 : ρ[σ.length]? = some z := (q7.2 _ hzl (by omega)).trans hz1
  have hself : ∀ o, (ρ.set σ.length o)[σ.length]? = some o := fun o => List.getElem?_set_self (List.getElem?_eq_some_iff.1 hz2).1
  have hil : (ints m2).length = 6 := by rw [ints_length, q5]
  subst hz
  try simp only [OpK_eq, HKv, hz2, hself, hil, take6, List.drop_zero, Int.cast_ofNat_Int, go_sem, ↓reduceIte, Nat.reduceEqDiff, Nat.reduceAdd, Nat.reduceMul, Nat.reduceLeDiff, Nat.reduceLT, Int.reduceLE, Int.reduceLT, reduceCtorEq]
  have hk2 := hk1.trans q7
  exact Kv.Fin.now (hK m2 _ q5 (q6.keep (List.getElem?_set_ne (by omega))) ⟨by rw [List.length_set]; exact hk2.1, fun j hj hb => (List.getElem?_set_ne (by omega)).trans (hk2.2 j hj hb)⟩)
end Go.Proofs.YtpfapiiinkkcgaaGreat
