/- The compact code of functions of the seat, and how their calls are entered: printed by this session's own program. -/
import Derived.Test.YtkdkdkkimieieaaCb
namespace Go.Proofs.Ytkdkdkkimieieaa
open Go.Kv
set_option maxRecDepth 100000
/- laws.FnExactCountIdempotents -/
def k3 : KC := (.seq (.ops [⟨(some 2), none, .mv (.c (.bool false))⟩])
  (.seq (.ops [⟨(some 8), none, .mv (.t 0)⟩, ⟨(some 9), none, .call (.c (.fn (.func 15) [] [])) [(.t 8)]⟩, ⟨(some 7), none, .mv (.t 9)⟩, ⟨(some 10), none, .extr 0 (.t 7)⟩, ⟨(some 11), none, .extr 1 (.t 7)⟩, ⟨(some 3), none, .mv (.t 10)⟩, ⟨(some 4), none, .mv (.t 11)⟩])
  (.seq (.ops [⟨(some 13), none, .mv (.t 0)⟩, ⟨(some 14), none, .call (.c (.fn (.func 16) [] [])) [(.t 13)]⟩, ⟨(some 12), none, .mv (.t 14)⟩, ⟨(some 15), none, .extr 0 (.t 12)⟩, ⟨(some 16), none, .extr 1 (.t 12)⟩, ⟨(some 5), none, .mv (.t 15)⟩, ⟨(some 6), none, .mv (.t 16)⟩])
  (.seq (.seq (.ops [⟨(some 17), none, .mv (.t 5)⟩, ⟨(some 18), none, .mv (.t 3)⟩, ⟨(some 19), none, .bin .neq (.t 17) (.t 18)⟩, ⟨(some 20), none, .mv (.t 19)⟩, ⟨(some 21), some (20, false), .mv (.t 6)⟩, ⟨(some 22), some (20, false), .mv (.t 4)⟩, ⟨(some 23), some (20, false), .bin .neq (.t 21) (.t 22)⟩, ⟨(some 24), none, .pick (.t 20) (.c (.bool true)) (.t 23)⟩])
  (.cond (.t 24) (.seq (.ops [⟨(some 2), none, .mv (.c (.bool false))⟩])
  .ret) .skip))
  (.seq (.ops [⟨(some 2), none, .mv (.c (.bool true))⟩])
  .ret)))))
theorem e3 {args : List PV} {σ : Heap} {K : PV → Heap → Prop} (hl : args.length ≤ 25) (h : Wf σ → (∀ a ∈ args, PV.upto σ.length a) → vc (mkCfg Try.prog mixed [] 25 σ.length) k3 (FinK σ.length [.t 2] K) (argEnv 0 args) σ) : ACall Try.prog 3 args σ K :=
  ACall_enter (C := mkCfg Try.prog mixed [] 25 σ.length) (c := Try.f3.body.getD .skip) Try.func3 (by kernel_rfl) (by kernel_rfl) (by kernel_rfl) rfl hl (by kernel_rfl) (by kernel_rfl) h
/- spec.CountIdempotents -/
/- live [0, 4, 5] -/
def k15_b0 : KC := (.seq (.seq (.ops [⟨(some 9), none, .mv (.t 5)⟩, ⟨(some 10), none, .mv (.t 0)⟩, ⟨(some 11), none, .bin .leq (.t 9) (.t 10)⟩])
  (.cond (.t 11) .skip (.exit 0)))
  (.seq (.block 1 (.ops [⟨(some 14), none, .mv (.t 4)⟩, ⟨(some 15), none, .mv (.t 0)⟩, ⟨(some 16), none, .mv (.t 5)⟩, ⟨(some 17), none, .call (.c (.fn (.func 52) [] [])) [(.t 15), (.t 16)]⟩, ⟨(some 18), none, .mv (.t 5)⟩, ⟨(some 19), none, .mv (.t 0)⟩, ⟨(some 20), none, .mv (.t 5)⟩, ⟨(some 21), none, .bin .sub (.t 19) (.t 20)⟩, ⟨(some 22), none, .call (.c (.fn (.func 53) [] [])) [(.t 18), (.t 21)]⟩, ⟨(some 23), none, .bin .mul (.t 17) (.t 22)⟩, ⟨(some 24), none, .bin .add (.t 14) (.t 23)⟩, ⟨(some 4), none, .mv (.t 24)⟩]))
  (.ops [⟨(some 12), none, .mv (.t 5)⟩, ⟨(some 13), none, .bin .add (.t 12) (.c (.int .i64 1))⟩, ⟨(some 5), none, .mv (.t 13)⟩])))
def k15 : KC := (.seq (.ops [⟨(some 2), none, .mv (.c (.int .i64 0))⟩, ⟨(some 3), none, .mv (.c (.int .i64 0))⟩])
  (.seq (.seq (.ops [⟨(some 6), none, .mv (.t 0)⟩, ⟨(some 7), none, .call (.c (.fn (.func 51) [] [])) [(.t 6), (.c (.int .i64 1)), (.c (.int .i64 12))]⟩, ⟨(some 8), none, .not (.t 7)⟩])
  (.cond (.t 8) (.seq (.ops [⟨(some 2), none, .mv (.c (.int .i64 0))⟩, ⟨(some 3), none, .mv (.c (.int .i64 2))⟩])
  .ret) .skip))
  (.seq (.ops [⟨(some 4), none, .mv (.c (.int .i64 0))⟩])
  (.seq (.seq (.ops [⟨(some 5), none, .mv (.c (.int .i64 1))⟩])
  (.block 0 (.loop k15_b0)))
  (.seq (.ops [⟨(some 25), none, .mv (.t 4)⟩, ⟨(some 2), none, .mv (.t 25)⟩, ⟨(some 3), none, .mv (.c (.int .i64 0))⟩])
  .ret)))))
theorem e15 {args : List PV} {σ : Heap} {K : PV → Heap → Prop} (hl : args.length ≤ 26) (h : Wf σ → (∀ a ∈ args, PV.upto σ.length a) → vc (mkCfg Try.prog mixed [] 26 σ.length) k15 (FinK σ.length [.t 2, .t 3] K) (argEnv 0 args) σ) : ACall Try.prog 15 args σ K :=
  ACall_enter (C := mkCfg Try.prog mixed [] 26 σ.length) (c := Try.f15.body.getD .skip) Try.func15 (by kernel_rfl) (by kernel_rfl) (by kernel_rfl) rfl hl (by kernel_rfl) (by kernel_rfl) h
/- impl.CountIdempotents -/
/- live [0, 4, 5] -/
def k16_b0 : KC := (.seq (.seq (.ops [⟨(some 9), none, .mv (.t 5)⟩, ⟨(some 10), none, .mv (.t 0)⟩, ⟨(some 11), none, .bin .leq (.t 9) (.t 10)⟩])
  (.cond (.t 11) .skip (.exit 0)))
  (.seq (.block 1 (.ops [⟨(some 14), none, .mv (.t 4)⟩, ⟨(some 15), none, .mv (.t 0)⟩, ⟨(some 16), none, .mv (.t 5)⟩, ⟨(some 17), none, .call (.c (.fn (.func 55) [] [])) [(.t 15), (.t 16)]⟩, ⟨(some 18), none, .mv (.t 5)⟩, ⟨(some 19), none, .mv (.t 0)⟩, ⟨(some 20), none, .mv (.t 5)⟩, ⟨(some 21), none, .bin .sub (.t 19) (.t 20)⟩, ⟨(some 22), none, .call (.c (.fn (.func 56) [] [])) [(.t 18), (.t 21)]⟩, ⟨(some 23), none, .bin .mul (.t 17) (.t 22)⟩, ⟨(some 24), none, .bin .add (.t 14) (.t 23)⟩, ⟨(some 4), none, .mv (.t 24)⟩]))
  (.ops [⟨(some 12), none, .mv (.t 5)⟩, ⟨(some 13), none, .bin .add (.t 12) (.c (.int .i64 1))⟩, ⟨(some 5), none, .mv (.t 13)⟩])))
def k16 : KC := (.seq (.ops [⟨(some 2), none, .mv (.c (.int .i64 0))⟩, ⟨(some 3), none, .mv (.c (.int .i64 0))⟩])
  (.seq (.seq (.ops [⟨(some 6), none, .mv (.t 0)⟩, ⟨(some 7), none, .call (.c (.fn (.func 54) [] [])) [(.t 6)]⟩, ⟨(some 8), none, .not (.t 7)⟩])
  (.cond (.t 8) (.seq (.ops [⟨(some 2), none, .mv (.c (.int .i64 0))⟩, ⟨(some 3), none, .mv (.c (.int .i64 2))⟩])
  .ret) .skip))
  (.seq (.ops [⟨(some 4), none, .mv (.c (.int .i64 0))⟩])
  (.seq (.seq (.ops [⟨(some 5), none, .mv (.c (.int .i64 1))⟩])
  (.block 0 (.loop k16_b0)))
  (.seq (.ops [⟨(some 25), none, .mv (.t 4)⟩, ⟨(some 2), none, .mv (.t 25)⟩, ⟨(some 3), none, .mv (.c (.int .i64 0))⟩])
  .ret)))))
theorem e16 {args : List PV} {σ : Heap} {K : PV → Heap → Prop} (hl : args.length ≤ 26) (h : Wf σ → (∀ a ∈ args, PV.upto σ.length a) → vc (mkCfg Try.prog mixed [] 26 σ.length) k16 (FinK σ.length [.t 2, .t 3] K) (argEnv 0 args) σ) : ACall Try.prog 16 args σ K :=
  ACall_enter (C := mkCfg Try.prog mixed [] 26 σ.length) (c := Try.f16.body.getD .skip) Try.func16 (by kernel_rfl) (by kernel_rfl) (by kernel_rfl) rfl hl (by kernel_rfl) (by kernel_rfl) h
/- spec.l09Choose -/
/- live [0, 1, 5, 6] -/
def k52_b0 : KC := (.seq (.seq (.ops [⟨(some 7), none, .mv (.t 6)⟩, ⟨(some 8), none, .mv (.t 1)⟩, ⟨(some 9), none, .bin .lss (.t 7) (.t 8)⟩])
  (.cond (.t 9) .skip (.exit 0)))
  (.seq (.block 1 (.ops [⟨(some 12), none, .mv (.t 5)⟩, ⟨(some 13), none, .mv (.t 0)⟩, ⟨(some 14), none, .mv (.t 6)⟩, ⟨(some 15), none, .bin .sub (.t 13) (.t 14)⟩, ⟨(some 16), none, .bin .mul (.t 12) (.t 15)⟩, ⟨(some 17), none, .mv (.t 6)⟩, ⟨(some 18), none, .bin .add (.t 17) (.c (.int .i64 1))⟩, ⟨(some 19), none, .bin .quo (.t 16) (.t 18)⟩, ⟨(some 5), none, .mv (.t 19)⟩]))
  (.ops [⟨(some 10), none, .mv (.t 6)⟩, ⟨(some 11), none, .bin .add (.t 10) (.c (.int .i64 1))⟩, ⟨(some 6), none, .mv (.t 11)⟩])))
def k52 : KC := (.seq (.ops [⟨(some 4), none, .mv (.c (.int .i64 0))⟩])
  (.seq (.ops [⟨(some 5), none, .mv (.c (.int .i64 1))⟩])
  (.seq (.seq (.ops [⟨(some 6), none, .mv (.c (.int .i64 0))⟩])
  (.block 0 (.loop k52_b0)))
  (.seq (.ops [⟨(some 20), none, .mv (.t 5)⟩, ⟨(some 4), none, .mv (.t 20)⟩])
  .ret))))
theorem e52 {args : List PV} {σ : Heap} {K : PV → Heap → Prop} (hl : args.length ≤ 21) (h : Wf σ → (∀ a ∈ args, PV.upto σ.length a) → vc (mkCfg Try.prog mixed [] 21 σ.length) k52 (FinK σ.length [.t 4] K) (argEnv 0 args) σ) : ACall Try.prog 52 args σ K :=
  ACall_enter (C := mkCfg Try.prog mixed [] 21 σ.length) (c := Try.f52.body.getD .skip) Try.func52 (by kernel_rfl) (by kernel_rfl) (by kernel_rfl) rfl hl (by kernel_rfl) (by kernel_rfl) h
/- spec.l09Power -/
/- live [0, 1, 5] -/
def k53_b0 : KC := (.seq (.seq (.ops [⟨(some 6), none, .mv (.t 1)⟩, ⟨(some 7), none, .bin .gtr (.t 6) (.c (.int .i64 0))⟩])
  (.cond (.t 7) .skip (.exit 0)))
  (.seq (.block 1 (.ops [⟨(some 10), none, .mv (.t 5)⟩, ⟨(some 11), none, .mv (.t 0)⟩, ⟨(some 12), none, .bin .mul (.t 10) (.t 11)⟩, ⟨(some 5), none, .mv (.t 12)⟩]))
  (.ops [⟨(some 8), none, .mv (.t 1)⟩, ⟨(some 9), none, .bin .sub (.t 8) (.c (.int .i64 1))⟩, ⟨(some 1), none, .mv (.t 9)⟩])))
def k53 : KC := (.seq (.ops [⟨(some 4), none, .mv (.c (.int .i64 0))⟩])
  (.seq (.ops [⟨(some 5), none, .mv (.c (.int .i64 1))⟩])
  (.seq (.block 0 (.loop k53_b0))
  (.seq (.ops [⟨(some 13), none, .mv (.t 5)⟩, ⟨(some 4), none, .mv (.t 13)⟩])
  .ret))))
theorem e53 {args : List PV} {σ : Heap} {K : PV → Heap → Prop} (hl : args.length ≤ 14) (h : Wf σ → (∀ a ∈ args, PV.upto σ.length a) → vc (mkCfg Try.prog mixed [] 14 σ.length) k53 (FinK σ.length [.t 4] K) (argEnv 0 args) σ) : ACall Try.prog 53 args σ K :=
  ACall_enter (C := mkCfg Try.prog mixed [] 14 σ.length) (c := Try.f53.body.getD .skip) Try.func53 (by kernel_rfl) (by kernel_rfl) (by kernel_rfl) rfl hl (by kernel_rfl) (by kernel_rfl) h
/- impl.isFormula -/
def k54 : KC := (.seq (.ops [⟨(some 2), none, .mv (.c (.bool false))⟩])
  (.seq (.ops [⟨(some 3), none, .mv (.t 0)⟩, ⟨(some 4), none, .call (.c (.fn (.func 91) [] [])) [(.t 3), (.c (.int .i64 1)), (.c (.int .i64 12))]⟩, ⟨(some 2), none, .mv (.t 4)⟩])
  .ret))
theorem e54 {args : List PV} {σ : Heap} {K : PV → Heap → Prop} (hl : args.length ≤ 5) (h : Wf σ → (∀ a ∈ args, PV.upto σ.length a) → vc (mkCfg Try.prog mixed [] 5 σ.length) k54 (FinK σ.length [.t 2] K) (argEnv 0 args) σ) : ACall Try.prog 54 args σ K :=
  ACall_enter (C := mkCfg Try.prog mixed [] 5 σ.length) (c := Try.f54.body.getD .skip) Try.func54 (by kernel_rfl) (by kernel_rfl) (by kernel_rfl) rfl hl (by kernel_rfl) (by kernel_rfl) h
/- impl.choose -/
/- live [0, 5, 7, 8] -/
def k55_b0 : KC := (.seq (.ops [⟨(some 9), none, .bin .lss (.t 8) (.t 7)⟩])
  (.seq (.cond (.t 9) .skip (.exit 0))
  (.seq (.block 1 (.seq (.ops [⟨(some 10), none, .mv (.t 8)⟩, ⟨(some 6), none, .mv (.t 10)⟩])
  (.ops [⟨(some 11), none, .mv (.t 5)⟩, ⟨(some 12), none, .mv (.t 0)⟩, ⟨(some 13), none, .mv (.t 6)⟩, ⟨(some 14), none, .bin .sub (.t 12) (.t 13)⟩, ⟨(some 15), none, .bin .mul (.t 11) (.t 14)⟩, ⟨(some 16), none, .mv (.t 6)⟩, ⟨(some 17), none, .bin .add (.t 16) (.c (.int .i64 1))⟩, ⟨(some 18), none, .bin .quo (.t 15) (.t 17)⟩, ⟨(some 5), none, .mv (.t 18)⟩])))
  (.ops [⟨(some 19), none, .bin .add (.t 8) (.c (.int .i64 1))⟩, ⟨(some 8), none, .mv (.t 19)⟩]))))
def k55 : KC := (.seq (.ops [⟨(some 4), none, .mv (.c (.int .i64 0))⟩])
  (.seq (.ops [⟨(some 5), none, .mv (.c (.int .i64 1))⟩])
  (.seq (.seq (.ops [⟨(some 7), none, .mv (.t 1)⟩, ⟨(some 8), none, .mv (.c (.int .i64 0))⟩])
  (.block 0 (.loop k55_b0)))
  (.seq (.ops [⟨(some 20), none, .mv (.t 5)⟩, ⟨(some 4), none, .mv (.t 20)⟩])
  .ret))))
theorem e55 {args : List PV} {σ : Heap} {K : PV → Heap → Prop} (hl : args.length ≤ 21) (h : Wf σ → (∀ a ∈ args, PV.upto σ.length a) → vc (mkCfg Try.prog mixed [] 21 σ.length) k55 (FinK σ.length [.t 4] K) (argEnv 0 args) σ) : ACall Try.prog 55 args σ K :=
  ACall_enter (C := mkCfg Try.prog mixed [] 21 σ.length) (c := Try.f55.body.getD .skip) Try.func55 (by kernel_rfl) (by kernel_rfl) (by kernel_rfl) rfl hl (by kernel_rfl) (by kernel_rfl) h
/- impl.whole -/
/- live [0, 5, 6, 7] -/
def k56_b0 : KC := (.seq (.ops [⟨(some 8), none, .bin .lss (.t 7) (.t 6)⟩])
  (.seq (.cond (.t 8) .skip (.exit 0))
  (.seq (.block 1 (.ops [⟨(some 9), none, .mv (.t 5)⟩, ⟨(some 10), none, .mv (.t 0)⟩, ⟨(some 11), none, .bin .mul (.t 9) (.t 10)⟩, ⟨(some 5), none, .mv (.t 11)⟩]))
  (.ops [⟨(some 12), none, .bin .add (.t 7) (.c (.int .i64 1))⟩, ⟨(some 7), none, .mv (.t 12)⟩]))))
def k56 : KC := (.seq (.ops [⟨(some 4), none, .mv (.c (.int .i64 0))⟩])
  (.seq (.ops [⟨(some 5), none, .mv (.c (.int .i64 1))⟩])
  (.seq (.seq (.ops [⟨(some 6), none, .mv (.t 1)⟩, ⟨(some 7), none, .mv (.c (.int .i64 0))⟩])
  (.block 0 (.loop k56_b0)))
  (.seq (.ops [⟨(some 13), none, .mv (.t 5)⟩, ⟨(some 4), none, .mv (.t 13)⟩])
  .ret))))
theorem e56 {args : List PV} {σ : Heap} {K : PV → Heap → Prop} (hl : args.length ≤ 14) (h : Wf σ → (∀ a ∈ args, PV.upto σ.length a) → vc (mkCfg Try.prog mixed [] 14 σ.length) k56 (FinK σ.length [.t 4] K) (argEnv 0 args) σ) : ACall Try.prog 56 args σ K :=
  ACall_enter (C := mkCfg Try.prog mixed [] 14 σ.length) (c := Try.f56.body.getD .skip) Try.func56 (by kernel_rfl) (by kernel_rfl) (by kernel_rfl) rfl hl (by kernel_rfl) (by kernel_rfl) h
end Go.Proofs.Ytkdkdkkimieieaa
