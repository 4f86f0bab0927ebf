/- The compact code of functions of the seat, and how their calls are entered: printed by this session's own program. -/
import Derived.Test.YtkljidghocnllaaCb
namespace Go.Proofs.Ytkljidghocnllaa
open Go.Kv
set_option maxRecDepth 100000
/- laws.szInt64SS -/
/- live [0, 1, 5] -/
def k23_b0 : KC := (.seq (.seq (.ops [⟨(some 12), none, .mv (.t 5)⟩, ⟨(some 13), none, .mv (.t 0)⟩, ⟨(some 14), none, .len false (.t 13)⟩, ⟨(some 15), none, .bin .lss (.t 12) (.t 14)⟩])
  (.cond (.t 15) .skip (.exit 0)))
  (.seq (.block 1 (.seq (.ops [⟨(some 18), none, .mv (.t 0)⟩, ⟨(some 19), none, .mv (.t 5)⟩, ⟨(some 20), none, .idxS 1 (.t 18) (.t 19)⟩, ⟨(some 21), none, .load false 1 (.t 20)⟩, ⟨(some 22), none, .mv (.t 1)⟩, ⟨(some 23), none, .call (.c (.fn (.func 65) [] [])) [(.t 21), (.t 22)]⟩, ⟨(some 1), none, .mv (.t 23)⟩])
  (.seq (.ops [⟨(some 24), none, .mv (.t 1)⟩, ⟨(some 25), none, .bin .lss (.t 24) (.c (.int .i64 0))⟩])
  (.cond (.t 25) (.seq (.ops [⟨(some 4), none, .mv (.c (.int .i64 (-1)))⟩])
  .ret) .skip))))
  (.ops [⟨(some 16), none, .mv (.t 5)⟩, ⟨(some 17), none, .bin .add (.t 16) (.c (.int .i64 1))⟩, ⟨(some 5), none, .mv (.t 17)⟩])))
def k23 : KC := (.seq (.ops [⟨(some 4), none, .mv (.c (.int .i64 0))⟩])
  (.seq (.ops [⟨(some 6), none, .mv (.t 1)⟩, ⟨(some 7), none, .mv (.t 0)⟩, ⟨(some 8), none, .len false (.t 7)⟩, ⟨(some 9), none, .bin .sub (.t 6) (.t 8)⟩, ⟨(some 1), none, .mv (.t 9)⟩])
  (.seq (.seq (.ops [⟨(some 10), none, .mv (.t 1)⟩, ⟨(some 11), none, .bin .lss (.t 10) (.c (.int .i64 0))⟩])
  (.cond (.t 11) (.seq (.ops [⟨(some 4), none, .mv (.c (.int .i64 (-1)))⟩])
  .ret) .skip))
  (.seq (.seq (.ops [⟨(some 5), none, .mv (.c (.int .i64 0))⟩])
  (.block 0 (.loop k23_b0)))
  (.seq (.ops [⟨(some 26), none, .mv (.t 1)⟩, ⟨(some 4), none, .mv (.t 26)⟩])
  .ret)))))
theorem e23 {args : List PV} {σ : Heap} {K : PV → Heap → Prop} (hl : args.length ≤ 27) (h : Wf σ → (∀ a ∈ args, PV.upto σ.length a) → vc (mkCfg Try.prog mixed [] 27 σ.length) k23 (FinK σ.length [.t 4] K) (argEnv 0 args) σ) : ACall Try.prog 23 args σ K :=
  ACall_enter (C := mkCfg Try.prog mixed [] 27 σ.length) (c := Try.f23.body.getD .skip) Try.func23 (by kernel_rfl) (by kernel_rfl) (by kernel_rfl) rfl hl (by kernel_rfl) (by kernel_rfl) h
/- laws.toInt64SS -/
/- live [0, 3, 4] -/
def k25_b0 : KC := (.seq (.seq (.ops [⟨(some 8), none, .mv (.t 4)⟩, ⟨(some 9), none, .mv (.t 0)⟩, ⟨(some 10), none, .len false (.t 9)⟩, ⟨(some 11), none, .bin .lss (.t 8) (.t 10)⟩])
  (.cond (.t 11) .skip (.exit 0)))
  (.seq (.block 1 (.ops [⟨(some 14), none, .mv (.t 3)⟩, ⟨(some 15), none, .mv (.t 4)⟩, ⟨(some 16), none, .mv (.t 0)⟩, ⟨(some 17), none, .mv (.t 4)⟩, ⟨(some 18), none, .idxS 1 (.t 16) (.t 17)⟩, ⟨(some 19), none, .load false 1 (.t 18)⟩, ⟨(some 20), none, .call (.c (.fn (.func 45) [] [])) [(.t 19)]⟩, ⟨(some 21), none, .idxS 1 (.t 14) (.t 15)⟩, ⟨none, none, .store 1 (.t 21) (.t 20)⟩]))
  (.ops [⟨(some 12), none, .mv (.t 4)⟩, ⟨(some 13), none, .bin .add (.t 12) (.c (.int .i64 1))⟩, ⟨(some 4), none, .mv (.t 13)⟩])))
def k25 : KC := (.seq (.ops [⟨(some 2), none, .mv (.c (.nils))⟩])
  (.seq (.ops [⟨(some 5), none, .mv (.t 0)⟩, ⟨(some 6), none, .len false (.t 5)⟩, ⟨(some 7), none, .mks 50 1 (.nils) (.t 6) (.t 6)⟩, ⟨(some 3), none, .mv (.t 7)⟩])
  (.seq (.seq (.ops [⟨(some 4), none, .mv (.c (.int .i64 0))⟩])
  (.block 0 (.loop k25_b0)))
  (.seq (.ops [⟨(some 22), none, .mv (.t 3)⟩, ⟨(some 2), none, .mv (.t 22)⟩])
  .ret))))
theorem e25 {args : List PV} {σ : Heap} {K : PV → Heap → Prop} (hl : args.length ≤ 23) (h : Wf σ → (∀ a ∈ args, PV.upto σ.length a) → vc (mkCfg Try.prog mixed [] 23 σ.length) k25 (FinK σ.length [.t 2] K) (argEnv 0 args) σ) : ACall Try.prog 25 args σ K :=
  ACall_enter (C := mkCfg Try.prog mixed [] 23 σ.length) (c := Try.f25.body.getD .skip) Try.func25 (by kernel_rfl) (by kernel_rfl) (by kernel_rfl) rfl hl (by kernel_rfl) (by kernel_rfl) h
/- laws.eqInt64SS -/
/- live [0, 1, 5] -/
def k27_b0 : KC := (.seq (.seq (.ops [⟨(some 11), none, .mv (.t 5)⟩, ⟨(some 12), none, .mv (.t 0)⟩, ⟨(some 13), none, .len false (.t 12)⟩, ⟨(some 14), none, .bin .lss (.t 11) (.t 13)⟩])
  (.cond (.t 14) .skip (.exit 0)))
  (.seq (.block 1 (.seq (.draw [⟨(some 17), none, .mv (.t 0)⟩, ⟨(some 18), none, .mv (.t 5)⟩, ⟨(some 19), none, .idxS 1 (.t 17) (.t 18)⟩, ⟨(some 20), none, .load false 1 (.t 19)⟩, ⟨(some 21), none, .mv (.t 1)⟩, ⟨(some 22), none, .mv (.t 5)⟩, ⟨(some 23), none, .idxS 1 (.t 21) (.t 22)⟩, ⟨(some 24), none, .load false 1 (.t 23)⟩, ⟨(some 25), none, .pcall (.c (.fn (.func 33) [] [])) [(.t 20), (.t 24)]⟩, ⟨(some 26), none, .not (.t 25)⟩])
  (.cond (.t 26) (.seq (.ops [⟨(some 4), none, .mv (.c (.bool false))⟩])
  .ret) .skip)))
  (.ops [⟨(some 15), none, .mv (.t 5)⟩, ⟨(some 16), none, .bin .add (.t 15) (.c (.int .i64 1))⟩, ⟨(some 5), none, .mv (.t 16)⟩])))
def k27 : KC := (.seq (.ops [⟨(some 4), none, .mv (.c (.bool false))⟩])
  (.seq (.seq (.ops [⟨(some 6), none, .mv (.t 0)⟩, ⟨(some 7), none, .len false (.t 6)⟩, ⟨(some 8), none, .mv (.t 1)⟩, ⟨(some 9), none, .len false (.t 8)⟩, ⟨(some 10), none, .bin .neq (.t 7) (.t 9)⟩])
  (.cond (.t 10) (.seq (.ops [⟨(some 4), none, .mv (.c (.bool false))⟩])
  .ret) .skip))
  (.seq (.seq (.ops [⟨(some 5), none, .mv (.c (.int .i64 0))⟩])
  (.block 0 (.loop k27_b0)))
  (.seq (.ops [⟨(some 4), none, .mv (.c (.bool true))⟩])
  .ret))))
theorem e27 {args : List PV} {σ : Heap} {K : PV → Heap → Prop} (hl : args.length ≤ 27) (h : Wf σ → (∀ a ∈ args, PV.upto σ.length a) → vc (mkCfg Try.prog mixed [] 27 σ.length) k27 (FinK σ.length [.t 4] K) (argEnv 0 args) σ) : ACall Try.prog 27 args σ K :=
  ACall_enter (C := mkCfg Try.prog mixed [] 27 σ.length) (c := Try.f27.body.getD .skip) Try.func27 (by kernel_rfl) (by kernel_rfl) (by kernel_rfl) rfl hl (by kernel_rfl) (by kernel_rfl) h
/- laws.szInt64S -/
def k65 : KC := (.seq (.ops [⟨(some 4), none, .mv (.c (.int .i64 0))⟩])
  (.seq (.ops [⟨(some 5), none, .mv (.t 1)⟩, ⟨(some 6), none, .mv (.t 0)⟩, ⟨(some 7), none, .len false (.t 6)⟩, ⟨(some 8), none, .bin .sub (.t 5) (.t 7)⟩, ⟨(some 1), none, .mv (.t 8)⟩])
  (.seq (.seq (.ops [⟨(some 9), none, .mv (.t 1)⟩, ⟨(some 10), none, .bin .lss (.t 9) (.c (.int .i64 0))⟩])
  (.cond (.t 10) (.seq (.ops [⟨(some 4), none, .mv (.c (.int .i64 (-1)))⟩])
  .ret) .skip))
  (.seq (.ops [⟨(some 11), none, .mv (.t 1)⟩, ⟨(some 4), none, .mv (.t 11)⟩])
  .ret))))
theorem e65 {args : List PV} {σ : Heap} {K : PV → Heap → Prop} (hl : args.length ≤ 12) (h : Wf σ → (∀ a ∈ args, PV.upto σ.length a) → vc (mkCfg Try.prog mixed [] 12 σ.length) k65 (FinK σ.length [.t 4] K) (argEnv 0 args) σ) : ACall Try.prog 65 args σ K :=
  ACall_enter (C := mkCfg Try.prog mixed [] 12 σ.length) (c := Try.f65.body.getD .skip) Try.func65 (by kernel_rfl) (by kernel_rfl) (by kernel_rfl) rfl hl (by kernel_rfl) (by kernel_rfl) h
/- laws.toInt64S -/
/- live [0, 3, 4] -/
def k45_b0 : KC := (.seq (.seq (.ops [⟨(some 8), none, .mv (.t 4)⟩, ⟨(some 9), none, .mv (.t 0)⟩, ⟨(some 10), none, .len false (.t 9)⟩, ⟨(some 11), none, .bin .lss (.t 8) (.t 10)⟩])
  (.cond (.t 11) .skip (.exit 0)))
  (.seq (.block 1 (.ops [⟨(some 14), none, .mv (.t 3)⟩, ⟨(some 15), none, .mv (.t 4)⟩, ⟨(some 16), none, .mv (.t 0)⟩, ⟨(some 17), none, .mv (.t 4)⟩, ⟨(some 18), none, .idxS 1 (.t 16) (.t 17)⟩, ⟨(some 19), none, .load false 1 (.t 18)⟩, ⟨(some 20), none, .idxS 1 (.t 14) (.t 15)⟩, ⟨none, none, .store 1 (.t 20) (.t 19)⟩]))
  (.ops [⟨(some 12), none, .mv (.t 4)⟩, ⟨(some 13), none, .bin .add (.t 12) (.c (.int .i64 1))⟩, ⟨(some 4), none, .mv (.t 13)⟩])))
def k45 : KC := (.seq (.ops [⟨(some 2), none, .mv (.c (.nils))⟩])
  (.seq (.ops [⟨(some 5), none, .mv (.t 0)⟩, ⟨(some 6), none, .len false (.t 5)⟩, ⟨(some 7), none, .mks 2 1 (.int .i64 0) (.t 6) (.t 6)⟩, ⟨(some 3), none, .mv (.t 7)⟩])
  (.seq (.seq (.ops [⟨(some 4), none, .mv (.c (.int .i64 0))⟩])
  (.block 0 (.loop k45_b0)))
  (.seq (.ops [⟨(some 21), none, .mv (.t 3)⟩, ⟨(some 2), none, .mv (.t 21)⟩])
  .ret))))
theorem e45 {args : List PV} {σ : Heap} {K : PV → Heap → Prop} (hl : args.length ≤ 22) (h : Wf σ → (∀ a ∈ args, PV.upto σ.length a) → vc (mkCfg Try.prog mixed [] 22 σ.length) k45 (FinK σ.length [.t 2] K) (argEnv 0 args) σ) : ACall Try.prog 45 args σ K :=
  ACall_enter (C := mkCfg Try.prog mixed [] 22 σ.length) (c := Try.f45.body.getD .skip) Try.func45 (by kernel_rfl) (by kernel_rfl) (by kernel_rfl) rfl hl (by kernel_rfl) (by kernel_rfl) h
end Go.Proofs.Ytkljidghocnllaa
