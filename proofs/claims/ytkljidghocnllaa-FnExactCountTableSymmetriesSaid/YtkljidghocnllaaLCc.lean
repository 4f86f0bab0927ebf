/- The compact code of functions of the seat, and how their calls are entered: printed by this session's own program. -/
import Derived.Test.YtkljidghocnllaaCb
namespace Go.Proofs.Ytkljidghocnllaa
open Go.Kv
set_option maxRecDepth 100000
/- impl.listCode -/
/- live [0, 1, 12, 13, 14] -/
def k64_b0 : KC := (.seq (.ops [⟨(some 15), none, .bin .lss (.t 14) (.t 13)⟩])
  (.seq (.cond (.t 15) .skip (.exit 0))
  (.seq (.block 1 (.seq (.ops [⟨(some 16), none, .idxS 6 (.t 12) (.t 14)⟩, ⟨(some 17), none, .load true 6 (.t 16)⟩, ⟨(some 6), none, .alloc [.int .i64 0, .int .i64 0, .int .i64 0, .int .i64 0, .int .i64 0, .int .i64 0]⟩, ⟨none, none, .store 6 (.t 6) (.t 17)⟩])
  (.seq (.ops [⟨(some 18), none, .load true 6 (.t 6)⟩, ⟨(some 19), none, .call (.c (.fn (.func 77) [] [])) [(.t 18)]⟩, ⟨(some 20), none, .not (.t 19)⟩])
  (.cond (.t 20) (.seq (.ops [⟨(some 4), none, .mv (.c (.int .i64 1))⟩])
  .ret) .skip))))
  (.ops [⟨(some 21), none, .bin .add (.t 14) (.c (.int .i64 1))⟩, ⟨(some 14), none, .mv (.t 21)⟩]))))
/- live [0, 29, 30, 31] -/
def k64_b1 : KC := (.seq (.ops [⟨(some 32), none, .bin .lss (.t 31) (.t 30)⟩])
  (.seq (.cond (.t 32) .skip (.exit 2))
  (.seq (.block 3 (.seq (.ops [⟨(some 33), none, .idxS 6 (.t 29) (.t 31)⟩, ⟨(some 34), none, .load true 6 (.t 33)⟩, ⟨(some 8), none, .alloc [.int .i64 0, .int .i64 0, .int .i64 0, .int .i64 0, .int .i64 0, .int .i64 0]⟩, ⟨none, none, .store 6 (.t 8) (.t 34)⟩])
  (.seq (.draw [⟨(some 35), none, .fieldA 0 (.t 8)⟩, ⟨(some 36), none, .load false 1 (.t 35)⟩, ⟨(some 37), none, .mv (.t 0)⟩, ⟨(some 38), none, .idxS 6 (.t 37) (.c (.int .i64 0))⟩, ⟨(some 39), none, .fieldA 0 (.t 38)⟩, ⟨(some 40), none, .load false 1 (.t 39)⟩, ⟨(some 41), none, .bin .neq (.t 36) (.t 40)⟩])
  (.cond (.t 41) (.seq (.ops [⟨(some 4), none, .mv (.c (.int .i64 2))⟩])
  .ret) .skip))))
  (.ops [⟨(some 42), none, .bin .add (.t 31) (.c (.int .i64 1))⟩, ⟨(some 31), none, .mv (.t 42)⟩]))))
def k64 : KC := (.seq (.ops [⟨(some 4), none, .mv (.c (.int .i64 0))⟩])
  (.seq (.seq (.ops [⟨(some 9), none, .mv (.t 0)⟩, ⟨(some 10), none, .mv (.t 1)⟩, ⟨(some 11), none, .bsl false 35 1 [(.t 9), (.t 10)]⟩, ⟨(some 12), none, .call (.c (.fn (.func 76) [] [])) [(.t 11)]⟩, ⟨(some 13), none, .len false (.t 12)⟩, ⟨(some 14), none, .mv (.c (.int .i64 0))⟩])
  (.block 0 (.loop k64_b0)))
  (.seq (.seq (.ops [⟨(some 22), none, .mv (.t 0)⟩, ⟨(some 23), none, .len false (.t 22)⟩, ⟨(some 24), none, .call (.c (.fn (.func 103) [] [])) [(.t 23), (.c (.int .i64 1)), (.c (.int .i64 6))]⟩, ⟨(some 25), none, .not (.t 24)⟩])
  (.cond (.t 25) (.seq (.ops [⟨(some 4), none, .mv (.c (.int .i64 2))⟩])
  .ret) .skip))
  (.seq (.seq (.ops [⟨(some 26), none, .mv (.t 0)⟩, ⟨(some 27), none, .mv (.t 1)⟩, ⟨(some 28), none, .bsl false 35 1 [(.t 26), (.t 27)]⟩, ⟨(some 29), none, .call (.c (.fn (.func 76) [] [])) [(.t 28)]⟩, ⟨(some 30), none, .len false (.t 29)⟩, ⟨(some 31), none, .mv (.c (.int .i64 0))⟩])
  (.block 2 (.loop k64_b1)))
  (.seq (.ops [⟨(some 4), none, .mv (.c (.int .i64 0))⟩])
  .ret)))))
theorem e64 {args : List PV} {σ : Heap} {K : PV → Heap → Prop} (hl : args.length ≤ 43) (h : Wf σ → (∀ a ∈ args, PV.upto σ.length a) → vc (mkCfg Try.prog mixed [] 43 σ.length) k64 (FinK σ.length [.t 4] K) (argEnv 0 args) σ) : ACall Try.prog 64 args σ K :=
  ACall_enter (C := mkCfg Try.prog mixed [] 43 σ.length) (c := Try.f64.body.getD .skip) Try.func64 (by kernel_rfl) (by kernel_rfl) (by kernel_rfl) rfl hl (by kernel_rfl) (by kernel_rfl) h
/- spec.l02Given -/
/- live [0, 1, 5] -/
def k63_b0 : KC := (.seq (.seq (.ops [⟨(some 8), none, .mv (.t 5)⟩, ⟨(some 9), none, .mv (.t 0)⟩, ⟨(some 10), none, .len false (.t 9)⟩, ⟨(some 11), none, .bin .lss (.t 8) (.t 10)⟩])
  (.cond (.t 11) .skip (.exit 0)))
  (.seq (.block 1 (.seq (.ops [⟨(some 14), none, .mv (.t 0)⟩, ⟨(some 15), none, .mv (.t 5)⟩, ⟨(some 16), none, .idxS 6 (.t 14) (.t 15)⟩, ⟨(some 17), none, .load true 6 (.t 16)⟩, ⟨(some 18), none, .call (.c (.fn (.func 97) [] [])) [(.t 17)]⟩, ⟨(some 19), none, .not (.t 18)⟩])
  (.cond (.t 19) (.seq (.ops [⟨(some 4), none, .mv (.c (.int .i64 1))⟩])
  .ret) .skip)))
  (.ops [⟨(some 12), none, .mv (.t 5)⟩, ⟨(some 13), none, .bin .add (.t 12) (.c (.int .i64 1))⟩, ⟨(some 5), none, .mv (.t 13)⟩])))
/- live [0, 1, 6] -/
def k63_b1 : KC := (.seq (.seq (.ops [⟨(some 20), none, .mv (.t 6)⟩, ⟨(some 21), none, .mv (.t 1)⟩, ⟨(some 22), none, .len false (.t 21)⟩, ⟨(some 23), none, .bin .lss (.t 20) (.t 22)⟩])
  (.cond (.t 23) .skip (.exit 2)))
  (.seq (.block 3 (.seq (.ops [⟨(some 26), none, .mv (.t 1)⟩, ⟨(some 27), none, .mv (.t 6)⟩, ⟨(some 28), none, .idxS 6 (.t 26) (.t 27)⟩, ⟨(some 29), none, .load true 6 (.t 28)⟩, ⟨(some 30), none, .call (.c (.fn (.func 97) [] [])) [(.t 29)]⟩, ⟨(some 31), none, .not (.t 30)⟩])
  (.cond (.t 31) (.seq (.ops [⟨(some 4), none, .mv (.c (.int .i64 1))⟩])
  .ret) .skip)))
  (.ops [⟨(some 24), none, .mv (.t 6)⟩, ⟨(some 25), none, .bin .add (.t 24) (.c (.int .i64 1))⟩, ⟨(some 6), none, .mv (.t 25)⟩])))
/- live [0, 1, 7] -/
def k63_b2 : KC := (.seq (.seq (.ops [⟨(some 35), none, .mv (.t 7)⟩, ⟨(some 36), none, .mv (.t 1)⟩, ⟨(some 37), none, .len false (.t 36)⟩, ⟨(some 38), none, .bin .lss (.t 35) (.t 37)⟩])
  (.cond (.t 38) .skip (.exit 4)))
  (.seq (.block 5 (.seq (.draw [⟨(some 41), none, .mv (.t 1)⟩, ⟨(some 42), none, .mv (.t 7)⟩, ⟨(some 43), none, .idxS 6 (.t 41) (.t 42)⟩, ⟨(some 44), none, .fieldA 0 (.t 43)⟩, ⟨(some 45), none, .load false 1 (.t 44)⟩, ⟨(some 46), none, .mv (.t 0)⟩, ⟨(some 47), none, .idxS 6 (.t 46) (.c (.int .i64 0))⟩, ⟨(some 48), none, .fieldA 0 (.t 47)⟩, ⟨(some 49), none, .load false 1 (.t 48)⟩, ⟨(some 50), none, .bin .neq (.t 45) (.t 49)⟩])
  (.cond (.t 50) (.seq (.ops [⟨(some 4), none, .mv (.c (.int .i64 2))⟩])
  .ret) .skip)))
  (.ops [⟨(some 39), none, .mv (.t 7)⟩, ⟨(some 40), none, .bin .add (.t 39) (.c (.int .i64 1))⟩, ⟨(some 7), none, .mv (.t 40)⟩])))
def k63 : KC := (.seq (.ops [⟨(some 4), none, .mv (.c (.int .i64 0))⟩])
  (.seq (.seq (.ops [⟨(some 5), none, .mv (.c (.int .i64 0))⟩])
  (.block 0 (.loop k63_b0)))
  (.seq (.seq (.ops [⟨(some 6), none, .mv (.c (.int .i64 0))⟩])
  (.block 2 (.loop k63_b1)))
  (.seq (.seq (.ops [⟨(some 32), none, .mv (.t 0)⟩, ⟨(some 33), none, .call (.c (.fn (.func 108) [] [])) [(.t 32)]⟩, ⟨(some 34), none, .not (.t 33)⟩])
  (.cond (.t 34) (.seq (.ops [⟨(some 4), none, .mv (.c (.int .i64 2))⟩])
  .ret) .skip))
  (.seq (.seq (.ops [⟨(some 7), none, .mv (.c (.int .i64 0))⟩])
  (.block 4 (.loop k63_b2)))
  (.seq (.ops [⟨(some 4), none, .mv (.c (.int .i64 0))⟩])
  .ret))))))
theorem e63 {args : List PV} {σ : Heap} {K : PV → Heap → Prop} (hl : args.length ≤ 51) (h : Wf σ → (∀ a ∈ args, PV.upto σ.length a) → vc (mkCfg Try.prog mixed [] 51 σ.length) k63 (FinK σ.length [.t 4] K) (argEnv 0 args) σ) : ACall Try.prog 63 args σ K :=
  ACall_enter (C := mkCfg Try.prog mixed [] 51 σ.length) (c := Try.f63.body.getD .skip) Try.func63 (by kernel_rfl) (by kernel_rfl) (by kernel_rfl) rfl hl (by kernel_rfl) (by kernel_rfl) h
/- spec.l01Same -/
/- live [0, 3, 25, 26, 27, 28, 29, 30, 31, 32, 33, 34] -/
def k108_b0 : KC := (.seq (.seq (.ops [⟨(some 12), none, .mv (.t 3)⟩, ⟨(some 13), none, .mv (.t 0)⟩, ⟨(some 14), none, .len false (.t 13)⟩, ⟨(some 15), none, .bin .lss (.t 12) (.t 14)⟩])
  (.cond (.t 15) .skip (.exit 0)))
  (.seq (.block 1 (.seq (.draw [⟨(some 18), none, .mv (.t 0)⟩, ⟨(some 19), none, .mv (.t 3)⟩, ⟨(some 20), none, .idxS 6 (.t 18) (.t 19)⟩, ⟨(some 21), none, .load true 6 (.t 20)⟩, ⟨(some 22), none, .pcall (.c (.fn (.func 97) [] [])) [(.t 21)]⟩, ⟨(some 23), none, .not (.t 22)⟩, ⟨(some 24), none, .mv (.t 23)⟩, ⟨(some 25), some (24, false), .mv (.t 0)⟩, ⟨(some 26), some (24, false), .mv (.t 3)⟩, ⟨(some 27), some (24, false), .idxS 6 (.t 25) (.t 26)⟩, ⟨(some 28), some (24, false), .fieldA 0 (.t 27)⟩, ⟨(some 29), some (24, false), .load false 1 (.t 28)⟩, ⟨(some 30), some (24, false), .mv (.t 0)⟩, ⟨(some 31), some (24, false), .idxS 6 (.t 30) (.c (.int .i64 0))⟩, ⟨(some 32), some (24, false), .fieldA 0 (.t 31)⟩, ⟨(some 33), some (24, false), .load false 1 (.t 32)⟩, ⟨(some 34), some (24, false), .bin .neq (.t 29) (.t 33)⟩, ⟨(some 35), none, .pick (.t 24) (.c (.bool true)) (.t 34)⟩])
  (.cond (.t 35) (.seq (.ops [⟨(some 2), none, .mv (.c (.bool false))⟩])
  .ret) .skip)))
  (.ops [⟨(some 16), none, .mv (.t 3)⟩, ⟨(some 17), none, .bin .add (.t 16) (.c (.int .i64 1))⟩, ⟨(some 3), none, .mv (.t 17)⟩])))
def k108 : KC := (.seq (.ops [⟨(some 2), none, .mv (.c (.bool false))⟩])
  (.seq (.seq (.ops [⟨(some 4), none, .mv (.t 0)⟩, ⟨(some 5), none, .len false (.t 4)⟩, ⟨(some 6), none, .bin .lss (.t 5) (.c (.int .i64 1))⟩, ⟨(some 7), none, .mv (.t 6)⟩, ⟨(some 8), some (7, false), .mv (.t 0)⟩, ⟨(some 9), some (7, false), .len false (.t 8)⟩, ⟨(some 10), some (7, false), .bin .gtr (.t 9) (.c (.int .i64 6))⟩, ⟨(some 11), none, .pick (.t 7) (.c (.bool true)) (.t 10)⟩])
  (.cond (.t 11) (.seq (.ops [⟨(some 2), none, .mv (.c (.bool false))⟩])
  .ret) .skip))
  (.seq (.seq (.ops [⟨(some 3), none, .mv (.c (.int .i64 0))⟩])
  (.block 0 (.loop k108_b0)))
  (.seq (.ops [⟨(some 2), none, .mv (.c (.bool true))⟩])
  .ret))))
theorem e108 {args : List PV} {σ : Heap} {K : PV → Heap → Prop} (hl : args.length ≤ 36) (h : Wf σ → (∀ a ∈ args, PV.upto σ.length a) → vc (mkCfg Try.prog mixed [] 36 σ.length) k108 (FinK σ.length [.t 2] K) (argEnv 0 args) σ) : ACall Try.prog 108 args σ K :=
  ACall_enter (C := mkCfg Try.prog mixed [] 36 σ.length) (c := Try.f108.body.getD .skip) Try.func108 (by kernel_rfl) (by kernel_rfl) (by kernel_rfl) rfl hl (by kernel_rfl) (by kernel_rfl) h
end Go.Proofs.Ytkljidghocnllaa
