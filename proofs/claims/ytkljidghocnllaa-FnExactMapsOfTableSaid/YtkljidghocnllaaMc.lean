/- The compact code of functions of the seat, and how their calls are entered: printed by this session's own program. -/
import Derived.Test.YtkljidghocnllaaCb
namespace Go.Proofs.Ytkljidghocnllaa
open Go.Kv
set_option maxRecDepth 100000
/- spec.l08Monoid -/
/- live [0, 3, 4, 5] -/
def k83_b0 : KC := (.seq (.seq (.ops [⟨(some 21), none, .mv (.t 5)⟩, ⟨(some 22), none, .mv (.t 0)⟩, ⟨(some 23), none, .len false (.t 22)⟩, ⟨(some 24), none, .bin .lss (.t 21) (.t 23)⟩])
  (.cond (.t 24) .skip (.exit 4)))
  (.seq (.block 5 (.seq (.draw [⟨(some 27), none, .mv (.t 0)⟩, ⟨(some 28), none, .mv (.t 0)⟩, ⟨(some 29), none, .mv (.t 3)⟩, ⟨(some 30), none, .idxS 1 (.t 28) (.t 29)⟩, ⟨(some 31), none, .load false 1 (.t 30)⟩, ⟨(some 32), none, .mv (.t 4)⟩, ⟨(some 33), none, .idxS 1 (.t 31) (.t 32)⟩, ⟨(some 34), none, .load false 1 (.t 33)⟩, ⟨(some 35), none, .idxS 1 (.t 27) (.t 34)⟩, ⟨(some 36), none, .load false 1 (.t 35)⟩, ⟨(some 37), none, .mv (.t 5)⟩, ⟨(some 38), none, .idxS 1 (.t 36) (.t 37)⟩, ⟨(some 39), none, .load false 1 (.t 38)⟩, ⟨(some 40), none, .mv (.t 0)⟩, ⟨(some 41), none, .mv (.t 3)⟩, ⟨(some 42), none, .idxS 1 (.t 40) (.t 41)⟩, ⟨(some 43), none, .load false 1 (.t 42)⟩, ⟨(some 44), none, .mv (.t 0)⟩, ⟨(some 45), none, .mv (.t 4)⟩, ⟨(some 46), none, .idxS 1 (.t 44) (.t 45)⟩, ⟨(some 47), none, .load false 1 (.t 46)⟩, ⟨(some 48), none, .mv (.t 5)⟩, ⟨(some 49), none, .idxS 1 (.t 47) (.t 48)⟩, ⟨(some 50), none, .load false 1 (.t 49)⟩, ⟨(some 51), none, .idxS 1 (.t 43) (.t 50)⟩, ⟨(some 52), none, .load false 1 (.t 51)⟩, ⟨(some 53), none, .bin .neq (.t 39) (.t 52)⟩])
  (.cond (.t 53) (.seq (.ops [⟨(some 2), none, .mv (.c (.bool false))⟩])
  .ret) .skip)))
  (.ops [⟨(some 25), none, .mv (.t 5)⟩, ⟨(some 26), none, .bin .add (.t 25) (.c (.int .i64 1))⟩, ⟨(some 5), none, .mv (.t 26)⟩])))
/- live [0, 3, 4] -/
def k83_b1 : KC := (.seq (.seq (.ops [⟨(some 15), none, .mv (.t 4)⟩, ⟨(some 16), none, .mv (.t 0)⟩, ⟨(some 17), none, .len false (.t 16)⟩, ⟨(some 18), none, .bin .lss (.t 15) (.t 17)⟩])
  (.cond (.t 18) .skip (.exit 2)))
  (.seq (.block 3 (.seq (.ops [⟨(some 5), none, .mv (.c (.int .i64 0))⟩])
  (.block 4 (.loop k83_b0))))
  (.ops [⟨(some 19), none, .mv (.t 4)⟩, ⟨(some 20), none, .bin .add (.t 19) (.c (.int .i64 1))⟩, ⟨(some 4), none, .mv (.t 20)⟩])))
/- live [0, 3] -/
def k83_b2 : KC := (.seq (.seq (.ops [⟨(some 9), none, .mv (.t 3)⟩, ⟨(some 10), none, .mv (.t 0)⟩, ⟨(some 11), none, .len false (.t 10)⟩, ⟨(some 12), none, .bin .lss (.t 9) (.t 11)⟩])
  (.cond (.t 12) .skip (.exit 0)))
  (.seq (.block 1 (.seq (.ops [⟨(some 4), none, .mv (.c (.int .i64 0))⟩])
  (.block 2 (.loop k83_b1))))
  (.ops [⟨(some 13), none, .mv (.t 3)⟩, ⟨(some 14), none, .bin .add (.t 13) (.c (.int .i64 1))⟩, ⟨(some 3), none, .mv (.t 14)⟩])))
def k83 : KC := (.seq (.ops [⟨(some 2), none, .mv (.c (.bool false))⟩])
  (.seq (.seq (.ops [⟨(some 6), none, .mv (.t 0)⟩, ⟨(some 7), none, .call (.c (.fn (.func 119) [] [])) [(.t 6)]⟩, ⟨(some 8), none, .bin .lss (.t 7) (.c (.int .i64 0))⟩])
  (.cond (.t 8) (.seq (.ops [⟨(some 2), none, .mv (.c (.bool false))⟩])
  .ret) .skip))
  (.seq (.seq (.ops [⟨(some 3), none, .mv (.c (.int .i64 0))⟩])
  (.block 0 (.loop k83_b2)))
  (.seq (.ops [⟨(some 2), none, .mv (.c (.bool true))⟩])
  .ret))))
theorem e83 {args : List PV} {σ : Heap} {K : PV → Heap → Prop} (hl : args.length ≤ 54) (h : Wf σ → (∀ a ∈ args, PV.upto σ.length a) → vc (mkCfg Try.prog mixed [] 54 σ.length) k83 (FinK σ.length [.t 2] K) (argEnv 0 args) σ) : ACall Try.prog 83 args σ K :=
  ACall_enter (C := mkCfg Try.prog mixed [] 54 σ.length) (c := Try.f83.body.getD .skip) Try.func83 (by kernel_rfl) (by kernel_rfl) (by kernel_rfl) rfl hl (by kernel_rfl) (by kernel_rfl) h
/- impl.isMonoid -/
/- live [0, 3, 4, 7, 8, 12, 13, 17, 18] -/
def k85_b0 : KC := (.seq (.ops [⟨(some 19), none, .bin .lss (.t 18) (.t 17)⟩])
  (.seq (.cond (.t 19) .skip (.exit 4))
  (.seq (.block 5 (.seq (.ops [⟨(some 20), none, .mv (.t 18)⟩, ⟨(some 5), none, .mv (.t 20)⟩])
  (.seq (.draw [⟨(some 21), none, .mv (.t 0)⟩, ⟨(some 22), none, .mv (.t 3)⟩, ⟨(some 23), none, .idxS 1 (.t 21) (.t 22)⟩, ⟨(some 24), none, .load false 1 (.t 23)⟩, ⟨(some 25), none, .mv (.t 0)⟩, ⟨(some 26), none, .mv (.t 4)⟩, ⟨(some 27), none, .idxS 1 (.t 25) (.t 26)⟩, ⟨(some 28), none, .load false 1 (.t 27)⟩, ⟨(some 29), none, .mv (.t 5)⟩, ⟨(some 30), none, .idxS 1 (.t 28) (.t 29)⟩, ⟨(some 31), none, .load false 1 (.t 30)⟩, ⟨(some 32), none, .idxS 1 (.t 24) (.t 31)⟩, ⟨(some 33), none, .load false 1 (.t 32)⟩, ⟨(some 34), none, .mv (.t 0)⟩, ⟨(some 35), none, .mv (.t 0)⟩, ⟨(some 36), none, .mv (.t 3)⟩, ⟨(some 37), none, .idxS 1 (.t 35) (.t 36)⟩, ⟨(some 38), none, .load false 1 (.t 37)⟩, ⟨(some 39), none, .mv (.t 4)⟩, ⟨(some 40), none, .idxS 1 (.t 38) (.t 39)⟩, ⟨(some 41), none, .load false 1 (.t 40)⟩, ⟨(some 42), none, .idxS 1 (.t 34) (.t 41)⟩, ⟨(some 43), none, .load false 1 (.t 42)⟩, ⟨(some 44), none, .mv (.t 5)⟩, ⟨(some 45), none, .idxS 1 (.t 43) (.t 44)⟩, ⟨(some 46), none, .load false 1 (.t 45)⟩, ⟨(some 47), none, .bin .neq (.t 33) (.t 46)⟩])
  (.cond (.t 47) (.seq (.ops [⟨(some 2), none, .mv (.c (.bool false))⟩])
  .ret) .skip))))
  (.ops [⟨(some 48), none, .bin .add (.t 18) (.c (.int .i64 1))⟩, ⟨(some 18), none, .mv (.t 48)⟩]))))
/- live [0, 3, 7, 8, 12, 13] -/
def k85_b1 : KC := (.seq (.ops [⟨(some 14), none, .bin .lss (.t 13) (.t 12)⟩])
  (.seq (.cond (.t 14) .skip (.exit 2))
  (.seq (.block 3 (.seq (.ops [⟨(some 15), none, .mv (.t 13)⟩, ⟨(some 4), none, .mv (.t 15)⟩])
  (.seq (.ops [⟨(some 16), none, .mv (.t 0)⟩, ⟨(some 17), none, .len false (.t 16)⟩, ⟨(some 18), none, .mv (.c (.int .i64 0))⟩])
  (.block 4 (.loop k85_b0)))))
  (.ops [⟨(some 49), none, .bin .add (.t 13) (.c (.int .i64 1))⟩, ⟨(some 13), none, .mv (.t 49)⟩]))))
/- live [0, 7, 8] -/
def k85_b2 : KC := (.seq (.ops [⟨(some 9), none, .bin .lss (.t 8) (.t 7)⟩])
  (.seq (.cond (.t 9) .skip (.exit 0))
  (.seq (.block 1 (.seq (.ops [⟨(some 10), none, .mv (.t 8)⟩, ⟨(some 3), none, .mv (.t 10)⟩])
  (.seq (.ops [⟨(some 11), none, .mv (.t 0)⟩, ⟨(some 12), none, .len false (.t 11)⟩, ⟨(some 13), none, .mv (.c (.int .i64 0))⟩])
  (.block 2 (.loop k85_b1)))))
  (.ops [⟨(some 50), none, .bin .add (.t 8) (.c (.int .i64 1))⟩, ⟨(some 8), none, .mv (.t 50)⟩]))))
def k85 : KC := (.seq (.ops [⟨(some 2), none, .mv (.c (.bool false))⟩])
  (.seq (.seq (.ops [⟨(some 6), none, .mv (.t 0)⟩, ⟨(some 7), none, .len false (.t 6)⟩, ⟨(some 8), none, .mv (.c (.int .i64 0))⟩])
  (.block 0 (.loop k85_b2)))
  (.seq (.ops [⟨(some 51), none, .mv (.t 0)⟩, ⟨(some 52), none, .call (.c (.fn (.func 120) [] [])) [(.t 51)]⟩, ⟨(some 53), none, .bin .geq (.t 52) (.c (.int .i64 0))⟩, ⟨(some 2), none, .mv (.t 53)⟩])
  .ret)))
theorem e85 {args : List PV} {σ : Heap} {K : PV → Heap → Prop} (hl : args.length ≤ 54) (h : Wf σ → (∀ a ∈ args, PV.upto σ.length a) → vc (mkCfg Try.prog mixed [] 54 σ.length) k85 (FinK σ.length [.t 2] K) (argEnv 0 args) σ) : ACall Try.prog 85 args σ K :=
  ACall_enter (C := mkCfg Try.prog mixed [] 54 σ.length) (c := Try.f85.body.getD .skip) Try.func85 (by kernel_rfl) (by kernel_rfl) (by kernel_rfl) rfl hl (by kernel_rfl) (by kernel_rfl) h
end Go.Proofs.Ytkljidghocnllaa
