/- The compact code of functions of the seat, and how their calls are entered: printed by this session's own program. -/
import Derived.Test.YtkljidghocnllaaCb
namespace Go.Proofs.Ytkljidghocnllaa
open Go.Kv
set_option maxRecDepth 100000
/- laws.markMapS -/
/- live [0, 1, 5, 6] -/
def k42_b0 : KC := (.seq (.seq (.ops [⟨(some 20), none, .mv (.t 6)⟩, ⟨(some 21), none, .bin .lss (.t 20) (.c (.int .i64 5))⟩])
  (.cond (.t 21) .skip (.exit 2)))
  (.seq (.block 3 (.seq (.ops [⟨(some 24), none, .mv (.t 0)⟩, ⟨(some 25), none, .mv (.t 5)⟩, ⟨(some 26), none, .mv (.t 6)⟩, ⟨(some 27), none, .mv (.t 1)⟩, ⟨(some 28), none, .idxS 6 (.t 24) (.t 25)⟩, ⟨(some 29), none, .fieldA 1 (.t 28)⟩, ⟨(some 30), none, .idxA 5 1 (.t 29) (.t 26)⟩, ⟨none, none, .store 1 (.t 30) (.t 27)⟩])
  (.ops [⟨(some 31), none, .mv (.t 1)⟩, ⟨(some 32), none, .bin .add (.t 31) (.c (.int .i64 1))⟩, ⟨(some 1), none, .mv (.t 32)⟩])))
  (.ops [⟨(some 22), none, .mv (.t 6)⟩, ⟨(some 23), none, .bin .add (.t 22) (.c (.int .i64 1))⟩, ⟨(some 6), none, .mv (.t 23)⟩])))
/- live [0, 1, 5] -/
def k42_b1 : KC := (.seq (.seq (.ops [⟨(some 7), none, .mv (.t 5)⟩, ⟨(some 8), none, .mv (.t 0)⟩, ⟨(some 9), none, .len false (.t 8)⟩, ⟨(some 10), none, .bin .lss (.t 7) (.t 9)⟩])
  (.cond (.t 10) .skip (.exit 0)))
  (.seq (.block 1 (.seq (.ops [⟨(some 13), none, .mv (.t 0)⟩, ⟨(some 14), none, .mv (.t 5)⟩, ⟨(some 15), none, .mv (.t 1)⟩, ⟨(some 16), none, .idxS 6 (.t 13) (.t 14)⟩, ⟨(some 17), none, .fieldA 0 (.t 16)⟩, ⟨none, none, .store 1 (.t 17) (.t 15)⟩])
  (.seq (.ops [⟨(some 18), none, .mv (.t 1)⟩, ⟨(some 19), none, .bin .add (.t 18) (.c (.int .i64 1))⟩, ⟨(some 1), none, .mv (.t 19)⟩])
  (.seq (.ops [⟨(some 6), none, .mv (.c (.int .i64 0))⟩])
  (.block 2 (.loop k42_b0))))))
  (.ops [⟨(some 11), none, .mv (.t 5)⟩, ⟨(some 12), none, .bin .add (.t 11) (.c (.int .i64 1))⟩, ⟨(some 5), none, .mv (.t 12)⟩])))
def k42 : KC := (.seq (.ops [⟨(some 4), none, .mv (.c (.int .i64 0))⟩])
  (.seq (.seq (.ops [⟨(some 5), none, .mv (.c (.int .i64 0))⟩])
  (.block 0 (.loop k42_b1)))
  (.seq (.ops [⟨(some 33), none, .mv (.t 1)⟩, ⟨(some 4), none, .mv (.t 33)⟩])
  .ret)))
theorem e42 {args : List PV} {σ : Heap} {K : PV → Heap → Prop} (hl : args.length ≤ 34) (h : Wf σ → (∀ a ∈ args, PV.upto σ.length a) → vc (mkCfg Try.prog mixed [] 34 σ.length) k42 (FinK σ.length [.t 4] K) (argEnv 0 args) σ) : ACall Try.prog 42 args σ K :=
  ACall_enter (C := mkCfg Try.prog mixed [] 34 σ.length) (c := Try.f42.body.getD .skip) Try.func42 (by kernel_rfl) (by kernel_rfl) (by kernel_rfl) rfl hl (by kernel_rfl) (by kernel_rfl) h
/- laws.heldMapS -/
/- live [0, 1, 5, 6] -/
def k43_b0 : KC := (.seq (.seq (.ops [⟨(some 22), none, .mv (.t 6)⟩, ⟨(some 23), none, .bin .lss (.t 22) (.c (.int .i64 5))⟩])
  (.cond (.t 23) .skip (.exit 2)))
  (.seq (.block 3 (.seq (.seq (.ops [⟨(some 26), none, .mv (.t 0)⟩, ⟨(some 27), none, .mv (.t 5)⟩, ⟨(some 28), none, .mv (.t 6)⟩, ⟨(some 29), none, .idxS 6 (.t 26) (.t 27)⟩, ⟨(some 30), none, .fieldA 1 (.t 29)⟩, ⟨(some 31), none, .idxA 5 1 (.t 30) (.t 28)⟩, ⟨(some 32), none, .load false 1 (.t 31)⟩, ⟨(some 33), none, .mv (.t 1)⟩, ⟨(some 34), none, .bin .neq (.t 32) (.t 33)⟩])
  (.cond (.t 34) (.seq (.ops [⟨(some 4), none, .mv (.c (.int .i64 (-1)))⟩])
  .ret) .skip))
  (.ops [⟨(some 35), none, .mv (.t 1)⟩, ⟨(some 36), none, .bin .add (.t 35) (.c (.int .i64 1))⟩, ⟨(some 1), none, .mv (.t 36)⟩])))
  (.ops [⟨(some 24), none, .mv (.t 6)⟩, ⟨(some 25), none, .bin .add (.t 24) (.c (.int .i64 1))⟩, ⟨(some 6), none, .mv (.t 25)⟩])))
/- live [0, 1, 5] -/
def k43_b1 : KC := (.seq (.seq (.ops [⟨(some 7), none, .mv (.t 5)⟩, ⟨(some 8), none, .mv (.t 0)⟩, ⟨(some 9), none, .len false (.t 8)⟩, ⟨(some 10), none, .bin .lss (.t 7) (.t 9)⟩])
  (.cond (.t 10) .skip (.exit 0)))
  (.seq (.block 1 (.seq (.seq (.ops [⟨(some 13), none, .mv (.t 0)⟩, ⟨(some 14), none, .mv (.t 5)⟩, ⟨(some 15), none, .idxS 6 (.t 13) (.t 14)⟩, ⟨(some 16), none, .fieldA 0 (.t 15)⟩, ⟨(some 17), none, .load false 1 (.t 16)⟩, ⟨(some 18), none, .mv (.t 1)⟩, ⟨(some 19), none, .bin .neq (.t 17) (.t 18)⟩])
  (.cond (.t 19) (.seq (.ops [⟨(some 4), none, .mv (.c (.int .i64 (-1)))⟩])
  .ret) .skip))
  (.seq (.ops [⟨(some 20), none, .mv (.t 1)⟩, ⟨(some 21), none, .bin .add (.t 20) (.c (.int .i64 1))⟩, ⟨(some 1), none, .mv (.t 21)⟩])
  (.seq (.ops [⟨(some 6), none, .mv (.c (.int .i64 0))⟩])
  (.block 2 (.loop k43_b0))))))
  (.ops [⟨(some 11), none, .mv (.t 5)⟩, ⟨(some 12), none, .bin .add (.t 11) (.c (.int .i64 1))⟩, ⟨(some 5), none, .mv (.t 12)⟩])))
def k43 : KC := (.seq (.ops [⟨(some 4), none, .mv (.c (.int .i64 0))⟩])
  (.seq (.seq (.ops [⟨(some 5), none, .mv (.c (.int .i64 0))⟩])
  (.block 0 (.loop k43_b1)))
  (.seq (.ops [⟨(some 37), none, .mv (.t 1)⟩, ⟨(some 4), none, .mv (.t 37)⟩])
  .ret)))
theorem e43 {args : List PV} {σ : Heap} {K : PV → Heap → Prop} (hl : args.length ≤ 38) (h : Wf σ → (∀ a ∈ args, PV.upto σ.length a) → vc (mkCfg Try.prog mixed [] 38 σ.length) k43 (FinK σ.length [.t 4] K) (argEnv 0 args) σ) : ACall Try.prog 43 args σ K :=
  ACall_enter (C := mkCfg Try.prog mixed [] 38 σ.length) (c := Try.f43.body.getD .skip) Try.func43 (by kernel_rfl) (by kernel_rfl) (by kernel_rfl) rfl hl (by kernel_rfl) (by kernel_rfl) h
end Go.Proofs.Ytkljidghocnllaa
