/- The compact code of functions of the seat, and how their calls are entered: printed by this session's own program. -/
import Derived.Test.YtkljidghocnllaaCb
namespace Go.Proofs.Ytkljidghocnllaa
open Go.Kv
set_option maxRecDepth 100000
/- slices.DeleteFunc[[][]int64,[]int64] -/
/- live [0, 1, 5, 6] -/
def k123_b0 : KC := (.seq (.seq (.ops [⟨(some 16), none, .mv (.t 6)⟩, ⟨(some 17), none, .mv (.t 0)⟩, ⟨(some 18), none, .len false (.t 17)⟩, ⟨(some 19), none, .bin .lss (.t 16) (.t 18)⟩])
  (.cond (.t 19) .skip (.exit 0)))
  (.seq (.block 1 (.seq (.ops [⟨(some 22), none, .mv (.t 0)⟩, ⟨(some 23), none, .mv (.t 6)⟩, ⟨(some 24), none, .idxS 1 (.t 22) (.t 23)⟩, ⟨(some 25), none, .load false 1 (.t 24)⟩, ⟨(some 7), none, .mv (.t 25)⟩])
  (.seq (.ops [⟨(some 26), none, .mv (.t 1)⟩, ⟨(some 27), none, .mv (.t 7)⟩, ⟨(some 28), none, .call (.t 26) [(.t 27)]⟩, ⟨(some 29), none, .not (.t 28)⟩])
  (.cond (.t 29) (.seq (.ops [⟨(some 30), none, .mv (.t 0)⟩, ⟨(some 31), none, .mv (.t 5)⟩, ⟨(some 32), none, .mv (.t 7)⟩, ⟨(some 33), none, .idxS 1 (.t 30) (.t 31)⟩, ⟨none, none, .store 1 (.t 33) (.t 32)⟩])
  (.ops [⟨(some 34), none, .mv (.t 5)⟩, ⟨(some 35), none, .bin .add (.t 34) (.c (.int .i64 1))⟩, ⟨(some 5), none, .mv (.t 35)⟩])) .skip))))
  (.ops [⟨(some 20), none, .mv (.t 6)⟩, ⟨(some 21), none, .bin .add (.t 20) (.c (.int .i64 1))⟩, ⟨(some 6), none, .mv (.t 21)⟩])))
def k123 : KC := (.seq (.ops [⟨(some 4), none, .mv (.c (.nils))⟩])
  (.seq (.ops [⟨(some 8), none, .mv (.t 0)⟩, ⟨(some 9), none, .mv (.t 1)⟩, ⟨(some 10), none, .call (.c (.fn (.func 134) [] [])) [(.t 8), (.t 9)]⟩, ⟨(some 5), none, .mv (.t 10)⟩])
  (.seq (.seq (.ops [⟨(some 11), none, .mv (.t 5)⟩, ⟨(some 12), none, .bin .eql (.t 11) (.c (.int .i64 (-1)))⟩])
  (.cond (.t 12) (.seq (.ops [⟨(some 13), none, .mv (.t 0)⟩, ⟨(some 4), none, .mv (.t 13)⟩])
  .ret) .skip))
  (.seq (.seq (.ops [⟨(some 14), none, .mv (.t 5)⟩, ⟨(some 15), none, .bin .add (.t 14) (.c (.int .i64 1))⟩, ⟨(some 6), none, .mv (.t 15)⟩])
  (.block 0 (.loop k123_b0)))
  (.seq (.ops [⟨(some 36), none, .mv (.t 0)⟩, ⟨(some 37), none, .mv (.t 5)⟩, ⟨(some 38), none, .sls 1 (.t 36) (some (.t 37)) none⟩, ⟨none, none, .clr 1 (.nils) (.t 38)⟩])
  (.seq (.ops [⟨(some 39), none, .mv (.t 0)⟩, ⟨(some 40), none, .mv (.t 5)⟩, ⟨(some 41), none, .sls 1 (.t 39) none (some (.t 40))⟩, ⟨(some 4), none, .mv (.t 41)⟩])
  .ret))))))
theorem e123 {args : List PV} {σ : Heap} {K : PV → Heap → Prop} (hl : args.length ≤ 42) (h : Wf σ → (∀ a ∈ args, PV.upto σ.length a) → vc (mkCfg Try.prog mixed [] 42 σ.length) k123 (FinK σ.length [.t 4] K) (argEnv 0 args) σ) : ACall Try.prog 123 args σ K :=
  ACall_enter (C := mkCfg Try.prog mixed [] 42 σ.length) (c := Try.f123.body.getD .skip) Try.func123 (by kernel_rfl) (by kernel_rfl) (by kernel_rfl) rfl hl (by kernel_rfl) (by kernel_rfl) h
end Go.Proofs.Ytkljidghocnllaa
