/- The compact code of functions of the seat, and how their calls are entered: printed by this session's own program. -/
import Derived.Test.YtkdkdkkimieieaaCb
namespace Go.Proofs.Ytkdkdkkimieieaa
open Go.Kv
set_option maxRecDepth 100000
/- laws.eqMapS -/
/- live [0, 1, 5] -/
def k60_b0 : KC := (.seq (.seq (.ops [⟨(some 11), none, .mv (.t 5)⟩, ⟨(some 12), none, .mv (.t 0)⟩, ⟨(some 13), none, .len false (.t 12)⟩, ⟨(some 14), none, .bin .lss (.t 11) (.t 13)⟩])
  (.cond (.t 14) .skip (.exit 0)))
  (.seq (.block 1 (.seq (.draw [⟨(some 17), none, .mv (.t 0)⟩, ⟨(some 18), none, .mv (.t 5)⟩, ⟨(some 19), none, .idxS 6 (.t 17) (.t 18)⟩, ⟨(some 20), none, .load true 6 (.t 19)⟩, ⟨(some 21), none, .mv (.t 1)⟩, ⟨(some 22), none, .mv (.t 5)⟩, ⟨(some 23), none, .idxS 6 (.t 21) (.t 22)⟩, ⟨(some 24), none, .load true 6 (.t 23)⟩, ⟨(some 25), none, .pcall (.c (.fn (.func 61) [] [])) [(.t 20), (.t 24)]⟩, ⟨(some 26), none, .not (.t 25)⟩])
  (.cond (.t 26) (.seq (.ops [⟨(some 4), none, .mv (.c (.bool false))⟩])
  .ret) .skip)))
  (.ops [⟨(some 15), none, .mv (.t 5)⟩, ⟨(some 16), none, .bin .add (.t 15) (.c (.int .i64 1))⟩, ⟨(some 5), none, .mv (.t 16)⟩])))
def k60 : KC := (.seq (.ops [⟨(some 4), none, .mv (.c (.bool false))⟩])
  (.seq (.seq (.ops [⟨(some 6), none, .mv (.t 0)⟩, ⟨(some 7), none, .len false (.t 6)⟩, ⟨(some 8), none, .mv (.t 1)⟩, ⟨(some 9), none, .len false (.t 8)⟩, ⟨(some 10), none, .bin .neq (.t 7) (.t 9)⟩])
  (.cond (.t 10) (.seq (.ops [⟨(some 4), none, .mv (.c (.bool false))⟩])
  .ret) .skip))
  (.seq (.seq (.ops [⟨(some 5), none, .mv (.c (.int .i64 0))⟩])
  (.block 0 (.loop k60_b0)))
  (.seq (.ops [⟨(some 4), none, .mv (.c (.bool true))⟩])
  .ret))))
theorem e60 {args : List PV} {σ : Heap} {K : PV → Heap → Prop} (hl : args.length ≤ 27) (h : Wf σ → (∀ a ∈ args, PV.upto σ.length a) → vc (mkCfg Try.prog mixed [] 27 σ.length) k60 (FinK σ.length [.t 4] K) (argEnv 0 args) σ) : ACall Try.prog 60 args σ K :=
  ACall_enter (C := mkCfg Try.prog mixed [] 27 σ.length) (c := Try.f60.body.getD .skip) Try.func60 (by kernel_rfl) (by kernel_rfl) (by kernel_rfl) rfl hl (by kernel_rfl) (by kernel_rfl) h
end Go.Proofs.Ytkdkdkkimieieaa
