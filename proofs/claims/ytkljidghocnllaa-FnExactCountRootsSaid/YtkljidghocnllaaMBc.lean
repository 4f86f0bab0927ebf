/- The compact code of functions of the seat, and how their calls are entered: printed by this session's own program. -/
import Derived.Test.YtkljidghocnllaaCb
namespace Go.Proofs.Ytkljidghocnllaa
open Go.Kv
set_option maxRecDepth 100000
/- spec.l01All -/
/- live [0, 3, 4, 5] -/
def k59_b0 : KC := (.seq (.seq (.ops [⟨(some 11), none, .mv (.t 5)⟩, ⟨(some 12), none, .mv (.t 0)⟩, ⟨(some 13), none, .bin .lss (.t 11) (.t 12)⟩])
  (.cond (.t 13) .skip (.exit 0)))
  (.seq (.block 1 (.ops [⟨(some 16), none, .mv (.t 3)⟩, ⟨(some 17), none, .mv (.t 0)⟩, ⟨(some 18), none, .bin .mul (.t 16) (.t 17)⟩, ⟨(some 3), none, .mv (.t 18)⟩]))
  (.ops [⟨(some 14), none, .mv (.t 5)⟩, ⟨(some 15), none, .bin .add (.t 14) (.c (.int .i64 1))⟩, ⟨(some 5), none, .mv (.t 15)⟩])))
/- live [0, 3, 4, 6, 7, 8, 9] -/
def k59_b1 : KC := (.seq (.seq (.ops [⟨(some 29), none, .mv (.t 9)⟩, ⟨(some 30), none, .bin .geq (.t 29) (.c (.int .i64 0))⟩])
  (.cond (.t 30) .skip (.exit 4)))
  (.seq (.block 5 (.seq (.ops [⟨(some 33), none, .mv (.t 9)⟩, ⟨(some 34), none, .mv (.t 8)⟩, ⟨(some 35), none, .mv (.t 0)⟩, ⟨(some 36), none, .bin .rem (.t 34) (.t 35)⟩, ⟨(some 37), none, .fieldA 1 (.t 7)⟩, ⟨(some 38), none, .idxA 5 1 (.t 37) (.t 33)⟩, ⟨none, none, .store 1 (.t 38) (.t 36)⟩])
  (.ops [⟨(some 39), none, .mv (.t 8)⟩, ⟨(some 40), none, .mv (.t 0)⟩, ⟨(some 41), none, .bin .quo (.t 39) (.t 40)⟩, ⟨(some 8), none, .mv (.t 41)⟩])))
  (.ops [⟨(some 31), none, .mv (.t 9)⟩, ⟨(some 32), none, .bin .sub (.t 31) (.c (.int .i64 1))⟩, ⟨(some 9), none, .mv (.t 32)⟩])))
/- live [0, 3, 4, 6] -/
def k59_b2 : KC := (.seq (.seq (.ops [⟨(some 19), none, .mv (.t 6)⟩, ⟨(some 20), none, .mv (.t 3)⟩, ⟨(some 21), none, .bin .lss (.t 19) (.t 20)⟩])
  (.cond (.t 21) .skip (.exit 2)))
  (.seq (.block 3 (.seq (.ops [⟨(some 24), none, .mv (.t 0)⟩, ⟨(some 25), none, .build [.int .i64 0, .int .i64 0, .int .i64 0, .int .i64 0, .int .i64 0, .int .i64 0] [(0, 1, (.t 24))]⟩, ⟨(some 26), none, .mv (.t 6)⟩, ⟨(some 7), none, .alloc [.int .i64 0, .int .i64 0, .int .i64 0, .int .i64 0, .int .i64 0, .int .i64 0]⟩, ⟨none, none, .store 6 (.t 7) (.t 25)⟩, ⟨(some 8), none, .mv (.t 26)⟩])
  (.seq (.seq (.ops [⟨(some 27), none, .mv (.t 0)⟩, ⟨(some 28), none, .bin .sub (.t 27) (.c (.int .i64 1))⟩, ⟨(some 9), none, .mv (.t 28)⟩])
  (.block 4 (.loop k59_b1)))
  (.ops [⟨(some 42), none, .mv (.t 4)⟩, ⟨(some 43), none, .load true 6 (.t 7)⟩, ⟨(some 44), none, .bsl true 27 6 [(.t 43)]⟩, ⟨(some 45), none, .app (.t 42) (.t 44) 27 6⟩, ⟨(some 4), none, .mv (.t 45)⟩]))))
  (.ops [⟨(some 22), none, .mv (.t 6)⟩, ⟨(some 23), none, .bin .add (.t 22) (.c (.int .i64 1))⟩, ⟨(some 6), none, .mv (.t 23)⟩])))
def k59 : KC := (.seq (.ops [⟨(some 2), none, .mv (.c (.nils))⟩])
  (.seq (.ops [⟨(some 10), none, .bsl false 27 6 []⟩, ⟨(some 3), none, .mv (.c (.int .i64 1))⟩, ⟨(some 4), none, .mv (.t 10)⟩])
  (.seq (.seq (.ops [⟨(some 5), none, .mv (.c (.int .i64 0))⟩])
  (.block 0 (.loop k59_b0)))
  (.seq (.seq (.ops [⟨(some 6), none, .mv (.c (.int .i64 0))⟩])
  (.block 2 (.loop k59_b2)))
  (.seq (.ops [⟨(some 46), none, .mv (.t 4)⟩, ⟨(some 2), none, .mv (.t 46)⟩])
  .ret)))))
theorem e59 {args : List PV} {σ : Heap} {K : PV → Heap → Prop} (hl : args.length ≤ 47) (h : Wf σ → (∀ a ∈ args, PV.upto σ.length a) → vc (mkCfg Try.prog mixed [44] 47 σ.length) k59 (FinK σ.length [.t 2] K) (argEnv 0 args) σ) : ACall Try.prog 59 args σ K :=
  ACall_enter (C := mkCfg Try.prog mixed [44] 47 σ.length) (c := Try.f59.body.getD .skip) Try.func59 (by kernel_rfl) (by kernel_rfl) (by kernel_rfl) rfl hl (by kernel_rfl) (by kernel_rfl) h
/- impl.maps -/
/- live [0, 3, 4, 5, 6, 9, 10] -/
def k105_b0 : KC := (.seq (.seq (.ops [⟨(some 17), none, .mv (.t 6)⟩, ⟨(some 18), none, .bin .geq (.t 17) (.c (.int .i64 0))⟩])
  (.cond (.t 18) .skip (.exit 2)))
  (.seq (.block 3 (.seq (.ops [⟨(some 21), none, .mv (.t 6)⟩, ⟨(some 22), none, .mv (.t 4)⟩, ⟨(some 23), none, .mv (.t 0)⟩, ⟨(some 24), none, .bin .rem (.t 22) (.t 23)⟩, ⟨(some 25), none, .fieldA 1 (.t 5)⟩, ⟨(some 26), none, .idxA 5 1 (.t 25) (.t 21)⟩, ⟨none, none, .store 1 (.t 26) (.t 24)⟩])
  (.ops [⟨(some 27), none, .mv (.t 4)⟩, ⟨(some 28), none, .mv (.t 0)⟩, ⟨(some 29), none, .bin .quo (.t 27) (.t 28)⟩, ⟨(some 4), none, .mv (.t 29)⟩])))
  (.ops [⟨(some 19), none, .mv (.t 6)⟩, ⟨(some 20), none, .bin .sub (.t 19) (.c (.int .i64 1))⟩, ⟨(some 6), none, .mv (.t 20)⟩])))
/- live [0, 3, 9, 10] -/
def k105_b1 : KC := (.seq (.ops [⟨(some 11), none, .bin .lss (.t 10) (.t 9)⟩])
  (.seq (.cond (.t 11) .skip (.exit 0))
  (.seq (.block 1 (.seq (.ops [⟨(some 12), none, .mv (.t 10)⟩, ⟨(some 4), none, .mv (.t 12)⟩])
  (.seq (.ops [⟨(some 13), none, .mv (.t 0)⟩, ⟨(some 14), none, .build [.int .i64 0, .int .i64 0, .int .i64 0, .int .i64 0, .int .i64 0, .int .i64 0] [(0, 1, (.t 13))]⟩, ⟨(some 5), none, .alloc [.int .i64 0, .int .i64 0, .int .i64 0, .int .i64 0, .int .i64 0, .int .i64 0]⟩, ⟨none, none, .store 6 (.t 5) (.t 14)⟩])
  (.seq (.seq (.ops [⟨(some 15), none, .mv (.t 0)⟩, ⟨(some 16), none, .bin .sub (.t 15) (.c (.int .i64 1))⟩, ⟨(some 6), none, .mv (.t 16)⟩])
  (.block 2 (.loop k105_b0)))
  (.ops [⟨(some 30), none, .mv (.t 3)⟩, ⟨(some 31), none, .load true 6 (.t 5)⟩, ⟨(some 32), none, .bsl true 27 6 [(.t 31)]⟩, ⟨(some 33), none, .app (.t 30) (.t 32) 27 6⟩, ⟨(some 3), none, .mv (.t 33)⟩])))))
  (.ops [⟨(some 34), none, .bin .add (.t 10) (.c (.int .i64 1))⟩, ⟨(some 10), none, .mv (.t 34)⟩]))))
def k105 : KC := (.seq (.ops [⟨(some 2), none, .mv (.c (.nils))⟩])
  (.seq (.ops [⟨(some 3), none, .mv (.c (.nils))⟩])
  (.seq (.seq (.ops [⟨(some 7), none, .mv (.t 0)⟩, ⟨(some 8), none, .mv (.t 0)⟩, ⟨(some 9), none, .call (.c (.fn (.func 133) [] [])) [(.t 7), (.t 8)]⟩, ⟨(some 10), none, .mv (.c (.int .i64 0))⟩])
  (.block 0 (.loop k105_b1)))
  (.seq (.ops [⟨(some 35), none, .mv (.t 3)⟩, ⟨(some 2), none, .mv (.t 35)⟩])
  .ret))))
theorem e105 {args : List PV} {σ : Heap} {K : PV → Heap → Prop} (hl : args.length ≤ 36) (h : Wf σ → (∀ a ∈ args, PV.upto σ.length a) → vc (mkCfg Try.prog mixed [32] 36 σ.length) k105 (FinK σ.length [.t 2] K) (argEnv 0 args) σ) : ACall Try.prog 105 args σ K :=
  ACall_enter (C := mkCfg Try.prog mixed [32] 36 σ.length) (c := Try.f105.body.getD .skip) Try.func105 (by kernel_rfl) (by kernel_rfl) (by kernel_rfl) rfl hl (by kernel_rfl) (by kernel_rfl) h
end Go.Proofs.Ytkljidghocnllaa
