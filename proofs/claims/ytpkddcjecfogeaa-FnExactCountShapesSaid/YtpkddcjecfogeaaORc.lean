/- The compact code of functions of the seat, and how their calls are entered: printed by this session's own program. -/
import Derived.Test.YtpkddcjecfogeaaCb
namespace Go.Proofs.Ytpkddcjecfogeaa
open Go.Kv
set_option maxRecDepth 100000
/- spec.l09Orders -/
/- live [0, 1, 5, 6, 7, 8, 30, 31, 32, 33, 34, 35] -/
def k61_b0 : KC := (.seq (.seq (.ops [⟨(some 22), none, .mv (.t 8)⟩, ⟨(some 23), none, .mv (.t 1)⟩, ⟨(some 24), none, .len false (.t 23)⟩, ⟨(some 25), none, .bin .lss (.t 22) (.t 24)⟩])
  (.cond (.t 25) .skip (.exit 2)))
  (.seq (.block 3 (.ops [⟨(some 28), none, .mv (.t 7)⟩, ⟨(some 29), none, .mv (.t 28)⟩, ⟨(some 30), some (29, false), .mv (.t 1)⟩, ⟨(some 31), some (29, false), .mv (.t 8)⟩, ⟨(some 32), some (29, false), .idxS 1 (.t 30) (.t 31)⟩, ⟨(some 33), some (29, false), .load false 1 (.t 32)⟩, ⟨(some 34), some (29, false), .mv (.t 6)⟩, ⟨(some 35), some (29, false), .bin .eql (.t 33) (.t 34)⟩, ⟨(some 36), none, .pick (.t 29) (.c (.bool true)) (.t 35)⟩, ⟨(some 7), none, .mv (.t 36)⟩]))
  (.ops [⟨(some 26), none, .mv (.t 8)⟩, ⟨(some 27), none, .bin .add (.t 26) (.c (.int .i64 1))⟩, ⟨(some 8), none, .mv (.t 27)⟩])))
/- live [0, 1, 5, 6, 30, 31, 32, 33, 34, 35] -/
def k61_b1 : KC := (.seq (.seq (.ops [⟨(some 17), none, .mv (.t 6)⟩, ⟨(some 18), none, .mv (.t 0)⟩, ⟨(some 19), none, .bin .lss (.t 17) (.t 18)⟩])
  (.cond (.t 19) .skip (.exit 0)))
  (.seq (.block 1 (.seq (.ops [⟨(some 7), none, .mv (.c (.bool false))⟩])
  (.seq (.seq (.ops [⟨(some 8), none, .mv (.c (.int .i64 0))⟩])
  (.block 2 (.loop k61_b0)))
  (.seq (.ops [⟨(some 37), none, .mv (.t 7)⟩, ⟨(some 38), none, .not (.t 37)⟩])
  (.cond (.t 38) (.ops [⟨(some 39), none, .mv (.t 5)⟩, ⟨(some 40), none, .mv (.t 0)⟩, ⟨(some 41), none, .mv (.t 1)⟩, ⟨(some 42), none, .call (.c (.fn (.func 84) [] [])) [(.t 41)]⟩, ⟨(some 43), none, .mv (.t 6)⟩, ⟨(some 44), none, .bsl true 2 1 [(.t 43)]⟩, ⟨(some 45), none, .app (.t 42) (.t 44) 2 1⟩, ⟨(some 46), none, .call (.c (.fn (.func 61) [] [])) [(.t 40), (.t 45)]⟩, ⟨(some 47), none, .app (.t 39) (.t 46) 28 6⟩, ⟨(some 5), none, .mv (.t 47)⟩]) .skip)))))
  (.ops [⟨(some 20), none, .mv (.t 6)⟩, ⟨(some 21), none, .bin .add (.t 20) (.c (.int .i64 1))⟩, ⟨(some 6), none, .mv (.t 21)⟩])))
def k61 : KC := (.seq (.ops [⟨(some 4), none, .mv (.c (.nils))⟩])
  (.seq (.seq (.ops [⟨(some 9), none, .mv (.t 1)⟩, ⟨(some 10), none, .len false (.t 9)⟩, ⟨(some 11), none, .mv (.t 0)⟩, ⟨(some 12), none, .bin .eql (.t 10) (.t 11)⟩])
  (.cond (.t 12) (.seq (.ops [⟨(some 13), none, .mv (.t 1)⟩, ⟨(some 14), none, .call (.c (.fn (.func 115) [] [])) [(.t 13)]⟩, ⟨(some 15), none, .bsl false 28 6 [(.t 14)]⟩, ⟨(some 4), none, .mv (.t 15)⟩])
  .ret) .skip))
  (.seq (.ops [⟨(some 16), none, .bsl false 28 6 []⟩, ⟨(some 5), none, .mv (.t 16)⟩])
  (.seq (.seq (.ops [⟨(some 6), none, .mv (.c (.int .i64 0))⟩])
  (.block 0 (.loop k61_b1)))
  (.seq (.ops [⟨(some 48), none, .mv (.t 5)⟩, ⟨(some 4), none, .mv (.t 48)⟩])
  .ret)))))
theorem e61 {args : List PV} {σ : Heap} {K : PV → Heap → Prop} (hl : args.length ≤ 49) (h : Wf σ → (∀ a ∈ args, PV.upto σ.length a) → vc (mkCfg Try.prog mixed [44] 49 σ.length) k61 (FinK σ.length [.t 4] K) (argEnv 0 args) σ) : ACall Try.prog 61 args σ K :=
  ACall_enter (C := mkCfg Try.prog mixed [44] 49 σ.length) (c := Try.f61.body.getD .skip) Try.func61 (by kernel_rfl) (by kernel_rfl) (by kernel_rfl) rfl hl (by kernel_rfl) (by kernel_rfl) h
end Go.Proofs.Ytpkddcjecfogeaa
