/- The compact code of functions of the seat, and how their calls are entered: printed by this session's own program. -/
import Derived.Test.YtkljidghocnllaaCb
namespace Go.Proofs.Ytkljidghocnllaa
open Go.Kv
set_option maxRecDepth 100000
/- spec.l08Identity -/
/- live [0, 3, 4, 5, 20, 21, 22, 23, 24, 25, 26, 27, 28, 31, 32, 33, 34, 35, 36, 37, 38, 39] -/
def k119_b0 : KC := (.seq (.seq (.ops [⟨(some 12), none, .mv (.t 5)⟩, ⟨(some 13), none, .mv (.t 0)⟩, ⟨(some 14), none, .len false (.t 13)⟩, ⟨(some 15), none, .bin .lss (.t 12) (.t 14)⟩])
  (.cond (.t 15) .skip (.exit 2)))
  (.seq (.block 3 (.ops [⟨(some 18), none, .mv (.t 4)⟩, ⟨(some 19), none, .mv (.t 18)⟩, ⟨(some 20), some (19, true), .mv (.t 0)⟩, ⟨(some 21), some (19, true), .mv (.t 3)⟩, ⟨(some 22), some (19, true), .idxS 1 (.t 20) (.t 21)⟩, ⟨(some 23), some (19, true), .load false 1 (.t 22)⟩, ⟨(some 24), some (19, true), .mv (.t 5)⟩, ⟨(some 25), some (19, true), .idxS 1 (.t 23) (.t 24)⟩, ⟨(some 26), some (19, true), .load false 1 (.t 25)⟩, ⟨(some 27), some (19, true), .mv (.t 5)⟩, ⟨(some 28), some (19, true), .bin .eql (.t 26) (.t 27)⟩, ⟨(some 29), none, .pick (.t 19) (.t 28) (.c (.bool false))⟩, ⟨(some 30), none, .mv (.t 29)⟩, ⟨(some 31), some (30, true), .mv (.t 0)⟩, ⟨(some 32), some (30, true), .mv (.t 5)⟩, ⟨(some 33), some (30, true), .idxS 1 (.t 31) (.t 32)⟩, ⟨(some 34), some (30, true), .load false 1 (.t 33)⟩, ⟨(some 35), some (30, true), .mv (.t 3)⟩, ⟨(some 36), some (30, true), .idxS 1 (.t 34) (.t 35)⟩, ⟨(some 37), some (30, true), .load false 1 (.t 36)⟩, ⟨(some 38), some (30, true), .mv (.t 5)⟩, ⟨(some 39), some (30, true), .bin .eql (.t 37) (.t 38)⟩, ⟨(some 40), none, .pick (.t 30) (.t 39) (.c (.bool false))⟩, ⟨(some 4), none, .mv (.t 40)⟩]))
  (.ops [⟨(some 16), none, .mv (.t 5)⟩, ⟨(some 17), none, .bin .add (.t 16) (.c (.int .i64 1))⟩, ⟨(some 5), none, .mv (.t 17)⟩])))
/- live [0, 3, 20, 21, 22, 23, 24, 25, 26, 27, 28, 31, 32, 33, 34, 35, 36, 37, 38, 39] -/
def k119_b1 : KC := (.seq (.seq (.ops [⟨(some 6), none, .mv (.t 3)⟩, ⟨(some 7), none, .mv (.t 0)⟩, ⟨(some 8), none, .len false (.t 7)⟩, ⟨(some 9), none, .bin .lss (.t 6) (.t 8)⟩])
  (.cond (.t 9) .skip (.exit 0)))
  (.seq (.block 1 (.seq (.ops [⟨(some 4), none, .mv (.c (.bool true))⟩])
  (.seq (.seq (.ops [⟨(some 5), none, .mv (.c (.int .i64 0))⟩])
  (.block 2 (.loop k119_b0)))
  (.seq (.ops [⟨(some 41), none, .mv (.t 4)⟩])
  (.cond (.t 41) (.seq (.ops [⟨(some 42), none, .mv (.t 3)⟩, ⟨(some 2), none, .mv (.t 42)⟩])
  .ret) .skip)))))
  (.ops [⟨(some 10), none, .mv (.t 3)⟩, ⟨(some 11), none, .bin .add (.t 10) (.c (.int .i64 1))⟩, ⟨(some 3), none, .mv (.t 11)⟩])))
def k119 : KC := (.seq (.ops [⟨(some 2), none, .mv (.c (.int .i64 0))⟩])
  (.seq (.seq (.ops [⟨(some 3), none, .mv (.c (.int .i64 0))⟩])
  (.block 0 (.loop k119_b1)))
  (.seq (.ops [⟨(some 2), none, .mv (.c (.int .i64 (-1)))⟩])
  .ret)))
theorem e119 {args : List PV} {σ : Heap} {K : PV → Heap → Prop} (hl : args.length ≤ 43) (h : Wf σ → (∀ a ∈ args, PV.upto σ.length a) → vc (mkCfg Try.prog mixed [] 43 σ.length) k119 (FinK σ.length [.t 2] K) (argEnv 0 args) σ) : ACall Try.prog 119 args σ K :=
  ACall_enter (C := mkCfg Try.prog mixed [] 43 σ.length) (c := Try.f119.body.getD .skip) Try.func119 (by kernel_rfl) (by kernel_rfl) (by kernel_rfl) rfl hl (by kernel_rfl) (by kernel_rfl) h
/- impl.identityOf -/
/- live [0, 3, 4, 5, 7, 8, 9, 15, 16, 21, 22, 23, 24, 25, 26, 29, 30, 31, 32, 33, 34, 35, 36, 37] -/
def k120_b0 : KC := (.seq (.ops [⟨(some 17), none, .bin .lss (.t 16) (.t 15)⟩])
  (.seq (.cond (.t 17) .skip (.exit 2))
  (.seq (.block 3 (.seq (.ops [⟨(some 18), none, .mv (.t 16)⟩, ⟨(some 6), none, .mv (.t 18)⟩])
  (.ops [⟨(some 19), none, .mv (.t 5)⟩, ⟨(some 20), none, .mv (.t 19)⟩, ⟨(some 21), some (20, true), .mv (.t 4)⟩, ⟨(some 22), some (20, true), .mv (.t 6)⟩, ⟨(some 23), some (20, true), .idxS 1 (.t 21) (.t 22)⟩, ⟨(some 24), some (20, true), .load false 1 (.t 23)⟩, ⟨(some 25), some (20, true), .mv (.t 6)⟩, ⟨(some 26), some (20, true), .bin .eql (.t 24) (.t 25)⟩, ⟨(some 27), none, .pick (.t 20) (.t 26) (.c (.bool false))⟩, ⟨(some 28), none, .mv (.t 27)⟩, ⟨(some 29), some (28, true), .mv (.t 0)⟩, ⟨(some 30), some (28, true), .mv (.t 6)⟩, ⟨(some 31), some (28, true), .idxS 1 (.t 29) (.t 30)⟩, ⟨(some 32), some (28, true), .load false 1 (.t 31)⟩, ⟨(some 33), some (28, true), .mv (.t 3)⟩, ⟨(some 34), some (28, true), .idxS 1 (.t 32) (.t 33)⟩, ⟨(some 35), some (28, true), .load false 1 (.t 34)⟩, ⟨(some 36), some (28, true), .mv (.t 6)⟩, ⟨(some 37), some (28, true), .bin .eql (.t 35) (.t 36)⟩, ⟨(some 38), none, .pick (.t 28) (.t 37) (.c (.bool false))⟩, ⟨(some 5), none, .mv (.t 38)⟩])))
  (.ops [⟨(some 39), none, .bin .add (.t 16) (.c (.int .i64 1))⟩, ⟨(some 16), none, .mv (.t 39)⟩]))))
/- live [0, 7, 8, 9, 21, 22, 23, 24, 25, 26, 29, 30, 31, 32, 33, 34, 35, 36, 37] -/
def k120_b1 : KC := (.seq (.ops [⟨(some 10), none, .bin .lss (.t 9) (.t 8)⟩])
  (.seq (.cond (.t 10) .skip (.exit 0))
  (.seq (.block 1 (.seq (.ops [⟨(some 11), none, .mv (.t 9)⟩, ⟨(some 12), none, .idxS 1 (.t 7) (.t 9)⟩, ⟨(some 13), none, .load false 1 (.t 12)⟩, ⟨(some 3), none, .mv (.t 11)⟩, ⟨(some 4), none, .mv (.t 13)⟩])
  (.seq (.ops [⟨(some 5), none, .mv (.c (.bool true))⟩])
  (.seq (.seq (.ops [⟨(some 14), none, .mv (.t 0)⟩, ⟨(some 15), none, .len false (.t 14)⟩, ⟨(some 16), none, .mv (.c (.int .i64 0))⟩])
  (.block 2 (.loop k120_b0)))
  (.seq (.ops [⟨(some 40), none, .mv (.t 5)⟩])
  (.cond (.t 40) (.seq (.ops [⟨(some 41), none, .mv (.t 3)⟩, ⟨(some 2), none, .mv (.t 41)⟩])
  .ret) .skip))))))
  (.ops [⟨(some 42), none, .bin .add (.t 9) (.c (.int .i64 1))⟩, ⟨(some 9), none, .mv (.t 42)⟩]))))
def k120 : KC := (.seq (.ops [⟨(some 2), none, .mv (.c (.int .i64 0))⟩])
  (.seq (.seq (.ops [⟨(some 7), none, .mv (.t 0)⟩, ⟨(some 8), none, .len false (.t 7)⟩, ⟨(some 9), none, .mv (.c (.int .i64 0))⟩])
  (.block 0 (.loop k120_b1)))
  (.seq (.ops [⟨(some 2), none, .mv (.c (.int .i64 (-1)))⟩])
  .ret)))
theorem e120 {args : List PV} {σ : Heap} {K : PV → Heap → Prop} (hl : args.length ≤ 43) (h : Wf σ → (∀ a ∈ args, PV.upto σ.length a) → vc (mkCfg Try.prog mixed [] 43 σ.length) k120 (FinK σ.length [.t 2] K) (argEnv 0 args) σ) : ACall Try.prog 120 args σ K :=
  ACall_enter (C := mkCfg Try.prog mixed [] 43 σ.length) (c := Try.f120.body.getD .skip) Try.func120 (by kernel_rfl) (by kernel_rfl) (by kernel_rfl) rfl hl (by kernel_rfl) (by kernel_rfl) h
end Go.Proofs.Ytkljidghocnllaa
