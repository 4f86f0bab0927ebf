/- The compact code of functions of the seat, and how their calls are entered: printed by this session's own program. -/
import Derived.Test.YtpkddcjecfogeaaCb
namespace Go.Proofs.Ytpkddcjecfogeaa
open Go.Kv
set_option maxRecDepth 100000
/- impl.CountShapes -/
/- live [4, 5, 14, 15, 16] -/
def k21_b0 : KC := (.seq (.ops [⟨(some 17), none, .bin .lss (.t 16) (.t 15)⟩])
  (.seq (.cond (.t 17) .skip (.exit 0))
  (.seq (.block 1 (.seq (.ops [⟨(some 18), none, .idxS 6 (.t 14) (.t 16)⟩, ⟨(some 19), none, .load true 6 (.t 18)⟩, ⟨(some 7), none, .alloc [.int .i64 0, .int .i64 0, .int .i64 0, .int .i64 0, .int .i64 0, .int .i64 0]⟩, ⟨none, none, .store 6 (.t 7) (.t 19)⟩])
  (.seq (.draw [⟨(some 20), none, .load true 6 (.t 7)⟩, ⟨(some 21), none, .mv (.t 4)⟩, ⟨(some 23), none, .load true 6 (.t 7)⟩, ⟨(some 22), none, .pcall (.c (.fn (.func 67) [] [])) [(.t 20), (.t 21)]⟩, ⟨(some 24), none, .aeq false 6 (.t 22) (.t 23)⟩])
  (.cond (.t 24) (.ops [⟨(some 25), none, .mv (.t 5)⟩, ⟨(some 26), none, .bin .add (.t 25) (.c (.int .i64 1))⟩, ⟨(some 5), none, .mv (.t 26)⟩]) .skip))))
  (.ops [⟨(some 27), none, .bin .add (.t 16) (.c (.int .i64 1))⟩, ⟨(some 16), none, .mv (.t 27)⟩]))))
def k21 : KC := (.seq (.ops [⟨(some 2), none, .mv (.c (.int .i64 0))⟩, ⟨(some 3), none, .mv (.c (.int .i64 0))⟩])
  (.seq (.seq (.ops [⟨(some 8), none, .mv (.t 0)⟩, ⟨(some 9), none, .call (.c (.fn (.func 64) [] [])) [(.t 8), (.c (.int .i64 1)), (.c (.int .i64 5))]⟩, ⟨(some 10), none, .not (.t 9)⟩])
  (.cond (.t 10) (.seq (.ops [⟨(some 2), none, .mv (.c (.int .i64 0))⟩, ⟨(some 3), none, .mv (.c (.int .i64 2))⟩])
  .ret) .skip))
  (.seq (.ops [⟨(some 11), none, .mv (.t 0)⟩, ⟨(some 12), none, .call (.c (.fn (.func 65) [] [])) [(.t 11)]⟩, ⟨(some 4), none, .mv (.t 12)⟩])
  (.seq (.ops [⟨(some 5), none, .mv (.c (.int .i64 0))⟩])
  (.seq (.seq (.ops [⟨(some 13), none, .mv (.t 0)⟩, ⟨(some 14), none, .call (.c (.fn (.func 66) [] [])) [(.t 13)]⟩, ⟨(some 15), none, .len false (.t 14)⟩, ⟨(some 16), none, .mv (.c (.int .i64 0))⟩])
  (.block 0 (.loop k21_b0)))
  (.seq (.ops [⟨(some 28), none, .mv (.t 5)⟩, ⟨(some 2), none, .mv (.t 28)⟩, ⟨(some 3), none, .mv (.c (.int .i64 0))⟩])
  .ret))))))
theorem e21 {args : List PV} {σ : Heap} {K : PV → Heap → Prop} (hl : args.length ≤ 29) (h : Wf σ → (∀ a ∈ args, PV.upto σ.length a) → vc (mkCfg Try.prog mixed [] 29 σ.length) k21 (FinK σ.length [.t 2, .t 3] K) (argEnv 0 args) σ) : ACall Try.prog 21 args σ K :=
  ACall_enter (C := mkCfg Try.prog mixed [] 29 σ.length) (c := Try.f21.body.getD .skip) Try.func21 (by kernel_rfl) (by kernel_rfl) (by kernel_rfl) rfl hl (by kernel_rfl) (by kernel_rfl) h
/- spec.CountShapes -/
/- live [0, 4, 5, 6, 7, 8, 9, 10, 11, 12] -/
def k20_b0 : KC := (.seq (.seq (.ops [⟨(some 51), none, .mv (.t 12)⟩, ⟨(some 52), none, .mv (.t 0)⟩, ⟨(some 53), none, .bin .lss (.t 51) (.t 52)⟩])
  (.cond (.t 53) .skip (.exit 4)))
  (.seq (.block 5 (.ops [⟨(some 56), none, .mv (.t 10)⟩, ⟨(some 57), none, .mv (.t 0)⟩, ⟨(some 58), none, .bin .mul (.t 56) (.t 57)⟩, ⟨(some 59), none, .mv (.t 12)⟩, ⟨(some 60), none, .fieldA 1 (.t 11)⟩, ⟨(some 61), none, .idxA 5 1 (.t 60) (.t 59)⟩, ⟨(some 62), none, .load false 1 (.t 61)⟩, ⟨(some 63), none, .bin .add (.t 58) (.t 62)⟩, ⟨(some 10), none, .mv (.t 63)⟩]))
  (.ops [⟨(some 54), none, .mv (.t 12)⟩, ⟨(some 55), none, .bin .add (.t 54) (.c (.int .i64 1))⟩, ⟨(some 12), none, .mv (.t 55)⟩])))
/- live [0, 4, 5, 6, 7, 8, 9] -/
def k20_b1 : KC := (.seq (.seq (.ops [⟨(some 36), none, .mv (.t 9)⟩, ⟨(some 37), none, .mv (.t 4)⟩, ⟨(some 38), none, .len false (.t 37)⟩, ⟨(some 39), none, .bin .lss (.t 36) (.t 38)⟩])
  (.cond (.t 39) .skip (.exit 2)))
  (.seq (.block 3 (.seq (.draw [⟨(some 42), none, .mv (.t 5)⟩, ⟨(some 43), none, .mv (.t 8)⟩, ⟨(some 44), none, .idxS 6 (.t 42) (.t 43)⟩, ⟨(some 45), none, .load true 6 (.t 44)⟩, ⟨(some 46), none, .mv (.t 4)⟩, ⟨(some 47), none, .mv (.t 9)⟩, ⟨(some 48), none, .idxS 6 (.t 46) (.t 47)⟩, ⟨(some 49), none, .load true 6 (.t 48)⟩, ⟨(some 50), none, .pcall (.c (.fn (.func 63) [] [])) [(.t 45), (.t 49)]⟩, ⟨(some 11), none, .alloc [.int .i64 0, .int .i64 0, .int .i64 0, .int .i64 0, .int .i64 0, .int .i64 0]⟩, ⟨(some 10), none, .mv (.c (.int .i64 0))⟩, ⟨none, none, .store 6 (.t 11) (.t 50)⟩])
  (.seq (.seq (.ops [⟨(some 12), none, .mv (.c (.int .i64 0))⟩])
  (.block 4 (.loop k20_b0)))
  (.ops [⟨(some 64), none, .mv (.t 6)⟩, ⟨(some 65), none, .mv (.t 10)⟩, ⟨(some 66), none, .idxS 1 (.t 64) (.t 65)⟩, ⟨none, none, .store 1 (.t 66) (.c (.bool true))⟩]))))
  (.ops [⟨(some 40), none, .mv (.t 9)⟩, ⟨(some 41), none, .bin .add (.t 40) (.c (.int .i64 1))⟩, ⟨(some 9), none, .mv (.t 41)⟩])))
/- live [0, 4, 5, 6, 7, 8] -/
def k20_b2 : KC := (.seq (.seq (.ops [⟨(some 24), none, .mv (.t 8)⟩, ⟨(some 25), none, .mv (.t 5)⟩, ⟨(some 26), none, .len false (.t 25)⟩, ⟨(some 27), none, .bin .lss (.t 24) (.t 26)⟩])
  (.cond (.t 27) .skip (.exit 0)))
  (.seq (.block 1 (.seq (.seq (.ops [⟨(some 30), none, .mv (.t 6)⟩, ⟨(some 31), none, .mv (.t 8)⟩, ⟨(some 32), none, .idxS 1 (.t 30) (.t 31)⟩, ⟨(some 33), none, .load false 1 (.t 32)⟩])
  (.cond (.t 33) (.exit 1) .skip))
  (.seq (.ops [⟨(some 34), none, .mv (.t 7)⟩, ⟨(some 35), none, .bin .add (.t 34) (.c (.int .i64 1))⟩, ⟨(some 7), none, .mv (.t 35)⟩])
  (.seq (.ops [⟨(some 9), none, .mv (.c (.int .i64 0))⟩])
  (.block 2 (.loop k20_b1))))))
  (.ops [⟨(some 28), none, .mv (.t 8)⟩, ⟨(some 29), none, .bin .add (.t 28) (.c (.int .i64 1))⟩, ⟨(some 8), none, .mv (.t 29)⟩])))
def k20 : KC := (.seq (.ops [⟨(some 2), none, .mv (.c (.int .i64 0))⟩, ⟨(some 3), none, .mv (.c (.int .i64 0))⟩])
  (.seq (.seq (.ops [⟨(some 13), none, .mv (.t 0)⟩, ⟨(some 14), none, .call (.c (.fn (.func 60) [] [])) [(.t 13), (.c (.int .i64 1)), (.c (.int .i64 5))]⟩, ⟨(some 15), none, .not (.t 14)⟩])
  (.cond (.t 15) (.seq (.ops [⟨(some 2), none, .mv (.c (.int .i64 0))⟩, ⟨(some 3), none, .mv (.c (.int .i64 2))⟩])
  .ret) .skip))
  (.seq (.ops [⟨(some 16), none, .mv (.t 0)⟩, ⟨(some 17), none, .bsl false 2 1 []⟩, ⟨(some 18), none, .call (.c (.fn (.func 61) [] [])) [(.t 16), (.t 17)]⟩, ⟨(some 19), none, .mv (.t 0)⟩, ⟨(some 20), none, .call (.c (.fn (.func 62) [] [])) [(.t 19)]⟩, ⟨(some 4), none, .mv (.t 18)⟩, ⟨(some 5), none, .mv (.t 20)⟩])
  (.seq (.ops [⟨(some 21), none, .mv (.t 5)⟩, ⟨(some 22), none, .len false (.t 21)⟩, ⟨(some 23), none, .mks 4 1 (.bool false) (.t 22) (.t 22)⟩, ⟨(some 6), none, .mv (.t 23)⟩, ⟨(some 7), none, .mv (.c (.int .i64 0))⟩])
  (.seq (.seq (.ops [⟨(some 8), none, .mv (.c (.int .i64 0))⟩])
  (.block 0 (.loop k20_b2)))
  (.seq (.ops [⟨(some 67), none, .mv (.t 7)⟩, ⟨(some 2), none, .mv (.t 67)⟩, ⟨(some 3), none, .mv (.c (.int .i64 0))⟩])
  .ret))))))
theorem e20 {args : List PV} {σ : Heap} {K : PV → Heap → Prop} (hl : args.length ≤ 68) (h : Wf σ → (∀ a ∈ args, PV.upto σ.length a) → vc (mkCfg Try.prog mixed [] 68 σ.length) k20 (FinK σ.length [.t 2, .t 3] K) (argEnv 0 args) σ) : ACall Try.prog 20 args σ K :=
  ACall_enter (C := mkCfg Try.prog mixed [] 68 σ.length) (c := Try.f20.body.getD .skip) Try.func20 (by kernel_rfl) (by kernel_rfl) (by kernel_rfl) rfl hl (by kernel_rfl) (by kernel_rfl) h
end Go.Proofs.Ytpkddcjecfogeaa
