/- The compact code of functions of the seat, and how their calls are entered: printed by this session's own program. -/
import Derived.Test.YtkljidghocnllaaCb
namespace Go.Proofs.Ytkljidghocnllaa
open Go.Kv
set_option maxRecDepth 100000
/- impl.MapOf -/
def k86 : KC := (.seq (.ops [⟨(some 2), none, .alloc [.int .i64 0, .int .i64 0, .int .i64 0, .int .i64 0, .int .i64 0, .int .i64 0]⟩, ⟨(some 3), none, .mv (.c (.int .i64 0))⟩])
  (.seq (.ops [⟨(some 5), none, .mv (.t 0)⟩, ⟨(some 6), none, .len false (.t 5)⟩, ⟨(some 7), none, .build [.int .i64 0, .int .i64 0, .int .i64 0, .int .i64 0, .int .i64 0, .int .i64 0] [(0, 1, (.t 6))]⟩, ⟨(some 4), none, .alloc [.int .i64 0, .int .i64 0, .int .i64 0, .int .i64 0, .int .i64 0, .int .i64 0]⟩, ⟨none, none, .store 6 (.t 4) (.t 7)⟩])
  (.seq (.seq (.ops [⟨(some 8), none, .fieldA 0 (.t 4)⟩, ⟨(some 9), none, .load false 1 (.t 8)⟩, ⟨(some 10), none, .call (.c (.fn (.func 103) [] [])) [(.t 9), (.c (.int .i64 1)), (.c (.int .i64 5))]⟩, ⟨(some 11), none, .not (.t 10)⟩])
  (.cond (.t 11) (.seq (.ops [⟨(some 12), none, .build [.int .i64 0, .int .i64 0, .int .i64 0, .int .i64 0, .int .i64 0, .int .i64 0] []⟩, ⟨none, none, .store 6 (.t 2) (.t 12)⟩, ⟨(some 3), none, .mv (.c (.int .i64 2))⟩])
  .ret) .skip))
  (.seq (.ops [⟨(some 13), none, .fieldA 1 (.t 4)⟩, ⟨(some 14), none, .slA 5 (.t 13) none⟩, ⟨(some 15), none, .mv (.t 0)⟩, ⟨(some 16), none, .cpy (.t 14) (.t 15)⟩])
  (.seq (.seq (.ops [⟨(some 17), none, .load true 6 (.t 4)⟩, ⟨(some 18), none, .call (.c (.fn (.func 77) [] [])) [(.t 17)]⟩, ⟨(some 19), none, .not (.t 18)⟩])
  (.cond (.t 19) (.seq (.ops [⟨(some 20), none, .build [.int .i64 0, .int .i64 0, .int .i64 0, .int .i64 0, .int .i64 0, .int .i64 0] []⟩, ⟨none, none, .store 6 (.t 2) (.t 20)⟩, ⟨(some 3), none, .mv (.c (.int .i64 2))⟩])
  .ret) .skip))
  (.seq (.ops [⟨(some 21), none, .load true 6 (.t 4)⟩, ⟨none, none, .store 6 (.t 2) (.t 21)⟩, ⟨(some 3), none, .mv (.c (.int .i64 0))⟩])
  .ret))))))
theorem e86 {args : List PV} {σ : Heap} {K : PV → Heap → Prop} (hl : args.length ≤ 22) (h : Wf σ → (∀ a ∈ args, PV.upto σ.length a) → vc (mkCfg Try.prog mixed [] 22 σ.length) k86 (FinK σ.length [.cell 2 true 6, .t 3] K) (argEnv 0 args) σ) : ACall Try.prog 86 args σ K :=
  ACall_enter (C := mkCfg Try.prog mixed [] 22 σ.length) (c := Try.f86.body.getD .skip) Try.func86 (by kernel_rfl) (by kernel_rfl) (by kernel_rfl) rfl hl (by kernel_rfl) (by kernel_rfl) h
/- impl.MapsOfTable -/
/- live [0, 4, 21, 22] -/
def k48_b0 : KC := (.seq (.ops [⟨(some 23), none, .bin .lss (.t 22) (.t 21)⟩])
  (.seq (.cond (.t 23) .skip (.exit 1))
  (.seq (.block 2 (.seq (.ops [⟨(some 24), none, .mv (.t 22)⟩, ⟨(some 5), none, .mv (.t 24)⟩])
  (.seq (.ops [⟨(some 26), none, .mv (.t 0)⟩, ⟨(some 27), none, .mv (.t 5)⟩, ⟨(some 28), none, .call (.c (.fn (.func 87) [] [])) [(.t 26), (.t 27)]⟩, ⟨(some 29), none, .call (.c (.fn (.func 86) [] [])) [(.t 28)]⟩, ⟨(some 25), none, .mv (.t 29)⟩, ⟨(some 30), none, .extr 0 (.t 25)⟩, ⟨(some 31), none, .extr 1 (.t 25)⟩, ⟨(some 6), none, .alloc [.int .i64 0, .int .i64 0, .int .i64 0, .int .i64 0, .int .i64 0, .int .i64 0]⟩, ⟨none, none, .store 6 (.t 6) (.t 30)⟩, ⟨(some 7), none, .mv (.t 31)⟩])
  (.ops [⟨(some 32), none, .mv (.t 4)⟩, ⟨(some 33), none, .load true 6 (.t 6)⟩, ⟨(some 34), none, .bsl true 27 6 [(.t 33)]⟩, ⟨(some 35), none, .app (.t 32) (.t 34) 27 6⟩, ⟨(some 4), none, .mv (.t 35)⟩]))))
  (.ops [⟨(some 36), none, .bin .add (.t 22) (.c (.int .i64 1))⟩, ⟨(some 22), none, .mv (.t 36)⟩]))))
def k48 : KC := (.seq (.ops [⟨(some 2), none, .mv (.c (.nils))⟩, ⟨(some 3), none, .mv (.c (.int .i64 0))⟩])
  (.seq (.block 0 (.seq (.ops [⟨(some 9), none, .mv (.t 0)⟩, ⟨(some 10), none, .call (.c (.fn (.func 68) [] [])) [(.t 9)]⟩, ⟨(some 11), none, .not (.t 10)⟩, ⟨(some 8), none, .mv (.t 11)⟩])
  (.cond (.t 8) (.seq (.ops [⟨(some 2), none, .mv (.c (.nils))⟩, ⟨(some 3), none, .mv (.c (.int .i64 2))⟩])
  .ret) (.seq (.ops [⟨(some 13), none, .mv (.t 0)⟩, ⟨(some 14), none, .len false (.t 13)⟩, ⟨(some 15), none, .bin .gtr (.t 14) (.c (.int .i64 5))⟩, ⟨(some 12), none, .mv (.t 15)⟩])
  (.cond (.t 12) (.seq (.ops [⟨(some 2), none, .mv (.c (.nils))⟩, ⟨(some 3), none, .mv (.c (.int .i64 3))⟩])
  .ret) (.seq (.ops [⟨(some 17), none, .mv (.t 0)⟩, ⟨(some 18), none, .call (.c (.fn (.func 85) [] [])) [(.t 17)]⟩, ⟨(some 19), none, .not (.t 18)⟩, ⟨(some 16), none, .mv (.t 19)⟩])
  (.cond (.t 16) (.seq (.ops [⟨(some 2), none, .mv (.c (.nils))⟩, ⟨(some 3), none, .mv (.c (.int .i64 5))⟩])
  .ret) .skip)))))))
  (.seq (.ops [⟨(some 4), none, .mv (.c (.nils))⟩])
  (.seq (.seq (.ops [⟨(some 20), none, .mv (.t 0)⟩, ⟨(some 21), none, .len false (.t 20)⟩, ⟨(some 22), none, .mv (.c (.int .i64 0))⟩])
  (.block 1 (.loop k48_b0)))
  (.seq (.ops [⟨(some 37), none, .mv (.t 4)⟩, ⟨(some 2), none, .mv (.t 37)⟩, ⟨(some 3), none, .mv (.c (.int .i64 0))⟩])
  .ret)))))
theorem e48 {args : List PV} {σ : Heap} {K : PV → Heap → Prop} (hl : args.length ≤ 38) (h : Wf σ → (∀ a ∈ args, PV.upto σ.length a) → vc (mkCfg Try.prog mixed [34] 38 σ.length) k48 (FinK σ.length [.t 2, .t 3] K) (argEnv 0 args) σ) : ACall Try.prog 48 args σ K :=
  ACall_enter (C := mkCfg Try.prog mixed [34] 38 σ.length) (c := Try.f48.body.getD .skip) Try.func48 (by kernel_rfl) (by kernel_rfl) (by kernel_rfl) rfl hl (by kernel_rfl) (by kernel_rfl) h
/- spec.MapsOfTable -/
/- live [0, 4, 5, 6, 7] -/
def k47_b0 : KC := (.seq (.seq (.ops [⟨(some 28), none, .mv (.t 7)⟩, ⟨(some 29), none, .mv (.t 0)⟩, ⟨(some 30), none, .len false (.t 29)⟩, ⟨(some 31), none, .bin .lss (.t 28) (.t 30)⟩])
  (.cond (.t 31) .skip (.exit 3)))
  (.seq (.block 4 (.ops [⟨(some 34), none, .mv (.t 6)⟩, ⟨(some 35), none, .mv (.t 0)⟩, ⟨(some 36), none, .mv (.t 7)⟩, ⟨(some 37), none, .idxS 1 (.t 35) (.t 36)⟩, ⟨(some 38), none, .load false 1 (.t 37)⟩, ⟨(some 39), none, .mv (.t 5)⟩, ⟨(some 40), none, .idxS 1 (.t 38) (.t 39)⟩, ⟨(some 41), none, .load false 1 (.t 40)⟩, ⟨(some 42), none, .bsl true 2 1 [(.t 41)]⟩, ⟨(some 43), none, .app (.t 34) (.t 42) 2 1⟩, ⟨(some 6), none, .mv (.t 43)⟩]))
  (.ops [⟨(some 32), none, .mv (.t 7)⟩, ⟨(some 33), none, .bin .add (.t 32) (.c (.int .i64 1))⟩, ⟨(some 7), none, .mv (.t 33)⟩])))
/- live [0, 4, 5] -/
def k47_b1 : KC := (.seq (.seq (.ops [⟨(some 21), none, .mv (.t 5)⟩, ⟨(some 22), none, .mv (.t 0)⟩, ⟨(some 23), none, .len false (.t 22)⟩, ⟨(some 24), none, .bin .lss (.t 21) (.t 23)⟩])
  (.cond (.t 24) .skip (.exit 1)))
  (.seq (.block 2 (.seq (.ops [⟨(some 27), none, .bsl false 2 1 []⟩, ⟨(some 6), none, .mv (.t 27)⟩])
  (.seq (.seq (.ops [⟨(some 7), none, .mv (.c (.int .i64 0))⟩])
  (.block 3 (.loop k47_b0)))
  (.ops [⟨(some 44), none, .mv (.t 4)⟩, ⟨(some 45), none, .mv (.t 6)⟩, ⟨(some 46), none, .call (.c (.fn (.func 84) [] [])) [(.t 45)]⟩, ⟨(some 47), none, .bsl true 27 6 [(.t 46)]⟩, ⟨(some 48), none, .app (.t 44) (.t 47) 27 6⟩, ⟨(some 4), none, .mv (.t 48)⟩]))))
  (.ops [⟨(some 25), none, .mv (.t 5)⟩, ⟨(some 26), none, .bin .add (.t 25) (.c (.int .i64 1))⟩, ⟨(some 5), none, .mv (.t 26)⟩])))
def k47 : KC := (.seq (.ops [⟨(some 2), none, .mv (.c (.nils))⟩, ⟨(some 3), none, .mv (.c (.int .i64 0))⟩])
  (.seq (.block 0 (.seq (.ops [⟨(some 9), none, .mv (.t 0)⟩, ⟨(some 10), none, .call (.c (.fn (.func 66) [] [])) [(.t 9)]⟩, ⟨(some 11), none, .not (.t 10)⟩, ⟨(some 8), none, .mv (.t 11)⟩])
  (.cond (.t 8) (.seq (.ops [⟨(some 2), none, .mv (.c (.nils))⟩, ⟨(some 3), none, .mv (.c (.int .i64 2))⟩])
  .ret) (.seq (.ops [⟨(some 13), none, .mv (.t 0)⟩, ⟨(some 14), none, .len false (.t 13)⟩, ⟨(some 15), none, .bin .gtr (.t 14) (.c (.int .i64 5))⟩, ⟨(some 12), none, .mv (.t 15)⟩])
  (.cond (.t 12) (.seq (.ops [⟨(some 2), none, .mv (.c (.nils))⟩, ⟨(some 3), none, .mv (.c (.int .i64 3))⟩])
  .ret) (.seq (.ops [⟨(some 17), none, .mv (.t 0)⟩, ⟨(some 18), none, .call (.c (.fn (.func 83) [] [])) [(.t 17)]⟩, ⟨(some 19), none, .not (.t 18)⟩, ⟨(some 16), none, .mv (.t 19)⟩])
  (.cond (.t 16) (.seq (.ops [⟨(some 2), none, .mv (.c (.nils))⟩, ⟨(some 3), none, .mv (.c (.int .i64 5))⟩])
  .ret) .skip)))))))
  (.seq (.ops [⟨(some 20), none, .bsl false 27 6 []⟩, ⟨(some 4), none, .mv (.t 20)⟩])
  (.seq (.seq (.ops [⟨(some 5), none, .mv (.c (.int .i64 0))⟩])
  (.block 1 (.loop k47_b1)))
  (.seq (.ops [⟨(some 49), none, .mv (.t 4)⟩, ⟨(some 2), none, .mv (.t 49)⟩, ⟨(some 3), none, .mv (.c (.int .i64 0))⟩])
  .ret)))))
theorem e47 {args : List PV} {σ : Heap} {K : PV → Heap → Prop} (hl : args.length ≤ 50) (h : Wf σ → (∀ a ∈ args, PV.upto σ.length a) → vc (mkCfg Try.prog mixed [42, 47] 50 σ.length) k47 (FinK σ.length [.t 2, .t 3] K) (argEnv 0 args) σ) : ACall Try.prog 47 args σ K :=
  ACall_enter (C := mkCfg Try.prog mixed [42, 47] 50 σ.length) (c := Try.f47.body.getD .skip) Try.func47 (by kernel_rfl) (by kernel_rfl) (by kernel_rfl) rfl hl (by kernel_rfl) (by kernel_rfl) h
end Go.Proofs.Ytkljidghocnllaa
