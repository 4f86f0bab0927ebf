/- Maps: what is one, identities, products. -/
import Derived.Test.YtpepbomifjbgnaaCb
import Derived.Test.YtpepbomifjbgnaaW
import Derived.Test.YtpepbomifjbgnaaMp
import Derived.Test.YtpepbomifjbgnaaMk
namespace Go.Proofs.Ytpepbomifjbgnaa
open Go.Kv
set_option maxRecDepth 100000
/- laws.toMap -/
def k53 : KC := (.seq (.ops [⟨(some 1), none, .box true (.t 0)⟩, ⟨(some 2), none, .alloc [.int .i64 0, .int .i64 0, .int .i64 0, .int .i64 0, .int .i64 0, .int .i64 0]⟩])
  (.seq (.ops [⟨(some 3), none, .alloc [.int .i64 0, .int .i64 0, .int .i64 0, .int .i64 0, .int .i64 0, .int .i64 0]⟩])
  (.seq (.ops [⟨(some 4), none, .fieldA 0 (.t 1)⟩, ⟨(some 5), none, .load false 1 (.t 4)⟩, ⟨(some 6), none, .fieldA 0 (.t 3)⟩, ⟨none, none, .store 1 (.t 6) (.t 5)⟩])
  (.seq (.ops [⟨(some 7), none, .fieldA 1 (.t 1)⟩, ⟨(some 8), none, .load true 5 (.t 7)⟩, ⟨(some 9), none, .call (.c (.fn (.func 100) [] [])) [(.t 8)]⟩, ⟨(some 10), none, .fieldA 1 (.t 3)⟩, ⟨none, none, .store 5 (.t 10) (.t 9)⟩])
  (.seq (.ops [⟨(some 11), none, .load true 6 (.t 3)⟩, ⟨none, none, .store 6 (.t 2) (.t 11)⟩])
  .ret)))))
theorem e53 {args : List PV} {σ : Heap} {K : PV → Heap → Prop} (hl : args.length ≤ 12) (h : Wf σ → (∀ a ∈ args, PV.upto σ.length a) → vc (mkCfg Try.prog mixed [1] 12 σ.length) k53 (FinK σ.length [.cell 2 true 6] K) (argEnv 0 args) σ) : ACall Try.prog 53 args σ K :=
  ACall_enter (C := mkCfg Try.prog mixed [1] 12 σ.length) (c := Try.f53.body.getD .skip) Try.func53 (by kernel_rfl) (by kernel_rfl) (by kernel_rfl) rfl hl (by kernel_rfl) (by kernel_rfl) h
/- laws.toInt64A5 -/
/- live [1, 2, 3, 4] -/
def k100_b0 : KC := (.seq (.seq (.ops [⟨(some 5), none, .mv (.t 4)⟩, ⟨(some 6), none, .bin .lss (.t 5) (.c (.int .i64 5))⟩])
  (.cond (.t 6) .skip (.exit 0)))
  (.seq (.block 1 (.ops [⟨(some 9), none, .mv (.t 4)⟩, ⟨(some 10), none, .mv (.t 4)⟩, ⟨(some 11), none, .idxA 5 1 (.t 1) (.t 10)⟩, ⟨(some 12), none, .load false 1 (.t 11)⟩, ⟨(some 13), none, .idxA 5 1 (.t 3) (.t 9)⟩, ⟨none, none, .store 1 (.t 13) (.t 12)⟩]))
  (.ops [⟨(some 7), none, .mv (.t 4)⟩, ⟨(some 8), none, .bin .add (.t 7) (.c (.int .i64 1))⟩, ⟨(some 4), none, .mv (.t 8)⟩])))
def k100 : KC := (.seq (.ops [⟨(some 1), none, .box true (.t 0)⟩, ⟨(some 2), none, .alloc [.int .i64 0, .int .i64 0, .int .i64 0, .int .i64 0, .int .i64 0]⟩])
  (.seq (.ops [⟨(some 3), none, .alloc [.int .i64 0, .int .i64 0, .int .i64 0, .int .i64 0, .int .i64 0]⟩])
  (.seq (.seq (.ops [⟨(some 4), none, .mv (.c (.int .i64 0))⟩])
  (.block 0 (.loop k100_b0)))
  (.seq (.ops [⟨(some 14), none, .load true 5 (.t 3)⟩, ⟨none, none, .store 5 (.t 2) (.t 14)⟩])
  .ret))))
theorem e100 {args : List PV} {σ : Heap} {K : PV → Heap → Prop} (hl : args.length ≤ 15) (h : Wf σ → (∀ a ∈ args, PV.upto σ.length a) → vc (mkCfg Try.prog mixed [1] 15 σ.length) k100 (FinK σ.length [.cell 2 true 5] K) (argEnv 0 args) σ) : ACall Try.prog 100 args σ K :=
  ACall_enter (C := mkCfg Try.prog mixed [1] 15 σ.length) (c := Try.f100.body.getD .skip) Try.func100 (by kernel_rfl) (by kernel_rfl) (by kernel_rfl) rfl hl (by kernel_rfl) (by kernel_rfl) h
/- spec.l01Is -/
/- live [1, 3, 17, 18, 19, 20, 21, 22, 23, 24, 25, 28, 29, 30, 31, 32, 33, 34, 35, 36, 37, 38] -/
def k98_b0 : KC := (.seq (.seq (.ops [⟨(some 8), none, .mv (.t 3)⟩, ⟨(some 9), none, .bin .lss (.t 8) (.c (.int .i64 5))⟩])
  (.cond (.t 9) .skip (.exit 0)))
  (.seq (.block 1 (.seq (.draw [⟨(some 12), none, .mv (.t 3)⟩, ⟨(some 13), none, .fieldA 0 (.t 1)⟩, ⟨(some 14), none, .load false 1 (.t 13)⟩, ⟨(some 15), none, .bin .lss (.t 12) (.t 14)⟩, ⟨(some 16), none, .mv (.t 15)⟩, ⟨(some 17), some (16, true), .mv (.t 3)⟩, ⟨(some 18), some (16, true), .fieldA 1 (.t 1)⟩, ⟨(some 19), some (16, true), .idxA 5 1 (.t 18) (.t 17)⟩, ⟨(some 20), some (16, true), .load false 1 (.t 19)⟩, ⟨(some 21), some (16, true), .fieldA 0 (.t 1)⟩, ⟨(some 22), some (16, true), .load false 1 (.t 21)⟩, ⟨(some 23), some (16, true), .bin .sub (.t 22) (.c (.int .i64 1))⟩, ⟨(some 24), some (16, true), .pcall (.c (.fn (.func 90) [] [])) [(.t 20), (.c (.int .i64 0)), (.t 23)]⟩, ⟨(some 25), some (16, true), .not (.t 24)⟩, ⟨(some 26), none, .pick (.t 16) (.t 25) (.c (.bool false))⟩, ⟨(some 27), none, .mv (.t 26)⟩, ⟨(some 28), some (27, false), .mv (.t 3)⟩, ⟨(some 29), some (27, false), .fieldA 0 (.t 1)⟩, ⟨(some 30), some (27, false), .load false 1 (.t 29)⟩, ⟨(some 31), some (27, false), .bin .geq (.t 28) (.t 30)⟩, ⟨(some 32), some (27, false), .mv (.t 31)⟩, ⟨(some 33), some (32, true), .mv (.t 3)⟩, ⟨(some 34), some (32, true), .fieldA 1 (.t 1)⟩, ⟨(some 35), some (32, true), .idxA 5 1 (.t 34) (.t 33)⟩, ⟨(some 36), some (32, true), .load false 1 (.t 35)⟩, ⟨(some 37), some (32, true), .bin .neq (.t 36) (.c (.int .i64 0))⟩, ⟨(some 38), some (27, false), .pick (.t 32) (.t 37) (.c (.bool false))⟩, ⟨(some 39), none, .pick (.t 27) (.c (.bool true)) (.t 38)⟩])
  (.cond (.t 39) (.seq (.ops [⟨(some 2), none, .mv (.c (.bool false))⟩])
  .ret) .skip)))
  (.ops [⟨(some 10), none, .mv (.t 3)⟩, ⟨(some 11), none, .bin .add (.t 10) (.c (.int .i64 1))⟩, ⟨(some 3), none, .mv (.t 11)⟩])))
def k98 : KC := (.seq (.ops [⟨(some 1), none, .box true (.t 0)⟩, ⟨(some 2), none, .mv (.c (.bool false))⟩])
  (.seq (.seq (.ops [⟨(some 4), none, .fieldA 0 (.t 1)⟩, ⟨(some 5), none, .load false 1 (.t 4)⟩, ⟨(some 6), none, .call (.c (.fn (.func 90) [] [])) [(.t 5), (.c (.int .i64 1)), (.c (.int .i64 5))]⟩, ⟨(some 7), none, .not (.t 6)⟩])
  (.cond (.t 7) (.seq (.ops [⟨(some 2), none, .mv (.c (.bool false))⟩])
  .ret) .skip))
  (.seq (.seq (.ops [⟨(some 3), none, .mv (.c (.int .i64 0))⟩])
  (.block 0 (.loop k98_b0)))
  (.seq (.ops [⟨(some 2), none, .mv (.c (.bool true))⟩])
  .ret))))
theorem e98 {args : List PV} {σ : Heap} {K : PV → Heap → Prop} (hl : args.length ≤ 40) (h : Wf σ → (∀ a ∈ args, PV.upto σ.length a) → vc (mkCfg Try.prog mixed [1] 40 σ.length) k98 (FinK σ.length [.t 2] K) (argEnv 0 args) σ) : ACall Try.prog 98 args σ K :=
  ACall_enter (C := mkCfg Try.prog mixed [1] 40 σ.length) (c := Try.f98.body.getD .skip) Try.func98 (by kernel_rfl) (by kernel_rfl) (by kernel_rfl) rfl hl (by kernel_rfl) (by kernel_rfl) h
/- impl.IsMap -/
/- live [1, 10, 11, 20, 21, 22, 23, 24, 25, 28, 29, 30, 31, 32, 33, 34, 35] -/
def k102_b0 : KC := (.seq (.ops [⟨(some 12), none, .bin .lss (.t 11) (.c (.int .i64 5))⟩])
  (.seq (.cond (.t 12) .skip (.exit 0))
  (.seq (.block 1 (.seq (.ops [⟨(some 13), none, .mv (.t 11)⟩, ⟨(some 14), none, .idxV 5 1 false (.t 10) (.t 11)⟩, ⟨(some 3), none, .mv (.t 13)⟩, ⟨(some 4), none, .mv (.t 14)⟩])
  (.seq (.ops [⟨(some 15), none, .mv (.t 3)⟩, ⟨(some 16), none, .fieldA 0 (.t 1)⟩, ⟨(some 17), none, .load false 1 (.t 16)⟩, ⟨(some 18), none, .bin .lss (.t 15) (.t 17)⟩, ⟨(some 19), none, .mv (.t 18)⟩, ⟨(some 20), some (19, true), .mv (.t 4)⟩, ⟨(some 21), some (19, true), .fieldA 0 (.t 1)⟩, ⟨(some 22), some (19, true), .load false 1 (.t 21)⟩, ⟨(some 23), some (19, true), .bin .sub (.t 22) (.c (.int .i64 1))⟩, ⟨(some 24), some (19, true), .call (.c (.fn (.func 91) [] [])) [(.t 20), (.c (.int .i64 0)), (.t 23)]⟩, ⟨(some 25), some (19, true), .not (.t 24)⟩, ⟨(some 26), none, .pick (.t 19) (.t 25) (.c (.bool false))⟩, ⟨(some 27), none, .mv (.t 26)⟩, ⟨(some 28), some (27, false), .mv (.t 3)⟩, ⟨(some 29), some (27, false), .fieldA 0 (.t 1)⟩, ⟨(some 30), some (27, false), .load false 1 (.t 29)⟩, ⟨(some 31), some (27, false), .bin .geq (.t 28) (.t 30)⟩, ⟨(some 32), some (27, false), .mv (.t 31)⟩, ⟨(some 33), some (32, true), .mv (.t 4)⟩, ⟨(some 34), some (32, true), .bin .neq (.t 33) (.c (.int .i64 0))⟩, ⟨(some 35), some (27, false), .pick (.t 32) (.t 34) (.c (.bool false))⟩, ⟨(some 36), none, .pick (.t 27) (.c (.bool true)) (.t 35)⟩])
  (.cond (.t 36) (.seq (.ops [⟨(some 2), none, .mv (.c (.bool false))⟩])
  .ret) .skip))))
  (.ops [⟨(some 37), none, .bin .add (.t 11) (.c (.int .i64 1))⟩, ⟨(some 11), none, .mv (.t 37)⟩]))))
def k102 : KC := (.seq (.ops [⟨(some 1), none, .box true (.t 0)⟩, ⟨(some 2), none, .mv (.c (.bool false))⟩])
  (.seq (.seq (.ops [⟨(some 5), none, .fieldA 0 (.t 1)⟩, ⟨(some 6), none, .load false 1 (.t 5)⟩, ⟨(some 7), none, .call (.c (.fn (.func 91) [] [])) [(.t 6), (.c (.int .i64 1)), (.c (.int .i64 5))]⟩, ⟨(some 8), none, .not (.t 7)⟩])
  (.cond (.t 8) (.seq (.ops [⟨(some 2), none, .mv (.c (.bool false))⟩])
  .ret) .skip))
  (.seq (.seq (.ops [⟨(some 9), none, .fieldA 1 (.t 1)⟩, ⟨(some 10), none, .load true 5 (.t 9)⟩, ⟨(some 11), none, .mv (.c (.int .i64 0))⟩])
  (.block 0 (.loop k102_b0)))
  (.seq (.ops [⟨(some 2), none, .mv (.c (.bool true))⟩])
  .ret))))
theorem e102 {args : List PV} {σ : Heap} {K : PV → Heap → Prop} (hl : args.length ≤ 38) (h : Wf σ → (∀ a ∈ args, PV.upto σ.length a) → vc (mkCfg Try.prog mixed [1] 38 σ.length) k102 (FinK σ.length [.t 2] K) (argEnv 0 args) σ) : ACall Try.prog 102 args σ K :=
  ACall_enter (C := mkCfg Try.prog mixed [1] 38 σ.length) (c := Try.f102.body.getD .skip) Try.func102 (by kernel_rfl) (by kernel_rfl) (by kernel_rfl) rfl hl (by kernel_rfl) (by kernel_rfl) h
/- spec.l01Identity -/
/- live [0, 2, 3, 4] -/
def k142_b0 : KC := (.seq (.seq (.ops [⟨(some 7), none, .mv (.t 4)⟩, ⟨(some 8), none, .mv (.t 0)⟩, ⟨(some 9), none, .bin .lss (.t 7) (.t 8)⟩])
  (.cond (.t 9) .skip (.exit 0)))
  (.seq (.block 1 (.ops [⟨(some 12), none, .mv (.t 4)⟩, ⟨(some 13), none, .mv (.t 4)⟩, ⟨(some 14), none, .fieldA 1 (.t 3)⟩, ⟨(some 15), none, .idxA 5 1 (.t 14) (.t 12)⟩, ⟨none, none, .store 1 (.t 15) (.t 13)⟩]))
  (.ops [⟨(some 10), none, .mv (.t 4)⟩, ⟨(some 11), none, .bin .add (.t 10) (.c (.int .i64 1))⟩, ⟨(some 4), none, .mv (.t 11)⟩])))
def k142 : KC := (.seq (.ops [⟨(some 2), none, .alloc [.int .i64 0, .int .i64 0, .int .i64 0, .int .i64 0, .int .i64 0, .int .i64 0]⟩])
  (.seq (.ops [⟨(some 5), none, .mv (.t 0)⟩, ⟨(some 6), none, .build [.int .i64 0, .int .i64 0, .int .i64 0, .int .i64 0, .int .i64 0, .int .i64 0] [(0, 1, (.t 5))]⟩, ⟨(some 3), none, .alloc [.int .i64 0, .int .i64 0, .int .i64 0, .int .i64 0, .int .i64 0, .int .i64 0]⟩, ⟨none, none, .store 6 (.t 3) (.t 6)⟩])
  (.seq (.seq (.ops [⟨(some 4), none, .mv (.c (.int .i64 0))⟩])
  (.block 0 (.loop k142_b0)))
  (.seq (.ops [⟨(some 16), none, .load true 6 (.t 3)⟩, ⟨none, none, .store 6 (.t 2) (.t 16)⟩])
  .ret))))
theorem e142 {args : List PV} {σ : Heap} {K : PV → Heap → Prop} (hl : args.length ≤ 17) (h : Wf σ → (∀ a ∈ args, PV.upto σ.length a) → vc (mkCfg Try.prog mixed [] 17 σ.length) k142 (FinK σ.length [.cell 2 true 6] K) (argEnv 0 args) σ) : ACall Try.prog 142 args σ K :=
  ACall_enter (C := mkCfg Try.prog mixed [] 17 σ.length) (c := Try.f142.body.getD .skip) Try.func142 (by kernel_rfl) (by kernel_rfl) (by kernel_rfl) rfl hl (by kernel_rfl) (by kernel_rfl) h
/- spec.l01Times -/
/- live [2, 3, 4, 5, 6] -/
def k117_b0 : KC := (.seq (.seq (.ops [⟨(some 10), none, .mv (.t 6)⟩, ⟨(some 11), none, .fieldA 0 (.t 2)⟩, ⟨(some 12), none, .load false 1 (.t 11)⟩, ⟨(some 13), none, .bin .lss (.t 10) (.t 12)⟩])
  (.cond (.t 13) .skip (.exit 0)))
  (.seq (.block 1 (.ops [⟨(some 16), none, .mv (.t 6)⟩, ⟨(some 17), none, .mv (.t 6)⟩, ⟨(some 18), none, .fieldA 1 (.t 2)⟩, ⟨(some 19), none, .idxA 5 1 (.t 18) (.t 17)⟩, ⟨(some 20), none, .load false 1 (.t 19)⟩, ⟨(some 21), none, .fieldA 1 (.t 3)⟩, ⟨(some 22), none, .idxA 5 1 (.t 21) (.t 20)⟩, ⟨(some 23), none, .load false 1 (.t 22)⟩, ⟨(some 24), none, .fieldA 1 (.t 5)⟩, ⟨(some 25), none, .idxA 5 1 (.t 24) (.t 16)⟩, ⟨none, none, .store 1 (.t 25) (.t 23)⟩]))
  (.ops [⟨(some 14), none, .mv (.t 6)⟩, ⟨(some 15), none, .bin .add (.t 14) (.c (.int .i64 1))⟩, ⟨(some 6), none, .mv (.t 15)⟩])))
def k117 : KC := (.seq (.ops [⟨(some 2), none, .box true (.t 0)⟩, ⟨(some 3), none, .box true (.t 1)⟩, ⟨(some 4), none, .alloc [.int .i64 0, .int .i64 0, .int .i64 0, .int .i64 0, .int .i64 0, .int .i64 0]⟩])
  (.seq (.ops [⟨(some 7), none, .fieldA 0 (.t 2)⟩, ⟨(some 8), none, .load false 1 (.t 7)⟩, ⟨(some 9), none, .build [.int .i64 0, .int .i64 0, .int .i64 0, .int .i64 0, .int .i64 0, .int .i64 0] [(0, 1, (.t 8))]⟩, ⟨(some 5), none, .alloc [.int .i64 0, .int .i64 0, .int .i64 0, .int .i64 0, .int .i64 0, .int .i64 0]⟩, ⟨none, none, .store 6 (.t 5) (.t 9)⟩])
  (.seq (.seq (.ops [⟨(some 6), none, .mv (.c (.int .i64 0))⟩])
  (.block 0 (.loop k117_b0)))
  (.seq (.ops [⟨(some 26), none, .load true 6 (.t 5)⟩, ⟨none, none, .store 6 (.t 4) (.t 26)⟩])
  .ret))))
theorem e117 {args : List PV} {σ : Heap} {K : PV → Heap → Prop} (hl : args.length ≤ 27) (h : Wf σ → (∀ a ∈ args, PV.upto σ.length a) → vc (mkCfg Try.prog mixed [2, 3] 27 σ.length) k117 (FinK σ.length [.cell 4 true 6] K) (argEnv 0 args) σ) : ACall Try.prog 117 args σ K :=
  ACall_enter (C := mkCfg Try.prog mixed [2, 3] 27 σ.length) (c := Try.f117.body.getD .skip) Try.func117 (by kernel_rfl) (by kernel_rfl) (by kernel_rfl) rfl hl (by kernel_rfl) (by kernel_rfl) h
/- (impl.Map).times -/
/- live [2, 3, 4, 7, 8] -/
def k146_b0 : KC := (.seq (.ops [⟨(some 9), none, .bin .lss (.t 8) (.t 7)⟩])
  (.seq (.cond (.t 9) .skip (.exit 0))
  (.seq (.block 1 (.seq (.ops [⟨(some 10), none, .mv (.t 8)⟩, ⟨(some 5), none, .mv (.t 10)⟩])
  (.ops [⟨(some 11), none, .mv (.t 5)⟩, ⟨(some 12), none, .mv (.t 5)⟩, ⟨(some 13), none, .fieldA 1 (.t 2)⟩, ⟨(some 14), none, .idxA 5 1 (.t 13) (.t 12)⟩, ⟨(some 15), none, .load false 1 (.t 14)⟩, ⟨(some 16), none, .fieldA 1 (.t 3)⟩, ⟨(some 17), none, .idxA 5 1 (.t 16) (.t 15)⟩, ⟨(some 18), none, .load false 1 (.t 17)⟩, ⟨(some 19), none, .fieldA 1 (.t 2)⟩, ⟨(some 20), none, .idxA 5 1 (.t 19) (.t 11)⟩, ⟨none, none, .store 1 (.t 20) (.t 18)⟩])))
  (.ops [⟨(some 21), none, .bin .add (.t 8) (.c (.int .i64 1))⟩, ⟨(some 8), none, .mv (.t 21)⟩]))))
def k146 : KC := (.seq (.ops [⟨(some 2), none, .box false (.t 0)⟩, ⟨(some 3), none, .box true (.t 1)⟩, ⟨(some 4), none, .alloc [.int .i64 0, .int .i64 0, .int .i64 0, .int .i64 0, .int .i64 0, .int .i64 0]⟩])
  (.seq (.seq (.ops [⟨(some 6), none, .fieldA 0 (.t 2)⟩, ⟨(some 7), none, .load false 1 (.t 6)⟩, ⟨(some 8), none, .mv (.c (.int .i64 0))⟩])
  (.block 0 (.loop k146_b0)))
  (.seq (.ops [⟨(some 22), none, .load true 6 (.t 2)⟩, ⟨none, none, .store 6 (.t 4) (.t 22)⟩])
  .ret)))
theorem e146 {args : List PV} {σ : Heap} {K : PV → Heap → Prop} (hl : args.length ≤ 23) (h : Wf σ → (∀ a ∈ args, PV.upto σ.length a) → vc (mkCfg Try.prog mixed [3] 23 σ.length) k146 (FinK σ.length [.cell 4 true 6] K) (argEnv 0 args) σ) : ACall Try.prog 146 args σ K :=
  ACall_enter (C := mkCfg Try.prog mixed [3] 23 σ.length) (c := Try.f146.body.getD .skip) Try.func146 (by kernel_rfl) (by kernel_rfl) (by kernel_rfl) rfl hl (by kernel_rfl) (by kernel_rfl) h
end Go.Proofs.Ytpepbomifjbgnaa
namespace Go.Proofs.Ytpepbomifjbgnaa
open Go.Kv
set_option linter.unusedVariables false
set_option linter.unusedSimpArgs false
attribute [local irreducible] ACall PCall KL
theorem p142 (n : Nat) (h1 : 1 ≤ n) (h5 : n ≤ 5) : Pure Try.prog 142 [.int .i64 n] (.agg (ints (mp (List.range n)))) := by
  refine e142 (by simp) fun _ _ => ?_
  simp only [k142, argEnv, take6, List.drop_zero, Int.cast_ofNat_Int, go_sem, ↓reduceIte, Nat.reduceEqDiff, Nat.reduceAdd, Nat.reduceMul, Nat.reduceLeDiff, Nat.reduceLT, Int.reduceLE, Int.reduceLT, reduceCtorEq]
  refine KL_ind k142_b0.eq_1 (fun x : Nat => [(0, .int .i64 n), (2, .ptr 0 0), (3, .ptr 1 0), (4, .int .i64 x)]) (fun x => [.box (ints [0, 0, 0, 0, 0, 0]), .box (ints (mpN n (List.range x)))]) (fun x => x ≤ n) (fun x => n - x) [0, 2, 3, 4] 0 (by simp [keep]) (by rfl) (Nat.zero_le _) fun x hi ih => ?_
  have hl : (mpN n (List.range x)).length = 6 := mpN_length (by simp; omega)
  try simp only [hl, take6, List.drop_zero, Int.cast_ofNat_Int, go_sem, ↓reduceIte, Nat.reduceEqDiff, Nat.reduceAdd, Nat.reduceMul, Nat.reduceLeDiff, Nat.reduceLT, Int.reduceLE, Int.reduceLT, reduceCtorEq]
  refine ⟨fun h => ?_, fun h => ?_⟩
  · repeat' (first | refine And.intro ?_ ?_ | intro _)
    all_goals (try omega)
    refine ih (x + 1) (by omega) (by omega) _ _ (by rfl) ?_
    rw [mpN_pushI (by simp) (by simp; omega), ← List.range_succ]
  · obtain rfl : x = n := by omega
    refine Kv.Fin.still ⟨?_, rfl⟩
    simp [mp]
theorem mul_step {f g : List Nat} {n x : Nat} (hf : Ok f n) (h : x < n) : ((mul f g).take x ++ f.drop x).set x (g.getD (f.getD x 0) 0) = (mul f g).take (x + 1) ++ f.drop (x + 1) := by
  have hl := hf.len
  rw [List.set_append_right _ _ (by simp; omega), List.length_take, mul_length, Nat.min_eq_left (by omega), Nat.sub_self, List.drop_eq_getElem_cons (by omega), List.set_cons_zero, List.take_succ_eq_append_getElem (by simp; omega), List.append_assoc]
  simp [mul, List.getD_eq_getElem?_getD, hl, h]
theorem mul_mid {f g : List Nat} {n x : Nat} (hf : Ok f n) (h : x < n) : ((mul f g).take x ++ f.drop x).getD x 0 = f.getD x 0 := by
  have hl := hf.len
  rw [List.getD_eq_getElem?_getD, List.getElem?_append_right (by simp; omega), List.length_take, mul_length, Nat.min_eq_left (by omega), Nat.sub_self]
  simp [List.getD_eq_getElem?_getD]
theorem p146 (f g : List Nat) (n : Nat) (hf : Ok f n) (hg : Ok g n) : Pure Try.prog 146 [.agg (ints (mp f)), .agg (ints (mp g))] (.agg (ints (mp (mul f g)))) := by
  rw [hf.mp_eq, hg.mp_eq, (hf.mul hg).mp_eq]
  have hlg := hg.mp_eq ▸ hg.mp_len
  have hlf := hf.mp_eq ▸ hf.mp_len
  have hll := hf.len
  have h5 := hf.le
  refine e146 (by simp) fun _ _ => ?_
  simp only [k146, argEnv, hlf, hlg, take6, List.drop_zero, Int.cast_ofNat_Int, go_sem, ↓reduceIte, Nat.reduceEqDiff, Nat.reduceAdd, Nat.reduceMul, Nat.reduceLeDiff, Nat.reduceLT, Int.reduceLE, Int.reduceLT, reduceCtorEq]
  refine KL_ind k146_b0.eq_1 (fun x : Nat => [(2, .ptr 0 0), (3, .fptr (ints (mpN n g)) 0), (4, .ptr 1 0), (7, .int .i64 n), (8, .int .i64 x)]) (fun x => [.box (ints (mpN n ((mul f g).take x ++ f.drop x))), .box (ints [0, 0, 0, 0, 0, 0])]) (fun x => x ≤ n) (fun x => n - x) [2, 3, 4, 7, 8] 0 (by rfl) (by simp [ints]) (Nat.zero_le _) fun x hi ih => ?_
  have hl : (mpN n ((mul f g).take x ++ f.drop x)).length = 6 := mpN_length (by simp; omega)
  try simp only [hl, hlg, take6, List.drop_zero, Int.cast_ofNat_Int, go_sem, ↓reduceIte, Nat.reduceEqDiff, Nat.reduceAdd, Nat.reduceMul, Nat.reduceLeDiff, Nat.reduceLT, Int.reduceLE, Int.reduceLT, reduceCtorEq]
  refine ⟨fun h => ?_, fun h => ?_⟩
  · have hx : x < n := by omega
    rw [mul_mid hf hx]
    have := hf.get hx
    repeat' (first | refine And.intro ?_ ?_ | intro _)
    all_goals (try omega)
    refine ih (x + 1) (by omega) (by omega) _ _ (by rfl) ?_
    rw [mpN_set (by simp; omega), mul_step hf hx]
  · obtain rfl : x = n := by omega
    refine Kv.Fin.still ⟨?_, rfl⟩
    rw [List.take_of_length_le (by simp; omega), List.drop_of_length_le (by omega), List.append_nil]
theorem p117 (f g : List Nat) (n : Nat) (hf : Ok f n) (hg : Ok g n) : Pure Try.prog 117 [.agg (ints (mp f)), .agg (ints (mp g))] (.agg (ints (mp (mul f g)))) := by
  rw [hf.mp_eq, hg.mp_eq, (hf.mul hg).mp_eq]
  have hlg := hg.mp_eq ▸ hg.mp_len
  have hlf := hf.mp_eq ▸ hf.mp_len
  have hll := hf.len
  have h5 := hf.le
  refine e117 (by simp) fun _ _ => ?_
  simp only [k117, argEnv, hlf, hlg, take6, List.drop_zero, Int.cast_ofNat_Int, go_sem, ↓reduceIte, Nat.reduceEqDiff, Nat.reduceAdd, Nat.reduceMul, Nat.reduceLeDiff, Nat.reduceLT, Int.reduceLE, Int.reduceLT, reduceCtorEq]
  refine KL_ind k117_b0.eq_1 (fun x : Nat => [(2, .fptr (ints (mpN n f)) 0), (3, .fptr (ints (mpN n g)) 0), (4, .ptr 0 0), (5, .ptr 1 0), (6, .int .i64 x)]) (fun x => [.box (ints [0, 0, 0, 0, 0, 0]), .box (ints (mpN n ((mul f g).take x)))]) (fun x => x ≤ n) (fun x => n - x) [2, 3, 4, 5, 6] 0 (by rfl) (by simp [ints, mpN]) (Nat.zero_le _) fun x hi ih => ?_
  have hl : (mpN n ((mul f g).take x)).length = 6 := mpN_length (by simp; omega)
  try simp only [hl, hlg, hlf, take6, List.drop_zero, Int.cast_ofNat_Int, go_sem, ↓reduceIte, Nat.reduceEqDiff, Nat.reduceAdd, Nat.reduceMul, Nat.reduceLeDiff, Nat.reduceLT, Int.reduceLE, Int.reduceLT, reduceCtorEq]
  refine ⟨fun h => ?_, fun h => ?_⟩
  · have hx : x < n := by omega
    have := hf.get hx
    repeat' (first | refine And.intro ?_ ?_ | intro _)
    all_goals (try omega)
    refine ih (x + 1) (by omega) (by omega) _ _ (by rfl) ?_
    rw [mpN_pushI (by simp; omega) (by simp; omega), ← mul_get (by omega), List.take_succ_eq_append_getElem (by simp; omega)]
    simp [List.getD_eq_getElem?_getD, hx, hll]
  · obtain rfl : x = n := by omega
    refine Kv.Fin.still ⟨?_, rfl⟩
    rw [List.take_of_length_le (by simp; omega)]
theorem p100 (m : List Int) (h : m.length = 5) : Pure Try.prog 100 [.agg (ints m)] (.agg (ints m)) := by
  refine e100 (by simp) fun _ _ => ?_
  simp only [k100, argEnv, h, take6, List.drop_zero, Int.cast_ofNat_Int, go_sem, ↓reduceIte, Nat.reduceEqDiff, Nat.reduceAdd, Nat.reduceMul, Nat.reduceLeDiff, Nat.reduceLT, Int.reduceLE, Int.reduceLT, reduceCtorEq]
  refine KL_ind k100_b0.eq_1 (fun x : Nat => [(1, .fptr (ints m) 0), (2, .ptr 0 0), (3, .ptr 1 0), (4, .int .i64 x)]) (fun x => [.box (ints [0, 0, 0, 0, 0]), .box (ints (m.take x ++ List.replicate (5 - x) 0))]) (fun x => x ≤ 5) (fun x => 5 - x) [1, 2, 3, 4] 0 (by rfl) (by rfl) (Nat.zero_le _) fun x hx ih => ?_
  have hl : (m.take x ++ List.replicate (5 - x) 0).length = 5 := by simp; omega
  try simp only [hl, h, take6, List.drop_zero, Int.cast_ofNat_Int, go_sem, ↓reduceIte, Nat.reduceEqDiff, Nat.reduceAdd, Nat.reduceMul, Nat.reduceLeDiff, Nat.reduceLT, Int.reduceLE, Int.reduceLT, reduceCtorEq]
  refine ⟨fun h1 => ?_, fun h1 => ?_⟩
  · repeat' (first | refine And.intro ?_ ?_ | intro _)
    all_goals (try omega)
    refine ih (x + 1) (by omega) (by omega) _ _ (by rfl) ?_
    have := copy_step (l := m) (x := x) (by omega)
    rw [h] at this
    rw [this]
  · obtain rfl : x = 5 := by omega
    have e : m.take 5 ++ List.replicate (5 - 5) 0 = m := by simp [← h]
    rw [e]
    have e1 : m.take 5 = m := by simp [← h]
    have e2 : putC (ints [0, 0, 0, 0, 0]) 0 (ints m) = ints m := put5 (by simp [ints, h]) rfl
    try simp only [e1, e2, h, take6, List.drop_zero, Int.cast_ofNat_Int, go_sem, ↓reduceIte, Nat.reduceEqDiff, Nat.reduceAdd, Nat.reduceMul, Nat.reduceLeDiff, Nat.reduceLT, Int.reduceLE, Int.reduceLT, reduceCtorEq]
    exact Kv.Fin.still ⟨rfl, rfl⟩
theorem p53 (m : List Int) (h : m.length = 6) : Pure Try.prog 53 [.agg (ints m)] (.agg (ints m)) := by
  obtain ⟨a, b, c, d, e, g, rfl⟩ : ∃ a b c d e g, m = [a, b, c, d, e, g] := by
    match m, h with
    | [a, b, c, d, e, g], _ => exact ⟨a, b, c, d, e, g, rfl⟩
  refine e53 (by simp) fun _ _ => ?_
  simp only [k53, argEnv, h, take6, List.drop_zero, Int.cast_ofNat_Int, go_sem, ↓reduceIte, Nat.reduceEqDiff, Nat.reduceAdd, Nat.reduceMul, Nat.reduceLeDiff, Nat.reduceLT, Int.reduceLE, Int.reduceLT, reduceCtorEq]
  refine (p100 [b, c, d, e, g] rfl).go ?_
  try simp only [take6, List.drop_zero, Int.cast_ofNat_Int, go_sem, ↓reduceIte, Nat.reduceEqDiff, Nat.reduceAdd, Nat.reduceMul, Nat.reduceLeDiff, Nat.reduceLT, Int.reduceLE, Int.reduceLT, reduceCtorEq]
  exact Kv.Fin.still ⟨rfl, rfl⟩
theorem p102 (m : List Int) (h : m.length = 6) : Pure Try.prog 102 [.agg (ints m)] (.bool (isM m)) := by
  refine e102 (by simp) fun _ _ => ?_
  simp only [k102, argEnv, h, take6, List.drop_zero, Int.cast_ofNat_Int, go_sem, ↓reduceIte, Nat.reduceEqDiff, Nat.reduceAdd, Nat.reduceMul, Nat.reduceLeDiff, Nat.reduceLT, Int.reduceLE, Int.reduceLT, reduceCtorEq]
  refine (p91 _ _ _).go ?_
  try simp only [take6, List.drop_zero, Int.cast_ofNat_Int, go_sem, ↓reduceIte, Nat.reduceEqDiff, Nat.reduceAdd, Nat.reduceMul, Nat.reduceLeDiff, Nat.reduceLT, Int.reduceLE, Int.reduceLT, reduceCtorEq]
  refine ⟨fun h1 => Kv.Fin.now ⟨by simp only [isM]; rw [decide_eq_false h1]; rfl, rfl⟩, fun h1 => ?_⟩
  refine ⟨by omega, ?_⟩
  have h2 : 1 ≤ m.getD 0 0 ∧ m.getD 0 0 ≤ 5 := by simpa using h1
  have hd : decide (1 ≤ m.getD 0 0 ∧ m.getD 0 0 ≤ 5) = true := by simpa using h2
  refine KL_ind k102_b0.eq_1 (fun x : Nat => [(1, .fptr (ints m) 0), (10, .agg (ints ((m.drop 1).take 5))), (11, .int .i64 x)]) (fun x => []) (fun x => x ≤ 5 ∧ (List.range x).all (okP m) = true) (fun x => 5 - x) [1, 10, 11] 0 (by rfl) (by rfl) ⟨Nat.zero_le _, rfl⟩ fun x ⟨hx, hall⟩ ih => ?_
  have ht : ((m.drop 1).take 5).length = 5 := by simp [h]
  have hg : x < 5 → ((m.drop 1).take 5).getD x 0 = m.getD (x + 1) 0 := fun hx => by
    simp [List.getD_eq_getElem?_getD, List.getElem?_take, hx, Nat.add_comm]
  have hs : okP m x = true → (List.range (x + 1)).all (okP m) = true := fun hp => by rw [all_range_succ, hall, hp]; rfl
  have hb : x < 5 → okP m x = false → isM m = false := fun hx hp => by rw [isM, not_range hx hp, Bool.and_false]
  by_cases hc : (x : Int) < m.getD 0 0
  · try simp only [h, hc, ht, take6, List.drop_zero, Int.cast_ofNat_Int, go_sem, ↓reduceIte, Nat.reduceEqDiff, Nat.reduceAdd, Nat.reduceMul, Nat.reduceLeDiff, Nat.reduceLT, Int.reduceLE, Int.reduceLT, reduceCtorEq]
    refine ⟨fun h3 => ?_, fun h3 => by omega⟩
    rw [hg (by omega)]
    refine ⟨by omega, by omega, fun _ => ⟨by omega, ?_⟩⟩
    refine (p91 _ _ _).go ?_
    try simp only [take6, List.drop_zero, Int.cast_ofNat_Int, go_sem, ↓reduceIte, Nat.reduceEqDiff, Nat.reduceAdd, Nat.reduceMul, Nat.reduceLeDiff, Nat.reduceLT, Int.reduceLE, Int.reduceLT, reduceCtorEq]
    have he : okP m x = decide (0 ≤ m.getD (x + 1) 0 ∧ m.getD (x + 1) 0 ≤ m.getD 0 0 - 1) := by rw [okP, if_pos hc]
    refine ⟨fun h4 => ?_, fun h4 => ?_⟩
    · have hc3 : ¬ m.getD 0 0 ≤ x := by omega
      try simp only [hc3, take6, List.drop_zero, Int.cast_ofNat_Int, go_sem, ↓reduceIte, Nat.reduceEqDiff, Nat.reduceAdd, Nat.reduceMul, Nat.reduceLeDiff, Nat.reduceLT, Int.reduceLE, Int.reduceLT, reduceCtorEq]
      repeat' (first | refine And.intro ?_ ?_ | intro _)
      all_goals (try omega)
      exact ih (x + 1) ⟨by omega, hs (by rw [he]; exact decide_eq_true h4)⟩ (by omega) _ _ (by rfl) rfl
    · exact Kv.Fin.now ⟨by rw [hb (by omega) (by rw [he]; exact decide_eq_false h4)], rfl⟩
  · have hc2 : m.getD 0 0 ≤ x := by omega
    have he : okP m x = decide (m.getD (x + 1) 0 = 0) := by rw [okP, if_neg hc]
    try simp only [h, hc, hc2, ht, take6, List.drop_zero, Int.cast_ofNat_Int, go_sem, ↓reduceIte, Nat.reduceEqDiff, Nat.reduceAdd, Nat.reduceMul, Nat.reduceLeDiff, Nat.reduceLT, Int.reduceLE, Int.reduceLT, reduceCtorEq]
    refine ⟨fun h3 => ?_, fun h3 => ?_⟩
    · rw [hg (by omega)]
      refine ⟨by omega, by omega, fun _ => ⟨fun h4 => ?_, fun h4 => ?_⟩⟩
      · exact Kv.Fin.now ⟨by rw [hb (by omega) (by rw [he]; exact decide_eq_false h4)], rfl⟩
      · repeat' (first | refine And.intro ?_ ?_ | intro _)
        all_goals (try omega)
        exact ih (x + 1) ⟨by omega, hs (by rw [he]; exact decide_eq_true h4)⟩ (by omega) _ _ (by rfl) rfl
    · obtain rfl : x = 5 := by omega
      exact Kv.Fin.now ⟨by rw [isM, hd, hall]; rfl, rfl⟩
theorem p98 (m : List Int) (h : m.length = 6) : Pure Try.prog 98 [.agg (ints m)] (.bool (isM m)) := by
  refine e98 (by simp) fun _ _ => ?_
  simp only [k98, argEnv, h, take6, List.drop_zero, Int.cast_ofNat_Int, go_sem, ↓reduceIte, Nat.reduceEqDiff, Nat.reduceAdd, Nat.reduceMul, Nat.reduceLeDiff, Nat.reduceLT, Int.reduceLE, Int.reduceLT, reduceCtorEq]
  refine (p90 _ _ _).go ?_
  try simp only [take6, List.drop_zero, Int.cast_ofNat_Int, go_sem, ↓reduceIte, Nat.reduceEqDiff, Nat.reduceAdd, Nat.reduceMul, Nat.reduceLeDiff, Nat.reduceLT, Int.reduceLE, Int.reduceLT, reduceCtorEq]
  refine ⟨fun h1 => Kv.Fin.now ⟨by simp only [isM]; rw [decide_eq_false h1]; rfl, rfl⟩, fun h1 => ?_⟩
  have h2 : 1 ≤ m.getD 0 0 ∧ m.getD 0 0 ≤ 5 := by simpa using h1
  have hd : decide (1 ≤ m.getD 0 0 ∧ m.getD 0 0 ≤ 5) = true := by simpa using h2
  refine KL_ind k98_b0.eq_1 (fun x : Nat => [(1, .fptr (ints m) 0), (3, .int .i64 x)]) (fun x => []) (fun x => x ≤ 5 ∧ (List.range x).all (okP m) = true) (fun x => 5 - x) [1, 3] 0 (by rfl) (by rfl) ⟨Nat.zero_le _, rfl⟩ fun x ⟨hx, hall⟩ ih => ?_
  have hs : okP m x = true → (List.range (x + 1)).all (okP m) = true := fun hp => by rw [all_range_succ, hall, hp]; rfl
  have hb : x < 5 → okP m x = false → isM m = false := fun hx hp => by rw [isM, not_range hx hp, Bool.and_false]
  by_cases hc : (x : Int) < m.getD 0 0
  · try simp only [h, hc, take6, List.drop_zero, Int.cast_ofNat_Int, go_sem, ↓reduceIte, Nat.reduceEqDiff, Nat.reduceAdd, Nat.reduceMul, Nat.reduceLeDiff, Nat.reduceLT, Int.reduceLE, Int.reduceLT, reduceCtorEq]
    refine ⟨fun h3 => ?_, fun h3 => by omega⟩
    refine ⟨by omega, by omega, fun _ => ⟨by omega, ?_⟩⟩
    refine (p90 _ _ _).pgo ?_
    try simp only [take6, List.drop_zero, Int.cast_ofNat_Int, go_sem, ↓reduceIte, Nat.reduceEqDiff, Nat.reduceAdd, Nat.reduceMul, Nat.reduceLeDiff, Nat.reduceLT, Int.reduceLE, Int.reduceLT, reduceCtorEq]
    have he : okP m x = decide (0 ≤ m.getD (x + 1) 0 ∧ m.getD (x + 1) 0 ≤ m.getD 0 0 - 1) := by rw [okP, if_pos hc]
    refine ⟨fun h4 => ?_, fun h4 => ?_⟩
    · have hc3 : ¬ m.getD 0 0 ≤ x := by omega
      try simp only [hc3, take6, List.drop_zero, Int.cast_ofNat_Int, go_sem, ↓reduceIte, Nat.reduceEqDiff, Nat.reduceAdd, Nat.reduceMul, Nat.reduceLeDiff, Nat.reduceLT, Int.reduceLE, Int.reduceLT, reduceCtorEq]
      repeat' (first | refine And.intro ?_ ?_ | intro _)
      all_goals (try omega)
      exact ih (x + 1) ⟨by omega, hs (by rw [he]; exact decide_eq_true h4)⟩ (by omega) _ _ (by rfl) rfl
    · exact Kv.Fin.now ⟨by rw [hb (by omega) (by rw [he]; exact decide_eq_false h4)], rfl⟩
  · have hc2 : m.getD 0 0 ≤ x := by omega
    have he : okP m x = decide (m.getD (x + 1) 0 = 0) := by rw [okP, if_neg hc]
    try simp only [h, hc, hc2, take6, List.drop_zero, Int.cast_ofNat_Int, go_sem, ↓reduceIte, Nat.reduceEqDiff, Nat.reduceAdd, Nat.reduceMul, Nat.reduceLeDiff, Nat.reduceLT, Int.reduceLE, Int.reduceLT, reduceCtorEq]
    refine ⟨fun h3 => ?_, fun h3 => ?_⟩
    · refine ⟨by omega, by omega, fun _ => ⟨fun h4 => ?_, fun h4 => ?_⟩⟩
      · exact Kv.Fin.now ⟨by rw [hb (by omega) (by rw [he]; exact decide_eq_false h4)], rfl⟩
      · repeat' (first | refine And.intro ?_ ?_ | intro _)
        all_goals (try omega)
        exact ih (x + 1) ⟨by omega, hs (by rw [he]; exact decide_eq_true h4)⟩ (by omega) _ _ (by rfl) rfl
    · obtain rfl : x = 5 := by omega
      exact Kv.Fin.now ⟨by rw [isM, hd, hall]; rfl, rfl⟩
end Go.Proofs.Ytpepbomifjbgnaa
