/- Least forms of maps: both sides of LeastForm and AreSameShape. -/
import Derived.Test.YtpfapiiinkkcgaaGreatCb
import Derived.Test.YtpfapiiinkkcgaaGreatIN
namespace Go.Proofs.YtpfapiiinkkcgaaGreat
open Go.Kv
set_option maxRecDepth 100000
/- impl.leastForm -/
/- live [2, 4, 5, 10, 11, 12] -/
def k80_b0 : KC := (.seq (.ops [⟨(some 13), none, .bin .lss (.t 12) (.t 11)⟩])
  (.seq (.cond (.t 13) .skip (.exit 0))
  (.seq (.block 1 (.seq (.ops [⟨(some 14), none, .idxS 6 (.t 10) (.t 12)⟩, ⟨(some 15), none, .load true 6 (.t 14)⟩, ⟨(some 7), none, .alloc [.int .i64 0, .int .i64 0, .int .i64 0, .int .i64 0, .int .i64 0, .int .i64 0]⟩, ⟨none, none, .store 6 (.t 7) (.t 15)⟩])
  (.seq (.ops [⟨(some 16), none, .load true 6 (.t 2)⟩, ⟨(some 17), none, .load true 6 (.t 7)⟩, ⟨(some 18), none, .call (.c (.fn (.func 139) [] [])) [(.t 16), (.t 17)]⟩, ⟨(some 8), none, .alloc [.int .i64 0, .int .i64 0, .int .i64 0, .int .i64 0, .int .i64 0, .int .i64 0]⟩, ⟨none, none, .store 6 (.t 8) (.t 18)⟩])
  (.seq (.ops [⟨(some 19), none, .load true 6 (.t 8)⟩, ⟨(some 20), none, .load true 6 (.t 5)⟩, ⟨(some 21), none, .call (.c (.fn (.func 140) [] [])) [(.t 19), (.t 20)]⟩, ⟨(some 22), none, .bin .lss (.t 21) (.c (.int .i64 0))⟩])
  (.cond (.t 22) (.ops [⟨(some 23), none, .load true 6 (.t 8)⟩, ⟨none, none, .store 6 (.t 5) (.t 23)⟩]) .skip)))))
  (.ops [⟨(some 24), none, .bin .add (.t 12) (.c (.int .i64 1))⟩, ⟨(some 12), none, .mv (.t 24)⟩]))))
def k80 : KC := (.seq (.ops [⟨(some 2), none, .box true (.t 0)⟩, ⟨(some 4), none, .alloc [.int .i64 0, .int .i64 0, .int .i64 0, .int .i64 0, .int .i64 0, .int .i64 0]⟩])
  (.seq (.ops [⟨(some 9), none, .load true 6 (.t 2)⟩, ⟨(some 5), none, .alloc [.int .i64 0, .int .i64 0, .int .i64 0, .int .i64 0, .int .i64 0, .int .i64 0]⟩, ⟨none, none, .store 6 (.t 5) (.t 9)⟩])
  (.seq (.seq (.ops [⟨(some 10), none, .mv (.t 1)⟩, ⟨(some 11), none, .len false (.t 10)⟩, ⟨(some 12), none, .mv (.c (.int .i64 0))⟩])
  (.block 0 (.loop k80_b0)))
  (.seq (.ops [⟨(some 25), none, .load true 6 (.t 5)⟩, ⟨none, none, .store 6 (.t 4) (.t 25)⟩])
  .ret))))
theorem e80 {args : List PV} {σ : Heap} {K : PV → Heap → Prop} (hl : args.length ≤ 26) (h : Wf σ → (∀ a ∈ args, PV.upto σ.length a) → vc (mkCfg Tryz.prog mixed [2] 26 σ.length) k80 (FinK σ.length [.cell 4 true 6] K) (argEnv 0 args) σ) : ACall Tryz.prog 80 args σ K :=
  ACall_enter (C := mkCfg Tryz.prog mixed [2] 26 σ.length) (c := Tryz.f80.body.getD .skip) Tryz.func80 (by kernel_rfl) (by kernel_rfl) (by kernel_rfl) rfl hl (by kernel_rfl) (by kernel_rfl) h
/- spec.l09Least -/
/- live [1, 2, 4, 5, 6] -/
def k128_b0 : KC := (.seq (.seq (.ops [⟨(some 9), none, .mv (.t 6)⟩, ⟨(some 10), none, .mv (.t 1)⟩, ⟨(some 11), none, .len false (.t 10)⟩, ⟨(some 12), none, .bin .lss (.t 9) (.t 11)⟩])
  (.cond (.t 12) .skip (.exit 0)))
  (.seq (.block 1 (.seq (.draw [⟨(some 15), none, .load true 6 (.t 2)⟩, ⟨(some 16), none, .mv (.t 1)⟩, ⟨(some 17), none, .mv (.t 6)⟩, ⟨(some 18), none, .idxS 6 (.t 16) (.t 17)⟩, ⟨(some 19), none, .load true 6 (.t 18)⟩, ⟨(some 20), none, .pcall (.c (.fn (.func 83) [] [])) [(.t 15), (.t 19)]⟩, ⟨(some 7), none, .alloc [.int .i64 0, .int .i64 0, .int .i64 0, .int .i64 0, .int .i64 0, .int .i64 0]⟩, ⟨none, none, .store 6 (.t 7) (.t 20)⟩])
  (.seq (.ops [⟨(some 21), none, .load true 6 (.t 7)⟩, ⟨(some 22), none, .load true 6 (.t 5)⟩, ⟨(some 23), none, .call (.c (.fn (.func 170) [] [])) [(.t 21), (.t 22)]⟩])
  (.cond (.t 23) (.ops [⟨(some 24), none, .load true 6 (.t 7)⟩, ⟨none, none, .store 6 (.t 5) (.t 24)⟩]) .skip))))
  (.ops [⟨(some 13), none, .mv (.t 6)⟩, ⟨(some 14), none, .bin .add (.t 13) (.c (.int .i64 1))⟩, ⟨(some 6), none, .mv (.t 14)⟩])))
def k128 : KC := (.seq (.ops [⟨(some 2), none, .box true (.t 0)⟩, ⟨(some 4), none, .alloc [.int .i64 0, .int .i64 0, .int .i64 0, .int .i64 0, .int .i64 0, .int .i64 0]⟩])
  (.seq (.ops [⟨(some 8), none, .load true 6 (.t 2)⟩, ⟨(some 5), none, .alloc [.int .i64 0, .int .i64 0, .int .i64 0, .int .i64 0, .int .i64 0, .int .i64 0]⟩, ⟨none, none, .store 6 (.t 5) (.t 8)⟩])
  (.seq (.seq (.ops [⟨(some 6), none, .mv (.c (.int .i64 0))⟩])
  (.block 0 (.loop k128_b0)))
  (.seq (.ops [⟨(some 25), none, .load true 6 (.t 5)⟩, ⟨none, none, .store 6 (.t 4) (.t 25)⟩])
  .ret))))
theorem e128 {args : List PV} {σ : Heap} {K : PV → Heap → Prop} (hl : args.length ≤ 26) (h : Wf σ → (∀ a ∈ args, PV.upto σ.length a) → vc (mkCfg Tryz.prog mixed [2] 26 σ.length) k128 (FinK σ.length [.cell 4 true 6] K) (argEnv 0 args) σ) : ACall Tryz.prog 128 args σ K :=
  ACall_enter (C := mkCfg Tryz.prog mixed [2] 26 σ.length) (c := Tryz.f128.body.getD .skip) Tryz.func128 (by kernel_rfl) (by kernel_rfl) (by kernel_rfl) rfl hl (by kernel_rfl) (by kernel_rfl) h
/- impl.LeastForm -/
def k50 : KC := (.seq (.ops [⟨(some 1), none, .box true (.t 0)⟩, ⟨(some 2), none, .alloc [.int .i64 0, .int .i64 0, .int .i64 0, .int .i64 0, .int .i64 0, .int .i64 0]⟩, ⟨(some 3), none, .mv (.c (.int .i64 0))⟩])
  (.seq (.seq (.ops [⟨(some 4), none, .load true 6 (.t 1)⟩, ⟨(some 5), none, .call (.c (.fn (.func 85) [] [])) [(.t 4)]⟩, ⟨(some 6), none, .not (.t 5)⟩])
  (.cond (.t 6) (.seq (.ops [⟨(some 7), none, .build [.int .i64 0, .int .i64 0, .int .i64 0, .int .i64 0, .int .i64 0, .int .i64 0] []⟩, ⟨none, none, .store 6 (.t 2) (.t 7)⟩, ⟨(some 3), none, .mv (.c (.int .i64 1))⟩])
  .ret) .skip))
  (.seq (.draw [⟨(some 8), none, .load true 6 (.t 1)⟩, ⟨(some 9), none, .fieldA 0 (.t 1)⟩, ⟨(some 10), none, .load false 1 (.t 9)⟩, ⟨(some 11), none, .pcall (.c (.fn (.func 78) [] [])) [(.t 10)]⟩, ⟨(some 12), none, .pcall (.c (.fn (.func 80) [] [])) [(.t 8), (.t 11)]⟩, ⟨none, none, .store 6 (.t 2) (.t 12)⟩, ⟨(some 3), none, .mv (.c (.int .i64 0))⟩])
  .ret)))
theorem e50 {args : List PV} {σ : Heap} {K : PV → Heap → Prop} (hl : args.length ≤ 13) (h : Wf σ → (∀ a ∈ args, PV.upto σ.length a) → vc (mkCfg Tryz.prog mixed [1] 13 σ.length) k50 (FinK σ.length [.cell 2 true 6, .t 3] K) (argEnv 0 args) σ) : ACall Tryz.prog 50 args σ K :=
  ACall_enter (C := mkCfg Tryz.prog mixed [1] 13 σ.length) (c := Tryz.f50.body.getD .skip) Tryz.func50 (by kernel_rfl) (by kernel_rfl) (by kernel_rfl) rfl hl (by kernel_rfl) (by kernel_rfl) h
/- spec.LeastForm -/
def k64 : KC := (.seq (.ops [⟨(some 1), none, .box true (.t 0)⟩, ⟨(some 2), none, .alloc [.int .i64 0, .int .i64 0, .int .i64 0, .int .i64 0, .int .i64 0, .int .i64 0]⟩, ⟨(some 3), none, .mv (.c (.int .i64 0))⟩])
  (.seq (.seq (.ops [⟨(some 4), none, .load true 6 (.t 1)⟩, ⟨(some 5), none, .call (.c (.fn (.func 89) [] [])) [(.t 4)]⟩, ⟨(some 6), none, .not (.t 5)⟩])
  (.cond (.t 6) (.seq (.ops [⟨(some 7), none, .build [.int .i64 0, .int .i64 0, .int .i64 0, .int .i64 0, .int .i64 0, .int .i64 0] []⟩, ⟨none, none, .store 6 (.t 2) (.t 7)⟩, ⟨(some 3), none, .mv (.c (.int .i64 1))⟩])
  .ret) .skip))
  (.seq (.draw [⟨(some 8), none, .load true 6 (.t 1)⟩, ⟨(some 9), none, .fieldA 0 (.t 1)⟩, ⟨(some 10), none, .load false 1 (.t 9)⟩, ⟨(some 11), none, .bsl true 2 1 []⟩, ⟨(some 12), none, .pcall (.c (.fn (.func 81) [] [])) [(.t 10), (.t 11)]⟩, ⟨(some 13), none, .pcall (.c (.fn (.func 128) [] [])) [(.t 8), (.t 12)]⟩, ⟨none, none, .store 6 (.t 2) (.t 13)⟩, ⟨(some 3), none, .mv (.c (.int .i64 0))⟩])
  .ret)))
theorem e64 {args : List PV} {σ : Heap} {K : PV → Heap → Prop} (hl : args.length ≤ 14) (h : Wf σ → (∀ a ∈ args, PV.upto σ.length a) → vc (mkCfg Tryz.prog mixed [1, 11] 14 σ.length) k64 (FinK σ.length [.cell 2 true 6, .t 3] K) (argEnv 0 args) σ) : ACall Tryz.prog 64 args σ K :=
  ACall_enter (C := mkCfg Tryz.prog mixed [1, 11] 14 σ.length) (c := Tryz.f64.body.getD .skip) Tryz.func64 (by kernel_rfl) (by kernel_rfl) (by kernel_rfl) rfl hl (by kernel_rfl) (by kernel_rfl) h
/- impl.AreSameShape -/
def k48 : KC := (.seq (.ops [⟨(some 2), none, .box true (.t 0)⟩, ⟨(some 3), none, .box true (.t 1)⟩, ⟨(some 4), none, .mv (.c (.bool false))⟩, ⟨(some 5), none, .mv (.c (.int .i64 0))⟩])
  (.seq (.seq (.ops [⟨(some 8), none, .load true 6 (.t 2)⟩, ⟨(some 9), none, .load true 6 (.t 3)⟩, ⟨(some 10), none, .call (.c (.fn (.func 117) [] [])) [(.t 8), (.t 9)]⟩, ⟨(some 6), none, .mv (.t 10)⟩])
  (.seq (.ops [⟨(some 11), none, .mv (.t 6)⟩, ⟨(some 12), none, .bin .neq (.t 11) (.c (.int .i64 0))⟩])
  (.cond (.t 12) (.seq (.ops [⟨(some 13), none, .mv (.t 6)⟩, ⟨(some 4), none, .mv (.c (.bool false))⟩, ⟨(some 5), none, .mv (.t 13)⟩])
  .ret) .skip)))
  (.seq (.ops [⟨(some 14), none, .fieldA 0 (.t 2)⟩, ⟨(some 15), none, .load false 1 (.t 14)⟩, ⟨(some 16), none, .call (.c (.fn (.func 78) [] [])) [(.t 15)]⟩, ⟨(some 7), none, .mv (.t 16)⟩])
  (.seq (.draw [⟨(some 17), none, .load true 6 (.t 2)⟩, ⟨(some 18), none, .mv (.t 7)⟩, ⟨(some 20), none, .load true 6 (.t 3)⟩, ⟨(some 21), none, .mv (.t 7)⟩, ⟨(some 19), none, .pcall (.c (.fn (.func 80) [] [])) [(.t 17), (.t 18)]⟩, ⟨(some 22), none, .pcall (.c (.fn (.func 80) [] [])) [(.t 20), (.t 21)]⟩, ⟨(some 23), none, .aeq false 6 (.t 19) (.t 22)⟩, ⟨(some 4), none, .mv (.t 23)⟩, ⟨(some 5), none, .mv (.c (.int .i64 0))⟩])
  .ret))))
theorem e48 {args : List PV} {σ : Heap} {K : PV → Heap → Prop} (hl : args.length ≤ 24) (h : Wf σ → (∀ a ∈ args, PV.upto σ.length a) → vc (mkCfg Tryz.prog mixed [2, 3] 24 σ.length) k48 (FinK σ.length [.t 4, .t 5] K) (argEnv 0 args) σ) : ACall Tryz.prog 48 args σ K :=
  ACall_enter (C := mkCfg Tryz.prog mixed [2, 3] 24 σ.length) (c := Tryz.f48.body.getD .skip) Tryz.func48 (by kernel_rfl) (by kernel_rfl) (by kernel_rfl) rfl hl (by kernel_rfl) (by kernel_rfl) h
/- spec.AreSameShape -/
def k49 : KC := (.seq (.ops [⟨(some 2), none, .box true (.t 0)⟩, ⟨(some 3), none, .box true (.t 1)⟩, ⟨(some 4), none, .mv (.c (.bool false))⟩, ⟨(some 5), none, .mv (.c (.int .i64 0))⟩])
  (.seq (.seq (.ops [⟨(some 8), none, .load true 6 (.t 2)⟩, ⟨(some 9), none, .load true 6 (.t 3)⟩, ⟨(some 10), none, .call (.c (.fn (.func 127) [] [])) [(.t 8), (.t 9)]⟩, ⟨(some 6), none, .mv (.t 10)⟩])
  (.seq (.ops [⟨(some 11), none, .mv (.t 6)⟩, ⟨(some 12), none, .bin .neq (.t 11) (.c (.int .i64 0))⟩])
  (.cond (.t 12) (.seq (.ops [⟨(some 13), none, .mv (.t 6)⟩, ⟨(some 4), none, .mv (.c (.bool false))⟩, ⟨(some 5), none, .mv (.t 13)⟩])
  .ret) .skip)))
  (.seq (.ops [⟨(some 14), none, .fieldA 0 (.t 2)⟩, ⟨(some 15), none, .load false 1 (.t 14)⟩, ⟨(some 16), none, .bsl false 2 1 []⟩, ⟨(some 17), none, .call (.c (.fn (.func 81) [] [])) [(.t 15), (.t 16)]⟩, ⟨(some 7), none, .mv (.t 17)⟩])
  (.seq (.draw [⟨(some 18), none, .load true 6 (.t 2)⟩, ⟨(some 19), none, .mv (.t 7)⟩, ⟨(some 21), none, .load true 6 (.t 3)⟩, ⟨(some 22), none, .mv (.t 7)⟩, ⟨(some 20), none, .pcall (.c (.fn (.func 128) [] [])) [(.t 18), (.t 19)]⟩, ⟨(some 23), none, .pcall (.c (.fn (.func 128) [] [])) [(.t 21), (.t 22)]⟩, ⟨(some 24), none, .aeq false 6 (.t 20) (.t 23)⟩, ⟨(some 4), none, .mv (.t 24)⟩, ⟨(some 5), none, .mv (.c (.int .i64 0))⟩])
  .ret))))
theorem e49 {args : List PV} {σ : Heap} {K : PV → Heap → Prop} (hl : args.length ≤ 25) (h : Wf σ → (∀ a ∈ args, PV.upto σ.length a) → vc (mkCfg Tryz.prog mixed [2, 3] 25 σ.length) k49 (FinK σ.length [.t 4, .t 5] K) (argEnv 0 args) σ) : ACall Tryz.prog 49 args σ K :=
  ACall_enter (C := mkCfg Tryz.prog mixed [2, 3] 25 σ.length) (c := Tryz.f49.body.getD .skip) Tryz.func49 (by kernel_rfl) (by kernel_rfl) (by kernel_rfl) rfl hl (by kernel_rfl) (by kernel_rfl) h
/- impl.pairCode -/
def k117 : KC := (.seq (.ops [⟨(some 2), none, .box true (.t 0)⟩, ⟨(some 3), none, .box true (.t 1)⟩, ⟨(some 4), none, .mv (.c (.int .i64 0))⟩])
  (.seq (.block 0 (.seq (.ops [⟨(some 6), none, .load true 6 (.t 2)⟩, ⟨(some 7), none, .call (.c (.fn (.func 85) [] [])) [(.t 6)]⟩, ⟨(some 8), none, .not (.t 7)⟩, ⟨(some 9), none, .mv (.t 8)⟩, ⟨(some 10), some (9, false), .load true 6 (.t 3)⟩, ⟨(some 11), some (9, false), .call (.c (.fn (.func 85) [] [])) [(.t 10)]⟩, ⟨(some 12), some (9, false), .not (.t 11)⟩, ⟨(some 13), none, .pick (.t 9) (.c (.bool true)) (.t 12)⟩, ⟨(some 5), none, .mv (.t 13)⟩])
  (.cond (.t 5) (.seq (.ops [⟨(some 4), none, .mv (.c (.int .i64 1))⟩])
  .ret) (.seq (.ops [⟨(some 15), none, .fieldA 0 (.t 2)⟩, ⟨(some 16), none, .load false 1 (.t 15)⟩, ⟨(some 17), none, .fieldA 0 (.t 3)⟩, ⟨(some 18), none, .load false 1 (.t 17)⟩, ⟨(some 19), none, .bin .neq (.t 16) (.t 18)⟩, ⟨(some 14), none, .mv (.t 19)⟩])
  (.cond (.t 14) (.seq (.ops [⟨(some 4), none, .mv (.c (.int .i64 2))⟩])
  .ret) .skip)))))
  (.seq (.ops [⟨(some 4), none, .mv (.c (.int .i64 0))⟩])
  .ret)))
theorem e117 {args : List PV} {σ : Heap} {K : PV → Heap → Prop} (hl : args.length ≤ 20) (h : Wf σ → (∀ a ∈ args, PV.upto σ.length a) → vc (mkCfg Tryz.prog mixed [2, 3] 20 σ.length) k117 (FinK σ.length [.t 4] K) (argEnv 0 args) σ) : ACall Tryz.prog 117 args σ K :=
  ACall_enter (C := mkCfg Tryz.prog mixed [2, 3] 20 σ.length) (c := Tryz.f117.body.getD .skip) Tryz.func117 (by kernel_rfl) (by kernel_rfl) (by kernel_rfl) rfl hl (by kernel_rfl) (by kernel_rfl) h
/- spec.l01Like -/
def k127 : KC := (.seq (.ops [⟨(some 2), none, .box true (.t 0)⟩, ⟨(some 3), none, .box true (.t 1)⟩, ⟨(some 4), none, .mv (.c (.int .i64 0))⟩])
  (.seq (.block 0 (.seq (.ops [⟨(some 6), none, .load true 6 (.t 2)⟩, ⟨(some 7), none, .call (.c (.fn (.func 89) [] [])) [(.t 6)]⟩, ⟨(some 8), none, .not (.t 7)⟩, ⟨(some 9), none, .mv (.t 8)⟩, ⟨(some 10), some (9, false), .load true 6 (.t 3)⟩, ⟨(some 11), some (9, false), .call (.c (.fn (.func 89) [] [])) [(.t 10)]⟩, ⟨(some 12), some (9, false), .not (.t 11)⟩, ⟨(some 13), none, .pick (.t 9) (.c (.bool true)) (.t 12)⟩, ⟨(some 5), none, .mv (.t 13)⟩])
  (.cond (.t 5) (.seq (.ops [⟨(some 4), none, .mv (.c (.int .i64 1))⟩])
  .ret) (.seq (.ops [⟨(some 15), none, .fieldA 0 (.t 2)⟩, ⟨(some 16), none, .load false 1 (.t 15)⟩, ⟨(some 17), none, .fieldA 0 (.t 3)⟩, ⟨(some 18), none, .load false 1 (.t 17)⟩, ⟨(some 19), none, .bin .neq (.t 16) (.t 18)⟩, ⟨(some 14), none, .mv (.t 19)⟩])
  (.cond (.t 14) (.seq (.ops [⟨(some 4), none, .mv (.c (.int .i64 2))⟩])
  .ret) .skip)))))
  (.seq (.ops [⟨(some 4), none, .mv (.c (.int .i64 0))⟩])
  .ret)))
theorem e127 {args : List PV} {σ : Heap} {K : PV → Heap → Prop} (hl : args.length ≤ 20) (h : Wf σ → (∀ a ∈ args, PV.upto σ.length a) → vc (mkCfg Tryz.prog mixed [2, 3] 20 σ.length) k127 (FinK σ.length [.t 4] K) (argEnv 0 args) σ) : ACall Tryz.prog 127 args σ K :=
  ACall_enter (C := mkCfg Tryz.prog mixed [2, 3] 20 σ.length) (c := Tryz.f127.body.getD .skip) Tryz.func127 (by kernel_rfl) (by kernel_rfl) (by kernel_rfl) rfl hl (by kernel_rfl) (by kernel_rfl) h
end Go.Proofs.YtpfapiiinkkcgaaGreat
namespace Go.Proofs.YtpfapiiinkkcgaaGreat
open Go.Kv
set_option linter.unusedVariables false
set_option linter.unusedSimpArgs false
attribute [local irreducible] ACall PCall KL
/-- The least one of f and the renumbered ones. -/
def lsf (f : List Nat) (L : List (List Nat)) : List Nat := L.foldl (fun b p => if ltM (rnm f p) b = true then rnm f p else b) f
theorem lsf_succ (f : List Nat) (L : List (List Nat)) {x : Nat} (h : x < L.length) : lsf f (L.take (x + 1)) = if ltM (rnm f L[x]) (lsf f (L.take x)) = true then rnm f L[x] else lsf f (L.take x) := by
  unfold lsf
  rw [List.take_succ_eq_append_getElem h, List.foldl_append]
  rfl
theorem lsf_ok {f : List Nat} {n : Nat} (hf : Ok f n) : ∀ (x : Nat), x ≤ (prm n).length → Ok (lsf f ((prm n).take x)) n
  | 0, _ => by simpa [lsf] using hf
  | x + 1, h => by
    rw [lsf_succ f _ (by omega)]
    split
    · have hm : (prm n)[x] ∈ prm n := List.getElem_mem _
      exact rnm_ok hf (prm_ok hf.pos hf.le hm) (by have := (List.mem_filter.1 hm).2; simpa using this)
    · exact lsf_ok hf x (by omega)
theorem prm_nd {n : Nat} {p : List Nat} (h : p ∈ prm n) : p.Nodup := by
  have := (List.mem_filter.1 h).2; simpa using this
theorem p80 (f : List Nat) (n : Nat) (hf : Ok f n) : Pure Tryz.prog 80 [.agg (ints (mp f)), .list (aggs ((prm n).map mp))] (.agg (ints (mp (lsf f (prm n))))) := by
  have hlf := hf.mp_len
  have hpl := prm_len hf.pos hf.le
  refine e80 (by simp) fun _ _ => ?_
  simp only [k80, argEnv, hlf, List.length_map, take6, List.drop_zero, Int.cast_ofNat_Int, go_sem, ↓reduceIte, Nat.reduceEqDiff, Nat.reduceAdd, Nat.reduceMul, Nat.reduceLeDiff, Nat.reduceLT, Int.reduceLE, Int.reduceLT, reduceCtorEq]
  refine KL_indD k80_b0.eq_1 (fun x : Nat => [(2, .fptr (ints (mp f)) 0), (4, .ptr 0 0), (5, .ptr 1 0), (10, .list (aggs ((prm n).map mp))), (11, .int .i64 (prm n).length), (12, .int .i64 x)]) (fun x => [.box [.int .i64 0, .int .i64 0, .int .i64 0, .int .i64 0, .int .i64 0, .int .i64 0], .box (ints (mp (lsf f ((prm n).take x))))]) (fun x => x ≤ (prm n).length) (fun x => (prm n).length - x) [2, 4, 5, 10, 11, 12] 0 (by simp [keep]) ⟨[], by simp [lsf]⟩ (Nat.zero_le _) (fun x hx => ?_) fun x hx ih => ?_
  · exact ⟨Nat.zero_le _, Env.undr_upto (by simp [Env.undr, PV.undr, undrX_ints, undrX_aggs, undrL_ints]), .cons (by simp [AObj.undr, PV.undrL, PV.undr]) (.cons (by simp [AObj.undr, undrL_ints]) (.nil _))⟩
  have h6 := (lsf_ok hf x hx).mp_len
  try simp only [h6, List.length_map, take6, List.drop_zero, Int.cast_ofNat_Int, go_sem, ↓reduceIte, Nat.reduceEqDiff, Nat.reduceAdd, Nat.reduceMul, Nat.reduceLeDiff, Nat.reduceLT, Int.reduceLE, Int.reduceLT, reduceCtorEq]
  refine ⟨fun h1 => ?_, fun h1 => ?_⟩
  · have hxl : x < (prm n).length := by omega
    have hm : (prm n)[x] ∈ prm n := List.getElem_mem _
    have hp := prm_ok hf.pos hf.le hm
    have hlp := hp.mp_len
    have hr := rnm_ok hf hp (prm_nd hm)
    have hlr := hr.mp_len
    have e : ((prm n).map mp).getD x [] = mp (prm n)[x] := by simp [List.getD_eq_getElem?_getD, hxl]
    have hs := lsf_succ f (prm n) hxl
    rw [e]
    try simp only [hlf, hlp, h6, take6, List.drop_zero, Int.cast_ofNat_Int, go_sem, ↓reduceIte, Nat.reduceEqDiff, Nat.reduceAdd, Nat.reduceMul, Nat.reduceLeDiff, Nat.reduceLT, Int.reduceLE, Int.reduceLT, reduceCtorEq]
    refine ⟨by omega, fun _ => ?_⟩
    refine (p139 f _ n hf hp (prm_nd hm)).go ?_
    try simp only [hlr, h6, take6, List.drop_zero, Int.cast_ofNat_Int, go_sem, ↓reduceIte, Nat.reduceEqDiff, Nat.reduceAdd, Nat.reduceMul, Nat.reduceLeDiff, Nat.reduceLT, Int.reduceLE, Int.reduceLT, reduceCtorEq]
    refine (p140 _ _ n hr (lsf_ok hf x hx)).go ?_
    try simp only [hlr, h6, take6, List.drop_zero, Int.cast_ofNat_Int, go_sem, ↓reduceIte, Nat.reduceEqDiff, Nat.reduceAdd, Nat.reduceMul, Nat.reduceLeDiff, Nat.reduceLT, Int.reduceLE, Int.reduceLT, reduceCtorEq]
    refine ⟨fun h3 => ⟨by omega, ?_⟩, fun h3 => ⟨by omega, ?_⟩⟩
    · have hlt : ltM (rnm f (prm n)[x]) (lsf f ((prm n).take x)) = true := decide_eq_true h3
      rw [if_pos hlt] at hs
      exact ih (x + 1) (by omega) (by omega) _ _ (by simp [keep]) ⟨[_, _], by rw [hs]; rfl⟩
    · have hlt : ¬ ltM (rnm f (prm n)[x]) (lsf f ((prm n).take x)) = true := fun h => h3 (of_decide_eq_true h)
      rw [if_neg hlt] at hs
      exact ih (x + 1) (by omega) (by omega) _ _ (by simp [keep]) ⟨[_, _], by rw [hs]; rfl⟩
  · obtain rfl : x = (prm n).length := by omega
    rw [List.take_length] at h6 ⊢
    try simp only [h6, take6, List.drop_zero, Int.cast_ofNat_Int, go_sem, ↓reduceIte, Nat.reduceEqDiff, Nat.reduceAdd, Nat.reduceMul, Nat.reduceLeDiff, Nat.reduceLT, Int.reduceLE, Int.reduceLT, reduceCtorEq]
    exact Kv.Fin.still ⟨rfl, rfl⟩
theorem p128 (f : List Nat) (n : Nat) (hf : Ok f n) : Pure Tryz.prog 128 [.agg (ints (mp f)), .list (aggs ((prm n).map mp))] (.agg (ints (mp (lsf f (prm n))))) := by
  have hlf := hf.mp_len
  have hpl := prm_len hf.pos hf.le
  refine e128 (by simp) fun _ _ => ?_
  simp only [k128, argEnv, hlf, List.length_map, take6, List.drop_zero, Int.cast_ofNat_Int, go_sem, ↓reduceIte, Nat.reduceEqDiff, Nat.reduceAdd, Nat.reduceMul, Nat.reduceLeDiff, Nat.reduceLT, Int.reduceLE, Int.reduceLT, reduceCtorEq]
  refine KL_indD k128_b0.eq_1 (fun x : Nat => [(1, .list (aggs ((prm n).map mp))), (2, .fptr (ints (mp f)) 0), (4, .ptr 0 0), (5, .ptr 1 0), (6, .int .i64 x)]) (fun x => [.box [.int .i64 0, .int .i64 0, .int .i64 0, .int .i64 0, .int .i64 0, .int .i64 0], .box (ints (mp (lsf f ((prm n).take x))))]) (fun x => x ≤ (prm n).length) (fun x => (prm n).length - x) [1, 2, 4, 5, 6] 0 (by simp [keep]) ⟨[], by simp [lsf]⟩ (Nat.zero_le _) (fun x hx => ?_) fun x hx ih => ?_
  · exact ⟨Nat.zero_le _, Env.undr_upto (by simp [Env.undr, PV.undr, undrX_ints, undrX_aggs, undrL_ints]), .cons (by simp [AObj.undr, PV.undrL, PV.undr]) (.cons (by simp [AObj.undr, undrL_ints]) (.nil _))⟩
  have h6 := (lsf_ok hf x hx).mp_len
  try simp only [h6, List.length_map, take6, List.drop_zero, Int.cast_ofNat_Int, go_sem, ↓reduceIte, Nat.reduceEqDiff, Nat.reduceAdd, Nat.reduceMul, Nat.reduceLeDiff, Nat.reduceLT, Int.reduceLE, Int.reduceLT, reduceCtorEq]
  refine ⟨fun h1 => ?_, fun h1 => ?_⟩
  · have hxl : x < (prm n).length := by omega
    have hm : (prm n)[x] ∈ prm n := List.getElem_mem _
    have hp := prm_ok hf.pos hf.le hm
    have hlp := hp.mp_len
    have hr := rnm_ok hf hp (prm_nd hm)
    have hlr := hr.mp_len
    have e : ((prm n).map mp).getD x [] = mp (prm n)[x] := by simp [List.getD_eq_getElem?_getD, hxl]
    have hs := lsf_succ f (prm n) hxl
    rw [e]
    try simp only [hlf, hlp, h6, take6, List.drop_zero, Int.cast_ofNat_Int, go_sem, ↓reduceIte, Nat.reduceEqDiff, Nat.reduceAdd, Nat.reduceMul, Nat.reduceLeDiff, Nat.reduceLT, Int.reduceLE, Int.reduceLT, reduceCtorEq]
    refine ⟨by omega, fun _ => ?_⟩
    refine (p83 f _ n hf hp (prm_nd hm)).pgo ?_
    try simp only [hlr, h6, take6, List.drop_zero, Int.cast_ofNat_Int, go_sem, ↓reduceIte, Nat.reduceEqDiff, Nat.reduceAdd, Nat.reduceMul, Nat.reduceLeDiff, Nat.reduceLT, Int.reduceLE, Int.reduceLT, reduceCtorEq]
    refine (p170 _ _ n hr (lsf_ok hf x hx)).go ?_
    try simp only [hlr, h6, take6, List.drop_zero, Int.cast_ofNat_Int, go_sem, ↓reduceIte, Nat.reduceEqDiff, Nat.reduceAdd, Nat.reduceMul, Nat.reduceLeDiff, Nat.reduceLT, Int.reduceLE, Int.reduceLT, reduceCtorEq]
    refine ⟨fun h3 => ⟨by omega, ?_⟩, fun h3 => ⟨by omega, ?_⟩⟩
    · rw [if_pos h3] at hs
      exact ih (x + 1) (by omega) (by omega) _ _ (by simp [keep]) ⟨[_], by rw [hs]; rfl⟩
    · rw [if_neg (by simp [h3])] at hs
      exact ih (x + 1) (by omega) (by omega) _ _ (by simp [keep]) ⟨[_], by rw [hs]; rfl⟩
  · obtain rfl : x = (prm n).length := by omega
    rw [List.take_length] at h6 ⊢
    try simp only [h6, take6, List.drop_zero, Int.cast_ofNat_Int, go_sem, ↓reduceIte, Nat.reduceEqDiff, Nat.reduceAdd, Nat.reduceMul, Nat.reduceLeDiff, Nat.reduceLT, Int.reduceLE, Int.reduceLT, reduceCtorEq]
    exact Kv.Fin.still ⟨rfl, rfl⟩
theorem p50 (f : List Nat) (n : Nat) (hf : Ok f n) : Pure Tryz.prog 50 [.agg (ints (mp f))] (.tup [.agg (ints (mp (lsf f (prm n)))), .int .i64 0]) := by
  have hlf := hf.mp_len
  have h6 : (mp (lsf f (prm n))).length = 6 := by have := (lsf_ok hf _ (Nat.le_refl _)).mp_len; rwa [List.take_length] at this
  refine e50 (by simp) fun _ _ => ?_
  simp only [k50, argEnv, hlf, take6, List.drop_zero, Int.cast_ofNat_Int, go_sem, ↓reduceIte, Nat.reduceEqDiff, Nat.reduceAdd, Nat.reduceMul, Nat.reduceLeDiff, Nat.reduceLT, Int.reduceLE, Int.reduceLT, reduceCtorEq]
  refine (p85 (mp f) hlf).go ?_
  rw [isM_mp hf]
  try simp only [hlf, hf.len, take6, List.drop_zero, Int.cast_ofNat_Int, go_sem, ↓reduceIte, Nat.reduceEqDiff, Nat.reduceAdd, Nat.reduceMul, Nat.reduceLeDiff, Nat.reduceLT, Int.reduceLE, Int.reduceLT, reduceCtorEq]
  refine (p78 n hf.pos hf.le).fgo ?_
  try simp only [take6, List.drop_zero, Int.cast_ofNat_Int, go_sem, ↓reduceIte, Nat.reduceEqDiff, Nat.reduceAdd, Nat.reduceMul, Nat.reduceLeDiff, Nat.reduceLT, Int.reduceLE, Int.reduceLT, reduceCtorEq]
  refine (p80 f n hf).pgo ?_
  try simp only [h6, take6, List.drop_zero, Int.cast_ofNat_Int, go_sem, ↓reduceIte, Nat.reduceEqDiff, Nat.reduceAdd, Nat.reduceMul, Nat.reduceLeDiff, Nat.reduceLT, Int.reduceLE, Int.reduceLT, reduceCtorEq]
  exact Kv.Fin.still ⟨rfl, rfl⟩
theorem p64 (f : List Nat) (n : Nat) (hf : Ok f n) : Pure Tryz.prog 64 [.agg (ints (mp f))] (.tup [.agg (ints (mp (lsf f (prm n)))), .int .i64 0]) := by
  have hlf := hf.mp_len
  have h6 : (mp (lsf f (prm n))).length = 6 := by have := (lsf_ok hf _ (Nat.le_refl _)).mp_len; rwa [List.take_length] at this
  have ho := p81 n hf.pos hf.le n [] (by simp) (by simp)
  rw [ords_all n hf.pos] at ho
  refine e64 (by simp) fun _ _ => ?_
  simp only [k64, argEnv, hlf, take6, List.drop_zero, Int.cast_ofNat_Int, go_sem, ↓reduceIte, Nat.reduceEqDiff, Nat.reduceAdd, Nat.reduceMul, Nat.reduceLeDiff, Nat.reduceLT, Int.reduceLE, Int.reduceLT, reduceCtorEq]
  refine (p89 (mp f) hlf).go ?_
  rw [isM_mp hf]
  try simp only [hlf, hf.len, take6, List.drop_zero, Int.cast_ofNat_Int, go_sem, ↓reduceIte, Nat.reduceEqDiff, Nat.reduceAdd, Nat.reduceMul, Nat.reduceLeDiff, Nat.reduceLT, Int.reduceLE, Int.reduceLT, reduceCtorEq]
  refine ho.fgo ?_
  try simp only [take6, List.drop_zero, Int.cast_ofNat_Int, go_sem, ↓reduceIte, Nat.reduceEqDiff, Nat.reduceAdd, Nat.reduceMul, Nat.reduceLeDiff, Nat.reduceLT, Int.reduceLE, Int.reduceLT, reduceCtorEq]
  refine (p128 f n hf).pgo ?_
  try simp only [h6, take6, List.drop_zero, Int.cast_ofNat_Int, go_sem, ↓reduceIte, Nat.reduceEqDiff, Nat.reduceAdd, Nat.reduceMul, Nat.reduceLeDiff, Nat.reduceLT, Int.reduceLE, Int.reduceLT, reduceCtorEq]
  exact Kv.Fin.still ⟨rfl, rfl⟩
theorem p50_out (m : List Int) (h6 : m.length = 6) (hm : isM m = false) : Pure Tryz.prog 50 [.agg (ints m)] (.tup [.agg (ints [0, 0, 0, 0, 0, 0]), .int .i64 1]) := by
  refine e50 (by simp) fun _ _ => ?_
  simp only [k50, argEnv, h6, take6, List.drop_zero, Int.cast_ofNat_Int, go_sem, ↓reduceIte, Nat.reduceEqDiff, Nat.reduceAdd, Nat.reduceMul, Nat.reduceLeDiff, Nat.reduceLT, Int.reduceLE, Int.reduceLT, reduceCtorEq]
  refine (p85 m h6).go ?_
  rw [hm]
  try simp only [h6, take6, List.drop_zero, Int.cast_ofNat_Int, go_sem, ↓reduceIte, Nat.reduceEqDiff, Nat.reduceAdd, Nat.reduceMul, Nat.reduceLeDiff, Nat.reduceLT, Int.reduceLE, Int.reduceLT, reduceCtorEq]
  exact Kv.Fin.still ⟨rfl, rfl⟩
theorem p64_out (m : List Int) (h6 : m.length = 6) (hm : isM m = false) : Pure Tryz.prog 64 [.agg (ints m)] (.tup [.agg (ints [0, 0, 0, 0, 0, 0]), .int .i64 1]) := by
  refine e64 (by simp) fun _ _ => ?_
  simp only [k64, argEnv, h6, take6, List.drop_zero, Int.cast_ofNat_Int, go_sem, ↓reduceIte, Nat.reduceEqDiff, Nat.reduceAdd, Nat.reduceMul, Nat.reduceLeDiff, Nat.reduceLT, Int.reduceLE, Int.reduceLT, reduceCtorEq]
  refine (p89 m h6).go ?_
  rw [hm]
  try simp only [h6, take6, List.drop_zero, Int.cast_ofNat_Int, go_sem, ↓reduceIte, Nat.reduceEqDiff, Nat.reduceAdd, Nat.reduceMul, Nat.reduceLeDiff, Nat.reduceLT, Int.reduceLE, Int.reduceLT, reduceCtorEq]
  exact Kv.Fin.still ⟨rfl, rfl⟩
def pcd (m k : List Int) : Int := if isM m = false ∨ isM k = false then 1 else if m.getD 0 0 = k.getD 0 0 then 0 else 2
theorem p117 (m k : List Int) (h6 : m.length = 6) (h6' : k.length = 6) : Pure Tryz.prog 117 [.agg (ints m), .agg (ints k)] (.int .i64 (pcd m k)) := by
  refine e117 (by simp) fun _ _ => ?_
  simp only [k117, argEnv, h6, h6', take6, List.drop_zero, Int.cast_ofNat_Int, go_sem, ↓reduceIte, Nat.reduceEqDiff, Nat.reduceAdd, Nat.reduceMul, Nat.reduceLeDiff, Nat.reduceLT, Int.reduceLE, Int.reduceLT, reduceCtorEq]
  refine (p85 m h6).go ?_
  cases hm : isM m with
  | false =>
    try simp only [take6, List.drop_zero, Int.cast_ofNat_Int, go_sem, ↓reduceIte, Nat.reduceEqDiff, Nat.reduceAdd, Nat.reduceMul, Nat.reduceLeDiff, Nat.reduceLT, Int.reduceLE, Int.reduceLT, reduceCtorEq]
    exact Kv.Fin.still ⟨by simp [pcd, hm], rfl⟩
  | true =>
    try simp only [h6, h6', take6, List.drop_zero, Int.cast_ofNat_Int, go_sem, ↓reduceIte, Nat.reduceEqDiff, Nat.reduceAdd, Nat.reduceMul, Nat.reduceLeDiff, Nat.reduceLT, Int.reduceLE, Int.reduceLT, reduceCtorEq]
    refine (p85 k h6').go ?_
    cases hk : isM k with
    | false =>
      try simp only [take6, List.drop_zero, Int.cast_ofNat_Int, go_sem, ↓reduceIte, Nat.reduceEqDiff, Nat.reduceAdd, Nat.reduceMul, Nat.reduceLeDiff, Nat.reduceLT, Int.reduceLE, Int.reduceLT, reduceCtorEq]
      exact Kv.Fin.still ⟨by simp [pcd, hk], rfl⟩
    | true =>
      try simp only [h6, h6', take6, List.drop_zero, Int.cast_ofNat_Int, go_sem, ↓reduceIte, Nat.reduceEqDiff, Nat.reduceAdd, Nat.reduceMul, Nat.reduceLeDiff, Nat.reduceLT, Int.reduceLE, Int.reduceLT, reduceCtorEq]
      have e : pcd m k = if m.getD 0 0 = k.getD 0 0 then 0 else 2 := by unfold pcd; rw [if_neg (by simp [hm, hk])]
      exact ⟨fun h => Kv.Fin.still ⟨by rw [e, if_neg h], rfl⟩, fun h => Kv.Fin.still ⟨by rw [e, if_pos h], rfl⟩⟩
theorem p127 (m k : List Int) (h6 : m.length = 6) (h6' : k.length = 6) : Pure Tryz.prog 127 [.agg (ints m), .agg (ints k)] (.int .i64 (pcd m k)) := by
  refine e127 (by simp) fun _ _ => ?_
  simp only [k127, argEnv, h6, h6', take6, List.drop_zero, Int.cast_ofNat_Int, go_sem, ↓reduceIte, Nat.reduceEqDiff, Nat.reduceAdd, Nat.reduceMul, Nat.reduceLeDiff, Nat.reduceLT, Int.reduceLE, Int.reduceLT, reduceCtorEq]
  refine (p89 m h6).go ?_
  cases hm : isM m with
  | false =>
    try simp only [take6, List.drop_zero, Int.cast_ofNat_Int, go_sem, ↓reduceIte, Nat.reduceEqDiff, Nat.reduceAdd, Nat.reduceMul, Nat.reduceLeDiff, Nat.reduceLT, Int.reduceLE, Int.reduceLT, reduceCtorEq]
    exact Kv.Fin.still ⟨by simp [pcd, hm], rfl⟩
  | true =>
    try simp only [h6, h6', take6, List.drop_zero, Int.cast_ofNat_Int, go_sem, ↓reduceIte, Nat.reduceEqDiff, Nat.reduceAdd, Nat.reduceMul, Nat.reduceLeDiff, Nat.reduceLT, Int.reduceLE, Int.reduceLT, reduceCtorEq]
    refine (p89 k h6').go ?_
    cases hk : isM k with
    | false =>
      try simp only [take6, List.drop_zero, Int.cast_ofNat_Int, go_sem, ↓reduceIte, Nat.reduceEqDiff, Nat.reduceAdd, Nat.reduceMul, Nat.reduceLeDiff, Nat.reduceLT, Int.reduceLE, Int.reduceLT, reduceCtorEq]
      exact Kv.Fin.still ⟨by simp [pcd, hk], rfl⟩
    | true =>
      try simp only [h6, h6', take6, List.drop_zero, Int.cast_ofNat_Int, go_sem, ↓reduceIte, Nat.reduceEqDiff, Nat.reduceAdd, Nat.reduceMul, Nat.reduceLeDiff, Nat.reduceLT, Int.reduceLE, Int.reduceLT, reduceCtorEq]
      have e : pcd m k = if m.getD 0 0 = k.getD 0 0 then 0 else 2 := by unfold pcd; rw [if_neg (by simp [hm, hk])]
      exact ⟨fun h => Kv.Fin.still ⟨by rw [e, if_neg h], rfl⟩, fun h => Kv.Fin.still ⟨by rw [e, if_pos h], rfl⟩⟩
theorem p48_out (m k : List Int) (h6 : m.length = 6) (h6' : k.length = 6) (hp : pcd m k ≠ 0) : Pure Tryz.prog 48 [.agg (ints m), .agg (ints k)] (.tup [.bool false, .int .i64 (pcd m k)]) := by
  refine e48 (by simp) fun _ _ => ?_
  simp only [k48, argEnv, h6, h6', take6, List.drop_zero, Int.cast_ofNat_Int, go_sem, ↓reduceIte, Nat.reduceEqDiff, Nat.reduceAdd, Nat.reduceMul, Nat.reduceLeDiff, Nat.reduceLT, Int.reduceLE, Int.reduceLT, reduceCtorEq]
  refine (p117 m k h6 h6').go ?_
  try simp only [take6, List.drop_zero, Int.cast_ofNat_Int, go_sem, ↓reduceIte, Nat.reduceEqDiff, Nat.reduceAdd, Nat.reduceMul, Nat.reduceLeDiff, Nat.reduceLT, Int.reduceLE, Int.reduceLT, reduceCtorEq]
  exact ⟨fun _ => Kv.Fin.still ⟨rfl, rfl⟩, fun h => absurd h hp⟩
theorem p49_out (m k : List Int) (h6 : m.length = 6) (h6' : k.length = 6) (hp : pcd m k ≠ 0) : Pure Tryz.prog 49 [.agg (ints m), .agg (ints k)] (.tup [.bool false, .int .i64 (pcd m k)]) := by
  refine e49 (by simp) fun _ _ => ?_
  simp only [k49, argEnv, h6, h6', take6, List.drop_zero, Int.cast_ofNat_Int, go_sem, ↓reduceIte, Nat.reduceEqDiff, Nat.reduceAdd, Nat.reduceMul, Nat.reduceLeDiff, Nat.reduceLT, Int.reduceLE, Int.reduceLT, reduceCtorEq]
  refine (p127 m k h6 h6').go ?_
  try simp only [take6, List.drop_zero, Int.cast_ofNat_Int, go_sem, ↓reduceIte, Nat.reduceEqDiff, Nat.reduceAdd, Nat.reduceMul, Nat.reduceLeDiff, Nat.reduceLT, Int.reduceLE, Int.reduceLT, reduceCtorEq]
  exact ⟨fun _ => Kv.Fin.still ⟨rfl, rfl⟩, fun h => absurd h hp⟩
theorem p48 (f g : List Nat) (n : Nat) (hf : Ok f n) (hg : Ok g n) (hp : pcd (mp f) (mp g) = 0) : Pure Tryz.prog 48 [.agg (ints (mp f)), .agg (ints (mp g))] (.tup [.bool (decide (lsf f (prm n) = lsf g (prm n))), .int .i64 0]) := by
  have hlf := hf.mp_len
  have hlg := hg.mp_len
  have h6 : (mp (lsf f (prm n))).length = 6 := by have := (lsf_ok hf _ (Nat.le_refl _)).mp_len; rwa [List.take_length] at this
  have h6' : (mp (lsf g (prm n))).length = 6 := by have := (lsf_ok hg _ (Nat.le_refl _)).mp_len; rwa [List.take_length] at this
  refine e48 (by simp) fun _ _ => ?_
  simp only [k48, argEnv, hlf, hlg, take6, List.drop_zero, Int.cast_ofNat_Int, go_sem, ↓reduceIte, Nat.reduceEqDiff, Nat.reduceAdd, Nat.reduceMul, Nat.reduceLeDiff, Nat.reduceLT, Int.reduceLE, Int.reduceLT, reduceCtorEq]
  refine (p117 _ _ hlf hlg).go ?_
  rw [hp]
  try simp only [hlf, hlg, hf.len, take6, List.drop_zero, Int.cast_ofNat_Int, go_sem, ↓reduceIte, Nat.reduceEqDiff, Nat.reduceAdd, Nat.reduceMul, Nat.reduceLeDiff, Nat.reduceLT, Int.reduceLE, Int.reduceLT, reduceCtorEq]
  refine (p78 n hf.pos hf.le).go ?_
  try simp only [hlf, hlg, take6, List.drop_zero, Int.cast_ofNat_Int, go_sem, ↓reduceIte, Nat.reduceEqDiff, Nat.reduceAdd, Nat.reduceMul, Nat.reduceLeDiff, Nat.reduceLT, Int.reduceLE, Int.reduceLT, reduceCtorEq]
  refine (p80 f n hf).pgo ?_
  try simp only [take6, List.drop_zero, Int.cast_ofNat_Int, go_sem, ↓reduceIte, Nat.reduceEqDiff, Nat.reduceAdd, Nat.reduceMul, Nat.reduceLeDiff, Nat.reduceLT, Int.reduceLE, Int.reduceLT, reduceCtorEq]
  refine (p80 g n hg).pgo ?_
  try simp only [h6, h6', take6, List.drop_zero, Int.cast_ofNat_Int, go_sem, ↓reduceIte, Nat.reduceEqDiff, Nat.reduceAdd, Nat.reduceMul, Nat.reduceLeDiff, Nat.reduceLT, Int.reduceLE, Int.reduceLT, reduceCtorEq]
  refine Kv.Fin.still ⟨?_, rfl⟩
  have e : (mp (lsf f (prm n)) = mp (lsf g (prm n))) = (lsf f (prm n) = lsf g (prm n)) := propext ⟨mp_inj, fun h => by rw [h]⟩
  simp only [e]
theorem p49 (f g : List Nat) (n : Nat) (hf : Ok f n) (hg : Ok g n) (hp : pcd (mp f) (mp g) = 0) : Pure Tryz.prog 49 [.agg (ints (mp f)), .agg (ints (mp g))] (.tup [.bool (decide (lsf f (prm n) = lsf g (prm n))), .int .i64 0]) := by
  have hlf := hf.mp_len
  have hlg := hg.mp_len
  have h6 : (mp (lsf f (prm n))).length = 6 := by have := (lsf_ok hf _ (Nat.le_refl _)).mp_len; rwa [List.take_length] at this
  have h6' : (mp (lsf g (prm n))).length = 6 := by have := (lsf_ok hg _ (Nat.le_refl _)).mp_len; rwa [List.take_length] at this
  have ho := p81 n hf.pos hf.le n [] (by simp) (by simp)
  rw [ords_all n hf.pos] at ho
  refine e49 (by simp) fun _ _ => ?_
  simp only [k49, argEnv, hlf, hlg, take6, List.drop_zero, Int.cast_ofNat_Int, go_sem, ↓reduceIte, Nat.reduceEqDiff, Nat.reduceAdd, Nat.reduceMul, Nat.reduceLeDiff, Nat.reduceLT, Int.reduceLE, Int.reduceLT, reduceCtorEq]
  refine (p127 _ _ hlf hlg).go ?_
  rw [hp]
  try simp only [hlf, hlg, hf.len, take6, List.drop_zero, Int.cast_ofNat_Int, go_sem, ↓reduceIte, Nat.reduceEqDiff, Nat.reduceAdd, Nat.reduceMul, Nat.reduceLeDiff, Nat.reduceLT, Int.reduceLE, Int.reduceLT, reduceCtorEq]
  refine ho.give (id := 0) rfl (.cons Imm.still (.cons (Imm.refn (l := []) (solo_get (o := .arr 0 2 1 (ints [])) rfl) rfl) (.nil _))) ?_
  try simp only [hlf, hlg, take6, List.drop_zero, Int.cast_ofNat_Int, go_sem, ↓reduceIte, Nat.reduceEqDiff, Nat.reduceAdd, Nat.reduceMul, Nat.reduceLeDiff, Nat.reduceLT, Int.reduceLE, Int.reduceLT, reduceCtorEq]
  refine (p128 f n hf).pgo ?_
  try simp only [take6, List.drop_zero, Int.cast_ofNat_Int, go_sem, ↓reduceIte, Nat.reduceEqDiff, Nat.reduceAdd, Nat.reduceMul, Nat.reduceLeDiff, Nat.reduceLT, Int.reduceLE, Int.reduceLT, reduceCtorEq]
  refine (p128 g n hg).pgo ?_
  try simp only [h6, h6', take6, List.drop_zero, Int.cast_ofNat_Int, go_sem, ↓reduceIte, Nat.reduceEqDiff, Nat.reduceAdd, Nat.reduceMul, Nat.reduceLeDiff, Nat.reduceLT, Int.reduceLE, Int.reduceLT, reduceCtorEq]
  refine Kv.Fin.still ⟨?_, rfl⟩
  have e : (mp (lsf f (prm n)) = mp (lsf g (prm n))) = (lsf f (prm n) = lsf g (prm n)) := propext ⟨mp_inj, fun h => by rw [h]⟩
  simp only [e]
end Go.Proofs.YtpfapiiinkkcgaaGreat
