/- Roots of maps: both sides. -/
import Derived.Test.YtpfapiiinkkcgaaGreatCb
import Derived.Test.YtpfapiiinkkcgaaGreatG5
import Derived.Test.YtpfapiiinkkcgaaGreatCC
import Derived.Test.YtpfapiiinkkcgaaGreatID
namespace Go.Proofs.YtpfapiiinkkcgaaGreat
open Go.Kv
set_option maxRecDepth 100000
/- impl.roots -/
def k129 : KC := (.seq (.ops [⟨(some 2), none, .box true (.t 0)⟩, ⟨(some 3), none, .box true (.t 1)⟩, ⟨(some 4), none, .mv (.c (.nils))⟩, ⟨(some 5), none, .mv (.c (.int .i64 0))⟩])
  (.seq (.seq (.ops [⟨(some 6), none, .load true 6 (.t 2)⟩, ⟨(some 7), none, .call (.c (.fn (.func 85) [] [])) [(.t 6)]⟩, ⟨(some 8), none, .not (.t 7)⟩])
  (.cond (.t 8) (.seq (.ops [⟨(some 4), none, .mv (.c (.nils))⟩, ⟨(some 5), none, .mv (.c (.int .i64 1))⟩])
  .ret) .skip))
  (.seq (.seq (.ops [⟨(some 9), none, .load false 1 (.t 3)⟩, ⟨(some 10), none, .call (.c (.fn (.func 77) [] [])) [(.t 9), (.c (.int .i64 1)), (.c (.int .i64 6))]⟩, ⟨(some 11), none, .not (.t 10)⟩])
  (.cond (.t 11) (.seq (.ops [⟨(some 4), none, .mv (.c (.nils))⟩, ⟨(some 5), none, .mv (.c (.int .i64 2))⟩])
  .ret) .skip))
  (.seq (.ops [⟨(some 12), none, .fieldA 0 (.t 2)⟩, ⟨(some 13), none, .load false 1 (.t 12)⟩, ⟨(some 14), none, .call (.c (.fn (.func 79) [] [])) [(.t 13)]⟩, ⟨(some 15), none, .mkfn (.func 171) [] [(.t 3), (.t 2)]⟩, ⟨(some 16), none, .call (.c (.fn (.func 132) [] [])) [(.t 14), (.t 15)]⟩, ⟨(some 4), none, .mv (.t 16)⟩, ⟨(some 5), none, .mv (.c (.int .i64 0))⟩])
  .ret))))
theorem e129 {args : List PV} {σ : Heap} {K : PV → Heap → Prop} (hl : args.length ≤ 17) (h : Wf σ → (∀ a ∈ args, PV.upto σ.length a) → vc (mkCfg Tryz.prog mixed [2, 3] 17 σ.length) k129 (FinK σ.length [.t 4, .t 5] K) (argEnv 0 args) σ) : ACall Tryz.prog 129 args σ K :=
  ACall_enter (C := mkCfg Tryz.prog mixed [2, 3] 17 σ.length) (c := Tryz.f129.body.getD .skip) Tryz.func129 (by kernel_rfl) (by kernel_rfl) (by kernel_rfl) rfl hl (by kernel_rfl) (by kernel_rfl) h
/- impl.roots$1 -/
def k171 : KC := (.seq (.ops [⟨(some 3), none, .box true (.t 0)⟩, ⟨(some 4), none, .mv (.c (.bool false))⟩])
  (.seq (.draw [⟨(some 5), none, .load true 6 (.t 3)⟩, ⟨(some 6), none, .load false 1 (.t 1)⟩, ⟨(some 8), none, .load true 6 (.t 2)⟩, ⟨(some 7), none, .pcall (.c (.fn (.func 136) [] [])) [(.t 5), (.t 6)]⟩, ⟨(some 9), none, .aeq true 6 (.t 7) (.t 8)⟩, ⟨(some 4), none, .mv (.t 9)⟩])
  .ret))
theorem e171 {args : List PV} {σ : Heap} {K : PV → Heap → Prop} (hl : args.length ≤ 10) (h : Wf σ → (∀ a ∈ args, PV.upto σ.length a) → vc (mkCfg Tryz.prog mixed [3] 10 σ.length) k171 (FinK σ.length [.t 4] K) (argEnv 0 args) σ) : ACall Tryz.prog 171 args σ K :=
  ACall_enter (C := mkCfg Tryz.prog mixed [3] 10 σ.length) (c := Tryz.f171.body.getD .skip) Tryz.func171 (by kernel_rfl) (by kernel_rfl) (by kernel_rfl) rfl hl (by kernel_rfl) (by kernel_rfl) h
/- (impl.Map).power -/
/- live [1, 2, 4, 5] -/
def k136_b0 : KC := (.seq (.seq (.ops [⟨(some 9), none, .mv (.t 1)⟩, ⟨(some 10), none, .bin .gtr (.t 9) (.c (.int .i64 0))⟩])
  (.cond (.t 10) .skip (.exit 0)))
  (.seq (.block 1 (.seq (.seq (.ops [⟨(some 13), none, .mv (.t 1)⟩, ⟨(some 14), none, .bin .rem (.t 13) (.c (.int .i64 2))⟩, ⟨(some 15), none, .bin .eql (.t 14) (.c (.int .i64 1))⟩])
  (.cond (.t 15) (.ops [⟨(some 16), none, .load true 6 (.t 5)⟩, ⟨(some 17), none, .load true 6 (.t 2)⟩, ⟨(some 18), none, .call (.c (.fn (.func 118) [] [])) [(.t 16), (.t 17)]⟩, ⟨none, none, .store 6 (.t 5) (.t 18)⟩]) .skip))
  (.ops [⟨(some 19), none, .load true 6 (.t 2)⟩, ⟨(some 20), none, .load true 6 (.t 2)⟩, ⟨(some 21), none, .call (.c (.fn (.func 118) [] [])) [(.t 19), (.t 20)]⟩, ⟨none, none, .store 6 (.t 2) (.t 21)⟩])))
  (.ops [⟨(some 11), none, .mv (.t 1)⟩, ⟨(some 12), none, .bin .quo (.t 11) (.c (.int .i64 2))⟩, ⟨(some 1), none, .mv (.t 12)⟩])))
def k136 : KC := (.seq (.ops [⟨(some 2), none, .box false (.t 0)⟩, ⟨(some 4), none, .alloc [.int .i64 0, .int .i64 0, .int .i64 0, .int .i64 0, .int .i64 0, .int .i64 0]⟩])
  (.seq (.ops [⟨(some 6), none, .fieldA 0 (.t 2)⟩, ⟨(some 7), none, .load false 1 (.t 6)⟩, ⟨(some 8), none, .call (.c (.fn (.func 148) [] [])) [(.t 7)]⟩, ⟨(some 5), none, .alloc [.int .i64 0, .int .i64 0, .int .i64 0, .int .i64 0, .int .i64 0, .int .i64 0]⟩, ⟨none, none, .store 6 (.t 5) (.t 8)⟩])
  (.seq (.block 0 (.loop k136_b0))
  (.seq (.ops [⟨(some 22), none, .load true 6 (.t 5)⟩, ⟨none, none, .store 6 (.t 4) (.t 22)⟩])
  .ret))))
theorem e136 {args : List PV} {σ : Heap} {K : PV → Heap → Prop} (hl : args.length ≤ 23) (h : Wf σ → (∀ a ∈ args, PV.upto σ.length a) → vc (mkCfg Tryz.prog mixed [] 23 σ.length) k136 (FinK σ.length [.cell 4 true 6] K) (argEnv 0 args) σ) : ACall Tryz.prog 136 args σ K :=
  ACall_enter (C := mkCfg Tryz.prog mixed [] 23 σ.length) (c := Tryz.f136.body.getD .skip) Tryz.func136 (by kernel_rfl) (by kernel_rfl) (by kernel_rfl) rfl hl (by kernel_rfl) (by kernel_rfl) h
/- impl.CountRoots -/
def k51 : KC := (.seq (.ops [⟨(some 2), none, .box true (.t 0)⟩, ⟨(some 4), none, .mv (.c (.int .i64 0))⟩, ⟨(some 5), none, .mv (.c (.int .i64 0))⟩])
  (.seq (.ops [⟨(some 9), none, .load true 6 (.t 2)⟩, ⟨(some 10), none, .mv (.t 1)⟩, ⟨(some 11), none, .call (.c (.fn (.func 129) [] [])) [(.t 9), (.t 10)]⟩, ⟨(some 8), none, .mv (.t 11)⟩, ⟨(some 12), none, .extr 0 (.t 8)⟩, ⟨(some 13), none, .extr 1 (.t 8)⟩, ⟨(some 6), none, .mv (.t 12)⟩, ⟨(some 7), none, .mv (.t 13)⟩])
  (.seq (.ops [⟨(some 14), none, .mv (.t 6)⟩, ⟨(some 15), none, .len false (.t 14)⟩, ⟨(some 16), none, .mv (.t 7)⟩, ⟨(some 4), none, .mv (.t 15)⟩, ⟨(some 5), none, .mv (.t 16)⟩])
  .ret)))
theorem e51 {args : List PV} {σ : Heap} {K : PV → Heap → Prop} (hl : args.length ≤ 17) (h : Wf σ → (∀ a ∈ args, PV.upto σ.length a) → vc (mkCfg Tryz.prog mixed [2] 17 σ.length) k51 (FinK σ.length [.t 4, .t 5] K) (argEnv 0 args) σ) : ACall Tryz.prog 51 args σ K :=
  ACall_enter (C := mkCfg Tryz.prog mixed [2] 17 σ.length) (c := Tryz.f51.body.getD .skip) Tryz.func51 (by kernel_rfl) (by kernel_rfl) (by kernel_rfl) rfl hl (by kernel_rfl) (by kernel_rfl) h
/- spec.CountRoots -/
/- live [1, 2, 7, 8, 9] -/
def k62_b0 : KC := (.seq (.seq (.ops [⟨(some 19), none, .mv (.t 9)⟩, ⟨(some 20), none, .mv (.t 7)⟩, ⟨(some 21), none, .len false (.t 20)⟩, ⟨(some 22), none, .bin .lss (.t 19) (.t 21)⟩])
  (.cond (.t 22) .skip (.exit 0)))
  (.seq (.block 1 (.seq (.draw [⟨(some 25), none, .mv (.t 7)⟩, ⟨(some 26), none, .mv (.t 9)⟩, ⟨(some 27), none, .idxS 6 (.t 25) (.t 26)⟩, ⟨(some 28), none, .load true 6 (.t 27)⟩, ⟨(some 29), none, .mv (.t 1)⟩, ⟨(some 31), none, .load true 6 (.t 2)⟩, ⟨(some 30), none, .pcall (.c (.fn (.func 92) [] [])) [(.t 28), (.t 29)]⟩, ⟨(some 32), none, .aeq false 6 (.t 30) (.t 31)⟩])
  (.cond (.t 32) (.ops [⟨(some 33), none, .mv (.t 8)⟩, ⟨(some 34), none, .bin .add (.t 33) (.c (.int .i64 1))⟩, ⟨(some 8), none, .mv (.t 34)⟩]) .skip)))
  (.ops [⟨(some 23), none, .mv (.t 9)⟩, ⟨(some 24), none, .bin .add (.t 23) (.c (.int .i64 1))⟩, ⟨(some 9), none, .mv (.t 24)⟩])))
def k62 : KC := (.seq (.ops [⟨(some 2), none, .box true (.t 0)⟩, ⟨(some 4), none, .mv (.c (.int .i64 0))⟩, ⟨(some 5), none, .mv (.c (.int .i64 0))⟩])
  (.seq (.seq (.ops [⟨(some 10), none, .load true 6 (.t 2)⟩, ⟨(some 11), none, .mv (.t 1)⟩, ⟨(some 12), none, .call (.c (.fn (.func 135) [] [])) [(.t 10), (.t 11)]⟩, ⟨(some 6), none, .mv (.t 12)⟩])
  (.seq (.ops [⟨(some 13), none, .mv (.t 6)⟩, ⟨(some 14), none, .bin .neq (.t 13) (.c (.int .i64 0))⟩])
  (.cond (.t 14) (.seq (.ops [⟨(some 15), none, .mv (.t 6)⟩, ⟨(some 4), none, .mv (.c (.int .i64 0))⟩, ⟨(some 5), none, .mv (.t 15)⟩])
  .ret) .skip)))
  (.seq (.ops [⟨(some 16), none, .fieldA 0 (.t 2)⟩, ⟨(some 17), none, .load false 1 (.t 16)⟩, ⟨(some 18), none, .call (.c (.fn (.func 82) [] [])) [(.t 17)]⟩, ⟨(some 7), none, .mv (.t 18)⟩, ⟨(some 8), none, .mv (.c (.int .i64 0))⟩])
  (.seq (.seq (.ops [⟨(some 9), none, .mv (.c (.int .i64 0))⟩])
  (.block 0 (.loop k62_b0)))
  (.seq (.ops [⟨(some 35), none, .mv (.t 8)⟩, ⟨(some 4), none, .mv (.t 35)⟩, ⟨(some 5), none, .mv (.c (.int .i64 0))⟩])
  .ret)))))
theorem e62 {args : List PV} {σ : Heap} {K : PV → Heap → Prop} (hl : args.length ≤ 36) (h : Wf σ → (∀ a ∈ args, PV.upto σ.length a) → vc (mkCfg Tryz.prog mixed [2] 36 σ.length) k62 (FinK σ.length [.t 4, .t 5] K) (argEnv 0 args) σ) : ACall Tryz.prog 62 args σ K :=
  ACall_enter (C := mkCfg Tryz.prog mixed [2] 36 σ.length) (c := Tryz.f62.body.getD .skip) Tryz.func62 (by kernel_rfl) (by kernel_rfl) (by kernel_rfl) rfl hl (by kernel_rfl) (by kernel_rfl) h
/- spec.l09Code -/
def k135 : KC := (.seq (.ops [⟨(some 2), none, .box true (.t 0)⟩, ⟨(some 4), none, .mv (.c (.int .i64 0))⟩])
  (.seq (.block 0 (.seq (.ops [⟨(some 6), none, .load true 6 (.t 2)⟩, ⟨(some 7), none, .call (.c (.fn (.func 89) [] [])) [(.t 6)]⟩, ⟨(some 8), none, .not (.t 7)⟩, ⟨(some 5), none, .mv (.t 8)⟩])
  (.cond (.t 5) (.seq (.ops [⟨(some 4), none, .mv (.c (.int .i64 1))⟩])
  .ret) (.seq (.ops [⟨(some 10), none, .mv (.t 1)⟩, ⟨(some 11), none, .call (.c (.fn (.func 71) [] [])) [(.t 10), (.c (.int .i64 1)), (.c (.int .i64 6))]⟩, ⟨(some 12), none, .not (.t 11)⟩, ⟨(some 9), none, .mv (.t 12)⟩])
  (.cond (.t 9) (.seq (.ops [⟨(some 4), none, .mv (.c (.int .i64 2))⟩])
  .ret) .skip)))))
  (.seq (.ops [⟨(some 4), none, .mv (.c (.int .i64 0))⟩])
  .ret)))
theorem e135 {args : List PV} {σ : Heap} {K : PV → Heap → Prop} (hl : args.length ≤ 13) (h : Wf σ → (∀ a ∈ args, PV.upto σ.length a) → vc (mkCfg Tryz.prog mixed [2] 13 σ.length) k135 (FinK σ.length [.t 4] K) (argEnv 0 args) σ) : ACall Tryz.prog 135 args σ K :=
  ACall_enter (C := mkCfg Tryz.prog mixed [2] 13 σ.length) (c := Tryz.f135.body.getD .skip) Tryz.func135 (by kernel_rfl) (by kernel_rfl) (by kernel_rfl) rfl hl (by kernel_rfl) (by kernel_rfl) h
/- impl.FirstRoot -/
def k58 : KC := (.seq (.ops [⟨(some 2), none, .box true (.t 0)⟩, ⟨(some 4), none, .alloc [.int .i64 0, .int .i64 0, .int .i64 0, .int .i64 0, .int .i64 0, .int .i64 0]⟩, ⟨(some 5), none, .mv (.c (.int .i64 0))⟩])
  (.seq (.ops [⟨(some 9), none, .load true 6 (.t 2)⟩, ⟨(some 10), none, .mv (.t 1)⟩, ⟨(some 11), none, .call (.c (.fn (.func 129) [] [])) [(.t 9), (.t 10)]⟩, ⟨(some 8), none, .mv (.t 11)⟩, ⟨(some 12), none, .extr 0 (.t 8)⟩, ⟨(some 13), none, .extr 1 (.t 8)⟩, ⟨(some 6), none, .mv (.t 12)⟩, ⟨(some 7), none, .mv (.t 13)⟩])
  (.seq (.block 0 (.seq (.ops [⟨(some 15), none, .mv (.t 7)⟩, ⟨(some 16), none, .bin .neq (.t 15) (.c (.int .i64 0))⟩, ⟨(some 14), none, .mv (.t 16)⟩])
  (.cond (.t 14) (.seq (.ops [⟨(some 17), none, .build [.int .i64 0, .int .i64 0, .int .i64 0, .int .i64 0, .int .i64 0, .int .i64 0] []⟩, ⟨(some 18), none, .mv (.t 7)⟩, ⟨none, none, .store 6 (.t 4) (.t 17)⟩, ⟨(some 5), none, .mv (.t 18)⟩])
  .ret) (.seq (.ops [⟨(some 20), none, .mv (.t 6)⟩, ⟨(some 21), none, .len false (.t 20)⟩, ⟨(some 22), none, .bin .eql (.t 21) (.c (.int .i64 0))⟩, ⟨(some 19), none, .mv (.t 22)⟩])
  (.cond (.t 19) (.seq (.ops [⟨(some 23), none, .build [.int .i64 0, .int .i64 0, .int .i64 0, .int .i64 0, .int .i64 0, .int .i64 0] []⟩, ⟨none, none, .store 6 (.t 4) (.t 23)⟩, ⟨(some 5), none, .mv (.c (.int .i64 4))⟩])
  .ret) .skip)))))
  (.seq (.ops [⟨(some 24), none, .mv (.t 6)⟩, ⟨(some 25), none, .idxS 6 (.t 24) (.c (.int .i64 0))⟩, ⟨(some 26), none, .load true 6 (.t 25)⟩, ⟨none, none, .store 6 (.t 4) (.t 26)⟩, ⟨(some 5), none, .mv (.c (.int .i64 0))⟩])
  .ret))))
theorem e58 {args : List PV} {σ : Heap} {K : PV → Heap → Prop} (hl : args.length ≤ 27) (h : Wf σ → (∀ a ∈ args, PV.upto σ.length a) → vc (mkCfg Tryz.prog mixed [2] 27 σ.length) k58 (FinK σ.length [.cell 4 true 6, .t 5] K) (argEnv 0 args) σ) : ACall Tryz.prog 58 args σ K :=
  ACall_enter (C := mkCfg Tryz.prog mixed [2] 27 σ.length) (c := Tryz.f58.body.getD .skip) Tryz.func58 (by kernel_rfl) (by kernel_rfl) (by kernel_rfl) rfl hl (by kernel_rfl) (by kernel_rfl) h
/- spec.FirstRoot -/
/- live [1, 2, 4, 7, 8] -/
def k59_b0 : KC := (.seq (.seq (.ops [⟨(some 19), none, .mv (.t 8)⟩, ⟨(some 20), none, .mv (.t 7)⟩, ⟨(some 21), none, .len false (.t 20)⟩, ⟨(some 22), none, .bin .lss (.t 19) (.t 21)⟩])
  (.cond (.t 22) .skip (.exit 0)))
  (.seq (.block 1 (.seq (.draw [⟨(some 25), none, .mv (.t 7)⟩, ⟨(some 26), none, .mv (.t 8)⟩, ⟨(some 27), none, .idxS 6 (.t 25) (.t 26)⟩, ⟨(some 28), none, .load true 6 (.t 27)⟩, ⟨(some 29), none, .mv (.t 1)⟩, ⟨(some 31), none, .load true 6 (.t 2)⟩, ⟨(some 30), none, .pcall (.c (.fn (.func 92) [] [])) [(.t 28), (.t 29)]⟩, ⟨(some 32), none, .aeq false 6 (.t 30) (.t 31)⟩])
  (.cond (.t 32) (.seq (.ops [⟨(some 33), none, .mv (.t 7)⟩, ⟨(some 34), none, .mv (.t 8)⟩, ⟨(some 35), none, .idxS 6 (.t 33) (.t 34)⟩, ⟨(some 36), none, .load true 6 (.t 35)⟩, ⟨none, none, .store 6 (.t 4) (.t 36)⟩, ⟨(some 5), none, .mv (.c (.int .i64 0))⟩])
  .ret) .skip)))
  (.ops [⟨(some 23), none, .mv (.t 8)⟩, ⟨(some 24), none, .bin .add (.t 23) (.c (.int .i64 1))⟩, ⟨(some 8), none, .mv (.t 24)⟩])))
def k59 : KC := (.seq (.ops [⟨(some 2), none, .box true (.t 0)⟩, ⟨(some 4), none, .alloc [.int .i64 0, .int .i64 0, .int .i64 0, .int .i64 0, .int .i64 0, .int .i64 0]⟩, ⟨(some 5), none, .mv (.c (.int .i64 0))⟩])
  (.seq (.seq (.ops [⟨(some 9), none, .load true 6 (.t 2)⟩, ⟨(some 10), none, .mv (.t 1)⟩, ⟨(some 11), none, .call (.c (.fn (.func 135) [] [])) [(.t 9), (.t 10)]⟩, ⟨(some 6), none, .mv (.t 11)⟩])
  (.seq (.ops [⟨(some 12), none, .mv (.t 6)⟩, ⟨(some 13), none, .bin .neq (.t 12) (.c (.int .i64 0))⟩])
  (.cond (.t 13) (.seq (.ops [⟨(some 14), none, .build [.int .i64 0, .int .i64 0, .int .i64 0, .int .i64 0, .int .i64 0, .int .i64 0] []⟩, ⟨(some 15), none, .mv (.t 6)⟩, ⟨none, none, .store 6 (.t 4) (.t 14)⟩, ⟨(some 5), none, .mv (.t 15)⟩])
  .ret) .skip)))
  (.seq (.ops [⟨(some 16), none, .fieldA 0 (.t 2)⟩, ⟨(some 17), none, .load false 1 (.t 16)⟩, ⟨(some 18), none, .call (.c (.fn (.func 82) [] [])) [(.t 17)]⟩, ⟨(some 7), none, .mv (.t 18)⟩])
  (.seq (.seq (.ops [⟨(some 8), none, .mv (.c (.int .i64 0))⟩])
  (.block 0 (.loop k59_b0)))
  (.seq (.ops [⟨(some 37), none, .build [.int .i64 0, .int .i64 0, .int .i64 0, .int .i64 0, .int .i64 0, .int .i64 0] []⟩, ⟨none, none, .store 6 (.t 4) (.t 37)⟩, ⟨(some 5), none, .mv (.c (.int .i64 4))⟩])
  .ret)))))
theorem e59 {args : List PV} {σ : Heap} {K : PV → Heap → Prop} (hl : args.length ≤ 38) (h : Wf σ → (∀ a ∈ args, PV.upto σ.length a) → vc (mkCfg Tryz.prog mixed [2] 38 σ.length) k59 (FinK σ.length [.cell 4 true 6, .t 5] K) (argEnv 0 args) σ) : ACall Tryz.prog 59 args σ K :=
  ACall_enter (C := mkCfg Tryz.prog mixed [2] 38 σ.length) (c := Tryz.f59.body.getD .skip) Tryz.func59 (by kernel_rfl) (by kernel_rfl) (by kernel_rfl) rfl hl (by kernel_rfl) (by kernel_rfl) h
end Go.Proofs.YtpfapiiinkkcgaaGreat
namespace Go.Proofs.YtpfapiiinkkcgaaGreat
open Go.Kv
set_option linter.unusedVariables false
set_option linter.unusedSimpArgs false
attribute [local irreducible] ACall PCall KL
theorem p136 (f : List Nat) (n k : Nat) (hf : Ok f n) (hk : k ≤ 1000000000000) : Pure Tryz.prog 136 [.agg (ints (mp f)), .int .i64 k] (.agg (ints (mp (itM f n k)))) := by
  have hlf := hf.mp_len
  have hli := (Ok.idn hf.pos hf.le).mp_len
  refine e136 (by simp) fun _ _ => ?_
  simp only [k136, argEnv, hlf, hf.len, take6, List.drop_zero, Int.cast_ofNat_Int, go_sem, ↓reduceIte, Nat.reduceEqDiff, Nat.reduceAdd, Nat.reduceMul, Nat.reduceLeDiff, Nat.reduceLT, Int.reduceLE, Int.reduceLT, reduceCtorEq]
  refine (p148 n hf.pos hf.le).go ?_
  try simp only [hli, take6, List.drop_zero, Int.cast_ofNat_Int, go_sem, ↓reduceIte, Nat.reduceEqDiff, Nat.reduceAdd, Nat.reduceMul, Nat.reduceLeDiff, Nat.reduceLT, Int.reduceLE, Int.reduceLT, reduceCtorEq]
  refine KL_ind k136_b0.eq_1 (fun x : Nat × Nat × Nat => [(1, .int .i64 x.1), (2, .ptr 0 0), (4, .ptr 1 0), (5, .ptr 2 0)]) (fun x => [.box (ints (mp (itM f n x.2.2))), .box (ints [0, 0, 0, 0, 0, 0]), .box (ints (mp (itM f n x.2.1)))]) (fun x => x.1 ≤ 1000000000000 ∧ x.2.1 + x.2.2 * x.1 = k) (fun x => x.1) [1, 2, 4, 5] (k, 0, 1) (by rfl) (by rw [itM_zero, itM_one hf]; rfl) ⟨hk, by simp⟩ fun ⟨x, a, b⟩ ⟨hx, hab⟩ ih => ?_
  simp only at hx hab
  have hla := (itM_ok hf a).mp_len
  have hlb := (itM_ok hf b).mp_len
  have hlbb := (itM_ok hf (b + b)).mp_len
  have hlab := (itM_ok hf (a + b)).mp_len
  have h1 := p118 _ _ n (itM_ok hf b) (itM_ok hf b)
  have h2 := p118 _ _ n (itM_ok hf a) (itM_ok hf b)
  rw [itM_mul hf] at h1 h2
  try simp only [hla, hlb, take6, List.drop_zero, Int.cast_ofNat_Int, go_sem, ↓reduceIte, Nat.reduceEqDiff, Nat.reduceAdd, Nat.reduceMul, Nat.reduceLeDiff, Nat.reduceLT, Int.reduceLE, Int.reduceLT, reduceCtorEq]
  refine ⟨fun h3 => ⟨fun h4 => ?_, fun h4 => ?_⟩, fun h3 => ?_⟩
  · refine h2.go ?_
    try simp only [hla, hlb, hlab, take6, List.drop_zero, Int.cast_ofNat_Int, go_sem, ↓reduceIte, Nat.reduceEqDiff, Nat.reduceAdd, Nat.reduceMul, Nat.reduceLeDiff, Nat.reduceLT, Int.reduceLE, Int.reduceLT, reduceCtorEq]
    refine h1.go ?_
    try simp only [hlb, hlbb, take6, List.drop_zero, Int.cast_ofNat_Int, go_sem, ↓reduceIte, Nat.reduceEqDiff, Nat.reduceAdd, Nat.reduceMul, Nat.reduceLeDiff, Nat.reduceLT, Int.reduceLE, Int.reduceLT, reduceCtorEq]
    repeat' (first | refine And.intro ?_ ?_ | intro _)
    all_goals (try omega)
    refine ih (x / 2, a + b, b + b) ⟨by show x / 2 ≤ _; omega, ?_⟩ (by show x / 2 < x; omega) _ _ (by rfl) (by rfl)
    show a + b + (b + b) * (x / 2) = k
    have : x = 2 * (x / 2) + 1 := by omega
    rw [← hab]
    conv => rhs; rw [this]
    rw [Nat.mul_add, ← Nat.mul_assoc, Nat.mul_two, Nat.mul_one]
    generalize (b + b) * (x / 2) = z
    omega
  · refine h1.go ?_
    try simp only [hlb, hlbb, take6, List.drop_zero, Int.cast_ofNat_Int, go_sem, ↓reduceIte, Nat.reduceEqDiff, Nat.reduceAdd, Nat.reduceMul, Nat.reduceLeDiff, Nat.reduceLT, Int.reduceLE, Int.reduceLT, reduceCtorEq]
    repeat' (first | refine And.intro ?_ ?_ | intro _)
    all_goals (try omega)
    refine ih (x / 2, a, b + b) ⟨by show x / 2 ≤ _; omega, ?_⟩ (by show x / 2 < x; omega) _ _ (by rfl) (by rfl)
    show a + (b + b) * (x / 2) = k
    have : x = 2 * (x / 2) := by omega
    rw [← hab]
    conv => rhs; rw [this]
    rw [← Nat.mul_assoc, Nat.mul_two]
  · obtain rfl : x = 0 := by omega
    simp only [Nat.mul_zero, Nat.add_zero] at hab
    subst hab
    exact Kv.Fin.still ⟨rfl, rfl⟩
/-- The roots of a map. -/
def rts (f : List Nat) (n k : Nat) : List (List Nat) := (allM n).filter fun g => decide (itM g n k = f)
theorem mp_dec {f g : List Nat} : decide (mp f = mp g) = decide (f = g) := decide_eq_decide.2 ⟨mp_inj, fun h => by rw [h]⟩
theorem p171 (f g : List Nat) (n k : Nat) (hf : Ok f n) (hg : Ok g n) (hk : k ≤ 6) : Pure Tryz.prog 171 [.agg (ints (mp g)), .fptr [.int .i64 k] 0, .fptr (ints (mp f)) 0] (.bool (!decide (itM g n k = f))) := by
  have hlg := hg.mp_len
  have hlf := hf.mp_len
  have hli := (itM_ok hg k).mp_len
  refine e171 (by simp) fun _ _ => ?_
  simp only [k171, argEnv, hlf, hlg, take6, List.drop_zero, Int.cast_ofNat_Int, go_sem, ↓reduceIte, Nat.reduceEqDiff, Nat.reduceAdd, Nat.reduceMul, Nat.reduceLeDiff, Nat.reduceLT, Int.reduceLE, Int.reduceLT, reduceCtorEq]
  refine (p136 g n k hg (by omega)).pgo ?_
  try simp only [hlf, hli, take6, List.drop_zero, Int.cast_ofNat_Int, go_sem, ↓reduceIte, Nat.reduceEqDiff, Nat.reduceAdd, Nat.reduceMul, Nat.reduceLeDiff, Nat.reduceLT, Int.reduceLE, Int.reduceLT, reduceCtorEq]
  exact Kv.Fin.still ⟨by rw [mp_dec], rfl⟩
theorem p129 (f : List Nat) (n k : Nat) (hf : Ok f n) (h1 : 1 ≤ k) (h6 : k ≤ 6) : ACall Tryz.prog 129 [.agg (ints (mp f)), .int .i64 k] [] (fun v s => ∃ ver post, v = .tup [.ref 0 ver 0 (rts f n k).length, .int .i64 0] ∧ s = [.arr ver 34 6 (aggs ((rts f n k).map mp ++ post))]) := by
  have hlf := hf.mp_len
  have hnn := nn_le n (by have := hf.le; omega)
  have hin : (1 : Int) ≤ k ∧ (k : Int) ≤ 6 := by omega
  refine e129 (by simp) fun _ _ => ?_
  simp only [k129, argEnv, hlf, take6, List.drop_zero, Int.cast_ofNat_Int, go_sem, ↓reduceIte, Nat.reduceEqDiff, Nat.reduceAdd, Nat.reduceMul, Nat.reduceLeDiff, Nat.reduceLT, Int.reduceLE, Int.reduceLT, reduceCtorEq]
  refine (p85 (mp f) hlf).go ?_
  rw [isM_mp hf]
  try simp only [take6, List.drop_zero, Int.cast_ofNat_Int, go_sem, ↓reduceIte, Nat.reduceEqDiff, Nat.reduceAdd, Nat.reduceMul, Nat.reduceLeDiff, Nat.reduceLT, Int.reduceLE, Int.reduceLT, reduceCtorEq]
  refine (p77 k 1 6).go ?_
  try simp only [hin, hlf, hf.len, take6, List.drop_zero, Int.cast_ofNat_Int, go_sem, ↓reduceIte, Nat.reduceEqDiff, Nat.reduceAdd, Nat.reduceMul, Nat.reduceLeDiff, Nat.reduceLT, Int.reduceLE, Int.reduceLT, reduceCtorEq]
  refine (p79 n hf.pos hf.le).go fun v s ⟨hv, hs⟩ => ?_
  subst hv; subst hs
  try simp only [ren_ref, take6, List.drop_zero, Int.cast_ofNat_Int, go_sem, ↓reduceIte, Nat.reduceEqDiff, Nat.reduceAdd, Nat.reduceMul, Nat.reduceLeDiff, Nat.reduceLT, Int.reduceLE, Int.reduceLT, reduceCtorEq]
  have hml : (allM n).length = n ^ n := by simp [allM]
  refine delM _ 0 (n ^ n - 1) 34 (allM n) _ hml.symm rfl (fun g hg => by rw [(allM_ok hf.pos hf.le hg).len]; exact hf.le) (by omega) 171 [.fptr [.int .i64 k] 0, .fptr (ints (mp f)) 0] (fun g => !decide (itM g n k = f)) (fun g hg => p171 f g n k hf (allM_ok hf.pos hf.le hg) h6) fun post => ?_
  simp only [Bool.not_not]
  try simp only [take6, List.drop_zero, Int.cast_ofNat_Int, go_sem, ↓reduceIte, Nat.reduceEqDiff, Nat.reduceAdd, Nat.reduceMul, Nat.reduceLeDiff, Nat.reduceLT, Int.reduceLE, Int.reduceLT, reduceCtorEq]
  exact Kv.Fin.now ⟨n ^ n - 1, post, rfl, rfl⟩
theorem rts_le {f : List Nat} {n k : Nat} : (rts f n k).length ≤ n ^ n := by
  have h1 := List.length_filter_le (fun g => decide (itM g n k = f)) (allM n)
  have h2 : (allM n).length = n ^ n := by simp [allM]
  unfold rts; omega
theorem p51 (f : List Nat) (n k : Nat) (hf : Ok f n) (h1 : 1 ≤ k) (h6 : k ≤ 6) : Pure Tryz.prog 51 [.agg (ints (mp f)), .int .i64 k] (.tup [.int .i64 (rts f n k).length, .int .i64 0]) := by
  have hlf := hf.mp_len
  refine e51 (by simp) fun _ _ => ?_
  simp only [k51, argEnv, hlf, take6, List.drop_zero, Int.cast_ofNat_Int, go_sem, ↓reduceIte, Nat.reduceEqDiff, Nat.reduceAdd, Nat.reduceMul, Nat.reduceLeDiff, Nat.reduceLT, Int.reduceLE, Int.reduceLT, reduceCtorEq]
  refine (p129 f n k hf h1 h6).go fun v s ⟨ver, post, hv, hs⟩ => ?_
  subst hv; subst hs
  try simp only [ren_ref, take6, List.drop_zero, Int.cast_ofNat_Int, go_sem, ↓reduceIte, Nat.reduceEqDiff, Nat.reduceAdd, Nat.reduceMul, Nat.reduceLeDiff, Nat.reduceLT, Int.reduceLE, Int.reduceLT, reduceCtorEq]
  exact Kv.Fin.still ⟨rfl, rfl⟩
/-- The first root, or nothing. -/
def frt (f : List Nat) (n k : Nat) : List Int := match rts f n k with | [] => [0, 0, 0, 0, 0, 0] | g :: _ => mp g
def frtc (f : List Nat) (n k : Nat) : Int := match rts f n k with | [] => 4 | _ :: _ => 0
theorem p58 (f : List Nat) (n k : Nat) (hf : Ok f n) (h1 : 1 ≤ k) (h6 : k ≤ 6) : Pure Tryz.prog 58 [.agg (ints (mp f)), .int .i64 k] (.tup [.agg (ints (frt f n k)), .int .i64 (frtc f n k)]) := by
  have hlf := hf.mp_len
  refine e58 (by simp) fun _ _ => ?_
  simp only [k58, argEnv, hlf, take6, List.drop_zero, Int.cast_ofNat_Int, go_sem, ↓reduceIte, Nat.reduceEqDiff, Nat.reduceAdd, Nat.reduceMul, Nat.reduceLeDiff, Nat.reduceLT, Int.reduceLE, Int.reduceLT, reduceCtorEq]
  refine (p129 f n k hf h1 h6).go fun v s ⟨ver, post, hv, hs⟩ => ?_
  subst hv; subst hs
  try simp only [ren_ref, take6, List.drop_zero, Int.cast_ofNat_Int, go_sem, ↓reduceIte, Nat.reduceEqDiff, Nat.reduceAdd, Nat.reduceMul, Nat.reduceLeDiff, Nat.reduceLT, Int.reduceLE, Int.reduceLT, reduceCtorEq]
  cases hr : rts f n k with
  | nil =>
    try simp only [hr, take6, List.drop_zero, Int.cast_ofNat_Int, go_sem, ↓reduceIte, Nat.reduceEqDiff, Nat.reduceAdd, Nat.reduceMul, Nat.reduceLeDiff, Nat.reduceLT, Int.reduceLE, Int.reduceLT, reduceCtorEq]
    refine Kv.Fin.still ?_
    exact ⟨by simp only [frt, frtc, hr]; rfl, rfl⟩
  | cons g l =>
    have hg : g ∈ allM n := by
      have : g ∈ rts f n k := by rw [hr]; simp
      exact (List.mem_filter.1 this).1
    have hlg := (allM_ok hf.pos hf.le hg).mp_len
    have hne : ¬ ((l.length : Int) + 1 = 0) := by omega
    try simp only [hr, hlg, List.getD_cons_zero, List.length_map, take6, List.drop_zero, Int.cast_ofNat_Int, go_sem, ↓reduceIte, Nat.reduceEqDiff, Nat.reduceAdd, Nat.reduceMul, Nat.reduceLeDiff, Nat.reduceLT, Int.reduceLE, Int.reduceLT, reduceCtorEq]
    repeat' (first | refine And.intro ?_ ?_ | intro _)
    all_goals (try omega)
    exact Kv.Fin.still ⟨by simp only [frt, frtc, hr], rfl⟩
/-- What comes to pass where the map or the number is none. -/
def rtc (m : List Int) : Int := if isM m = true then 2 else 1
theorem p129_out (m : List Int) (h : m.length = 6) (k : Int) (hb : isM m = false ∨ ¬ (1 ≤ k ∧ k ≤ 6)) : Pure Tryz.prog 129 [.agg (ints m), .int .i64 k] (.tup [.nils, .int .i64 (rtc m)]) := by
  refine e129 (by simp) fun _ _ => ?_
  simp only [k129, argEnv, h, take6, List.drop_zero, Int.cast_ofNat_Int, go_sem, ↓reduceIte, Nat.reduceEqDiff, Nat.reduceAdd, Nat.reduceMul, Nat.reduceLeDiff, Nat.reduceLT, Int.reduceLE, Int.reduceLT, reduceCtorEq]
  refine (p85 m h).go ?_
  cases hm : isM m with
  | false =>
    try simp only [take6, List.drop_zero, Int.cast_ofNat_Int, go_sem, ↓reduceIte, Nat.reduceEqDiff, Nat.reduceAdd, Nat.reduceMul, Nat.reduceLeDiff, Nat.reduceLT, Int.reduceLE, Int.reduceLT, reduceCtorEq]
    exact Kv.Fin.still ⟨by simp [rtc, hm], rfl⟩
  | true =>
    have hk : ¬ (1 ≤ k ∧ k ≤ 6) := by simpa [hm] using hb
    try simp only [take6, List.drop_zero, Int.cast_ofNat_Int, go_sem, ↓reduceIte, Nat.reduceEqDiff, Nat.reduceAdd, Nat.reduceMul, Nat.reduceLeDiff, Nat.reduceLT, Int.reduceLE, Int.reduceLT, reduceCtorEq]
    refine (p77 k 1 6).go ?_
    try simp only [hk, take6, List.drop_zero, Int.cast_ofNat_Int, go_sem, ↓reduceIte, Nat.reduceEqDiff, Nat.reduceAdd, Nat.reduceMul, Nat.reduceLeDiff, Nat.reduceLT, Int.reduceLE, Int.reduceLT, reduceCtorEq]
    exact Kv.Fin.still ⟨by simp [rtc, hm], rfl⟩
theorem p135 (m : List Int) (h : m.length = 6) (k : Int) : Pure Tryz.prog 135 [.agg (ints m), .int .i64 k] (.int .i64 (if isM m = true ∧ (1 ≤ k ∧ k ≤ 6) then 0 else rtc m)) := by
  refine e135 (by simp) fun _ _ => ?_
  simp only [k135, argEnv, h, take6, List.drop_zero, Int.cast_ofNat_Int, go_sem, ↓reduceIte, Nat.reduceEqDiff, Nat.reduceAdd, Nat.reduceMul, Nat.reduceLeDiff, Nat.reduceLT, Int.reduceLE, Int.reduceLT, reduceCtorEq]
  refine (p89 m h).go ?_
  cases hm : isM m with
  | false =>
    try simp only [take6, List.drop_zero, Int.cast_ofNat_Int, go_sem, ↓reduceIte, Nat.reduceEqDiff, Nat.reduceAdd, Nat.reduceMul, Nat.reduceLeDiff, Nat.reduceLT, Int.reduceLE, Int.reduceLT, reduceCtorEq]
    exact Kv.Fin.still ⟨by simp [rtc, hm], rfl⟩
  | true =>
    try simp only [take6, List.drop_zero, Int.cast_ofNat_Int, go_sem, ↓reduceIte, Nat.reduceEqDiff, Nat.reduceAdd, Nat.reduceMul, Nat.reduceLeDiff, Nat.reduceLT, Int.reduceLE, Int.reduceLT, reduceCtorEq]
    refine (p71 k 1 6).go ?_
    try simp only [take6, List.drop_zero, Int.cast_ofNat_Int, go_sem, ↓reduceIte, Nat.reduceEqDiff, Nat.reduceAdd, Nat.reduceMul, Nat.reduceLeDiff, Nat.reduceLT, Int.reduceLE, Int.reduceLT, reduceCtorEq]
    refine ⟨fun h1 => Kv.Fin.still ⟨by simp [rtc, hm, h1], rfl⟩, fun h1 => Kv.Fin.still ⟨?_, rfl⟩⟩
    have h2 : (1 ≤ k ∧ k ≤ 6) := by simpa using h1
    simp [h2]
theorem p51_out (m : List Int) (h : m.length = 6) (k : Int) (hb : isM m = false ∨ ¬ (1 ≤ k ∧ k ≤ 6)) : Pure Tryz.prog 51 [.agg (ints m), .int .i64 k] (.tup [.int .i64 0, .int .i64 (rtc m)]) := by
  refine e51 (by simp) fun _ _ => ?_
  simp only [k51, argEnv, h, take6, List.drop_zero, Int.cast_ofNat_Int, go_sem, ↓reduceIte, Nat.reduceEqDiff, Nat.reduceAdd, Nat.reduceMul, Nat.reduceLeDiff, Nat.reduceLT, Int.reduceLE, Int.reduceLT, reduceCtorEq]
  refine (p129_out m h k hb).go ?_
  try simp only [take6, List.drop_zero, Int.cast_ofNat_Int, go_sem, ↓reduceIte, Nat.reduceEqDiff, Nat.reduceAdd, Nat.reduceMul, Nat.reduceLeDiff, Nat.reduceLT, Int.reduceLE, Int.reduceLT, reduceCtorEq]
  exact Kv.Fin.still ⟨rfl, rfl⟩
theorem rtc_ne (m : List Int) : ¬ rtc m = 0 := by unfold rtc; split <;> omega
theorem p58_out (m : List Int) (h : m.length = 6) (k : Int) (hb : isM m = false ∨ ¬ (1 ≤ k ∧ k ≤ 6)) : Pure Tryz.prog 58 [.agg (ints m), .int .i64 k] (.tup [.agg (ints [0, 0, 0, 0, 0, 0]), .int .i64 (rtc m)]) := by
  refine e58 (by simp) fun _ _ => ?_
  simp only [k58, argEnv, h, take6, List.drop_zero, Int.cast_ofNat_Int, go_sem, ↓reduceIte, Nat.reduceEqDiff, Nat.reduceAdd, Nat.reduceMul, Nat.reduceLeDiff, Nat.reduceLT, Int.reduceLE, Int.reduceLT, reduceCtorEq]
  refine (p129_out m h k hb).go ?_
  try simp only [rtc_ne m, take6, List.drop_zero, Int.cast_ofNat_Int, go_sem, ↓reduceIte, Nat.reduceEqDiff, Nat.reduceAdd, Nat.reduceMul, Nat.reduceLeDiff, Nat.reduceLT, Int.reduceLE, Int.reduceLT, reduceCtorEq]
  exact Kv.Fin.still ⟨rfl, rfl⟩
theorem not_both {m : List Int} {k : Int} (hb : isM m = false ∨ ¬ (1 ≤ k ∧ k ≤ 6)) : ¬ (isM m = true ∧ (1 ≤ k ∧ k ≤ 6)) := fun ⟨h1, h2⟩ => by
  rcases hb with hb | hb
  · rw [h1] at hb; cases hb
  · exact hb h2
theorem p62_out (m : List Int) (h : m.length = 6) (k : Int) (hb : isM m = false ∨ ¬ (1 ≤ k ∧ k ≤ 6)) : Pure Tryz.prog 62 [.agg (ints m), .int .i64 k] (.tup [.int .i64 0, .int .i64 (rtc m)]) := by
  refine e62 (by simp) fun _ _ => ?_
  simp only [k62, argEnv, h, take6, List.drop_zero, Int.cast_ofNat_Int, go_sem, ↓reduceIte, Nat.reduceEqDiff, Nat.reduceAdd, Nat.reduceMul, Nat.reduceLeDiff, Nat.reduceLT, Int.reduceLE, Int.reduceLT, reduceCtorEq]
  refine (p135 m h k).go ?_
  rw [if_neg (not_both hb)]
  try simp only [rtc_ne m, take6, List.drop_zero, Int.cast_ofNat_Int, go_sem, ↓reduceIte, Nat.reduceEqDiff, Nat.reduceAdd, Nat.reduceMul, Nat.reduceLeDiff, Nat.reduceLT, Int.reduceLE, Int.reduceLT, reduceCtorEq]
  exact Kv.Fin.still ⟨rfl, rfl⟩
theorem p59_out (m : List Int) (h : m.length = 6) (k : Int) (hb : isM m = false ∨ ¬ (1 ≤ k ∧ k ≤ 6)) : Pure Tryz.prog 59 [.agg (ints m), .int .i64 k] (.tup [.agg (ints [0, 0, 0, 0, 0, 0]), .int .i64 (rtc m)]) := by
  refine e59 (by simp) fun _ _ => ?_
  simp only [k59, argEnv, h, take6, List.drop_zero, Int.cast_ofNat_Int, go_sem, ↓reduceIte, Nat.reduceEqDiff, Nat.reduceAdd, Nat.reduceMul, Nat.reduceLeDiff, Nat.reduceLT, Int.reduceLE, Int.reduceLT, reduceCtorEq]
  refine (p135 m h k).go ?_
  rw [if_neg (not_both hb)]
  try simp only [rtc_ne m, take6, List.drop_zero, Int.cast_ofNat_Int, go_sem, ↓reduceIte, Nat.reduceEqDiff, Nat.reduceAdd, Nat.reduceMul, Nat.reduceLeDiff, Nat.reduceLT, Int.reduceLE, Int.reduceLT, reduceCtorEq]
  exact Kv.Fin.still ⟨rfl, rfl⟩
theorem p62 (f : List Nat) (n k : Nat) (hf : Ok f n) (h1 : 1 ≤ k) (h6 : k ≤ 6) : Pure Tryz.prog 62 [.agg (ints (mp f)), .int .i64 k] (.tup [.int .i64 (rts f n k).length, .int .i64 0]) := by
  have hlf := hf.mp_len
  have hnn := nn_le n (by have := hf.le; omega)
  have hin : isM (mp f) = true ∧ ((1 : Int) ≤ k ∧ (k : Int) ≤ 6) := ⟨isM_mp hf, by omega⟩
  refine e62 (by simp) fun _ _ => ?_
  simp only [k62, argEnv, hlf, take6, List.drop_zero, Int.cast_ofNat_Int, go_sem, ↓reduceIte, Nat.reduceEqDiff, Nat.reduceAdd, Nat.reduceMul, Nat.reduceLeDiff, Nat.reduceLT, Int.reduceLE, Int.reduceLT, reduceCtorEq]
  refine (p135 (mp f) hlf k).go ?_
  rw [if_pos hin]
  try simp only [hlf, hf.len, take6, List.drop_zero, Int.cast_ofNat_Int, go_sem, ↓reduceIte, Nat.reduceEqDiff, Nat.reduceAdd, Nat.reduceMul, Nat.reduceLeDiff, Nat.reduceLT, Int.reduceLE, Int.reduceLT, reduceCtorEq]
  refine (p82 n hf.pos hf.le).go ?_
  try simp only [take6, List.drop_zero, Int.cast_ofNat_Int, go_sem, ↓reduceIte, Nat.reduceEqDiff, Nat.reduceAdd, Nat.reduceMul, Nat.reduceLeDiff, Nat.reduceLT, Int.reduceLE, Int.reduceLT, reduceCtorEq]
  have hml : (allM n).length = n ^ n := by simp [allM]
  refine KL_ind k62_b0.eq_1 (fun x : Nat => [(1, .int .i64 k), (2, .fptr (ints (mp f)) 0), (7, .list (aggs ((allM n).map mp))), (8, .int .i64 (((allM n).take x).filter fun g => decide (itM g n k = f)).length), (9, .int .i64 x)]) (fun _ => []) (fun x => x ≤ n ^ n) (fun x => n ^ n - x) [1, 2, 7, 8, 9] 0 (by rfl) rfl (Nat.zero_le _) fun x hx ih => ?_
  try simp only [hlf, List.length_map, hml, take6, List.drop_zero, Int.cast_ofNat_Int, go_sem, ↓reduceIte, Nat.reduceEqDiff, Nat.reduceAdd, Nat.reduceMul, Nat.reduceLeDiff, Nat.reduceLT, Int.reduceLE, Int.reduceLT, reduceCtorEq]
  refine ⟨fun h1 => ⟨by omega, fun h2 => ?_⟩, fun h1 => ?_⟩
  · have hxl : x < (allM n).length := by omega
    have hg := allM_ok hf.pos hf.le (List.getElem_mem hxl)
    have e : ((allM n).map mp).getD x [] = mp (allM n)[x] := by simp [List.getD_eq_getElem?_getD, hxl]
    rw [e]
    have hlg := hg.mp_len
    try simp only [hlg, take6, List.drop_zero, Int.cast_ofNat_Int, go_sem, ↓reduceIte, Nat.reduceEqDiff, Nat.reduceAdd, Nat.reduceMul, Nat.reduceLeDiff, Nat.reduceLT, Int.reduceLE, Int.reduceLT, reduceCtorEq]
    refine (p92 _ n k hg (by omega)).pgo ?_
    have k1 := (itM_ok hg k).mp_len
    try simp only [k1, hlf, take6, List.drop_zero, Int.cast_ofNat_Int, go_sem, ↓reduceIte, Nat.reduceEqDiff, Nat.reduceAdd, Nat.reduceMul, Nat.reduceLeDiff, Nat.reduceLT, Int.reduceLE, Int.reduceLT, reduceCtorEq]
    have hs := filter_take_succ (p := fun g => decide (itM g n k = f)) hxl
    have hle : (((allM n).take x).filter fun g => decide (itM g n k = f)).length ≤ x := by
      have := List.length_filter_le (fun g => decide (itM g n k = f)) ((allM n).take x)
      simp only [List.length_take] at this; omega
    refine ⟨fun h3 => ?_, fun h3 => ?_⟩
    · rw [if_pos (decide_eq_true (mp_inj h3))] at hs
      repeat' (first | refine And.intro ?_ ?_ | intro _)
      all_goals (try omega)
      refine ih (x + 1) (by omega) (by omega) _ _ ?_ rfl
      simp [keep, hs]
    · have h4 : ¬ itM (allM n)[x] n k = f := fun h => h3 (by rw [h])
      rw [if_neg (by simpa using h4), List.append_nil] at hs
      repeat' (first | refine And.intro ?_ ?_ | intro _)
      all_goals (try omega)
      refine ih (x + 1) (by omega) (by omega) _ _ ?_ rfl
      simp [keep, hs]
  · obtain rfl : x = n ^ n := by omega
    refine Kv.Fin.still ⟨?_, rfl⟩
    rw [← hml, List.take_length]
    rfl
theorem p59 (f : List Nat) (n k : Nat) (hf : Ok f n) (h1 : 1 ≤ k) (h6 : k ≤ 6) : Pure Tryz.prog 59 [.agg (ints (mp f)), .int .i64 k] (.tup [.agg (ints (frt f n k)), .int .i64 (frtc f n k)]) := by
  have hlf := hf.mp_len
  have hnn := nn_le n (by have := hf.le; omega)
  have hin : isM (mp f) = true ∧ ((1 : Int) ≤ k ∧ (k : Int) ≤ 6) := ⟨isM_mp hf, by omega⟩
  refine e59 (by simp) fun _ _ => ?_
  simp only [k59, argEnv, hlf, take6, List.drop_zero, Int.cast_ofNat_Int, go_sem, ↓reduceIte, Nat.reduceEqDiff, Nat.reduceAdd, Nat.reduceMul, Nat.reduceLeDiff, Nat.reduceLT, Int.reduceLE, Int.reduceLT, reduceCtorEq]
  refine (p135 (mp f) hlf k).go ?_
  rw [if_pos hin]
  try simp only [hlf, hf.len, take6, List.drop_zero, Int.cast_ofNat_Int, go_sem, ↓reduceIte, Nat.reduceEqDiff, Nat.reduceAdd, Nat.reduceMul, Nat.reduceLeDiff, Nat.reduceLT, Int.reduceLE, Int.reduceLT, reduceCtorEq]
  refine (p82 n hf.pos hf.le).go ?_
  try simp only [take6, List.drop_zero, Int.cast_ofNat_Int, go_sem, ↓reduceIte, Nat.reduceEqDiff, Nat.reduceAdd, Nat.reduceMul, Nat.reduceLeDiff, Nat.reduceLT, Int.reduceLE, Int.reduceLT, reduceCtorEq]
  have hml : (allM n).length = n ^ n := by simp [allM]
  refine KL_ind k59_b0.eq_1 (fun x : Nat => [(1, .int .i64 k), (2, .fptr (ints (mp f)) 0), (4, .ptr 0 0), (7, .list (aggs ((allM n).map mp))), (8, .int .i64 x)]) (fun _ => [.box (ints [0, 0, 0, 0, 0, 0])]) (fun x => x ≤ n ^ n ∧ ((allM n).take x).filter (fun g => decide (itM g n k = f)) = []) (fun x => n ^ n - x) [1, 2, 4, 7, 8] 0 (by rfl) rfl ⟨Nat.zero_le _, rfl⟩ fun x ⟨hx, hno⟩ ih => ?_
  try simp only [hlf, List.length_map, hml, take6, List.drop_zero, Int.cast_ofNat_Int, go_sem, ↓reduceIte, Nat.reduceEqDiff, Nat.reduceAdd, Nat.reduceMul, Nat.reduceLeDiff, Nat.reduceLT, Int.reduceLE, Int.reduceLT, reduceCtorEq]
  refine ⟨fun h1 => ⟨by omega, fun h2 => ?_⟩, fun h1 => ?_⟩
  · have hxl : x < (allM n).length := by omega
    have hg := allM_ok hf.pos hf.le (List.getElem_mem hxl)
    have e : ((allM n).map mp).getD x [] = mp (allM n)[x] := by simp [List.getD_eq_getElem?_getD, hxl]
    rw [e]
    have hlg := hg.mp_len
    try simp only [hlg, take6, List.drop_zero, Int.cast_ofNat_Int, go_sem, ↓reduceIte, Nat.reduceEqDiff, Nat.reduceAdd, Nat.reduceMul, Nat.reduceLeDiff, Nat.reduceLT, Int.reduceLE, Int.reduceLT, reduceCtorEq]
    refine (p92 _ n k hg (by omega)).pgo ?_
    have k1 := (itM_ok hg k).mp_len
    try simp only [k1, hlf, hml, take6, List.drop_zero, Int.cast_ofNat_Int, go_sem, ↓reduceIte, Nat.reduceEqDiff, Nat.reduceAdd, Nat.reduceMul, Nat.reduceLeDiff, Nat.reduceLT, Int.reduceLE, Int.reduceLT, reduceCtorEq]
    have hs := filter_take_succ (p := fun g => decide (itM g n k = f)) hxl
    refine ⟨fun h3 => ?_, fun h3 => ?_⟩
    · rw [hno, if_pos (decide_eq_true (mp_inj h3)), List.nil_append] at hs
      have hr : rts f n k = (allM n)[x] :: ((allM n).drop (x + 1)).filter fun g => decide (itM g n k = f) := by
        unfold rts
        conv => lhs; rw [← List.take_append_drop (x + 1) (allM n), List.filter_append, hs]
        rfl
      rw [e]
      try simp only [hlg, take6, List.drop_zero, Int.cast_ofNat_Int, go_sem, ↓reduceIte, Nat.reduceEqDiff, Nat.reduceAdd, Nat.reduceMul, Nat.reduceLeDiff, Nat.reduceLT, Int.reduceLE, Int.reduceLT, reduceCtorEq]
      simp only [List.length_map, hml]
      repeat' (first | refine And.intro ?_ ?_ | intro _)
      all_goals (try omega)
      exact Kv.Fin.still ⟨by simp only [frt, frtc, hr], rfl⟩
    · have h4 : ¬ itM (allM n)[x] n k = f := fun h => h3 (by rw [h])
      rw [hno, if_neg (by simpa using h4), List.append_nil] at hs
      repeat' (first | refine And.intro ?_ ?_ | intro _)
      all_goals (try omega)
      exact ih (x + 1) ⟨by omega, hs⟩ (by omega) _ _ (by rfl) rfl
  · obtain rfl : x = n ^ n := by omega
    rw [← hml, List.take_length] at hno
    have hr : rts f n k = [] := hno
    have e : frt f n k = [0, 0, 0, 0, 0, 0] := by simp only [frt, hr]
    have e2 : frtc f n k = 4 := by simp only [frtc, hr]
    rw [e, e2]
    refine Kv.Fin.still ?_
    exact ⟨rfl, rfl⟩
end Go.Proofs.YtpfapiiinkkcgaaGreat
