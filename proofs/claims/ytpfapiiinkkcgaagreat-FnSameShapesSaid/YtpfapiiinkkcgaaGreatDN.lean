/- Draws of numbers and of one map; sums, members. -/
import Derived.Test.YtpfapiiinkkcgaaGreatCb
import Derived.Test.YtpfapiiinkkcgaaGreatDD
namespace Go.Proofs.YtpfapiiinkkcgaaGreat
open Go.Kv
set_option maxRecDepth 100000
/- spec.l01Near -/
def k67 : KC := (.seq (.ops [⟨(some 4), none, .mv (.c (.int .i64 0))⟩])
  (.seq (.seq (.ops [⟨(some 5), none, .mv (.t 0)⟩, ⟨(some 6), none, .call (.c (.fn (.func 124) [] [])) [(.t 5), (.c (.int .i64 14))]⟩, ⟨(some 7), none, .bin .eql (.t 6) (.c (.int .i64 0))⟩])
  (.cond (.t 7) (.seq (.ops [⟨(some 8), none, .mv (.t 0)⟩, ⟨(some 9), none, .mv (.t 1)⟩, ⟨(some 10), none, .bin .add (.t 9) (.c (.int .i64 1))⟩, ⟨(some 11), none, .bsl false 2 1 [(.c (.int .i64 (-1))), (.t 10), (.c (.int .i64 1099511627776)), (.c (.int .i64 (-4611686018427387904)))]⟩, ⟨(some 12), none, .call (.c (.fn (.func 76) [] [])) [(.t 8), (.t 11)]⟩, ⟨(some 4), none, .mv (.t 12)⟩])
  .ret) .skip))
  (.seq (.ops [⟨(some 13), none, .mv (.t 0)⟩, ⟨(some 14), none, .mv (.t 1)⟩, ⟨(some 15), none, .bin .add (.t 14) (.c (.int .i64 1))⟩, ⟨(some 16), none, .call (.c (.fn (.func 124) [] [])) [(.t 13), (.t 15)]⟩, ⟨(some 4), none, .mv (.t 16)⟩])
  .ret)))
theorem e67 {args : List PV} {σ : Heap} {K : PV → Heap → Prop} (hl : args.length ≤ 17) (h : Wf σ → (∀ a ∈ args, PV.upto σ.length a) → vc (mkCfg Tryz.prog mixed [] 17 σ.length) k67 (FinK σ.length [.t 4] K) (argEnv 0 args) σ) : ACall Tryz.prog 67 args σ K :=
  ACall_enter (C := mkCfg Tryz.prog mixed [] 17 σ.length) (c := Tryz.f67.body.getD .skip) Tryz.func67 (by kernel_rfl) (by kernel_rfl) (by kernel_rfl) rfl hl (by kernel_rfl) (by kernel_rfl) h
/- spec.DrawCountByRank -/
def k7 : KC := (.seq (.ops [⟨(some 2), none, .mv (.c (.int .i64 0))⟩])
  (.seq (.ops [⟨(some 3), none, .mv (.t 0)⟩, ⟨(some 4), none, .call (.c (.fn (.func 68) [] [])) [(.t 3)]⟩, ⟨(some 5), none, .call (.c (.fn (.func 67) [] [])) [(.t 4), (.c (.int .i64 11))]⟩, ⟨(some 6), none, .bin .add (.c (.int .i64 1)) (.t 5)⟩, ⟨(some 2), none, .mv (.t 6)⟩])
  .ret))
theorem e7 {args : List PV} {σ : Heap} {K : PV → Heap → Prop} (hl : args.length ≤ 7) (h : Wf σ → (∀ a ∈ args, PV.upto σ.length a) → vc (mkCfg Tryz.prog mixed [] 7 σ.length) k7 (FinK σ.length [.t 2] K) (argEnv 0 args) σ) : ACall Tryz.prog 7 args σ K :=
  ACall_enter (C := mkCfg Tryz.prog mixed [] 7 σ.length) (c := Tryz.f7.body.getD .skip) Tryz.func7 (by kernel_rfl) (by kernel_rfl) (by kernel_rfl) rfl hl (by kernel_rfl) (by kernel_rfl) h
/- spec.DrawCountShapes -/
def k16 : KC := (.seq (.ops [⟨(some 2), none, .mv (.c (.int .i64 0))⟩])
  (.seq (.ops [⟨(some 3), none, .mv (.t 0)⟩, ⟨(some 4), none, .call (.c (.fn (.func 68) [] [])) [(.t 3)]⟩, ⟨(some 5), none, .bsl false 2 1 [(.c (.int .i64 1)), (.c (.int .i64 2)), (.c (.int .i64 2)), (.c (.int .i64 3)), (.c (.int .i64 3)), (.c (.int .i64 4)), (.c (.int .i64 4)), (.c (.int .i64 5)), (.c (.int .i64 0)), (.c (.int .i64 6))]⟩, ⟨(some 6), none, .call (.c (.fn (.func 76) [] [])) [(.t 4), (.t 5)]⟩, ⟨(some 2), none, .mv (.t 6)⟩])
  .ret))
theorem e16 {args : List PV} {σ : Heap} {K : PV → Heap → Prop} (hl : args.length ≤ 7) (h : Wf σ → (∀ a ∈ args, PV.upto σ.length a) → vc (mkCfg Tryz.prog mixed [] 7 σ.length) k16 (FinK σ.length [.t 2] K) (argEnv 0 args) σ) : ACall Tryz.prog 16 args σ K :=
  ACall_enter (C := mkCfg Tryz.prog mixed [] 7 σ.length) (c := Tryz.f16.body.getD .skip) Tryz.func16 (by kernel_rfl) (by kernel_rfl) (by kernel_rfl) rfl hl (by kernel_rfl) (by kernel_rfl) h
/- spec.DrawBasinsOf -/
def k19 : KC := (.seq (.ops [⟨(some 2), none, .alloc [.int .i64 0, .int .i64 0, .int .i64 0, .int .i64 0, .int .i64 0, .int .i64 0]⟩])
  (.seq (.ops [⟨(some 3), none, .mv (.t 0)⟩, ⟨(some 4), none, .call (.c (.fn (.func 68) [] [])) [(.t 3)]⟩, ⟨(some 5), none, .call (.c (.fn (.func 84) [] [])) [(.t 4)]⟩, ⟨none, none, .store 6 (.t 2) (.t 5)⟩])
  .ret))
theorem e19 {args : List PV} {σ : Heap} {K : PV → Heap → Prop} (hl : args.length ≤ 6) (h : Wf σ → (∀ a ∈ args, PV.upto σ.length a) → vc (mkCfg Tryz.prog mixed [] 6 σ.length) k19 (FinK σ.length [.cell 2 true 6] K) (argEnv 0 args) σ) : ACall Tryz.prog 19 args σ K :=
  ACall_enter (C := mkCfg Tryz.prog mixed [] 6 σ.length) (c := Tryz.f19.body.getD .skip) Tryz.func19 (by kernel_rfl) (by kernel_rfl) (by kernel_rfl) rfl hl (by kernel_rfl) (by kernel_rfl) h
/- laws.sum -/
/- live [0, 3, 4] -/
def k15_b0 : KC := (.seq (.seq (.ops [⟨(some 5), none, .mv (.t 4)⟩, ⟨(some 6), none, .mv (.t 0)⟩, ⟨(some 7), none, .len false (.t 6)⟩, ⟨(some 8), none, .bin .lss (.t 5) (.t 7)⟩])
  (.cond (.t 8) .skip (.exit 0)))
  (.seq (.block 1 (.ops [⟨(some 11), none, .mv (.t 3)⟩, ⟨(some 12), none, .mv (.t 0)⟩, ⟨(some 13), none, .mv (.t 4)⟩, ⟨(some 14), none, .idxS 1 (.t 12) (.t 13)⟩, ⟨(some 15), none, .load false 1 (.t 14)⟩, ⟨(some 16), none, .bin .add (.t 11) (.t 15)⟩, ⟨(some 3), none, .mv (.t 16)⟩]))
  (.ops [⟨(some 9), none, .mv (.t 4)⟩, ⟨(some 10), none, .bin .add (.t 9) (.c (.int .i64 1))⟩, ⟨(some 4), none, .mv (.t 10)⟩])))
def k15 : KC := (.seq (.ops [⟨(some 2), none, .mv (.c (.int .i64 0))⟩])
  (.seq (.ops [⟨(some 3), none, .mv (.c (.int .i64 0))⟩])
  (.seq (.seq (.ops [⟨(some 4), none, .mv (.c (.int .i64 0))⟩])
  (.block 0 (.loop k15_b0)))
  (.seq (.ops [⟨(some 17), none, .mv (.t 3)⟩, ⟨(some 2), none, .mv (.t 17)⟩])
  .ret))))
theorem e15 {args : List PV} {σ : Heap} {K : PV → Heap → Prop} (hl : args.length ≤ 18) (h : Wf σ → (∀ a ∈ args, PV.upto σ.length a) → vc (mkCfg Tryz.prog mixed [] 18 σ.length) k15 (FinK σ.length [.t 2] K) (argEnv 0 args) σ) : ACall Tryz.prog 15 args σ K :=
  ACall_enter (C := mkCfg Tryz.prog mixed [] 18 σ.length) (c := Tryz.f15.body.getD .skip) Tryz.func15 (by kernel_rfl) (by kernel_rfl) (by kernel_rfl) rfl hl (by kernel_rfl) (by kernel_rfl) h
/- laws.hasInt -/
/- live [0, 1, 5] -/
def k27_b0 : KC := (.seq (.seq (.ops [⟨(some 6), none, .mv (.t 5)⟩, ⟨(some 7), none, .mv (.t 0)⟩, ⟨(some 8), none, .len false (.t 7)⟩, ⟨(some 9), none, .bin .lss (.t 6) (.t 8)⟩])
  (.cond (.t 9) .skip (.exit 0)))
  (.seq (.block 1 (.seq (.ops [⟨(some 12), none, .mv (.t 0)⟩, ⟨(some 13), none, .mv (.t 5)⟩, ⟨(some 14), none, .idxS 1 (.t 12) (.t 13)⟩, ⟨(some 15), none, .load false 1 (.t 14)⟩, ⟨(some 16), none, .mv (.t 1)⟩, ⟨(some 17), none, .bin .eql (.t 15) (.t 16)⟩])
  (.cond (.t 17) (.seq (.ops [⟨(some 4), none, .mv (.c (.bool true))⟩])
  .ret) .skip)))
  (.ops [⟨(some 10), none, .mv (.t 5)⟩, ⟨(some 11), none, .bin .add (.t 10) (.c (.int .i64 1))⟩, ⟨(some 5), none, .mv (.t 11)⟩])))
def k27 : KC := (.seq (.ops [⟨(some 4), none, .mv (.c (.bool false))⟩])
  (.seq (.seq (.ops [⟨(some 5), none, .mv (.c (.int .i64 0))⟩])
  (.block 0 (.loop k27_b0)))
  (.seq (.ops [⟨(some 4), none, .mv (.c (.bool false))⟩])
  .ret)))
theorem e27 {args : List PV} {σ : Heap} {K : PV → Heap → Prop} (hl : args.length ≤ 18) (h : Wf σ → (∀ a ∈ args, PV.upto σ.length a) → vc (mkCfg Tryz.prog mixed [] 18 σ.length) k27 (FinK σ.length [.t 4] K) (argEnv 0 args) σ) : ACall Tryz.prog 27 args σ K :=
  ACall_enter (C := mkCfg Tryz.prog mixed [] 18 σ.length) (c := Tryz.f27.body.getD .skip) Tryz.func27 (by kernel_rfl) (by kernel_rfl) (by kernel_rfl) rfl hl (by kernel_rfl) (by kernel_rfl) h
end Go.Proofs.YtpfapiiinkkcgaaGreat
namespace Go.Proofs.YtpfapiiinkkcgaaGreat
open Go.Kv
set_option linter.unusedVariables false
set_option linter.unusedSimpArgs false
attribute [local irreducible] ACall PCall KL
theorem p67 {l : List Int} (hl : Byt l) {σ : Heap} {b : Nat} (hS : Src σ b l) (most : Int) (hm : 0 ≤ most ∧ most ≤ 1000) {K : PV → Heap → Prop}
    (hK : ∀ (r : Int) σ', -4611686018427387904 ≤ r → r ≤ 1099511627776 → Src σ' b l → Kept σ σ' b → K (.int .i64 r) σ') : ACall Tryz.prog 67 [.ptr b 0, .int .i64 most] σ K := by
  refine e67 (by simp) fun _ _ => ?_
  simp only [k67, argEnv, take6, List.drop_zero, Int.cast_ofNat_Int, go_sem, ↓reduceIte, Nat.reduceEqDiff, Nat.reduceAdd, Nat.reduceMul, Nat.reduceLeDiff, Nat.reduceLT, Int.reduceLE, Int.reduceLT, reduceCtorEq]
  refine p124 hl hS _ fun r1 τ n1 n2 n3 n4 n5 => ?_
  have hlt := n3.lt
  try simp only [OpK_eq, HKv, take6, List.drop_zero, Int.cast_ofNat_Int, go_sem, ↓reduceIte, Nat.reduceEqDiff, Nat.reduceAdd, Nat.reduceMul, Nat.reduceLeDiff, Nat.reduceLT, Int.reduceLE, Int.reduceLT, reduceCtorEq]
  refine ⟨fun _ => ⟨by omega, ?_⟩, fun _ => ⟨by omega, ?_⟩⟩
  · refine p76 hl (n3.app _) [-1, most + 1, 1099511627776, -4611686018427387904] (by simp) (id := τ.length) (ver := 0) (e := 2) (by simp [ints]) (by omega) 4 rfl fun r2 ρ w1 w2 w3 w4 => ?_
    try simp only [OpK_eq, HKv, take6, List.drop_zero, Int.cast_ofNat_Int, go_sem, ↓reduceIte, Nat.reduceEqDiff, Nat.reduceAdd, Nat.reduceMul, Nat.reduceLeDiff, Nat.reduceLT, Int.reduceLE, Int.reduceLT, reduceCtorEq]
    have hr : -4611686018427387904 ≤ r2 ∧ r2 ≤ 1099511627776 := by
      simp only [List.mem_cons, List.not_mem_nil, or_false] at w1
      omega
    exact Kv.Fin.now (hK r2 ρ hr.1 hr.2 w2 (n4.trans ((Kept.app _ _ _).trans w3)))
  · refine p124 hl n3 _ fun r2 ρ w1 w2 w3 w4 w5 => ?_
    have := w2 (by omega)
    try simp only [OpK_eq, HKv, take6, List.drop_zero, Int.cast_ofNat_Int, go_sem, ↓reduceIte, Nat.reduceEqDiff, Nat.reduceAdd, Nat.reduceMul, Nat.reduceLeDiff, Nat.reduceLT, Int.reduceLE, Int.reduceLT, reduceCtorEq]
    exact Kv.Fin.now (hK r2 ρ (by omega) (by omega) w3 (n4.trans w4))
theorem p7 {l : List Int} (hl : Byt l) {K : PV → Heap → Prop} (hK : ∀ n : Int, K (.int .i64 n) []) : ACall Tryz.prog 7 [.list (u8s l)] [] K := by
  refine e7 (by simp) fun _ _ => ?_
  simp only [k7, argEnv, take6, List.drop_zero, Int.cast_ofNat_Int, go_sem, ↓reduceIte, Nat.reduceEqDiff, Nat.reduceAdd, Nat.reduceMul, Nat.reduceLeDiff, Nat.reduceLT, Int.reduceLE, Int.reduceLT, reduceCtorEq]
  refine p68 hl fun h => ?_
  have hS0 : Src [srcO l 0 h] 0 l := ⟨0, h, rfl, Nat.zero_le _⟩
  try simp only [OpK_eq, HKv, take6, List.drop_zero, Int.cast_ofNat_Int, go_sem, ↓reduceIte, Nat.reduceEqDiff, Nat.reduceAdd, Nat.reduceMul, Nat.reduceLeDiff, Nat.reduceLT, Int.reduceLE, Int.reduceLT, reduceCtorEq]
  refine p67 hl hS0 11 (by omega) fun r τ q1 q2 q3 q4 => ?_
  try simp only [OpK_eq, HKv, take6, List.drop_zero, Int.cast_ofNat_Int, go_sem, ↓reduceIte, Nat.reduceEqDiff, Nat.reduceAdd, Nat.reduceMul, Nat.reduceLeDiff, Nat.reduceLT, Int.reduceLE, Int.reduceLT, reduceCtorEq]
  exact ⟨by omega, Kv.Fin.still (hK _)⟩
theorem p16 {l : List Int} (hl : Byt l) {K : PV → Heap → Prop} (hK : ∀ n : Int, K (.int .i64 n) []) : ACall Tryz.prog 16 [.list (u8s l)] [] K := by
  refine e16 (by simp) fun _ _ => ?_
  simp only [k16, argEnv, take6, List.drop_zero, Int.cast_ofNat_Int, go_sem, ↓reduceIte, Nat.reduceEqDiff, Nat.reduceAdd, Nat.reduceMul, Nat.reduceLeDiff, Nat.reduceLT, Int.reduceLE, Int.reduceLT, reduceCtorEq]
  refine p68 hl fun h => ?_
  have hS0 : Src [srcO l 0 h] 0 l := ⟨0, h, rfl, Nat.zero_le _⟩
  try simp only [OpK_eq, HKv, take6, List.drop_zero, Int.cast_ofNat_Int, go_sem, ↓reduceIte, Nat.reduceEqDiff, Nat.reduceAdd, Nat.reduceMul, Nat.reduceLeDiff, Nat.reduceLT, Int.reduceLE, Int.reduceLT, reduceCtorEq]
  refine p76 hl (hS0.app _) [1, 2, 2, 3, 3, 4, 4, 5, 0, 6] (by simp) (id := 1) (ver := 0) (e := 2) (by simp [ints]) (by decide) 10 rfl fun r τ w1 w2 w3 w4 => ?_
  try simp only [OpK_eq, HKv, take6, List.drop_zero, Int.cast_ofNat_Int, go_sem, ↓reduceIte, Nat.reduceEqDiff, Nat.reduceAdd, Nat.reduceMul, Nat.reduceLeDiff, Nat.reduceLT, Int.reduceLE, Int.reduceLT, reduceCtorEq]
  exact Kv.Fin.still (hK r)
theorem p68G {l : List Int} (hl : Byt l) {σ : Heap} {K : PV → Heap → Prop} (hK : ∀ h, K (.ptr σ.length 0) (σ ++ [srcO l 0 h])) : ACall Tryz.prog 68 [.list (u8s l)] σ K := by
  refine ACall.go (p68 hl (K := fun v s => ∃ h, v = .ptr 0 0 ∧ s = [srcO l 0 h]) fun h => ⟨h, rfl, rfl⟩) fun v s ⟨h, hv, hs⟩ => ?_
  subst hv; subst hs
  have := hK h
  have e : (u8s l).map (PV.ren (Kv.sh σ.length)) = u8s l := by simp [u8s, PV.ren, Function.comp_def]
  simpa [srcO, Kv.sh, AObj.ren, PV.ren, e] using this
theorem p19 {l : List Int} (hl : Byt l) {K : PV → Heap → Prop} (hK : ∀ m : List Int, m.length = 6 → K (.agg (ints m)) []) : ACall Tryz.prog 19 [.list (u8s l)] [] K := by
  refine e19 (by simp) fun _ _ => ?_
  simp only [k19, argEnv, take6, List.drop_zero, Int.cast_ofNat_Int, go_sem, ↓reduceIte, Nat.reduceEqDiff, Nat.reduceAdd, Nat.reduceMul, Nat.reduceLeDiff, Nat.reduceLT, Int.reduceLE, Int.reduceLT, reduceCtorEq]
  generalize hz : AObj.box [PV.int .i64 0, PV.int .i64 0, PV.int .i64 0, PV.int .i64 0, PV.int .i64 0, PV.int .i64 0] = z
  refine p68G hl fun h => ?_
  have hS0 : Src ([z] ++ [srcO l 0 h]) 1 l := ⟨0, h, rfl, Nat.zero_le _⟩
  try simp only [OpK_eq, HKv, take6, List.drop_zero, Int.cast_ofNat_Int, go_sem, ↓reduceIte, Nat.reduceEqDiff, Nat.reduceAdd, Nat.reduceMul, Nat.reduceLeDiff, Nat.reduceLT, Int.reduceLE, Int.reduceLT, reduceCtorEq]
  refine p84 hl hS0 fun m τ q1 q2 q3 => ?_
  have hz2 : τ[0]? = some z := (q3.2 0 (by simp) (by decide)).trans rfl
  have hself : ∀ o, (τ.set 0 o)[0]? = some o := fun o => List.getElem?_set_self (List.getElem?_eq_some_iff.1 hz2).1
  have hil : (ints m).length = 6 := by rw [ints_length, q1]
  subst hz
  try simp only [OpK_eq, HKv, hz2, hself, hil, take6, List.drop_zero, Int.cast_ofNat_Int, go_sem, ↓reduceIte, Nat.reduceEqDiff, Nat.reduceAdd, Nat.reduceMul, Nat.reduceLeDiff, Nat.reduceLT, Int.reduceLE, Int.reduceLT, reduceCtorEq]
  exact Kv.Fin.still (hK m q1)
/-- A sum whose parts are small. -/
theorem p15 (L : List Int) (hL : L.length ≤ 1000) (hb : ∀ k, k ≤ L.length → 0 ≤ (L.take k).sum ∧ (L.take k).sum ≤ 1000000000000000000) : Pure Tryz.prog 15 [.list (ints L)] (.int .i64 L.sum) := by
  refine e15 (by simp) fun _ _ => ?_
  simp only [k15, argEnv, take6, List.drop_zero, Int.cast_ofNat_Int, go_sem, ↓reduceIte, Nat.reduceEqDiff, Nat.reduceAdd, Nat.reduceMul, Nat.reduceLeDiff, Nat.reduceLT, Int.reduceLE, Int.reduceLT, reduceCtorEq]
  refine KL_ind k15_b0.eq_1 (fun x : Nat => [(0, .list (ints L)), (3, .int .i64 (L.take x).sum), (4, .int .i64 x)]) (fun _ => []) (fun x => x ≤ L.length) (fun x => L.length - x) [0, 3, 4] 0 (by simp [keep]) rfl (Nat.zero_le _) fun x hx ih => ?_
  try simp only [OpK_eq, HKv, take6, List.drop_zero, Int.cast_ofNat_Int, go_sem, ↓reduceIte, Nat.reduceEqDiff, Nat.reduceAdd, Nat.reduceMul, Nat.reduceLeDiff, Nat.reduceLT, Int.reduceLE, Int.reduceLT, reduceCtorEq]
  refine ⟨fun g1 => ?_, fun g1 => ?_⟩
  · have hxl : x < L.length := by omega
    have hs : (L.take (x + 1)).sum = (L.take x).sum + L.getD x 0 := by
      rw [List.take_succ_eq_append_getElem hxl, List.sum_append]
      simp [List.getD_eq_getElem?_getD, hxl]
    have h1 := hb (x + 1) (by omega)
    rw [hs] at h1
    exact ⟨by omega, fun _ => ⟨by omega, by omega, ih (x + 1) (by omega) (by omega) _ _ (by simp [keep, hs]) rfl⟩⟩
  · obtain rfl : x = L.length := by omega
    rw [List.take_length]
    exact Kv.Fin.still ⟨rfl, rfl⟩
theorem p27 (L : List Int) (hL : L.length ≤ 1000) (v : Int) : Pure Tryz.prog 27 [.list (ints L), .int .i64 v] (.bool (decide (v ∈ L))) := by
  refine e27 (by simp) fun _ _ => ?_
  simp only [k27, argEnv, take6, List.drop_zero, Int.cast_ofNat_Int, go_sem, ↓reduceIte, Nat.reduceEqDiff, Nat.reduceAdd, Nat.reduceMul, Nat.reduceLeDiff, Nat.reduceLT, Int.reduceLE, Int.reduceLT, reduceCtorEq]
  refine KL_ind k27_b0.eq_1 (fun x : Nat => [(0, .list (ints L)), (1, .int .i64 v), (5, .int .i64 x)]) (fun _ => []) (fun x => x ≤ L.length ∧ v ∉ L.take x) (fun x => L.length - x) [0, 1, 5] 0 (by simp [keep]) rfl ⟨Nat.zero_le _, by simp⟩ fun x ⟨hx, hn⟩ ih => ?_
  try simp only [OpK_eq, HKv, take6, List.drop_zero, Int.cast_ofNat_Int, go_sem, ↓reduceIte, Nat.reduceEqDiff, Nat.reduceAdd, Nat.reduceMul, Nat.reduceLeDiff, Nat.reduceLT, Int.reduceLE, Int.reduceLT, reduceCtorEq]
  refine ⟨fun g1 => ?_, fun g1 => ?_⟩
  · have hxl : x < L.length := by omega
    have hg : L.getD x 0 = L[x] := by simp [List.getD_eq_getElem?_getD, hxl]
    rw [hg]
    refine ⟨by omega, fun _ => ⟨fun h => Kv.Fin.still ⟨?_, rfl⟩, fun h => ⟨by omega, ih (x + 1) ⟨by omega, ?_⟩ (by omega) _ _ (by simp [keep]) rfl⟩⟩⟩
    · rw [decide_eq_true (by rw [← h]; exact List.getElem_mem hxl)]
    · rw [List.take_succ_eq_append_getElem hxl, List.mem_append, List.mem_singleton]
      rintro (h' | h')
      · exact hn h'
      · exact h h'.symm
  · obtain rfl : x = L.length := by omega
    rw [List.take_length] at hn
    rw [decide_eq_false hn]
    exact Kv.Fin.still ⟨rfl, rfl⟩
end Go.Proofs.YtpfapiiinkkcgaaGreat
