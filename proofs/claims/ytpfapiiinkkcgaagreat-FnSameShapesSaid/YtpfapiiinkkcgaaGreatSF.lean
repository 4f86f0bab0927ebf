/- Sorting of at most twelve numbers by a function, the greatest first. -/
import Derived.Test.YtpfapiiinkkcgaaGreatCb
import Derived.Test.YtpfapiiinkkcgaaGreatIN
namespace Go.Proofs.YtpfapiiinkkcgaaGreat
open Go.Kv
set_option maxRecDepth 100000
/- slices.insertionSortCmpFunc[int64] -/
/- live [0, 1, 2, 3, 8, 9, 22, 23, 24, 25, 26, 27, 28, 29, 30, 31, 32, 33] -/
def k177_b0 : KC := (.seq (.seq (.draw [⟨(some 18), none, .mv (.t 9)⟩, ⟨(some 19), none, .mv (.t 1)⟩, ⟨(some 20), none, .bin .gtr (.t 18) (.t 19)⟩, ⟨(some 21), none, .mv (.t 20)⟩, ⟨(some 22), some (21, true), .mv (.t 3)⟩, ⟨(some 23), some (21, true), .mv (.t 0)⟩, ⟨(some 24), some (21, true), .mv (.t 9)⟩, ⟨(some 25), some (21, true), .idxS 1 (.t 23) (.t 24)⟩, ⟨(some 26), some (21, true), .load false 1 (.t 25)⟩, ⟨(some 27), some (21, true), .mv (.t 0)⟩, ⟨(some 28), some (21, true), .mv (.t 9)⟩, ⟨(some 29), some (21, true), .bin .sub (.t 28) (.c (.int .i64 1))⟩, ⟨(some 30), some (21, true), .idxS 1 (.t 27) (.t 29)⟩, ⟨(some 31), some (21, true), .load false 1 (.t 30)⟩, ⟨(some 32), some (21, true), .call (.t 22) [(.t 26), (.t 31)]⟩, ⟨(some 33), some (21, true), .bin .lss (.t 32) (.c (.int .i64 0))⟩, ⟨(some 34), none, .pick (.t 21) (.t 33) (.c (.bool false))⟩])
  (.cond (.t 34) .skip (.exit 2)))
  (.seq (.block 3 (.draw [⟨(some 37), none, .mv (.t 0)⟩, ⟨(some 38), none, .mv (.t 9)⟩, ⟨(some 39), none, .mv (.t 0)⟩, ⟨(some 40), none, .mv (.t 9)⟩, ⟨(some 41), none, .bin .sub (.t 40) (.c (.int .i64 1))⟩, ⟨(some 42), none, .mv (.t 0)⟩, ⟨(some 43), none, .mv (.t 9)⟩, ⟨(some 44), none, .bin .sub (.t 43) (.c (.int .i64 1))⟩, ⟨(some 45), none, .idxS 1 (.t 42) (.t 44)⟩, ⟨(some 46), none, .load false 1 (.t 45)⟩, ⟨(some 47), none, .mv (.t 0)⟩, ⟨(some 48), none, .mv (.t 9)⟩, ⟨(some 49), none, .idxS 1 (.t 47) (.t 48)⟩, ⟨(some 50), none, .load false 1 (.t 49)⟩, ⟨(some 51), none, .idxS 1 (.t 37) (.t 38)⟩, ⟨none, none, .store 1 (.t 51) (.t 46)⟩, ⟨(some 52), none, .idxS 1 (.t 39) (.t 41)⟩, ⟨none, none, .store 1 (.t 52) (.t 50)⟩]))
  (.ops [⟨(some 35), none, .mv (.t 9)⟩, ⟨(some 36), none, .bin .sub (.t 35) (.c (.int .i64 1))⟩, ⟨(some 9), none, .mv (.t 36)⟩])))
/- live [0, 1, 2, 3, 8, 22, 23, 24, 25, 26, 27, 28, 29, 30, 31, 32, 33] -/
def k177_b1 : KC := (.seq (.seq (.ops [⟨(some 12), none, .mv (.t 8)⟩, ⟨(some 13), none, .mv (.t 2)⟩, ⟨(some 14), none, .bin .lss (.t 12) (.t 13)⟩])
  (.cond (.t 14) .skip (.exit 0)))
  (.seq (.block 1 (.seq (.ops [⟨(some 17), none, .mv (.t 8)⟩, ⟨(some 9), none, .mv (.t 17)⟩])
  (.block 2 (.loop k177_b0))))
  (.ops [⟨(some 15), none, .mv (.t 8)⟩, ⟨(some 16), none, .bin .add (.t 15) (.c (.int .i64 1))⟩, ⟨(some 8), none, .mv (.t 16)⟩])))
def k177 : KC := (.seq (.ops [⟨(some 10), none, .mv (.t 1)⟩, ⟨(some 11), none, .bin .add (.t 10) (.c (.int .i64 1))⟩, ⟨(some 8), none, .mv (.t 11)⟩])
  (.block 0 (.loop k177_b1)))
theorem e177 {args : List PV} {σ : Heap} {K : PV → Heap → Prop} (hl : args.length ≤ 53) (h : Wf σ → (∀ a ∈ args, PV.upto σ.length a) → vc (mkCfg Tryz.prog mixed [] 53 σ.length) k177 (FinK σ.length [] K) (argEnv 0 args) σ) : ACall Tryz.prog 177 args σ K :=
  ACall_enter (C := mkCfg Tryz.prog mixed [] 53 σ.length) (c := Tryz.f177.body.getD .skip) Tryz.func177 (by kernel_rfl) (by kernel_rfl) (by kernel_rfl) rfl hl (by kernel_rfl) (by kernel_rfl) h
/- slices.pdqsortCmpFunc[int64] -/
/- live [0, 1, 2, 3, 4, 10, 11, 70, 73, 74, 84, 85, 86, 87, 88, 89, 90, 91, 92, 93, 94, 95, 96] -/
def k145_b0 : KC := (.block 1 (.seq (.ops [⟨(some 21), none, .mv (.t 2)⟩, ⟨(some 22), none, .mv (.t 1)⟩, ⟨(some 23), none, .bin .sub (.t 21) (.t 22)⟩, ⟨(some 12), none, .mv (.t 23)⟩])
  (.seq (.seq (.ops [⟨(some 24), none, .mv (.t 12)⟩, ⟨(some 25), none, .bin .leq (.t 24) (.c (.int .i64 12))⟩])
  (.cond (.t 25) (.seq (.ops [⟨(some 26), none, .mv (.t 0)⟩, ⟨(some 27), none, .mv (.t 1)⟩, ⟨(some 28), none, .mv (.t 2)⟩, ⟨(some 29), none, .mv (.t 4)⟩, ⟨(some 30), none, .call (.c (.fn (.func 177) [] [])) [(.t 26), (.t 27), (.t 28), (.t 29)]⟩])
  .ret) .skip))
  (.seq (.seq (.ops [⟨(some 31), none, .mv (.t 3)⟩, ⟨(some 32), none, .bin .eql (.t 31) (.c (.int .i64 0))⟩])
  (.cond (.t 32) (.seq (.ops [⟨(some 33), none, .mv (.t 0)⟩, ⟨(some 34), none, .mv (.t 1)⟩, ⟨(some 35), none, .mv (.t 2)⟩, ⟨(some 36), none, .mv (.t 4)⟩, ⟨(some 37), none, .call (.c (.fn (.func 178) [] [])) [(.t 33), (.t 34), (.t 35), (.t 36)]⟩])
  .ret) .skip))
  (.seq (.seq (.ops [⟨(some 38), none, .mv (.t 10)⟩, ⟨(some 39), none, .not (.t 38)⟩])
  (.cond (.t 39) (.seq (.ops [⟨(some 40), none, .mv (.t 0)⟩, ⟨(some 41), none, .mv (.t 1)⟩, ⟨(some 42), none, .mv (.t 2)⟩, ⟨(some 43), none, .mv (.t 4)⟩, ⟨(some 44), none, .call (.c (.fn (.func 179) [] [])) [(.t 40), (.t 41), (.t 42), (.t 43)]⟩])
  (.ops [⟨(some 45), none, .mv (.t 3)⟩, ⟨(some 46), none, .bin .sub (.t 45) (.c (.int .i64 1))⟩, ⟨(some 3), none, .mv (.t 46)⟩])) .skip))
  (.seq (.ops [⟨(some 48), none, .mv (.t 0)⟩, ⟨(some 49), none, .mv (.t 1)⟩, ⟨(some 50), none, .mv (.t 2)⟩, ⟨(some 51), none, .mv (.t 4)⟩, ⟨(some 52), none, .call (.c (.fn (.func 180) [] [])) [(.t 48), (.t 49), (.t 50), (.t 51)]⟩, ⟨(some 47), none, .mv (.t 52)⟩, ⟨(some 53), none, .extr 0 (.t 47)⟩, ⟨(some 54), none, .extr 1 (.t 47)⟩, ⟨(some 13), none, .mv (.t 53)⟩, ⟨(some 14), none, .mv (.t 54)⟩])
  (.seq (.seq (.ops [⟨(some 55), none, .mv (.t 14)⟩, ⟨(some 56), none, .bin .eql (.t 55) (.c (.int .i64 2))⟩])
  (.cond (.t 56) (.seq (.ops [⟨(some 57), none, .mv (.t 0)⟩, ⟨(some 58), none, .mv (.t 1)⟩, ⟨(some 59), none, .mv (.t 2)⟩, ⟨(some 60), none, .mv (.t 4)⟩, ⟨(some 61), none, .call (.c (.fn (.func 181) [] [])) [(.t 57), (.t 58), (.t 59), (.t 60)]⟩])
  (.seq (.ops [⟨(some 62), none, .mv (.t 2)⟩, ⟨(some 63), none, .bin .sub (.t 62) (.c (.int .i64 1))⟩, ⟨(some 64), none, .mv (.t 13)⟩, ⟨(some 65), none, .mv (.t 1)⟩, ⟨(some 66), none, .bin .sub (.t 64) (.t 65)⟩, ⟨(some 67), none, .bin .sub (.t 63) (.t 66)⟩, ⟨(some 13), none, .mv (.t 67)⟩])
  (.ops [⟨(some 14), none, .mv (.c (.int .i64 1))⟩]))) .skip))
  (.seq (.seq (.ops [⟨(some 68), none, .mv (.t 10)⟩, ⟨(some 69), none, .mv (.t 68)⟩, ⟨(some 70), some (69, true), .mv (.t 11)⟩, ⟨(some 71), none, .pick (.t 69) (.t 70) (.c (.bool false))⟩, ⟨(some 72), none, .mv (.t 71)⟩, ⟨(some 73), some (72, true), .mv (.t 14)⟩, ⟨(some 74), some (72, true), .bin .eql (.t 73) (.c (.int .i64 1))⟩, ⟨(some 75), none, .pick (.t 72) (.t 74) (.c (.bool false))⟩])
  (.cond (.t 75) (.seq (.ops [⟨(some 76), none, .mv (.t 0)⟩, ⟨(some 77), none, .mv (.t 1)⟩, ⟨(some 78), none, .mv (.t 2)⟩, ⟨(some 79), none, .mv (.t 4)⟩, ⟨(some 80), none, .call (.c (.fn (.func 182) [] [])) [(.t 76), (.t 77), (.t 78), (.t 79)]⟩])
  (.cond (.t 80) .ret .skip)) .skip))
  (.seq (.seq (.draw [⟨(some 81), none, .mv (.t 1)⟩, ⟨(some 82), none, .bin .gtr (.t 81) (.c (.int .i64 0))⟩, ⟨(some 83), none, .mv (.t 82)⟩, ⟨(some 84), some (83, true), .mv (.t 4)⟩, ⟨(some 85), some (83, true), .mv (.t 0)⟩, ⟨(some 86), some (83, true), .mv (.t 1)⟩, ⟨(some 87), some (83, true), .bin .sub (.t 86) (.c (.int .i64 1))⟩, ⟨(some 88), some (83, true), .idxS 1 (.t 85) (.t 87)⟩, ⟨(some 89), some (83, true), .load false 1 (.t 88)⟩, ⟨(some 90), some (83, true), .mv (.t 0)⟩, ⟨(some 91), some (83, true), .mv (.t 13)⟩, ⟨(some 92), some (83, true), .idxS 1 (.t 90) (.t 91)⟩, ⟨(some 93), some (83, true), .load false 1 (.t 92)⟩, ⟨(some 94), some (83, true), .call (.t 84) [(.t 89), (.t 93)]⟩, ⟨(some 95), some (83, true), .bin .lss (.t 94) (.c (.int .i64 0))⟩, ⟨(some 96), some (83, true), .not (.t 95)⟩, ⟨(some 97), none, .pick (.t 83) (.t 96) (.c (.bool false))⟩])
  (.cond (.t 97) (.seq (.ops [⟨(some 98), none, .mv (.t 0)⟩, ⟨(some 99), none, .mv (.t 1)⟩, ⟨(some 100), none, .mv (.t 2)⟩, ⟨(some 101), none, .mv (.t 13)⟩, ⟨(some 102), none, .mv (.t 4)⟩, ⟨(some 103), none, .call (.c (.fn (.func 183) [] [])) [(.t 98), (.t 99), (.t 100), (.t 101), (.t 102)]⟩, ⟨(some 15), none, .mv (.t 103)⟩])
  (.seq (.ops [⟨(some 104), none, .mv (.t 15)⟩, ⟨(some 1), none, .mv (.t 104)⟩])
  (.exit 1))) .skip))
  (.seq (.ops [⟨(some 106), none, .mv (.t 0)⟩, ⟨(some 107), none, .mv (.t 1)⟩, ⟨(some 108), none, .mv (.t 2)⟩, ⟨(some 109), none, .mv (.t 13)⟩, ⟨(some 110), none, .mv (.t 4)⟩, ⟨(some 111), none, .call (.c (.fn (.func 184) [] [])) [(.t 106), (.t 107), (.t 108), (.t 109), (.t 110)]⟩, ⟨(some 105), none, .mv (.t 111)⟩, ⟨(some 112), none, .extr 0 (.t 105)⟩, ⟨(some 113), none, .extr 1 (.t 105)⟩, ⟨(some 16), none, .mv (.t 112)⟩, ⟨(some 17), none, .mv (.t 113)⟩])
  (.seq (.ops [⟨(some 114), none, .mv (.t 17)⟩, ⟨(some 11), none, .mv (.t 114)⟩])
  (.seq (.ops [⟨(some 115), none, .mv (.t 16)⟩, ⟨(some 116), none, .mv (.t 1)⟩, ⟨(some 117), none, .bin .sub (.t 115) (.t 116)⟩, ⟨(some 118), none, .mv (.t 2)⟩, ⟨(some 119), none, .mv (.t 16)⟩, ⟨(some 120), none, .bin .sub (.t 118) (.t 119)⟩, ⟨(some 18), none, .mv (.t 117)⟩, ⟨(some 19), none, .mv (.t 120)⟩])
  (.seq (.ops [⟨(some 121), none, .mv (.t 12)⟩, ⟨(some 122), none, .bin .quo (.t 121) (.c (.int .i64 8))⟩, ⟨(some 20), none, .mv (.t 122)⟩])
  (.seq (.ops [⟨(some 123), none, .mv (.t 18)⟩, ⟨(some 124), none, .mv (.t 19)⟩, ⟨(some 125), none, .bin .lss (.t 123) (.t 124)⟩])
  (.cond (.t 125) (.seq (.ops [⟨(some 126), none, .mv (.t 18)⟩, ⟨(some 127), none, .mv (.t 20)⟩, ⟨(some 128), none, .bin .geq (.t 126) (.t 127)⟩, ⟨(some 10), none, .mv (.t 128)⟩])
  (.seq (.ops [⟨(some 129), none, .mv (.t 0)⟩, ⟨(some 130), none, .mv (.t 1)⟩, ⟨(some 131), none, .mv (.t 16)⟩, ⟨(some 132), none, .mv (.t 3)⟩, ⟨(some 133), none, .mv (.t 4)⟩, ⟨(some 134), none, .call (.c (.fn (.func 145) [] [])) [(.t 129), (.t 130), (.t 131), (.t 132), (.t 133)]⟩])
  (.ops [⟨(some 135), none, .mv (.t 16)⟩, ⟨(some 136), none, .bin .add (.t 135) (.c (.int .i64 1))⟩, ⟨(some 1), none, .mv (.t 136)⟩]))) (.seq (.ops [⟨(some 137), none, .mv (.t 19)⟩, ⟨(some 138), none, .mv (.t 20)⟩, ⟨(some 139), none, .bin .geq (.t 137) (.t 138)⟩, ⟨(some 10), none, .mv (.t 139)⟩])
  (.seq (.ops [⟨(some 140), none, .mv (.t 0)⟩, ⟨(some 141), none, .mv (.t 16)⟩, ⟨(some 142), none, .bin .add (.t 141) (.c (.int .i64 1))⟩, ⟨(some 143), none, .mv (.t 2)⟩, ⟨(some 144), none, .mv (.t 3)⟩, ⟨(some 145), none, .mv (.t 4)⟩, ⟨(some 146), none, .call (.c (.fn (.func 145) [] [])) [(.t 140), (.t 142), (.t 143), (.t 144), (.t 145)]⟩])
  (.ops [⟨(some 147), none, .mv (.t 16)⟩, ⟨(some 2), none, .mv (.t 147)⟩]))))))))))))))))))
def k145 : KC := (.seq (.ops [⟨(some 10), none, .mv (.c (.bool true))⟩])
  (.seq (.ops [⟨(some 11), none, .mv (.c (.bool true))⟩])
  (.block 0 (.loop k145_b0))))
theorem e145 {args : List PV} {σ : Heap} {K : PV → Heap → Prop} (hl : args.length ≤ 148) (h : Wf σ → (∀ a ∈ args, PV.upto σ.length a) → vc (mkCfg Tryz.prog mixed [] 148 σ.length) k145 (FinK σ.length [] K) (argEnv 0 args) σ) : ACall Tryz.prog 145 args σ K :=
  ACall_enter (C := mkCfg Tryz.prog mixed [] 148 σ.length) (c := Tryz.f145.body.getD .skip) Tryz.func145 (by kernel_rfl) (by kernel_rfl) (by kernel_rfl) rfl hl (by kernel_rfl) (by kernel_rfl) h
/- slices.SortFunc[[]int64,int64] -/
def k95 : KC := (.seq (.ops [⟨(some 5), none, .mv (.t 0)⟩, ⟨(some 6), none, .len false (.t 5)⟩, ⟨(some 4), none, .mv (.t 6)⟩])
  (.ops [⟨(some 7), none, .mv (.t 0)⟩, ⟨(some 8), none, .mv (.t 4)⟩, ⟨(some 9), none, .mv (.t 4)⟩, ⟨(some 10), none, .conv .u64 (.t 9)⟩, ⟨(some 11), none, .call (.c (.fn (.func 146) [] [])) [(.t 10)]⟩, ⟨(some 12), none, .mv (.t 1)⟩, ⟨(some 13), none, .call (.c (.fn (.func 145) [] [])) [(.t 7), (.c (.int .i64 0)), (.t 8), (.t 11), (.t 12)]⟩]))
theorem e95 {args : List PV} {σ : Heap} {K : PV → Heap → Prop} (hl : args.length ≤ 14) (h : Wf σ → (∀ a ∈ args, PV.upto σ.length a) → vc (mkCfg Tryz.prog mixed [] 14 σ.length) k95 (FinK σ.length [] K) (argEnv 0 args) σ) : ACall Tryz.prog 95 args σ K :=
  ACall_enter (C := mkCfg Tryz.prog mixed [] 14 σ.length) (c := Tryz.f95.body.getD .skip) Tryz.func95 (by kernel_rfl) (by kernel_rfl) (by kernel_rfl) rfl hl (by kernel_rfl) (by kernel_rfl) h
end Go.Proofs.YtpfapiiinkkcgaaGreat
namespace Go.Proofs.YtpfapiiinkkcgaaGreat
open Go.Kv
set_option linter.unusedVariables false
set_option linter.unusedSimpArgs false
attribute [local irreducible] ACall PCall KL
def negs (m : List Int) : List Int := m.map fun x => -x
@[simp] theorem negs_length (m : List Int) : (negs m).length = m.length := by simp [negs]
theorem negs_getD (m : List Int) (i : Nat) : (negs m).getD i 0 = - m.getD i 0 := by
  simp only [negs, List.getD_eq_getElem?_getD, List.getElem?_map]
  cases m[i]? <;> simp
theorem negs_swap (m : List Int) (j : Nat) : swap1 (negs m) j = negs (swap1 m j) := by
  unfold swap1
  rw [negs_getD, negs_getD]
  simp only [negs, List.map_set]
theorem cmpI_lt (a b : Int) : cmpI a b < 0 ↔ a < b := by
  unfold cmpI
  split
  · simp; omega
  · split <;> simp <;> omega
theorem p177 (fid : FuncId) (hcmp : ∀ a b : Int, Pure Tryz.prog fid [.int .i64 a, .int .i64 b] (.int .i64 (cmpI b a))) (σ : Heap) (id ver : Nat) (e : TypeId) (l : List Int) (hid : σ[id]? = some (.arr ver e 1 (ints l))) (hn : l.length ≤ 4294967296) {K : PV → Heap → Prop} (hK : ∀ r : List Int, r.Perm l → (negs r).Pairwise (· ≤ ·) → K (.tup []) (σ.set id (.arr ver e 1 (ints r)))) :
    ACall Tryz.prog 177 [.ref id ver 0 l.length, .int .i64 0, .int .i64 l.length, .fn (.func fid) [] []] σ K := by
  have hlt := (List.getElem?_eq_some_iff.1 hid).1
  have hself : ∀ o, (σ.set id o)[id]? = some o := fun o => List.getElem?_set_self hlt
  have hset : ∀ o o', (σ.set id o).set id o' = σ.set id o' := fun o o' => List.set_set ..
  have h00 : σ.set id (.arr ver e 1 (ints l)) = σ := List.ext_getElem? fun i => by
    by_cases h : id = i
    · subst h; rw [hself, hid]
    · rw [List.getElem?_set_ne h]
  refine e177 (by simp) fun _ _ => ?_
  simp only [k177, argEnv, take6, List.drop_zero, Int.cast_ofNat_Int, go_sem, ↓reduceIte, Nat.reduceEqDiff, Nat.reduceAdd, Nat.reduceMul, Nat.reduceLeDiff, Nat.reduceLT, Int.reduceLE, Int.reduceLT, reduceCtorEq]
  refine ⟨by omega, ?_⟩
  refine KL_ind k177_b1.eq_1 (fun x : Nat × List Int => [(0, .ref id ver 0 l.length), (1, .int .i64 0), (2, .int .i64 l.length), (3, .fn (.func fid) [] []), (8, .int .i64 x.1)]) (fun x => σ.set id (.arr ver e 1 (ints x.2))) (fun x => 1 ≤ x.1 ∧ x.1 ≤ l.length + 1 ∧ x.2.Perm l ∧ Sn (negs x.2) x.1) (fun x => l.length + 1 - x.1) [0, 1, 2, 3, 8] (1, l) (by simp [keep]) h00.symm ⟨Nat.le_refl _, by omega, .refl _, fun x y h1 h2 => by omega⟩ fun ⟨i, m⟩ ⟨hi1, hi2, hp, hS⟩ ih => ?_
  simp only at hi1 hi2 hp hS
  have hml := hp.length_eq
  try simp only [take6, List.drop_zero, Int.cast_ofNat_Int, go_sem, ↓reduceIte, Nat.reduceEqDiff, Nat.reduceAdd, Nat.reduceMul, Nat.reduceLeDiff, Nat.reduceLT, Int.reduceLE, Int.reduceLT, reduceCtorEq]
  refine ⟨fun h1 => ?_, fun h1 => ?_⟩
  · have hil : i < l.length := by omega
    refine KL_ind k177_b0.eq_1 (fun x : Nat × List Int => [(0, .ref id ver 0 l.length), (1, .int .i64 0), (2, .int .i64 l.length), (3, .fn (.func fid) [] []), (8, .int .i64 i), (9, .int .i64 x.1)]) (fun x => σ.set id (.arr ver e 1 (ints x.2))) (fun x => x.1 ≤ i ∧ x.2.Perm l ∧ Jn (negs x.2) i x.1) (fun x => x.1) [0, 1, 2, 3, 8, 9] (i, m) (by simp [keep]) rfl ⟨Nat.le_refl _, hp, .zero hS⟩ fun ⟨j, m⟩ ⟨hj, hp, hJ⟩ ihj => ?_
    simp only at hj hp hJ
    clear hml hS
    have hml := hp.length_eq
    have hj1 : ((j : Int) - 1).toNat = j - 1 := by omega
    try simp only [hself, hset, hml, hj1, take6, List.drop_zero, Int.cast_ofNat_Int, go_sem, ↓reduceIte, Nat.reduceEqDiff, Nat.reduceAdd, Nat.reduceMul, Nat.reduceLeDiff, Nat.reduceLT, Int.reduceLE, Int.reduceLT, reduceCtorEq]
    refine ⟨fun h2 => ⟨by omega, by omega, fun _ => ⟨by omega, by omega, by omega, fun _ => ?_⟩⟩, fun h2 => ⟨by omega, ?_⟩⟩
    · refine (hcmp _ _).go ?_
      try simp only [hself, hset, hml, hj1, take6, List.drop_zero, Int.cast_ofNat_Int, go_sem, ↓reduceIte, Nat.reduceEqDiff, Nat.reduceAdd, Nat.reduceMul, Nat.reduceLeDiff, Nat.reduceLT, Int.reduceLE, Int.reduceLT, reduceCtorEq]
      refine ⟨fun h3 => ⟨by omega, by omega, by omega, by omega, fun _ => ⟨by omega, by omega, fun _ => ⟨by omega, by omega, fun _ => ⟨by omega, by omega, fun _ => ⟨by omega, ?_⟩⟩⟩⟩⟩, fun h3 => ⟨by omega, ?_⟩⟩
      · refine ihj (j - 1, swap1 m j) ⟨by show j - 1 ≤ i; omega, (swap1_perm (by omega)).trans hp, ?_⟩ (by show j - 1 < j; omega) _ _ (by simp [keep]; omega) rfl
        rw [← negs_swap]
        exact hJ.step (by simp; omega) hj (by omega) (by have := (cmpI_lt _ _).1 h3; rw [negs_getD, negs_getD]; omega)
      · refine ih (i + 1, m) ⟨by show 1 ≤ i + 1; omega, by show i + 1 ≤ l.length + 1; omega, hp, hJ.done hj (.inr (by have : ¬ m.getD (j - 1) 0 < m.getD j 0 := fun h => h3 ((cmpI_lt _ _).2 h); rw [negs_getD, negs_getD]; omega))⟩ (by show l.length + 1 - (i + 1) < l.length + 1 - i; omega) _ _ (by simp [keep]) rfl
    · refine ih (i + 1, m) ⟨by show 1 ≤ i + 1; omega, by show i + 1 ≤ l.length + 1; omega, hp, hJ.done hj (.inl (by omega))⟩ (by show l.length + 1 - (i + 1) < l.length + 1 - i; omega) _ _ (by simp [keep]) rfl
  · have hS' : Sn (negs m) (negs m).length := fun x y h3 h4 => hS x y h3 (by simp at h4; omega)
    exact Kv.Fin.now (hK m hp hS'.pairwise)
theorem p145 (fid : FuncId) (hcmp : ∀ a b : Int, Pure Tryz.prog fid [.int .i64 a, .int .i64 b] (.int .i64 (cmpI b a))) (σ : Heap) (id ver : Nat) (e : TypeId) (l : List Int) (hid : σ[id]? = some (.arr ver e 1 (ints l))) (hn : l.length ≤ 12) (lim : Int) {K : PV → Heap → Prop} (hK : ∀ r : List Int, r.Perm l → (negs r).Pairwise (· ≤ ·) → K (.tup []) (σ.set id (.arr ver e 1 (ints r)))) :
    ACall Tryz.prog 145 [.ref id ver 0 l.length, .int .i64 0, .int .i64 l.length, .int .i64 lim, .fn (.func fid) [] []] σ K := by
  refine e145 (by simp) fun _ _ => ?_
  simp only [k145, argEnv, take6, List.drop_zero, Int.cast_ofNat_Int, go_sem, ↓reduceIte, Nat.reduceEqDiff, Nat.reduceAdd, Nat.reduceMul, Nat.reduceLeDiff, Nat.reduceLT, Int.reduceLE, Int.reduceLT, reduceCtorEq]
  refine KL_round ?_
  rw [k145_b0]
  try simp only [take6, List.drop_zero, Int.cast_ofNat_Int, go_sem, ↓reduceIte, Nat.reduceEqDiff, Nat.reduceAdd, Nat.reduceMul, Nat.reduceLeDiff, Nat.reduceLT, Int.reduceLE, Int.reduceLT, reduceCtorEq]
  refine ⟨by omega, fun _ => ?_, fun h => absurd h (by omega)⟩
  refine p177 fid hcmp σ id ver e l hid (by omega) fun r hp hS => ?_
  try simp only [take6, List.drop_zero, Int.cast_ofNat_Int, go_sem, ↓reduceIte, Nat.reduceEqDiff, Nat.reduceAdd, Nat.reduceMul, Nat.reduceLeDiff, Nat.reduceLT, Int.reduceLE, Int.reduceLT, reduceCtorEq]
  exact Kv.Fin.now (hK r hp hS)
theorem p95 (fid : FuncId) (hcmp : ∀ a b : Int, Pure Tryz.prog fid [.int .i64 a, .int .i64 b] (.int .i64 (cmpI b a))) (σ : Heap) (id ver : Nat) (e : TypeId) (l : List Int) (hid : σ[id]? = some (.arr ver e 1 (ints l))) (hn : l.length ≤ 12) {K : PV → Heap → Prop} (hK : ∀ r : List Int, r.Perm l → (negs r).Pairwise (· ≤ ·) → K (.tup []) (σ.set id (.arr ver e 1 (ints r)))) :
    ACall Tryz.prog 95 [.ref id ver 0 l.length, .fn (.func fid) [] []] σ K := by
  refine e95 (by simp) fun _ _ => ?_
  simp only [k95, argEnv, hid, take6, List.drop_zero, Int.cast_ofNat_Int, go_sem, ↓reduceIte, Nat.reduceEqDiff, Nat.reduceAdd, Nat.reduceMul, Nat.reduceLeDiff, Nat.reduceLT, Int.reduceLE, Int.reduceLT, reduceCtorEq]
  rw [aWrap_u64 (by omega)]
  try simp only [take6, List.drop_zero, Int.cast_ofNat_Int, go_sem, ↓reduceIte, Nat.reduceEqDiff, Nat.reduceAdd, Nat.reduceMul, Nat.reduceLeDiff, Nat.reduceLT, Int.reduceLE, Int.reduceLT, reduceCtorEq]
  refine (p146 l.length hn).go fun v s ⟨⟨k, hv⟩, hs⟩ => ?_
  subst hv; subst hs
  try simp only [take6, List.drop_zero, Int.cast_ofNat_Int, go_sem, ↓reduceIte, Nat.reduceEqDiff, Nat.reduceAdd, Nat.reduceMul, Nat.reduceLeDiff, Nat.reduceLT, Int.reduceLE, Int.reduceLT, reduceCtorEq]
  refine p145 fid hcmp σ id ver e l hid hn k fun r hp hS => ?_
  try simp only [take6, List.drop_zero, Int.cast_ofNat_Int, go_sem, ↓reduceIte, Nat.reduceEqDiff, Nat.reduceAdd, Nat.reduceMul, Nat.reduceLeDiff, Nat.reduceLT, Int.reduceLE, Int.reduceLT, reduceCtorEq]
  exact Kv.Fin.now (hK r hp hS)
end Go.Proofs.YtpfapiiinkkcgaaGreat
