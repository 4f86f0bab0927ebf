/- The draws of lists and partitions. -/
import Derived.Test.YtodmbkceindakaaGreatCb
import Derived.Test.YtodmbkceindakaaGreatDF
import Derived.Test.YtodmbkceindakaaGreatIP
import Derived.Test.YtodmbkceindakaaGreatPR
namespace Go.Proofs.YtodmbkceindakaaGreat
open Go.Kv
set_option maxRecDepth 100000
/- spec.l10With -/
/- live [4, 5, 8, 38, 39, 40, 41, 42, 43, 44, 45, 46, 47, 48, 49] -/
def k18_b0 : KC := (.seq (.seq (.ops [⟨(some 34), none, .mv (.t 8)⟩, ⟨(some 35), none, .len false (.t 34)⟩, ⟨(some 36), none, .bin .lss (.t 35) (.c (.int .i64 5))⟩, ⟨(some 37), none, .mv (.t 36)⟩, ⟨(some 38), some (37, true), .mv (.t 5)⟩, ⟨(some 39), some (37, true), .len false (.t 38)⟩, ⟨(some 40), some (37, true), .bin .eql (.t 39) (.c (.int .i64 0))⟩, ⟨(some 41), some (37, true), .mv (.t 40)⟩, ⟨(some 42), some (41, false), .mv (.t 8)⟩, ⟨(some 43), some (41, false), .len false (.t 42)⟩, ⟨(some 44), some (41, false), .mv (.t 5)⟩, ⟨(some 45), some (41, false), .idxS 6 (.t 44) (.c (.int .i64 0))⟩, ⟨(some 46), some (41, false), .fieldA 0 (.t 45)⟩, ⟨(some 47), some (41, false), .load false 1 (.t 46)⟩, ⟨(some 48), some (41, false), .bin .lss (.t 43) (.t 47)⟩, ⟨(some 49), some (37, true), .pick (.t 41) (.c (.bool true)) (.t 48)⟩, ⟨(some 50), none, .pick (.t 37) (.t 49) (.c (.bool false))⟩])
  (.cond (.t 50) .skip (.exit 0)))
  (.block 1 (.ops [⟨(some 51), none, .mv (.t 8)⟩, ⟨(some 52), none, .mv (.t 4)⟩, ⟨(some 53), none, .mv (.t 8)⟩, ⟨(some 54), none, .call (.c (.fn (.func 22) [] [])) [(.t 53)]⟩, ⟨(some 55), none, .bin .add (.t 54) (.c (.int .i64 1))⟩, ⟨(some 56), none, .call (.c (.fn (.func 37) [] [])) [(.t 52), (.t 55)]⟩, ⟨(some 57), none, .bsl true 2 1 [(.t 56)]⟩, ⟨(some 58), none, .app (.t 51) (.t 57) 2 1⟩, ⟨(some 8), none, .mv (.t 58)⟩])))
def k18 : KC := (.seq (.ops [⟨(some 2), none, .mv (.c (.nils))⟩, ⟨(some 3), none, .mv (.c (.nils))⟩])
  (.seq (.ops [⟨(some 9), none, .mv (.t 0)⟩, ⟨(some 10), none, .call (.c (.fn (.func 28) [] [])) [(.t 9)]⟩, ⟨(some 4), none, .mv (.t 10)⟩])
  (.seq (.ops [⟨(some 11), none, .mv (.t 4)⟩, ⟨(some 12), none, .call (.c (.fn (.func 27) [] [])) [(.t 11)]⟩, ⟨(some 5), none, .mv (.t 12)⟩])
  (.seq (.seq (.ops [⟨(some 14), none, .mv (.t 5)⟩, ⟨(some 15), none, .call (.c (.fn (.func 13) [] [])) [(.t 14)]⟩, ⟨(some 13), none, .mv (.t 15)⟩, ⟨(some 16), none, .extr 0 (.t 13)⟩, ⟨(some 17), none, .extr 1 (.t 13)⟩, ⟨(some 6), none, .mv (.t 16)⟩, ⟨(some 7), none, .mv (.t 17)⟩])
  (.seq (.ops [⟨(some 18), none, .mv (.t 7)⟩, ⟨(some 19), none, .bin .eql (.t 18) (.c (.int .i64 0))⟩, ⟨(some 20), none, .mv (.t 19)⟩, ⟨(some 21), some (20, true), .mv (.t 4)⟩, ⟨(some 22), some (20, true), .call (.c (.fn (.func 37) [] [])) [(.t 21), (.c (.int .i64 3))]⟩, ⟨(some 23), some (20, true), .bin .gtr (.t 22) (.c (.int .i64 0))⟩, ⟨(some 24), none, .pick (.t 20) (.t 23) (.c (.bool false))⟩])
  (.cond (.t 24) (.seq (.tree (.op ⟨(some 25), none, .mv (.t 5)⟩ (.op ⟨(some 26), none, .mv (.t 6)⟩ (.op ⟨(some 27), none, .mv (.t 4)⟩ (.op ⟨(some 28), none, .mv (.t 6)⟩ (.op ⟨(some 29), none, .len false (.t 28)⟩ (.op ⟨(some 30), none, .call (.c (.fn (.func 37) [] [])) [(.t 27), (.t 29)]⟩ (.op ⟨(some 2), none, .mv (.t 25)⟩ (.op ⟨(some 31), none, .idxS 1 (.t 26) (.t 30)⟩ (.op ⟨(some 32), none, .load false 1 (.t 31)⟩ (.op ⟨(some 3), none, .mv (.t 32)⟩ .fin)))))))))))
  .ret) .skip)))
  (.seq (.ops [⟨(some 33), none, .bsl false 2 1 [(.c (.int .i64 0))]⟩, ⟨(some 8), none, .mv (.t 33)⟩])
  (.seq (.block 0 (.loop k18_b0))
  (.seq (.seq (.ops [⟨(some 59), none, .mv (.t 4)⟩, ⟨(some 60), none, .call (.c (.fn (.func 37) [] [])) [(.t 59), (.c (.int .i64 12))]⟩])
  (.block 2 (.seq (.ops [⟨(some 62), none, .bin .eql (.t 60) (.c (.int .i64 0))⟩, ⟨(some 61), none, .mv (.t 62)⟩])
  (.cond (.t 61) (.ops [⟨(some 63), none, .mv (.t 8)⟩, ⟨(some 64), none, .bsl true 2 1 [(.c (.int .i64 0))]⟩, ⟨(some 65), none, .app (.t 63) (.t 64) 2 1⟩, ⟨(some 8), none, .mv (.t 65)⟩]) (.seq (.ops [⟨(some 67), none, .bin .eql (.t 60) (.c (.int .i64 1))⟩, ⟨(some 66), none, .mv (.t 67)⟩])
  (.cond (.t 66) (.ops [⟨(some 68), none, .mv (.t 8)⟩, ⟨(some 69), none, .mv (.t 4)⟩, ⟨(some 70), none, .bsl false 2 1 [(.c (.int .i64 (-1))), (.c (.int .i64 1))]⟩, ⟨(some 71), none, .call (.c (.fn (.func 38) [] [])) [(.t 69), (.t 70)]⟩, ⟨(some 72), none, .idxS 1 (.t 68) (.c (.int .i64 0))⟩, ⟨none, none, .store 1 (.t 72) (.t 71)⟩]) .skip))))))
  (.seq (.ops [⟨(some 73), none, .mv (.t 5)⟩, ⟨(some 74), none, .mv (.t 8)⟩, ⟨(some 2), none, .mv (.t 73)⟩, ⟨(some 3), none, .mv (.t 74)⟩])
  .ret))))))))
theorem e18 {args : List PV} {σ : Heap} {K : PV → Heap → Prop} (hl : args.length ≤ 75) (h : Wf σ → (∀ a ∈ args, PV.upto σ.length a) → vc (mkCfg Tryz.prog mixed [57, 64, 1000000] 75 σ.length) k18 (FinK σ.length [.t 2, .t 3] K) (argEnv 0 args) σ) : ACall Tryz.prog 18 args σ K :=
  ACall_enter (C := mkCfg Tryz.prog mixed [57, 64, 1000000] 75 σ.length) (c := Tryz.f18.body.getD .skip) Tryz.func18 (by kernel_rfl) (by kernel_rfl) (by kernel_rfl) rfl hl (by kernel_rfl) (by kernel_rfl) h
/- spec.DrawListOfClasses -/
def k5 : KC := (.seq (.ops [⟨(some 2), none, .mv (.c (.nils))⟩, ⟨(some 3), none, .mv (.c (.nils))⟩])
  (.seq (.ops [⟨(some 4), none, .mv (.t 0)⟩, ⟨(some 5), none, .call (.c (.fn (.func 18) [] [])) [(.t 4)]⟩, ⟨(some 6), none, .extr 0 (.t 5)⟩, ⟨(some 7), none, .extr 1 (.t 5)⟩, ⟨(some 2), none, .mv (.t 6)⟩, ⟨(some 3), none, .mv (.t 7)⟩])
  .ret))
theorem e5 {args : List PV} {σ : Heap} {K : PV → Heap → Prop} (hl : args.length ≤ 8) (h : Wf σ → (∀ a ∈ args, PV.upto σ.length a) → vc (mkCfg Tryz.prog mixed [] 8 σ.length) k5 (FinK σ.length [.t 2, .t 3] K) (argEnv 0 args) σ) : ACall Tryz.prog 5 args σ K :=
  ACall_enter (C := mkCfg Tryz.prog mixed [] 8 σ.length) (c := Tryz.f5.body.getD .skip) Tryz.func5 (by kernel_rfl) (by kernel_rfl) (by kernel_rfl) rfl hl (by kernel_rfl) (by kernel_rfl) h
/- spec.DrawInvariantPartitions -/
def k11 : KC := (.seq (.ops [⟨(some 2), none, .mv (.c (.nils))⟩])
  (.seq (.ops [⟨(some 3), none, .mv (.t 0)⟩, ⟨(some 4), none, .call (.c (.fn (.func 28) [] [])) [(.t 3)]⟩, ⟨(some 5), none, .call (.c (.fn (.func 27) [] [])) [(.t 4)]⟩, ⟨(some 2), none, .mv (.t 5)⟩])
  .ret))
theorem e11 {args : List PV} {σ : Heap} {K : PV → Heap → Prop} (hl : args.length ≤ 6) (h : Wf σ → (∀ a ∈ args, PV.upto σ.length a) → vc (mkCfg Tryz.prog mixed [] 6 σ.length) k11 (FinK σ.length [.t 2] K) (argEnv 0 args) σ) : ACall Tryz.prog 11 args σ K :=
  ACall_enter (C := mkCfg Tryz.prog mixed [] 6 σ.length) (c := Tryz.f11.body.getD .skip) Tryz.func11 (by kernel_rfl) (by kernel_rfl) (by kernel_rfl) rfl hl (by kernel_rfl) (by kernel_rfl) h
end Go.Proofs.YtodmbkceindakaaGreat
namespace Go.Proofs.YtodmbkceindakaaGreat
open Go.Kv
set_option linter.unusedVariables false
set_option linter.unusedSimpArgs false
attribute [local irreducible] ACall PCall KL
theorem getD_memG {α : Type} {l : List (List α)} {i : Nat} (h : i < l.length) : l.getD i [] ∈ l := by
  rw [List.getD_eq_getElem?_getD, List.getElem?_eq_getElem h]; exact List.getElem_mem _
theorem ivs_pos {fs : List (List Nat)} {n : Nat} (h1 : 1 ≤ n) (h5 : n ≤ 5) (hf : ∀ f ∈ fs, Ok f n) : (if n = 1 then 1 else 2) ≤ (ivs fs n).length := by
  have e : (ivs fs n).filter (fun P => !gen n P) = trivs n := by
    unfold ivs
    rw [List.filter_filter]
    have : (prt n).filter (fun P => !gen n P && iv fs P) = ((prt n).filter fun P => !gen n P).filter (iv fs) := by
      rw [List.filter_filter]
      exact List.filter_congr fun P _ => Bool.and_comm _ _
    rw [this, triv_eq h1 h5]
    exact List.filter_eq_self.2 fun P hP => triv_iv hf P hP
  have hl := len_split (gen n) (ivs fs n)
  have ht : (trivs n).length = if n = 1 then 1 else 2 := by unfold trivs; split <;> rfl
  rw [e, ht] at hl
  omega
theorem ipc_rows {a : List (List Int)} (h6 : ∀ r ∈ a, r.length = 6) (h : lcode a [] = 0) : 1 ≤ (ipc a).length ∧ (ipc a).length ≤ 52 ∧ ∀ P ∈ ipc a, P.length ≤ 5 := by
  obtain ⟨fs, n, e, hf, hl1, hl2, hn, hn1, hn5⟩ := lcode_maps h6 h
  have e2 : ipc a = ivs fs n := by rw [ipc, if_pos h, e, map_um, ← e, hn]; rfl
  have hok := ivs_ok (fs := fs) hn5
  have hp := ivs_pos hn1 hn5 hf
  rw [e2]
  refine ⟨?_, hok.1, fun P hP => by rw [hok.2 P hP]; exact hn5⟩
  split at hp <;> omega
/-- The numbers of a partition that is being drawn. -/
def OkL (L : List Int) : Prop := 1 ≤ L.length ∧ L.length ≤ 6 ∧ mxl L ≤ L.length
theorem outLoop {l : List Int} (hl : Byt l) {t : List (List Int)} (ht7 : t.length ≤ 7) (ht6 : Mp6 t) {Q : Exit → Env → Heap → Prop} {env : Env} {ρ : Heap} (hS : Src ρ 0 l) (id : Nat) (hid : ρ[id]? = some (.arr 0 2 1 (ints [0]))) (hne : id ≠ 0)
    (hE : keep [4, 5, 8, 38, 39, 40, 41, 42, 43, 44, 45, 46, 47, 48, 49] env = (4, .ptr 0 0) :: (5, .list (aggs t)) :: (8, .ref id 0 0 1) :: List.zip [38, 39, 40, 41, 42, 43, 44, 45, 46, 47, 48, 49] (List.replicate 12 .undef))
    (hQ : ∀ L ver ρ' env', OkL L → Src ρ' 0 l → ρ'[id]? = some (.arr ver 2 1 (ints L)) → keep [4, 5, 8] env' = [(4, .ptr 0 0), (5, .list (aggs t)), (8, .ref id ver 0 L.length)] → Q (.exit 0) env' ρ') :
    KL (mkCfg Tryz.prog mixed [57, 64, 1000000] 75 0) k18_b0 Q env ρ := by
  refine KL_ind k18_b0.eq_1 (fun y : List Int × Nat × Heap × List PV => (4, .ptr 0 0) :: (5, .list (aggs t)) :: (8, .ref id y.2.1 0 y.1.length) :: List.zip [38, 39, 40, 41, 42, 43, 44, 45, 46, 47, 48, 49] y.2.2.2) (fun y => y.2.2.1) (fun y => OkL y.1 ∧ y.1.length ≤ 5 ∧ Src y.2.2.1 0 l ∧ y.2.2.1[id]? = some (.arr y.2.1 2 1 (ints y.1))) (fun y => 6 - y.1.length) [4, 5, 8, 38, 39, 40, 41, 42, 43, 44, 45, 46, 47, 48, 49] ([0], 0, ρ, List.replicate 12 .undef) hE rfl ⟨⟨by simp, by simp, by simp [mxl]; omega⟩, by simp, hS, hid⟩ fun ⟨L, ver, ρ1, g⟩ ⟨hL, hL5, hS1, hid1⟩ ih => ?_
  simp only at hL hL5 hS1 hid1
  have hmx : mxl L ≤ L.length := hL.2.2
  have hmx1 : -1 ≤ mxl L := (foldl_max_ge L (-1)).1
  have h06 : 0 < t.length → (t.getD 0 []).length = 6 := fun h => by
    rw [List.getD_eq_getElem?_getD, List.getElem?_eq_getElem h]; exact ht6 _ (List.getElem_mem h)
  have hne1 := (List.getElem?_eq_some_iff.1 hid1).1
  try simp only [OpK_eq, HKv, hid1, aggs_length, take6, List.drop_zero, Int.cast_ofNat_Int, go_sem, ↓reduceIte, Nat.reduceEqDiff, Nat.reduceAdd, Nat.reduceMul, Nat.reduceLeDiff, Nat.reduceLT, Int.reduceLE, Int.reduceLT, reduceCtorEq]
  repeat' (first
    | omega
    | (with_reducible refine And.intro ?_ ?_)
    | (with_reducible intro _)
    | exact h06 (by omega)
    | (have h6t := h06 (by omega); omega)
    | (refine (p22 L (by omega) (by omega)).use (.int _ _) (.cons (Imm.refn hid1 rfl) (.nil _)) ?_)
    | (refine p37 hl hS1 _ fun r ρ2 n1 n2 n3 n4 n5 => ?_
       have hid2 := (n4.2 id hne1 hne).trans hid1
       have hid2l := (List.getElem?_eq_some_iff.1 hid2).1)
    | (simp only [OpK_eq, HKv, hid2, List.take_length, take6, List.drop_zero, Int.cast_ofNat_Int, go_sem, ↓reduceIte, Nat.reduceEqDiff, Nat.reduceAdd, Nat.reduceMul, Nat.reduceLeDiff, Nat.reduceLT, Int.reduceLE, Int.reduceLT, reduceCtorEq])
    | (simp only [OpK_eq, HKv, hid1, take6, List.drop_zero, Int.cast_ofNat_Int, go_sem, ↓reduceIte, Nat.reduceEqDiff, Nat.reduceAdd, Nat.reduceMul, Nat.reduceLeDiff, Nat.reduceLT, Int.reduceLE, Int.reduceLT, reduceCtorEq]))
  all_goals (try exact hQ L ver ρ1 _ hL hS1 hid1 (by simp [keep]))
  all_goals exact ih (L ++ [r], ver + 1, _, [_, _, _, _, _, _, _, _, _, _, _, _]) ⟨⟨by simp, by simp; omega, by show mxl (L ++ [r]) ≤ ((L ++ [r]).length : Int); rw [mxl_snoc, List.length_append, List.length_singleton]; omega⟩, by show (L ++ [r]).length ≤ 5; simp; omega, n3.set2 hne _, List.getElem?_set_self hid2l⟩ (by show 6 - (L ++ [r]).length < 6 - L.length; simp; omega) _ _ (by simp [keep]; exact ⟨rfl, rfl, rfl, rfl, rfl, rfl, rfl, rfl, rfl, rfl, rfl, rfl⟩) rfl
theorem p18 {l : List Int} (hl : Byt l) {K : PV → Heap → Prop}
    (hK : ∀ (t : List (List Int)) (P : List Int), t.length ≤ 7 → Mp6 t → P.length ≤ 1000 → K (.tup [.list (aggs t), .list (ints P)]) []) : ACall Tryz.prog 18 [.list (u8s l)] [] K := by
  refine e18 (by simp) fun _ _ => ?_
  simp only [k18, argEnv, take6, List.drop_zero, Int.cast_ofNat_Int, go_sem, ↓reduceIte, Nat.reduceEqDiff, Nat.reduceAdd, Nat.reduceMul, Nat.reduceLeDiff, Nat.reduceLT, Int.reduceLE, Int.reduceLT, reduceCtorEq]
  refine p28 hl fun h => ?_
  have hS0 : Src [srcO l 0 h] 0 l := ⟨0, h, rfl, Nat.zero_le _⟩
  try simp only [OpK_eq, HKv, take6, List.drop_zero, Int.cast_ofNat_Int, go_sem, ↓reduceIte, Nat.reduceEqDiff, Nat.reduceAdd, Nat.reduceMul, Nat.reduceLeDiff, Nat.reduceLT, Int.reduceLE, Int.reduceLT, reduceCtorEq]
  refine p27 hl hS0 fun t τ q1 q2 q3 q4 => ?_
  clear hS0 q4
  have hlt := q3.lt
  try simp only [OpK_eq, HKv, take6, List.drop_zero, Int.cast_ofNat_Int, go_sem, ↓reduceIte, Nat.reduceEqDiff, Nat.reduceAdd, Nat.reduceMul, Nat.reduceLeDiff, Nat.reduceLT, Int.reduceLE, Int.reduceLT, reduceCtorEq]
  have hI := p13 t (by omega) q2
  have hout : ∀ (x6 x7 : PV), True := fun _ _ => trivial
  by_cases hc : lcode t [] = 0
  · rw [if_pos hc] at hI
    obtain ⟨i1, i2, i3⟩ := ipc_rows q2 hc
    refine hI.go ?_
    rw [hc]
    try simp only [OpK_eq, HKv, take6, List.drop_zero, Int.cast_ofNat_Int, go_sem, ↓reduceIte, Nat.reduceEqDiff, Nat.reduceAdd, Nat.reduceMul, Nat.reduceLeDiff, Nat.reduceLT, Int.reduceLE, Int.reduceLT, reduceCtorEq]
    refine p37 hl q3 _ fun r τ1 p1 p2 p3 p4 p5 => ?_
    try simp only [OpK_eq, HKv, take6, List.drop_zero, Int.cast_ofNat_Int, go_sem, ↓reduceIte, Nat.reduceEqDiff, Nat.reduceAdd, Nat.reduceMul, Nat.reduceLeDiff, Nat.reduceLT, Int.reduceLE, Int.reduceLT, reduceCtorEq]
    refine ⟨fun _ => ?_, fun _ => ?_⟩
    · refine p37 hl p3 _ fun r3 τ2 m1 m2 m3 m4 m5 => ?_
      have m2 := m2 (by omega)
      try simp only [OpK_eq, HKv, take6, List.drop_zero, Int.cast_ofNat_Int, go_sem, ↓reduceIte, Nat.reduceEqDiff, Nat.reduceAdd, Nat.reduceMul, Nat.reduceLeDiff, Nat.reduceLT, Int.reduceLE, Int.reduceLT, reduceCtorEq]
      exact ⟨by omega, fun hr => Kv.Fin.still (hK t _ q1 q2 (by
        have := i3 _ (getD_memG hr)
        omega))⟩
    · refine outLoop hl q1 q2 (p3.app _) τ1.length (by simp [ints]) (by have := p3.lt; omega) (by simp [keep]) fun L ver ρ env' hL hS1 hid hk => ?_
      obtain ⟨k4, k5, k8⟩ : Kv.look env' 4 = PV.ptr 0 0 ∧ Kv.look env' 5 = PV.list (aggs t) ∧ Kv.look env' 8 = PV.ref τ1.length ver 0 L.length := by simpa [keep] using hk
      try simp only [OpK_eq, HKv, k4, k5, k8, take6, List.drop_zero, Int.cast_ofNat_Int, go_sem, ↓reduceIte, Nat.reduceEqDiff, Nat.reduceAdd, Nat.reduceMul, Nat.reduceLeDiff, Nat.reduceLT, Int.reduceLE, Int.reduceLT, reduceCtorEq]
      refine p37 hl hS1 _ fun r2 ρ2 n1 n2 n3 n4 n5 => ?_
      have hne : τ1.length ≠ 0 := by have := p3.lt; omega
      have hid2 := (n4.2 _ (List.getElem?_eq_some_iff.1 hid).1 hne).trans hid
      have hid2l := (List.getElem?_eq_some_iff.1 hid2).1
      have hL1 := hL.1
      have hL6 := hL.2.1
      try simp only [OpK_eq, HKv, k4, k5, k8, hid2, List.take_length, take6, List.drop_zero, Int.cast_ofNat_Int, go_sem, ↓reduceIte, Nat.reduceEqDiff, Nat.reduceAdd, Nat.reduceMul, Nat.reduceLeDiff, Nat.reduceLT, Int.reduceLE, Int.reduceLT, reduceCtorEq]
      refine ⟨fun _ => ⟨⟨by omega, by omega⟩, Kv.Fin.freeze (Imm.tupL (.cons Imm.still (.cons (Imm.refn (List.getElem?_set_self hid2l) (by simp)) (.nil _)))) (hK t (L ++ [0]) q1 q2 (by simp; omega))⟩, fun _ => ⟨fun _ => ?_, fun _ => Kv.Fin.freeze (Imm.tupL (.cons Imm.still (.cons (Imm.refn hid2 rfl) (.nil _)))) (hK t L q1 q2 (by omega))⟩⟩
      refine p38 hl (n3.app _) [-1, 1] (by simp) (id := ρ2.length) (ver := 0) (e := 2) (by simp [ints]) (by have := n3.lt; omega) 2 rfl fun r4 ρ3 w1 w2 w3 w4 => ?_
      have hid3 : ρ3[τ1.length]? = some (.arr ver 2 1 (ints L)) := (w3.2 _ (by simp; omega) hne).trans ((List.getElem?_append_left hid2l).trans hid2)
      have hid3l := (List.getElem?_eq_some_iff.1 hid3).1
      try simp only [OpK_eq, HKv, k4, k5, k8, hid3, List.take_length, take6, List.drop_zero, Int.cast_ofNat_Int, go_sem, ↓reduceIte, Nat.reduceEqDiff, Nat.reduceAdd, Nat.reduceMul, Nat.reduceLeDiff, Nat.reduceLT, Int.reduceLE, Int.reduceLT, reduceCtorEq]
      exact ⟨by omega, by omega, fun _ => Kv.Fin.freeze (Imm.tupL (.cons Imm.still (.cons (Imm.refn (List.getElem?_set_self hid3l) (by simp)) (.nil _)))) (hK t (L.set 0 r4) q1 q2 (by simp; omega))⟩
  · rw [if_neg hc] at hI
    refine hI.go ?_
    try simp only [OpK_eq, HKv, take6, List.drop_zero, Int.cast_ofNat_Int, go_sem, ↓reduceIte, Nat.reduceEqDiff, Nat.reduceAdd, Nat.reduceMul, Nat.reduceLeDiff, Nat.reduceLT, Int.reduceLE, Int.reduceLT, reduceCtorEq]
    refine ⟨fun h => absurd h hc, fun _ => ?_⟩
    refine outLoop hl q1 q2 (q3.app _) τ.length (by simp [ints]) (by have := q3.lt; omega) (by simp [keep]) fun L ver ρ env' hL hS1 hid hk => ?_
    obtain ⟨k4, k5, k8⟩ : Kv.look env' 4 = PV.ptr 0 0 ∧ Kv.look env' 5 = PV.list (aggs t) ∧ Kv.look env' 8 = PV.ref τ.length ver 0 L.length := by simpa [keep] using hk
    try simp only [OpK_eq, HKv, k4, k5, k8, take6, List.drop_zero, Int.cast_ofNat_Int, go_sem, ↓reduceIte, Nat.reduceEqDiff, Nat.reduceAdd, Nat.reduceMul, Nat.reduceLeDiff, Nat.reduceLT, Int.reduceLE, Int.reduceLT, reduceCtorEq]
    refine p37 hl hS1 _ fun r2 ρ2 n1 n2 n3 n4 n5 => ?_
    have hne : τ.length ≠ 0 := by have := q3.lt; omega
    have hid2 := (n4.2 _ (List.getElem?_eq_some_iff.1 hid).1 hne).trans hid
    have hid2l := (List.getElem?_eq_some_iff.1 hid2).1
    have hL1 := hL.1
    have hL6 := hL.2.1
    try simp only [OpK_eq, HKv, k4, k5, k8, hid2, List.take_length, take6, List.drop_zero, Int.cast_ofNat_Int, go_sem, ↓reduceIte, Nat.reduceEqDiff, Nat.reduceAdd, Nat.reduceMul, Nat.reduceLeDiff, Nat.reduceLT, Int.reduceLE, Int.reduceLT, reduceCtorEq]
    refine ⟨fun _ => ⟨⟨by omega, by omega⟩, Kv.Fin.freeze (Imm.tupL (.cons Imm.still (.cons (Imm.refn (List.getElem?_set_self hid2l) (by simp)) (.nil _)))) (hK t (L ++ [0]) q1 q2 (by simp; omega))⟩, fun _ => ⟨fun _ => ?_, fun _ => Kv.Fin.freeze (Imm.tupL (.cons Imm.still (.cons (Imm.refn hid2 rfl) (.nil _)))) (hK t L q1 q2 (by omega))⟩⟩
    refine p38 hl (n3.app _) [-1, 1] (by simp) (id := ρ2.length) (ver := 0) (e := 2) (by simp [ints]) (by have := n3.lt; omega) 2 rfl fun r4 ρ3 w1 w2 w3 w4 => ?_
    have hid3 : ρ3[τ.length]? = some (.arr ver 2 1 (ints L)) := (w3.2 _ (by simp; omega) hne).trans ((List.getElem?_append_left hid2l).trans hid2)
    have hid3l := (List.getElem?_eq_some_iff.1 hid3).1
    try simp only [OpK_eq, HKv, k4, k5, k8, hid3, List.take_length, take6, List.drop_zero, Int.cast_ofNat_Int, go_sem, ↓reduceIte, Nat.reduceEqDiff, Nat.reduceAdd, Nat.reduceMul, Nat.reduceLeDiff, Nat.reduceLT, Int.reduceLE, Int.reduceLT, reduceCtorEq]
    exact ⟨by omega, by omega, fun _ => Kv.Fin.freeze (Imm.tupL (.cons Imm.still (.cons (Imm.refn (List.getElem?_set_self hid3l) (by simp)) (.nil _)))) (hK t (L.set 0 r4) q1 q2 (by simp; omega))⟩
theorem p5 {l : List Int} (hl : Byt l) {K : PV → Heap → Prop}
    (hK : ∀ (t : List (List Int)) (P : List Int), t.length ≤ 7 → Mp6 t → P.length ≤ 1000 → K (.tup [.list (aggs t), .list (ints P)]) []) : ACall Tryz.prog 5 [.list (u8s l)] [] K := by
  refine e5 (by simp) fun _ _ => ?_
  simp only [k5, argEnv, take6, List.drop_zero, Int.cast_ofNat_Int, go_sem, ↓reduceIte, Nat.reduceEqDiff, Nat.reduceAdd, Nat.reduceMul, Nat.reduceLeDiff, Nat.reduceLT, Int.reduceLE, Int.reduceLT, reduceCtorEq]
  refine p18 hl fun t P q1 q2 q3 => ?_
  try simp only [OpK_eq, HKv, take6, List.drop_zero, Int.cast_ofNat_Int, go_sem, ↓reduceIte, Nat.reduceEqDiff, Nat.reduceAdd, Nat.reduceMul, Nat.reduceLeDiff, Nat.reduceLT, Int.reduceLE, Int.reduceLT, reduceCtorEq]
  exact Kv.Fin.still (hK t P q1 q2 q3)
theorem p11 {l : List Int} (hl : Byt l) {K : PV → Heap → Prop}
    (hK : ∀ (t : List (List Int)), t.length ≤ 7 → Mp6 t → K (.list (aggs t)) []) : ACall Tryz.prog 11 [.list (u8s l)] [] K := by
  refine e11 (by simp) fun _ _ => ?_
  simp only [k11, argEnv, take6, List.drop_zero, Int.cast_ofNat_Int, go_sem, ↓reduceIte, Nat.reduceEqDiff, Nat.reduceAdd, Nat.reduceMul, Nat.reduceLeDiff, Nat.reduceLT, Int.reduceLE, Int.reduceLT, reduceCtorEq]
  refine p28 hl fun h => ?_
  have hS0 : Src [srcO l 0 h] 0 l := ⟨0, h, rfl, Nat.zero_le _⟩
  try simp only [OpK_eq, HKv, take6, List.drop_zero, Int.cast_ofNat_Int, go_sem, ↓reduceIte, Nat.reduceEqDiff, Nat.reduceAdd, Nat.reduceMul, Nat.reduceLeDiff, Nat.reduceLT, Int.reduceLE, Int.reduceLT, reduceCtorEq]
  refine p27 hl hS0 fun t τ q1 q2 q3 q4 => ?_
  try simp only [OpK_eq, HKv, take6, List.drop_zero, Int.cast_ofNat_Int, go_sem, ↓reduceIte, Nat.reduceEqDiff, Nat.reduceAdd, Nat.reduceMul, Nat.reduceLeDiff, Nat.reduceLT, Int.reduceLE, Int.reduceLT, reduceCtorEq]
  exact Kv.Fin.still (hK t q1 q2)
end Go.Proofs.YtodmbkceindakaaGreat
