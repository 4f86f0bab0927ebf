/- InvariantSets: the specification. -/
import Derived.Test.YtpepbomifjbgnaaCb
import Derived.Test.YtpepbomifjbgnaaIU
namespace Go.Proofs.Ytpepbomifjbgnaa
open Go.Kv
set_option maxRecDepth 100000
/- spec.InvariantSets -/
/- live [0, 5, 6, 7, 8, 33, 34, 35, 36, 37, 38, 39, 40, 41, 42] -/
def k37_b0 : KC := (.seq (.seq (.ops [⟨(some 25), none, .mv (.t 8)⟩, ⟨(some 26), none, .mv (.t 0)⟩, ⟨(some 27), none, .len false (.t 26)⟩, ⟨(some 28), none, .bin .lss (.t 25) (.t 27)⟩])
  (.cond (.t 28) .skip (.exit 2)))
  (.seq (.block 3 (.ops [⟨(some 31), none, .mv (.t 7)⟩, ⟨(some 32), none, .mv (.t 31)⟩, ⟨(some 33), some (32, true), .mv (.t 0)⟩, ⟨(some 34), some (32, true), .mv (.t 8)⟩, ⟨(some 35), some (32, true), .idxS 6 (.t 33) (.t 34)⟩, ⟨(some 36), some (32, true), .load true 6 (.t 35)⟩, ⟨(some 37), some (32, true), .mv (.t 6)⟩, ⟨(some 38), some (32, true), .call (.c (.fn (.func 71) [] [])) [(.t 36), (.t 37)]⟩, ⟨(some 39), some (32, true), .mv (.t 6)⟩, ⟨(some 40), some (32, true), .bin .or (.t 38) (.t 39)⟩, ⟨(some 41), some (32, true), .mv (.t 6)⟩, ⟨(some 42), some (32, true), .bin .eql (.t 40) (.t 41)⟩, ⟨(some 43), none, .pick (.t 32) (.t 42) (.c (.bool false))⟩, ⟨(some 7), none, .mv (.t 43)⟩]))
  (.ops [⟨(some 29), none, .mv (.t 8)⟩, ⟨(some 30), none, .bin .add (.t 29) (.c (.int .i64 1))⟩, ⟨(some 8), none, .mv (.t 30)⟩])))
/- live [0, 5, 6, 33, 34, 35, 36, 37, 38, 39, 40, 41, 42] -/
def k37_b1 : KC := (.seq (.seq (.ops [⟨(some 15), none, .mv (.t 6)⟩, ⟨(some 16), none, .mv (.t 0)⟩, ⟨(some 17), none, .idxS 6 (.t 16) (.c (.int .i64 0))⟩, ⟨(some 18), none, .fieldA 0 (.t 17)⟩, ⟨(some 19), none, .load false 1 (.t 18)⟩, ⟨(some 20), none, .conv .u64 (.t 19)⟩, ⟨(some 21), none, .bin .shl (.c (.int .i64 1)) (.t 20)⟩, ⟨(some 22), none, .bin .lss (.t 15) (.t 21)⟩])
  (.cond (.t 22) .skip (.exit 0)))
  (.seq (.block 1 (.seq (.ops [⟨(some 7), none, .mv (.c (.bool true))⟩])
  (.seq (.seq (.ops [⟨(some 8), none, .mv (.c (.int .i64 0))⟩])
  (.block 2 (.loop k37_b0)))
  (.seq (.ops [⟨(some 44), none, .mv (.t 7)⟩])
  (.cond (.t 44) (.ops [⟨(some 45), none, .mv (.t 5)⟩, ⟨(some 46), none, .mv (.t 6)⟩, ⟨(some 47), none, .call (.c (.fn (.func 72) [] [])) [(.t 45), (.t 46)]⟩, ⟨(some 5), none, .mv (.t 47)⟩]) .skip)))))
  (.ops [⟨(some 23), none, .mv (.t 6)⟩, ⟨(some 24), none, .bin .add (.t 23) (.c (.int .i64 1))⟩, ⟨(some 6), none, .mv (.t 24)⟩])))
def k37 : KC := (.seq (.ops [⟨(some 2), none, .mv (.c (.nils))⟩, ⟨(some 3), none, .mv (.c (.int .i64 0))⟩])
  (.seq (.seq (.ops [⟨(some 9), none, .mv (.t 0)⟩, ⟨(some 10), none, .call (.c (.fn (.func 51) [] [])) [(.t 9), (.c (.nils))]⟩, ⟨(some 4), none, .mv (.t 10)⟩])
  (.seq (.ops [⟨(some 11), none, .mv (.t 4)⟩, ⟨(some 12), none, .bin .neq (.t 11) (.c (.int .i64 0))⟩])
  (.cond (.t 12) (.seq (.ops [⟨(some 13), none, .mv (.t 4)⟩, ⟨(some 2), none, .mv (.c (.nils))⟩, ⟨(some 3), none, .mv (.t 13)⟩])
  .ret) .skip)))
  (.seq (.ops [⟨(some 14), none, .bsl false 2 1 []⟩, ⟨(some 5), none, .mv (.t 14)⟩])
  (.seq (.seq (.ops [⟨(some 6), none, .mv (.c (.int .i64 1))⟩])
  (.block 0 (.loop k37_b1)))
  (.seq (.ops [⟨(some 48), none, .mv (.t 5)⟩, ⟨(some 49), none, .call (.c (.fn (.func 73) [] [])) [(.t 48)]⟩, ⟨(some 2), none, .mv (.t 49)⟩, ⟨(some 3), none, .mv (.c (.int .i64 0))⟩])
  .ret)))))
theorem e37 {args : List PV} {σ : Heap} {K : PV → Heap → Prop} (hl : args.length ≤ 50) (h : Wf σ → (∀ a ∈ args, PV.upto σ.length a) → vc (mkCfg Try.prog mixed [] 50 σ.length) k37 (FinK σ.length [.t 2, .t 3] K) (argEnv 0 args) σ) : ACall Try.prog 37 args σ K :=
  ACall_enter (C := mkCfg Try.prog mixed [] 50 σ.length) (c := Try.f37.body.getD .skip) Try.func37 (by kernel_rfl) (by kernel_rfl) (by kernel_rfl) rfl hl (by kernel_rfl) (by kernel_rfl) h
end Go.Proofs.Ytpepbomifjbgnaa
namespace Go.Proofs.Ytpepbomifjbgnaa
open Go.Kv
set_option linter.unusedVariables false
set_option linter.unusedSimpArgs false
attribute [local irreducible] ACall PCall KL
theorem insS_one (fs : List (List Nat)) (n : Nat) : insS fs n 1 = [] := by simp [insS]
theorem moved_x (f : List Nat) (n : Nat) (hf : Ok f n) {x : Nat} (hx : x < 2 ^ n) : Pure Try.prog 71 [.agg (ints (mp f)), .int .i64 x] (.int .i64 (mvb f n x)) := by
  have := p71 f n hf (pof x n) (fun y hy => pof_mlt hy)
  rwa [pof_lt hx] at this
theorem p37_in (fs : List (List Nat)) (n : Nat) (hf : ∀ f ∈ fs, Ok f n) (h0 : 0 < fs.length) (hfl : fs.length ≤ 6) (hl : lcode (fs.map mp) [] = 0) : Pure Try.prog 37 [.list (aggs (fs.map mp))] (.tup [.list (rows (rowsB (insS fs n (2 ^ n)))), .int .i64 0]) := by
  have hk := hf _ (List.getElem_mem h0)
  have h6k := hk.mp_len
  have h5 := hk.le
  have h1 := hk.pos
  have h32 := pw5 h5
  have hn : (mp fs[0]).getD 0 0 = (n : Int) := by simp [mp, mpN, hk.len]
  have hn61 : n ≤ 61 := by omega
  refine e37 (by simp) fun _ _ => ?_
  simp only [k37, argEnv, take6, List.drop_zero, Int.cast_ofNat_Int, go_sem, ↓reduceIte, Nat.reduceEqDiff, Nat.reduceAdd, Nat.reduceMul, Nat.reduceLeDiff, Nat.reduceLT, Int.reduceLE, Int.reduceLT, reduceCtorEq]
  refine (p51n (fs.map mp) (by simp; omega) (fun r hr => by obtain ⟨f, hf', rfl⟩ := List.mem_map.1 hr; exact (hf f hf').mp_len)).go ?_
  rw [hl]
  try simp only [OpK_eq, HKv, take6, List.drop_zero, Int.cast_ofNat_Int, go_sem, ↓reduceIte, Nat.reduceEqDiff, Nat.reduceAdd, Nat.reduceMul, Nat.reduceLeDiff, Nat.reduceLT, Int.reduceLE, Int.reduceLT, reduceCtorEq]
  refine KL_freeze (env0 := [(0, .list (aggs (fs.map mp))), (5, .ref 0 0 0 0), (6, .int .i64 1)]) (env' := [(0, .list (aggs (fs.map mp))), (5, .list (ints (nz (insS fs n 1)))), (6, .int .i64 1)]) [0, 5, 6] rfl (by simp [keep]) (.cons Imm.still (.cons (by rw [insS_one]; exact Imm.refn (id := 0) (ver := 0) (n := 0) (e := 2) (l := []) rfl rfl) (.cons Imm.still .nil))) ?_
  refine KL_ind k37_b1.eq_1 (fun x : Nat => [(0, .list (aggs (fs.map mp))), (5, .list (ints (nz (insS fs n x)))), (6, .int .i64 x)]) (fun _ => []) (fun x => 1 ≤ x ∧ x ≤ 2 ^ n) (fun x => 2 ^ n - x) [0, 5, 6] 1 (by simp [keep]) rfl ⟨Nat.le_refl _, Nat.pos_of_ne_zero (by simp)⟩ fun x ⟨hx1, hx⟩ ih => ?_
  have hS := insS_srt fs n x (by have : (32 : Nat) ≤ 2 ^ 62 := by decide
                                 omega)
  have hSl := insS_len fs n x (by have : (32 : Nat) ≤ 2 ^ 62 := by decide
                                  omega)
  have hSs : insS fs n (x + 1) = if 1 ≤ x ∧ okS fs n x = true then putB (insS fs n x) x else insS fs n x := rfl
  try simp only [OpK_eq, HKv, map_getD h0, h6k, hn, List.length_map, aConv_u64 hn61, aBin_shl1 hn61, take6, List.drop_zero, Int.cast_ofNat_Int, go_sem, ↓reduceIte, Nat.reduceEqDiff, Nat.reduceAdd, Nat.reduceMul, Nat.reduceLeDiff, Nat.reduceLT, Int.reduceLE, Int.reduceLT, reduceCtorEq]
  refine ⟨by omega, fun _ => ⟨fun h2 => ?_, fun h2 => ?_⟩⟩
  · have hxn : x < 2 ^ n := by omega
    have hx62 := lt62 h5 hxn
    refine KL_ind k37_b0.eq_1 (fun k : Nat => [(0, .list (aggs (fs.map mp))), (5, .list (ints (nz (insS fs n x)))), (6, .int .i64 x), (7, .bool ((fs.take k).all fun f => decide (mvb f n x ||| x = x))), (8, .int .i64 k)]) (fun _ => []) (fun k => k ≤ fs.length) (fun k => fs.length - k) [0, 5, 6, 7, 8] 0 (by simp [keep]) rfl (Nat.zero_le _) fun k hkl ihk => ?_
    try simp only [OpK_eq, HKv, List.length_map, take6, List.drop_zero, Int.cast_ofNat_Int, go_sem, ↓reduceIte, Nat.reduceEqDiff, Nat.reduceAdd, Nat.reduceMul, Nat.reduceLeDiff, Nat.reduceLT, Int.reduceLE, Int.reduceLT, reduceCtorEq]
    refine ⟨fun h3 => ?_, fun h3 => ?_⟩
    · have hkl2 : k < fs.length := by omega
      have hfm : fs[k] ∈ fs := List.getElem_mem hkl2
      have hfk := hf _ hfm
      have h6f := hfk.mp_len
      have hgk : (fs.map mp).getD k [] = mp fs[k] := by simp [List.getD_eq_getElem?_getD, hkl2]
      have htk : (fs.take (k + 1)).all (fun f => decide (mvb f n x ||| x = x)) = ((fs.take k).all (fun f => decide (mvb f n x ||| x = x)) && decide (mvb fs[k] n x ||| x = x)) := by
        rw [List.take_succ_eq_append_getElem hkl2, List.all_append]; simp
      have hmx := lt62 h5 (mvb_lt hfk x)
      rw [hgk]
      generalize hg : (fs.take k).all (fun f => decide (mvb f n x ||| x = x)) = g at *
      cases g with
      | true =>
        try simp only [OpK_eq, HKv, h6f, take6, List.drop_zero, Int.cast_ofNat_Int, go_sem, ↓reduceIte, Nat.reduceEqDiff, Nat.reduceAdd, Nat.reduceMul, Nat.reduceLeDiff, Nat.reduceLT, Int.reduceLE, Int.reduceLT, reduceCtorEq]
        refine ⟨by omega, fun _ => ?_⟩
        refine (moved_x fs[k] n hfk hxn).go ?_
        have hor2 := fun K => aBin_or (K := K) hmx hx62
        try simp only [OpK_eq, HKv, hor2, take6, List.drop_zero, Int.cast_ofNat_Int, go_sem, ↓reduceIte, Nat.reduceEqDiff, Nat.reduceAdd, Nat.reduceMul, Nat.reduceLeDiff, Nat.reduceLT, Int.reduceLE, Int.reduceLT, reduceCtorEq]
        refine ⟨by omega, ihk (k + 1) (by omega) (by omega) _ _ ?_ rfl⟩
        rw [htk, Bool.true_and]
        simp only [keep, List.map_cons, List.map_nil, look_cons, Nat.reduceEqDiff, ↓reduceIte, Int.natCast_add]
        have : decide (((mvb fs[k] n x ||| x : Nat) : Int) = (x : Int)) = decide (mvb fs[k] n x ||| x = x) := decide_eq_decide.2 (by omega)
        rw [this]; rfl
      | false =>
        try simp only [OpK_eq, HKv, h6f, take6, List.drop_zero, Int.cast_ofNat_Int, go_sem, ↓reduceIte, Nat.reduceEqDiff, Nat.reduceAdd, Nat.reduceMul, Nat.reduceLeDiff, Nat.reduceLT, Int.reduceLE, Int.reduceLT, reduceCtorEq]
        refine ⟨by omega, ihk (k + 1) (by omega) (by omega) _ _ ?_ rfl⟩
        rw [htk, Bool.false_and]; rfl
    · obtain rfl : k = fs.length := by omega
      rw [List.take_length]
      have hok : (fs.all fun f => decide (mvb f n x ||| x = x)) = okS fs n x := rfl
      rw [hok]
      cases hg : okS fs n x with
      | true =>
        rw [hg, if_pos ⟨hx1, rfl⟩] at hSs
        try simp only [OpK_eq, HKv, take6, List.drop_zero, Int.cast_ofNat_Int, go_sem, ↓reduceIte, Nat.reduceEqDiff, Nat.reduceAdd, Nat.reduceMul, Nat.reduceLeDiff, Nat.reduceLT, Int.reduceLE, Int.reduceLT, reduceCtorEq]
        refine (p72 (insS fs n x) x hS hx62 (by omega)).go ?_
        try simp only [OpK_eq, HKv, take6, List.drop_zero, Int.cast_ofNat_Int, go_sem, ↓reduceIte, Nat.reduceEqDiff, Nat.reduceAdd, Nat.reduceMul, Nat.reduceLeDiff, Nat.reduceLT, Int.reduceLE, Int.reduceLT, reduceCtorEq]
        refine ⟨by omega, ih (x + 1) ⟨by omega, by omega⟩ (by omega) _ _ ?_ rfl⟩
        rw [hSs]; rfl
      | false =>
        rw [hg, if_neg (fun h => by cases h.2)] at hSs
        try simp only [OpK_eq, HKv, take6, List.drop_zero, Int.cast_ofNat_Int, go_sem, ↓reduceIte, Nat.reduceEqDiff, Nat.reduceAdd, Nat.reduceMul, Nat.reduceLeDiff, Nat.reduceLT, Int.reduceLE, Int.reduceLT, reduceCtorEq]
        refine ⟨by omega, ih (x + 1) ⟨by omega, by omega⟩ (by omega) _ _ ?_ rfl⟩
        rw [hSs]; rfl
  · obtain rfl : x = 2 ^ n := by omega
    try simp only [OpK_eq, HKv, take6, List.drop_zero, Int.cast_ofNat_Int, go_sem, ↓reduceIte, Nat.reduceEqDiff, Nat.reduceAdd, Nat.reduceMul, Nat.reduceLeDiff, Nat.reduceLT, Int.reduceLE, Int.reduceLT, reduceCtorEq]
    refine (p73 _ hS.2 (by omega)).go ?_
    try simp only [OpK_eq, HKv, take6, List.drop_zero, Int.cast_ofNat_Int, go_sem, ↓reduceIte, Nat.reduceEqDiff, Nat.reduceAdd, Nat.reduceMul, Nat.reduceLeDiff, Nat.reduceLT, Int.reduceLE, Int.reduceLT, reduceCtorEq]
    exact Kv.Fin.still ⟨rfl, rfl⟩
theorem p38_out (a : List (List Int)) (ha : a.length ≤ 1048576) (h6 : ∀ r ∈ a, r.length = 6) (hc : lcode a [] ≠ 0) : Pure Try.prog 38 [.list (aggs a)] (.tup [.nils, .int .i64 (lcode a [])]) := by
  refine e38 (by simp) fun _ _ => ?_
  simp only [k38, argEnv, take6, List.drop_zero, Int.cast_ofNat_Int, go_sem, ↓reduceIte, Nat.reduceEqDiff, Nat.reduceAdd, Nat.reduceMul, Nat.reduceLeDiff, Nat.reduceLT, Int.reduceLE, Int.reduceLT, reduceCtorEq]
  refine (p54 _ a [] .nil ha (by simp) h6 (by simp)).go ?_
  try simp only [OpK_eq, HKv, take6, List.drop_zero, Int.cast_ofNat_Int, go_sem, ↓reduceIte, Nat.reduceEqDiff, Nat.reduceAdd, Nat.reduceMul, Nat.reduceLeDiff, Nat.reduceLT, Int.reduceLE, Int.reduceLT, reduceCtorEq]
  exact ⟨fun h1 => Kv.Fin.still ⟨rfl, rfl⟩, fun h1 => absurd h1 hc⟩
theorem p37_out (a : List (List Int)) (ha : a.length ≤ 1048576) (h6 : ∀ r ∈ a, r.length = 6) (hc : lcode a [] ≠ 0) : Pure Try.prog 37 [.list (aggs a)] (.tup [.nils, .int .i64 (lcode a [])]) := by
  refine e37 (by simp) fun _ _ => ?_
  simp only [k37, argEnv, take6, List.drop_zero, Int.cast_ofNat_Int, go_sem, ↓reduceIte, Nat.reduceEqDiff, Nat.reduceAdd, Nat.reduceMul, Nat.reduceLeDiff, Nat.reduceLT, Int.reduceLE, Int.reduceLT, reduceCtorEq]
  refine (p51n a ha h6).go ?_
  try simp only [OpK_eq, HKv, take6, List.drop_zero, Int.cast_ofNat_Int, go_sem, ↓reduceIte, Nat.reduceEqDiff, Nat.reduceAdd, Nat.reduceMul, Nat.reduceLeDiff, Nat.reduceLT, Int.reduceLE, Int.reduceLT, reduceCtorEq]
  exact ⟨fun h1 => Kv.Fin.still ⟨rfl, rfl⟩, fun h1 => absurd h1 hc⟩
end Go.Proofs.Ytpepbomifjbgnaa
