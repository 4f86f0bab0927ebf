/- LeastImages: the specification. -/
import Derived.Test.YtpepbomifjbgnaaCb
import Derived.Test.YtpepbomifjbgnaaIZ
namespace Go.Proofs.Ytpepbomifjbgnaa
open Go.Kv
set_option maxRecDepth 100000
/- spec.l01Ones -/
/- live [0, 3] -/
def k83_b0 : KC := (.seq (.seq (.ops [⟨(some 4), none, .mv (.t 0)⟩, ⟨(some 5), none, .bin .gtr (.t 4) (.c (.int .i64 0))⟩])
  (.cond (.t 5) .skip (.exit 0)))
  (.seq (.block 1 (.ops [⟨(some 8), none, .mv (.t 3)⟩, ⟨(some 9), none, .mv (.t 0)⟩, ⟨(some 10), none, .bin .rem (.t 9) (.c (.int .i64 2))⟩, ⟨(some 11), none, .bin .add (.t 8) (.t 10)⟩, ⟨(some 3), none, .mv (.t 11)⟩]))
  (.ops [⟨(some 6), none, .mv (.t 0)⟩, ⟨(some 7), none, .bin .quo (.t 6) (.c (.int .i64 2))⟩, ⟨(some 0), none, .mv (.t 7)⟩])))
def k83 : KC := (.seq (.ops [⟨(some 2), none, .mv (.c (.int .i64 0))⟩])
  (.seq (.ops [⟨(some 3), none, .mv (.c (.int .i64 0))⟩])
  (.seq (.block 0 (.loop k83_b0))
  (.seq (.ops [⟨(some 12), none, .mv (.t 3)⟩, ⟨(some 2), none, .mv (.t 12)⟩])
  .ret))))
theorem e83 {args : List PV} {σ : Heap} {K : PV → Heap → Prop} (hl : args.length ≤ 13) (h : Wf σ → (∀ a ∈ args, PV.upto σ.length a) → vc (mkCfg Try.prog mixed [] 13 σ.length) k83 (FinK σ.length [.t 2] K) (argEnv 0 args) σ) : ACall Try.prog 83 args σ K :=
  ACall_enter (C := mkCfg Try.prog mixed [] 13 σ.length) (c := Try.f83.body.getD .skip) Try.func83 (by kernel_rfl) (by kernel_rfl) (by kernel_rfl) rfl hl (by kernel_rfl) (by kernel_rfl) h
/- spec.LeastImages -/
/- live [5, 6, 7] -/
def k39_b0 : KC := (.seq (.seq (.ops [⟨(some 23), none, .mv (.t 7)⟩, ⟨(some 24), none, .mv (.t 5)⟩, ⟨(some 25), none, .len false (.t 24)⟩, ⟨(some 26), none, .bin .lss (.t 23) (.t 25)⟩])
  (.cond (.t 26) .skip (.exit 0)))
  (.seq (.block 1 (.seq (.draw [⟨(some 29), none, .mv (.t 5)⟩, ⟨(some 30), none, .mv (.t 7)⟩, ⟨(some 31), none, .idxS 1 (.t 29) (.t 30)⟩, ⟨(some 32), none, .load false 1 (.t 31)⟩, ⟨(some 34), none, .mv (.t 5)⟩, ⟨(some 35), none, .idxS 1 (.t 34) (.c (.int .i64 0))⟩, ⟨(some 36), none, .load false 1 (.t 35)⟩, ⟨(some 33), none, .pcall (.c (.fn (.func 83) [] [])) [(.t 32)]⟩, ⟨(some 37), none, .pcall (.c (.fn (.func 83) [] [])) [(.t 36)]⟩, ⟨(some 38), none, .bin .eql (.t 33) (.t 37)⟩])
  (.cond (.t 38) (.ops [⟨(some 39), none, .mv (.t 6)⟩, ⟨(some 40), none, .mv (.t 5)⟩, ⟨(some 41), none, .mv (.t 7)⟩, ⟨(some 42), none, .idxS 1 (.t 40) (.t 41)⟩, ⟨(some 43), none, .load false 1 (.t 42)⟩, ⟨(some 44), none, .bsl true 2 1 [(.t 43)]⟩, ⟨(some 45), none, .app (.t 39) (.t 44) 2 1⟩, ⟨(some 6), none, .mv (.t 45)⟩]) .skip)))
  (.ops [⟨(some 27), none, .mv (.t 7)⟩, ⟨(some 28), none, .bin .add (.t 27) (.c (.int .i64 1))⟩, ⟨(some 7), none, .mv (.t 28)⟩])))
def k39 : KC := (.seq (.ops [⟨(some 2), none, .mv (.c (.nils))⟩, ⟨(some 3), none, .mv (.c (.int .i64 0))⟩])
  (.seq (.seq (.ops [⟨(some 8), none, .mv (.t 0)⟩, ⟨(some 9), none, .call (.c (.fn (.func 51) [] [])) [(.t 8), (.c (.nils))]⟩, ⟨(some 4), none, .mv (.t 9)⟩])
  (.seq (.ops [⟨(some 10), none, .mv (.t 4)⟩, ⟨(some 11), none, .bin .neq (.t 10) (.c (.int .i64 0))⟩])
  (.cond (.t 11) (.seq (.ops [⟨(some 12), none, .mv (.t 4)⟩, ⟨(some 2), none, .mv (.c (.nils))⟩, ⟨(some 3), none, .mv (.t 12)⟩])
  .ret) .skip)))
  (.seq (.ops [⟨(some 13), none, .mv (.t 0)⟩, ⟨(some 14), none, .mv (.t 0)⟩, ⟨(some 15), none, .idxS 6 (.t 14) (.c (.int .i64 0))⟩, ⟨(some 16), none, .fieldA 0 (.t 15)⟩, ⟨(some 17), none, .load false 1 (.t 16)⟩, ⟨(some 18), none, .conv .u64 (.t 17)⟩, ⟨(some 19), none, .bin .shl (.c (.int .i64 1)) (.t 18)⟩, ⟨(some 20), none, .bin .sub (.t 19) (.c (.int .i64 1))⟩, ⟨(some 21), none, .call (.c (.fn (.func 82) [] [])) [(.t 13), (.t 20)]⟩, ⟨(some 22), none, .bsl false 2 1 []⟩, ⟨(some 5), none, .mv (.t 21)⟩, ⟨(some 6), none, .mv (.t 22)⟩])
  (.seq (.seq (.ops [⟨(some 7), none, .mv (.c (.int .i64 0))⟩])
  (.block 0 (.loop k39_b0)))
  (.seq (.ops [⟨(some 46), none, .mv (.t 6)⟩, ⟨(some 47), none, .call (.c (.fn (.func 73) [] [])) [(.t 46)]⟩, ⟨(some 2), none, .mv (.t 47)⟩, ⟨(some 3), none, .mv (.c (.int .i64 0))⟩])
  .ret)))))
theorem e39 {args : List PV} {σ : Heap} {K : PV → Heap → Prop} (hl : args.length ≤ 48) (h : Wf σ → (∀ a ∈ args, PV.upto σ.length a) → vc (mkCfg Try.prog mixed [44] 48 σ.length) k39 (FinK σ.length [.t 2, .t 3] K) (argEnv 0 args) σ) : ACall Try.prog 39 args σ K :=
  ACall_enter (C := mkCfg Try.prog mixed [44] 48 σ.length) (c := Try.f39.body.getD .skip) Try.func39 (by kernel_rfl) (by kernel_rfl) (by kernel_rfl) rfl hl (by kernel_rfl) (by kernel_rfl) h
end Go.Proofs.Ytpepbomifjbgnaa
namespace Go.Proofs.Ytpepbomifjbgnaa
open Go.Kv
set_option linter.unusedVariables false
set_option linter.unusedSimpArgs false
attribute [local irreducible] ACall PCall KL
theorem pof_halfS (y k : Nat) : (pof y (k + 1)).length = y % 2 + (pof (y / 2) k).length := by
  unfold pof
  rw [List.range_succ_eq_map, List.filter_cons, List.filter_map]
  have e : (List.range k).filter ((fun i => y.testBit i) ∘ Nat.succ) = (List.range k).filter fun i => (y / 2).testBit i := List.filter_congr fun i _ => by
    simp only [Function.comp_apply, Nat.succ_eq_add_one, Nat.testBit_succ]
  rw [e]
  have h0 : y.testBit 0 = decide (y % 2 = 1) := Nat.testBit_zero y
  rw [h0]
  by_cases h : y % 2 = 1
  · rw [h]; simp; omega
  · have : y % 2 = 0 := by omega
    rw [this]; simp
theorem pof_half {y : Nat} (h : y < 2 ^ 62) : (pof y 62).length = y % 2 + (pof (y / 2) 62).length := by
  have h1 := pof_halfS y 61
  have h2 := pof_ext (s := y / 2) (n := 61) (by
    have : (2 : Nat) ^ 62 = 2 * 2 ^ 61 := by decide
    omega) 1
  rw [show (61 : Nat) + 1 = 62 from rfl] at h1 h2
  rw [h1, h2]
theorem p83 (x : Nat) (hx : x < 2 ^ 62) : Pure Try.prog 83 [.int .i64 x] (.int .i64 (pof x 62).length) := by
  have hxl := pof_le x 62
  have h62 : (2 : Nat) ^ 62 = 4611686018427387904 := by decide
  refine e83 (by simp) fun _ _ => ?_
  simp only [k83, argEnv, take6, List.drop_zero, Int.cast_ofNat_Int, go_sem, ↓reduceIte, Nat.reduceEqDiff, Nat.reduceAdd, Nat.reduceMul, Nat.reduceLeDiff, Nat.reduceLT, Int.reduceLE, Int.reduceLT, reduceCtorEq]
  refine KL_ind k83_b0.eq_1 (fun y : Nat × Nat => [(0, .int .i64 y.1), (3, .int .i64 y.2)]) (fun _ => []) (fun y => y.1 < 2 ^ 62 ∧ y.2 + (pof y.1 62).length = (pof x 62).length) (fun y => y.1) [0, 3] (x, 0) (by simp [keep]) rfl ⟨hx, by simp⟩ fun ⟨y, c⟩ ⟨hy, hc⟩ ih => ?_
  simp only at hy hc
  have hh := pof_half hy
  try simp only [OpK_eq, HKv, take6, List.drop_zero, Int.cast_ofNat_Int, go_sem, ↓reduceIte, Nat.reduceEqDiff, Nat.reduceAdd, Nat.reduceMul, Nat.reduceLeDiff, Nat.reduceLT, Int.reduceLE, Int.reduceLT, reduceCtorEq]
  have e2 : (y : Int) / 2 = ((y / 2 : Nat) : Int) := by omega
  have e3 : (c : Int) + (y : Int) % 2 = ((c + y % 2 : Nat) : Int) := by omega
  rw [e2, e3]
  refine ⟨fun h => ⟨by omega, by omega, ih (y / 2, c + y % 2) ⟨by show y / 2 < 2 ^ 62; omega, by show c + y % 2 + (pof (y / 2) 62).length = _; omega⟩ (by show y / 2 < y; omega) _ _ (by simp [keep]) rfl⟩, fun h => ?_⟩
  obtain rfl : y = 0 := by omega
  have e0 : pof 0 62 = [] := by simp [pof]
  rw [e0] at hc
  exact Kv.Fin.still ⟨by rw [← hc]; simp, rfl⟩
/-- The sets with as many points as the first. -/
def lsS (S : List Nat) : List Nat := S.filter fun b => decide ((pof b 62).length = (pof (S.getD 0 0) 62).length)
def lsSt (S : List Nat) (y : Nat) : List Nat := (S.take y).filter fun b => decide ((pof b 62).length = (pof (S.getD 0 0) 62).length)
theorem lsSt_succ (S : List Nat) {y : Nat} (h : y < S.length) : lsSt S (y + 1) = if (pof (S.getD y 0) 62).length = (pof (S.getD 0 0) 62).length then lsSt S y ++ [S.getD y 0] else lsSt S y := by
  unfold lsSt
  rw [List.take_succ_eq_append_getElem h, List.filter_append, getD_eq h]
  by_cases e : (pof S[y] 62).length = (pof (S.getD 0 0) 62).length
  · rw [if_pos e]; simp [e]
  · rw [if_neg e, List.filter_cons_of_neg (by simpa using e)]; simp
theorem p39_in (fs : List (List Nat)) (n : Nat) (hf : ∀ f ∈ fs, Ok f n) (h0 : 0 < fs.length) (hfl : fs.length ≤ 6) (hl : lcode (fs.map mp) [] = 0) : Pure Try.prog 39 [.list (aggs (fs.map mp))] (.tup [.list (rows (rowsB (lsS (imS fs n (2 ^ n - 1))))), .int .i64 0]) := by
  have hk := hf _ (List.getElem_mem h0)
  have h6k := hk.mp_len
  have h5 := hk.le
  have h1 := hk.pos
  have h32 := pw5 h5
  have hn : (mp fs[0]).getD 0 0 = (n : Int) := by simp [mp, mpN, hk.len]
  have hn61 : n ≤ 61 := by omega
  have h2n : 2 ≤ 2 ^ n := by
    have := Nat.pow_le_pow_right (show 0 < 2 by omega) h1
    simpa using this
  have hS := imS_srt (fs := fs) (x := 2 ^ n - 1) h5
  have hSm := imS_mem (fs := fs) (x := 2 ^ n - 1) h5 hf (by omega) (by omega)
  have hSl := srt_len5 hS h5 fun b hb => (((hSm b).1 hb).bnd hf (by omega) (by omega)).2
  have hpos : 0 < (imS fs n (2 ^ n - 1)).length := List.length_pos_of_mem ((hSm _).2 .here)
  refine e39 (by simp) fun _ _ => ?_
  simp only [k39, argEnv, take6, List.drop_zero, Int.cast_ofNat_Int, go_sem, ↓reduceIte, Nat.reduceEqDiff, Nat.reduceAdd, Nat.reduceMul, Nat.reduceLeDiff, Nat.reduceLT, Int.reduceLE, Int.reduceLT, reduceCtorEq]
  refine (p51n (fs.map mp) (by simp; omega) (fun r hr => by obtain ⟨f, hf', rfl⟩ := List.mem_map.1 hr; exact (hf f hf').mp_len)).go ?_
  rw [hl]
  try simp only [OpK_eq, HKv, map_getD h0, h6k, hn, List.length_map, aConv_u64 hn61, aBin_shl1 hn61, take6, List.drop_zero, Int.cast_ofNat_Int, go_sem, ↓reduceIte, Nat.reduceEqDiff, Nat.reduceAdd, Nat.reduceMul, Nat.reduceLeDiff, Nat.reduceLT, Int.reduceLE, Int.reduceLT, reduceCtorEq]
  have e1 : ((2 ^ n : Nat) : Int) - 1 = ((2 ^ n - 1 : Nat) : Int) := by omega
  rw [e1]
  refine ⟨by omega, fun _ => ⟨by omega, ?_⟩⟩
  refine (p82 fs n h5 hf (by omega) (2 ^ n - 1) (by omega) (by omega)).go ?_
  generalize imS fs n (2 ^ n - 1) = S at *
  try simp only [OpK_eq, HKv, take6, List.drop_zero, Int.cast_ofNat_Int, go_sem, ↓reduceIte, Nat.reduceEqDiff, Nat.reduceAdd, Nat.reduceMul, Nat.reduceLeDiff, Nat.reduceLT, Int.reduceLE, Int.reduceLT, reduceCtorEq]
  refine KL_ind k39_b0.eq_1 (fun y : Nat => [(5, .list (ints (nz S))), (6, .ref 0 (lsSt S y).length 0 (lsSt S y).length), (7, .int .i64 y)]) (fun y => [.arr (lsSt S y).length 2 1 (ints (nz (lsSt S y)))]) (fun y => y ≤ S.length) (fun y => S.length - y) [5, 6, 7] 0 (by simp [keep, lsSt]) (by simp [lsSt, nz]; rfl) (Nat.zero_le _) fun y hy ih => ?_
  have hll : (lsSt S y).length ≤ y := by
    unfold lsSt
    refine Nat.le_trans (List.length_filter_le _ _) ?_
    rw [List.length_take]; omega
  try simp only [OpK_eq, HKv, nz_len, nzD, take6, List.drop_zero, Int.cast_ofNat_Int, go_sem, ↓reduceIte, Nat.reduceEqDiff, Nat.reduceAdd, Nat.reduceMul, Nat.reduceLeDiff, Nat.reduceLT, Int.reduceLE, Int.reduceLT, reduceCtorEq]
  refine ⟨fun h2 => ?_, fun h2 => ?_⟩
  · have hyl : y < S.length := by omega
    have ha := hS.2 _ (getD_mem hyl 0)
    have hb := hS.2 _ (getD_mem hpos 0)
    refine ⟨by omega, fun _ => ⟨by omega, fun _ => ?_⟩⟩
    have hsu := lsSt_succ S hyl
    refine (p83 _ ha).pgo ?_
    try simp only [OpK_eq, HKv, take6, List.drop_zero, Int.cast_ofNat_Int, go_sem, ↓reduceIte, Nat.reduceEqDiff, Nat.reduceAdd, Nat.reduceMul, Nat.reduceLeDiff, Nat.reduceLT, Int.reduceLE, Int.reduceLT, reduceCtorEq]
    refine (p83 _ hb).pgo ?_
    have htk : List.take (lsSt S y).length (nz (lsSt S y)) = nz (lsSt S y) := List.take_of_length_le (by rw [nz_len]; exact Nat.le_refl _)
    by_cases e : (pof (S.getD y 0) 62).length = (pof (S.getD 0 0) 62).length
    · rw [if_pos e] at hsu
      try simp only [OpK_eq, HKv, nz_len, nzD, htk, take6, List.drop_zero, Int.cast_ofNat_Int, go_sem, ↓reduceIte, Nat.reduceEqDiff, Nat.reduceAdd, Nat.reduceMul, Nat.reduceLeDiff, Nat.reduceLT, Int.reduceLE, Int.reduceLT, reduceCtorEq]
      refine ⟨fun _ => ⟨by omega, fun _ => ⟨⟨by omega, by omega⟩, by omega, ih (y + 1) (by omega) (by omega) _ _ ?_ ?_⟩⟩, fun h => absurd (by omega) h⟩
      · rw [hsu]; simp [keep]
      · rw [hsu]; simp [nz]
    · rw [if_neg e] at hsu
      try simp only [OpK_eq, HKv, nz_len, nzD, htk, take6, List.drop_zero, Int.cast_ofNat_Int, go_sem, ↓reduceIte, Nat.reduceEqDiff, Nat.reduceAdd, Nat.reduceMul, Nat.reduceLeDiff, Nat.reduceLT, Int.reduceLE, Int.reduceLT, reduceCtorEq]
      refine ⟨fun h => absurd (by omega) e, fun _ => ⟨by omega, ih (y + 1) (by omega) (by omega) _ _ ?_ ?_⟩⟩
      · rw [hsu]; simp [keep]
      · rw [hsu]
  · obtain rfl : y = S.length := by omega
    have e : lsSt S S.length = lsS S := by rw [lsSt, List.take_length]; rfl
    rw [e] at hll ⊢
    try simp only [OpK_eq, HKv, take6, List.drop_zero, Int.cast_ofNat_Int, go_sem, ↓reduceIte, Nat.reduceEqDiff, Nat.reduceAdd, Nat.reduceMul, Nat.reduceLeDiff, Nat.reduceLT, Int.reduceLE, Int.reduceLT, reduceCtorEq]
    refine ACall.give (id := 0) rfl (p73 (lsS S) (fun x hx => hS.2 x (List.mem_filter.1 hx).1) (by omega)) (.cons (Imm.refn (l := nz (lsS S)) (solo_get rfl) (by rw [nz_len])) (.nil _)) fun v s hv => ?_
    obtain ⟨rfl, rfl⟩ := hv
    try simp only [OpK_eq, HKv, take6, List.drop_zero, Int.cast_ofNat_Int, go_sem, ↓reduceIte, Nat.reduceEqDiff, Nat.reduceAdd, Nat.reduceMul, Nat.reduceLeDiff, Nat.reduceLT, Int.reduceLE, Int.reduceLT, reduceCtorEq]
    exact Kv.Fin.still ⟨rfl, rfl⟩
theorem p39_out (a : List (List Int)) (ha : a.length ≤ 1048576) (h6 : ∀ r ∈ a, r.length = 6) (hc : lcode a [] ≠ 0) : Pure Try.prog 39 [.list (aggs a)] (.tup [.nils, .int .i64 (lcode a [])]) := by
  refine e39 (by simp) fun _ _ => ?_
  simp only [k39, argEnv, take6, List.drop_zero, Int.cast_ofNat_Int, go_sem, ↓reduceIte, Nat.reduceEqDiff, Nat.reduceAdd, Nat.reduceMul, Nat.reduceLeDiff, Nat.reduceLT, Int.reduceLE, Int.reduceLT, reduceCtorEq]
  refine (p51n a ha h6).go ?_
  try simp only [OpK_eq, HKv, take6, List.drop_zero, Int.cast_ofNat_Int, go_sem, ↓reduceIte, Nat.reduceEqDiff, Nat.reduceAdd, Nat.reduceMul, Nat.reduceLeDiff, Nat.reduceLT, Int.reduceLE, Int.reduceLT, reduceCtorEq]
  exact ⟨fun h1 => Kv.Fin.still ⟨rfl, rfl⟩, fun h1 => absurd h1 hc⟩
end Go.Proofs.Ytpepbomifjbgnaa
