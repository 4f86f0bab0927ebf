/- The new desk. -/
import Derived.Test.YtkdkdkkimieieaaNDc
import Derived.Test.YtkdkdkkimieieaaLA
import Derived.Test.YtkdkdkkimieieaaDK
namespace Go.Proofs.Ytkdkdkkimieieaa
open Go.Kv
set_option linter.unusedVariables false
set_option linter.unusedSimpArgs false
attribute [local irreducible] ACall PCall KL
theorem p27 (σ : Heap) (id ver : Nat) (e : TypeId) (l post : List (List Int)) (m : List Int) (hm : m.length = 6) (k : Int) (hid : σ[id]? = some (.arr ver e 6 (aggs (l ++ post)))) (hl6 : ∀ r ∈ l, r.length = 6) (hk : 0 ≤ k ∧ k ≤ 4294967296) (hl : l.length ≤ 1048576) {K : PV → Heap → Prop} (hK : K (.int .i64 (k + 6 * l.length)) (σ.set id (.arr ver e 6 (aggs (seqA k l.length ++ post))))) :
    ACall Try.prog 27 [.agg (.ref id ver 0 l.length :: ints m), .int .i64 k] σ K := by
  refine e27 (by simp) fun _ _ => ?_
  simp only [k27, argEnv, hm, take6, List.drop_zero, Int.cast_ofNat_Int, go_sem, ↓reduceIte, Nat.reduceEqDiff, Nat.reduceAdd, Nat.reduceMul, Nat.reduceLeDiff, Nat.reduceLT, Int.reduceLE, Int.reduceLT, reduceCtorEq]
  refine p62 σ id ver e l post k hid hl6 hk hl ?_
  try simp only [take6, List.drop_zero, Int.cast_ofNat_Int, go_sem, ↓reduceIte, Nat.reduceEqDiff, Nat.reduceAdd, Nat.reduceMul, Nat.reduceLeDiff, Nat.reduceLT, Int.reduceLE, Int.reduceLT, reduceCtorEq]
  exact Kv.Fin.now hK
theorem p28 (k : Int) (n : Nat) (m : List Int) (hm : m.length = 6) (hk : 0 ≤ k ∧ k ≤ 4294967296) (hl : n ≤ 1048576) : Pure Try.prog 28 [.agg (.list (aggs (seqA k n)) :: ints m), .int .i64 k] (.int .i64 (k + 6 * n)) := by
  refine e28 (by simp) fun _ _ => ?_
  simp only [k28, argEnv, hm, take6, List.drop_zero, Int.cast_ofNat_Int, go_sem, ↓reduceIte, Nat.reduceEqDiff, Nat.reduceAdd, Nat.reduceMul, Nat.reduceLeDiff, Nat.reduceLT, Int.reduceLE, Int.reduceLT, reduceCtorEq]
  refine (p63 k n hk hl).go ?_
  try simp only [take6, List.drop_zero, Int.cast_ofNat_Int, go_sem, ↓reduceIte, Nat.reduceEqDiff, Nat.reduceAdd, Nat.reduceMul, Nat.reduceLeDiff, Nat.reduceLT, Int.reduceLE, Int.reduceLT, reduceCtorEq]
  repeat' (first | refine And.intro ?_ ?_ | intro _)
  all_goals (try omega)
  exact Kv.Fin.still ⟨rfl, rfl⟩
def ndL : List (List Int) := [[2, 1, 0, 0, 0, 0], [2, 0, 0, 0, 0, 0]]
def ndM : List Int := [2, 1, 0, 0, 0, 0]
theorem ndM6 : ndM.length = 6 := rfl
theorem ndL6 : ∀ r ∈ ndL, r.length = 6 := by simp [ndL]
theorem nd_put : putC (ints [2, 0, 0, 0, 0, 0]) 1 [.int .i64 1, .int .i64 0, .int .i64 0, .int .i64 0, .int .i64 0] = ints ndM := rfl
theorem nd_ints : [PV.int .i64 2, .int .i64 0, .int .i64 0, .int .i64 0, .int .i64 0, .int .i64 0] = ints [2, 0, 0, 0, 0, 0] := rfl
theorem nd_aggs : [PV.agg (ints ndM), PV.agg (ints [2, 0, 0, 0, 0, 0])] = aggs ndL := rfl
theorem nd_get : ndL.getD 0 [] = ndM := rfl
theorem nd_len : ndL.length = 2 := rfl
theorem p59 (σ : Heap) (id : Nat) (e : TypeId) (hid : σ[id]? = some (.arr 0 e 6 (aggs ndL))) {K : PV → Heap → Prop} (hK : ∀ b, K (.agg (.ref id 0 0 2 :: ints ndM)) (σ ++ [.box b])) : ACall Try.prog 59 [.ref id 0 0 2] σ K := by
  have hlt := (List.getElem?_eq_some_iff.1 hid).1
  have hid' : ∀ b, (σ ++ [b])[id]? = some (.arr 0 e 6 (aggs ndL)) := fun b => by rw [List.getElem?_append_left hlt]; exact hid
  have hb : ∀ b, (σ ++ [b])[σ.length]? = some b := fun b => by simp
  have hs : ∀ b b', (σ ++ [b]).set σ.length b' = σ ++ [b'] := fun b b' => by simp [List.set_append_right]
  refine e59 (by simp) fun _ _ => ?_
  simp only [k59, argEnv, hid', nd_len, nd_get, ndM6, take6, List.drop_zero, Int.cast_ofNat_Int, go_sem, ↓reduceIte, Nat.reduceEqDiff, Nat.reduceAdd, Nat.reduceMul, Nat.reduceLeDiff, Nat.reduceLT, Int.reduceLE, Int.reduceLT, reduceCtorEq]
  try simp only [hid', nd_len, nd_get, ndM6, hb, hs, Int.reduceToNat, putC_desk ndM6, putC_desk7 ndM6, subC_desk7 ndM6, take6, List.drop_zero, Int.cast_ofNat_Int, go_sem, ↓reduceIte, Nat.reduceEqDiff, Nat.reduceAdd, Nat.reduceMul, Nat.reduceLeDiff, Nat.reduceLT, Int.reduceLE, Int.reduceLT, reduceCtorEq]
  exact Kv.Fin.now (hK _)
theorem p25 {σ : Heap} {K : PV → Heap → Prop} (hK : ∀ b b', K (.agg (.ref (σ.length + 1) 0 0 2 :: ints ndM)) (σ ++ [.box b, .arr 0 33 6 (aggs ndL), .box b'])) : ACall Try.prog 25 [] σ K := by
  have h0 : ACall Try.prog 25 [] [] (fun v s => ∃ b b', v = .agg (.ref 1 0 0 2 :: ints ndM) ∧ s = [.box b, .arr 0 33 6 (aggs ndL), .box b']) := by
    refine e25 (by simp) fun _ _ => ?_
    simp only [k25, argEnv, take6, List.drop_zero, Int.cast_ofNat_Int, go_sem, ↓reduceIte, Nat.reduceEqDiff, Nat.reduceAdd, Nat.reduceMul, Nat.reduceLeDiff, Nat.reduceLT, Int.reduceLE, Int.reduceLT, reduceCtorEq]
    simp only [nd_put, nd_ints, nd_aggs]
    refine ⟨by simp [ndM6, ints_length, ints_ok], ?_⟩
    refine p59 _ 1 33 rfl fun b => ?_
    try simp only [ndM6, putC_desk7 ndM6, subC_desk7 ndM6, take6, List.drop_zero, Int.cast_ofNat_Int, go_sem, ↓reduceIte, Nat.reduceEqDiff, Nat.reduceAdd, Nat.reduceMul, Nat.reduceLeDiff, Nat.reduceLT, Int.reduceLE, Int.reduceLT, reduceCtorEq]
    exact Kv.Fin.now ⟨_, _, rfl, rfl⟩
  refine ACall.frame h0 (by simp) fun v s ⟨b, b', hv, hs⟩ => ?_
  subst hv; subst hs
  have e : PV.ren (Kv.sh σ.length) (.agg (.ref 1 0 0 2 :: ints ndM)) = .agg (.ref (σ.length + 1) 0 0 2 :: ints ndM) := by
    simp only [PV.ren, renL_eq, List.map_cons, ren_ints, sh_def, Nat.add_comm 1]
  rw [e]
  have := hK (b.map (PV.ren (Kv.sh σ.length))) (b'.map (PV.ren (Kv.sh σ.length)))
  simpa only [List.map_cons, List.map_nil, ren_arr, ren_aggs, AObj.ren, renL_eq] using this
theorem p92 (σ : Heap) (id : Nat) (e : TypeId) (hid : σ[id]? = some (.arr 0 e 6 (aggs ndL))) {K : PV → Heap → Prop} (hK : ∀ b, K (.agg (.ref id 0 0 2 :: ints ndM)) (σ ++ [.box b])) : ACall Try.prog 92 [.ref id 0 0 2] σ K := by
  have hlt := (List.getElem?_eq_some_iff.1 hid).1
  have hid' : ∀ b, (σ ++ [b])[id]? = some (.arr 0 e 6 (aggs ndL)) := fun b => by rw [List.getElem?_append_left hlt]; exact hid
  have hb : ∀ b, (σ ++ [b])[σ.length]? = some b := fun b => by simp
  have hs : ∀ b b', (σ ++ [b]).set σ.length b' = σ ++ [b'] := fun b b' => by simp [List.set_append_right]
  refine e92 (by simp) fun _ _ => ?_
  simp only [k92, argEnv, hid', nd_len, nd_get, ndM6, take6, List.drop_zero, Int.cast_ofNat_Int, go_sem, ↓reduceIte, Nat.reduceEqDiff, Nat.reduceAdd, Nat.reduceMul, Nat.reduceLeDiff, Nat.reduceLT, Int.reduceLE, Int.reduceLT, reduceCtorEq]
  try simp only [hid', nd_len, nd_get, ndM6, hb, hs, Int.reduceToNat, putC_desk ndM6, putC_desk7 ndM6, subC_desk7 ndM6, take6, List.drop_zero, Int.cast_ofNat_Int, go_sem, ↓reduceIte, Nat.reduceEqDiff, Nat.reduceAdd, Nat.reduceMul, Nat.reduceLeDiff, Nat.reduceLT, Int.reduceLE, Int.reduceLT, reduceCtorEq]
  exact Kv.Fin.now (hK _)
theorem Imm.desk {σ : Heap} {x : PV} {l : List (List Int)} {m : List Int} (h : Imm σ x (.list (aggs l))) : Imm σ (.agg (x :: ints m)) (.agg (.list (aggs l) :: ints m)) := by
  refine .agg _ _ (by simp) (by simp [PV.ok, ints_ok m]) fun i c d hc hd => ?_
  cases i with
  | zero => simp only [List.getElem?_cons_zero, Option.some.injEq] at hc hd; subst hc; subst hd; exact h
  | succ i =>
    simp only [List.getElem?_cons_succ] at hc hd
    rw [hc] at hd; cases hd
    obtain ⟨z, _, rfl⟩ := ints_get hc
    exact Imm.still
theorem p58 : Pure Try.prog 58 [] (.agg (.list (aggs ndL) :: ints ndM)) := by
  refine e58 (by simp) fun _ _ => ?_
  simp only [k58, argEnv, take6, List.drop_zero, Int.cast_ofNat_Int, go_sem, ↓reduceIte, Nat.reduceEqDiff, Nat.reduceAdd, Nat.reduceMul, Nat.reduceLeDiff, Nat.reduceLT, Int.reduceLE, Int.reduceLT, reduceCtorEq]
  simp only [nd_put, nd_ints, nd_aggs]
  refine ⟨by simp [ndM6, ints_length, ints_ok], ?_⟩
  refine p92 _ 1 33 rfl fun b => ?_
  try simp only [ndM6, putC_desk7 ndM6, subC_desk7 ndM6, take6, List.drop_zero, Int.cast_ofNat_Int, go_sem, ↓reduceIte, Nat.reduceEqDiff, Nat.reduceAdd, Nat.reduceMul, Nat.reduceLeDiff, Nat.reduceLT, Int.reduceLE, Int.reduceLT, reduceCtorEq]
  exact Kv.Fin.freeze (Imm.desk (Imm.refa (l := ndL) rfl)) ⟨rfl, rfl⟩
theorem p24 : Pure Try.prog 24 [] (.agg (.list (aggs ndL) :: ints ndM)) := by
  refine e24 (by simp) fun _ _ => ?_
  simp only [k24, argEnv, take6, List.drop_zero, Int.cast_ofNat_Int, go_sem, ↓reduceIte, Nat.reduceEqDiff, Nat.reduceAdd, Nat.reduceMul, Nat.reduceLeDiff, Nat.reduceLT, Int.reduceLE, Int.reduceLT, reduceCtorEq]
  refine Pure.go (r := .agg (.list (aggs ndL) :: ints ndM)) p58 ?_
  try simp only [ndM6, putC_desk7 ndM6, subC_desk7 ndM6, take6, List.drop_zero, Int.cast_ofNat_Int, go_sem, ↓reduceIte, Nat.reduceEqDiff, Nat.reduceAdd, Nat.reduceMul, Nat.reduceLeDiff, Nat.reduceLT, Int.reduceLE, Int.reduceLT, reduceCtorEq]
  exact Kv.Fin.still ⟨rfl, rfl⟩
theorem p6 : Pure Try.prog 6 [] (.bool true) := by
  have h17 : ndL.length ≤ 1048576 := by simp [nd_len]
  have hself := p26 ndL ndL ndM ndM h17 h17 ndL6 ndL6 ndM6 ndM6
  rw [decide_eq_true rfl, decide_eq_true rfl] at hself
  refine e6 (by simp) fun _ _ => ?_
  simp only [k6, argEnv, take6, List.drop_zero, Int.cast_ofNat_Int, go_sem, ↓reduceIte, Nat.reduceEqDiff, Nat.reduceAdd, Nat.reduceMul, Nat.reduceLeDiff, Nat.reduceLT, Int.reduceLE, Int.reduceLT, reduceCtorEq]
  refine Pure.go (r := .agg (.list (aggs ndL) :: ints ndM)) p24 ?_
  try simp only [ndM6, putC_desk7 ndM6, subC_desk7 ndM6, take6, List.drop_zero, Int.cast_ofNat_Int, go_sem, ↓reduceIte, Nat.reduceEqDiff, Nat.reduceAdd, Nat.reduceMul, Nat.reduceLeDiff, Nat.reduceLT, Int.reduceLE, Int.reduceLT, reduceCtorEq]
  refine p25 fun b b' => ?_
  try simp only [ndM6, putC_desk7 ndM6, subC_desk7 ndM6, take6, List.drop_zero, Int.cast_ofNat_Int, go_sem, ↓reduceIte, Nat.reduceEqDiff, Nat.reduceAdd, Nat.reduceMul, Nat.reduceLeDiff, Nat.reduceLT, Int.reduceLE, Int.reduceLT, reduceCtorEq]
  refine hself.lend (.cons (Imm.desk (Imm.refa (l := ndL) rfl)) (.cons Imm.still (.nil _))) ?_
  try simp only [ndM6, putC_desk7 ndM6, subC_desk7 ndM6, take6, List.drop_zero, Int.cast_ofNat_Int, go_sem, ↓reduceIte, Nat.reduceEqDiff, Nat.reduceAdd, Nat.reduceMul, Nat.reduceLeDiff, Nat.reduceLT, Int.reduceLE, Int.reduceLT, reduceCtorEq]
  refine p27 _ 2 0 33 ndL [] ndM ndM6 1 (by simp) ndL6 (by omega) h17 ?_
  try simp only [ndM6, putC_desk7 ndM6, subC_desk7 ndM6, nd_len, take6, List.drop_zero, Int.cast_ofNat_Int, go_sem, ↓reduceIte, Nat.reduceEqDiff, Nat.reduceAdd, Nat.reduceMul, Nat.reduceLeDiff, Nat.reduceLT, Int.reduceLE, Int.reduceLT, reduceCtorEq]
  refine (p28 1 2 ndM ndM6 (by omega) (by omega)).lend (.cons (Imm.desk (Imm.refa (l := seqA 1 2) rfl)) (.cons Imm.still (.nil _))) ?_
  try simp only [ndM6, putC_desk7 ndM6, subC_desk7 ndM6, nd_len, take6, List.drop_zero, Int.cast_ofNat_Int, go_sem, ↓reduceIte, Nat.reduceEqDiff, Nat.reduceAdd, Nat.reduceMul, Nat.reduceLeDiff, Nat.reduceLT, Int.reduceLE, Int.reduceLT, reduceCtorEq]
  refine ⟨fun h => absurd h (by omega), fun _ => ?_⟩
  refine p25 fun b2 b3 => ?_
  try simp only [ndM6, putC_desk7 ndM6, subC_desk7 ndM6, take6, List.drop_zero, Int.cast_ofNat_Int, go_sem, ↓reduceIte, Nat.reduceEqDiff, Nat.reduceAdd, Nat.reduceMul, Nat.reduceLeDiff, Nat.reduceLT, Int.reduceLE, Int.reduceLT, reduceCtorEq]
  refine hself.lend (.cons (Imm.desk (Imm.refa (l := ndL) rfl)) (.cons Imm.still (.nil _))) ?_
  try simp only [ndM6, putC_desk7 ndM6, subC_desk7 ndM6, take6, List.drop_zero, Int.cast_ofNat_Int, go_sem, ↓reduceIte, Nat.reduceEqDiff, Nat.reduceAdd, Nat.reduceMul, Nat.reduceLeDiff, Nat.reduceLT, Int.reduceLE, Int.reduceLT, reduceCtorEq]
  refine (p28 1 2 ndM ndM6 (by omega) (by omega)).lend (.cons (Imm.desk (Imm.refa (l := seqA 1 2) rfl)) (.cons Imm.still (.nil _))) ?_
  try simp only [ndM6, putC_desk7 ndM6, subC_desk7 ndM6, nd_len, take6, List.drop_zero, Int.cast_ofNat_Int, go_sem, ↓reduceIte, Nat.reduceEqDiff, Nat.reduceAdd, Nat.reduceMul, Nat.reduceLeDiff, Nat.reduceLT, Int.reduceLE, Int.reduceLT, reduceCtorEq]
  refine ⟨fun h => absurd h (by omega), fun _ => ?_⟩
  exact Kv.Fin.still ⟨rfl, rfl⟩
end Go.Proofs.Ytkdkdkkimieieaa
