/- Sorting of at most twelve numbers by a function, the greatest first. -/
import Derived.Test.YtpkddcjecfogeaaSFc
import Derived.Test.YtpkddcjecfogeaaIN
namespace Go.Proofs.Ytpkddcjecfogeaa
open Go.Kv
set_option linter.unusedVariables false
set_option linter.unusedSimpArgs false
attribute [local irreducible] ACall PCall KL
def negs (m : List Int) : List Int := m.map fun x => -x
@[simp] theorem negs_length (m : List Int) : (negs m).length = m.length := by simp [negs]
theorem negs_getD (m : List Int) (i : Nat) : (negs m).getD i 0 = - m.getD i 0 := by
  simp only [negs, List.getD_eq_getElem?_getD, List.getElem?_map]
  cases m[i]? <;> simp
theorem negs_swap (m : List Int) (j : Nat) : swap1 (negs m) j = negs (swap1 m j) := by
  unfold swap1
  rw [negs_getD, negs_getD]
  simp only [negs, List.map_set]
theorem cmpI_lt (a b : Int) : cmpI a b < 0 ↔ a < b := by
  unfold cmpI
  split
  · simp; omega
  · split <;> simp <;> omega
theorem p159 (fid : FuncId) (hcmp : ∀ a b : Int, Pure Try.prog fid [.int .i64 a, .int .i64 b] (.int .i64 (cmpI b a))) (σ : Heap) (id ver : Nat) (e : TypeId) (l : List Int) (hid : σ[id]? = some (.arr ver e 1 (ints l))) (hn : l.length ≤ 4294967296) {K : PV → Heap → Prop} (hK : ∀ r : List Int, r.Perm l → (negs r).Pairwise (· ≤ ·) → K (.tup []) (σ.set id (.arr ver e 1 (ints r)))) :
    ACall Try.prog 159 [.ref id ver 0 l.length, .int .i64 0, .int .i64 l.length, .fn (.func fid) [] []] σ K := by
  have hlt := (List.getElem?_eq_some_iff.1 hid).1
  have hself : ∀ o, (σ.set id o)[id]? = some o := fun o => List.getElem?_set_self hlt
  have hset : ∀ o o', (σ.set id o).set id o' = σ.set id o' := fun o o' => List.set_set ..
  have h00 : σ.set id (.arr ver e 1 (ints l)) = σ := List.ext_getElem? fun i => by
    by_cases h : id = i
    · subst h; rw [hself, hid]
    · rw [List.getElem?_set_ne h]
  refine e159 (by simp) fun _ _ => ?_
  simp only [k159, argEnv, take6, List.drop_zero, Int.cast_ofNat_Int, go_sem, ↓reduceIte, Nat.reduceEqDiff, Nat.reduceAdd, Nat.reduceMul, Nat.reduceLeDiff, Nat.reduceLT, Int.reduceLE, Int.reduceLT, reduceCtorEq]
  refine ⟨by omega, ?_⟩
  refine KL_ind k159_b1.eq_1 (fun x : Nat × List Int => [(0, .ref id ver 0 l.length), (1, .int .i64 0), (2, .int .i64 l.length), (3, .fn (.func fid) [] []), (8, .int .i64 x.1)]) (fun x => σ.set id (.arr ver e 1 (ints x.2))) (fun x => 1 ≤ x.1 ∧ x.1 ≤ l.length + 1 ∧ x.2.Perm l ∧ Sn (negs x.2) x.1) (fun x => l.length + 1 - x.1) [0, 1, 2, 3, 8] (1, l) (by simp [keep]) h00.symm ⟨Nat.le_refl _, by omega, .refl _, fun x y h1 h2 => by omega⟩ fun ⟨i, m⟩ ⟨hi1, hi2, hp, hS⟩ ih => ?_
  simp only at hi1 hi2 hp hS
  have hml := hp.length_eq
  try simp only [take6, List.drop_zero, Int.cast_ofNat_Int, go_sem, ↓reduceIte, Nat.reduceEqDiff, Nat.reduceAdd, Nat.reduceMul, Nat.reduceLeDiff, Nat.reduceLT, Int.reduceLE, Int.reduceLT, reduceCtorEq]
  refine ⟨fun h1 => ?_, fun h1 => ?_⟩
  · have hil : i < l.length := by omega
    refine KL_ind k159_b0.eq_1 (fun x : Nat × List Int => [(0, .ref id ver 0 l.length), (1, .int .i64 0), (2, .int .i64 l.length), (3, .fn (.func fid) [] []), (8, .int .i64 i), (9, .int .i64 x.1)]) (fun x => σ.set id (.arr ver e 1 (ints x.2))) (fun x => x.1 ≤ i ∧ x.2.Perm l ∧ Jn (negs x.2) i x.1) (fun x => x.1) [0, 1, 2, 3, 8, 9] (i, m) (by simp [keep]) rfl ⟨Nat.le_refl _, hp, .zero hS⟩ fun ⟨j, m⟩ ⟨hj, hp, hJ⟩ ihj => ?_
    simp only at hj hp hJ
    clear hml hS
    have hml := hp.length_eq
    have hj1 : ((j : Int) - 1).toNat = j - 1 := by omega
    try simp only [hself, hset, hml, hj1, take6, List.drop_zero, Int.cast_ofNat_Int, go_sem, ↓reduceIte, Nat.reduceEqDiff, Nat.reduceAdd, Nat.reduceMul, Nat.reduceLeDiff, Nat.reduceLT, Int.reduceLE, Int.reduceLT, reduceCtorEq]
    refine ⟨fun h2 => ⟨by omega, by omega, fun _ => ⟨by omega, by omega, by omega, fun _ => ?_⟩⟩, fun h2 => ⟨by omega, ?_⟩⟩
    · refine (hcmp _ _).go ?_
      try simp only [hself, hset, hml, hj1, take6, List.drop_zero, Int.cast_ofNat_Int, go_sem, ↓reduceIte, Nat.reduceEqDiff, Nat.reduceAdd, Nat.reduceMul, Nat.reduceLeDiff, Nat.reduceLT, Int.reduceLE, Int.reduceLT, reduceCtorEq]
      refine ⟨fun h3 => ⟨by omega, by omega, by omega, by omega, fun _ => ⟨by omega, by omega, fun _ => ⟨by omega, by omega, fun _ => ⟨by omega, by omega, fun _ => ⟨by omega, ?_⟩⟩⟩⟩⟩, fun h3 => ⟨by omega, ?_⟩⟩
      · refine ihj (j - 1, swap1 m j) ⟨by show j - 1 ≤ i; omega, (swap1_perm (by omega)).trans hp, ?_⟩ (by show j - 1 < j; omega) _ _ (by simp [keep]; omega) rfl
        rw [← negs_swap]
        exact hJ.step (by simp; omega) hj (by omega) (by have := (cmpI_lt _ _).1 h3; rw [negs_getD, negs_getD]; omega)
      · refine ih (i + 1, m) ⟨by show 1 ≤ i + 1; omega, by show i + 1 ≤ l.length + 1; omega, hp, hJ.done hj (.inr (by have : ¬ m.getD (j - 1) 0 < m.getD j 0 := fun h => h3 ((cmpI_lt _ _).2 h); rw [negs_getD, negs_getD]; omega))⟩ (by show l.length + 1 - (i + 1) < l.length + 1 - i; omega) _ _ (by simp [keep]) rfl
    · refine ih (i + 1, m) ⟨by show 1 ≤ i + 1; omega, by show i + 1 ≤ l.length + 1; omega, hp, hJ.done hj (.inl (by omega))⟩ (by show l.length + 1 - (i + 1) < l.length + 1 - i; omega) _ _ (by simp [keep]) rfl
  · have hS' : Sn (negs m) (negs m).length := fun x y h3 h4 => hS x y h3 (by simp at h4; omega)
    exact Kv.Fin.now (hK m hp hS'.pairwise)
theorem p112 (fid : FuncId) (hcmp : ∀ a b : Int, Pure Try.prog fid [.int .i64 a, .int .i64 b] (.int .i64 (cmpI b a))) (σ : Heap) (id ver : Nat) (e : TypeId) (l : List Int) (hid : σ[id]? = some (.arr ver e 1 (ints l))) (hn : l.length ≤ 12) (lim : Int) {K : PV → Heap → Prop} (hK : ∀ r : List Int, r.Perm l → (negs r).Pairwise (· ≤ ·) → K (.tup []) (σ.set id (.arr ver e 1 (ints r)))) :
    ACall Try.prog 112 [.ref id ver 0 l.length, .int .i64 0, .int .i64 l.length, .int .i64 lim, .fn (.func fid) [] []] σ K := by
  refine e112 (by simp) fun _ _ => ?_
  simp only [k112, argEnv, take6, List.drop_zero, Int.cast_ofNat_Int, go_sem, ↓reduceIte, Nat.reduceEqDiff, Nat.reduceAdd, Nat.reduceMul, Nat.reduceLeDiff, Nat.reduceLT, Int.reduceLE, Int.reduceLT, reduceCtorEq]
  refine KL_round ?_
  rw [k112_b0]
  try simp only [take6, List.drop_zero, Int.cast_ofNat_Int, go_sem, ↓reduceIte, Nat.reduceEqDiff, Nat.reduceAdd, Nat.reduceMul, Nat.reduceLeDiff, Nat.reduceLT, Int.reduceLE, Int.reduceLT, reduceCtorEq]
  refine ⟨by omega, fun _ => ?_, fun h => absurd h (by omega)⟩
  refine p159 fid hcmp σ id ver e l hid (by omega) fun r hp hS => ?_
  try simp only [take6, List.drop_zero, Int.cast_ofNat_Int, go_sem, ↓reduceIte, Nat.reduceEqDiff, Nat.reduceAdd, Nat.reduceMul, Nat.reduceLeDiff, Nat.reduceLT, Int.reduceLE, Int.reduceLT, reduceCtorEq]
  exact Kv.Fin.now (hK r hp hS)
theorem p57 (fid : FuncId) (hcmp : ∀ a b : Int, Pure Try.prog fid [.int .i64 a, .int .i64 b] (.int .i64 (cmpI b a))) (σ : Heap) (id ver : Nat) (e : TypeId) (l : List Int) (hid : σ[id]? = some (.arr ver e 1 (ints l))) (hn : l.length ≤ 12) {K : PV → Heap → Prop} (hK : ∀ r : List Int, r.Perm l → (negs r).Pairwise (· ≤ ·) → K (.tup []) (σ.set id (.arr ver e 1 (ints r)))) :
    ACall Try.prog 57 [.ref id ver 0 l.length, .fn (.func fid) [] []] σ K := by
  refine e57 (by simp) fun _ _ => ?_
  simp only [k57, argEnv, hid, take6, List.drop_zero, Int.cast_ofNat_Int, go_sem, ↓reduceIte, Nat.reduceEqDiff, Nat.reduceAdd, Nat.reduceMul, Nat.reduceLeDiff, Nat.reduceLT, Int.reduceLE, Int.reduceLT, reduceCtorEq]
  rw [aWrap_u64 (by omega)]
  try simp only [take6, List.drop_zero, Int.cast_ofNat_Int, go_sem, ↓reduceIte, Nat.reduceEqDiff, Nat.reduceAdd, Nat.reduceMul, Nat.reduceLeDiff, Nat.reduceLT, Int.reduceLE, Int.reduceLT, reduceCtorEq]
  refine (p113 l.length hn).go fun v s ⟨⟨k, hv⟩, hs⟩ => ?_
  subst hv; subst hs
  try simp only [take6, List.drop_zero, Int.cast_ofNat_Int, go_sem, ↓reduceIte, Nat.reduceEqDiff, Nat.reduceAdd, Nat.reduceMul, Nat.reduceLeDiff, Nat.reduceLT, Int.reduceLE, Int.reduceLT, reduceCtorEq]
  refine p112 fid hcmp σ id ver e l hid hn k fun r hp hS => ?_
  try simp only [take6, List.drop_zero, Int.cast_ofNat_Int, go_sem, ↓reduceIte, Nat.reduceEqDiff, Nat.reduceAdd, Nat.reduceMul, Nat.reduceLeDiff, Nat.reduceLT, Int.reduceLE, Int.reduceLT, reduceCtorEq]
  exact Kv.Fin.now (hK r hp hS)
end Go.Proofs.Ytpkddcjecfogeaa
