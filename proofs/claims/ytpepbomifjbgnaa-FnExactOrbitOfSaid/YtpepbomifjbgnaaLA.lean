/- Marking and holding of lists of maps. -/
import Derived.Test.YtpepbomifjbgnaaCb
import Derived.Test.YtpepbomifjbgnaaML
namespace Go.Proofs.Ytpepbomifjbgnaa
open Go.Kv
set_option maxRecDepth 100000
/- laws.markMapS -/
/- live [0, 1, 5, 6] -/
def k26_b0 : KC := (.seq (.seq (.ops [⟨(some 20), none, .mv (.t 6)⟩, ⟨(some 21), none, .bin .lss (.t 20) (.c (.int .i64 5))⟩])
  (.cond (.t 21) .skip (.exit 2)))
  (.seq (.block 3 (.seq (.ops [⟨(some 24), none, .mv (.t 0)⟩, ⟨(some 25), none, .mv (.t 5)⟩, ⟨(some 26), none, .mv (.t 6)⟩, ⟨(some 27), none, .mv (.t 1)⟩, ⟨(some 28), none, .idxS 6 (.t 24) (.t 25)⟩, ⟨(some 29), none, .fieldA 1 (.t 28)⟩, ⟨(some 30), none, .idxA 5 1 (.t 29) (.t 26)⟩, ⟨none, none, .store 1 (.t 30) (.t 27)⟩])
  (.ops [⟨(some 31), none, .mv (.t 1)⟩, ⟨(some 32), none, .bin .add (.t 31) (.c (.int .i64 1))⟩, ⟨(some 1), none, .mv (.t 32)⟩])))
  (.ops [⟨(some 22), none, .mv (.t 6)⟩, ⟨(some 23), none, .bin .add (.t 22) (.c (.int .i64 1))⟩, ⟨(some 6), none, .mv (.t 23)⟩])))
/- live [0, 1, 5] -/
def k26_b1 : KC := (.seq (.seq (.ops [⟨(some 7), none, .mv (.t 5)⟩, ⟨(some 8), none, .mv (.t 0)⟩, ⟨(some 9), none, .len false (.t 8)⟩, ⟨(some 10), none, .bin .lss (.t 7) (.t 9)⟩])
  (.cond (.t 10) .skip (.exit 0)))
  (.seq (.block 1 (.seq (.ops [⟨(some 13), none, .mv (.t 0)⟩, ⟨(some 14), none, .mv (.t 5)⟩, ⟨(some 15), none, .mv (.t 1)⟩, ⟨(some 16), none, .idxS 6 (.t 13) (.t 14)⟩, ⟨(some 17), none, .fieldA 0 (.t 16)⟩, ⟨none, none, .store 1 (.t 17) (.t 15)⟩])
  (.seq (.ops [⟨(some 18), none, .mv (.t 1)⟩, ⟨(some 19), none, .bin .add (.t 18) (.c (.int .i64 1))⟩, ⟨(some 1), none, .mv (.t 19)⟩])
  (.seq (.ops [⟨(some 6), none, .mv (.c (.int .i64 0))⟩])
  (.block 2 (.loop k26_b0))))))
  (.ops [⟨(some 11), none, .mv (.t 5)⟩, ⟨(some 12), none, .bin .add (.t 11) (.c (.int .i64 1))⟩, ⟨(some 5), none, .mv (.t 12)⟩])))
def k26 : KC := (.seq (.ops [⟨(some 4), none, .mv (.c (.int .i64 0))⟩])
  (.seq (.seq (.ops [⟨(some 5), none, .mv (.c (.int .i64 0))⟩])
  (.block 0 (.loop k26_b1)))
  (.seq (.ops [⟨(some 33), none, .mv (.t 1)⟩, ⟨(some 4), none, .mv (.t 33)⟩])
  .ret)))
theorem e26 {args : List PV} {σ : Heap} {K : PV → Heap → Prop} (hl : args.length ≤ 34) (h : Wf σ → (∀ a ∈ args, PV.upto σ.length a) → vc (mkCfg Try.prog mixed [] 34 σ.length) k26 (FinK σ.length [.t 4] K) (argEnv 0 args) σ) : ACall Try.prog 26 args σ K :=
  ACall_enter (C := mkCfg Try.prog mixed [] 34 σ.length) (c := Try.f26.body.getD .skip) Try.func26 (by kernel_rfl) (by kernel_rfl) (by kernel_rfl) rfl hl (by kernel_rfl) (by kernel_rfl) h
end Go.Proofs.Ytpepbomifjbgnaa
namespace Go.Proofs.Ytpepbomifjbgnaa
open Go.Kv
set_option linter.unusedVariables false
set_option linter.unusedSimpArgs false
attribute [local irreducible] ACall PCall KL
/-- Maps whose numbers are those from k on. -/
def seqA (k : Int) (n : Nat) : List (List Int) := (List.range n).map fun i => seqI (k + 6 * (i : Nat)) 6
@[simp] theorem seqA_length (k : Int) (n : Nat) : (seqA k n).length = n := by simp [seqA]
theorem seqA_succ (k : Int) (n : Nat) : seqA k (n + 1) = seqA k n ++ [seqI (k + 6 * n) 6] := by simp [seqA, List.range_succ]
theorem seqA_mem {k : Int} {n : Nat} : ∀ r ∈ seqA k n, r.length = 6 := fun r hr => by
  simp only [seqA, List.mem_map] at hr
  obtain ⟨i, _, rfl⟩ := hr
  simp
theorem seqA_getD (k : Int) {n i : Nat} (h : i < n) : (seqA k n).getD i [] = seqI (k + 6 * i) 6 := by simp [seqA, List.getD_eq_getElem?_getD, h]
/-- The first x maps are marked. -/
def mixA (k : Int) (l : List (List Int)) (x : Nat) : List (List Int) := seqA k x ++ l.drop x
theorem mixA_length (k : Int) {l : List (List Int)} {x : Nat} (h : x ≤ l.length) : (mixA k l x).length = l.length := by simp [mixA]; omega
theorem mixA_getD (k : Int) {l : List (List Int)} {x : Nat} (h : x < l.length) (post : List (List Int)) : (mixA k l x ++ post).getD x [] = l.getD x [] := by
  simp only [mixA, List.append_assoc]
  rw [List.getD_eq_getElem?_getD, List.getElem?_append_right (by simp), seqA_length, Nat.sub_self, List.drop_eq_getElem_cons h, List.getD_eq_getElem?_getD, List.getElem?_eq_getElem h]
  rfl
theorem mixA_set (k : Int) {l : List (List Int)} {x : Nat} (h : x < l.length) (post : List (List Int)) : (mixA k l x ++ post).set x (seqI (k + 6 * x) 6) = mixA k l (x + 1) ++ post := by
  simp only [mixA, List.append_assoc]
  rw [List.set_append_right _ _ (by simp), seqA_length, Nat.sub_self, List.drop_eq_getElem_cons h, seqA_succ, List.append_assoc]
  rfl
/-- The first j numbers of a map are marked. -/
def mixM (k : Int) (m : List Int) (j : Nat) : List Int := seqI k j ++ m.drop j
theorem mixM_length (k : Int) {m : List Int} {j : Nat} (h : j ≤ m.length) : (mixM k m j).length = m.length := by simp [mixM]; omega
theorem p26 (σ : Heap) (id ver : Nat) (e : TypeId) (l post : List (List Int)) (k : Int) (hid : σ[id]? = some (.arr ver e 6 (aggs (l ++ post)))) (hl6 : ∀ r ∈ l, r.length = 6) (hk : 0 ≤ k ∧ k ≤ 4294967296) (hl : l.length ≤ 1048576) {K : PV → Heap → Prop} (hK : K (.int .i64 (k + 6 * l.length)) (σ.set id (.arr ver e 6 (aggs (seqA k l.length ++ post))))) :
    ACall Try.prog 26 [.ref id ver 0 l.length, .int .i64 k] σ K := by
  have hlt := (List.getElem?_eq_some_iff.1 hid).1
  have hself : ∀ o, (σ.set id o)[id]? = some o := fun o => List.getElem?_set_self hlt
  have hset : ∀ o o', (σ.set id o).set id o' = σ.set id o' := fun o o' => List.set_set ..
  refine e26 (by simp) fun _ _ => ?_
  simp only [k26, argEnv, take6, List.drop_zero, Int.cast_ofNat_Int, go_sem, ↓reduceIte, Nat.reduceEqDiff, Nat.reduceAdd, Nat.reduceMul, Nat.reduceLeDiff, Nat.reduceLT, Int.reduceLE, Int.reduceLT, reduceCtorEq]
  refine KL_ind k26_b1.eq_1 (fun x : Nat => [(5, .int .i64 x), (0, .ref id ver 0 l.length), (1, .int .i64 (k + 6 * x))]) (fun x => σ.set id (.arr ver e 6 (aggs (mixA k l x ++ post)))) (fun x => x ≤ l.length) (fun x => l.length - x) [5, 0, 1] 0 (by simp [keep]) ?_ (Nat.zero_le _) fun x hi ih => ?_
  · apply List.ext_getElem?; intro j
    by_cases e1 : id = j
    · subst e1; rw [hself, hid]; simp [mixA, seqA]
    · rw [List.getElem?_set_ne e1]
  have hml := mixA_length k hi
  try simp only [hself, hset, hml, take6, List.drop_zero, Int.cast_ofNat_Int, go_sem, ↓reduceIte, Nat.reduceEqDiff, Nat.reduceAdd, Nat.reduceMul, Nat.reduceLeDiff, Nat.reduceLT, Int.reduceLE, Int.reduceLT, reduceCtorEq]
  refine ⟨fun h1 => ?_, fun h1 => ?_⟩
  · have hx : x < l.length := by omega
    have h6 : (l.getD x []).length = 6 := by rw [getD_eq hx]; exact hl6 _ (List.getElem_mem hx)
    rw [mixA_getD k hx]
    try simp only [h6, take6, List.drop_zero, Int.cast_ofNat_Int, go_sem, ↓reduceIte, Nat.reduceEqDiff, Nat.reduceAdd, Nat.reduceMul, Nat.reduceLeDiff, Nat.reduceLT, Int.reduceLE, Int.reduceLT, reduceCtorEq]
    repeat' (first | refine And.intro ?_ ?_ | intro _)
    all_goals (try omega)
    have hxl : x < (mixA k l x ++ post).length := by rw [List.length_append, hml]; omega
    have hget : ∀ m : List Int, ((mixA k l x ++ post).set x m).getD x [] = m := fun m => by
      rw [List.getD_eq_getElem?_getD, List.getElem?_set_self hxl]; rfl
    have hseti : ∀ m m' : List Int, ((mixA k l x ++ post).set x m).set x m' = (mixA k l x ++ post).set x m' := fun m m' => List.set_set ..
    have hm0 : (l.getD x []).set 0 (k + 6 * (x : Int)) = mixM (k + 6 * x) (l.getD x []) 1 := by
      have := mark_step (k + 6 * (x : Int)) (l := l.getD x []) (x := 0) (by omega)
      simp only [mixM, Nat.zero_add] at this ⊢
      rw [← this]; simp [seqI]
    generalize hm : l.getD x [] = m at *
    rw [hm0]
    refine KL_ind k26_b0.eq_1 (fun j : Nat => [(5, .int .i64 x), (6, .int .i64 j), (0, .ref id ver 0 l.length), (1, .int .i64 (k + 6 * x + 1 + j))]) (fun j => σ.set id (.arr ver e 6 (aggs ((mixA k l x ++ post).set x (mixM (k + 6 * x) m (j + 1)))))) (fun j => j ≤ 5) (fun j => 5 - j) [5, 6, 0, 1] 0 (by simp [keep]) rfl (Nat.zero_le _) fun j hj ihj => ?_
    have hmm : (mixM (k + 6 * (x : Int)) m (j + 1)).length = 6 := by rw [mixM_length _ (by omega)]; exact h6
    try simp only [hself, hset, hml, hget, hseti, hmm, take6, List.drop_zero, Int.cast_ofNat_Int, go_sem, ↓reduceIte, Nat.reduceEqDiff, Nat.reduceAdd, Nat.reduceMul, Nat.reduceLeDiff, Nat.reduceLT, Int.reduceLE, Int.reduceLT, reduceCtorEq]
    refine ⟨fun h2 => ?_, fun h2 => ?_⟩
    · have e7 : k + 6 * (x : Int) + 1 + j = k + 6 * x + ((j + 1 : Nat) : Int) := by omega
      have e8 : (mixM (k + 6 * (x : Int)) m (j + 1)).set (j + 1) (k + 6 * x + 1 + j) = mixM (k + 6 * x) m (j + 2) := by
        rw [e7]; exact mark_step (k + 6 * (x : Int)) (l := m) (by omega)
      rw [e8]
      refine ⟨by omega, by omega, by omega, fun h3 => ⟨by omega, by omega, by omega, ?_⟩⟩
      exact ihj (j + 1) (by omega) (by omega) _ _ (by simp [keep]; omega) rfl
    · obtain rfl : j = 5 := by omega
      have e6 : mixM (k + 6 * (x : Int)) m (5 + 1) = seqI (k + 6 * x) 6 := by simp [mixM, h6]
      rw [e6, mixA_set k hx]
      refine ⟨by omega, ?_⟩
      refine ih (x + 1) (by omega) (by omega) _ _ (by simp [keep]; omega) rfl
  · obtain rfl : x = l.length := by omega
    refine Kv.Fin.now ?_
    simpa [mixA] using hK
end Go.Proofs.Ytpepbomifjbgnaa
