/- Several texts of this session as one. -/
import Derived.Test.YthbbjbfbeaiphaaGreatCb
import Derived.Test.YthbbjbfbeaiphaaGreatG1
section
/- Searching in lists of maps, and deleting from them. -/
namespace Go.Proofs.YthbbjbfbeaiphaaGreat
open Go.Kv
set_option maxRecDepth 100000
def k143_b0 : KC := (.seq (.ops [oP 9 (.bin .lss (.t 8) (.t 7))])
  (.seq (.cond (.t 9) .skip (.exit 0))
  (.seq (.block 1 (.seq (.ops [mV 10 8, mV 5 10])
  (.seq (.ops [mV 11 1, mV 12 0, mV 13 5, oP 14 (.idxS 6 (.t 12) (.t 13)), oP 15 (.load true 6 (.t 14)), oP 16 (.call (.t 11) [(.t 15)])])
  (.cond (.t 16) (.seq (.ops [mV 17 5, mV 4 17])
  .ret) .skip))))
  (.ops [oP 18 (.bin .add (.t 8) (iC 1)), mV 8 18]))))
def k143 : KC := (.seq (.ops [oP 4 (.mv (iC 0))])
  (.seq (.seq (.ops [mV 6 0, oP 7 (.len false (.t 6)), oP 8 (.mv (iC 0))])
  (.block 0 (.loop k143_b0)))
  (.seq (.ops [oP 4 (.mv (iC (-1)))])
  .ret)))
theorem e143 : Ent 143 19 [] [.t 4] k143 := ent Tryz.func143 (by kernel_rfl) (by kernel_rfl) (by kernel_rfl) (fun _ => by kernel_rfl) (by kernel_rfl)
end Go.Proofs.YthbbjbfbeaiphaaGreat
namespace Go.Proofs.YthbbjbfbeaiphaaGreat
open Go.Kv
set_option linter.unusedVariables false
set_option linter.unusedSimpArgs false
attribute [local irreducible] ACall PCall KL
theorem p143 (l : List (List Int)) (hm : ∀ x ∈ l, x.length = 6) (hl : l.length ≤ 4294967296) (fid : FuncId) (caps : List PV) [hc : StillL caps] (p : List Int → Bool) (hp : ∀ x ∈ l, Pure Tryz.prog fid (.agg (ints x) :: caps) (.bool (p x))) :
    Pure Tryz.prog 143 [.list (aggs l), .fn (.func fid) [] caps] (.int .i64 (idx p l)) := by
  refine e143 (by simp) fun _ _ => ?_
  simp only [k143, argEnv, take6, List.drop_zero, Int.cast_ofNat_Int, go_sem, ↓reduceIte, Nat.reduceEqDiff, Nat.reduceAdd, Nat.reduceMul, Nat.reduceLeDiff, Nat.reduceLT, Int.reduceLE, Int.reduceLT, reduceCtorEq]
  refine KL_ind k143_b0.eq_1 (fun x : Nat => [(0, .list (aggs l)), (1, .fn (.func fid) [] caps), (7, .int .i64 l.length), (8, .int .i64 x)]) (fun _ => []) (fun x => x ≤ l.length ∧ (l.take x).any p = false) (fun x => l.length - x) [0, 1, 7, 8] 0 rfl rfl ⟨Nat.zero_le _, by simp⟩ fun x ⟨hx, hall⟩ ih => ?_
  try simp only [take6, List.drop_zero, Int.cast_ofNat_Int, go_sem, ↓reduceIte, Nat.reduceEqDiff, Nat.reduceAdd, Nat.reduceMul, Nat.reduceLeDiff, Nat.reduceLT, Int.reduceLE, Int.reduceLT, reduceCtorEq]
  refine ⟨fun h1 => ⟨by omega, fun h2 => ?_⟩, fun h1 => ?_⟩
  · rw [getD_eq h2]
    have h6 := hm _ (List.getElem_mem h2)
    try simp only [h6, take6, List.drop_zero, Int.cast_ofNat_Int, go_sem, ↓reduceIte, Nat.reduceEqDiff, Nat.reduceAdd, Nat.reduceMul, Nat.reduceLeDiff, Nat.reduceLT, Int.reduceLE, Int.reduceLT, reduceCtorEq]
    refine (hp _ (List.getElem_mem h2)).go ?_
    try simp only [take6, List.drop_zero, Int.cast_ofNat_Int, go_sem, ↓reduceIte, Nat.reduceEqDiff, Nat.reduceAdd, Nat.reduceMul, Nat.reduceLeDiff, Nat.reduceLT, Int.reduceLE, Int.reduceLT, reduceCtorEq]
    refine ⟨fun h3 => ?_, fun h3 => ⟨by omega, ?_⟩⟩
    · exact Kv.Fin.now ⟨by rw [idx_some h2 hall h3], rfl⟩
    · refine ih (x + 1) ⟨by omega, ?_⟩ (by omega) _ _ rfl rfl
      rw [any_take_succ _ h2, hall, h3]; rfl
  · obtain rfl : x = l.length := by omega
    rw [List.take_length] at hall
    exact Kv.Fin.now ⟨by rw [idx_none hall], rfl⟩
end Go.Proofs.YthbbjbfbeaiphaaGreat
end
section
/- Lists of maps: their size, their copies, their equality; the lists that are joined. -/
namespace Go.Proofs.YthbbjbfbeaiphaaGreat
open Go.Kv
set_option maxRecDepth 100000
def k136 : KC := (.seq (.ops [oP 4 (.mv (.c (.nils)))])
  (.seq (.seq (.ops [mV 5 1, oP 6 (.bin .lss (.t 5) (iC 0))])
  (.cond (.t 6) (.ops [oP 7 (.bad), ⟨none, none, .bad⟩]) .skip))
  (.seq (.seq (.ops [mV 8 1, mV 9 0, oP 10 (.cap0 (.t 9)), mV 11 0, oP 12 (.len false (.t 11)), oP 13 (.bin .sub (.t 10) (.t 12)), oP 14 (.bin .sub (.t 8) (.t 13)), mV 1 14])
  (.seq (.ops [mV 15 1, oP 16 (.bin .gtr (.t 15) (iC 0))])
  (.cond (.t 16) (.ops [mV 17 0, mV 18 0, oP 19 (.cap0 (.t 18)), oP 20 (.sls 6 (.t 17) none (some (.t 19))), mV 21 1, oP 22 (.apn (.t 20) (.t 21) 60 6 (.agg [.int .i64 0, .int .i64 0, .int .i64 0, .int .i64 0, .int .i64 0, .int .i64 0])), mV 23 0, oP 24 (.len false (.t 23)), oP 25 (.sls 6 (.t 22) none (some (.t 24))), mV 0 25]) .skip)))
  (.seq (.ops [mV 26 0, mV 4 26])
  .ret))))
theorem e136 : Ent 136 27 [] [.t 4] k136 := ent Tryz.func136 (by kernel_rfl) (by kernel_rfl) (by kernel_rfl) (fun _ => by kernel_rfl) (by kernel_rfl)
def k70_b0 : KC := (.seq (.ops [oP 12 (.bin .lss (.t 11) (.t 10))])
  (.seq (.cond (.t 12) .skip (.exit 0))
  (.seq (.block 1 (.seq (.ops [oP 13 (.idxS 1 (.t 9) (.t 11)), oP 14 (.load false 1 (.t 13)), mV 5 14])
  (.seq (.ops [mV 15 3, mV 16 5, oP 17 (.len false (.t 16)), oP 18 (.bin .add (.t 15) (.t 17)), mV 3 18])
  (.seq (.ops [mV 19 3, oP 20 (.bin .lss (.t 19) (iC 0))])
  (.cond (.t 20) (.ops [oP 21 (.bad), ⟨none, none, .bad⟩]) .skip)))))
  (.ops [oP 22 (.bin .add (.t 11) (iC 1)), mV 11 22]))))
def k70_b1 : KC := (.seq (.ops [oP 28 (.bin .lss (.t 27) (.t 26))])
  (.seq (.cond (.t 28) .skip (.exit 2))
  (.seq (.block 3 (.seq (.ops [oP 29 (.idxS 1 (.t 25) (.t 27)), oP 30 (.load false 1 (.t 29)), mV 8 30])
  (.ops [mV 31 6, mV 32 8, oP 33 (.app (.t 31) (.t 32) 60 6), mV 6 33])))
  (.ops [oP 34 (.bin .add (.t 27) (iC 1)), mV 27 34]))))
def k70 : KC := (.seq (.ops [oP 2 (.mv (.c (.nils)))])
  (.seq (.ops [oP 3 (.mv (iC 0))])
  (.seq (.seq (.ops [mV 9 0, oP 10 (.len false (.t 9)), oP 11 (.mv (iC 0))])
  (.block 0 (.loop k70_b0)))
  (.seq (.ops [mV 23 3, oP 24 (.call (fC 136) [(.c (.nils)), (.t 23)]), mV 6 24])
  (.seq (.seq (.ops [mV 25 0, oP 26 (.len false (.t 25)), oP 27 (.mv (iC 0))])
  (.block 2 (.loop k70_b1)))
  (.seq (.ops [mV 35 6, mV 2 35])
  .ret))))))
theorem e70 : Ent 70 36 [] [.t 2] k70 := ent Tryz.func70 (by kernel_rfl) (by kernel_rfl) (by kernel_rfl) (fun _ => by kernel_rfl) (by kernel_rfl)
end Go.Proofs.YthbbjbfbeaiphaaGreat
namespace Go.Proofs.YthbbjbfbeaiphaaGreat
open Go.Kv
set_option linter.unusedVariables false
set_option linter.unusedSimpArgs false
attribute [local irreducible] ACall PCall KL
theorem aggs_repl (n : Nat) : List.replicate n (PV.agg [.int .i64 0, .int .i64 0, .int .i64 0, .int .i64 0, .int .i64 0, .int .i64 0]) = aggs (List.replicate n [0, 0, 0, 0, 0, 0]) := by simp [aggs, ints]
end Go.Proofs.YthbbjbfbeaiphaaGreat
end
section
/- Lists of maps, joined. -/
namespace Go.Proofs.YthbbjbfbeaiphaaGreat
open Go.Kv
set_option linter.unusedVariables false
set_option linter.unusedSimpArgs false
attribute [local irreducible] ACall PCall KL
theorem p136 (n : Int) (h00 : 0 ≤ n) (hn : n ≤ 4294967296) {K : PV → Heap → Prop} (h0 : n = 0 → K .nils []) (h1 : 0 < n → K (.ref 0 0 0 0) [.arr 0 60 6 (aggs (List.replicate n.toNat [0, 0, 0, 0, 0, 0]))]) :
    ACall Tryz.prog 136 [.nils, .int .i64 n] [] K := by
  refine e136 (by simp) fun _ _ => ?_
  simp only [k136, argEnv, take6, List.drop_zero, Int.cast_ofNat_Int, go_sem, ↓reduceIte, Nat.reduceEqDiff, Nat.reduceAdd, Nat.reduceMul, Nat.reduceLeDiff, Nat.reduceLT, Int.reduceLE, Int.reduceLT, reduceCtorEq]
  repeat' (first | refine And.intro ?_ ?_ | intro _)
  all_goals (try omega)
  · rename_i hp
    have e : n - (0 - 0) = n := by omega
    rw [e, aggs_repl]
    exact Kv.Fin.now (h1 (by omega))
  · exact Kv.Fin.now (h0 (by omega))
/-- A list of maps as a value: nil, or a list. -/
inductive Ms : PV → List (List Int) → Prop
  | nil : Ms .nils []
  | list (l : List (List Int)) : Ms (.list (aggs l)) l
theorem p70 (w : PV) (a b : List (List Int)) (hw : Ms w b) (ha : a.length ≤ 1048576) (hb : b.length ≤ 1048576) (hma : ∀ r ∈ a, r.length = 6) (hmb : ∀ r ∈ b, r.length = 6) :
    ACall Tryz.prog 70 [.list [.list (aggs a), w]] [] (fun v s => ∃ ver, v = .ref 0 ver 0 (a ++ b).length ∧ s = [.arr ver 60 6 (aggs (a ++ b))]) := by
  have hoa := okL_aggs 6 a
  have hob := okL_aggs 6 b
  rw [eq_true hma] at hoa
  rw [eq_true hmb] at hob
  have hap : aggs a ++ aggs b = aggs (a ++ b) := by simp [aggs]
  have hnil : aggs ([] : List (List Int)) = [] := rfl
  cases hw
  all_goals
    refine e70 (by simp) fun _ _ => ?_
    simp only [k70, argEnv, take6, List.drop_zero, Int.cast_ofNat_Int, go_sem, ↓reduceIte, Nat.reduceEqDiff, Nat.reduceAdd, Nat.reduceMul, Nat.reduceLeDiff, Nat.reduceLT, Int.reduceLE, Int.reduceLT, reduceCtorEq]
    refine KL_round ?_
    rw [k70_b0.eq_1]
    try simp only [take6, List.drop_zero, Int.cast_ofNat_Int, go_sem, ↓reduceIte, Nat.reduceEqDiff, Nat.reduceAdd, Nat.reduceMul, Nat.reduceLeDiff, Nat.reduceLT, Int.reduceLE, Int.reduceLT, reduceCtorEq]
    repeat' (first | refine And.intro ?_ ?_ | intro _)
    all_goals (try omega)
    refine KL_round ?_
    try simp only [Int.reduceAdd, Int.reduceToNat, Int.zero_add, take6, List.drop_zero, Int.cast_ofNat_Int, go_sem, ↓reduceIte, Nat.reduceEqDiff, Nat.reduceAdd, Nat.reduceMul, Nat.reduceLeDiff, Nat.reduceLT, Int.reduceLE, Int.reduceLT, reduceCtorEq]
    repeat' (first | refine And.intro ?_ ?_ | intro _)
    all_goals (try omega)
    refine KL_round ?_
    try simp only [Int.reduceAdd, Int.reduceToNat, Int.zero_add, take6, List.drop_zero, Int.cast_ofNat_Int, go_sem, ↓reduceIte, Nat.reduceEqDiff, Nat.reduceAdd, Nat.reduceMul, Nat.reduceLeDiff, Nat.reduceLT, Int.reduceLE, Int.reduceLT, reduceCtorEq]
    repeat' (first | refine And.intro ?_ ?_ | intro _)
    all_goals (try omega)
    refine (p136 _ (by omega) (by omega) (fun h0 => ?_) (fun h0 => ?_))
  all_goals
    try simp only [take6, List.drop_zero, Int.cast_ofNat_Int, go_sem, ↓reduceIte, Nat.reduceEqDiff, Nat.reduceAdd, Nat.reduceMul, Nat.reduceLeDiff, Nat.reduceLT, Int.reduceLE, Int.reduceLT, reduceCtorEq]
    refine KL_round ?_
    rw [k70_b1.eq_1]
    try simp only [hoa, hob, hap, hnil, take6, List.drop_zero, Int.cast_ofNat_Int, go_sem, ↓reduceIte, Nat.reduceEqDiff, Nat.reduceAdd, Nat.reduceMul, Nat.reduceLeDiff, Nat.reduceLT, Int.reduceLE, Int.reduceLT, reduceCtorEq]
    repeat' (first | refine And.intro ?_ ?_ | intro _)
    all_goals (try omega)
    refine KL_round ?_
    try simp only [Int.reduceAdd, Int.reduceToNat, Int.zero_add, hoa, hob, hap, hnil, take6, List.drop_zero, Int.cast_ofNat_Int, go_sem, ↓reduceIte, Nat.reduceEqDiff, Nat.reduceAdd, Nat.reduceMul, Nat.reduceLeDiff, Nat.reduceLT, Int.reduceLE, Int.reduceLT, reduceCtorEq]
    repeat' (first | refine And.intro ?_ ?_ | intro _)
    all_goals (try omega)
    refine KL_round ?_
    try simp only [Int.reduceAdd, Int.reduceToNat, Int.zero_add, hoa, hob, hap, hnil, take6, List.drop_zero, Int.cast_ofNat_Int, go_sem, ↓reduceIte, Nat.reduceEqDiff, Nat.reduceAdd, Nat.reduceMul, Nat.reduceLeDiff, Nat.reduceLT, Int.reduceLE, Int.reduceLT, reduceCtorEq]
    repeat' (first | refine And.intro ?_ ?_ | intro _)
    all_goals (try omega)
    refine Kv.Fin.now ?_
  · exact ⟨1, rfl, rfl⟩
  · exact ⟨2, rfl, by simp⟩
  · exact ⟨1, rfl, rfl⟩
  · exact ⟨2, rfl, by simp⟩
theorem Imm.refs {σ : Heap} {id ver n : Nat} {e : TypeId} {cs : List PV} (h : σ[id]? = some (.arr ver e 1 cs)) (hn : n = cs.length) (hc : ∀ c ∈ cs, c.cs = [c] ∧ c.ok = true ∧ Still c) : Imm σ (.ref id ver 0 n) (.list cs) := by
  subst hn
  exact .ref id ver 0 cs.length e 1 cs cs h (by simp) rfl
    (fun i x d hx hd => by simp only [Nat.zero_add, hd, Option.some.injEq] at hx; subst hx; have h1 := hc _ (List.mem_of_getElem? hd); rw [h1.1]; exact ⟨rfl, by simp [h1.2.1]⟩)
    (fun i x d j c c' hx hd hcc hc' => by
      simp only [Nat.zero_add, hd, Option.some.injEq] at hx; subst hx
      have h1 := hc _ (List.mem_of_getElem? hd)
      rw [hcc] at hc'; cases hc'
      rw [h1.1] at hcc
      have := List.mem_of_getElem? hcc
      simp only [List.mem_singleton] at this; subst this
      have := h1.2.2
      exact Imm.still)
theorem Ms.still {w : PV} {l : List (List Int)} (h : Ms w l) : w.cs = [w] ∧ w.ok = true ∧ Still w := by
  cases h
  · exact ⟨rfl, rfl, inferInstance⟩
  · exact ⟨rfl, rfl, inferInstance⟩
theorem p70L (σ : Heap) (id : Nat) (w : PV) (a b : List (List Int)) (hw : Ms w b) (hid : σ[id]? = some (.arr 0 41 1 [.list (aggs a), w])) (ha : a.length ≤ 1048576) (hb : b.length ≤ 1048576) (hma : ∀ r ∈ a, r.length = 6) (hmb : ∀ r ∈ b, r.length = 6) {K : PV → Heap → Prop}
    (hK : ∀ ver, K (.ref σ.length ver 0 (a ++ b).length) (σ ++ [.arr ver 60 6 (aggs (a ++ b))])) :
    ACall Tryz.prog 70 [.ref id 0 0 2] σ K := by
  have him : Imm σ (.ref id 0 0 2) (.list [.list (aggs a), w]) := Imm.refs hid rfl fun c hc => by
    simp only [List.mem_cons, List.not_mem_nil, or_false] at hc
    rcases hc with rfl | rfl
    · exact ⟨rfl, rfl, inferInstance⟩
    · exact hw.still
  refine ACall.lend (p70 w a b hw ha hb hma hmb) (.cons him (.nil _)) fun v s ⟨ver, hv, hs⟩ => ?_
  subst hv; subst hs
  refine ⟨⟨free_ref _ _ _ _, ?_⟩, ?_⟩
  · intro o ho
    simp only [List.mem_singleton] at ho; subst ho
    exact fun c hc => (flat_aggs c hc).fr
  · simpa only [ren_ref, ren_arr, ren_aggs, List.map_cons, List.map_nil, sh_def, Nat.zero_add] using hK ver
end Go.Proofs.YthbbjbfbeaiphaaGreat
end
section
/- Counts by formula: choose, power, and the number of idempotents. -/
namespace Go.Proofs.YthbbjbfbeaiphaaGreat
open Go.Kv
set_option linter.unusedVariables false
set_option linter.unusedSimpArgs false
attribute [local irreducible] ACall PCall KL
def ch (n : Nat) : Nat → Int
  | 0 => 1
  | i + 1 => ch n i * ((n : Int) - i) / ((i : Int) + 1)
end Go.Proofs.YthbbjbfbeaiphaaGreat
end
section
/- The code of lists of maps: both sides. -/
namespace Go.Proofs.YthbbjbfbeaiphaaGreat
open Go.Kv
set_option maxRecDepth 100000
def k72_b0 : KC := (.seq (.ops [oP 15 (.bin .lss (.t 14) (.t 13))])
  (.seq (.cond (.t 15) .skip (.exit 0))
  (.seq (.block 1 (.seq (.ops [oP 16 (.idxS 6 (.t 12) (.t 14)), oP 17 (.load true 6 (.t 16)), oP 6 (.alloc [.int .i64 0, .int .i64 0, .int .i64 0, .int .i64 0, .int .i64 0, .int .i64 0]), ⟨none, none, .store 6 (.t 6) (.t 17)⟩])
  (.seq (.ops [oP 18 (.load true 6 (.t 6)), oP 19 (.call (fC 71) [(.t 18)]), oP 20 (.not (.t 19))])
  (.cond (.t 20) (.seq (.ops [oP 4 (.mv (iC 1))])
  .ret) .skip))))
  (.ops [oP 21 (.bin .add (.t 14) (iC 1)), mV 14 21]))))
def k72_b1 : KC := (.seq (.ops [oP 32 (.bin .lss (.t 31) (.t 30))])
  (.seq (.cond (.t 32) .skip (.exit 2))
  (.seq (.block 3 (.seq (.ops [oP 33 (.idxS 6 (.t 29) (.t 31)), oP 34 (.load true 6 (.t 33)), oP 8 (.alloc [.int .i64 0, .int .i64 0, .int .i64 0, .int .i64 0, .int .i64 0, .int .i64 0]), ⟨none, none, .store 6 (.t 8) (.t 34)⟩])
  (.seq (.draw [oP 35 (.fieldA 0 (.t 8)), oP 36 (.load false 1 (.t 35)), mV 37 0, oP 38 (.idxS 6 (.t 37) (iC 0)), oP 39 (.fieldA 0 (.t 38)), oP 40 (.load false 1 (.t 39)), oP 41 (.bin .neq (.t 36) (.t 40))])
  (.cond (.t 41) (.seq (.ops [oP 4 (.mv (iC 2))])
  .ret) .skip))))
  (.ops [oP 42 (.bin .add (.t 31) (iC 1)), mV 31 42]))))
def k72 : KC := (.seq (.ops [oP 4 (.mv (iC 0))])
  (.seq (.seq (.ops [mV 9 0, mV 10 1, oP 11 (.bsl false 41 1 [(.t 9), (.t 10)]), oP 12 (.call (fC 70) [(.t 11)]), oP 13 (.len false (.t 12)), oP 14 (.mv (iC 0))])
  (.block 0 (.loop k72_b0)))
  (.seq (.seq (.ops [mV 22 0, oP 23 (.len false (.t 22)), oP 24 (.call (fC 120) [(.t 23), (iC 1), (iC 6)]), oP 25 (.not (.t 24))])
  (.cond (.t 25) (.seq (.ops [oP 4 (.mv (iC 2))])
  .ret) .skip))
  (.seq (.seq (.ops [mV 26 0, mV 27 1, oP 28 (.bsl false 41 1 [(.t 26), (.t 27)]), oP 29 (.call (fC 70) [(.t 28)]), oP 30 (.len false (.t 29)), oP 31 (.mv (iC 0))])
  (.block 2 (.loop k72_b1)))
  (.seq (.ops [oP 4 (.mv (iC 0))])
  .ret)))))
theorem e72 : Ent 72 43 [] [.t 4] k72 := ent Tryz.func72 (by kernel_rfl) (by kernel_rfl) (by kernel_rfl) (fun _ => by kernel_rfl) (by kernel_rfl)
def k74_b0 : KC := (.seq (.seq (.ops [mV 8 5, mV 9 0, oP 10 (.len false (.t 9)), oP 11 (.bin .lss (.t 8) (.t 10))])
  (.cond (.t 11) .skip (.exit 0)))
  (.seq (.block 1 (.seq (.ops [mV 14 0, mV 15 5, oP 16 (.idxS 6 (.t 14) (.t 15)), oP 17 (.load true 6 (.t 16)), oP 18 (.call (fC 137) [(.t 17)]), oP 19 (.not (.t 18))])
  (.cond (.t 19) (.seq (.ops [oP 4 (.mv (iC 1))])
  .ret) .skip)))
  (.ops [mV 12 5, oP 13 (.bin .add (.t 12) (iC 1)), mV 5 13])))
def k74_b1 : KC := (.seq (.seq (.ops [mV 20 6, mV 21 1, oP 22 (.len false (.t 21)), oP 23 (.bin .lss (.t 20) (.t 22))])
  (.cond (.t 23) .skip (.exit 2)))
  (.seq (.block 3 (.seq (.ops [mV 26 1, mV 27 6, oP 28 (.idxS 6 (.t 26) (.t 27)), oP 29 (.load true 6 (.t 28)), oP 30 (.call (fC 137) [(.t 29)]), oP 31 (.not (.t 30))])
  (.cond (.t 31) (.seq (.ops [oP 4 (.mv (iC 1))])
  .ret) .skip)))
  (.ops [mV 24 6, oP 25 (.bin .add (.t 24) (iC 1)), mV 6 25])))
def k74_b2 : KC := (.seq (.seq (.ops [mV 35 7, mV 36 1, oP 37 (.len false (.t 36)), oP 38 (.bin .lss (.t 35) (.t 37))])
  (.cond (.t 38) .skip (.exit 4)))
  (.seq (.block 5 (.seq (.draw [mV 41 1, mV 42 7, oP 43 (.idxS 6 (.t 41) (.t 42)), oP 44 (.fieldA 0 (.t 43)), oP 45 (.load false 1 (.t 44)), mV 46 0, oP 47 (.idxS 6 (.t 46) (iC 0)), oP 48 (.fieldA 0 (.t 47)), oP 49 (.load false 1 (.t 48)), oP 50 (.bin .neq (.t 45) (.t 49))])
  (.cond (.t 50) (.seq (.ops [oP 4 (.mv (iC 2))])
  .ret) .skip)))
  (.ops [mV 39 7, oP 40 (.bin .add (.t 39) (iC 1)), mV 7 40])))
def k74 : KC := (.seq (.ops [oP 4 (.mv (iC 0))])
  (.seq (.seq (.ops [oP 5 (.mv (iC 0))])
  (.block 0 (.loop k74_b0)))
  (.seq (.seq (.ops [oP 6 (.mv (iC 0))])
  (.block 2 (.loop k74_b1)))
  (.seq (.seq (.ops [mV 32 0, oP 33 (.call (fC 138) [(.t 32)]), oP 34 (.not (.t 33))])
  (.cond (.t 34) (.seq (.ops [oP 4 (.mv (iC 2))])
  .ret) .skip))
  (.seq (.seq (.ops [oP 7 (.mv (iC 0))])
  (.block 4 (.loop k74_b2)))
  (.seq (.ops [oP 4 (.mv (iC 0))])
  .ret))))))
theorem e74 : Ent 74 51 [] [.t 4] k74 := ent Tryz.func74 (by kernel_rfl) (by kernel_rfl) (by kernel_rfl) (fun _ => by kernel_rfl) (by kernel_rfl)
def k138_b0 : KC := (.seq (.seq (.ops [mV 12 3, mV 13 0, oP 14 (.len false (.t 13)), oP 15 (.bin .lss (.t 12) (.t 14))])
  (.cond (.t 15) .skip (.exit 0)))
  (.seq (.block 1 (.seq (.draw [mV 18 0, mV 19 3, oP 20 (.idxS 6 (.t 18) (.t 19)), oP 21 (.load true 6 (.t 20)), oP 22 (.pcall (fC 137) [(.t 21)]), oP 23 (.not (.t 22)), mV 24 23, ⟨(some 25), some (24, false), .mv (.t 0)⟩, ⟨(some 26), some (24, false), .mv (.t 3)⟩, ⟨(some 27), some (24, false), .idxS 6 (.t 25) (.t 26)⟩, ⟨(some 28), some (24, false), .fieldA 0 (.t 27)⟩, ⟨(some 29), some (24, false), .load false 1 (.t 28)⟩, ⟨(some 30), some (24, false), .mv (.t 0)⟩, ⟨(some 31), some (24, false), .idxS 6 (.t 30) (iC 0)⟩, ⟨(some 32), some (24, false), .fieldA 0 (.t 31)⟩, ⟨(some 33), some (24, false), .load false 1 (.t 32)⟩, ⟨(some 34), some (24, false), .bin .neq (.t 29) (.t 33)⟩, oP 35 (.pick (.t 24) (.c (.bool true)) (.t 34))])
  (.cond (.t 35) (.seq (.ops [oP 2 (.mv (.c (.bool false)))])
  .ret) .skip)))
  (.ops [mV 16 3, oP 17 (.bin .add (.t 16) (iC 1)), mV 3 17])))
def k138 : KC := (.seq (.ops [oP 2 (.mv (.c (.bool false)))])
  (.seq (.seq (.ops [mV 4 0, oP 5 (.len false (.t 4)), oP 6 (.bin .lss (.t 5) (iC 1)), mV 7 6, ⟨(some 8), some (7, false), .mv (.t 0)⟩, ⟨(some 9), some (7, false), .len false (.t 8)⟩, ⟨(some 10), some (7, false), .bin .gtr (.t 9) (iC 6)⟩, oP 11 (.pick (.t 7) (.c (.bool true)) (.t 10))])
  (.cond (.t 11) (.seq (.ops [oP 2 (.mv (.c (.bool false)))])
  .ret) .skip))
  (.seq (.seq (.ops [oP 3 (.mv (iC 0))])
  (.block 0 (.loop k138_b0)))
  (.seq (.ops [oP 2 (.mv (.c (.bool true)))])
  .ret))))
theorem e138 : Ent 138 36 [] [.t 2] k138 := ent Tryz.func138 (by kernel_rfl) (by kernel_rfl) (by kernel_rfl) (fun _ => by kernel_rfl) (by kernel_rfl)
end Go.Proofs.YthbbjbfbeaiphaaGreat
namespace Go.Proofs.YthbbjbfbeaiphaaGreat
open Go.Kv
set_option linter.unusedVariables false
set_option linter.unusedSimpArgs false
attribute [local irreducible] ACall PCall KL
/-- What a list of maps and some more come to: none is no map, their number, their points. -/
def lcode (a b : List (List Int)) : Int :=
  if (a ++ b).all isM = false then 1 else if ¬ (1 ≤ a.length ∧ a.length ≤ 6) then 2 else if (a ++ b).all (fun r => decide (r.getD 0 0 = (a.getD 0 []).getD 0 0)) = false then 2 else 0
theorem all_false {α : Type} {l : List α} {x : Nat} {p : α → Bool} (h : x < l.length) (hp : p l[x] = false) : l.all p = false := by
  rw [List.all_eq_false]; exact ⟨l[x], List.getElem_mem h, by simp [hp]⟩
theorem p72 (w : PV) (a b : List (List Int)) (hw : Ms w b) (ha : a.length ≤ 1048576) (hb : b.length ≤ 1048576) (hma : ∀ r ∈ a, r.length = 6) (hmb : ∀ r ∈ b, r.length = 6) :
    Pure Tryz.prog 72 [.list (aggs a), w] (.int .i64 (lcode a b)) := by
  have hab : ∀ r ∈ a ++ b, r.length = 6 := fun r hr => (List.mem_append.1 hr).elim (hma r) (hmb r)
  have hlab : (a ++ b).length ≤ 2097152 := by simp; omega
  have hwu : ∀ n, w.undr n = true := fun n => by cases hw <;> simp [PV.undr, undrX_aggs]
  have hwc := hw.still
  have hwk : w.cs.length = 1 := by rw [hwc.1]; rfl
  have hwk2 : w.cs.all PV.ok = true := by rw [hwc.1]; simp [hwc.2.1]
  refine e72 (by simp) fun _ _ => ?_
  simp only [k72, argEnv, OpK_eq, hwk, hwk2, take6, List.drop_zero, Int.cast_ofNat_Int, go_sem, ↓reduceIte, Nat.reduceEqDiff, Nat.reduceAdd, Nat.reduceMul, Nat.reduceLeDiff, Nat.reduceLT, Int.reduceLE, Int.reduceLT, reduceCtorEq]
  refine p70L _ 0 w a b hw rfl ha hb hma hmb fun ver => ?_
  try simp only [take6, List.drop_zero, Int.cast_ofNat_Int, go_sem, ↓reduceIte, Nat.reduceEqDiff, Nat.reduceAdd, Nat.reduceMul, Nat.reduceLeDiff, Nat.reduceLT, Int.reduceLE, Int.reduceLT, reduceCtorEq]
  have hsum : a.length + b.length = (a ++ b).length := by simp
  rw [hsum]
  have hlc : lcode a b = if (a ++ b).all isM = false then 1 else if ¬ (1 ≤ a.length ∧ a.length ≤ 6) then 2 else if (a ++ b).all (fun r => decide (r.getD 0 0 = (a.getD 0 []).getD 0 0)) = false then 2 else 0 := rfl
  generalize hL : a ++ b = l at *
  refine KL_indD k72_b0.eq_1 (fun x : Nat => [(0, .list (aggs a)), (1, w), (12, .ref 1 ver 0 l.length), (13, .int .i64 l.length), (14, .int .i64 x)]) (fun _ => [.arr 0 41 1 [.list (aggs a), w], .arr ver 60 6 (aggs l)]) (fun x => x ≤ l.length ∧ (l.take x).all isM = true) (fun x => l.length - x) [0, 1, 12, 13, 14] 0 (by rfl) ⟨[], rfl⟩ ⟨Nat.zero_le _, by simp⟩ (fun x hx => ?_) fun x ⟨hx, hall⟩ ih => ?_
  · refine ⟨Nat.zero_le _, ?_, ?_⟩
    · exact Env.undr_upto (by simp [Env.undr, PV.undr, hwu, undrX_aggs])
    · exact .cons (by simp [AObj.undr, PV.undr, PV.undrX, hwu, undrX_aggs]) (.cons (by simp [AObj.undr, undrX_aggs]) (.nil _))
  try simp only [take6, List.drop_zero, Int.cast_ofNat_Int, go_sem, ↓reduceIte, Nat.reduceEqDiff, Nat.reduceAdd, Nat.reduceMul, Nat.reduceLeDiff, Nat.reduceLT, Int.reduceLE, Int.reduceLT, reduceCtorEq]
  refine ⟨fun h1 => ⟨by omega, by omega, fun h2 => ?_⟩, fun h1 => ?_⟩
  · have h6 := hab _ (List.getElem_mem h2)
    rw [getD_eq h2]
    try simp only [h6, take6, List.drop_zero, Int.cast_ofNat_Int, go_sem, ↓reduceIte, Nat.reduceEqDiff, Nat.reduceAdd, Nat.reduceMul, Nat.reduceLeDiff, Nat.reduceLT, Int.reduceLE, Int.reduceLT, reduceCtorEq]
    refine (p71 _ h6).go ?_
    try simp only [take6, List.drop_zero, Int.cast_ofNat_Int, go_sem, ↓reduceIte, Nat.reduceEqDiff, Nat.reduceAdd, Nat.reduceMul, Nat.reduceLeDiff, Nat.reduceLT, Int.reduceLE, Int.reduceLT, reduceCtorEq]
    refine ⟨fun h3 => ?_, fun h3 => ⟨by omega, ?_⟩⟩
    · refine Kv.Fin.still ⟨?_, rfl⟩
      rw [hlc, if_pos (all_false h2 h3)]
    · refine ih (x + 1) ⟨by omega, ?_⟩ (by omega) _ _ (by rfl) ⟨[_], rfl⟩
      rw [all_take_succ _ h2, hall, h3]; rfl
  · obtain rfl : x = l.length := by omega
    rw [List.take_length] at hall
    have hlc : lcode a b = if ¬ (1 ≤ a.length ∧ a.length ≤ 6) then 2 else if l.all (fun r => decide (r.getD 0 0 = (a.getD 0 []).getD 0 0)) = false then 2 else 0 := by rw [hlc, if_neg (by rw [hall]; simp)]
    refine (p120 _ _ _).go ?_
    try simp only [take6, List.drop_zero, Int.cast_ofNat_Int, go_sem, ↓reduceIte, Nat.reduceEqDiff, Nat.reduceAdd, Nat.reduceMul, Nat.reduceLeDiff, Nat.reduceLT, Int.reduceLE, Int.reduceLT, reduceCtorEq]
    refine ⟨fun h2 => Kv.Fin.still ⟨by rw [hlc, if_pos (by omega)], rfl⟩, fun h2 => ?_⟩
    have hlc : lcode a b = if l.all (fun r => decide (r.getD 0 0 = (a.getD 0 []).getD 0 0)) = false then 2 else 0 := by rw [hlc, if_neg (by omega)]
    try simp only [OpK_eq, hwk, hwk2, take6, List.drop_zero, Int.cast_ofNat_Int, go_sem, ↓reduceIte, Nat.reduceEqDiff, Nat.reduceAdd, Nat.reduceMul, Nat.reduceLeDiff, Nat.reduceLT, Int.reduceLE, Int.reduceLT, reduceCtorEq]
    refine p70L _ 2 w a b hw rfl ha hb hma hmb fun ver2 => ?_
    rw [hL]
    try simp only [take6, List.drop_zero, Int.cast_ofNat_Int, go_sem, ↓reduceIte, Nat.reduceEqDiff, Nat.reduceAdd, Nat.reduceMul, Nat.reduceLeDiff, Nat.reduceLT, Int.reduceLE, Int.reduceLT, reduceCtorEq]
    have h0 : 0 < a.length := by omega
    have h06 : (a.getD 0 []).length = 6 := by rw [getD_eq h0]; exact hma _ (List.getElem_mem h0)
    refine KL_indD k72_b1.eq_1 (fun x : Nat => [(0, .list (aggs a)), (29, .ref 3 ver2 0 l.length), (30, .int .i64 l.length), (31, .int .i64 x)]) (fun _ => [.arr 0 41 1 [.list (aggs a), w], .arr ver 60 6 (aggs l), .arr 0 41 1 [.list (aggs a), w], .arr ver2 60 6 (aggs l)]) (fun x => x ≤ l.length ∧ (l.take x).all (fun r => decide (r.getD 0 0 = (a.getD 0 []).getD 0 0)) = true) (fun x => l.length - x) [0, 29, 30, 31] 0 (by rfl) ⟨[], rfl⟩ ⟨Nat.zero_le _, by simp⟩ (fun x hx => ?_) fun x ⟨hx, hall⟩ ih => ?_
    · refine ⟨Nat.zero_le _, ?_, ?_⟩
      · exact Env.undr_upto (by simp [Env.undr, PV.undr, hwu, undrX_aggs])
      · exact .cons (by simp [AObj.undr, PV.undr, PV.undrX, hwu, undrX_aggs]) (.cons (by simp [AObj.undr, undrX_aggs]) (.cons (by simp [AObj.undr, PV.undr, PV.undrX, hwu, undrX_aggs]) (.cons (by simp [AObj.undr, undrX_aggs]) (.nil _))))
    try simp only [take6, List.drop_zero, Int.cast_ofNat_Int, go_sem, ↓reduceIte, Nat.reduceEqDiff, Nat.reduceAdd, Nat.reduceMul, Nat.reduceLeDiff, Nat.reduceLT, Int.reduceLE, Int.reduceLT, reduceCtorEq]
    refine ⟨fun h1 => ⟨by omega, by omega, fun h2 => ?_⟩, fun h1 => ?_⟩
    · have h6 := hab _ (List.getElem_mem h2)
      rw [getD_eq h2]
      try simp only [h6, h06, h0, take6, List.drop_zero, Int.cast_ofNat_Int, go_sem, ↓reduceIte, Nat.reduceEqDiff, Nat.reduceAdd, Nat.reduceMul, Nat.reduceLeDiff, Nat.reduceLT, Int.reduceLE, Int.reduceLT, reduceCtorEq]
      refine ⟨by omega, fun h3 => ?_, fun h3 => ⟨by omega, ?_⟩⟩
      · refine Kv.Fin.still ⟨?_, rfl⟩
        rw [hlc, if_pos (all_false h2 (by simpa using h3))]
      · refine ih (x + 1) ⟨by omega, ?_⟩ (by omega) _ _ (by rfl) ⟨[_], rfl⟩
        rw [all_take_succ _ h2, hall, h3]; simp
    · obtain rfl : x = l.length := by omega
      rw [List.take_length] at hall
      exact Kv.Fin.still ⟨by rw [hlc, if_neg (by rw [hall]; simp)], rfl⟩
/-- Maps of one number of points. -/
def same (l : List (List Int)) : Bool := decide (1 ≤ l.length ∧ l.length ≤ 6) && l.all fun r => isM r && decide (r.getD 0 0 = (l.getD 0 []).getD 0 0)
theorem p138 (l : List (List Int)) (hl : l.length ≤ 1048576) (hm : ∀ r ∈ l, r.length = 6) : Pure Tryz.prog 138 [.list (aggs l)] (.bool (same l)) := by
  have hsame : same l = (decide (1 ≤ l.length ∧ l.length ≤ 6) && l.all fun r => isM r && decide (r.getD 0 0 = (l.getD 0 []).getD 0 0)) := rfl
  refine e138 (by simp) fun _ _ => ?_
  simp only [k138, argEnv, take6, List.drop_zero, Int.cast_ofNat_Int, go_sem, ↓reduceIte, Nat.reduceEqDiff, Nat.reduceAdd, Nat.reduceMul, Nat.reduceLeDiff, Nat.reduceLT, Int.reduceLE, Int.reduceLT, reduceCtorEq]
  refine ⟨fun h1 => ⟨fun h2 => ?_, fun h2 => ?_⟩, fun h1 => ?_⟩
  · exact Kv.Fin.still ⟨by rw [hsame, decide_eq_false (by omega)]; rfl, rfl⟩
  · have hsame : same l = l.all fun r => isM r && decide (r.getD 0 0 = (l.getD 0 []).getD 0 0) := by rw [hsame, decide_eq_true (by omega), Bool.true_and]
    have h0 : 0 < l.length := by omega
    have h06 : (l.getD 0 []).length = 6 := by rw [getD_eq h0]; exact hm _ (List.getElem_mem h0)
    refine KL_ind k138_b0.eq_1 (fun x : Nat => [(0, .list (aggs l)), (3, .int .i64 x)]) (fun _ => []) (fun x => x ≤ l.length ∧ (l.take x).all (fun r => isM r && decide (r.getD 0 0 = (l.getD 0 []).getD 0 0)) = true) (fun x => l.length - x) [0, 3] 0 (by rfl) rfl ⟨Nat.zero_le _, by simp⟩ fun x ⟨hx, hall⟩ ih => ?_
    try simp only [take6, List.drop_zero, Int.cast_ofNat_Int, go_sem, ↓reduceIte, Nat.reduceEqDiff, Nat.reduceAdd, Nat.reduceMul, Nat.reduceLeDiff, Nat.reduceLT, Int.reduceLE, Int.reduceLT, reduceCtorEq]
    refine ⟨fun h3 => ⟨by omega, fun h4 => ?_⟩, fun h3 => ?_⟩
    · have h6 := hm _ (List.getElem_mem h4)
      rw [getD_eq h4]
      try simp only [h6, take6, List.drop_zero, Int.cast_ofNat_Int, go_sem, ↓reduceIte, Nat.reduceEqDiff, Nat.reduceAdd, Nat.reduceMul, Nat.reduceLeDiff, Nat.reduceLT, Int.reduceLE, Int.reduceLT, reduceCtorEq]
      refine (p137 _ h6).pgo ?_
      cases hM : isM l[x] with
      | false =>
        try simp only [take6, List.drop_zero, Int.cast_ofNat_Int, go_sem, ↓reduceIte, Nat.reduceEqDiff, Nat.reduceAdd, Nat.reduceMul, Nat.reduceLeDiff, Nat.reduceLT, Int.reduceLE, Int.reduceLT, reduceCtorEq]
        exact Kv.Fin.still ⟨by rw [hsame, all_false h4 (by simp [hM])], rfl⟩
      | true =>
        try simp only [take6, List.drop_zero, Int.cast_ofNat_Int, go_sem, ↓reduceIte, Nat.reduceEqDiff, Nat.reduceAdd, Nat.reduceMul, Nat.reduceLeDiff, Nat.reduceLT, Int.reduceLE, Int.reduceLT, reduceCtorEq]
        refine ⟨by omega, fun h5 => ?_⟩
        rw [getD_eq h4]
        try simp only [h6, h06, h0, take6, List.drop_zero, Int.cast_ofNat_Int, go_sem, ↓reduceIte, Nat.reduceEqDiff, Nat.reduceAdd, Nat.reduceMul, Nat.reduceLeDiff, Nat.reduceLT, Int.reduceLE, Int.reduceLT, reduceCtorEq]
        refine ⟨by omega, fun h7 => ?_, fun h7 => ⟨by omega, ?_⟩⟩
        · exact Kv.Fin.still ⟨by rw [hsame, all_false h4 (by simp only [hM, Bool.true_and]; exact decide_eq_false h7)], rfl⟩
        · refine ih (x + 1) ⟨by omega, ?_⟩ (by omega) _ _ (by rfl) rfl
          rw [all_take_succ _ h4, hall, hM, h7]; simp
    · obtain rfl : x = l.length := by omega
      rw [List.take_length] at hall
      exact Kv.Fin.still ⟨by rw [hsame, hall], rfl⟩
  · exact Kv.Fin.still ⟨by rw [hsame, decide_eq_false (by omega)]; rfl, rfl⟩
theorem lcode_eq (a b : List (List Int)) : lcode a b = if a.all isM = false then 1 else if b.all isM = false then 1 else if same a = false then 2 else if b.all (fun r => decide (r.getD 0 0 = (a.getD 0 []).getD 0 0)) = false then 2 else 0 := by
  have h3 : a.all isM = true → (a.all fun r => isM r && decide (r.getD 0 0 = (a.getD 0 []).getD 0 0)) = a.all fun r => decide (r.getD 0 0 = (a.getD 0 []).getD 0 0) := fun h1 => by
    rw [Bool.eq_iff_iff]
    simp only [List.all_eq_true, Bool.and_eq_true] at h1 ⊢
    exact ⟨fun h r hr => (h r hr).2, fun h r hr => ⟨h1 r hr, h r hr⟩⟩
  simp only [lcode, List.all_append]
  cases h1 : a.all isM
  · simp only [Bool.false_and, if_true]
  cases h2 : b.all isM
  · simp only [Bool.true_and, if_true, Bool.false_and, reduceCtorEq, if_false]
  have hs : same a = (decide (1 ≤ a.length ∧ a.length ≤ 6) && a.all fun r => decide (r.getD 0 0 = (a.getD 0 []).getD 0 0)) := by unfold same; rw [h3 h1]
  rw [hs]
  generalize (a.all fun r => decide (r.getD 0 0 = (a.getD 0 []).getD 0 0)) = x
  generalize (b.all fun r => decide (r.getD 0 0 = (a.getD 0 []).getD 0 0)) = y
  by_cases hc : (1 ≤ a.length ∧ a.length ≤ 6) <;> cases x <;> cases y <;> simp [hc]
theorem p74n (a : List (List Int)) (ha : a.length ≤ 1048576) (hma : ∀ r ∈ a, r.length = 6) :
    Pure Tryz.prog 74 [.list (aggs a), .nils] (.int .i64 (lcode a [])) := by
  rw [lcode_eq]
  refine e74 (by simp) fun _ _ => ?_
  simp only [k74, argEnv, take6, List.drop_zero, Int.cast_ofNat_Int, go_sem, ↓reduceIte, Nat.reduceEqDiff, Nat.reduceAdd, Nat.reduceMul, Nat.reduceLeDiff, Nat.reduceLT, Int.reduceLE, Int.reduceLT, reduceCtorEq]
  refine KL_ind k74_b0.eq_1 (fun x : Nat => [(0, .list (aggs a)), (1, .nils), (5, .int .i64 x)]) (fun _ => []) (fun x => x ≤ a.length ∧ (a.take x).all isM = true) (fun x => a.length - x) [0, 1, 5] 0 (by rfl) rfl ⟨Nat.zero_le _, by simp⟩ fun x ⟨hx, hall⟩ ih => ?_
  try simp only [take6, List.drop_zero, Int.cast_ofNat_Int, go_sem, ↓reduceIte, Nat.reduceEqDiff, Nat.reduceAdd, Nat.reduceMul, Nat.reduceLeDiff, Nat.reduceLT, Int.reduceLE, Int.reduceLT, reduceCtorEq]
  refine ⟨fun h3 => ⟨by omega, fun h4 => ?_⟩, fun h3 => ?_⟩
  · have h6 := hma _ (List.getElem_mem h4)
    rw [getD_eq h4]
    try simp only [h6, take6, List.drop_zero, Int.cast_ofNat_Int, go_sem, ↓reduceIte, Nat.reduceEqDiff, Nat.reduceAdd, Nat.reduceMul, Nat.reduceLeDiff, Nat.reduceLT, Int.reduceLE, Int.reduceLT, reduceCtorEq]
    refine (p137 _ h6).go ?_
    try simp only [take6, List.drop_zero, Int.cast_ofNat_Int, go_sem, ↓reduceIte, Nat.reduceEqDiff, Nat.reduceAdd, Nat.reduceMul, Nat.reduceLeDiff, Nat.reduceLT, Int.reduceLE, Int.reduceLT, reduceCtorEq]
    refine ⟨fun h5 => Kv.Fin.still ⟨by rw [if_pos (all_false h4 h5)], rfl⟩, fun h5 => ⟨by omega, ?_⟩⟩
    refine ih (x + 1) ⟨by omega, ?_⟩ (by omega) _ _ (by rfl) rfl
    rw [all_take_succ _ h4, hall, h5]; rfl
  obtain rfl : x = a.length := by omega
  rw [List.take_length] at hall
  rw [if_neg (by rw [hall]; simp)]
  clear ih
  refine KL_round ?_
  rw [k74_b1.eq_1]
  try simp only [Int.reduceNeg, Int.lt_irrefl, take6, List.drop_zero, Int.cast_ofNat_Int, go_sem, ↓reduceIte, Nat.reduceEqDiff, Nat.reduceAdd, Nat.reduceMul, Nat.reduceLeDiff, Nat.reduceLT, Int.reduceLE, Int.reduceLT, reduceCtorEq]
  refine (p138 a ha hma).go ?_
  cases hs : same a with
  | false =>
    try simp only [take6, List.drop_zero, Int.cast_ofNat_Int, go_sem, ↓reduceIte, Nat.reduceEqDiff, Nat.reduceAdd, Nat.reduceMul, Nat.reduceLeDiff, Nat.reduceLT, Int.reduceLE, Int.reduceLT, reduceCtorEq]
    exact Kv.Fin.still ⟨by simp, rfl⟩
  | true =>
    try simp only [take6, List.drop_zero, Int.cast_ofNat_Int, go_sem, ↓reduceIte, Nat.reduceEqDiff, Nat.reduceAdd, Nat.reduceMul, Nat.reduceLeDiff, Nat.reduceLT, Int.reduceLE, Int.reduceLT, reduceCtorEq]
    refine KL_round ?_
    rw [k74_b2.eq_1]
    try simp only [Int.lt_irrefl, take6, List.drop_zero, Int.cast_ofNat_Int, go_sem, ↓reduceIte, Nat.reduceEqDiff, Nat.reduceAdd, Nat.reduceMul, Nat.reduceLeDiff, Nat.reduceLT, Int.reduceLE, Int.reduceLT, reduceCtorEq]
    exact Kv.Fin.still ⟨by simp, rfl⟩
end Go.Proofs.YthbbjbfbeaiphaaGreat
end
section
/- Partitions: whether they are, whether they are invariant; both sides. -/
namespace Go.Proofs.YthbbjbfbeaiphaaGreat
open Go.Kv
set_option linter.unusedVariables false
set_option linter.unusedSimpArgs false
attribute [local irreducible] ACall PCall KL
/-- What a right list of maps is. -/
theorem lcode_maps {a : List (List Int)} (h6 : ∀ r ∈ a, r.length = 6) (h : lcode a [] = 0) : ∃ (fs : List (List Nat)) (n : Nat), a = fs.map mp ∧ (∀ f ∈ fs, Ok f n) ∧ 1 ≤ fs.length ∧ fs.length ≤ 6 ∧ (a.getD 0 []).getD 0 0 = n ∧ 1 ≤ n ∧ n ≤ 5 := by
  unfold lcode at h
  rw [List.append_nil] at h
  split at h
  · omega
  rename_i h1
  split at h
  · omega
  rename_i h2
  split at h
  · omega
  rename_i h3
  simp only [Bool.not_eq_false, List.all_eq_true, decide_eq_true_eq] at h1 h3
  have h2' : 1 ≤ a.length ∧ a.length ≤ 6 := by omega
  have h0 : 0 < a.length := by omega
  obtain ⟨f0, n, hf0, e0⟩ := isM_ok (h6 _ (List.getElem_mem h0)) (h1 _ (List.getElem_mem h0))
  have hn : (a.getD 0 []).getD 0 0 = n := by rw [getD_eq h0, e0, mp_get0, hf0.len]
  have key : ∀ r ∈ a, r = mp (um r) ∧ Ok (um r) n := fun r hr => by
    obtain ⟨f, n', hf, e⟩ := isM_ok (h6 r hr) (h1 r hr)
    have h4 := h3 r hr
    rw [hn, e, mp_get0, hf.len] at h4
    obtain rfl : n' = n := by omega
    rw [e, um_mp]
    exact ⟨rfl, hf⟩
  refine ⟨a.map um, n, ?_, ?_, by simpa using h2'.1, by simpa using h2'.2, hn, hf0.pos, hf0.le⟩
  · rw [List.map_map]
    conv => lhs; rw [← List.map_id a]
    exact List.map_congr_left fun r hr => by simpa using (key r hr).1
  · intro f hf
    obtain ⟨r, hr, rfl⟩ := List.mem_map.1 hf
    exact (key r hr).2
theorem map_getD {fs : List (List Nat)} {x : Nat} (h : x < fs.length) : (fs.map mp).getD x [] = mp fs[x] := by simp [List.getD_eq_getElem?_getD, h]
theorem map_um (fs : List (List Nat)) : (fs.map mp).map um = fs := by
  rw [List.map_map]
  conv => rhs; rw [← List.map_id fs]
  exact List.map_congr_left fun f _ => um_mp f
end Go.Proofs.YthbbjbfbeaiphaaGreat
end
section
/- Marking and holding of lists of maps. -/
namespace Go.Proofs.YthbbjbfbeaiphaaGreat
open Go.Kv
set_option linter.unusedVariables false
set_option linter.unusedSimpArgs false
attribute [local irreducible] ACall PCall KL
/-- Maps whose numbers are those from k on. -/
def seqA (k : Int) (n : Nat) : List (List Int) := (List.range n).map fun i => seqI (k + 6 * (i : Nat)) 6
@[simp] theorem seqA_length (k : Int) (n : Nat) : (seqA k n).length = n := by simp [seqA]
end Go.Proofs.YthbbjbfbeaiphaaGreat
end
