/- Lists of maps, joined. -/
import Derived.Test.YtpepbomifjbgnaaCb
import Derived.Test.YtpepbomifjbgnaaML
namespace Go.Proofs.Ytpepbomifjbgnaa
open Go.Kv
set_option maxRecDepth 100000
end Go.Proofs.Ytpepbomifjbgnaa
namespace Go.Proofs.Ytpepbomifjbgnaa
open Go.Kv
set_option linter.unusedVariables false
set_option linter.unusedSimpArgs false
attribute [local irreducible] ACall PCall KL
theorem p137 (n : Int) (h00 : 0 ≤ n) (hn : n ≤ 4294967296) {K : PV → Heap → Prop} (h0 : n = 0 → K .nils []) (h1 : 0 < n → K (.ref 0 0 0 0) [.arr 0 59 6 (aggs (List.replicate n.toNat [0, 0, 0, 0, 0, 0]))]) :
    ACall Try.prog 137 [.nils, .int .i64 n] [] K := by
  refine e137 (by simp) fun _ _ => ?_
  simp only [k137, argEnv, take6, List.drop_zero, Int.cast_ofNat_Int, go_sem, ↓reduceIte, Nat.reduceEqDiff, Nat.reduceAdd, Nat.reduceMul, Nat.reduceLeDiff, Nat.reduceLT, Int.reduceLE, Int.reduceLT, reduceCtorEq]
  repeat' (first | refine And.intro ?_ ?_ | intro _)
  all_goals (try omega)
  · rename_i hp
    have e : n - (0 - 0) = n := by omega
    rw [e, aggs_repl]
    exact Kv.Fin.now (h1 (by omega))
  · exact Kv.Fin.now (h0 (by omega))
/-- A list of maps as a value: nil, or a list. -/
inductive Ms : PV → List (List Int) → Prop
  | nil : Ms .nils []
  | list (l : List (List Int)) : Ms (.list (aggs l)) l
theorem p101 (w : PV) (a b : List (List Int)) (hw : Ms w b) (ha : a.length ≤ 1048576) (hb : b.length ≤ 1048576) (hma : ∀ r ∈ a, r.length = 6) (hmb : ∀ r ∈ b, r.length = 6) :
    ACall Try.prog 101 [.list [.list (aggs a), w]] [] (fun v s => ∃ ver, v = .ref 0 ver 0 (a ++ b).length ∧ s = [.arr ver 59 6 (aggs (a ++ b))]) := by
  have hoa := okL_aggs 6 a
  have hob := okL_aggs 6 b
  rw [eq_true hma] at hoa
  rw [eq_true hmb] at hob
  have hap : aggs a ++ aggs b = aggs (a ++ b) := by simp [aggs]
  have hnil : aggs ([] : List (List Int)) = [] := rfl
  cases hw
  all_goals
    refine e101 (by simp) fun _ _ => ?_
    simp only [k101, argEnv, take6, List.drop_zero, Int.cast_ofNat_Int, go_sem, ↓reduceIte, Nat.reduceEqDiff, Nat.reduceAdd, Nat.reduceMul, Nat.reduceLeDiff, Nat.reduceLT, Int.reduceLE, Int.reduceLT, reduceCtorEq]
    refine KL_round ?_
    rw [k101_b0.eq_1]
    try simp only [take6, List.drop_zero, Int.cast_ofNat_Int, go_sem, ↓reduceIte, Nat.reduceEqDiff, Nat.reduceAdd, Nat.reduceMul, Nat.reduceLeDiff, Nat.reduceLT, Int.reduceLE, Int.reduceLT, reduceCtorEq]
    repeat' (first | refine And.intro ?_ ?_ | intro _)
    all_goals (try omega)
    refine KL_round ?_
    try simp only [Int.reduceAdd, Int.reduceToNat, Int.zero_add, take6, List.drop_zero, Int.cast_ofNat_Int, go_sem, ↓reduceIte, Nat.reduceEqDiff, Nat.reduceAdd, Nat.reduceMul, Nat.reduceLeDiff, Nat.reduceLT, Int.reduceLE, Int.reduceLT, reduceCtorEq]
    repeat' (first | refine And.intro ?_ ?_ | intro _)
    all_goals (try omega)
    refine KL_round ?_
    try simp only [Int.reduceAdd, Int.reduceToNat, Int.zero_add, take6, List.drop_zero, Int.cast_ofNat_Int, go_sem, ↓reduceIte, Nat.reduceEqDiff, Nat.reduceAdd, Nat.reduceMul, Nat.reduceLeDiff, Nat.reduceLT, Int.reduceLE, Int.reduceLT, reduceCtorEq]
    repeat' (first | refine And.intro ?_ ?_ | intro _)
    all_goals (try omega)
    refine (p137 _ (by omega) (by omega) (fun h0 => ?_) (fun h0 => ?_))
  all_goals
    try simp only [take6, List.drop_zero, Int.cast_ofNat_Int, go_sem, ↓reduceIte, Nat.reduceEqDiff, Nat.reduceAdd, Nat.reduceMul, Nat.reduceLeDiff, Nat.reduceLT, Int.reduceLE, Int.reduceLT, reduceCtorEq]
    refine KL_round ?_
    rw [k101_b1.eq_1]
    try simp only [hoa, hob, hap, hnil, take6, List.drop_zero, Int.cast_ofNat_Int, go_sem, ↓reduceIte, Nat.reduceEqDiff, Nat.reduceAdd, Nat.reduceMul, Nat.reduceLeDiff, Nat.reduceLT, Int.reduceLE, Int.reduceLT, reduceCtorEq]
    repeat' (first | refine And.intro ?_ ?_ | intro _)
    all_goals (try omega)
    refine KL_round ?_
    try simp only [Int.reduceAdd, Int.reduceToNat, Int.zero_add, hoa, hob, hap, hnil, take6, List.drop_zero, Int.cast_ofNat_Int, go_sem, ↓reduceIte, Nat.reduceEqDiff, Nat.reduceAdd, Nat.reduceMul, Nat.reduceLeDiff, Nat.reduceLT, Int.reduceLE, Int.reduceLT, reduceCtorEq]
    repeat' (first | refine And.intro ?_ ?_ | intro _)
    all_goals (try omega)
    refine KL_round ?_
    try simp only [Int.reduceAdd, Int.reduceToNat, Int.zero_add, hoa, hob, hap, hnil, take6, List.drop_zero, Int.cast_ofNat_Int, go_sem, ↓reduceIte, Nat.reduceEqDiff, Nat.reduceAdd, Nat.reduceMul, Nat.reduceLeDiff, Nat.reduceLT, Int.reduceLE, Int.reduceLT, reduceCtorEq]
    repeat' (first | refine And.intro ?_ ?_ | intro _)
    all_goals (try omega)
    refine Kv.Fin.now ?_
  · exact ⟨1, rfl, rfl⟩
  · exact ⟨2, rfl, by simp⟩
  · exact ⟨1, rfl, rfl⟩
  · exact ⟨2, rfl, by simp⟩
theorem Imm.refs {σ : Heap} {id ver n : Nat} {e : TypeId} {cs : List PV} (h : σ[id]? = some (.arr ver e 1 cs)) (hn : n = cs.length) (hc : ∀ c ∈ cs, c.cs = [c] ∧ c.ok = true ∧ Still c) : Imm σ (.ref id ver 0 n) (.list cs) := by
  subst hn
  exact .ref id ver 0 cs.length e 1 cs cs h (by simp) rfl
    (fun i x d hx hd => by simp only [Nat.zero_add, hd, Option.some.injEq] at hx; subst hx; have h1 := hc _ (List.mem_of_getElem? hd); rw [h1.1]; exact ⟨rfl, by simp [h1.2.1]⟩)
    (fun i x d j c c' hx hd hcc hc' => by
      simp only [Nat.zero_add, hd, Option.some.injEq] at hx; subst hx
      have h1 := hc _ (List.mem_of_getElem? hd)
      rw [hcc] at hc'; cases hc'
      rw [h1.1] at hcc
      have := List.mem_of_getElem? hcc
      simp only [List.mem_singleton] at this; subst this
      have := h1.2.2
      exact Imm.still)
theorem Ms.still {w : PV} {l : List (List Int)} (h : Ms w l) : w.cs = [w] ∧ w.ok = true ∧ Still w := by
  cases h
  · exact ⟨rfl, rfl, inferInstance⟩
  · exact ⟨rfl, rfl, inferInstance⟩
theorem p101L (σ : Heap) (id : Nat) (w : PV) (a b : List (List Int)) (hw : Ms w b) (hid : σ[id]? = some (.arr 0 35 1 [.list (aggs a), w])) (ha : a.length ≤ 1048576) (hb : b.length ≤ 1048576) (hma : ∀ r ∈ a, r.length = 6) (hmb : ∀ r ∈ b, r.length = 6) {K : PV → Heap → Prop}
    (hK : ∀ ver, K (.ref σ.length ver 0 (a ++ b).length) (σ ++ [.arr ver 59 6 (aggs (a ++ b))])) :
    ACall Try.prog 101 [.ref id 0 0 2] σ K := by
  have him : Imm σ (.ref id 0 0 2) (.list [.list (aggs a), w]) := Imm.refs hid rfl fun c hc => by
    simp only [List.mem_cons, List.not_mem_nil, or_false] at hc
    rcases hc with rfl | rfl
    · exact ⟨rfl, rfl, inferInstance⟩
    · exact hw.still
  refine ACall.lend (p101 w a b hw ha hb hma hmb) (.cons him (.nil _)) fun v s ⟨ver, hv, hs⟩ => ?_
  subst hv; subst hs
  refine ⟨⟨free_ref _ _ _ _, ?_⟩, ?_⟩
  · intro o ho
    simp only [List.mem_singleton] at ho; subst ho
    exact fun c hc => (flat_aggs c hc).fr
  · simpa only [ren_ref, ren_arr, ren_aggs, List.map_cons, List.map_nil, sh_def, Nat.zero_add] using hK ver
end Go.Proofs.Ytpepbomifjbgnaa
