/- Several texts of this session as one. -/
import Derived.Test.YtpfapiiinkkcgaaGreatCb
import Derived.Test.YtpfapiiinkkcgaaGreatZ5
section
/- Maps, compared by the laws' functions. -/
namespace Go.Proofs.YtpfapiiinkkcgaaGreat
open Go.Kv
set_option maxRecDepth 100000
end Go.Proofs.YtpfapiiinkkcgaaGreat
namespace Go.Proofs.YtpfapiiinkkcgaaGreat
open Go.Kv
set_option linter.unusedVariables false
set_option linter.unusedSimpArgs false
attribute [local irreducible] ACall PCall KL
end Go.Proofs.YtpfapiiinkkcgaaGreat
end
section
/- Searching in lists of maps, and deleting from them. -/
namespace Go.Proofs.YtpfapiiinkkcgaaGreat
open Go.Kv
set_option maxRecDepth 100000
/- slices.IndexFunc[[]impl.Map,impl.Map] -/
/- live [0, 1, 7, 8] -/
def k172_b0 : KC := (.seq (.ops [⟨(some 9), none, .bin .lss (.t 8) (.t 7)⟩])
  (.seq (.cond (.t 9) .skip (.exit 0))
  (.seq (.block 1 (.seq (.ops [⟨(some 10), none, .mv (.t 8)⟩, ⟨(some 5), none, .mv (.t 10)⟩])
  (.seq (.ops [⟨(some 11), none, .mv (.t 1)⟩, ⟨(some 12), none, .mv (.t 0)⟩, ⟨(some 13), none, .mv (.t 5)⟩, ⟨(some 14), none, .idxS 6 (.t 12) (.t 13)⟩, ⟨(some 15), none, .load true 6 (.t 14)⟩, ⟨(some 16), none, .call (.t 11) [(.t 15)]⟩])
  (.cond (.t 16) (.seq (.ops [⟨(some 17), none, .mv (.t 5)⟩, ⟨(some 4), none, .mv (.t 17)⟩])
  .ret) .skip))))
  (.ops [⟨(some 18), none, .bin .add (.t 8) (.c (.int .i64 1))⟩, ⟨(some 8), none, .mv (.t 18)⟩]))))
def k172 : KC := (.seq (.ops [⟨(some 4), none, .mv (.c (.int .i64 0))⟩])
  (.seq (.seq (.ops [⟨(some 6), none, .mv (.t 0)⟩, ⟨(some 7), none, .len false (.t 6)⟩, ⟨(some 8), none, .mv (.c (.int .i64 0))⟩])
  (.block 0 (.loop k172_b0)))
  (.seq (.ops [⟨(some 4), none, .mv (.c (.int .i64 (-1)))⟩])
  .ret)))
theorem e172 {args : List PV} {σ : Heap} {K : PV → Heap → Prop} (hl : args.length ≤ 19) (h : Wf σ → (∀ a ∈ args, PV.upto σ.length a) → vc (mkCfg Tryz.prog mixed [] 19 σ.length) k172 (FinK σ.length [.t 4] K) (argEnv 0 args) σ) : ACall Tryz.prog 172 args σ K :=
  ACall_enter (C := mkCfg Tryz.prog mixed [] 19 σ.length) (c := Tryz.f172.body.getD .skip) Tryz.func172 (by kernel_rfl) (by kernel_rfl) (by kernel_rfl) rfl hl (by kernel_rfl) (by kernel_rfl) h
/- slices.DeleteFunc[[]impl.Map,impl.Map] -/
/- live [0, 1, 5, 6] -/
end Go.Proofs.YtpfapiiinkkcgaaGreat
namespace Go.Proofs.YtpfapiiinkkcgaaGreat
open Go.Kv
set_option linter.unusedVariables false
set_option linter.unusedSimpArgs false
attribute [local irreducible] ACall PCall KL
theorem p172 (l : List (List Int)) (hm : ∀ x ∈ l, x.length = 6) (hl : l.length ≤ 4294967296) (fid : FuncId) (caps : List PV) [hc : StillL caps] (p : List Int → Bool) (hp : ∀ x ∈ l, Pure Tryz.prog fid (.agg (ints x) :: caps) (.bool (p x))) :
    Pure Tryz.prog 172 [.list (aggs l), .fn (.func fid) [] caps] (.int .i64 (idx p l)) := by
  refine e172 (by simp) fun _ _ => ?_
  simp only [k172, argEnv, take6, List.drop_zero, Int.cast_ofNat_Int, go_sem, ↓reduceIte, Nat.reduceEqDiff, Nat.reduceAdd, Nat.reduceMul, Nat.reduceLeDiff, Nat.reduceLT, Int.reduceLE, Int.reduceLT, reduceCtorEq]
  refine KL_ind k172_b0.eq_1 (fun x : Nat => [(0, .list (aggs l)), (1, .fn (.func fid) [] caps), (7, .int .i64 l.length), (8, .int .i64 x)]) (fun _ => []) (fun x => x ≤ l.length ∧ (l.take x).any p = false) (fun x => l.length - x) [0, 1, 7, 8] 0 rfl rfl ⟨Nat.zero_le _, by simp⟩ fun x ⟨hx, hall⟩ ih => ?_
  try simp only [take6, List.drop_zero, Int.cast_ofNat_Int, go_sem, ↓reduceIte, Nat.reduceEqDiff, Nat.reduceAdd, Nat.reduceMul, Nat.reduceLeDiff, Nat.reduceLT, Int.reduceLE, Int.reduceLT, reduceCtorEq]
  refine ⟨fun h1 => ⟨by omega, fun h2 => ?_⟩, fun h1 => ?_⟩
  · rw [getD_eq h2]
    have h6 := hm _ (List.getElem_mem h2)
    try simp only [h6, take6, List.drop_zero, Int.cast_ofNat_Int, go_sem, ↓reduceIte, Nat.reduceEqDiff, Nat.reduceAdd, Nat.reduceMul, Nat.reduceLeDiff, Nat.reduceLT, Int.reduceLE, Int.reduceLT, reduceCtorEq]
    refine (hp _ (List.getElem_mem h2)).go ?_
    try simp only [take6, List.drop_zero, Int.cast_ofNat_Int, go_sem, ↓reduceIte, Nat.reduceEqDiff, Nat.reduceAdd, Nat.reduceMul, Nat.reduceLeDiff, Nat.reduceLT, Int.reduceLE, Int.reduceLT, reduceCtorEq]
    refine ⟨fun h3 => ?_, fun h3 => ⟨by omega, ?_⟩⟩
    · exact Kv.Fin.now ⟨by rw [idx_some h2 hall h3], rfl⟩
    · refine ih (x + 1) ⟨by omega, ?_⟩ (by omega) _ _ rfl rfl
      rw [any_take_succ _ h2, hall, h3]; rfl
  · obtain rfl : x = l.length := by omega
    rw [List.take_length] at hall
    exact Kv.Fin.now ⟨by rw [idx_none hall], rfl⟩
end Go.Proofs.YtpfapiiinkkcgaaGreat
end
section
/- Lists of maps: their size, their copies, their equality; the lists that are joined. -/
namespace Go.Proofs.YtpfapiiinkkcgaaGreat
open Go.Kv
set_option maxRecDepth 100000
/- slices.Grow[[]impl.Map,impl.Map] -/
def k202 : KC := (.seq (.ops [⟨(some 4), none, .mv (.c (.nils))⟩])
  (.seq (.seq (.ops [⟨(some 5), none, .mv (.t 1)⟩, ⟨(some 6), none, .bin .lss (.t 5) (.c (.int .i64 0))⟩])
  (.cond (.t 6) (.ops [⟨(some 7), none, .bad⟩, ⟨none, none, .bad⟩]) .skip))
  (.seq (.seq (.ops [⟨(some 8), none, .mv (.t 1)⟩, ⟨(some 9), none, .mv (.t 0)⟩, ⟨(some 10), none, .cap0 (.t 9)⟩, ⟨(some 11), none, .mv (.t 0)⟩, ⟨(some 12), none, .len false (.t 11)⟩, ⟨(some 13), none, .bin .sub (.t 10) (.t 12)⟩, ⟨(some 14), none, .bin .sub (.t 8) (.t 13)⟩, ⟨(some 1), none, .mv (.t 14)⟩])
  (.seq (.ops [⟨(some 15), none, .mv (.t 1)⟩, ⟨(some 16), none, .bin .gtr (.t 15) (.c (.int .i64 0))⟩])
  (.cond (.t 16) (.ops [⟨(some 17), none, .mv (.t 0)⟩, ⟨(some 18), none, .mv (.t 0)⟩, ⟨(some 19), none, .cap0 (.t 18)⟩, ⟨(some 20), none, .sls 6 (.t 17) none (some (.t 19))⟩, ⟨(some 21), none, .mv (.t 1)⟩, ⟨(some 22), none, .apn (.t 20) (.t 21) 34 6 (.agg [.int .i64 0, .int .i64 0, .int .i64 0, .int .i64 0, .int .i64 0, .int .i64 0])⟩, ⟨(some 23), none, .mv (.t 0)⟩, ⟨(some 24), none, .len false (.t 23)⟩, ⟨(some 25), none, .sls 6 (.t 22) none (some (.t 24))⟩, ⟨(some 0), none, .mv (.t 25)⟩]) .skip)))
  (.seq (.ops [⟨(some 26), none, .mv (.t 0)⟩, ⟨(some 4), none, .mv (.t 26)⟩])
  .ret))))
theorem e202 {args : List PV} {σ : Heap} {K : PV → Heap → Prop} (hl : args.length ≤ 27) (h : Wf σ → (∀ a ∈ args, PV.upto σ.length a) → vc (mkCfg Tryz.prog mixed [] 27 σ.length) k202 (FinK σ.length [.t 4] K) (argEnv 0 args) σ) : ACall Tryz.prog 202 args σ K :=
  ACall_enter (C := mkCfg Tryz.prog mixed [] 27 σ.length) (c := Tryz.f202.body.getD .skip) Tryz.func202 (by kernel_rfl) (by kernel_rfl) (by kernel_rfl) rfl hl (by kernel_rfl) (by kernel_rfl) h
/- slices.Concat[[]impl.Map,impl.Map] -/
/- live [0, 3, 9, 10, 11] -/
def k189_b0 : KC := (.seq (.ops [⟨(some 12), none, .bin .lss (.t 11) (.t 10)⟩])
  (.seq (.cond (.t 12) .skip (.exit 0))
  (.seq (.block 1 (.seq (.ops [⟨(some 13), none, .idxS 1 (.t 9) (.t 11)⟩, ⟨(some 14), none, .load false 1 (.t 13)⟩, ⟨(some 5), none, .mv (.t 14)⟩])
  (.seq (.ops [⟨(some 15), none, .mv (.t 3)⟩, ⟨(some 16), none, .mv (.t 5)⟩, ⟨(some 17), none, .len false (.t 16)⟩, ⟨(some 18), none, .bin .add (.t 15) (.t 17)⟩, ⟨(some 3), none, .mv (.t 18)⟩])
  (.seq (.ops [⟨(some 19), none, .mv (.t 3)⟩, ⟨(some 20), none, .bin .lss (.t 19) (.c (.int .i64 0))⟩])
  (.cond (.t 20) (.ops [⟨(some 21), none, .bad⟩, ⟨none, none, .bad⟩]) .skip)))))
  (.ops [⟨(some 22), none, .bin .add (.t 11) (.c (.int .i64 1))⟩, ⟨(some 11), none, .mv (.t 22)⟩]))))
/- live [6, 25, 26, 27] -/
def k189_b1 : KC := (.seq (.ops [⟨(some 28), none, .bin .lss (.t 27) (.t 26)⟩])
  (.seq (.cond (.t 28) .skip (.exit 2))
  (.seq (.block 3 (.seq (.ops [⟨(some 29), none, .idxS 1 (.t 25) (.t 27)⟩, ⟨(some 30), none, .load false 1 (.t 29)⟩, ⟨(some 8), none, .mv (.t 30)⟩])
  (.ops [⟨(some 31), none, .mv (.t 6)⟩, ⟨(some 32), none, .mv (.t 8)⟩, ⟨(some 33), none, .app (.t 31) (.t 32) 34 6⟩, ⟨(some 6), none, .mv (.t 33)⟩])))
  (.ops [⟨(some 34), none, .bin .add (.t 27) (.c (.int .i64 1))⟩, ⟨(some 27), none, .mv (.t 34)⟩]))))
def k189 : KC := (.seq (.ops [⟨(some 2), none, .mv (.c (.nils))⟩])
  (.seq (.ops [⟨(some 3), none, .mv (.c (.int .i64 0))⟩])
  (.seq (.seq (.ops [⟨(some 9), none, .mv (.t 0)⟩, ⟨(some 10), none, .len false (.t 9)⟩, ⟨(some 11), none, .mv (.c (.int .i64 0))⟩])
  (.block 0 (.loop k189_b0)))
  (.seq (.ops [⟨(some 23), none, .mv (.t 3)⟩, ⟨(some 24), none, .call (.c (.fn (.func 202) [] [])) [(.c (.nils)), (.t 23)]⟩, ⟨(some 6), none, .mv (.t 24)⟩])
  (.seq (.seq (.ops [⟨(some 25), none, .mv (.t 0)⟩, ⟨(some 26), none, .len false (.t 25)⟩, ⟨(some 27), none, .mv (.c (.int .i64 0))⟩])
  (.block 2 (.loop k189_b1)))
  (.seq (.ops [⟨(some 35), none, .mv (.t 6)⟩, ⟨(some 2), none, .mv (.t 35)⟩])
  .ret))))))
theorem e189 {args : List PV} {σ : Heap} {K : PV → Heap → Prop} (hl : args.length ≤ 36) (h : Wf σ → (∀ a ∈ args, PV.upto σ.length a) → vc (mkCfg Tryz.prog mixed [] 36 σ.length) k189 (FinK σ.length [.t 2] K) (argEnv 0 args) σ) : ACall Tryz.prog 189 args σ K :=
  ACall_enter (C := mkCfg Tryz.prog mixed [] 36 σ.length) (c := Tryz.f189.body.getD .skip) Tryz.func189 (by kernel_rfl) (by kernel_rfl) (by kernel_rfl) rfl hl (by kernel_rfl) (by kernel_rfl) h
end Go.Proofs.YtpfapiiinkkcgaaGreat
namespace Go.Proofs.YtpfapiiinkkcgaaGreat
open Go.Kv
set_option linter.unusedVariables false
set_option linter.unusedSimpArgs false
attribute [local irreducible] ACall PCall KL
theorem aggs_repl (n : Nat) : List.replicate n (PV.agg [.int .i64 0, .int .i64 0, .int .i64 0, .int .i64 0, .int .i64 0, .int .i64 0]) = aggs (List.replicate n [0, 0, 0, 0, 0, 0]) := by simp [aggs, ints]
end Go.Proofs.YtpfapiiinkkcgaaGreat
end
section
/- Lists of maps, joined. -/
namespace Go.Proofs.YtpfapiiinkkcgaaGreat
open Go.Kv
set_option maxRecDepth 100000
end Go.Proofs.YtpfapiiinkkcgaaGreat
namespace Go.Proofs.YtpfapiiinkkcgaaGreat
open Go.Kv
set_option linter.unusedVariables false
set_option linter.unusedSimpArgs false
attribute [local irreducible] ACall PCall KL
theorem p202 (n : Int) (h00 : 0 ≤ n) (hn : n ≤ 4294967296) {K : PV → Heap → Prop} (h0 : n = 0 → K .nils []) (h1 : 0 < n → K (.ref 0 0 0 0) [.arr 0 34 6 (aggs (List.replicate n.toNat [0, 0, 0, 0, 0, 0]))]) :
    ACall Tryz.prog 202 [.nils, .int .i64 n] [] K := by
  refine e202 (by simp) fun _ _ => ?_
  simp only [k202, argEnv, take6, List.drop_zero, Int.cast_ofNat_Int, go_sem, ↓reduceIte, Nat.reduceEqDiff, Nat.reduceAdd, Nat.reduceMul, Nat.reduceLeDiff, Nat.reduceLT, Int.reduceLE, Int.reduceLT, reduceCtorEq]
  repeat' (first | refine And.intro ?_ ?_ | intro _)
  all_goals (try omega)
  · rename_i hp
    have e : n - (0 - 0) = n := by omega
    rw [e, aggs_repl]
    exact Kv.Fin.now (h1 (by omega))
  · exact Kv.Fin.now (h0 (by omega))
/-- A list of maps as a value: nil, or a list. -/
inductive Ms : PV → List (List Int) → Prop
  | nil : Ms .nils []
  | list (l : List (List Int)) : Ms (.list (aggs l)) l
theorem p189 (w : PV) (a b : List (List Int)) (hw : Ms w b) (ha : a.length ≤ 1048576) (hb : b.length ≤ 1048576) (hma : ∀ r ∈ a, r.length = 6) (hmb : ∀ r ∈ b, r.length = 6) :
    ACall Tryz.prog 189 [.list [.list (aggs a), w]] [] (fun v s => ∃ ver, v = .ref 0 ver 0 (a ++ b).length ∧ s = [.arr ver 34 6 (aggs (a ++ b))]) := by
  have hoa := okL_aggs 6 a
  have hob := okL_aggs 6 b
  rw [eq_true hma] at hoa
  rw [eq_true hmb] at hob
  have hap : aggs a ++ aggs b = aggs (a ++ b) := by simp [aggs]
  have hnil : aggs ([] : List (List Int)) = [] := rfl
  cases hw
  all_goals
    refine e189 (by simp) fun _ _ => ?_
    simp only [k189, argEnv, take6, List.drop_zero, Int.cast_ofNat_Int, go_sem, ↓reduceIte, Nat.reduceEqDiff, Nat.reduceAdd, Nat.reduceMul, Nat.reduceLeDiff, Nat.reduceLT, Int.reduceLE, Int.reduceLT, reduceCtorEq]
    refine KL_round ?_
    rw [k189_b0.eq_1]
    try simp only [take6, List.drop_zero, Int.cast_ofNat_Int, go_sem, ↓reduceIte, Nat.reduceEqDiff, Nat.reduceAdd, Nat.reduceMul, Nat.reduceLeDiff, Nat.reduceLT, Int.reduceLE, Int.reduceLT, reduceCtorEq]
    repeat' (first | refine And.intro ?_ ?_ | intro _)
    all_goals (try omega)
    refine KL_round ?_
    try simp only [Int.reduceAdd, Int.reduceToNat, Int.zero_add, take6, List.drop_zero, Int.cast_ofNat_Int, go_sem, ↓reduceIte, Nat.reduceEqDiff, Nat.reduceAdd, Nat.reduceMul, Nat.reduceLeDiff, Nat.reduceLT, Int.reduceLE, Int.reduceLT, reduceCtorEq]
    repeat' (first | refine And.intro ?_ ?_ | intro _)
    all_goals (try omega)
    refine KL_round ?_
    try simp only [Int.reduceAdd, Int.reduceToNat, Int.zero_add, take6, List.drop_zero, Int.cast_ofNat_Int, go_sem, ↓reduceIte, Nat.reduceEqDiff, Nat.reduceAdd, Nat.reduceMul, Nat.reduceLeDiff, Nat.reduceLT, Int.reduceLE, Int.reduceLT, reduceCtorEq]
    repeat' (first | refine And.intro ?_ ?_ | intro _)
    all_goals (try omega)
    refine (p202 _ (by omega) (by omega) (fun h0 => ?_) (fun h0 => ?_))
  all_goals
    try simp only [take6, List.drop_zero, Int.cast_ofNat_Int, go_sem, ↓reduceIte, Nat.reduceEqDiff, Nat.reduceAdd, Nat.reduceMul, Nat.reduceLeDiff, Nat.reduceLT, Int.reduceLE, Int.reduceLT, reduceCtorEq]
    refine KL_round ?_
    rw [k189_b1.eq_1]
    try simp only [hoa, hob, hap, hnil, take6, List.drop_zero, Int.cast_ofNat_Int, go_sem, ↓reduceIte, Nat.reduceEqDiff, Nat.reduceAdd, Nat.reduceMul, Nat.reduceLeDiff, Nat.reduceLT, Int.reduceLE, Int.reduceLT, reduceCtorEq]
    repeat' (first | refine And.intro ?_ ?_ | intro _)
    all_goals (try omega)
    refine KL_round ?_
    try simp only [Int.reduceAdd, Int.reduceToNat, Int.zero_add, hoa, hob, hap, hnil, take6, List.drop_zero, Int.cast_ofNat_Int, go_sem, ↓reduceIte, Nat.reduceEqDiff, Nat.reduceAdd, Nat.reduceMul, Nat.reduceLeDiff, Nat.reduceLT, Int.reduceLE, Int.reduceLT, reduceCtorEq]
    repeat' (first | refine And.intro ?_ ?_ | intro _)
    all_goals (try omega)
    refine KL_round ?_
    try simp only [Int.reduceAdd, Int.reduceToNat, Int.zero_add, hoa, hob, hap, hnil, take6, List.drop_zero, Int.cast_ofNat_Int, go_sem, ↓reduceIte, Nat.reduceEqDiff, Nat.reduceAdd, Nat.reduceMul, Nat.reduceLeDiff, Nat.reduceLT, Int.reduceLE, Int.reduceLT, reduceCtorEq]
    repeat' (first | refine And.intro ?_ ?_ | intro _)
    all_goals (try omega)
    refine Kv.Fin.now ?_
  · exact ⟨1, rfl, rfl⟩
  · exact ⟨2, rfl, by simp⟩
  · exact ⟨1, rfl, rfl⟩
  · exact ⟨2, rfl, by simp⟩
theorem Imm.refs {σ : Heap} {id ver n : Nat} {e : TypeId} {cs : List PV} (h : σ[id]? = some (.arr ver e 1 cs)) (hn : n = cs.length) (hc : ∀ c ∈ cs, c.cs = [c] ∧ c.ok = true ∧ Still c) : Imm σ (.ref id ver 0 n) (.list cs) := by
  subst hn
  exact .ref id ver 0 cs.length e 1 cs cs h (by simp) rfl
    (fun i x d hx hd => by simp only [Nat.zero_add, hd, Option.some.injEq] at hx; subst hx; have h1 := hc _ (List.mem_of_getElem? hd); rw [h1.1]; exact ⟨rfl, by simp [h1.2.1]⟩)
    (fun i x d j c c' hx hd hcc hc' => by
      simp only [Nat.zero_add, hd, Option.some.injEq] at hx; subst hx
      have h1 := hc _ (List.mem_of_getElem? hd)
      rw [hcc] at hc'; cases hc'
      rw [h1.1] at hcc
      have := List.mem_of_getElem? hcc
      simp only [List.mem_singleton] at this; subst this
      have := h1.2.2
      exact Imm.still)
theorem Ms.still {w : PV} {l : List (List Int)} (h : Ms w l) : w.cs = [w] ∧ w.ok = true ∧ Still w := by
  cases h
  · exact ⟨rfl, rfl, inferInstance⟩
  · exact ⟨rfl, rfl, inferInstance⟩
theorem p189L (σ : Heap) (id : Nat) (w : PV) (a b : List (List Int)) (hw : Ms w b) (hid : σ[id]? = some (.arr 0 40 1 [.list (aggs a), w])) (ha : a.length ≤ 1048576) (hb : b.length ≤ 1048576) (hma : ∀ r ∈ a, r.length = 6) (hmb : ∀ r ∈ b, r.length = 6) {K : PV → Heap → Prop}
    (hK : ∀ ver, K (.ref σ.length ver 0 (a ++ b).length) (σ ++ [.arr ver 34 6 (aggs (a ++ b))])) :
    ACall Tryz.prog 189 [.ref id 0 0 2] σ K := by
  have him : Imm σ (.ref id 0 0 2) (.list [.list (aggs a), w]) := Imm.refs hid rfl fun c hc => by
    simp only [List.mem_cons, List.not_mem_nil, or_false] at hc
    rcases hc with rfl | rfl
    · exact ⟨rfl, rfl, inferInstance⟩
    · exact hw.still
  refine ACall.lend (p189 w a b hw ha hb hma hmb) (.cons him (.nil _)) fun v s ⟨ver, hv, hs⟩ => ?_
  subst hv; subst hs
  refine ⟨⟨free_ref _ _ _ _, ?_⟩, ?_⟩
  · intro o ho
    simp only [List.mem_singleton] at ho; subst ho
    exact fun c hc => (flat_aggs c hc).fr
  · simpa only [ren_ref, ren_arr, ren_aggs, List.map_cons, List.map_nil, sh_def, Nat.zero_add] using hK ver
end Go.Proofs.YtpfapiiinkkcgaaGreat
end
section
/- Counts by formula: choose, power, and the number of idempotents. -/
namespace Go.Proofs.YtpfapiiinkkcgaaGreat
open Go.Kv
set_option maxRecDepth 100000
/- spec.CountIdempotents -/
/- live [0, 4, 5] -/
def k13_b0 : KC := (.seq (.seq (.ops [⟨(some 9), none, .mv (.t 5)⟩, ⟨(some 10), none, .mv (.t 0)⟩, ⟨(some 11), none, .bin .leq (.t 9) (.t 10)⟩])
  (.cond (.t 11) .skip (.exit 0)))
  (.seq (.block 1 (.ops [⟨(some 14), none, .mv (.t 4)⟩, ⟨(some 15), none, .mv (.t 0)⟩, ⟨(some 16), none, .mv (.t 5)⟩, ⟨(some 17), none, .call (.c (.fn (.func 74) [] [])) [(.t 15), (.t 16)]⟩, ⟨(some 18), none, .mv (.t 5)⟩, ⟨(some 19), none, .mv (.t 0)⟩, ⟨(some 20), none, .mv (.t 5)⟩, ⟨(some 21), none, .bin .sub (.t 19) (.t 20)⟩, ⟨(some 22), none, .call (.c (.fn (.func 75) [] [])) [(.t 18), (.t 21)]⟩, ⟨(some 23), none, .bin .mul (.t 17) (.t 22)⟩, ⟨(some 24), none, .bin .add (.t 14) (.t 23)⟩, ⟨(some 4), none, .mv (.t 24)⟩]))
  (.ops [⟨(some 12), none, .mv (.t 5)⟩, ⟨(some 13), none, .bin .add (.t 12) (.c (.int .i64 1))⟩, ⟨(some 5), none, .mv (.t 13)⟩])))
def k13 : KC := (.seq (.ops [⟨(some 2), none, .mv (.c (.int .i64 0))⟩, ⟨(some 3), none, .mv (.c (.int .i64 0))⟩])
  (.seq (.seq (.ops [⟨(some 6), none, .mv (.t 0)⟩, ⟨(some 7), none, .call (.c (.fn (.func 71) [] [])) [(.t 6), (.c (.int .i64 1)), (.c (.int .i64 12))]⟩, ⟨(some 8), none, .not (.t 7)⟩])
  (.cond (.t 8) (.seq (.ops [⟨(some 2), none, .mv (.c (.int .i64 0))⟩, ⟨(some 3), none, .mv (.c (.int .i64 2))⟩])
  .ret) .skip))
  (.seq (.ops [⟨(some 4), none, .mv (.c (.int .i64 0))⟩])
  (.seq (.seq (.ops [⟨(some 5), none, .mv (.c (.int .i64 1))⟩])
  (.block 0 (.loop k13_b0)))
  (.seq (.ops [⟨(some 25), none, .mv (.t 4)⟩, ⟨(some 2), none, .mv (.t 25)⟩, ⟨(some 3), none, .mv (.c (.int .i64 0))⟩])
  .ret)))))
/- impl.CountIdempotents -/
/- live [0, 4, 5] -/
def k12_b0 : KC := (.seq (.seq (.ops [⟨(some 9), none, .mv (.t 5)⟩, ⟨(some 10), none, .mv (.t 0)⟩, ⟨(some 11), none, .bin .leq (.t 9) (.t 10)⟩])
  (.cond (.t 11) .skip (.exit 0)))
  (.seq (.block 1 (.ops [⟨(some 14), none, .mv (.t 4)⟩, ⟨(some 15), none, .mv (.t 0)⟩, ⟨(some 16), none, .mv (.t 5)⟩, ⟨(some 17), none, .call (.c (.fn (.func 72) [] [])) [(.t 15), (.t 16)]⟩, ⟨(some 18), none, .mv (.t 5)⟩, ⟨(some 19), none, .mv (.t 0)⟩, ⟨(some 20), none, .mv (.t 5)⟩, ⟨(some 21), none, .bin .sub (.t 19) (.t 20)⟩, ⟨(some 22), none, .call (.c (.fn (.func 73) [] [])) [(.t 18), (.t 21)]⟩, ⟨(some 23), none, .bin .mul (.t 17) (.t 22)⟩, ⟨(some 24), none, .bin .add (.t 14) (.t 23)⟩, ⟨(some 4), none, .mv (.t 24)⟩]))
  (.ops [⟨(some 12), none, .mv (.t 5)⟩, ⟨(some 13), none, .bin .add (.t 12) (.c (.int .i64 1))⟩, ⟨(some 5), none, .mv (.t 13)⟩])))
def k12 : KC := (.seq (.ops [⟨(some 2), none, .mv (.c (.int .i64 0))⟩, ⟨(some 3), none, .mv (.c (.int .i64 0))⟩])
  (.seq (.seq (.ops [⟨(some 6), none, .mv (.t 0)⟩, ⟨(some 7), none, .call (.c (.fn (.func 69) [] [])) [(.t 6)]⟩, ⟨(some 8), none, .not (.t 7)⟩])
  (.cond (.t 8) (.seq (.ops [⟨(some 2), none, .mv (.c (.int .i64 0))⟩, ⟨(some 3), none, .mv (.c (.int .i64 2))⟩])
  .ret) .skip))
  (.seq (.ops [⟨(some 4), none, .mv (.c (.int .i64 0))⟩])
  (.seq (.seq (.ops [⟨(some 5), none, .mv (.c (.int .i64 1))⟩])
  (.block 0 (.loop k12_b0)))
  (.seq (.ops [⟨(some 25), none, .mv (.t 4)⟩, ⟨(some 2), none, .mv (.t 25)⟩, ⟨(some 3), none, .mv (.c (.int .i64 0))⟩])
  .ret)))))
theorem e12 {args : List PV} {σ : Heap} {K : PV → Heap → Prop} (hl : args.length ≤ 26) (h : Wf σ → (∀ a ∈ args, PV.upto σ.length a) → vc (mkCfg Tryz.prog mixed [] 26 σ.length) k12 (FinK σ.length [.t 2, .t 3] K) (argEnv 0 args) σ) : ACall Tryz.prog 12 args σ K :=
  ACall_enter (C := mkCfg Tryz.prog mixed [] 26 σ.length) (c := Tryz.f12.body.getD .skip) Tryz.func12 (by kernel_rfl) (by kernel_rfl) (by kernel_rfl) rfl hl (by kernel_rfl) (by kernel_rfl) h
/- spec.l09Choose -/
/- live [0, 1, 5, 6] -/
/- spec.l09Power -/
/- live [0, 1, 5] -/
/- impl.isFormula -/
/- impl.choose -/
/- live [0, 5, 7, 8] -/
/- impl.whole -/
/- live [0, 5, 6, 7] -/
end Go.Proofs.YtpfapiiinkkcgaaGreat
namespace Go.Proofs.YtpfapiiinkkcgaaGreat
open Go.Kv
set_option linter.unusedVariables false
set_option linter.unusedSimpArgs false
attribute [local irreducible] ACall PCall KL
def ch (n : Nat) : Nat → Int
  | 0 => 1
  | i + 1 => ch n i * ((n : Int) - i) / ((i : Int) + 1)
def si (n : Nat) : Nat → Int
  | 0 => 0
  | k + 1 => si n k + ch n (k + 1) * (((k + 1 : Nat) : Int) ^ (n - (k + 1)))
end Go.Proofs.YtpfapiiinkkcgaaGreat
end
section
/- The code of lists of maps: both sides. -/
namespace Go.Proofs.YtpfapiiinkkcgaaGreat
open Go.Kv
set_option maxRecDepth 100000
/- impl.listCode -/
/- live [0, 1, 12, 13, 14] -/
def k153_b0 : KC := (.seq (.ops [⟨(some 15), none, .bin .lss (.t 14) (.t 13)⟩])
  (.seq (.cond (.t 15) .skip (.exit 0))
  (.seq (.block 1 (.seq (.ops [⟨(some 16), none, .idxS 6 (.t 12) (.t 14)⟩, ⟨(some 17), none, .load true 6 (.t 16)⟩, ⟨(some 6), none, .alloc [.int .i64 0, .int .i64 0, .int .i64 0, .int .i64 0, .int .i64 0, .int .i64 0]⟩, ⟨none, none, .store 6 (.t 6) (.t 17)⟩])
  (.seq (.ops [⟨(some 18), none, .load true 6 (.t 6)⟩, ⟨(some 19), none, .call (.c (.fn (.func 85) [] [])) [(.t 18)]⟩, ⟨(some 20), none, .not (.t 19)⟩])
  (.cond (.t 20) (.seq (.ops [⟨(some 4), none, .mv (.c (.int .i64 1))⟩])
  .ret) .skip))))
  (.ops [⟨(some 21), none, .bin .add (.t 14) (.c (.int .i64 1))⟩, ⟨(some 14), none, .mv (.t 21)⟩]))))
/- live [0, 29, 30, 31] -/
def k153_b1 : KC := (.seq (.ops [⟨(some 32), none, .bin .lss (.t 31) (.t 30)⟩])
  (.seq (.cond (.t 32) .skip (.exit 2))
  (.seq (.block 3 (.seq (.ops [⟨(some 33), none, .idxS 6 (.t 29) (.t 31)⟩, ⟨(some 34), none, .load true 6 (.t 33)⟩, ⟨(some 8), none, .alloc [.int .i64 0, .int .i64 0, .int .i64 0, .int .i64 0, .int .i64 0, .int .i64 0]⟩, ⟨none, none, .store 6 (.t 8) (.t 34)⟩])
  (.seq (.draw [⟨(some 35), none, .fieldA 0 (.t 8)⟩, ⟨(some 36), none, .load false 1 (.t 35)⟩, ⟨(some 37), none, .mv (.t 0)⟩, ⟨(some 38), none, .idxS 6 (.t 37) (.c (.int .i64 0))⟩, ⟨(some 39), none, .fieldA 0 (.t 38)⟩, ⟨(some 40), none, .load false 1 (.t 39)⟩, ⟨(some 41), none, .bin .neq (.t 36) (.t 40)⟩])
  (.cond (.t 41) (.seq (.ops [⟨(some 4), none, .mv (.c (.int .i64 2))⟩])
  .ret) .skip))))
  (.ops [⟨(some 42), none, .bin .add (.t 31) (.c (.int .i64 1))⟩, ⟨(some 31), none, .mv (.t 42)⟩]))))
def k153 : KC := (.seq (.ops [⟨(some 4), none, .mv (.c (.int .i64 0))⟩])
  (.seq (.seq (.ops [⟨(some 9), none, .mv (.t 0)⟩, ⟨(some 10), none, .mv (.t 1)⟩, ⟨(some 11), none, .bsl false 40 1 [(.t 9), (.t 10)]⟩, ⟨(some 12), none, .call (.c (.fn (.func 189) [] [])) [(.t 11)]⟩, ⟨(some 13), none, .len false (.t 12)⟩, ⟨(some 14), none, .mv (.c (.int .i64 0))⟩])
  (.block 0 (.loop k153_b0)))
  (.seq (.seq (.ops [⟨(some 22), none, .mv (.t 0)⟩, ⟨(some 23), none, .len false (.t 22)⟩, ⟨(some 24), none, .call (.c (.fn (.func 77) [] [])) [(.t 23), (.c (.int .i64 1)), (.c (.int .i64 6))]⟩, ⟨(some 25), none, .not (.t 24)⟩])
  (.cond (.t 25) (.seq (.ops [⟨(some 4), none, .mv (.c (.int .i64 2))⟩])
  .ret) .skip))
  (.seq (.seq (.ops [⟨(some 26), none, .mv (.t 0)⟩, ⟨(some 27), none, .mv (.t 1)⟩, ⟨(some 28), none, .bsl false 40 1 [(.t 26), (.t 27)]⟩, ⟨(some 29), none, .call (.c (.fn (.func 189) [] [])) [(.t 28)]⟩, ⟨(some 30), none, .len false (.t 29)⟩, ⟨(some 31), none, .mv (.c (.int .i64 0))⟩])
  (.block 2 (.loop k153_b1)))
  (.seq (.ops [⟨(some 4), none, .mv (.c (.int .i64 0))⟩])
  .ret)))))
theorem e153 {args : List PV} {σ : Heap} {K : PV → Heap → Prop} (hl : args.length ≤ 43) (h : Wf σ → (∀ a ∈ args, PV.upto σ.length a) → vc (mkCfg Tryz.prog mixed [] 43 σ.length) k153 (FinK σ.length [.t 4] K) (argEnv 0 args) σ) : ACall Tryz.prog 153 args σ K :=
  ACall_enter (C := mkCfg Tryz.prog mixed [] 43 σ.length) (c := Tryz.f153.body.getD .skip) Tryz.func153 (by kernel_rfl) (by kernel_rfl) (by kernel_rfl) rfl hl (by kernel_rfl) (by kernel_rfl) h
/- spec.l02Given -/
/- live [0, 1, 5] -/
def k157_b0 : KC := (.seq (.seq (.ops [⟨(some 8), none, .mv (.t 5)⟩, ⟨(some 9), none, .mv (.t 0)⟩, ⟨(some 10), none, .len false (.t 9)⟩, ⟨(some 11), none, .bin .lss (.t 8) (.t 10)⟩])
  (.cond (.t 11) .skip (.exit 0)))
  (.seq (.block 1 (.seq (.ops [⟨(some 14), none, .mv (.t 0)⟩, ⟨(some 15), none, .mv (.t 5)⟩, ⟨(some 16), none, .idxS 6 (.t 14) (.t 15)⟩, ⟨(some 17), none, .load true 6 (.t 16)⟩, ⟨(some 18), none, .call (.c (.fn (.func 89) [] [])) [(.t 17)]⟩, ⟨(some 19), none, .not (.t 18)⟩])
  (.cond (.t 19) (.seq (.ops [⟨(some 4), none, .mv (.c (.int .i64 1))⟩])
  .ret) .skip)))
  (.ops [⟨(some 12), none, .mv (.t 5)⟩, ⟨(some 13), none, .bin .add (.t 12) (.c (.int .i64 1))⟩, ⟨(some 5), none, .mv (.t 13)⟩])))
/- live [0, 1, 6] -/
def k157_b1 : KC := (.seq (.seq (.ops [⟨(some 20), none, .mv (.t 6)⟩, ⟨(some 21), none, .mv (.t 1)⟩, ⟨(some 22), none, .len false (.t 21)⟩, ⟨(some 23), none, .bin .lss (.t 20) (.t 22)⟩])
  (.cond (.t 23) .skip (.exit 2)))
  (.seq (.block 3 (.seq (.ops [⟨(some 26), none, .mv (.t 1)⟩, ⟨(some 27), none, .mv (.t 6)⟩, ⟨(some 28), none, .idxS 6 (.t 26) (.t 27)⟩, ⟨(some 29), none, .load true 6 (.t 28)⟩, ⟨(some 30), none, .call (.c (.fn (.func 89) [] [])) [(.t 29)]⟩, ⟨(some 31), none, .not (.t 30)⟩])
  (.cond (.t 31) (.seq (.ops [⟨(some 4), none, .mv (.c (.int .i64 1))⟩])
  .ret) .skip)))
  (.ops [⟨(some 24), none, .mv (.t 6)⟩, ⟨(some 25), none, .bin .add (.t 24) (.c (.int .i64 1))⟩, ⟨(some 6), none, .mv (.t 25)⟩])))
/- live [0, 1, 7] -/
def k157_b2 : KC := (.seq (.seq (.ops [⟨(some 35), none, .mv (.t 7)⟩, ⟨(some 36), none, .mv (.t 1)⟩, ⟨(some 37), none, .len false (.t 36)⟩, ⟨(some 38), none, .bin .lss (.t 35) (.t 37)⟩])
  (.cond (.t 38) .skip (.exit 4)))
  (.seq (.block 5 (.seq (.draw [⟨(some 41), none, .mv (.t 1)⟩, ⟨(some 42), none, .mv (.t 7)⟩, ⟨(some 43), none, .idxS 6 (.t 41) (.t 42)⟩, ⟨(some 44), none, .fieldA 0 (.t 43)⟩, ⟨(some 45), none, .load false 1 (.t 44)⟩, ⟨(some 46), none, .mv (.t 0)⟩, ⟨(some 47), none, .idxS 6 (.t 46) (.c (.int .i64 0))⟩, ⟨(some 48), none, .fieldA 0 (.t 47)⟩, ⟨(some 49), none, .load false 1 (.t 48)⟩, ⟨(some 50), none, .bin .neq (.t 45) (.t 49)⟩])
  (.cond (.t 50) (.seq (.ops [⟨(some 4), none, .mv (.c (.int .i64 2))⟩])
  .ret) .skip)))
  (.ops [⟨(some 39), none, .mv (.t 7)⟩, ⟨(some 40), none, .bin .add (.t 39) (.c (.int .i64 1))⟩, ⟨(some 7), none, .mv (.t 40)⟩])))
def k157 : KC := (.seq (.ops [⟨(some 4), none, .mv (.c (.int .i64 0))⟩])
  (.seq (.seq (.ops [⟨(some 5), none, .mv (.c (.int .i64 0))⟩])
  (.block 0 (.loop k157_b0)))
  (.seq (.seq (.ops [⟨(some 6), none, .mv (.c (.int .i64 0))⟩])
  (.block 2 (.loop k157_b1)))
  (.seq (.seq (.ops [⟨(some 32), none, .mv (.t 0)⟩, ⟨(some 33), none, .call (.c (.fn (.func 194) [] [])) [(.t 32)]⟩, ⟨(some 34), none, .not (.t 33)⟩])
  (.cond (.t 34) (.seq (.ops [⟨(some 4), none, .mv (.c (.int .i64 2))⟩])
  .ret) .skip))
  (.seq (.seq (.ops [⟨(some 7), none, .mv (.c (.int .i64 0))⟩])
  (.block 4 (.loop k157_b2)))
  (.seq (.ops [⟨(some 4), none, .mv (.c (.int .i64 0))⟩])
  .ret))))))
theorem e157 {args : List PV} {σ : Heap} {K : PV → Heap → Prop} (hl : args.length ≤ 51) (h : Wf σ → (∀ a ∈ args, PV.upto σ.length a) → vc (mkCfg Tryz.prog mixed [] 51 σ.length) k157 (FinK σ.length [.t 4] K) (argEnv 0 args) σ) : ACall Tryz.prog 157 args σ K :=
  ACall_enter (C := mkCfg Tryz.prog mixed [] 51 σ.length) (c := Tryz.f157.body.getD .skip) Tryz.func157 (by kernel_rfl) (by kernel_rfl) (by kernel_rfl) rfl hl (by kernel_rfl) (by kernel_rfl) h
/- spec.l01Same -/
/- live [0, 3, 25, 26, 27, 28, 29, 30, 31, 32, 33, 34] -/
def k194_b0 : KC := (.seq (.seq (.ops [⟨(some 12), none, .mv (.t 3)⟩, ⟨(some 13), none, .mv (.t 0)⟩, ⟨(some 14), none, .len false (.t 13)⟩, ⟨(some 15), none, .bin .lss (.t 12) (.t 14)⟩])
  (.cond (.t 15) .skip (.exit 0)))
  (.seq (.block 1 (.seq (.draw [⟨(some 18), none, .mv (.t 0)⟩, ⟨(some 19), none, .mv (.t 3)⟩, ⟨(some 20), none, .idxS 6 (.t 18) (.t 19)⟩, ⟨(some 21), none, .load true 6 (.t 20)⟩, ⟨(some 22), none, .pcall (.c (.fn (.func 89) [] [])) [(.t 21)]⟩, ⟨(some 23), none, .not (.t 22)⟩, ⟨(some 24), none, .mv (.t 23)⟩, ⟨(some 25), some (24, false), .mv (.t 0)⟩, ⟨(some 26), some (24, false), .mv (.t 3)⟩, ⟨(some 27), some (24, false), .idxS 6 (.t 25) (.t 26)⟩, ⟨(some 28), some (24, false), .fieldA 0 (.t 27)⟩, ⟨(some 29), some (24, false), .load false 1 (.t 28)⟩, ⟨(some 30), some (24, false), .mv (.t 0)⟩, ⟨(some 31), some (24, false), .idxS 6 (.t 30) (.c (.int .i64 0))⟩, ⟨(some 32), some (24, false), .fieldA 0 (.t 31)⟩, ⟨(some 33), some (24, false), .load false 1 (.t 32)⟩, ⟨(some 34), some (24, false), .bin .neq (.t 29) (.t 33)⟩, ⟨(some 35), none, .pick (.t 24) (.c (.bool true)) (.t 34)⟩])
  (.cond (.t 35) (.seq (.ops [⟨(some 2), none, .mv (.c (.bool false))⟩])
  .ret) .skip)))
  (.ops [⟨(some 16), none, .mv (.t 3)⟩, ⟨(some 17), none, .bin .add (.t 16) (.c (.int .i64 1))⟩, ⟨(some 3), none, .mv (.t 17)⟩])))
def k194 : KC := (.seq (.ops [⟨(some 2), none, .mv (.c (.bool false))⟩])
  (.seq (.seq (.ops [⟨(some 4), none, .mv (.t 0)⟩, ⟨(some 5), none, .len false (.t 4)⟩, ⟨(some 6), none, .bin .lss (.t 5) (.c (.int .i64 1))⟩, ⟨(some 7), none, .mv (.t 6)⟩, ⟨(some 8), some (7, false), .mv (.t 0)⟩, ⟨(some 9), some (7, false), .len false (.t 8)⟩, ⟨(some 10), some (7, false), .bin .gtr (.t 9) (.c (.int .i64 6))⟩, ⟨(some 11), none, .pick (.t 7) (.c (.bool true)) (.t 10)⟩])
  (.cond (.t 11) (.seq (.ops [⟨(some 2), none, .mv (.c (.bool false))⟩])
  .ret) .skip))
  (.seq (.seq (.ops [⟨(some 3), none, .mv (.c (.int .i64 0))⟩])
  (.block 0 (.loop k194_b0)))
  (.seq (.ops [⟨(some 2), none, .mv (.c (.bool true))⟩])
  .ret))))
theorem e194 {args : List PV} {σ : Heap} {K : PV → Heap → Prop} (hl : args.length ≤ 36) (h : Wf σ → (∀ a ∈ args, PV.upto σ.length a) → vc (mkCfg Tryz.prog mixed [] 36 σ.length) k194 (FinK σ.length [.t 2] K) (argEnv 0 args) σ) : ACall Tryz.prog 194 args σ K :=
  ACall_enter (C := mkCfg Tryz.prog mixed [] 36 σ.length) (c := Tryz.f194.body.getD .skip) Tryz.func194 (by kernel_rfl) (by kernel_rfl) (by kernel_rfl) rfl hl (by kernel_rfl) (by kernel_rfl) h
end Go.Proofs.YtpfapiiinkkcgaaGreat
namespace Go.Proofs.YtpfapiiinkkcgaaGreat
open Go.Kv
set_option linter.unusedVariables false
set_option linter.unusedSimpArgs false
attribute [local irreducible] ACall PCall KL
/-- What a list of maps and some more come to: none is no map, their number, their points. -/
def lcode (a b : List (List Int)) : Int :=
  if (a ++ b).all isM = false then 1 else if ¬ (1 ≤ a.length ∧ a.length ≤ 6) then 2 else if (a ++ b).all (fun r => decide (r.getD 0 0 = (a.getD 0 []).getD 0 0)) = false then 2 else 0
theorem all_false {α : Type} {l : List α} {x : Nat} {p : α → Bool} (h : x < l.length) (hp : p l[x] = false) : l.all p = false := by
  rw [List.all_eq_false]; exact ⟨l[x], List.getElem_mem h, by simp [hp]⟩
theorem p153 (w : PV) (a b : List (List Int)) (hw : Ms w b) (ha : a.length ≤ 1048576) (hb : b.length ≤ 1048576) (hma : ∀ r ∈ a, r.length = 6) (hmb : ∀ r ∈ b, r.length = 6) :
    Pure Tryz.prog 153 [.list (aggs a), w] (.int .i64 (lcode a b)) := by
  have hab : ∀ r ∈ a ++ b, r.length = 6 := fun r hr => (List.mem_append.1 hr).elim (hma r) (hmb r)
  have hlab : (a ++ b).length ≤ 2097152 := by simp; omega
  have hwu : ∀ n, w.undr n = true := fun n => by cases hw <;> simp [PV.undr, undrX_aggs]
  have hwc := hw.still
  have hwk : w.cs.length = 1 := by rw [hwc.1]; rfl
  have hwk2 : w.cs.all PV.ok = true := by rw [hwc.1]; simp [hwc.2.1]
  refine e153 (by simp) fun _ _ => ?_
  simp only [k153, argEnv, OpK_eq, hwk, hwk2, take6, List.drop_zero, Int.cast_ofNat_Int, go_sem, ↓reduceIte, Nat.reduceEqDiff, Nat.reduceAdd, Nat.reduceMul, Nat.reduceLeDiff, Nat.reduceLT, Int.reduceLE, Int.reduceLT, reduceCtorEq]
  refine p189L _ 0 w a b hw rfl ha hb hma hmb fun ver => ?_
  try simp only [take6, List.drop_zero, Int.cast_ofNat_Int, go_sem, ↓reduceIte, Nat.reduceEqDiff, Nat.reduceAdd, Nat.reduceMul, Nat.reduceLeDiff, Nat.reduceLT, Int.reduceLE, Int.reduceLT, reduceCtorEq]
  have hsum : a.length + b.length = (a ++ b).length := by simp
  rw [hsum]
  have hlc : lcode a b = if (a ++ b).all isM = false then 1 else if ¬ (1 ≤ a.length ∧ a.length ≤ 6) then 2 else if (a ++ b).all (fun r => decide (r.getD 0 0 = (a.getD 0 []).getD 0 0)) = false then 2 else 0 := rfl
  generalize hL : a ++ b = l at *
  refine KL_indD k153_b0.eq_1 (fun x : Nat => [(0, .list (aggs a)), (1, w), (12, .ref 1 ver 0 l.length), (13, .int .i64 l.length), (14, .int .i64 x)]) (fun _ => [.arr 0 40 1 [.list (aggs a), w], .arr ver 34 6 (aggs l)]) (fun x => x ≤ l.length ∧ (l.take x).all isM = true) (fun x => l.length - x) [0, 1, 12, 13, 14] 0 (by rfl) ⟨[], rfl⟩ ⟨Nat.zero_le _, by simp⟩ (fun x hx => ?_) fun x ⟨hx, hall⟩ ih => ?_
  · refine ⟨Nat.zero_le _, ?_, ?_⟩
    · exact Env.undr_upto (by simp [Env.undr, PV.undr, hwu, undrX_aggs])
    · exact .cons (by simp [AObj.undr, PV.undr, PV.undrX, hwu, undrX_aggs]) (.cons (by simp [AObj.undr, undrX_aggs]) (.nil _))
  try simp only [take6, List.drop_zero, Int.cast_ofNat_Int, go_sem, ↓reduceIte, Nat.reduceEqDiff, Nat.reduceAdd, Nat.reduceMul, Nat.reduceLeDiff, Nat.reduceLT, Int.reduceLE, Int.reduceLT, reduceCtorEq]
  refine ⟨fun h1 => ⟨by omega, by omega, fun h2 => ?_⟩, fun h1 => ?_⟩
  · have h6 := hab _ (List.getElem_mem h2)
    rw [getD_eq h2]
    try simp only [h6, take6, List.drop_zero, Int.cast_ofNat_Int, go_sem, ↓reduceIte, Nat.reduceEqDiff, Nat.reduceAdd, Nat.reduceMul, Nat.reduceLeDiff, Nat.reduceLT, Int.reduceLE, Int.reduceLT, reduceCtorEq]
    refine (p85 _ h6).go ?_
    try simp only [take6, List.drop_zero, Int.cast_ofNat_Int, go_sem, ↓reduceIte, Nat.reduceEqDiff, Nat.reduceAdd, Nat.reduceMul, Nat.reduceLeDiff, Nat.reduceLT, Int.reduceLE, Int.reduceLT, reduceCtorEq]
    refine ⟨fun h3 => ?_, fun h3 => ⟨by omega, ?_⟩⟩
    · refine Kv.Fin.still ⟨?_, rfl⟩
      rw [hlc, if_pos (all_false h2 h3)]
    · refine ih (x + 1) ⟨by omega, ?_⟩ (by omega) _ _ (by rfl) ⟨[_], rfl⟩
      rw [all_take_succ _ h2, hall, h3]; rfl
  · obtain rfl : x = l.length := by omega
    rw [List.take_length] at hall
    have hlc : lcode a b = if ¬ (1 ≤ a.length ∧ a.length ≤ 6) then 2 else if l.all (fun r => decide (r.getD 0 0 = (a.getD 0 []).getD 0 0)) = false then 2 else 0 := by rw [hlc, if_neg (by rw [hall]; simp)]
    refine (p77 _ _ _).go ?_
    try simp only [take6, List.drop_zero, Int.cast_ofNat_Int, go_sem, ↓reduceIte, Nat.reduceEqDiff, Nat.reduceAdd, Nat.reduceMul, Nat.reduceLeDiff, Nat.reduceLT, Int.reduceLE, Int.reduceLT, reduceCtorEq]
    refine ⟨fun h2 => Kv.Fin.still ⟨by rw [hlc, if_pos (by omega)], rfl⟩, fun h2 => ?_⟩
    have hlc : lcode a b = if l.all (fun r => decide (r.getD 0 0 = (a.getD 0 []).getD 0 0)) = false then 2 else 0 := by rw [hlc, if_neg (by omega)]
    try simp only [OpK_eq, hwk, hwk2, take6, List.drop_zero, Int.cast_ofNat_Int, go_sem, ↓reduceIte, Nat.reduceEqDiff, Nat.reduceAdd, Nat.reduceMul, Nat.reduceLeDiff, Nat.reduceLT, Int.reduceLE, Int.reduceLT, reduceCtorEq]
    refine p189L _ 2 w a b hw rfl ha hb hma hmb fun ver2 => ?_
    rw [hL]
    try simp only [take6, List.drop_zero, Int.cast_ofNat_Int, go_sem, ↓reduceIte, Nat.reduceEqDiff, Nat.reduceAdd, Nat.reduceMul, Nat.reduceLeDiff, Nat.reduceLT, Int.reduceLE, Int.reduceLT, reduceCtorEq]
    have h0 : 0 < a.length := by omega
    have h06 : (a.getD 0 []).length = 6 := by rw [getD_eq h0]; exact hma _ (List.getElem_mem h0)
    refine KL_indD k153_b1.eq_1 (fun x : Nat => [(0, .list (aggs a)), (29, .ref 3 ver2 0 l.length), (30, .int .i64 l.length), (31, .int .i64 x)]) (fun _ => [.arr 0 40 1 [.list (aggs a), w], .arr ver 34 6 (aggs l), .arr 0 40 1 [.list (aggs a), w], .arr ver2 34 6 (aggs l)]) (fun x => x ≤ l.length ∧ (l.take x).all (fun r => decide (r.getD 0 0 = (a.getD 0 []).getD 0 0)) = true) (fun x => l.length - x) [0, 29, 30, 31] 0 (by rfl) ⟨[], rfl⟩ ⟨Nat.zero_le _, by simp⟩ (fun x hx => ?_) fun x ⟨hx, hall⟩ ih => ?_
    · refine ⟨Nat.zero_le _, ?_, ?_⟩
      · exact Env.undr_upto (by simp [Env.undr, PV.undr, hwu, undrX_aggs])
      · exact .cons (by simp [AObj.undr, PV.undr, PV.undrX, hwu, undrX_aggs]) (.cons (by simp [AObj.undr, undrX_aggs]) (.cons (by simp [AObj.undr, PV.undr, PV.undrX, hwu, undrX_aggs]) (.cons (by simp [AObj.undr, undrX_aggs]) (.nil _))))
    try simp only [take6, List.drop_zero, Int.cast_ofNat_Int, go_sem, ↓reduceIte, Nat.reduceEqDiff, Nat.reduceAdd, Nat.reduceMul, Nat.reduceLeDiff, Nat.reduceLT, Int.reduceLE, Int.reduceLT, reduceCtorEq]
    refine ⟨fun h1 => ⟨by omega, by omega, fun h2 => ?_⟩, fun h1 => ?_⟩
    · have h6 := hab _ (List.getElem_mem h2)
      rw [getD_eq h2]
      try simp only [h6, h06, h0, take6, List.drop_zero, Int.cast_ofNat_Int, go_sem, ↓reduceIte, Nat.reduceEqDiff, Nat.reduceAdd, Nat.reduceMul, Nat.reduceLeDiff, Nat.reduceLT, Int.reduceLE, Int.reduceLT, reduceCtorEq]
      refine ⟨by omega, fun h3 => ?_, fun h3 => ⟨by omega, ?_⟩⟩
      · refine Kv.Fin.still ⟨?_, rfl⟩
        rw [hlc, if_pos (all_false h2 (by simpa using h3))]
      · refine ih (x + 1) ⟨by omega, ?_⟩ (by omega) _ _ (by rfl) ⟨[_], rfl⟩
        rw [all_take_succ _ h2, hall, h3]; simp
    · obtain rfl : x = l.length := by omega
      rw [List.take_length] at hall
      exact Kv.Fin.still ⟨by rw [hlc, if_neg (by rw [hall]; simp)], rfl⟩
/-- Maps of one number of points. -/
def same (l : List (List Int)) : Bool := decide (1 ≤ l.length ∧ l.length ≤ 6) && l.all fun r => isM r && decide (r.getD 0 0 = (l.getD 0 []).getD 0 0)
theorem p194 (l : List (List Int)) (hl : l.length ≤ 1048576) (hm : ∀ r ∈ l, r.length = 6) : Pure Tryz.prog 194 [.list (aggs l)] (.bool (same l)) := by
  have hsame : same l = (decide (1 ≤ l.length ∧ l.length ≤ 6) && l.all fun r => isM r && decide (r.getD 0 0 = (l.getD 0 []).getD 0 0)) := rfl
  refine e194 (by simp) fun _ _ => ?_
  simp only [k194, argEnv, take6, List.drop_zero, Int.cast_ofNat_Int, go_sem, ↓reduceIte, Nat.reduceEqDiff, Nat.reduceAdd, Nat.reduceMul, Nat.reduceLeDiff, Nat.reduceLT, Int.reduceLE, Int.reduceLT, reduceCtorEq]
  refine ⟨fun h1 => ⟨fun h2 => ?_, fun h2 => ?_⟩, fun h1 => ?_⟩
  · exact Kv.Fin.still ⟨by rw [hsame, decide_eq_false (by omega)]; rfl, rfl⟩
  · have hsame : same l = l.all fun r => isM r && decide (r.getD 0 0 = (l.getD 0 []).getD 0 0) := by rw [hsame, decide_eq_true (by omega), Bool.true_and]
    have h0 : 0 < l.length := by omega
    have h06 : (l.getD 0 []).length = 6 := by rw [getD_eq h0]; exact hm _ (List.getElem_mem h0)
    refine KL_ind k194_b0.eq_1 (fun x : Nat => [(0, .list (aggs l)), (3, .int .i64 x)]) (fun _ => []) (fun x => x ≤ l.length ∧ (l.take x).all (fun r => isM r && decide (r.getD 0 0 = (l.getD 0 []).getD 0 0)) = true) (fun x => l.length - x) [0, 3] 0 (by rfl) rfl ⟨Nat.zero_le _, by simp⟩ fun x ⟨hx, hall⟩ ih => ?_
    try simp only [take6, List.drop_zero, Int.cast_ofNat_Int, go_sem, ↓reduceIte, Nat.reduceEqDiff, Nat.reduceAdd, Nat.reduceMul, Nat.reduceLeDiff, Nat.reduceLT, Int.reduceLE, Int.reduceLT, reduceCtorEq]
    refine ⟨fun h3 => ⟨by omega, fun h4 => ?_⟩, fun h3 => ?_⟩
    · have h6 := hm _ (List.getElem_mem h4)
      rw [getD_eq h4]
      try simp only [h6, take6, List.drop_zero, Int.cast_ofNat_Int, go_sem, ↓reduceIte, Nat.reduceEqDiff, Nat.reduceAdd, Nat.reduceMul, Nat.reduceLeDiff, Nat.reduceLT, Int.reduceLE, Int.reduceLT, reduceCtorEq]
      refine (p89 _ h6).pgo ?_
      cases hM : isM l[x] with
      | false =>
        try simp only [take6, List.drop_zero, Int.cast_ofNat_Int, go_sem, ↓reduceIte, Nat.reduceEqDiff, Nat.reduceAdd, Nat.reduceMul, Nat.reduceLeDiff, Nat.reduceLT, Int.reduceLE, Int.reduceLT, reduceCtorEq]
        exact Kv.Fin.still ⟨by rw [hsame, all_false h4 (by simp [hM])], rfl⟩
      | true =>
        try simp only [take6, List.drop_zero, Int.cast_ofNat_Int, go_sem, ↓reduceIte, Nat.reduceEqDiff, Nat.reduceAdd, Nat.reduceMul, Nat.reduceLeDiff, Nat.reduceLT, Int.reduceLE, Int.reduceLT, reduceCtorEq]
        refine ⟨by omega, fun h5 => ?_⟩
        rw [getD_eq h4]
        try simp only [h6, h06, h0, take6, List.drop_zero, Int.cast_ofNat_Int, go_sem, ↓reduceIte, Nat.reduceEqDiff, Nat.reduceAdd, Nat.reduceMul, Nat.reduceLeDiff, Nat.reduceLT, Int.reduceLE, Int.reduceLT, reduceCtorEq]
        refine ⟨by omega, fun h7 => ?_, fun h7 => ⟨by omega, ?_⟩⟩
        · exact Kv.Fin.still ⟨by rw [hsame, all_false h4 (by simp only [hM, Bool.true_and]; exact decide_eq_false h7)], rfl⟩
        · refine ih (x + 1) ⟨by omega, ?_⟩ (by omega) _ _ (by rfl) rfl
          rw [all_take_succ _ h4, hall, hM, h7]; simp
    · obtain rfl : x = l.length := by omega
      rw [List.take_length] at hall
      exact Kv.Fin.still ⟨by rw [hsame, hall], rfl⟩
  · exact Kv.Fin.still ⟨by rw [hsame, decide_eq_false (by omega)]; rfl, rfl⟩
theorem lcode_eq (a b : List (List Int)) : lcode a b = if a.all isM = false then 1 else if b.all isM = false then 1 else if same a = false then 2 else if b.all (fun r => decide (r.getD 0 0 = (a.getD 0 []).getD 0 0)) = false then 2 else 0 := by
  have h3 : a.all isM = true → (a.all fun r => isM r && decide (r.getD 0 0 = (a.getD 0 []).getD 0 0)) = a.all fun r => decide (r.getD 0 0 = (a.getD 0 []).getD 0 0) := fun h1 => by
    rw [Bool.eq_iff_iff]
    simp only [List.all_eq_true, Bool.and_eq_true] at h1 ⊢
    exact ⟨fun h r hr => (h r hr).2, fun h r hr => ⟨h1 r hr, h r hr⟩⟩
  simp only [lcode, List.all_append]
  cases h1 : a.all isM
  · simp only [Bool.false_and, if_true]
  cases h2 : b.all isM
  · simp only [Bool.true_and, if_true, Bool.false_and, reduceCtorEq, if_false]
  have hs : same a = (decide (1 ≤ a.length ∧ a.length ≤ 6) && a.all fun r => decide (r.getD 0 0 = (a.getD 0 []).getD 0 0)) := by unfold same; rw [h3 h1]
  rw [hs]
  generalize (a.all fun r => decide (r.getD 0 0 = (a.getD 0 []).getD 0 0)) = x
  generalize (b.all fun r => decide (r.getD 0 0 = (a.getD 0 []).getD 0 0)) = y
  by_cases hc : (1 ≤ a.length ∧ a.length ≤ 6) <;> cases x <;> cases y <;> simp [hc]
theorem p157n (a : List (List Int)) (ha : a.length ≤ 1048576) (hma : ∀ r ∈ a, r.length = 6) :
    Pure Tryz.prog 157 [.list (aggs a), .nils] (.int .i64 (lcode a [])) := by
  rw [lcode_eq]
  refine e157 (by simp) fun _ _ => ?_
  simp only [k157, argEnv, take6, List.drop_zero, Int.cast_ofNat_Int, go_sem, ↓reduceIte, Nat.reduceEqDiff, Nat.reduceAdd, Nat.reduceMul, Nat.reduceLeDiff, Nat.reduceLT, Int.reduceLE, Int.reduceLT, reduceCtorEq]
  refine KL_ind k157_b0.eq_1 (fun x : Nat => [(0, .list (aggs a)), (1, .nils), (5, .int .i64 x)]) (fun _ => []) (fun x => x ≤ a.length ∧ (a.take x).all isM = true) (fun x => a.length - x) [0, 1, 5] 0 (by rfl) rfl ⟨Nat.zero_le _, by simp⟩ fun x ⟨hx, hall⟩ ih => ?_
  try simp only [take6, List.drop_zero, Int.cast_ofNat_Int, go_sem, ↓reduceIte, Nat.reduceEqDiff, Nat.reduceAdd, Nat.reduceMul, Nat.reduceLeDiff, Nat.reduceLT, Int.reduceLE, Int.reduceLT, reduceCtorEq]
  refine ⟨fun h3 => ⟨by omega, fun h4 => ?_⟩, fun h3 => ?_⟩
  · have h6 := hma _ (List.getElem_mem h4)
    rw [getD_eq h4]
    try simp only [h6, take6, List.drop_zero, Int.cast_ofNat_Int, go_sem, ↓reduceIte, Nat.reduceEqDiff, Nat.reduceAdd, Nat.reduceMul, Nat.reduceLeDiff, Nat.reduceLT, Int.reduceLE, Int.reduceLT, reduceCtorEq]
    refine (p89 _ h6).go ?_
    try simp only [take6, List.drop_zero, Int.cast_ofNat_Int, go_sem, ↓reduceIte, Nat.reduceEqDiff, Nat.reduceAdd, Nat.reduceMul, Nat.reduceLeDiff, Nat.reduceLT, Int.reduceLE, Int.reduceLT, reduceCtorEq]
    refine ⟨fun h5 => Kv.Fin.still ⟨by rw [if_pos (all_false h4 h5)], rfl⟩, fun h5 => ⟨by omega, ?_⟩⟩
    refine ih (x + 1) ⟨by omega, ?_⟩ (by omega) _ _ (by rfl) rfl
    rw [all_take_succ _ h4, hall, h5]; rfl
  obtain rfl : x = a.length := by omega
  rw [List.take_length] at hall
  rw [if_neg (by rw [hall]; simp)]
  clear ih
  refine KL_round ?_
  rw [k157_b1.eq_1]
  try simp only [Int.reduceNeg, Int.lt_irrefl, take6, List.drop_zero, Int.cast_ofNat_Int, go_sem, ↓reduceIte, Nat.reduceEqDiff, Nat.reduceAdd, Nat.reduceMul, Nat.reduceLeDiff, Nat.reduceLT, Int.reduceLE, Int.reduceLT, reduceCtorEq]
  refine (p194 a ha hma).go ?_
  cases hs : same a with
  | false =>
    try simp only [take6, List.drop_zero, Int.cast_ofNat_Int, go_sem, ↓reduceIte, Nat.reduceEqDiff, Nat.reduceAdd, Nat.reduceMul, Nat.reduceLeDiff, Nat.reduceLT, Int.reduceLE, Int.reduceLT, reduceCtorEq]
    exact Kv.Fin.still ⟨by simp, rfl⟩
  | true =>
    try simp only [take6, List.drop_zero, Int.cast_ofNat_Int, go_sem, ↓reduceIte, Nat.reduceEqDiff, Nat.reduceAdd, Nat.reduceMul, Nat.reduceLeDiff, Nat.reduceLT, Int.reduceLE, Int.reduceLT, reduceCtorEq]
    refine KL_round ?_
    rw [k157_b2.eq_1]
    try simp only [Int.lt_irrefl, take6, List.drop_zero, Int.cast_ofNat_Int, go_sem, ↓reduceIte, Nat.reduceEqDiff, Nat.reduceAdd, Nat.reduceMul, Nat.reduceLeDiff, Nat.reduceLT, Int.reduceLE, Int.reduceLT, reduceCtorEq]
    exact Kv.Fin.still ⟨by simp, rfl⟩
end Go.Proofs.YtpfapiiinkkcgaaGreat
end
section
/- Partitions: whether they are, whether they are invariant; both sides. -/
namespace Go.Proofs.YtpfapiiinkkcgaaGreat
open Go.Kv
set_option maxRecDepth 100000
end Go.Proofs.YtpfapiiinkkcgaaGreat
namespace Go.Proofs.YtpfapiiinkkcgaaGreat
open Go.Kv
set_option linter.unusedVariables false
set_option linter.unusedSimpArgs false
attribute [local irreducible] ACall PCall KL
/-- What a right list of maps is. -/
theorem lcode_maps {a : List (List Int)} (h6 : ∀ r ∈ a, r.length = 6) (h : lcode a [] = 0) : ∃ (fs : List (List Nat)) (n : Nat), a = fs.map mp ∧ (∀ f ∈ fs, Ok f n) ∧ 1 ≤ fs.length ∧ fs.length ≤ 6 ∧ (a.getD 0 []).getD 0 0 = n ∧ 1 ≤ n ∧ n ≤ 5 := by
  unfold lcode at h
  rw [List.append_nil] at h
  split at h
  · omega
  rename_i h1
  split at h
  · omega
  rename_i h2
  split at h
  · omega
  rename_i h3
  simp only [Bool.not_eq_false, List.all_eq_true, decide_eq_true_eq] at h1 h3
  have h2' : 1 ≤ a.length ∧ a.length ≤ 6 := by omega
  have h0 : 0 < a.length := by omega
  obtain ⟨f0, n, hf0, e0⟩ := isM_ok (h6 _ (List.getElem_mem h0)) (h1 _ (List.getElem_mem h0))
  have hn : (a.getD 0 []).getD 0 0 = n := by rw [getD_eq h0, e0, mp_get0, hf0.len]
  have key : ∀ r ∈ a, r = mp (um r) ∧ Ok (um r) n := fun r hr => by
    obtain ⟨f, n', hf, e⟩ := isM_ok (h6 r hr) (h1 r hr)
    have h4 := h3 r hr
    rw [hn, e, mp_get0, hf.len] at h4
    obtain rfl : n' = n := by omega
    rw [e, um_mp]
    exact ⟨rfl, hf⟩
  refine ⟨a.map um, n, ?_, ?_, by simpa using h2'.1, by simpa using h2'.2, hn, hf0.pos, hf0.le⟩
  · rw [List.map_map]
    conv => lhs; rw [← List.map_id a]
    exact List.map_congr_left fun r hr => by simpa using (key r hr).1
  · intro f hf
    obtain ⟨r, hr, rfl⟩ := List.mem_map.1 hf
    exact (key r hr).2
theorem map_getD {fs : List (List Nat)} {x : Nat} (h : x < fs.length) : (fs.map mp).getD x [] = mp fs[x] := by simp [List.getD_eq_getElem?_getD, h]
end Go.Proofs.YtpfapiiinkkcgaaGreat
end
section
/- Marking and holding of lists of maps. -/
namespace Go.Proofs.YtpfapiiinkkcgaaGreat
open Go.Kv
set_option maxRecDepth 100000
end Go.Proofs.YtpfapiiinkkcgaaGreat
namespace Go.Proofs.YtpfapiiinkkcgaaGreat
open Go.Kv
set_option linter.unusedVariables false
set_option linter.unusedSimpArgs false
attribute [local irreducible] ACall PCall KL
/-- Maps whose numbers are those from k on. -/
def seqA (k : Int) (n : Nat) : List (List Int) := (List.range n).map fun i => seqI (k + 6 * (i : Nat)) 6
@[simp] theorem seqA_length (k : Int) (n : Nat) : (seqA k n).length = n := by simp [seqA]
end Go.Proofs.YtpfapiiinkkcgaaGreat
end
