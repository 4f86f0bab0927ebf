/- The search: what it calls. -/
import Derived.Test.YtpepbomifjbgnaaCb
import Derived.Test.YtpepbomifjbgnaaMp
import Derived.Test.YtpepbomifjbgnaaSq
import Derived.Test.YtpepbomifjbgnaaTG
namespace Go.Proofs.Ytpepbomifjbgnaa
open Go.Kv
set_option maxRecDepth 100000
/- slices.Equal[[]int64,int64] -/
/- live [0, 1, 12, 13] -/
def k47_b0 : KC := (.seq (.ops [⟨(some 14), none, .bin .lss (.t 13) (.t 12)⟩])
  (.seq (.cond (.t 14) .skip (.exit 0))
  (.seq (.block 1 (.seq (.ops [⟨(some 15), none, .mv (.t 13)⟩, ⟨(some 5), none, .mv (.t 15)⟩])
  (.seq (.draw [⟨(some 16), none, .mv (.t 0)⟩, ⟨(some 17), none, .mv (.t 5)⟩, ⟨(some 18), none, .idxS 1 (.t 16) (.t 17)⟩, ⟨(some 19), none, .load false 1 (.t 18)⟩, ⟨(some 20), none, .mv (.t 1)⟩, ⟨(some 21), none, .mv (.t 5)⟩, ⟨(some 22), none, .idxS 1 (.t 20) (.t 21)⟩, ⟨(some 23), none, .load false 1 (.t 22)⟩, ⟨(some 24), none, .bin .neq (.t 19) (.t 23)⟩])
  (.cond (.t 24) (.seq (.ops [⟨(some 4), none, .mv (.c (.bool false))⟩])
  .ret) .skip))))
  (.ops [⟨(some 25), none, .bin .add (.t 13) (.c (.int .i64 1))⟩, ⟨(some 13), none, .mv (.t 25)⟩]))))
def k47 : KC := (.seq (.ops [⟨(some 4), none, .mv (.c (.bool false))⟩])
  (.seq (.seq (.ops [⟨(some 6), none, .mv (.t 0)⟩, ⟨(some 7), none, .len false (.t 6)⟩, ⟨(some 8), none, .mv (.t 1)⟩, ⟨(some 9), none, .len false (.t 8)⟩, ⟨(some 10), none, .bin .neq (.t 7) (.t 9)⟩])
  (.cond (.t 10) (.seq (.ops [⟨(some 4), none, .mv (.c (.bool false))⟩])
  .ret) .skip))
  (.seq (.seq (.ops [⟨(some 11), none, .mv (.t 0)⟩, ⟨(some 12), none, .len false (.t 11)⟩, ⟨(some 13), none, .mv (.c (.int .i64 0))⟩])
  (.block 0 (.loop k47_b0)))
  (.seq (.ops [⟨(some 4), none, .mv (.c (.bool true))⟩])
  .ret))))
theorem e47 {args : List PV} {σ : Heap} {K : PV → Heap → Prop} (hl : args.length ≤ 26) (h : Wf σ → (∀ a ∈ args, PV.upto σ.length a) → vc (mkCfg Try.prog mixed [] 26 σ.length) k47 (FinK σ.length [.t 4] K) (argEnv 0 args) σ) : ACall Try.prog 47 args σ K :=
  ACall_enter (C := mkCfg Try.prog mixed [] 26 σ.length) (c := Try.f47.body.getD .skip) Try.func47 (by kernel_rfl) (by kernel_rfl) (by kernel_rfl) rfl hl (by kernel_rfl) (by kernel_rfl) h
/- impl.search$1 -/
def k173 : KC := (.seq (.ops [⟨(some 2), none, .box true (.t 0)⟩, ⟨(some 3), none, .mv (.c (.bool false))⟩])
  (.seq (.ops [⟨(some 4), none, .fieldA 0 (.t 2)⟩, ⟨(some 5), none, .load false 1 (.t 4)⟩, ⟨(some 6), none, .load false 1 (.t 1)⟩, ⟨(some 7), none, .call (.c (.fn (.func 47) [] [])) [(.t 5), (.t 6)]⟩, ⟨(some 3), none, .mv (.t 7)⟩])
  .ret))
theorem e173 {args : List PV} {σ : Heap} {K : PV → Heap → Prop} (hl : args.length ≤ 8) (h : Wf σ → (∀ a ∈ args, PV.upto σ.length a) → vc (mkCfg Try.prog mixed [2] 8 σ.length) k173 (FinK σ.length [.t 3] K) (argEnv 0 args) σ) : ACall Try.prog 173 args σ K :=
  ACall_enter (C := mkCfg Try.prog mixed [2] 8 σ.length) (c := Try.f173.body.getD .skip) Try.func173 (by kernel_rfl) (by kernel_rfl) (by kernel_rfl) rfl hl (by kernel_rfl) (by kernel_rfl) h
/- slices.IndexFunc[[]impl.met,impl.met] -/
/- live [0, 1, 7, 8] -/
def k184_b0 : KC := (.seq (.ops [⟨(some 9), none, .bin .lss (.t 8) (.t 7)⟩])
  (.seq (.cond (.t 9) .skip (.exit 0))
  (.seq (.block 1 (.seq (.ops [⟨(some 10), none, .mv (.t 8)⟩, ⟨(some 5), none, .mv (.t 10)⟩])
  (.seq (.ops [⟨(some 11), none, .mv (.t 1)⟩, ⟨(some 12), none, .mv (.t 0)⟩, ⟨(some 13), none, .mv (.t 5)⟩, ⟨(some 14), none, .idxS 2 (.t 12) (.t 13)⟩, ⟨(some 15), none, .load true 2 (.t 14)⟩, ⟨(some 16), none, .call (.t 11) [(.t 15)]⟩])
  (.cond (.t 16) (.seq (.ops [⟨(some 17), none, .mv (.t 5)⟩, ⟨(some 4), none, .mv (.t 17)⟩])
  .ret) .skip))))
  (.ops [⟨(some 18), none, .bin .add (.t 8) (.c (.int .i64 1))⟩, ⟨(some 8), none, .mv (.t 18)⟩]))))
def k184 : KC := (.seq (.ops [⟨(some 4), none, .mv (.c (.int .i64 0))⟩])
  (.seq (.seq (.ops [⟨(some 6), none, .mv (.t 0)⟩, ⟨(some 7), none, .len false (.t 6)⟩, ⟨(some 8), none, .mv (.c (.int .i64 0))⟩])
  (.block 0 (.loop k184_b0)))
  (.seq (.ops [⟨(some 4), none, .mv (.c (.int .i64 (-1)))⟩])
  .ret)))
theorem e184 {args : List PV} {σ : Heap} {K : PV → Heap → Prop} (hl : args.length ≤ 19) (h : Wf σ → (∀ a ∈ args, PV.upto σ.length a) → vc (mkCfg Try.prog mixed [] 19 σ.length) k184 (FinK σ.length [.t 4] K) (argEnv 0 args) σ) : ACall Try.prog 184 args σ K :=
  ACall_enter (C := mkCfg Try.prog mixed [] 19 σ.length) (c := Try.f184.body.getD .skip) Try.func184 (by kernel_rfl) (by kernel_rfl) (by kernel_rfl) rfl hl (by kernel_rfl) (by kernel_rfl) h
/- slices.ContainsFunc[[]impl.met,impl.met] -/
def k172 : KC := (.seq (.ops [⟨(some 4), none, .mv (.c (.bool false))⟩])
  (.seq (.ops [⟨(some 5), none, .mv (.t 0)⟩, ⟨(some 6), none, .mv (.t 1)⟩, ⟨(some 7), none, .call (.c (.fn (.func 184) [] [])) [(.t 5), (.t 6)]⟩, ⟨(some 8), none, .bin .geq (.t 7) (.c (.int .i64 0))⟩, ⟨(some 4), none, .mv (.t 8)⟩])
  .ret))
theorem e172 {args : List PV} {σ : Heap} {K : PV → Heap → Prop} (hl : args.length ≤ 9) (h : Wf σ → (∀ a ∈ args, PV.upto σ.length a) → vc (mkCfg Try.prog mixed [] 9 σ.length) k172 (FinK σ.length [.t 4] K) (argEnv 0 args) σ) : ACall Try.prog 172 args σ K :=
  ACall_enter (C := mkCfg Try.prog mixed [] 9 σ.length) (c := Try.f172.body.getD .skip) Try.func172 (by kernel_rfl) (by kernel_rfl) (by kernel_rfl) rfl hl (by kernel_rfl) (by kernel_rfl) h
end Go.Proofs.Ytpepbomifjbgnaa
namespace Go.Proofs.Ytpepbomifjbgnaa
open Go.Kv
set_option linter.unusedVariables false
set_option linter.unusedSimpArgs false
attribute [local irreducible] ACall PCall KL
/-- What has been met: points, and a word. -/
abbrev Met := List Int × List Int
def mcell (m : Met) : PV := .agg [.list (ints m.1), .list (ints m.2)]
def mets (l : List Met) : List PV := l.map mcell
theorem subC2 (a b : PV) : subC [a, b] 0 2 = [a, b] := by unfold subC; first | rfl | (split <;> rfl) | simp
theorem mcell_sub (m : Met) : PV.agg (subC (mcell m).cs 0 2) = mcell m := by
  show PV.agg (subC [_, _] 0 2) = _
  rw [subC2]; rfl
@[simp] theorem mets_length (l : List Met) : (mets l).length = l.length := by simp [mets]
theorem mets_get {l : List Met} {i : Nat} (h : i < l.length) : (mets l)[i]? = some (mcell l[i]) := by simp [mets, h]
instance (m : Met) : Still (mcell m) := by unfold mcell; infer_instance
instance (l : List Met) : Still (.list (mets l)) := Still.list fun x hx => by
  obtain ⟨m, _, rfl⟩ := List.mem_map.1 hx
  refine ⟨inferInstance, fun c hc => ?_⟩
  simp only [mcell, PV.cs, List.mem_cons, List.mem_singleton, List.not_mem_nil, or_false] at hc
  rcases hc with rfl | rfl <;> exact upto_ints 0 _
theorem p47 (xs ys : List Int) (hl : ys.length ≤ 4294967296) (hl' : xs.length ≤ 4294967296) : Pure Try.prog 47 [.list (ints xs), .list (ints ys)] (.bool (decide (xs = ys))) := by
  refine e47 (by simp) fun _ _ => ?_
  simp only [k47, argEnv, take6, List.drop_zero, Int.cast_ofNat_Int, go_sem, ↓reduceIte, Nat.reduceEqDiff, Nat.reduceAdd, Nat.reduceMul, Nat.reduceLeDiff, Nat.reduceLT, Int.reduceLE, Int.reduceLT, reduceCtorEq]
  refine ⟨fun h => ?_, fun h => ?_⟩
  · exact Kv.Fin.still ⟨by rw [decide_eq_false (fun e => h (by rw [e]))], rfl⟩
  · have hxy : xs.length = ys.length := by omega
    refine KL_ind k47_b0.eq_1 (fun x : Nat => [(0, .list (ints xs)), (1, .list (ints ys)), (12, .int .i64 xs.length), (13, .int .i64 x)]) (fun _ => []) (fun x => x ≤ xs.length ∧ xs.take x = ys.take x) (fun x => xs.length - x) [0, 1, 12, 13] 0 (by rfl) rfl ⟨Nat.zero_le _, by simp⟩ fun x ⟨hx, he⟩ ih => ?_
    try simp only [take6, List.drop_zero, Int.cast_ofNat_Int, go_sem, ↓reduceIte, Nat.reduceEqDiff, Nat.reduceAdd, Nat.reduceMul, Nat.reduceLeDiff, Nat.reduceLT, Int.reduceLE, Int.reduceLT, reduceCtorEq]
    refine ⟨fun h1 => ?_, fun h1 => ?_⟩
    · have h2 : x < xs.length := by omega
      have h3 : x < ys.length := by omega
      refine ⟨by omega, fun _ => ⟨by omega, fun _ => ⟨fun h4 => ?_, fun h4 => ⟨by omega, ?_⟩⟩⟩⟩
      · rw [getD_eq h2, getD_eq h3] at h4
        exact Kv.Fin.still ⟨by rw [decide_eq_false]; rintro rfl; exact h4 rfl, rfl⟩
      · rw [getD_eq h2, getD_eq h3] at h4
        refine ih (x + 1) ⟨by omega, ?_⟩ (by omega) _ _ (by rfl) rfl
        rw [List.take_succ_eq_append_getElem h2, List.take_succ_eq_append_getElem h3, he, h4]
    · obtain rfl : x = xs.length := by omega
      rw [List.take_length, hxy, List.take_length] at he
      exact Kv.Fin.still ⟨by rw [decide_eq_true he], rfl⟩
theorem p173 (m : Met) (nx : List Int) (hl : nx.length ≤ 4294967296) (hl' : m.1.length ≤ 4294967296) : Pure Try.prog 173 [mcell m, .fptr [.list (ints nx)] 0] (.bool (decide (m.1 = nx))) := by
  unfold mcell
  refine e173 (by simp) fun _ _ => ?_
  simp only [k173, argEnv, take6, List.drop_zero, Int.cast_ofNat_Int, go_sem, ↓reduceIte, Nat.reduceEqDiff, Nat.reduceAdd, Nat.reduceMul, Nat.reduceLeDiff, Nat.reduceLT, Int.reduceLE, Int.reduceLT, reduceCtorEq]
  refine (p47 m.1 nx hl hl').go ?_
  try simp only [take6, List.drop_zero, Int.cast_ofNat_Int, go_sem, ↓reduceIte, Nat.reduceEqDiff, Nat.reduceAdd, Nat.reduceMul, Nat.reduceLeDiff, Nat.reduceLT, Int.reduceLE, Int.reduceLT, reduceCtorEq]
  exact Kv.Fin.still ⟨rfl, rfl⟩
theorem p184 (l : List Met) (hl : l.length ≤ 4294967296) (fid : FuncId) (caps : List PV) [hc : StillL caps] (p : Met → Bool) (hp : ∀ x ∈ l, Pure Try.prog fid (mcell x :: caps) (.bool (p x))) :
    Pure Try.prog 184 [.list (mets l), .fn (.func fid) [] caps] (.int .i64 (idx p l)) := by
  have hlen := mets_length l
  refine e184 (by simp) fun _ _ => ?_
  simp only [k184, argEnv, hlen, take6, List.drop_zero, Int.cast_ofNat_Int, go_sem, ↓reduceIte, Nat.reduceEqDiff, Nat.reduceAdd, Nat.reduceMul, Nat.reduceLeDiff, Nat.reduceLT, Int.reduceLE, Int.reduceLT, reduceCtorEq]
  refine KL_ind k184_b0.eq_1 (fun x : Nat => [(0, .list (mets l)), (1, .fn (.func fid) [] caps), (7, .int .i64 l.length), (8, .int .i64 x)]) (fun _ => []) (fun x => x ≤ l.length ∧ (l.take x).any p = false) (fun x => l.length - x) [0, 1, 7, 8] 0 rfl rfl ⟨Nat.zero_le _, by simp⟩ fun x ⟨hx, hall⟩ ih => ?_
  try simp only [hlen, take6, List.drop_zero, Int.cast_ofNat_Int, go_sem, ↓reduceIte, Nat.reduceEqDiff, Nat.reduceAdd, Nat.reduceMul, Nat.reduceLeDiff, Nat.reduceLT, Int.reduceLE, Int.reduceLT, reduceCtorEq]
  refine ⟨fun h1 => ?_, fun h1 => ?_⟩
  · have h2 : x < l.length := by omega
    have hg := mets_get h2
    have hpx := hp _ (List.getElem_mem h2)
    refine ⟨h1, fun y hy => ?_⟩
    rw [hg] at hy; cases hy
    refine ⟨rfl, Nat.le_refl _, ?_⟩
    rw [mcell_sub]
    refine hpx.go ?_
    try simp only [take6, List.drop_zero, Int.cast_ofNat_Int, go_sem, ↓reduceIte, Nat.reduceEqDiff, Nat.reduceAdd, Nat.reduceMul, Nat.reduceLeDiff, Nat.reduceLT, Int.reduceLE, Int.reduceLT, reduceCtorEq]
    refine ⟨fun h3 => ?_, fun h3 => ⟨by omega, ?_⟩⟩
    · exact Kv.Fin.now ⟨by rw [idx_some h2 hall h3], rfl⟩
    · refine ih (x + 1) ⟨by omega, ?_⟩ (by omega) _ _ rfl rfl
      rw [any_take_succ _ h2, hall, h3]; rfl
  · obtain rfl : x = l.length := by omega
    rw [List.take_length] at hall
    exact Kv.Fin.now ⟨by rw [idx_none hall], rfl⟩
theorem p172 (l : List Met) (hl : l.length ≤ 4294967296) (fid : FuncId) (caps : List PV) [hc : StillL caps] (p : Met → Bool) (hp : ∀ x ∈ l, Pure Try.prog fid (mcell x :: caps) (.bool (p x))) :
    Pure Try.prog 172 [.list (mets l), .fn (.func fid) [] caps] (.bool (l.any p)) := by
  refine e172 (by simp) fun _ _ => ?_
  simp only [k172, argEnv, take6, List.drop_zero, Int.cast_ofNat_Int, go_sem, ↓reduceIte, Nat.reduceEqDiff, Nat.reduceAdd, Nat.reduceMul, Nat.reduceLeDiff, Nat.reduceLT, Int.reduceLE, Int.reduceLT, reduceCtorEq]
  refine (p184 l hl fid caps p hp).go ?_
  try simp only [take6, List.drop_zero, Int.cast_ofNat_Int, go_sem, ↓reduceIte, Nat.reduceEqDiff, Nat.reduceAdd, Nat.reduceMul, Nat.reduceLeDiff, Nat.reduceLT, Int.reduceLE, Int.reduceLT, reduceCtorEq]
  exact Kv.Fin.still ⟨by rw [idx_nonneg], rfl⟩
end Go.Proofs.Ytpepbomifjbgnaa
