/- Several texts of this session as one. -/
import Derived.Test.YtpepbomifjbgnaaCb
import Derived.Test.YtpepbomifjbgnaaG3
import Derived.Test.YtpepbomifjbgnaaG1
section
/- All partitions of few points: both sides. -/
namespace Go.Proofs.Ytpepbomifjbgnaa
open Go.Kv
set_option maxRecDepth 100000
/- impl.partitions -/
/- live [4, 6, 10, 11, 13, 14, 15, 25, 26] -/
def k110_b0 : KC := (.seq (.ops [⟨(some 27), none, .bin .lss (.t 26) (.t 25)⟩])
  (.seq (.cond (.t 27) .skip (.exit 4))
  (.seq (.block 5 (.seq (.ops [⟨(some 28), none, .mv (.t 26)⟩, ⟨(some 8), none, .mv (.t 28)⟩])
  (.ops [⟨(some 29), none, .mv (.t 4)⟩, ⟨(some 30), none, .mv (.t 6)⟩, ⟨(some 31), none, .call (.c (.fn (.func 132) [] [])) [(.t 30)]⟩, ⟨(some 32), none, .mv (.t 8)⟩, ⟨(some 33), none, .bsl true 2 1 [(.t 32)]⟩, ⟨(some 34), none, .app (.t 31) (.t 33) 2 1⟩, ⟨(some 35), none, .bsl true 23 1 [(.t 34)]⟩, ⟨(some 36), none, .app (.t 29) (.t 35) 23 1⟩, ⟨(some 4), none, .mv (.t 36)⟩])))
  (.ops [⟨(some 37), none, .bin .add (.t 26) (.c (.int .i64 1))⟩, ⟨(some 26), none, .mv (.t 37)⟩]))))
/- live [4, 10, 11, 13, 14, 15] -/
def k110_b1 : KC := (.seq (.ops [⟨(some 16), none, .bin .lss (.t 15) (.t 14)⟩])
  (.seq (.cond (.t 16) .skip (.exit 2))
  (.seq (.block 3 (.seq (.ops [⟨(some 17), none, .idxS 1 (.t 13) (.t 15)⟩, ⟨(some 18), none, .load false 1 (.t 17)⟩, ⟨(some 6), none, .mv (.t 18)⟩])
  (.seq (.ops [⟨(some 7), none, .mv (.c (.int .i64 0))⟩])
  (.seq (.seq (.ops [⟨(some 19), none, .mv (.t 6)⟩, ⟨(some 20), none, .len false (.t 19)⟩, ⟨(some 21), none, .bin .gtr (.t 20) (.c (.int .i64 0))⟩])
  (.cond (.t 21) (.ops [⟨(some 22), none, .mv (.t 6)⟩, ⟨(some 23), none, .call (.c (.fn (.func 66) [] [])) [(.t 22)]⟩, ⟨(some 7), none, .mv (.t 23)⟩]) .skip))
  (.seq (.ops [⟨(some 24), none, .mv (.t 7)⟩, ⟨(some 25), none, .bin .add (.t 24) (.c (.int .i64 1))⟩, ⟨(some 26), none, .mv (.c (.int .i64 0))⟩])
  (.block 4 (.loop k110_b0)))))))
  (.ops [⟨(some 38), none, .bin .add (.t 15) (.c (.int .i64 1))⟩, ⟨(some 15), none, .mv (.t 38)⟩]))))
/- live [3, 10, 11] -/
def k110_b2 : KC := (.seq (.ops [⟨(some 12), none, .bin .lss (.t 11) (.t 10)⟩])
  (.seq (.cond (.t 12) .skip (.exit 0))
  (.seq (.block 1 (.seq (.ops [⟨(some 4), none, .mv (.c (.nils))⟩])
  (.seq (.seq (.ops [⟨(some 13), none, .mv (.t 3)⟩, ⟨(some 14), none, .len false (.t 13)⟩, ⟨(some 15), none, .mv (.c (.int .i64 0))⟩])
  (.block 2 (.loop k110_b1)))
  (.ops [⟨(some 39), none, .mv (.t 4)⟩, ⟨(some 3), none, .mv (.t 39)⟩]))))
  (.ops [⟨(some 40), none, .bin .add (.t 11) (.c (.int .i64 1))⟩, ⟨(some 11), none, .mv (.t 40)⟩]))))
def k110 : KC := (.seq (.ops [⟨(some 2), none, .mv (.c (.nils))⟩])
  (.seq (.ops [⟨(some 9), none, .bsl false 23 1 [(.c (.nils))]⟩, ⟨(some 3), none, .mv (.t 9)⟩])
  (.seq (.seq (.ops [⟨(some 10), none, .mv (.t 0)⟩, ⟨(some 11), none, .mv (.c (.int .i64 0))⟩])
  (.block 0 (.loop k110_b2)))
  (.seq (.ops [⟨(some 41), none, .mv (.t 3)⟩, ⟨(some 2), none, .mv (.t 41)⟩])
  .ret))))
theorem e110 {args : List PV} {σ : Heap} {K : PV → Heap → Prop} (hl : args.length ≤ 42) (h : Wf σ → (∀ a ∈ args, PV.upto σ.length a) → vc (mkCfg Try.prog mixed [33, 35] 42 σ.length) k110 (FinK σ.length [.t 2] K) (argEnv 0 args) σ) : ACall Try.prog 110 args σ K :=
  ACall_enter (C := mkCfg Try.prog mixed [33, 35] 42 σ.length) (c := Try.f110.body.getD .skip) Try.func110 (by kernel_rfl) (by kernel_rfl) (by kernel_rfl) rfl hl (by kernel_rfl) (by kernel_rfl) h
/- spec.l10Partitions -/
/- live [0, 1, 2, 7, 8] -/
def k107_b0 : KC := (.seq (.seq (.ops [⟨(some 16), none, .mv (.t 8)⟩, ⟨(some 17), none, .mv (.t 1)⟩, ⟨(some 18), none, .bin .leq (.t 16) (.t 17)⟩])
  (.cond (.t 18) .skip (.exit 0)))
  (.seq (.block 1 (.ops [⟨(some 21), none, .mv (.t 7)⟩, ⟨(some 22), none, .mv (.t 0)⟩, ⟨(some 23), none, .call (.c (.fn (.func 122) [] [])) [(.t 22)]⟩, ⟨(some 24), none, .mv (.t 8)⟩, ⟨(some 25), none, .bsl true 2 1 [(.t 24)]⟩, ⟨(some 26), none, .app (.t 23) (.t 25) 2 1⟩, ⟨(some 27), none, .mv (.t 1)⟩, ⟨(some 28), none, .mv (.t 8)⟩, ⟨(some 29), none, .bin .add (.t 28) (.c (.int .i64 1))⟩, ⟨(some 30), none, .mnmx true (.t 27) [(.t 29)]⟩, ⟨(some 31), none, .mv (.t 2)⟩, ⟨(some 32), none, .call (.c (.fn (.func 107) [] [])) [(.t 26), (.t 30), (.t 31)]⟩, ⟨(some 33), none, .app (.t 21) (.t 32) 23 1⟩, ⟨(some 7), none, .mv (.t 33)⟩]))
  (.ops [⟨(some 19), none, .mv (.t 8)⟩, ⟨(some 20), none, .bin .add (.t 19) (.c (.int .i64 1))⟩, ⟨(some 8), none, .mv (.t 20)⟩])))
def k107 : KC := (.seq (.ops [⟨(some 6), none, .mv (.c (.nils))⟩])
  (.seq (.seq (.ops [⟨(some 9), none, .mv (.t 0)⟩, ⟨(some 10), none, .len false (.t 9)⟩, ⟨(some 11), none, .mv (.t 2)⟩, ⟨(some 12), none, .bin .eql (.t 10) (.t 11)⟩])
  (.cond (.t 12) (.seq (.ops [⟨(some 13), none, .mv (.t 0)⟩, ⟨(some 14), none, .bsl false 23 1 [(.t 13)]⟩, ⟨(some 6), none, .mv (.t 14)⟩])
  .ret) .skip))
  (.seq (.ops [⟨(some 15), none, .bsl false 23 1 []⟩, ⟨(some 7), none, .mv (.t 15)⟩])
  (.seq (.seq (.ops [⟨(some 8), none, .mv (.c (.int .i64 0))⟩])
  (.block 0 (.loop k107_b0)))
  (.seq (.ops [⟨(some 34), none, .mv (.t 7)⟩, ⟨(some 6), none, .mv (.t 34)⟩])
  .ret)))))
theorem e107 {args : List PV} {σ : Heap} {K : PV → Heap → Prop} (hl : args.length ≤ 35) (h : Wf σ → (∀ a ∈ args, PV.upto σ.length a) → vc (mkCfg Try.prog mixed [25] 35 σ.length) k107 (FinK σ.length [.t 6] K) (argEnv 0 args) σ) : ACall Try.prog 107 args σ K :=
  ACall_enter (C := mkCfg Try.prog mixed [25] 35 σ.length) (c := Try.f107.body.getD .skip) Try.func107 (by kernel_rfl) (by kernel_rfl) (by kernel_rfl) rfl hl (by kernel_rfl) (by kernel_rfl) h
/- slices.Clone[[]int64,int64] -/
def k132 : KC := (.seq (.ops [⟨(some 2), none, .mv (.c (.nils))⟩])
  (.seq (.seq (.ops [⟨(some 3), none, .mv (.t 0)⟩, ⟨(some 4), none, .isn false (.t 3)⟩])
  (.cond (.t 4) (.seq (.ops [⟨(some 2), none, .mv (.c (.nils))⟩])
  .ret) .skip))
  (.seq (.ops [⟨(some 5), none, .bsl false 2 1 []⟩, ⟨(some 6), none, .mv (.t 0)⟩, ⟨(some 7), none, .app (.t 5) (.t 6) 2 1⟩, ⟨(some 2), none, .mv (.t 7)⟩])
  .ret)))
theorem e132 {args : List PV} {σ : Heap} {K : PV → Heap → Prop} (hl : args.length ≤ 8) (h : Wf σ → (∀ a ∈ args, PV.upto σ.length a) → vc (mkCfg Try.prog mixed [] 8 σ.length) k132 (FinK σ.length [.t 2] K) (argEnv 0 args) σ) : ACall Try.prog 132 args σ K :=
  ACall_enter (C := mkCfg Try.prog mixed [] 8 σ.length) (c := Try.f132.body.getD .skip) Try.func132 (by kernel_rfl) (by kernel_rfl) (by kernel_rfl) rfl hl (by kernel_rfl) (by kernel_rfl) h
end Go.Proofs.Ytpepbomifjbgnaa
namespace Go.Proofs.Ytpepbomifjbgnaa
open Go.Kv
set_option linter.unusedVariables false
set_option linter.unusedSimpArgs false
attribute [local irreducible] ACall PCall KL
def mst (P : List Int) : Nat := if P.length = 0 then 0 else (mxl P + 1).toNat
def ext (P : List Int) (k : Nat) : List (List Int) := (List.range k).map fun c : Nat => P ++ [(c : Int)]
def nxt (T : List (List Int)) (y : Nat) : List (List Int) := ((T.take y).map fun P => ext P (mst P + 1)).flatten
/-- All partitions of n points. -/
def prt : Nat → List (List Int)
  | 0 => [[]]
  | n + 1 => nxt (prt n) (prt n).length
theorem nxt_succ (T : List (List Int)) {y : Nat} (h : y < T.length) : nxt T (y + 1) = nxt T y ++ ext T[y] (mst T[y] + 1) := by
  unfold nxt; rw [List.take_succ_eq_append_getElem h]
  simp only [List.map_append, List.flatten_append, List.map_cons, List.map_nil, List.flatten_cons, List.flatten_nil, List.append_nil]
theorem ext_succ (P : List Int) (k : Nat) : ext P (k + 1) = ext P k ++ [P ++ [(k : Int)]] := by simp [ext, List.range_succ]
@[simp] theorem ext_length (P : List Int) (k : Nat) : (ext P k).length = k := by simp [ext]
def okP (n : Nat) (P : List Int) : Bool := decide (P.length = n) && P.all (fun k => decide (0 ≤ k ∧ k ≤ 4)) && decide (P.length = 0 ∨ 0 ≤ mxl P) && decide (mxl P ≤ 4)
set_option maxRecDepth 100000 in
theorem prt_fact : ((List.range 6).all fun n => decide ((prt n).length ≤ 52) && (prt n).all (okP n)) = true := by decide
theorem prt_len {n : Nat} (h : n ≤ 5) : (prt n).length ≤ 52 := by
  have := List.all_eq_true.1 prt_fact n (by simp; omega)
  simp only [Bool.and_eq_true, decide_eq_true_eq] at this
  exact this.1
theorem prt_ok {n : Nat} (h : n ≤ 5) {P : List Int} (hP : P ∈ prt n) : P.length = n ∧ (∀ k ∈ P, 0 ≤ k ∧ k ≤ 4) ∧ (P.length = 0 ∨ 0 ≤ mxl P) ∧ mxl P ≤ 4 := by
  have := List.all_eq_true.1 prt_fact n (by simp; omega)
  simp only [Bool.and_eq_true, decide_eq_true_eq] at this
  have := List.all_eq_true.1 this.2 P hP
  simp only [okP, Bool.and_eq_true, decide_eq_true_eq, List.all_eq_true] at this
  exact ⟨this.1.1.1, this.1.1.2, this.1.2, this.2⟩
theorem prt_pref {n y : Nat} (h : n < 5) (hy : y ≤ (prt n).length) : (nxt (prt n) y).length ≤ 52 := by
  have h1 := prt_len (n := n + 1) (by omega)
  have e : prt (n + 1) = nxt (prt n) y ++ (((prt n).drop y).map fun P => ext P (mst P + 1)).flatten := by
    show nxt (prt n) (prt n).length = _
    unfold nxt
    rw [List.take_length, ← List.flatten_append, ← List.map_append, List.take_append_drop]
  rw [e, List.length_append] at h1
  omega
theorem tabLen {e2 e1 : TypeId} {σ : Heap} {v : PV} {T : List (List Int)} (h : TabN e2 e1 σ v T) (K : PV → Prop) : aLen v σ K = K (.int .i64 T.length) := by
  cases h with
  | nil => rfl
  | tab id ver rs t h =>
    obtain ⟨junk, ho⟩ := h.out
    simp [aLen, ho]
theorem HKv (σ : Heap) (K : PV → Heap → Prop) (v : PV) : HK σ K v = K v σ := rfl
/-- A copy of a slice of numbers. -/
theorem p132P (l : List Int) (hl : l.length ≤ 4294967296) : ACall Try.prog 132 [.list (ints l)] [] (fun v s => (v = .ref 0 1 0 l.length ∧ s = [.arr 1 2 1 (ints l)]) ∨ (l = [] ∧ v = .nils ∧ s = [])) := by
  cases l with
  | nil =>
    refine e132 (by simp) fun _ _ => ?_
    simp only [k132, argEnv, take6, List.drop_zero, Int.cast_ofNat_Int, go_sem, ↓reduceIte, Nat.reduceEqDiff, Nat.reduceAdd, Nat.reduceMul, Nat.reduceLeDiff, Nat.reduceLT, Int.reduceLE, Int.reduceLT, reduceCtorEq]
    have e : ∀ K : Bool → Prop, aIsn (.list (ints [])) K = (K true ∧ K false) := fun _ => rfl
    rw [e]
    exact ⟨⟨fun _ => Kv.Fin.now (.inr ⟨rfl, rfl⟩), fun h => by cases h⟩, ⟨fun h => (by cases h), fun _ => Kv.Fin.now (.inl ⟨rfl, rfl⟩)⟩⟩
  | cons x l =>
    refine e132 (by simp) fun _ _ => ?_
    simp only [k132, argEnv, take6, List.drop_zero, Int.cast_ofNat_Int, go_sem, ↓reduceIte, Nat.reduceEqDiff, Nat.reduceAdd, Nat.reduceMul, Nat.reduceLeDiff, Nat.reduceLT, Int.reduceLE, Int.reduceLT, reduceCtorEq]
    have e : ∀ K : Bool → Prop, aIsn (.list (ints (x :: l))) K = K false := fun _ => rfl
    rw [e]
    try simp only [take6, List.drop_zero, Int.cast_ofNat_Int, go_sem, ↓reduceIte, Nat.reduceEqDiff, Nat.reduceAdd, Nat.reduceMul, Nat.reduceLeDiff, Nat.reduceLT, Int.reduceLE, Int.reduceLT, reduceCtorEq]
    refine ⟨by simp at hl; omega, Kv.Fin.now (.inl ⟨rfl, ?_⟩)⟩
    simp
theorem lp110 {fz : List Nat} {N n0 : Nat} {Q : Exit → Env → Heap → Prop} {env : Env} {σ0 : Heap} {P : List Int} {T0 : List (List Int)} {m : Nat} {v0 b10 b11 b13 b14 b15 : PV} (hPl : P.length ≤ 5) (hm : m ≤ 5) (hT0 : T0.length ≤ 100) (hT : TabN 23 2 σ0 v0 T0) (hf : Free σ0)
    (hE : keep [4, 6, 10, 11, 13, 14, 15, 25, 26] env = [(4, v0), (6, .list (ints P)), (10, b10), (11, b11), (13, b13), (14, b14), (15, b15), (25, .int .i64 (m + 1)), (26, .int .i64 0)])
    (hQ : ∀ a v' σ', TabN 23 2 σ' v' (T0 ++ Go.Proofs.Ytpepbomifjbgnaa.ext P (m + 1)) → Free σ' → Q (.exit 4) [(27, a), (4, v'), (6, .list (ints P)), (10, b10), (11, b11), (13, b13), (14, b14), (15, b15), (25, .int .i64 (m + 1)), (26, .int .i64 (m + 1 : Nat))] σ') :
    KL (mkCfg Try.prog mixed fz N n0) k110_b0 Q env σ0 := by
  refine KL_ind k110_b0.eq_1 (fun z : Nat × PV × Heap => [(4, z.2.1), (6, .list (ints P)), (10, b10), (11, b11), (13, b13), (14, b14), (15, b15), (25, .int .i64 (m + 1)), (26, .int .i64 z.1)]) (fun z => z.2.2) (fun z => z.1 ≤ m + 1 ∧ TabN 23 2 z.2.2 z.2.1 (T0 ++ Go.Proofs.Ytpepbomifjbgnaa.ext P z.1) ∧ Free z.2.2) (fun z => m + 1 - z.1) [4, 6, 10, 11, 13, 14, 15, 25, 26] (0, v0, σ0) hE rfl ⟨Nat.zero_le _, by simpa [Go.Proofs.Ytpepbomifjbgnaa.ext] using hT, hf⟩ fun ⟨k, v, σ⟩ ⟨hk, hTk, hfk⟩ ih => ?_
  simp only at hk hTk hfk
  have hes := ext_succ P k
  try simp only [HKv, OpK_eq, take6, List.drop_zero, Int.cast_ofNat_Int, go_sem, ↓reduceIte, Nat.reduceEqDiff, Nat.reduceAdd, Nat.reduceMul, Nat.reduceLeDiff, Nat.reduceLT, Int.reduceLE, Int.reduceLT, reduceCtorEq]
  refine ⟨fun h1 => ?_, fun h1 => ?_⟩
  · refine (p132P P (by omega)).go fun v' s hv => ?_
    have hnext : ∀ v2 σ2, TabN 23 2 σ2 v2 ((T0 ++ Go.Proofs.Ytpepbomifjbgnaa.ext P k) ++ [P ++ [(k : Int)]]) → Free σ2 → ∀ env' σ', keep [4, 6, 10, 11, 13, 14, 15, 25, 26] env' = [(4, v2), (6, .list (ints P)), (10, b10), (11, b11), (13, b13), (14, b14), (15, b15), (25, .int .i64 (m + 1)), (26, .int .i64 (k + 1 : Nat))] → σ' = σ2 → KL (mkCfg Try.prog mixed fz N n0) k110_b0 Q env' σ' := fun v2 σ2 q1 q2 env' σ' q3 q4 =>
      ih (k + 1, v2, σ2) ⟨by show k + 1 ≤ m + 1; omega, by rw [List.append_assoc, ← hes] at q1; exact q1, q2⟩ (by show m + 1 - (k + 1) < m + 1 - k; omega) env' σ' q3 q4
    have hself : ∀ a : AObj, (σ ++ [a])[σ.length]? = some a := fun a => by simp
    have hset : ∀ a b : AObj, (σ ++ [a]).set σ.length b = σ ++ [b] := fun a b => by simp [List.set_append_right]
    rcases hv with ⟨hv, hs⟩ | ⟨hP, hv, hs⟩
    · subst hv; subst hs
      try simp only [HKv, OpK_eq, hself, hset, ren_ref, take6, List.drop_zero, Int.cast_ofNat_Int, go_sem, ↓reduceIte, Nat.reduceEqDiff, Nat.reduceAdd, Nat.reduceMul, Nat.reduceLeDiff, Nat.reduceLT, Int.reduceLE, Int.reduceLT, reduceCtorEq]
      refine ⟨by omega, TabN.pushRow hTk hfk (P ++ [(k : Int)]) (by simp) (by simp; omega) fun v2 σ2 q1 q2 => ?_⟩
      try simp only [HKv, OpK_eq, take6, List.drop_zero, Int.cast_ofNat_Int, go_sem, ↓reduceIte, Nat.reduceEqDiff, Nat.reduceAdd, Nat.reduceMul, Nat.reduceLeDiff, Nat.reduceLT, Int.reduceLE, Int.reduceLT, reduceCtorEq]
      exact ⟨by omega, hnext v2 σ2 q1 q2 _ _ (by simp [keep]) rfl⟩
    · subst hv; subst hs
      subst hP
      try simp only [HKv, OpK_eq, hself, hset, List.append_nil, take6, List.drop_zero, Int.cast_ofNat_Int, go_sem, ↓reduceIte, Nat.reduceEqDiff, Nat.reduceAdd, Nat.reduceMul, Nat.reduceLeDiff, Nat.reduceLT, Int.reduceLE, Int.reduceLT, reduceCtorEq]
      refine TabN.pushRow (n := 1) (vr := 0) hTk hfk ([] ++ [(k : Int)]) (by simp) (by simp; omega) fun v2 σ2 q1 q2 => ?_
      try simp only [HKv, OpK_eq, take6, List.drop_zero, Int.cast_ofNat_Int, go_sem, ↓reduceIte, Nat.reduceEqDiff, Nat.reduceAdd, Nat.reduceMul, Nat.reduceLeDiff, Nat.reduceLT, Int.reduceLE, Int.reduceLT, reduceCtorEq]
      exact ⟨by omega, hnext v2 σ2 q1 q2 _ _ (by simp [keep]) rfl⟩
  · obtain rfl : k = m + 1 := by omega
    exact hQ _ _ _ hTk hfk
theorem p110 (n : Nat) (h5 : n ≤ 5) : ACall Try.prog 110 [.int .i64 n] [] (fun v s => TabN 23 2 s v (prt n) ∧ Free s) := by
  refine e110 (by simp) fun _ _ => ?_
  simp only [k110, argEnv, take6, List.drop_zero, Int.cast_ofNat_Int, go_sem, ↓reduceIte, Nat.reduceEqDiff, Nat.reduceAdd, Nat.reduceMul, Nat.reduceLeDiff, Nat.reduceLT, Int.reduceLE, Int.reduceLT, reduceCtorEq]
  refine KL_ind k110_b2.eq_1 (fun x : Nat × PV × Heap => [(3, x.2.1), (10, .int .i64 n), (11, .int .i64 x.1)]) (fun x => x.2.2) (fun x => x.1 ≤ n ∧ TabN 23 2 x.2.2 x.2.1 (prt x.1) ∧ Free x.2.2) (fun x => n - x.1) [3, 10, 11] (0, .ref 0 0 0 1, [.arr 0 23 1 [.nils]]) (by simp [keep]) rfl ⟨Nat.zero_le _, ?_, ?_⟩ fun ⟨x, v, σ⟩ ⟨hx, hT, hf⟩ ih => ?_
  · exact .tab 0 0 [⟨true, 0, 0, [], []⟩] [[]] ⟨⟨[], rfl⟩, rfl, fun i r l hr hl => (by
      have h1 := List.mem_of_getElem? hr
      have h2 := List.mem_of_getElem? hl
      simp at h1 h2; subst h1; subst h2
      exact ⟨fun _ => rfl, fun h => by cases h⟩), fun i j r q hr hq h1 => (by
      have h3 := List.mem_of_getElem? hr
      simp at h3; subst h3; cases h1), fun r hr h1 => (by simp at hr; subst hr; cases h1)⟩
  · intro o ho
    simp at ho; subst ho
    intro c hc
    simp [flat, PV.cs] at hc; subst hc
    exact Plain.nils.fr
  simp only at hx hT hf
  have hlen := tabLen hT
  try simp only [HKv, OpK_eq, hlen, take6, List.drop_zero, Int.cast_ofNat_Int, go_sem, ↓reduceIte, Nat.reduceEqDiff, Nat.reduceAdd, Nat.reduceMul, Nat.reduceLeDiff, Nat.reduceLT, Int.reduceLE, Int.reduceLT, reduceCtorEq]
  refine ⟨fun h1 => ?_, fun h1 => ?_⟩
  · have hxn : x < n := by omega
    have hpl := prt_len (n := x) (by omega)
    refine KL_freeze (env' := [(4, .nils), (10, .int .i64 n), (11, .int .i64 x), (13, .list (rows (prt x))), (14, .int .i64 (prt x).length), (15, .int .i64 0)]) [4, 10, 11, 13, 14, 15] rfl (by simp [keep]) (.cons Imm.still (.cons Imm.still (.cons Imm.still (.cons hT.imm (.cons Imm.still (.cons Imm.still .nil)))))) ?_
    refine KL_ind k110_b1.eq_1 (fun z : Nat × PV × Heap => [(4, z.2.1), (10, .int .i64 n), (11, .int .i64 x), (13, .list (rows (prt x))), (14, .int .i64 (prt x).length), (15, .int .i64 z.1)]) (fun z => z.2.2) (fun z => z.1 ≤ (prt x).length ∧ TabN 23 2 z.2.2 z.2.1 (nxt (prt x) z.1) ∧ Free z.2.2) (fun z => (prt x).length - z.1) [4, 10, 11, 13, 14, 15] (0, .nils, []) (by simp [keep]) rfl ⟨Nat.zero_le _, .nil, .nil⟩ fun ⟨y, v1, σ1⟩ ⟨hy, hT1, hf1⟩ ihy => ?_
    simp only at hy hT1 hf1
    try simp only [HKv, OpK_eq, take6, List.drop_zero, Int.cast_ofNat_Int, go_sem, ↓reduceIte, Nat.reduceEqDiff, Nat.reduceAdd, Nat.reduceMul, Nat.reduceLeDiff, Nat.reduceLT, Int.reduceLE, Int.reduceLT, reduceCtorEq]
    refine ⟨fun h2 => ?_, fun h2 => ?_⟩
    · have hyl : y < (prt x).length := by omega
      obtain ⟨hPl, hPk, hPm, hPm4⟩ := prt_ok (n := x) (by omega) (List.getElem_mem hyl)
      have eP : (prt x).getD y [] = (prt x)[y] := by simp [List.getD_eq_getElem?_getD, hyl]
      have hns := nxt_succ (prt x) hyl
      have hpr := prt_pref (n := x) (y := y + 1) (by omega) (by omega)
      rw [hns, List.length_append, ext_length] at hpr
      rw [eP]
      generalize hP : (prt x)[y] = P at *
      have hx4 : x ≤ 4 := by omega
      refine ⟨by omega, fun _ => ⟨fun h3 => ?_, fun h3 => ?_⟩⟩
      · refine (p66 P (by omega) (by omega) (fun k hk => (hPk k hk).1) (by omega)).go ?_
        have hmst : (mxl P + 1 : Int) = (mst P : Nat) := by unfold mst; rw [if_neg (by omega)]; omega
        have hm5 : mst P ≤ 5 := by omega
        try simp only [hmst, take6, List.drop_zero, Int.cast_ofNat_Int, go_sem, ↓reduceIte, Nat.reduceEqDiff, Nat.reduceAdd, Nat.reduceMul, Nat.reduceLeDiff, Nat.reduceLT, Int.reduceLE, Int.reduceLT, reduceCtorEq]
        refine ⟨by omega, ?_⟩
        refine lp110 (P := P) (m := mst P) (b10 := .int .i64 n) (b11 := .int .i64 x) (b13 := .list (rows (prt x))) (b14 := .int .i64 (prt x).length) (b15 := .int .i64 y) (by omega) hm5 (by omega) hT1 hf1 (by simp [keep]) fun a v' σ' hT' hf' => ?_
        rw [← hns] at hT'
        try simp only [take6, List.drop_zero, Int.cast_ofNat_Int, go_sem, ↓reduceIte, Nat.reduceEqDiff, Nat.reduceAdd, Nat.reduceMul, Nat.reduceLeDiff, Nat.reduceLT, Int.reduceLE, Int.reduceLT, reduceCtorEq]
        exact ⟨by omega, ihy (y + 1, v', σ') ⟨by show y + 1 ≤ (prt x).length; omega, hT', hf'⟩ (by show (prt x).length - (y + 1) < (prt x).length - y; omega) _ _ (by simp [keep]) rfl⟩
      · have hm0 : mst P = 0 := by unfold mst; rw [if_pos (by omega)]
        refine ⟨by omega, ?_⟩
        refine lp110 (P := P) (m := mst P) (b10 := .int .i64 n) (b11 := .int .i64 x) (b13 := .list (rows (prt x))) (b14 := .int .i64 (prt x).length) (b15 := .int .i64 y) (by omega) (by omega) (by omega) hT1 hf1 (by simp [keep, hm0]) fun a v' σ' hT' hf' => ?_
        rw [← hns] at hT'
        try simp only [take6, List.drop_zero, Int.cast_ofNat_Int, go_sem, ↓reduceIte, Nat.reduceEqDiff, Nat.reduceAdd, Nat.reduceMul, Nat.reduceLeDiff, Nat.reduceLT, Int.reduceLE, Int.reduceLT, reduceCtorEq]
        exact ⟨by omega, ihy (y + 1, v', σ') ⟨by show y + 1 ≤ (prt x).length; omega, hT', hf'⟩ (by show (prt x).length - (y + 1) < (prt x).length - y; omega) _ _ (by simp [keep]) rfl⟩
    · obtain rfl : y = (prt x).length := by omega
      exact ⟨by omega, ih (x + 1, v1, σ1) ⟨by show x + 1 ≤ n; omega, hT1, hf1⟩ (by show n - (x + 1) < n - x; omega) _ _ (by simp [keep]) rfl⟩
  · obtain rfl : x = n := by omega
    exact Kv.Fin.now ⟨hT, hf⟩
/-- The specification's recursion. -/
def spt : Nat → List Int → Nat → List (List Int)
  | 0, b, _ => [b]
  | d + 1, b, nx => ((List.range (nx + 1)).map fun c : Nat => spt d (b ++ [(c : Int)]) (max nx (c + 1))).flatten
def sptN (d : Nat) (b : List Int) (nx x : Nat) : List (List Int) := ((List.range x).map fun c : Nat => spt d (b ++ [(c : Int)]) (max nx (c + 1))).flatten
theorem sptN_succ (d : Nat) (b : List Int) (nx x : Nat) : sptN d b nx (x + 1) = sptN d b nx x ++ spt d (b ++ [(x : Int)]) (max nx (x + 1)) := by
  simp [sptN, List.range_succ]
theorem spt_le : ∀ (d : Nat) (b : List Int) (nx : Nat), nx + d ≤ 6 → (spt d b nx).length ≤ 7 ^ d ∧ ∀ x, x ≤ nx + 1 → 1 ≤ d → (sptN (d - 1) b nx x).length ≤ x * 7 ^ (d - 1)
  | 0, b, nx, _ => ⟨by simp [spt], fun x _ h => by omega⟩
  | d + 1, b, nx, h => by
    have h1 : ∀ x, x ≤ nx + 1 → (sptN d b nx x).length ≤ x * 7 ^ d := by
      intro x
      induction x with
      | zero => intro _; simp [sptN]
      | succ x ih =>
        intro hx
        rw [sptN_succ, List.length_append, Nat.succ_mul]
        have := (spt_le d (b ++ [(x : Int)]) (max nx (x + 1)) (by omega)).1
        have := ih (by omega)
        omega
    refine ⟨?_, fun x hx _ => by rw [Nat.add_sub_cancel]; exact h1 x hx⟩
    have h2 := h1 (nx + 1) (Nat.le_refl _)
    have h3 : (nx + 1) * 7 ^ d ≤ 7 * 7 ^ d := Nat.mul_le_mul_right _ (by omega)
    rw [Nat.pow_succ, Nat.mul_comm]
    exact Nat.le_trans h2 h3
set_option maxRecDepth 100000 in
theorem spt_prt : ((List.range 6).all fun n => decide (n = 0 ∨ spt (n - 1) [0] 1 = prt n)) = true := by decide
theorem spt_eq {n : Nat} (h1 : 1 ≤ n) (h5 : n ≤ 5) : spt (n - 1) [0] 1 = prt n := by
  have := List.all_eq_true.1 spt_prt n (by simp; omega)
  simp only [decide_eq_true_eq] at this
  rcases this with h | h
  · omega
  · exact h
theorem p107 (n : Nat) (h5 : n ≤ 5) : ∀ (d : Nat) (b : List Int) (nx : Nat), b.length + d = n → nx + d ≤ 6 → 1 ≤ b.length →
    Pure Try.prog 107 [.list (ints b), .int .i64 nx, .int .i64 n] (.list (rows (spt d b nx))) := by
  intro d
  induction d with
  | zero =>
    intro b nx hb hnx hb1
    refine e107 (by simp) fun _ _ => ?_
    simp only [k107, argEnv, take6, List.drop_zero, Int.cast_ofNat_Int, go_sem, ↓reduceIte, Nat.reduceEqDiff, Nat.reduceAdd, Nat.reduceMul, Nat.reduceLeDiff, Nat.reduceLT, Int.reduceLE, Int.reduceLT, reduceCtorEq]
    refine ⟨fun _ => ?_, fun h => absurd h (by omega)⟩
    exact Kv.Fin.freeze (Imm.refr (l := [b]) rfl rfl) ⟨rfl, rfl⟩
  | succ d ihd =>
    intro b nx hb hnx hb1
    have hp7 : 7 ^ d ≤ 16807 := by
      have : 7 ^ d ≤ 7 ^ 5 := Nat.pow_le_pow_right (by omega) (by omega)
      omega
    refine e107 (by simp) fun _ _ => ?_
    simp only [k107, argEnv, take6, List.drop_zero, Int.cast_ofNat_Int, go_sem, ↓reduceIte, Nat.reduceEqDiff, Nat.reduceAdd, Nat.reduceMul, Nat.reduceLeDiff, Nat.reduceLT, Int.reduceLE, Int.reduceLT, reduceCtorEq]
    refine ⟨fun h => absurd h (by omega), fun _ => ?_⟩
    refine KL_indD k107_b0.eq_1 (fun x : Nat × Nat => [(0, .list (ints b)), (1, .int .i64 nx), (2, .int .i64 n), (7, .ref 0 x.2 0 (sptN d b nx x.1).length), (8, .int .i64 x.1)]) (fun x => [.arr x.2 23 1 (rows (sptN d b nx x.1))]) (fun x => x.1 ≤ nx + 1) (fun x => nx + 1 - x.1) [0, 1, 2, 7, 8] (0, 0) (by simp [keep, sptN]) ⟨[], by simp [sptN, rows]⟩ (Nat.zero_le _) (fun x hx => ?_) fun ⟨x, ver⟩ hx ih => ?_
    · exact ⟨Nat.zero_le _, Env.undr_upto (by simp [Env.undr, PV.undr, undrX_ints]), .cons (by simp [AObj.undr, undrX_rows]) (.nil _)⟩
    simp only at hx
    have hsx := sptN_succ d b nx x
    try simp only [take6, List.drop_zero, Int.cast_ofNat_Int, go_sem, ↓reduceIte, Nat.reduceEqDiff, Nat.reduceAdd, Nat.reduceMul, Nat.reduceLeDiff, Nat.reduceLT, Int.reduceLE, Int.reduceLT, reduceCtorEq]
    refine ⟨fun h1 => ?_, fun h1 => ?_⟩
    · have hle := (spt_le (d + 1) b nx hnx).2 (x + 1) (by omega) (by omega)
      rw [Nat.add_sub_cancel] at hle
      have hm7 : (x + 1) * 7 ^ d ≤ 7 * 16807 := Nat.mul_le_mul (by omega) hp7
      rw [hsx, List.length_append] at hle
      refine (p122 b (by omega)).go fun v s ⟨hv, hs⟩ => ?_
      subst hv; subst hs
      try simp only [ren_ref, take6, List.drop_zero, Int.cast_ofNat_Int, go_sem, ↓reduceIte, Nat.reduceEqDiff, Nat.reduceAdd, Nat.reduceMul, Nat.reduceLeDiff, Nat.reduceLT, Int.reduceLE, Int.reduceLT, reduceCtorEq]
      have hmx : max (nx : Int) ((x : Int) + 1) = ((max nx (x + 1) : Nat) : Int) := by omega
      rw [hmx]
      refine ⟨by omega, by omega, (ihd (b ++ [(x : Int)]) (max nx (x + 1)) (by simp; omega) (by omega) (by simp)).give (id := 1) rfl (.cons (Imm.refn (solo_get rfl) (by simp)) (.cons Imm.still (.cons Imm.still (.nil _)))) ?_⟩
      try simp only [take6, List.drop_zero, Int.cast_ofNat_Int, go_sem, ↓reduceIte, Nat.reduceEqDiff, Nat.reduceAdd, Nat.reduceMul, Nat.reduceLeDiff, Nat.reduceLT, Int.reduceLE, Int.reduceLT, reduceCtorEq]
      refine ⟨⟨?_, ?_⟩, by omega, ih (x + 1, ver + 1) (by show x + 1 ≤ nx + 1; omega) (by show nx + 1 - (x + 1) < nx + 1 - x; omega) _ _ (by simp [keep, hsx]) ⟨[.dead], ?_⟩⟩
      · exact Nat.le_refl _
      · omega
      · show _ = [AObj.arr (ver + 1) 23 1 (rows (sptN d b nx (x + 1))), AObj.dead]
        rw [hsx]; simp [rows]
    · obtain rfl : x = nx + 1 := by omega
      exact Kv.Fin.freeze (Imm.refr rfl rfl) ⟨rfl, rfl⟩
end Go.Proofs.Ytpepbomifjbgnaa
end
section
/- The search: its walk. -/
namespace Go.Proofs.Ytpepbomifjbgnaa
open Go.Kv
set_option maxRecDepth 100000
/- impl.search -/
/- live [0, 2, 3, 8, 9, 10, 31, 32, 33] -/
def k139_b0 : KC := (.seq (.ops [⟨(some 34), none, .bin .lss (.t 33) (.t 32)⟩])
  (.seq (.cond (.t 34) .skip (.exit 2))
  (.seq (.block 3 (.seq (.ops [⟨(some 35), none, .mv (.t 33)⟩, ⟨(some 36), none, .idxS 6 (.t 31) (.t 33)⟩, ⟨(some 37), none, .load true 6 (.t 36)⟩, ⟨(some 12), none, .alloc [.int .i64 0, .int .i64 0, .int .i64 0, .int .i64 0, .int .i64 0, .int .i64 0]⟩, ⟨(some 11), none, .mv (.t 35)⟩, ⟨none, none, .store 6 (.t 12) (.t 37)⟩])
  (.seq (.ops [⟨(some 38), none, .mv (.t 2)⟩, ⟨(some 39), none, .load true 6 (.t 12)⟩, ⟨(some 40), none, .fieldA 0 (.t 10)⟩, ⟨(some 41), none, .load false 1 (.t 40)⟩, ⟨(some 42), none, .call (.t 38) [(.t 39), (.t 41)]⟩, ⟨(some 13), none, .alloc [.nils]⟩, ⟨none, none, .store 1 (.t 13) (.t 42)⟩])
  (.seq (.ops [⟨(some 43), none, .mv (.t 8)⟩, ⟨(some 44), none, .mkfn (.func 173) [] [(.t 13)]⟩, ⟨(some 45), none, .call (.c (.fn (.func 172) [] [])) [(.t 43), (.t 44)]⟩, ⟨(some 46), none, .not (.t 45)⟩])
  (.cond (.t 46) (.tree (.op ⟨(some 47), none, .mv (.t 8)⟩ (.op ⟨(some 52), none, .mv (.t 11)⟩ (.alt (.op ⟨(some 48), none, .load false 1 (.t 13)⟩ (.alt (.op ⟨(some 49), none, .fieldA 1 (.t 10)⟩ (.alt (.op ⟨(some 50), none, .load false 1 (.t 49)⟩ (.alt (.op ⟨(some 51), none, .call (.c (.fn (.func 132) [] [])) [(.t 50)]⟩ (.op ⟨(some 53), none, .bsl true 2 1 [(.t 52)]⟩ (.op ⟨(some 54), none, .app (.t 51) (.t 53) 2 1⟩ (.op ⟨(some 55), none, .build [.nils, .nils] [(0, 1, (.t 48)), (1, 1, (.t 54))]⟩ (.op ⟨(some 56), none, .bsl true 134 2 [(.t 55)]⟩ (.op ⟨(some 57), none, .app (.t 47) (.t 56) 134 2⟩ (.op ⟨(some 8), none, .mv (.t 57)⟩ .fin))))))) (.op ⟨(some 53), none, .bsl true 2 1 [(.t 52)]⟩ (.op ⟨(some 51), none, .call (.c (.fn (.func 132) [] [])) [(.t 50)]⟩ (.op ⟨(some 54), none, .app (.t 51) (.t 53) 2 1⟩ (.op ⟨(some 55), none, .build [.nils, .nils] [(0, 1, (.t 48)), (1, 1, (.t 54))]⟩ (.op ⟨(some 56), none, .bsl true 134 2 [(.t 55)]⟩ (.op ⟨(some 57), none, .app (.t 47) (.t 56) 134 2⟩ (.op ⟨(some 8), none, .mv (.t 57)⟩ .fin))))))))) (.op ⟨(some 53), none, .bsl true 2 1 [(.t 52)]⟩ (.op ⟨(some 50), none, .load false 1 (.t 49)⟩ (.op ⟨(some 51), none, .call (.c (.fn (.func 132) [] [])) [(.t 50)]⟩ (.op ⟨(some 54), none, .app (.t 51) (.t 53) 2 1⟩ (.op ⟨(some 55), none, .build [.nils, .nils] [(0, 1, (.t 48)), (1, 1, (.t 54))]⟩ (.op ⟨(some 56), none, .bsl true 134 2 [(.t 55)]⟩ (.op ⟨(some 57), none, .app (.t 47) (.t 56) 134 2⟩ (.op ⟨(some 8), none, .mv (.t 57)⟩ .fin)))))))))) (.op ⟨(some 53), none, .bsl true 2 1 [(.t 52)]⟩ (.op ⟨(some 49), none, .fieldA 1 (.t 10)⟩ (.op ⟨(some 50), none, .load false 1 (.t 49)⟩ (.op ⟨(some 51), none, .call (.c (.fn (.func 132) [] [])) [(.t 50)]⟩ (.op ⟨(some 54), none, .app (.t 51) (.t 53) 2 1⟩ (.op ⟨(some 55), none, .build [.nils, .nils] [(0, 1, (.t 48)), (1, 1, (.t 54))]⟩ (.op ⟨(some 56), none, .bsl true 134 2 [(.t 55)]⟩ (.op ⟨(some 57), none, .app (.t 47) (.t 56) 134 2⟩ (.op ⟨(some 8), none, .mv (.t 57)⟩ .fin))))))))))) (.alt (.op ⟨(some 49), none, .fieldA 1 (.t 10)⟩ (.alt (.op ⟨(some 48), none, .load false 1 (.t 13)⟩ (.alt (.op ⟨(some 50), none, .load false 1 (.t 49)⟩ (.alt (.op ⟨(some 51), none, .call (.c (.fn (.func 132) [] [])) [(.t 50)]⟩ (.op ⟨(some 53), none, .bsl true 2 1 [(.t 52)]⟩ (.op ⟨(some 54), none, .app (.t 51) (.t 53) 2 1⟩ (.op ⟨(some 55), none, .build [.nils, .nils] [(0, 1, (.t 48)), (1, 1, (.t 54))]⟩ (.op ⟨(some 56), none, .bsl true 134 2 [(.t 55)]⟩ (.op ⟨(some 57), none, .app (.t 47) (.t 56) 134 2⟩ (.op ⟨(some 8), none, .mv (.t 57)⟩ .fin))))))) (.op ⟨(some 53), none, .bsl true 2 1 [(.t 52)]⟩ (.op ⟨(some 51), none, .call (.c (.fn (.func 132) [] [])) [(.t 50)]⟩ (.op ⟨(some 54), none, .app (.t 51) (.t 53) 2 1⟩ (.op ⟨(some 55), none, .build [.nils, .nils] [(0, 1, (.t 48)), (1, 1, (.t 54))]⟩ (.op ⟨(some 56), none, .bsl true 134 2 [(.t 55)]⟩ (.op ⟨(some 57), none, .app (.t 47) (.t 56) 134 2⟩ (.op ⟨(some 8), none, .mv (.t 57)⟩ .fin))))))))) (.op ⟨(some 53), none, .bsl true 2 1 [(.t 52)]⟩ (.op ⟨(some 50), none, .load false 1 (.t 49)⟩ (.op ⟨(some 51), none, .call (.c (.fn (.func 132) [] [])) [(.t 50)]⟩ (.op ⟨(some 54), none, .app (.t 51) (.t 53) 2 1⟩ (.op ⟨(some 55), none, .build [.nils, .nils] [(0, 1, (.t 48)), (1, 1, (.t 54))]⟩ (.op ⟨(some 56), none, .bsl true 134 2 [(.t 55)]⟩ (.op ⟨(some 57), none, .app (.t 47) (.t 56) 134 2⟩ (.op ⟨(some 8), none, .mv (.t 57)⟩ .fin)))))))))) (.alt (.op ⟨(some 50), none, .load false 1 (.t 49)⟩ (.alt (.op ⟨(some 48), none, .load false 1 (.t 13)⟩ (.alt (.op ⟨(some 51), none, .call (.c (.fn (.func 132) [] [])) [(.t 50)]⟩ (.op ⟨(some 53), none, .bsl true 2 1 [(.t 52)]⟩ (.op ⟨(some 54), none, .app (.t 51) (.t 53) 2 1⟩ (.op ⟨(some 55), none, .build [.nils, .nils] [(0, 1, (.t 48)), (1, 1, (.t 54))]⟩ (.op ⟨(some 56), none, .bsl true 134 2 [(.t 55)]⟩ (.op ⟨(some 57), none, .app (.t 47) (.t 56) 134 2⟩ (.op ⟨(some 8), none, .mv (.t 57)⟩ .fin))))))) (.op ⟨(some 53), none, .bsl true 2 1 [(.t 52)]⟩ (.op ⟨(some 51), none, .call (.c (.fn (.func 132) [] [])) [(.t 50)]⟩ (.op ⟨(some 54), none, .app (.t 51) (.t 53) 2 1⟩ (.op ⟨(some 55), none, .build [.nils, .nils] [(0, 1, (.t 48)), (1, 1, (.t 54))]⟩ (.op ⟨(some 56), none, .bsl true 134 2 [(.t 55)]⟩ (.op ⟨(some 57), none, .app (.t 47) (.t 56) 134 2⟩ (.op ⟨(some 8), none, .mv (.t 57)⟩ .fin))))))))) (.alt (.op ⟨(some 51), none, .call (.c (.fn (.func 132) [] [])) [(.t 50)]⟩ (.alt (.op ⟨(some 48), none, .load false 1 (.t 13)⟩ (.op ⟨(some 53), none, .bsl true 2 1 [(.t 52)]⟩ (.op ⟨(some 54), none, .app (.t 51) (.t 53) 2 1⟩ (.op ⟨(some 55), none, .build [.nils, .nils] [(0, 1, (.t 48)), (1, 1, (.t 54))]⟩ (.op ⟨(some 56), none, .bsl true 134 2 [(.t 55)]⟩ (.op ⟨(some 57), none, .app (.t 47) (.t 56) 134 2⟩ (.op ⟨(some 8), none, .mv (.t 57)⟩ .fin))))))) (.op ⟨(some 53), none, .bsl true 2 1 [(.t 52)]⟩ (.alt (.op ⟨(some 48), none, .load false 1 (.t 13)⟩ (.op ⟨(some 54), none, .app (.t 51) (.t 53) 2 1⟩ (.op ⟨(some 55), none, .build [.nils, .nils] [(0, 1, (.t 48)), (1, 1, (.t 54))]⟩ (.op ⟨(some 56), none, .bsl true 134 2 [(.t 55)]⟩ (.op ⟨(some 57), none, .app (.t 47) (.t 56) 134 2⟩ (.op ⟨(some 8), none, .mv (.t 57)⟩ .fin)))))) (.op ⟨(some 54), none, .app (.t 51) (.t 53) 2 1⟩ (.op ⟨(some 48), none, .load false 1 (.t 13)⟩ (.op ⟨(some 55), none, .build [.nils, .nils] [(0, 1, (.t 48)), (1, 1, (.t 54))]⟩ (.op ⟨(some 56), none, .bsl true 134 2 [(.t 55)]⟩ (.op ⟨(some 57), none, .app (.t 47) (.t 56) 134 2⟩ (.op ⟨(some 8), none, .mv (.t 57)⟩ .fin)))))))))) (.op ⟨(some 53), none, .bsl true 2 1 [(.t 52)]⟩ (.alt (.op ⟨(some 48), none, .load false 1 (.t 13)⟩ (.op ⟨(some 51), none, .call (.c (.fn (.func 132) [] [])) [(.t 50)]⟩ (.op ⟨(some 54), none, .app (.t 51) (.t 53) 2 1⟩ (.op ⟨(some 55), none, .build [.nils, .nils] [(0, 1, (.t 48)), (1, 1, (.t 54))]⟩ (.op ⟨(some 56), none, .bsl true 134 2 [(.t 55)]⟩ (.op ⟨(some 57), none, .app (.t 47) (.t 56) 134 2⟩ (.op ⟨(some 8), none, .mv (.t 57)⟩ .fin))))))) (.op ⟨(some 51), none, .call (.c (.fn (.func 132) [] [])) [(.t 50)]⟩ (.alt (.op ⟨(some 48), none, .load false 1 (.t 13)⟩ (.op ⟨(some 54), none, .app (.t 51) (.t 53) 2 1⟩ (.op ⟨(some 55), none, .build [.nils, .nils] [(0, 1, (.t 48)), (1, 1, (.t 54))]⟩ (.op ⟨(some 56), none, .bsl true 134 2 [(.t 55)]⟩ (.op ⟨(some 57), none, .app (.t 47) (.t 56) 134 2⟩ (.op ⟨(some 8), none, .mv (.t 57)⟩ .fin)))))) (.op ⟨(some 54), none, .app (.t 51) (.t 53) 2 1⟩ (.op ⟨(some 48), none, .load false 1 (.t 13)⟩ (.op ⟨(some 55), none, .build [.nils, .nils] [(0, 1, (.t 48)), (1, 1, (.t 54))]⟩ (.op ⟨(some 56), none, .bsl true 134 2 [(.t 55)]⟩ (.op ⟨(some 57), none, .app (.t 47) (.t 56) 134 2⟩ (.op ⟨(some 8), none, .mv (.t 57)⟩ .fin))))))))))))) (.op ⟨(some 53), none, .bsl true 2 1 [(.t 52)]⟩ (.alt (.op ⟨(some 48), none, .load false 1 (.t 13)⟩ (.op ⟨(some 50), none, .load false 1 (.t 49)⟩ (.op ⟨(some 51), none, .call (.c (.fn (.func 132) [] [])) [(.t 50)]⟩ (.op ⟨(some 54), none, .app (.t 51) (.t 53) 2 1⟩ (.op ⟨(some 55), none, .build [.nils, .nils] [(0, 1, (.t 48)), (1, 1, (.t 54))]⟩ (.op ⟨(some 56), none, .bsl true 134 2 [(.t 55)]⟩ (.op ⟨(some 57), none, .app (.t 47) (.t 56) 134 2⟩ (.op ⟨(some 8), none, .mv (.t 57)⟩ .fin)))))))) (.op ⟨(some 50), none, .load false 1 (.t 49)⟩ (.alt (.op ⟨(some 48), none, .load false 1 (.t 13)⟩ (.op ⟨(some 51), none, .call (.c (.fn (.func 132) [] [])) [(.t 50)]⟩ (.op ⟨(some 54), none, .app (.t 51) (.t 53) 2 1⟩ (.op ⟨(some 55), none, .build [.nils, .nils] [(0, 1, (.t 48)), (1, 1, (.t 54))]⟩ (.op ⟨(some 56), none, .bsl true 134 2 [(.t 55)]⟩ (.op ⟨(some 57), none, .app (.t 47) (.t 56) 134 2⟩ (.op ⟨(some 8), none, .mv (.t 57)⟩ .fin))))))) (.op ⟨(some 51), none, .call (.c (.fn (.func 132) [] [])) [(.t 50)]⟩ (.alt (.op ⟨(some 48), none, .load false 1 (.t 13)⟩ (.op ⟨(some 54), none, .app (.t 51) (.t 53) 2 1⟩ (.op ⟨(some 55), none, .build [.nils, .nils] [(0, 1, (.t 48)), (1, 1, (.t 54))]⟩ (.op ⟨(some 56), none, .bsl true 134 2 [(.t 55)]⟩ (.op ⟨(some 57), none, .app (.t 47) (.t 56) 134 2⟩ (.op ⟨(some 8), none, .mv (.t 57)⟩ .fin)))))) (.op ⟨(some 54), none, .app (.t 51) (.t 53) 2 1⟩ (.op ⟨(some 48), none, .load false 1 (.t 13)⟩ (.op ⟨(some 55), none, .build [.nils, .nils] [(0, 1, (.t 48)), (1, 1, (.t 54))]⟩ (.op ⟨(some 56), none, .bsl true 134 2 [(.t 55)]⟩ (.op ⟨(some 57), none, .app (.t 47) (.t 56) 134 2⟩ (.op ⟨(some 8), none, .mv (.t 57)⟩ .fin))))))))))))))) (.op ⟨(some 53), none, .bsl true 2 1 [(.t 52)]⟩ (.alt (.op ⟨(some 48), none, .load false 1 (.t 13)⟩ (.op ⟨(some 49), none, .fieldA 1 (.t 10)⟩ (.op ⟨(some 50), none, .load false 1 (.t 49)⟩ (.op ⟨(some 51), none, .call (.c (.fn (.func 132) [] [])) [(.t 50)]⟩ (.op ⟨(some 54), none, .app (.t 51) (.t 53) 2 1⟩ (.op ⟨(some 55), none, .build [.nils, .nils] [(0, 1, (.t 48)), (1, 1, (.t 54))]⟩ (.op ⟨(some 56), none, .bsl true 134 2 [(.t 55)]⟩ (.op ⟨(some 57), none, .app (.t 47) (.t 56) 134 2⟩ (.op ⟨(some 8), none, .mv (.t 57)⟩ .fin))))))))) (.op ⟨(some 49), none, .fieldA 1 (.t 10)⟩ (.alt (.op ⟨(some 48), none, .load false 1 (.t 13)⟩ (.op ⟨(some 50), none, .load false 1 (.t 49)⟩ (.op ⟨(some 51), none, .call (.c (.fn (.func 132) [] [])) [(.t 50)]⟩ (.op ⟨(some 54), none, .app (.t 51) (.t 53) 2 1⟩ (.op ⟨(some 55), none, .build [.nils, .nils] [(0, 1, (.t 48)), (1, 1, (.t 54))]⟩ (.op ⟨(some 56), none, .bsl true 134 2 [(.t 55)]⟩ (.op ⟨(some 57), none, .app (.t 47) (.t 56) 134 2⟩ (.op ⟨(some 8), none, .mv (.t 57)⟩ .fin)))))))) (.op ⟨(some 50), none, .load false 1 (.t 49)⟩ (.alt (.op ⟨(some 48), none, .load false 1 (.t 13)⟩ (.op ⟨(some 51), none, .call (.c (.fn (.func 132) [] [])) [(.t 50)]⟩ (.op ⟨(some 54), none, .app (.t 51) (.t 53) 2 1⟩ (.op ⟨(some 55), none, .build [.nils, .nils] [(0, 1, (.t 48)), (1, 1, (.t 54))]⟩ (.op ⟨(some 56), none, .bsl true 134 2 [(.t 55)]⟩ (.op ⟨(some 57), none, .app (.t 47) (.t 56) 134 2⟩ (.op ⟨(some 8), none, .mv (.t 57)⟩ .fin))))))) (.op ⟨(some 51), none, .call (.c (.fn (.func 132) [] [])) [(.t 50)]⟩ (.alt (.op ⟨(some 48), none, .load false 1 (.t 13)⟩ (.op ⟨(some 54), none, .app (.t 51) (.t 53) 2 1⟩ (.op ⟨(some 55), none, .build [.nils, .nils] [(0, 1, (.t 48)), (1, 1, (.t 54))]⟩ (.op ⟨(some 56), none, .bsl true 134 2 [(.t 55)]⟩ (.op ⟨(some 57), none, .app (.t 47) (.t 56) 134 2⟩ (.op ⟨(some 8), none, .mv (.t 57)⟩ .fin)))))) (.op ⟨(some 54), none, .app (.t 51) (.t 53) 2 1⟩ (.op ⟨(some 48), none, .load false 1 (.t 13)⟩ (.op ⟨(some 55), none, .build [.nils, .nils] [(0, 1, (.t 48)), (1, 1, (.t 54))]⟩ (.op ⟨(some 56), none, .bsl true 134 2 [(.t 55)]⟩ (.op ⟨(some 57), none, .app (.t 47) (.t 56) 134 2⟩ (.op ⟨(some 8), none, .mv (.t 57)⟩ .fin))))))))))))))))))) .skip)))))
  (.ops [⟨(some 58), none, .bin .add (.t 33) (.c (.int .i64 1))⟩, ⟨(some 33), none, .mv (.t 58)⟩]))))
/- live [0, 2, 3, 8, 9] -/
def k139_b1 : KC := (.seq (.seq (.ops [⟨(some 17), none, .mv (.t 9)⟩, ⟨(some 18), none, .mv (.t 8)⟩, ⟨(some 19), none, .len false (.t 18)⟩, ⟨(some 20), none, .bin .lss (.t 17) (.t 19)⟩])
  (.cond (.t 20) .skip (.exit 0)))
  (.seq (.block 1 (.seq (.ops [⟨(some 23), none, .mv (.t 8)⟩, ⟨(some 24), none, .mv (.t 9)⟩, ⟨(some 25), none, .idxS 2 (.t 23) (.t 24)⟩, ⟨(some 26), none, .load true 2 (.t 25)⟩, ⟨(some 10), none, .alloc [.nils, .nils]⟩, ⟨none, none, .store 2 (.t 10) (.t 26)⟩])
  (.seq (.seq (.ops [⟨(some 27), none, .mv (.t 3)⟩, ⟨(some 28), none, .load true 2 (.t 10)⟩, ⟨(some 29), none, .call (.t 27) [(.t 28)]⟩, ⟨(some 30), none, .not (.t 29)⟩])
  (.cond (.t 30) .ret .skip))
  (.seq (.ops [⟨(some 31), none, .mv (.t 0)⟩, ⟨(some 32), none, .len false (.t 31)⟩, ⟨(some 33), none, .mv (.c (.int .i64 0))⟩])
  (.block 2 (.loop k139_b0))))))
  (.ops [⟨(some 21), none, .mv (.t 9)⟩, ⟨(some 22), none, .bin .add (.t 21) (.c (.int .i64 1))⟩, ⟨(some 9), none, .mv (.t 22)⟩])))
def k139 : KC := (.seq (.ops [⟨(some 14), none, .mv (.t 1)⟩, ⟨(some 15), none, .build [.nils, .nils] [(0, 1, (.t 14)), (1, 1, (.c (.nils)))]⟩, ⟨(some 16), none, .bsl false 134 2 [(.t 15)]⟩, ⟨(some 8), none, .mv (.t 16)⟩])
  (.seq (.ops [⟨(some 9), none, .mv (.c (.int .i64 0))⟩])
  (.block 0 (.loop k139_b1))))
theorem e139 {args : List PV} {σ : Heap} {K : PV → Heap → Prop} (hl : args.length ≤ 59) (h : Wf σ → (∀ a ∈ args, PV.upto σ.length a) → vc (mkCfg Try.prog mixed [53, 56] 59 σ.length) k139 (FinK σ.length [] K) (argEnv 0 args) σ) : ACall Try.prog 139 args σ K :=
  ACall_enter (C := mkCfg Try.prog mixed [53, 56] 59 σ.length) (c := Try.f139.body.getD .skip) Try.func139 (by kernel_rfl) (by kernel_rfl) (by kernel_rfl) rfl hl (by kernel_rfl) (by kernel_rfl) h
end Go.Proofs.Ytpepbomifjbgnaa
namespace Go.Proofs.Ytpepbomifjbgnaa
open Go.Kv
set_option linter.unusedVariables false
set_option linter.unusedSimpArgs false
attribute [local irreducible] ACall PCall KL
/-- A word's slice, in the heap; A: what is not to be it. -/
def Wd (σ : Heap) (A : Nat → Prop) (w : PV) (l : List Int) : Prop := (w = .nils ∧ l = []) ∨ ∃ id ver, w = .ref id ver 0 l.length ∧ σ[id]? = some (.arr ver 2 1 (ints l)) ∧ ¬ A id
theorem Wd.imm {σ : Heap} {A : Nat → Prop} {w : PV} {l : List Int} (h : Wd σ A w l) : Imm σ w (.list (ints l)) := by
  rcases h with ⟨rfl, rfl⟩ | ⟨id, ver, rfl, h, _⟩
  · exact .nils
  · exact .refi h
theorem Wd.keep {σ σ' : Heap} {A A' : Nat → Prop} {w : PV} {l : List Int} (h : Wd σ A w l) (hk : ∀ id, id < σ.length → ¬ A id → σ'[id]? = σ[id]? ∧ ¬ A' id) : Wd σ' A' w l := by
  rcases h with ⟨rfl, rfl⟩ | ⟨id, ver, rfl, h, ha⟩
  · exact .inl ⟨rfl, rfl⟩
  · have := hk id (List.getElem?_eq_some_iff.1 h).1 ha
    exact .inr ⟨id, ver, rfl, this.1.trans h, this.2⟩
theorem Wd.cs {σ : Heap} {A : Nat → Prop} {w : PV} {l : List Int} (h : Wd σ A w l) : w.cs = [w] ∧ w.ok = true := by
  rcases h with ⟨rfl, rfl⟩ | ⟨id, ver, rfl, h, ha⟩ <;> exact ⟨rfl, rfl⟩
def qcell (w : PV) (m : Met) : PV := .agg [.list (ints m.1), w]
/-- The queue, in the heap. -/
structure QG (σ : Heap) (A : Nat → Prop) (q ver : Nat) (ws : List PV) (L : List Met) : Prop where
  out : σ[q]? = some (.arr ver 134 2 (List.zipWith qcell ws L))
  len : ws.length = L.length
  row : ∀ (i : Nat) (w : PV) (m : Met), ws[i]? = some w → L[i]? = some m → Wd σ (fun id => A id ∨ id = q) w m.2
theorem QG.cell {σ : Heap} {A : Nat → Prop} {q ver : Nat} {ws : List PV} {L : List Met} (h : QG σ A q ver ws L) {i : Nat} (hi : i < L.length) : ∃ w, ws[i]? = some w ∧ (List.zipWith qcell ws L)[i]? = some (qcell w L[i]) ∧ Wd σ (fun id => A id ∨ id = q) w L[i].2 := by
  have hw : i < ws.length := by rw [h.len]; exact hi
  refine ⟨ws[i], by simp [hw], by simp [List.getElem?_zipWith, hw, hi], h.row i _ _ (by simp [hw]) (by simp [hi])⟩
theorem QG.imm {σ : Heap} {A : Nat → Prop} {q ver : Nat} {ws : List PV} {L : List Met} (h : QG σ A q ver ws L) : Imm σ (.ref q ver 0 L.length) (.list (mets L)) := by
  refine .ref q ver 0 L.length 134 2 _ (mets L) h.out (by simp [h.len]) (mets_length L) (fun i x d hx hd => ?_) (fun i x d j c c' hx hd hc hc' => ?_)
  all_goals
    rw [Nat.zero_add] at hx
    have hi : i < L.length := by have := (List.getElem?_eq_some_iff.1 hd).1; simpa using this
    obtain ⟨w, hw, hc0, hW⟩ := h.cell hi
    rw [hc0] at hx; cases hx
    rw [mets_get hi] at hd; cases hd
  · exact ⟨rfl, by simp [mcell, PV.cs, PV.ok]⟩
  · rcases j with _ | _ | j
    · simp only [qcell, mcell, PV.cs, List.getElem?_cons_zero, Option.some.injEq] at hc hc'
      subst hc; subst hc'
      exact .still
    · simp only [qcell, mcell, PV.cs, List.getElem?_cons_succ, List.getElem?_cons_zero, Option.some.injEq] at hc hc'
      subst hc; subst hc'
      exact hW.imm
    · simp [qcell, PV.cs] at hc
theorem QG.keep {σ σ' : Heap} {A A' : Nat → Prop} {q ver : Nat} {ws : List PV} {L : List Met} (h : QG σ A q ver ws L) (hq : ¬ A q) (hk : ∀ id, id < σ.length → ¬ A id → σ'[id]? = σ[id]? ∧ ¬ A' id) : QG σ' A' q ver ws L where
  out := (hk q (List.getElem?_eq_some_iff.1 h.out).1 hq).1.trans h.out
  len := h.len
  row := fun i w m hw hm => (h.row i w m hw hm).keep fun id hid hA => by
    simp only [not_or] at hA ⊢
    exact ⟨(hk id hid hA.1).1, (hk id hid hA.1).2, hA.2⟩
theorem QG.push {σ : Heap} {A : Nat → Prop} {q ver : Nat} {ws : List PV} {L : List Met} (h : QG σ A q ver ws L) {p l : List Int} {w : PV} (hw : Wd σ (fun id => A id ∨ id = q) w l) (hl : L.length ≤ 1000) {K : PV → Heap → Prop}
    (hK : QG (σ.set q (.arr (ver + 1) 134 2 (List.zipWith qcell ws L ++ [qcell w (p, l)]))) A q (ver + 1) (ws ++ [w]) (L ++ [(p, l)]) → K (.ref q (ver + 1) 0 (L.length + 1)) (σ.set q (.arr (ver + 1) 134 2 (List.zipWith qcell ws L ++ [qcell w (p, l)])))) :
    aApp 134 2 (.ref q ver 0 L.length) (.list [.agg [.list (ints p), w]]) σ K := by
  have hlt := (List.getElem?_eq_some_iff.1 h.out).1
  have hzl : (List.zipWith qcell ws L).length = L.length := by simp [h.len]
  have hok : okL 2 [PV.agg [.list (ints p), w]] = True := by
    rcases hw with ⟨rfl, rfl⟩ | ⟨id, ver, rfl, _, _⟩ <;> simp [okL, PV.cs, PV.ok]
  have hQ : QG (σ.set q (.arr (ver + 1) 134 2 (List.zipWith qcell ws L ++ [qcell w (p, l)]))) A q (ver + 1) (ws ++ [w]) (L ++ [(p, l)]) := by
    refine ⟨?_, by simp [h.len], fun i w' m hw' hm => ?_⟩
    · rw [List.getElem?_set_self hlt, List.zipWith_append h.len]
      rfl
    · have hset : ∀ id, id < σ.length → ¬ (A id ∨ id = q) → (σ.set q (.arr (ver + 1) 134 2 (List.zipWith qcell ws L ++ [qcell w (p, l)])))[id]? = σ[id]? ∧ ¬ (A id ∨ id = q) := fun id _ hA => by
        refine ⟨List.getElem?_set_ne ?_, hA⟩
        rintro rfl; exact hA (.inr rfl)
      rw [List.getElem?_append] at hw' hm
      split at hw'
      · rename_i hi
        rw [if_pos (by rw [← h.len]; exact hi)] at hm
        exact (h.row i w' m hw' hm).keep hset
      · rename_i hi
        rw [if_neg (by rw [← h.len]; exact hi)] at hm
        have e1 := List.mem_of_getElem? hw'
        have e2 := List.mem_of_getElem? hm
        simp only [List.mem_singleton] at e1 e2
        subst e1; subst e2
        exact hw.keep hset
  simp only [aApp_ref, h.out, AppR_arr, aNews_list, hok, true_and, AppM_def]
  rw [List.take_of_length_le (by omega)]
  exact ⟨⟨by omega, by simp; omega⟩, hK hQ⟩
theorem putC2 (a b c d : PV) : putC [a, b] 0 [c, d] = [c, d] := by unfold putC; first | rfl | (split <;> rfl) | simp
/-- What one met list gives: the queue, by the first k maps. -/
def advN (fs : List (List Nat)) (bf : List Nat → List Int → List Int) (Q : List Met) (m : Met) (k : Nat) : List Met :=
  (List.range k).foldl (fun Q k => if (Q.any fun x => decide (x.1 = bf (fs.getD k []) m.1)) = true then Q else Q ++ [(bf (fs.getD k []) m.1, m.2 ++ [(k : Int)])]) Q
theorem advN_succ (fs : List (List Nat)) (bf : List Nat → List Int → List Int) (Q : List Met) (m : Met) (k : Nat) : advN fs bf Q m (k + 1) = if ((advN fs bf Q m k).any fun x => decide (x.1 = bf (fs.getD k []) m.1)) = true then advN fs bf Q m k else advN fs bf Q m k ++ [(bf (fs.getD k []) m.1, m.2 ++ [(k : Int)])] := by
  unfold advN
  rw [List.range_succ, List.foldl_append]
  rfl
theorem advN_mono (fs : List (List Nat)) (bf : List Nat → List Int → List Int) (Q : List Met) (m : Met) {k k' : Nat} (h : k ≤ k') : (advN fs bf Q m k).length ≤ (advN fs bf Q m k').length := by
  induction k' with
  | zero => obtain rfl : k = 0 := by omega
            exact Nat.le_refl _
  | succ k' ih =>
    by_cases e : k = k' + 1
    · subst e; exact Nat.le_refl _
    · refine Nat.le_trans (ih (by omega)) ?_
      rw [advN_succ]
      split
      · exact Nat.le_refl _
      · simp
/-- The queue, and what each has made of it, behind i met lists. -/
def bq {α : Type} (fs : List (List Nat)) (bf : List Nat → List Int → List Int) (nx : α → List Int → α) (s0 : List Met × α) : Nat → List Met × α
  | 0 => s0
  | i + 1 => match (bq fs bf nx s0 i).1[i]? with
    | some m => (advN fs bf (bq fs bf nx s0 i).1 m fs.length, nx (bq fs bf nx s0 i).2 m.1)
    | none => bq fs bf nx s0 i
theorem bq_succ {α : Type} {fs : List (List Nat)} {bf : List Nat → List Int → List Int} {nx : α → List Int → α} {s0 : List Met × α} {i : Nat} (h : i < (bq fs bf nx s0 i).1.length) :
    bq fs bf nx s0 (i + 1) = (advN fs bf (bq fs bf nx s0 i).1 (bq fs bf nx s0 i).1[i] fs.length, nx (bq fs bf nx s0 i).2 (bq fs bf nx s0 i).1[i].1) := by
  have : (bq fs bf nx s0 i).1[i]? = some (bq fs bf nx s0 i).1[i] := List.getElem?_eq_getElem h
  rw [bq, this]
set_option maxHeartbeats 4000000 in
theorem p139 {α : Type} (fs : List (List Nat)) (n : Nat) (hf : ∀ f ∈ fs, Ok f n) (hfl : fs.length ≤ 1000) (bid eid : FuncId) (caps : List PV) (bf : List Nat → List Int → List Int) (okp : List Int → Prop)
    (hokl : ∀ p, okp p → p.length ≤ 1000) (hokb : ∀ f ∈ fs, ∀ p, okp p → okp (bf f p))
    (hby : ∀ f ∈ fs, ∀ p, okp p → Pure Try.prog bid [.agg (ints (mp f)), .list (ints p)] (.list (ints (bf f p))))
    (I : α → Heap → Prop) (U : α → Nat → Prop) (nx : α → List Int → α) (go : α → List Int → Bool) (D : α → List Int → List Int → Heap → Prop)
    (hIlt : ∀ a σ id, I a σ → U a id → id < σ.length) (hIk : ∀ a σ σ', I a σ → (∀ id, U a id → σ'[id]? = σ[id]?) → σ.length ≤ σ'.length → I a σ')
    (heach : ∀ a σ p w l, okp p → I a σ → Wd σ (U a) w l → ∀ K : PV → Heap → Prop,
      (go a p = true → ∀ σ', I (nx a p) σ' → σ.length ≤ σ'.length → (∀ id, id < σ.length → ¬ U a id → σ'[id]? = σ[id]? ∧ ¬ U (nx a p) id) → K (.bool true) σ') →
      (go a p = false → ∀ σ', D a p l σ' → K (.bool false) σ') → ACall Try.prog eid (.agg [.list (ints p), w] :: caps) σ K)
    (a0 : α) (from0 : List Int) (hok0 : okp from0) (N : Nat) (hN : N ≤ 1000) (hB : ∀ i, (bq fs bf nx ([(from0, [])], a0) i).1.length ≤ N)
    (σ0 : Heap) (hI0 : I a0 σ0) (K : PV → Heap → Prop)
    (hK1 : ∀ i (h : i < (bq fs bf nx ([(from0, [])], a0) i).1.length), go (bq fs bf nx ([(from0, [])], a0) i).2 (bq fs bf nx ([(from0, [])], a0) i).1[i].1 = false → (∀ j (h : j < (bq fs bf nx ([(from0, [])], a0) j).1.length), j < i → go (bq fs bf nx ([(from0, [])], a0) j).2 (bq fs bf nx ([(from0, [])], a0) j).1[j].1 = true) →
      ∀ σ', D (bq fs bf nx ([(from0, [])], a0) i).2 (bq fs bf nx ([(from0, [])], a0) i).1[i].1 (bq fs bf nx ([(from0, [])], a0) i).1[i].2 σ' → K (.tup []) σ')
    (hK2 : ∀ i, i = (bq fs bf nx ([(from0, [])], a0) i).1.length → (∀ j (h : j < (bq fs bf nx ([(from0, [])], a0) j).1.length), j < i → go (bq fs bf nx ([(from0, [])], a0) j).2 (bq fs bf nx ([(from0, [])], a0) j).1[j].1 = true) → ∀ σ', I (bq fs bf nx ([(from0, [])], a0) i).2 σ' → K (.tup []) σ') :
    ACall Try.prog 139 [.list (aggs (fs.map mp)), .list (ints from0), .fn (.func bid) [] [], .fn (.func eid) [] caps] σ0 K := by
  generalize hs : bq fs bf nx ([(from0, [])], a0) = S at *
  have hS0 : S 0 = ([(from0, [])], a0) := by rw [← hs]; rfl
  have hSs : ∀ i (h : i < (S i).1.length), S (i + 1) = (advN fs bf (S i).1 (S i).1[i] fs.length, nx (S i).2 (S i).1[i].1) := by
    rw [← hs]; exact fun i h => bq_succ h
  refine e139 (by simp) fun _ _ => ?_
  simp only [k139, argEnv, take6, List.drop_zero, Int.cast_ofNat_Int, go_sem, ↓reduceIte, Nat.reduceEqDiff, Nat.reduceAdd, Nat.reduceMul, Nat.reduceLeDiff, Nat.reduceLT, Int.reduceLE, Int.reduceLT, reduceCtorEq]
  try simp only [take6, List.drop_zero, Int.cast_ofNat_Int, go_sem, ↓reduceIte, Nat.reduceEqDiff, Nat.reduceAdd, Nat.reduceMul, Nat.reduceLeDiff, Nat.reduceLT, Int.reduceLE, Int.reduceLT, reduceCtorEq]
  generalize hq : σ0.length = q at *
  refine KL_ind k139_b1.eq_1 (fun x : Nat × Nat × List PV × Heap => [(0, .list (aggs (fs.map mp))), (2, .fn (.func bid) [] []), (3, .fn (.func eid) [] caps), (8, .ref q x.2.1 0 (S x.1).1.length), (9, .int .i64 x.1)]) (fun x => x.2.2.2)
    (fun x => x.1 ≤ (S x.1).1.length ∧ (∀ j (h : j < (S j).1.length), j < x.1 → go (S j).2 (S j).1[j].1 = true) ∧ I (S x.1).2 x.2.2.2 ∧ ¬ U (S x.1).2 q ∧ QG x.2.2.2 (U (S x.1).2) q x.2.1 x.2.2.1 (S x.1).1 ∧ (∀ m ∈ (S x.1).1, okp m.1 ∧ m.2.length + 1 ≤ (S x.1).1.length)) (fun x => N + 1 - x.1) [0, 2, 3, 8, 9]
    (0, 0, [.nils], σ0 ++ [.arr 0 134 2 [.agg [.list (ints from0), .nils]]]) ?_ rfl ?_ fun ⟨i, ver, ws, σ⟩ ⟨hi, hgo, hI, hUq, hG, hok⟩ ih => ?_
  · simp [keep, hS0]
  · have hlen0 : q < (σ0 ++ [AObj.arr 0 134 2 [.agg [.list (ints from0), .nils]]]).length := by simp [← hq]
    have hU0 : ¬ U (S 0).2 q := fun h => by
      rw [hS0] at h
      have := hIlt _ _ _ hI0 h
      omega
    refine ⟨Nat.zero_le _, fun j _ h => by omega, ?_, hU0, ?_, ?_⟩
    · show I (S 0).2 _
      rw [hS0]
      refine hIk a0 σ0 _ hI0 (fun id hid => ?_) (by simp)
      rw [List.getElem?_append_left (hIlt _ _ _ hI0 hid)]
    · show QG _ _ q 0 [.nils] (S 0).1
      rw [hS0]
      refine ⟨by simp [← hq, qcell], rfl, fun i w m hw hm => .inl ⟨?_, ?_⟩⟩
      · have := List.mem_of_getElem? hw; simpa using this
      · have := List.mem_of_getElem? hm
        simp only [List.mem_singleton] at this; rw [this]
    · intro m hm
      have hm : m ∈ (S 0).1 := hm
      show okp m.1 ∧ m.2.length + 1 ≤ (S 0).1.length
      rw [hS0] at hm ⊢
      simp only [List.mem_singleton] at hm
      subst hm
      exact ⟨hok0, by simp⟩
  · simp only at hi hgo hI hUq hG hok
    have hBi := hB i
    have hout := hG.out
    have hqlt := (List.getElem?_eq_some_iff.1 hout).1
    have hzl : (List.zipWith qcell ws (S i).1).length = (S i).1.length := by simp [hG.len]
    try simp only [OpK_eq, hout, hzl, take6, List.drop_zero, Int.cast_ofNat_Int, go_sem, ↓reduceIte, Nat.reduceEqDiff, Nat.reduceAdd, Nat.reduceMul, Nat.reduceLeDiff, Nat.reduceLT, Int.reduceLE, Int.reduceLT, reduceCtorEq]
    refine ⟨fun h1 => ?_, fun h1 => ?_⟩
    · have hil : i < (S i).1.length := by omega
      obtain ⟨w, hw, hcell, hW⟩ := hG.cell hil
      have hSi := hSs i hil
      have hmem := hok _ (List.getElem_mem hil)
      generalize hm : (S i).1[i] = m at *
      have hsub : subC (qcell w m).cs 0 2 = [.list (ints m.1), w] := subC2 _ _
      have hput : putC [.nils, .nils] 0 [.list (ints m.1), w] = [PV.list (ints m.1), w] := putC2 _ _ _ _
      have hwok : [PV.list (ints m.1), w].all PV.ok = true := by rcases hW with ⟨rfl, _⟩ | ⟨_, _, rfl, _⟩ <;> simp [PV.ok]
      refine ⟨⟨h1, Nat.le_refl _⟩, hil, fun x hx => ?_⟩
      rw [hcell] at hx; cases hx
      rw [hsub, hput, subC2]
      refine ⟨Nat.le_refl _, ⟨rfl, hwok⟩, Nat.le_refl _, ?_⟩
      have hlt1 : ∀ id, id < σ.length → (σ ++ [AObj.box [.list (ints m.1), w]])[id]? = σ[id]? := fun id h => List.getElem?_append_left h
      have hI1 : I (S i).2 (σ ++ [AObj.box [.list (ints m.1), w]]) := hIk _ _ _ hI (fun id hid => hlt1 id (hIlt _ _ _ hI hid)) (by simp)
      have hW1 : Wd (σ ++ [AObj.box [.list (ints m.1), w]]) (U (S i).2) w m.2 := hW.keep fun id hid hA => ⟨hlt1 id hid, fun hu => hA (.inl hu)⟩
      refine heach _ _ m.1 w m.2 hmem.1 hI1 hW1 _ (fun hgt σ' hI' hle hkeep => ?_) (fun hgf σ' hD => ?_)
      · have hb10 : σ'[σ.length]? = some (.box [.list (ints m.1), w]) := by
          rw [(hkeep σ.length (by simp) (fun hu => by have := hIlt _ _ _ hI hu; omega)).1]
          simp
        have hUb : ¬ U (nx (S i).2 m.1) σ.length := (hkeep σ.length (by simp) (fun hu => by have := hIlt _ _ _ hI hu; omega)).2
        have hkeep2 : ∀ id, id < σ.length → ¬ U (S i).2 id → σ'[id]? = σ[id]? ∧ ¬ U (nx (S i).2 m.1) id := fun id hid hu => by
          obtain ⟨k1, k2⟩ := hkeep id (by simp; omega) hu
          exact ⟨k1.trans (hlt1 id hid), k2⟩
        have hG' := hG.keep hUq hkeep2
        have hUq' := (hkeep2 q hqlt hUq).2
        have hW' : Wd σ' (fun id => U (nx (S i).2 m.1) id ∨ id = q) w m.2 := hW.keep fun id hid hA => by
          simp only [not_or] at hA ⊢
          exact ⟨(hkeep2 id hid hA.1).1, (hkeep2 id hid hA.1).2, hA.2⟩
        have hgo' : ∀ j (h : j < (S j).1.length), j < i + 1 → go (S j).2 (S j).1[j].1 = true := fun j h hj => by
          by_cases e : j = i
          · subst e; rw [hm]; exact hgt
          · exact hgo j h (by omega)
        have hbq : σ.length ≠ q := by omega
        generalize hb : σ.length = b at *
        generalize ha' : nx (S i).2 m.1 = a' at *
        clear hkeep hkeep2 hI1 hW1 hlt1 hG hI hW hcell hw hout hzl
        clear hb hqlt
        try simp only [OpK_eq, List.length_map, take6, List.drop_zero, Int.cast_ofNat_Int, go_sem, ↓reduceIte, Nat.reduceEqDiff, Nat.reduceAdd, Nat.reduceMul, Nat.reduceLeDiff, Nat.reduceLT, Int.reduceLE, Int.reduceLT, reduceCtorEq]
        have hadvB : ∀ k, k ≤ fs.length → (advN fs bf (S i).1 m k).length ≤ N := fun k hk => by
          have h1 := advN_mono fs bf (S i).1 m hk
          have h2 := hB (i + 1)
          rw [hSi] at h2
          exact Nat.le_trans h1 h2
        refine KL_ind k139_b0.eq_1 (fun x : Nat × Nat × List PV × Heap => [(0, .list (aggs (fs.map mp))), (2, .fn (.func bid) [] []), (3, .fn (.func eid) [] caps), (8, .ref q x.2.1 0 (advN fs bf (S i).1 m x.1).length), (9, .int .i64 i), (10, .ptr b 0), (31, .list (aggs (fs.map mp))), (32, .int .i64 fs.length), (33, .int .i64 x.1)]) (fun x => x.2.2.2)
          (fun x => x.1 ≤ fs.length ∧ I a' x.2.2.2 ∧ QG x.2.2.2 (U a') q x.2.1 x.2.2.1 (advN fs bf (S i).1 m x.1) ∧ x.2.2.2[b]? = some (.box [.list (ints m.1), w]) ∧ Wd x.2.2.2 (fun id => U a' id ∨ id = q) w m.2 ∧ (∀ y ∈ advN fs bf (S i).1 m x.1, okp y.1 ∧ y.2.length + 1 ≤ (advN fs bf (S i).1 m x.1).length)) (fun x => fs.length - x.1) [0, 2, 3, 8, 9, 10, 31, 32, 33]
          (0, ver, ws, σ') (by rfl) rfl ⟨Nat.zero_le _, hI', hG', hb10, hW', hok⟩ fun ⟨k, ver2, ws2, τ⟩ ⟨hk, hI2, hG2, hb2, hW2, hok2⟩ ihk => ?_
        simp only at hk hI2 hG2 hb2 hW2 hok2
        clear hI' hG' hb10 hW' hok hle
        have hsucc := advN_succ fs bf (S i).1 m k
        have hlenB := hadvB k hk
        have hmlen := hmem.2
        generalize hL : advN fs bf (S i).1 m k = L at *
        have hout := hG2.out
        have hblt := (List.getElem?_eq_some_iff.1 hb2).1
        have hqlt := (List.getElem?_eq_some_iff.1 hout).1
        try simp only [OpK_eq, List.length_map, take6, List.drop_zero, Int.cast_ofNat_Int, go_sem, ↓reduceIte, Nat.reduceEqDiff, Nat.reduceAdd, Nat.reduceMul, Nat.reduceLeDiff, Nat.reduceLT, Int.reduceLE, Int.reduceLT, reduceCtorEq]
        refine ⟨fun h3 => ?_, fun h3 => ?_⟩
        · have hkl : k < fs.length := by omega
          have hfk := hf _ (List.getElem_mem hkl)
          have h6 := hfk.mp_len
          have hgk : (fs.map mp).getD k [] = mp fs[k] := by simp [List.getD_eq_getElem?_getD, hkl]
          rw [hgk]
          try simp only [OpK_eq, h6, take6, List.drop_zero, Int.cast_ofNat_Int, go_sem, ↓reduceIte, Nat.reduceEqDiff, Nat.reduceAdd, Nat.reduceMul, Nat.reduceLeDiff, Nat.reduceLT, Int.reduceLE, Int.reduceLT, reduceCtorEq]
          refine ⟨h3, fun _ => ?_⟩
          have hbx : ∀ X, (τ ++ X)[b]? = some (.box [.list (ints m.1), w]) := fun X => (List.getElem?_append_left hblt).trans hb2
          have ht0 : ∀ (x : AObj) X, (τ ++ x :: X)[τ.length]? = some x := fun x X => by simp
          have ht1 : ∀ (x y : AObj) X, (τ ++ x :: y :: X)[τ.length + 1]? = some y := fun x y X => by
            rw [List.getElem?_append_right (by omega)]; simp
          have hs0 : ∀ (x z : AObj) X, (τ ++ x :: X).set τ.length z = τ ++ z :: X := fun x z X => by
            rw [List.set_append_right _ _ (Nat.le_refl _)]; simp
          have hs1 : ∀ (x y z : AObj) X, (τ ++ x :: y :: X).set (τ.length + 1) z = τ ++ x :: z :: X := fun x y z X => by
            rw [List.set_append_right _ _ (by omega)]; simp
          try simp only [OpK_eq, h6, hbx, HKv, List.append_assoc, List.cons_append, List.nil_append, ht0, ht1, hs0, hs1, take6, List.drop_zero, Int.cast_ofNat_Int, go_sem, ↓reduceIte, Nat.reduceEqDiff, Nat.reduceAdd, Nat.reduceMul, Nat.reduceLeDiff, Nat.reduceLT, Int.reduceLE, Int.reduceLT, reduceCtorEq]
          refine (hby _ (List.getElem_mem hkl) m.1 hmem.1).go ?_
          have hnx := hokb _ (List.getElem_mem hkl) m.1 hmem.1
          have hgf : fs.getD k [] = fs[k] := by simp [List.getD_eq_getElem?_getD, hkl]
          rw [hgf] at hsucc
          generalize hnxe : bf fs[k] m.1 = nxp at *
          try simp only [OpK_eq, h6, hbx, HKv, List.append_assoc, List.cons_append, List.nil_append, ht0, ht1, hs0, hs1, take6, List.drop_zero, Int.cast_ofNat_Int, go_sem, ↓reduceIte, Nat.reduceEqDiff, Nat.reduceAdd, Nat.reduceMul, Nat.reduceLeDiff, Nat.reduceLT, Int.reduceLE, Int.reduceLT, reduceCtorEq]
          have hG3 : ∀ X, QG (τ ++ X) (U a') q ver2 ws2 L := fun X => hG2.keep hUq' fun id hid hu => ⟨List.getElem?_append_left hid, hu⟩
          have hW3 : ∀ X, Wd (τ ++ X) (fun id => U a' id ∨ id = q) w m.2 := fun X => hW2.keep fun id hid hu => ⟨List.getElem?_append_left hid, hu⟩
          have hI3 : ∀ X, I a' (τ ++ X) := fun X => hIk _ _ _ hI2 (fun id hid => List.getElem?_append_left (hIlt _ _ _ hI2 hid)) (by simp)
          refine (p172 L (by omega) 173 [.fptr [.list (ints nxp)] 0] (fun x => decide (x.1 = nxp)) (fun x hx => p173 x nxp (by have := hokl _ hnx; omega) (by have := hokl _ (hok2 x hx).1; omega))).lend (.cons (hG3 _).imm (.cons (Imm.fnc _ (.cons (Imm.ptr (τ.length + 1) 0 [.list (ints nxp)] [.list (ints nxp)] (ht1 _ _ _) rfl (by simp [PV.ok]) (fun j c d hc hd => by rw [hc] at hd; cases hd; have := List.mem_of_getElem? hc; simp only [List.mem_singleton] at this; subst this; exact .still)) (.nil _))) (.nil _))) ?_
          cases hany : L.any (fun x => decide (x.1 = nxp)) with
          | true =>
            rw [if_pos hany] at hsucc
            try simp only [OpK_eq, take6, List.drop_zero, Int.cast_ofNat_Int, go_sem, ↓reduceIte, Nat.reduceEqDiff, Nat.reduceAdd, Nat.reduceMul, Nat.reduceLeDiff, Nat.reduceLT, Int.reduceLE, Int.reduceLT, reduceCtorEq]
            refine ⟨by omega, ihk (k + 1, ver2, ws2, τ ++ _) ⟨by show k + 1 ≤ fs.length; omega, hI3 _, ?_, hbx _, hW3 _, ?_⟩ (by show fs.length - (k + 1) < fs.length - k; omega) _ _ ?_ rfl⟩
            · show QG _ _ q ver2 ws2 (advN fs bf (S i).1 m (k + 1))
              rw [hsucc]; exact hG3 _
            · show ∀ y ∈ advN fs bf (S i).1 m (k + 1), _ ∧ _ ≤ (advN fs bf (S i).1 m (k + 1)).length
              rw [hsucc]; exact hok2
            · simp [keep, hsucc]
          | false =>
            rw [if_neg (by rw [hany]; simp)] at hsucc
            have hlenB1 := hadvB (k + 1) (by omega)
            rw [hsucc, List.length_append, List.length_singleton] at hlenB1
            have hnext : ∀ ver' w' ρ, I a' ρ → QG ρ (U a') q ver' (ws2 ++ [w']) (L ++ [(nxp, m.2 ++ [(k : Int)])]) → ρ[b]? = some (.box [.list (ints m.1), w]) → Wd ρ (fun id => U a' id ∨ id = q) w m.2 → ∀ env, keep [0, 2, 3, 8, 9, 10, 31, 32, 33] env = [(0, .list (aggs (fs.map mp))), (2, .fn (.func bid) [] []), (3, .fn (.func eid) [] caps), (8, .ref q ver' 0 (L.length + 1)), (9, .int .i64 i), (10, .ptr b 0), (31, .list (aggs (fs.map mp))), (32, .int .i64 fs.length), (33, .int .i64 (k + 1 : Nat))] → KL (mkCfg Try.prog mixed [53, 56] 59 q) k139_b0 _ env ρ := fun ver' w' ρ q1 q2 q3 q4 env q5 =>
              ihk (k + 1, ver', ws2 ++ [w'], ρ) ⟨by show k + 1 ≤ fs.length; omega, q1, by show QG ρ _ q ver' _ (advN fs bf (S i).1 m (k + 1)); rw [hsucc]; exact q2, q3, q4, by
                show ∀ y ∈ advN fs bf (S i).1 m (k + 1), _ ∧ _ ≤ (advN fs bf (S i).1 m (k + 1)).length
                rw [hsucc]
                intro y hy
                rw [List.length_append, List.length_singleton]
                rcases List.mem_append.1 hy with hy | hy
                · have := hok2 y hy; exact ⟨this.1, by omega⟩
                · simp only [List.mem_singleton] at hy; subst hy
                  refine ⟨hnx, ?_⟩
                  simp only [List.length_append, List.length_singleton]
                  have hmono := advN_mono fs bf (S i).1 m (Nat.zero_le k)
                  rw [hL] at hmono
                  have e : advN fs bf (S i).1 m 0 = (S i).1 := rfl
                  rw [e] at hmono
                  omega⟩ (by show fs.length - (k + 1) < fs.length - k; omega) env ρ (by rw [q5, hsucc]; simp) rfl
            clear ih ihk
            have hpush : ∀ X w', Wd (τ ++ X) (fun id => U a' id ∨ id = q) w' (m.2 ++ [(k : Int)]) → ∀ K' : PV → Heap → Prop,
                (∀ ρ, I a' ρ → QG ρ (U a') q (ver2 + 1) (ws2 ++ [w']) (L ++ [(nxp, m.2 ++ [(k : Int)])]) → ρ[b]? = some (.box [.list (ints m.1), w]) → Wd ρ (fun id => U a' id ∨ id = q) w m.2 → K' (.ref q (ver2 + 1) 0 (L.length + 1)) ρ) →
                aApp 134 2 (.ref q ver2 0 L.length) (.list [.agg [.list (ints nxp), w']]) (τ ++ X) K' := fun X w' hw' K' hK' =>
              (hG3 X).push hw' (by omega) fun hQ => by
                refine hK' _ ?_ hQ ?_ ?_
                · refine hIk _ _ _ (hI3 X) (fun id hid => List.getElem?_set_ne ?_) (by simp)
                  rintro rfl; exact hUq' hid
                · rw [List.getElem?_set_ne (Ne.symm hbq)]; exact hbx X
                · refine (hW3 X).keep fun id _ hA => ⟨List.getElem?_set_ne ?_, hA⟩
                  rintro rfl; exact hA (.inr rfl)
            have ht2 : ∀ (x y z : AObj) X, (τ ++ x :: y :: z :: X)[τ.length + 2]? = some z := fun x y z X => by
              rw [List.getElem?_append_right (by omega)]; simp
            have hs2 : ∀ (x y z u : AObj) X, (τ ++ x :: y :: z :: X).set (τ.length + 2) u = τ ++ x :: y :: u :: X := fun x y z u X => by
              rw [List.set_append_right _ _ (by omega)]; simp
            have hwd : ∀ (x y : AObj) vr l, Wd (τ ++ [x, y, .arr vr 2 1 (ints l)]) (fun id => U a' id ∨ id = q) (.ref (τ.length + 2) vr 0 l.length) l := fun x y vr l => by
              refine .inr ⟨_, vr, rfl, ht2 _ _ _ _, fun h => ?_⟩
              rcases h with h | h
              · have := hIlt _ _ _ hI2 h; omega
              · omega
            have hwd1 : ∀ (x y : AObj), Wd (τ ++ [x, y, .arr 2 2 1 (ints (m.2 ++ [(k : Int)]))]) (fun id => U a' id ∨ id = q) (.ref (τ.length + 2) 2 0 (m.2.length + 1)) (m.2 ++ [(k : Int)]) := fun x y => by
              have := hwd x y 2 (m.2 ++ [(k : Int)])
              rwa [List.length_append, List.length_singleton] at this
            have hwd0 : m.2 = [] → ∀ (x y : AObj), Wd (τ ++ [x, y, .arr 0 2 1 [.int .i64 k]]) (fun id => U a' id ∨ id = q) (.ref (τ.length + 2) 0 0 1) (m.2 ++ [(k : Int)]) := fun h0 x y => by
              rw [h0]; exact hwd x y 0 [(k : Int)]
            generalize hvq : PV.ref q ver2 0 L.length = vq at *
            try simp only [OpK_eq, hbx, HKv, ht0, ht1, take6, List.drop_zero, Int.cast_ofNat_Int, go_sem, ↓reduceIte, Nat.reduceEqDiff, Nat.reduceAdd, Nat.reduceMul, Nat.reduceLeDiff, Nat.reduceLT, Int.reduceLE, Int.reduceLT, reduceCtorEq]
            iterate 8
              all_goals (try (rw [vT_alt]; refine ⟨?_, ?_⟩))
              all_goals (try (try simp only [OpK_eq, hbx, HKv, ht0, ht1, take6, List.drop_zero, Int.cast_ofNat_Int, go_sem, ↓reduceIte, Nat.reduceEqDiff, Nat.reduceAdd, Nat.reduceMul, Nat.reduceLeDiff, Nat.reduceLT, Int.reduceLE, Int.reduceLT, reduceCtorEq] ))
            all_goals (refine ACall.lend (p132P m.2 (by omega)) (.cons (hW3 _).imm (.nil _)) fun v s hv => ?_)
            all_goals (rcases hv with ⟨rfl, rfl⟩ | ⟨hl0, rfl, rfl⟩)
            all_goals (first | refine ⟨⟨free_ref _ _ _ _, Free.ints _ _ _ _⟩, ?_⟩ | refine ⟨⟨Plain.nils.fr, Free.nil⟩, ?_⟩)
            all_goals (try (try simp only [OpK_eq, hbx, HKv, ht0, ht1, ht2, hs2, ren_ref, List.append_assoc, List.cons_append, List.nil_append, take6, List.drop_zero, Int.cast_ofNat_Int, go_sem, ↓reduceIte, Nat.reduceEqDiff, Nat.reduceAdd, Nat.reduceMul, Nat.reduceLeDiff, Nat.reduceLT, Int.reduceLE, Int.reduceLT, reduceCtorEq] ))
            iterate 8
              all_goals (try (rw [vT_alt]; refine ⟨?_, ?_⟩))
              all_goals (try (try simp only [OpK_eq, hbx, HKv, ht0, ht1, ht2, hs2, ren_ref, List.append_assoc, List.cons_append, List.nil_append, take6, List.drop_zero, Int.cast_ofNat_Int, go_sem, ↓reduceIte, Nat.reduceEqDiff, Nat.reduceAdd, Nat.reduceMul, Nat.reduceLeDiff, Nat.reduceLT, Int.reduceLE, Int.reduceLT, reduceCtorEq] ))
            all_goals (first | refine ⟨⟨Nat.le_refl _, by omega⟩, hpush [_, _, _] _ (hwd1 _ _) _ fun ρ q1 q2 q3 q4 => ?_⟩ | refine hpush [_, _, _] _ (hwd0 hl0 _ _) _ fun ρ q1 q2 q3 q4 => ?_)
            all_goals (try simp only [OpK_eq, take6, List.drop_zero, Int.cast_ofNat_Int, go_sem, ↓reduceIte, Nat.reduceEqDiff, Nat.reduceAdd, Nat.reduceMul, Nat.reduceLeDiff, Nat.reduceLT, Int.reduceLE, Int.reduceLT, reduceCtorEq] )
            all_goals exact ⟨by omega, hnext (ver2 + 1) _ ρ q1 q2 q3 q4 _ (by simp [keep])⟩
        · have hke : k = fs.length := by omega
          subst hke
          try simp only [take6, List.drop_zero, Int.cast_ofNat_Int, go_sem, ↓reduceIte, Nat.reduceEqDiff, Nat.reduceAdd, Nat.reduceMul, Nat.reduceLeDiff, Nat.reduceLT, Int.reduceLE, Int.reduceLT, reduceCtorEq]
          refine ⟨by omega, ih (i + 1, ver2, ws2, τ) ⟨?_, hgo', ?_, ?_, ?_, ?_⟩ (by show N + 1 - (i + 1) < N + 1 - i; omega) _ _ ?_ rfl⟩
          · show i + 1 ≤ (S (i + 1)).1.length
            rw [hSi]
            have := advN_mono fs bf (S i).1 m (Nat.zero_le fs.length)
            have e : advN fs bf (S i).1 m 0 = (S i).1 := rfl
            rw [e] at this
            show i + 1 ≤ (advN fs bf (S i).1 m fs.length).length
            omega
          · show I (S (i + 1)).2 τ
            rw [hSi]; exact hI2
          · show ¬ U (S (i + 1)).2 q
            rw [hSi]; exact hUq'
          · show QG τ (U (S (i + 1)).2) q ver2 ws2 (S (i + 1)).1
            rw [hSi, hL]; exact hG2
          · show ∀ y ∈ (S (i + 1)).1, okp y.1 ∧ y.2.length + 1 ≤ (S (i + 1)).1.length
            rw [hSi, hL]; exact hok2
          · rw [hSi, hL]; simp [keep]
      · try simp only [OpK_eq, take6, List.drop_zero, Int.cast_ofNat_Int, go_sem, ↓reduceIte, Nat.reduceEqDiff, Nat.reduceAdd, Nat.reduceMul, Nat.reduceLeDiff, Nat.reduceLT, Int.reduceLE, Int.reduceLT, reduceCtorEq]
        exact Kv.Fin.now (hK1 i hil (by rw [hm]; exact hgf) hgo σ' (by rw [hm]; exact hD))
    · have hie : i = (S i).1.length := by omega
      exact Kv.Fin.now (hK2 i hie hgo σ hI)
end Go.Proofs.Ytpepbomifjbgnaa
end
section
/- The search again: the caller's state may hang on the heap. -/
namespace Go.Proofs.Ytpepbomifjbgnaa
open Go.Kv
set_option maxRecDepth 100000
end Go.Proofs.Ytpepbomifjbgnaa
namespace Go.Proofs.Ytpepbomifjbgnaa
open Go.Kv
set_option linter.unusedVariables false
set_option linter.unusedSimpArgs false
attribute [local irreducible] ACall PCall KL
/-- The queue behind i met lists. -/
def bl (fs : List (List Nat)) (bf : List Nat → List Int → List Int) (p : List Int) : Nat → List Met
  | 0 => [(p, [])]
  | i + 1 => match (bl fs bf p i)[i]? with
    | some m => advN fs bf (bl fs bf p i) m fs.length
    | none => bl fs bf p i
theorem bl_succ {fs : List (List Nat)} {bf : List Nat → List Int → List Int} {p : List Int} {i : Nat} (h : i < (bl fs bf p i).length) : bl fs bf p (i + 1) = advN fs bf (bl fs bf p i) (bl fs bf p i)[i] fs.length := by
  have : (bl fs bf p i)[i]? = some (bl fs bf p i)[i] := List.getElem?_eq_getElem h
  rw [bl, this]
set_option maxHeartbeats 4000000 in
theorem p139J {α : Type} (fs : List (List Nat)) (n : Nat) (hf : ∀ f ∈ fs, Ok f n) (hfl : fs.length ≤ 1000) (bid eid : FuncId) (caps : List PV) (bf : List Nat → List Int → List Int) (okp : List Int → Prop)
    (hokl : ∀ p, okp p → p.length ≤ 1000) (hokb : ∀ f ∈ fs, ∀ p, okp p → okp (bf f p))
    (hby : ∀ f ∈ fs, ∀ p, okp p → Pure Try.prog bid [.agg (ints (mp f)), .list (ints p)] (.list (ints (bf f p))))
    (I : α → Heap → Prop) (U : α → Nat → Prop) (nx : α → List Int → α → Prop) (go : α → List Int → Bool) (D : α → List Int → List Int → Heap → Prop)
    (hIlt : ∀ a σ id, I a σ → U a id → id < σ.length) (hIk : ∀ a σ σ', I a σ → (∀ id, U a id → σ'[id]? = σ[id]?) → σ.length ≤ σ'.length → I a σ')
    (N : Nat) (J : Nat → α → Prop)
    (heach : ∀ i a σ p w l, J i a → i ≤ N → okp p → I a σ → Wd σ (U a) w l → ∀ K : PV → Heap → Prop,
      (go a p = true → ∀ a' σ', nx a p a' → I a' σ' → σ.length ≤ σ'.length → (∀ id, id < σ.length → ¬ U a id → σ'[id]? = σ[id]? ∧ ¬ U a' id) → K (.bool true) σ') →
      (go a p = false → ∀ σ', D a p l σ' → K (.bool false) σ') → ACall Try.prog eid (.agg [.list (ints p), w] :: caps) σ K)
    (a0 : α) (from0 : List Int) (hok0 : okp from0) (hN : N ≤ 1000) (hB : ∀ i, (bl fs bf from0 i).length ≤ N) (hJ0 : J 0 a0) (hJs : ∀ i a a' (h : i < (bl fs bf from0 i).length), J i a → go a (bl fs bf from0 i)[i].1 = true → nx a (bl fs bf from0 i)[i].1 a' → J (i + 1) a')
    (σ0 : Heap) (hI0 : I a0 σ0) (K : PV → Heap → Prop)
    (hK1 : ∀ i a (h : i < (bl fs bf from0 i).length), J i a → go a (bl fs bf from0 i)[i].1 = false → ∀ σ', D a (bl fs bf from0 i)[i].1 (bl fs bf from0 i)[i].2 σ' → K (.tup []) σ')
    (hK2 : ∀ i a, i = (bl fs bf from0 i).length → J i a → ∀ σ', I a σ' → K (.tup []) σ') :
    ACall Try.prog 139 [.list (aggs (fs.map mp)), .list (ints from0), .fn (.func bid) [] [], .fn (.func eid) [] caps] σ0 K := by
  generalize hs : bl fs bf from0 = S at *
  have hS0 : S 0 = [(from0, [])] := by rw [← hs]; rfl
  have hSs : ∀ i (h : i < (S i).length), S (i + 1) = advN fs bf (S i) (S i)[i] fs.length := by
    rw [← hs]; exact fun i h => bl_succ h
  refine e139 (by simp) fun _ _ => ?_
  simp only [k139, argEnv, take6, List.drop_zero, Int.cast_ofNat_Int, go_sem, ↓reduceIte, Nat.reduceEqDiff, Nat.reduceAdd, Nat.reduceMul, Nat.reduceLeDiff, Nat.reduceLT, Int.reduceLE, Int.reduceLT, reduceCtorEq]
  try simp only [take6, List.drop_zero, Int.cast_ofNat_Int, go_sem, ↓reduceIte, Nat.reduceEqDiff, Nat.reduceAdd, Nat.reduceMul, Nat.reduceLeDiff, Nat.reduceLT, Int.reduceLE, Int.reduceLT, reduceCtorEq]
  generalize hq : σ0.length = q at *
  refine KL_ind k139_b1.eq_1 (fun x : Nat × Nat × List PV × α × Heap => [(0, .list (aggs (fs.map mp))), (2, .fn (.func bid) [] []), (3, .fn (.func eid) [] caps), (8, .ref q x.2.1 0 (S x.1).length), (9, .int .i64 x.1)]) (fun x => x.2.2.2.2)
    (fun x => x.1 ≤ (S x.1).length ∧ J x.1 x.2.2.2.1 ∧ I x.2.2.2.1 x.2.2.2.2 ∧ ¬ U x.2.2.2.1 q ∧ QG x.2.2.2.2 (U x.2.2.2.1) q x.2.1 x.2.2.1 (S x.1) ∧ (∀ m ∈ S x.1, okp m.1 ∧ m.2.length + 1 ≤ (S x.1).length)) (fun x => N + 1 - x.1) [0, 2, 3, 8, 9]
    (0, 0, [.nils], a0, σ0 ++ [.arr 0 134 2 [.agg [.list (ints from0), .nils]]]) ?_ rfl ?_ fun ⟨i, ver, ws, a, σ⟩ ⟨hi, hJ, hI, hUq, hG, hok⟩ ih => ?_
  · simp [keep, hS0]
  · have hlen0 : q < (σ0 ++ [AObj.arr 0 134 2 [.agg [.list (ints from0), .nils]]]).length := by simp [← hq]
    have hU0 : ¬ U a0 q := fun h => by
      have := hIlt _ _ _ hI0 h
      omega
    refine ⟨Nat.zero_le _, hJ0, ?_, hU0, ?_, ?_⟩
    · show I a0 _
      refine hIk a0 σ0 _ hI0 (fun id hid => ?_) (by simp)
      rw [List.getElem?_append_left (hIlt _ _ _ hI0 hid)]
    · show QG _ _ q 0 [.nils] (S 0)
      rw [hS0]
      refine ⟨by simp [← hq, qcell], rfl, fun i w m hw hm => .inl ⟨?_, ?_⟩⟩
      · have := List.mem_of_getElem? hw; simpa using this
      · have := List.mem_of_getElem? hm
        simp only [List.mem_singleton] at this; rw [this]
    · intro m hm
      have hm : m ∈ S 0 := hm
      show okp m.1 ∧ m.2.length + 1 ≤ (S 0).length
      rw [hS0] at hm ⊢
      simp only [List.mem_singleton] at hm
      subst hm
      exact ⟨hok0, by simp⟩
  · simp only at hi hJ hI hUq hG hok
    have hBi := hB i
    have hout := hG.out
    have hqlt := (List.getElem?_eq_some_iff.1 hout).1
    have hzl : (List.zipWith qcell ws (S i)).length = (S i).length := by simp [hG.len]
    try simp only [OpK_eq, hout, hzl, take6, List.drop_zero, Int.cast_ofNat_Int, go_sem, ↓reduceIte, Nat.reduceEqDiff, Nat.reduceAdd, Nat.reduceMul, Nat.reduceLeDiff, Nat.reduceLT, Int.reduceLE, Int.reduceLT, reduceCtorEq]
    refine ⟨fun h1 => ?_, fun h1 => ?_⟩
    · have hil : i < (S i).length := by omega
      obtain ⟨w, hw, hcell, hW⟩ := hG.cell hil
      have hSi := hSs i hil
      have hmem := hok _ (List.getElem_mem hil)
      generalize hm : (S i)[i] = m at *
      have hsub : subC (qcell w m).cs 0 2 = [.list (ints m.1), w] := subC2 _ _
      have hput : putC [.nils, .nils] 0 [.list (ints m.1), w] = [PV.list (ints m.1), w] := putC2 _ _ _ _
      have hwok : [PV.list (ints m.1), w].all PV.ok = true := by rcases hW with ⟨rfl, _⟩ | ⟨_, _, rfl, _⟩ <;> simp [PV.ok]
      refine ⟨⟨h1, Nat.le_refl _⟩, hil, fun x hx => ?_⟩
      rw [hcell] at hx; cases hx
      rw [hsub, hput, subC2]
      refine ⟨Nat.le_refl _, ⟨rfl, hwok⟩, Nat.le_refl _, ?_⟩
      have hlt1 : ∀ id, id < σ.length → (σ ++ [AObj.box [.list (ints m.1), w]])[id]? = σ[id]? := fun id h => List.getElem?_append_left h
      have hI1 : I a (σ ++ [AObj.box [.list (ints m.1), w]]) := hIk _ _ _ hI (fun id hid => hlt1 id (hIlt _ _ _ hI hid)) (by simp)
      have hW1 : Wd (σ ++ [AObj.box [.list (ints m.1), w]]) (U a) w m.2 := hW.keep fun id hid hA => ⟨hlt1 id hid, fun hu => hA (.inl hu)⟩
      refine heach i _ _ m.1 w m.2 hJ (by omega) hmem.1 hI1 hW1 _ (fun hgt a' σ' hnx hI' hle hkeep => ?_) (fun hgf σ' hD => ?_)
      · have hb10 : σ'[σ.length]? = some (.box [.list (ints m.1), w]) := by
          rw [(hkeep σ.length (by simp) (fun hu => by have := hIlt _ _ _ hI hu; omega)).1]
          simp
        have hUb : ¬ U (a') σ.length := (hkeep σ.length (by simp) (fun hu => by have := hIlt _ _ _ hI hu; omega)).2
        have hkeep2 : ∀ id, id < σ.length → ¬ U a id → σ'[id]? = σ[id]? ∧ ¬ U (a') id := fun id hid hu => by
          obtain ⟨k1, k2⟩ := hkeep id (by simp; omega) hu
          exact ⟨k1.trans (hlt1 id hid), k2⟩
        have hG' := hG.keep hUq hkeep2
        have hUq' := (hkeep2 q hqlt hUq).2
        have hW' : Wd σ' (fun id => U (a') id ∨ id = q) w m.2 := hW.keep fun id hid hA => by
          simp only [not_or] at hA ⊢
          exact ⟨(hkeep2 id hid hA.1).1, (hkeep2 id hid hA.1).2, hA.2⟩
        have hJ' : J (i + 1) a' := hJs i a a' hil hJ (by rw [hm]; exact hgt) (by rw [hm]; exact hnx)
        have hbq : σ.length ≠ q := by omega
        generalize hb : σ.length = b at *
        clear hkeep hkeep2 hI1 hW1 hlt1 hG hI hW hcell hw hout hzl
        clear hb hqlt
        try simp only [OpK_eq, List.length_map, take6, List.drop_zero, Int.cast_ofNat_Int, go_sem, ↓reduceIte, Nat.reduceEqDiff, Nat.reduceAdd, Nat.reduceMul, Nat.reduceLeDiff, Nat.reduceLT, Int.reduceLE, Int.reduceLT, reduceCtorEq]
        have hadvB : ∀ k, k ≤ fs.length → (advN fs bf (S i) m k).length ≤ N := fun k hk => by
          have h1 := advN_mono fs bf (S i) m hk
          have h2 := hB (i + 1)
          rw [hSi] at h2
          exact Nat.le_trans h1 h2
        refine KL_ind k139_b0.eq_1 (fun x : Nat × Nat × List PV × Heap => [(0, .list (aggs (fs.map mp))), (2, .fn (.func bid) [] []), (3, .fn (.func eid) [] caps), (8, .ref q x.2.1 0 (advN fs bf (S i) m x.1).length), (9, .int .i64 i), (10, .ptr b 0), (31, .list (aggs (fs.map mp))), (32, .int .i64 fs.length), (33, .int .i64 x.1)]) (fun x => x.2.2.2)
          (fun x => x.1 ≤ fs.length ∧ I a' x.2.2.2 ∧ QG x.2.2.2 (U a') q x.2.1 x.2.2.1 (advN fs bf (S i) m x.1) ∧ x.2.2.2[b]? = some (.box [.list (ints m.1), w]) ∧ Wd x.2.2.2 (fun id => U a' id ∨ id = q) w m.2 ∧ (∀ y ∈ advN fs bf (S i) m x.1, okp y.1 ∧ y.2.length + 1 ≤ (advN fs bf (S i) m x.1).length)) (fun x => fs.length - x.1) [0, 2, 3, 8, 9, 10, 31, 32, 33]
          (0, ver, ws, σ') (by rfl) rfl ⟨Nat.zero_le _, hI', hG', hb10, hW', hok⟩ fun ⟨k, ver2, ws2, τ⟩ ⟨hk, hI2, hG2, hb2, hW2, hok2⟩ ihk => ?_
        simp only at hk hI2 hG2 hb2 hW2 hok2
        clear hI' hG' hb10 hW' hok hle
        have hsucc := advN_succ fs bf (S i) m k
        have hlenB := hadvB k hk
        have hmlen := hmem.2
        generalize hL : advN fs bf (S i) m k = L at *
        have hout := hG2.out
        have hblt := (List.getElem?_eq_some_iff.1 hb2).1
        have hqlt := (List.getElem?_eq_some_iff.1 hout).1
        try simp only [OpK_eq, List.length_map, take6, List.drop_zero, Int.cast_ofNat_Int, go_sem, ↓reduceIte, Nat.reduceEqDiff, Nat.reduceAdd, Nat.reduceMul, Nat.reduceLeDiff, Nat.reduceLT, Int.reduceLE, Int.reduceLT, reduceCtorEq]
        refine ⟨fun h3 => ?_, fun h3 => ?_⟩
        · have hkl : k < fs.length := by omega
          have hfk := hf _ (List.getElem_mem hkl)
          have h6 := hfk.mp_len
          have hgk : (fs.map mp).getD k [] = mp fs[k] := by simp [List.getD_eq_getElem?_getD, hkl]
          rw [hgk]
          try simp only [OpK_eq, h6, take6, List.drop_zero, Int.cast_ofNat_Int, go_sem, ↓reduceIte, Nat.reduceEqDiff, Nat.reduceAdd, Nat.reduceMul, Nat.reduceLeDiff, Nat.reduceLT, Int.reduceLE, Int.reduceLT, reduceCtorEq]
          refine ⟨h3, fun _ => ?_⟩
          have hbx : ∀ X, (τ ++ X)[b]? = some (.box [.list (ints m.1), w]) := fun X => (List.getElem?_append_left hblt).trans hb2
          have ht0 : ∀ (x : AObj) X, (τ ++ x :: X)[τ.length]? = some x := fun x X => by simp
          have ht1 : ∀ (x y : AObj) X, (τ ++ x :: y :: X)[τ.length + 1]? = some y := fun x y X => by
            rw [List.getElem?_append_right (by omega)]; simp
          have hs0 : ∀ (x z : AObj) X, (τ ++ x :: X).set τ.length z = τ ++ z :: X := fun x z X => by
            rw [List.set_append_right _ _ (Nat.le_refl _)]; simp
          have hs1 : ∀ (x y z : AObj) X, (τ ++ x :: y :: X).set (τ.length + 1) z = τ ++ x :: z :: X := fun x y z X => by
            rw [List.set_append_right _ _ (by omega)]; simp
          try simp only [OpK_eq, h6, hbx, HKv, List.append_assoc, List.cons_append, List.nil_append, ht0, ht1, hs0, hs1, take6, List.drop_zero, Int.cast_ofNat_Int, go_sem, ↓reduceIte, Nat.reduceEqDiff, Nat.reduceAdd, Nat.reduceMul, Nat.reduceLeDiff, Nat.reduceLT, Int.reduceLE, Int.reduceLT, reduceCtorEq]
          refine (hby _ (List.getElem_mem hkl) m.1 hmem.1).go ?_
          have hnx := hokb _ (List.getElem_mem hkl) m.1 hmem.1
          have hgf : fs.getD k [] = fs[k] := by simp [List.getD_eq_getElem?_getD, hkl]
          rw [hgf] at hsucc
          generalize hnxe : bf fs[k] m.1 = nxp at *
          try simp only [OpK_eq, h6, hbx, HKv, List.append_assoc, List.cons_append, List.nil_append, ht0, ht1, hs0, hs1, take6, List.drop_zero, Int.cast_ofNat_Int, go_sem, ↓reduceIte, Nat.reduceEqDiff, Nat.reduceAdd, Nat.reduceMul, Nat.reduceLeDiff, Nat.reduceLT, Int.reduceLE, Int.reduceLT, reduceCtorEq]
          have hG3 : ∀ X, QG (τ ++ X) (U a') q ver2 ws2 L := fun X => hG2.keep hUq' fun id hid hu => ⟨List.getElem?_append_left hid, hu⟩
          have hW3 : ∀ X, Wd (τ ++ X) (fun id => U a' id ∨ id = q) w m.2 := fun X => hW2.keep fun id hid hu => ⟨List.getElem?_append_left hid, hu⟩
          have hI3 : ∀ X, I a' (τ ++ X) := fun X => hIk _ _ _ hI2 (fun id hid => List.getElem?_append_left (hIlt _ _ _ hI2 hid)) (by simp)
          refine (p172 L (by omega) 173 [.fptr [.list (ints nxp)] 0] (fun x => decide (x.1 = nxp)) (fun x hx => p173 x nxp (by have := hokl _ hnx; omega) (by have := hokl _ (hok2 x hx).1; omega))).lend (.cons (hG3 _).imm (.cons (Imm.fnc _ (.cons (Imm.ptr (τ.length + 1) 0 [.list (ints nxp)] [.list (ints nxp)] (ht1 _ _ _) rfl (by simp [PV.ok]) (fun j c d hc hd => by rw [hc] at hd; cases hd; have := List.mem_of_getElem? hc; simp only [List.mem_singleton] at this; subst this; exact .still)) (.nil _))) (.nil _))) ?_
          cases hany : L.any (fun x => decide (x.1 = nxp)) with
          | true =>
            rw [if_pos hany] at hsucc
            try simp only [OpK_eq, take6, List.drop_zero, Int.cast_ofNat_Int, go_sem, ↓reduceIte, Nat.reduceEqDiff, Nat.reduceAdd, Nat.reduceMul, Nat.reduceLeDiff, Nat.reduceLT, Int.reduceLE, Int.reduceLT, reduceCtorEq]
            refine ⟨by omega, ihk (k + 1, ver2, ws2, τ ++ _) ⟨by show k + 1 ≤ fs.length; omega, hI3 _, ?_, hbx _, hW3 _, ?_⟩ (by show fs.length - (k + 1) < fs.length - k; omega) _ _ ?_ rfl⟩
            · show QG _ _ q ver2 ws2 (advN fs bf (S i) m (k + 1))
              rw [hsucc]; exact hG3 _
            · show ∀ y ∈ advN fs bf (S i) m (k + 1), _ ∧ _ ≤ (advN fs bf (S i) m (k + 1)).length
              rw [hsucc]; exact hok2
            · simp [keep, hsucc]
          | false =>
            rw [if_neg (by rw [hany]; simp)] at hsucc
            have hlenB1 := hadvB (k + 1) (by omega)
            rw [hsucc, List.length_append, List.length_singleton] at hlenB1
            have hnext : ∀ ver' w' ρ, I a' ρ → QG ρ (U a') q ver' (ws2 ++ [w']) (L ++ [(nxp, m.2 ++ [(k : Int)])]) → ρ[b]? = some (.box [.list (ints m.1), w]) → Wd ρ (fun id => U a' id ∨ id = q) w m.2 → ∀ env, keep [0, 2, 3, 8, 9, 10, 31, 32, 33] env = [(0, .list (aggs (fs.map mp))), (2, .fn (.func bid) [] []), (3, .fn (.func eid) [] caps), (8, .ref q ver' 0 (L.length + 1)), (9, .int .i64 i), (10, .ptr b 0), (31, .list (aggs (fs.map mp))), (32, .int .i64 fs.length), (33, .int .i64 (k + 1 : Nat))] → KL (mkCfg Try.prog mixed [53, 56] 59 q) k139_b0 _ env ρ := fun ver' w' ρ q1 q2 q3 q4 env q5 =>
              ihk (k + 1, ver', ws2 ++ [w'], ρ) ⟨by show k + 1 ≤ fs.length; omega, q1, by show QG ρ _ q ver' _ (advN fs bf (S i) m (k + 1)); rw [hsucc]; exact q2, q3, q4, by
                show ∀ y ∈ advN fs bf (S i) m (k + 1), _ ∧ _ ≤ (advN fs bf (S i) m (k + 1)).length
                rw [hsucc]
                intro y hy
                rw [List.length_append, List.length_singleton]
                rcases List.mem_append.1 hy with hy | hy
                · have := hok2 y hy; exact ⟨this.1, by omega⟩
                · simp only [List.mem_singleton] at hy; subst hy
                  refine ⟨hnx, ?_⟩
                  simp only [List.length_append, List.length_singleton]
                  have hmono := advN_mono fs bf (S i) m (Nat.zero_le k)
                  rw [hL] at hmono
                  have e : advN fs bf (S i) m 0 = (S i) := rfl
                  rw [e] at hmono
                  omega⟩ (by show fs.length - (k + 1) < fs.length - k; omega) env ρ (by rw [q5, hsucc]; simp) rfl
            clear ih ihk
            have hpush : ∀ X w', Wd (τ ++ X) (fun id => U a' id ∨ id = q) w' (m.2 ++ [(k : Int)]) → ∀ K' : PV → Heap → Prop,
                (∀ ρ, I a' ρ → QG ρ (U a') q (ver2 + 1) (ws2 ++ [w']) (L ++ [(nxp, m.2 ++ [(k : Int)])]) → ρ[b]? = some (.box [.list (ints m.1), w]) → Wd ρ (fun id => U a' id ∨ id = q) w m.2 → K' (.ref q (ver2 + 1) 0 (L.length + 1)) ρ) →
                aApp 134 2 (.ref q ver2 0 L.length) (.list [.agg [.list (ints nxp), w']]) (τ ++ X) K' := fun X w' hw' K' hK' =>
              (hG3 X).push hw' (by omega) fun hQ => by
                refine hK' _ ?_ hQ ?_ ?_
                · refine hIk _ _ _ (hI3 X) (fun id hid => List.getElem?_set_ne ?_) (by simp)
                  rintro rfl; exact hUq' hid
                · rw [List.getElem?_set_ne (Ne.symm hbq)]; exact hbx X
                · refine (hW3 X).keep fun id _ hA => ⟨List.getElem?_set_ne ?_, hA⟩
                  rintro rfl; exact hA (.inr rfl)
            have ht2 : ∀ (x y z : AObj) X, (τ ++ x :: y :: z :: X)[τ.length + 2]? = some z := fun x y z X => by
              rw [List.getElem?_append_right (by omega)]; simp
            have hs2 : ∀ (x y z u : AObj) X, (τ ++ x :: y :: z :: X).set (τ.length + 2) u = τ ++ x :: y :: u :: X := fun x y z u X => by
              rw [List.set_append_right _ _ (by omega)]; simp
            have hwd : ∀ (x y : AObj) vr l, Wd (τ ++ [x, y, .arr vr 2 1 (ints l)]) (fun id => U a' id ∨ id = q) (.ref (τ.length + 2) vr 0 l.length) l := fun x y vr l => by
              refine .inr ⟨_, vr, rfl, ht2 _ _ _ _, fun h => ?_⟩
              rcases h with h | h
              · have := hIlt _ _ _ hI2 h; omega
              · omega
            have hwd1 : ∀ (x y : AObj), Wd (τ ++ [x, y, .arr 2 2 1 (ints (m.2 ++ [(k : Int)]))]) (fun id => U a' id ∨ id = q) (.ref (τ.length + 2) 2 0 (m.2.length + 1)) (m.2 ++ [(k : Int)]) := fun x y => by
              have := hwd x y 2 (m.2 ++ [(k : Int)])
              rwa [List.length_append, List.length_singleton] at this
            have hwd0 : m.2 = [] → ∀ (x y : AObj), Wd (τ ++ [x, y, .arr 0 2 1 [.int .i64 k]]) (fun id => U a' id ∨ id = q) (.ref (τ.length + 2) 0 0 1) (m.2 ++ [(k : Int)]) := fun h0 x y => by
              rw [h0]; exact hwd x y 0 [(k : Int)]
            generalize hvq : PV.ref q ver2 0 L.length = vq at *
            try simp only [OpK_eq, hbx, HKv, ht0, ht1, take6, List.drop_zero, Int.cast_ofNat_Int, go_sem, ↓reduceIte, Nat.reduceEqDiff, Nat.reduceAdd, Nat.reduceMul, Nat.reduceLeDiff, Nat.reduceLT, Int.reduceLE, Int.reduceLT, reduceCtorEq]
            iterate 8
              all_goals (try (rw [vT_alt]; refine ⟨?_, ?_⟩))
              all_goals (try (try simp only [OpK_eq, hbx, HKv, ht0, ht1, take6, List.drop_zero, Int.cast_ofNat_Int, go_sem, ↓reduceIte, Nat.reduceEqDiff, Nat.reduceAdd, Nat.reduceMul, Nat.reduceLeDiff, Nat.reduceLT, Int.reduceLE, Int.reduceLT, reduceCtorEq] ))
            all_goals (refine ACall.lend (p132P m.2 (by omega)) (.cons (hW3 _).imm (.nil _)) fun v s hv => ?_)
            all_goals (rcases hv with ⟨rfl, rfl⟩ | ⟨hl0, rfl, rfl⟩)
            all_goals (first | refine ⟨⟨free_ref _ _ _ _, Free.ints _ _ _ _⟩, ?_⟩ | refine ⟨⟨Plain.nils.fr, Free.nil⟩, ?_⟩)
            all_goals (try (try simp only [OpK_eq, hbx, HKv, ht0, ht1, ht2, hs2, ren_ref, List.append_assoc, List.cons_append, List.nil_append, take6, List.drop_zero, Int.cast_ofNat_Int, go_sem, ↓reduceIte, Nat.reduceEqDiff, Nat.reduceAdd, Nat.reduceMul, Nat.reduceLeDiff, Nat.reduceLT, Int.reduceLE, Int.reduceLT, reduceCtorEq] ))
            iterate 8
              all_goals (try (rw [vT_alt]; refine ⟨?_, ?_⟩))
              all_goals (try (try simp only [OpK_eq, hbx, HKv, ht0, ht1, ht2, hs2, ren_ref, List.append_assoc, List.cons_append, List.nil_append, take6, List.drop_zero, Int.cast_ofNat_Int, go_sem, ↓reduceIte, Nat.reduceEqDiff, Nat.reduceAdd, Nat.reduceMul, Nat.reduceLeDiff, Nat.reduceLT, Int.reduceLE, Int.reduceLT, reduceCtorEq] ))
            all_goals (first | refine ⟨⟨Nat.le_refl _, by omega⟩, hpush [_, _, _] _ (hwd1 _ _) _ fun ρ q1 q2 q3 q4 => ?_⟩ | refine hpush [_, _, _] _ (hwd0 hl0 _ _) _ fun ρ q1 q2 q3 q4 => ?_)
            all_goals (try simp only [OpK_eq, take6, List.drop_zero, Int.cast_ofNat_Int, go_sem, ↓reduceIte, Nat.reduceEqDiff, Nat.reduceAdd, Nat.reduceMul, Nat.reduceLeDiff, Nat.reduceLT, Int.reduceLE, Int.reduceLT, reduceCtorEq] )
            all_goals exact ⟨by omega, hnext (ver2 + 1) _ ρ q1 q2 q3 q4 _ (by simp [keep])⟩
        · have hke : k = fs.length := by omega
          subst hke
          try simp only [take6, List.drop_zero, Int.cast_ofNat_Int, go_sem, ↓reduceIte, Nat.reduceEqDiff, Nat.reduceAdd, Nat.reduceMul, Nat.reduceLeDiff, Nat.reduceLT, Int.reduceLE, Int.reduceLT, reduceCtorEq]
          refine ⟨by omega, ih (i + 1, ver2, ws2, a', τ) ⟨?_, hJ', hI2, hUq', ?_, ?_⟩ (by show N + 1 - (i + 1) < N + 1 - i; omega) _ _ ?_ rfl⟩
          · show i + 1 ≤ (S (i + 1)).length
            rw [hSi]
            have := advN_mono fs bf (S i) m (Nat.zero_le fs.length)
            have e : advN fs bf (S i) m 0 = S i := rfl
            rw [e] at this
            omega
          · show QG τ (U a') q ver2 ws2 (S (i + 1))
            rw [hSi, hL]; exact hG2
          · show ∀ y ∈ S (i + 1), okp y.1 ∧ y.2.length + 1 ≤ (S (i + 1)).length
            rw [hSi, hL]; exact hok2
          · rw [hSi, hL]; simp [keep]
      · try simp only [OpK_eq, take6, List.drop_zero, Int.cast_ofNat_Int, go_sem, ↓reduceIte, Nat.reduceEqDiff, Nat.reduceAdd, Nat.reduceMul, Nat.reduceLeDiff, Nat.reduceLT, Int.reduceLE, Int.reduceLT, reduceCtorEq]
        exact Kv.Fin.now (hK1 i a hil hJ (by rw [hm]; exact hgf) σ' (by rw [hm]; exact hD))
    · have hie : i = (S i).length := by omega
      exact Kv.Fin.now (hK2 i a hie hJ σ hI)
end Go.Proofs.Ytpepbomifjbgnaa
end
section
/- The points that are reached from one. -/
namespace Go.Proofs.Ytpepbomifjbgnaa
open Go.Kv
set_option maxRecDepth 100000
/- impl.lead -/
/- live [2, 5, 8, 9, 10] -/
def k140_b0 : KC := (.seq (.ops [⟨(some 11), none, .bin .lss (.t 10) (.t 9)⟩])
  (.seq (.cond (.t 11) .skip (.exit 0))
  (.seq (.block 1 (.seq (.ops [⟨(some 12), none, .idxS 1 (.t 8) (.t 10)⟩, ⟨(some 13), none, .load false 1 (.t 12)⟩, ⟨(some 7), none, .mv (.t 13)⟩])
  (.ops [⟨(some 14), none, .mv (.t 5)⟩, ⟨(some 15), none, .mv (.t 7)⟩, ⟨(some 16), none, .fieldA 1 (.t 2)⟩, ⟨(some 17), none, .idxA 5 1 (.t 16) (.t 15)⟩, ⟨(some 18), none, .load false 1 (.t 17)⟩, ⟨(some 19), none, .bsl true 2 1 [(.t 18)]⟩, ⟨(some 20), none, .app (.t 14) (.t 19) 2 1⟩, ⟨(some 5), none, .mv (.t 20)⟩])))
  (.ops [⟨(some 21), none, .bin .add (.t 10) (.c (.int .i64 1))⟩, ⟨(some 10), none, .mv (.t 21)⟩]))))
def k140 : KC := (.seq (.ops [⟨(some 2), none, .box true (.t 0)⟩, ⟨(some 4), none, .mv (.c (.nils))⟩])
  (.seq (.ops [⟨(some 5), none, .mv (.c (.nils))⟩])
  (.seq (.seq (.ops [⟨(some 8), none, .mv (.t 1)⟩, ⟨(some 9), none, .len false (.t 8)⟩, ⟨(some 10), none, .mv (.c (.int .i64 0))⟩])
  (.block 0 (.loop k140_b0)))
  (.seq (.ops [⟨(some 22), none, .mv (.t 5)⟩, ⟨(some 4), none, .mv (.t 22)⟩])
  .ret))))
theorem e140 {args : List PV} {σ : Heap} {K : PV → Heap → Prop} (hl : args.length ≤ 23) (h : Wf σ → (∀ a ∈ args, PV.upto σ.length a) → vc (mkCfg Try.prog mixed [2, 19] 23 σ.length) k140 (FinK σ.length [.t 4] K) (argEnv 0 args) σ) : ACall Try.prog 140 args σ K :=
  ACall_enter (C := mkCfg Try.prog mixed [2, 19] 23 σ.length) (c := Try.f140.body.getD .skip) Try.func140 (by kernel_rfl) (by kernel_rfl) (by kernel_rfl) rfl hl (by kernel_rfl) (by kernel_rfl) h
/- impl.reached$1 -/
def k141 : KC := (.seq (.ops [⟨(some 2), none, .box true (.t 0)⟩, ⟨(some 3), none, .mv (.c (.bool false))⟩])
  (.seq (.draw [⟨(some 4), none, .load false 1 (.t 1)⟩, ⟨(some 5), none, .fieldA 0 (.t 2)⟩, ⟨(some 6), none, .load false 1 (.t 5)⟩, ⟨(some 7), none, .idxS 1 (.t 6) (.c (.int .i64 0))⟩, ⟨(some 8), none, .load false 1 (.t 7)⟩, ⟨(some 9), none, .bsl true 2 1 [(.t 8)]⟩, ⟨(some 10), none, .app (.t 4) (.t 9) 2 1⟩, ⟨none, none, .store 1 (.t 1) (.t 10)⟩])
  (.seq (.ops [⟨(some 3), none, .mv (.c (.bool true))⟩])
  .ret)))
theorem e141 {args : List PV} {σ : Heap} {K : PV → Heap → Prop} (hl : args.length ≤ 11) (h : Wf σ → (∀ a ∈ args, PV.upto σ.length a) → vc (mkCfg Try.prog mixed [2, 9] 11 σ.length) k141 (FinK σ.length [.t 3] K) (argEnv 0 args) σ) : ACall Try.prog 141 args σ K :=
  ACall_enter (C := mkCfg Try.prog mixed [2, 9] 11 σ.length) (c := Try.f141.body.getD .skip) Try.func141 (by kernel_rfl) (by kernel_rfl) (by kernel_rfl) rfl hl (by kernel_rfl) (by kernel_rfl) h
end Go.Proofs.Ytpepbomifjbgnaa
namespace Go.Proofs.Ytpepbomifjbgnaa
open Go.Kv
set_option linter.unusedVariables false
set_option linter.unusedSimpArgs false
attribute [local irreducible] ACall PCall KL
def ldp (f : List Nat) (p : List Int) : List Int := p.map fun x => (f.getD x.toNat 0 : Int)
/-- One point. -/
def one (n : Nat) (p : List Int) : Prop := ∃ q, q < n ∧ p = [(q : Int)]
theorem ldp_one {f : List Nat} {n : Nat} (hf : Ok f n) {p : List Int} (h : one n p) : one n (ldp f p) := by
  obtain ⟨q, hq, rfl⟩ := h
  exact ⟨f.getD q 0, hf.get hq, by simp [ldp]⟩
theorem p140 (f : List Nat) (n : Nat) (hf : Ok f n) (p : List Int) (h : one n p) : Pure Try.prog 140 [.agg (ints (mp f)), .list (ints p)] (.list (ints (ldp f p))) := by
  obtain ⟨q, hq, rfl⟩ := h
  have hlf := hf.mp_len
  have h5 := hf.le
  refine e140 (by simp) fun _ _ => ?_
  simp only [k140, argEnv, hlf, take6, List.drop_zero, Int.cast_ofNat_Int, go_sem, ↓reduceIte, Nat.reduceEqDiff, Nat.reduceAdd, Nat.reduceMul, Nat.reduceLeDiff, Nat.reduceLT, Int.reduceLE, Int.reduceLT, reduceCtorEq]
  refine KL_ind k140_b0.eq_1 (fun x : Nat => [(2, .fptr (ints (mp f)) 0), (5, nref 0 x), (8, .list (ints [(q : Int)])), (9, .int .i64 1), (10, .int .i64 x)]) (fun x => nhp [.arr (x - 1) 2 1 (ints ((ldp f [(q : Int)]).take x))] x) (fun x => x ≤ 1) (fun x => 1 - x) [2, 5, 8, 9, 10] 0 (by rfl) (by rfl) (Nat.zero_le _) fun x hx ih => ?_
  try simp only [hlf, take6, List.drop_zero, Int.cast_ofNat_Int, go_sem, ↓reduceIte, Nat.reduceEqDiff, Nat.reduceAdd, Nat.reduceMul, Nat.reduceLeDiff, Nat.reduceLT, Int.reduceLE, Int.reduceLT, reduceCtorEq]
  refine ⟨fun h1 => ?_, fun h1 => ?_⟩
  · obtain rfl : x = 0 := by omega
    have hq0 : [(q : Int)].getD 0 0 = (q : Int) := rfl
    have hqt : (q : Int).toNat = q := by omega
    rw [hq0, hqt]
    have e1 : (ldp f [(q : Int)]).take 1 = [(f.getD q 0 : Int)] := by simp [ldp]
    try simp only [take6, List.drop_zero, Int.cast_ofNat_Int, go_sem, ↓reduceIte, Nat.reduceEqDiff, Nat.reduceAdd, Nat.reduceMul, Nat.reduceLeDiff, Nat.reduceLT, Int.reduceLE, Int.reduceLT, reduceCtorEq]
    refine ⟨by omega, by omega, fun _ => ⟨by omega, ih 1 (by omega) (by omega) _ _ (by simp [keep, nref]) ?_⟩⟩
    rw [e1]; rfl
  · obtain rfl : x = 1 := by omega
    have e1 : (ldp f [(q : Int)]).take 1 = ldp f [(q : Int)] := by simp [ldp]
    rw [e1]
    exact Kv.Fin.freeze (Imm.refn (l := ldp f [(q : Int)]) rfl (by simp [ldp])) ⟨rfl, rfl⟩
theorem p141n (σ : Heap) (q : Int) (w : PV) (h0 : σ[0]? = some (.box [.nils])) (hw : w.ok = true) (K : PV → Heap → Prop)
    (hK : K (.bool true) ((σ ++ [AObj.arr 0 2 1 (ints [q])]).set 0 (AObj.box [.ref σ.length 0 0 1]))) :
    ACall Try.prog 141 [.agg [.list (ints [q]), w], .ptr 0 0] σ K := by
  have hlt0 := (List.getElem?_eq_some_iff.1 h0).1
  have hwok : [PV.list (ints [q]), w].all PV.ok = true := by simp [PV.ok]; exact hw
  have hput : ∀ v, putC [PV.nils] 0 [v] = [v] := fun v => by unfold putC; first | rfl | (split <;> rfl) | simp
  have h1 : (σ ++ [AObj.arr 0 2 1 (ints [q])])[0]? = some (.box [.nils]) := (List.getElem?_append_left hlt0).trans h0
  have e : ints [q] = [PV.int .i64 q] := rfl
  rw [e] at h1 hK
  refine e141 (by simp) fun _ _ => ?_
  simp only [k141, argEnv, take6, List.drop_zero, Int.cast_ofNat_Int, go_sem, ↓reduceIte, Nat.reduceEqDiff, Nat.reduceAdd, Nat.reduceMul, Nat.reduceLeDiff, Nat.reduceLT, Int.reduceLE, Int.reduceLT, reduceCtorEq]
  try simp only [OpK_eq, hwok, h0, HKv, take6, List.drop_zero, Int.cast_ofNat_Int, go_sem, ↓reduceIte, Nat.reduceEqDiff, Nat.reduceAdd, Nat.reduceMul, Nat.reduceLeDiff, Nat.reduceLT, Int.reduceLE, Int.reduceLT, reduceCtorEq]
  refine ⟨hw, ?_⟩
  have hq0 : [q].getD 0 0 = q := rfl
  rw [hq0]
  try simp only [OpK_eq, h1, hput, HKv, take6, List.drop_zero, Int.cast_ofNat_Int, go_sem, ↓reduceIte, Nat.reduceEqDiff, Nat.reduceAdd, Nat.reduceMul, Nat.reduceLeDiff, Nat.reduceLT, Int.reduceLE, Int.reduceLT, reduceCtorEq]
  exact Kv.Fin.now hK
theorem p141r (σ : Heap) (q : Int) (w : PV) (a : List Int) (hl : a.length ≤ 1000) (id ver : Nat) (hid : σ[id]? = some (.arr ver 2 1 (ints a))) (hne : id ≠ 0) (h0 : σ[0]? = some (.box [.ref id ver 0 a.length])) (hw : w.ok = true) (K : PV → Heap → Prop)
    (hK : K (.bool true) ((σ.set id (.arr (ver + 1) 2 1 (ints (a ++ [q])))).set 0 (.box [.ref id (ver + 1) 0 (a.length + 1)]))) :
    ACall Try.prog 141 [.agg [.list (ints [q]), w], .ptr 0 0] σ K := by
  have hlt0 := (List.getElem?_eq_some_iff.1 h0).1
  have hwok : [PV.list (ints [q]), w].all PV.ok = true := by simp [PV.ok]; exact hw
  have hput : ∀ v, putC [PV.ref id ver 0 a.length] 0 [v] = [v] := fun v => by unfold putC; first | rfl | (split <;> rfl) | simp
  have h1 : ∀ o, (σ.set id o)[0]? = some (.box [.ref id ver 0 a.length]) := fun o => (List.getElem?_set_ne hne).trans h0
  refine e141 (by simp) fun _ _ => ?_
  simp only [k141, argEnv, take6, List.drop_zero, Int.cast_ofNat_Int, go_sem, ↓reduceIte, Nat.reduceEqDiff, Nat.reduceAdd, Nat.reduceMul, Nat.reduceLeDiff, Nat.reduceLT, Int.reduceLE, Int.reduceLT, reduceCtorEq]
  try simp only [OpK_eq, hwok, h0, HKv, take6, List.drop_zero, Int.cast_ofNat_Int, go_sem, ↓reduceIte, Nat.reduceEqDiff, Nat.reduceAdd, Nat.reduceMul, Nat.reduceLeDiff, Nat.reduceLT, Int.reduceLE, Int.reduceLT, reduceCtorEq]
  refine ⟨hw, ?_⟩
  have hq0 : [q].getD 0 0 = q := rfl
  rw [hq0]
  try simp only [OpK_eq, hid, h1, hput, HKv, take6, List.drop_zero, Int.cast_ofNat_Int, go_sem, ↓reduceIte, Nat.reduceEqDiff, Nat.reduceAdd, Nat.reduceMul, Nat.reduceLeDiff, Nat.reduceLT, Int.reduceLE, Int.reduceLT, reduceCtorEq]
  exact ⟨⟨Nat.le_refl _, by omega⟩, Kv.Fin.now hK⟩
/-- What has been reached, in order. -/
def rch (fs : List (List Nat)) (q : Nat) (i : Nat) : List Int := ((bl fs ldp [(q : Int)] i).take i).flatMap Prod.fst
/-- The caller's part of the heap: the list so far, and where it lies. -/
def RI (x : List Int × Option Nat) (σ : Heap) : Prop :=
  match x.2 with
  | none => σ[0]? = some (.box [.nils]) ∧ x.1 = []
  | some id => ∃ ver, σ[0]? = some (.box [.ref id ver 0 x.1.length]) ∧ σ[id]? = some (.arr ver 2 1 (ints x.1)) ∧ id ≠ 0
theorem advN_preE (fs : List (List Nat)) (bf : List Nat → List Int → List Int) (Q : List Met) (m : Met) : ∀ k, ∃ r, advN fs bf Q m k = Q ++ r
  | 0 => ⟨[], by simp [advN]⟩
  | k + 1 => by
    obtain ⟨r, h⟩ := advN_preE fs bf Q m k
    rw [advN_succ]
    split
    · exact ⟨r, h⟩
    · exact ⟨r ++ [(bf (fs.getD k []) m.1, m.2 ++ [(k : Int)])], by rw [h, List.append_assoc]⟩
theorem rch_succ {fs : List (List Nat)} {q i : Nat} (h : i < (bl fs ldp [(q : Int)] i).length) : rch fs q (i + 1) = rch fs q i ++ (bl fs ldp [(q : Int)] i)[i].1 := by
  unfold rch
  rw [bl_succ h]
  obtain ⟨r, hr⟩ := advN_preE fs ldp (bl fs ldp [(q : Int)] i) (bl fs ldp [(q : Int)] i)[i] fs.length
  rw [hr, List.take_append_of_le_length (by omega), List.take_succ_eq_append_getElem h, List.flatMap_append]
  simp
end Go.Proofs.Ytpepbomifjbgnaa
end
section
/- The points that are reached: the walk. -/
namespace Go.Proofs.Ytpepbomifjbgnaa
open Go.Kv
set_option maxRecDepth 100000
/- impl.reached -/
def k106 : KC := (.seq (.ops [⟨(some 4), none, .mv (.c (.nils))⟩])
  (.seq (.ops [⟨(some 5), none, .alloc [.nils]⟩])
  (.seq (.ops [⟨(some 6), none, .mv (.t 0)⟩, ⟨(some 7), none, .mv (.t 1)⟩, ⟨(some 8), none, .bsl false 2 1 [(.t 7)]⟩, ⟨(some 9), none, .mkfn (.func 141) [] [(.t 5)]⟩, ⟨(some 10), none, .call (.c (.fn (.func 139) [] [])) [(.t 6), (.t 8), (.c (.fn (.func 140) [] [])), (.t 9)]⟩])
  (.seq (.ops [⟨(some 11), none, .load false 1 (.t 5)⟩, ⟨(some 4), none, .mv (.t 11)⟩])
  .ret))))
theorem e106 {args : List PV} {σ : Heap} {K : PV → Heap → Prop} (hl : args.length ≤ 12) (h : Wf σ → (∀ a ∈ args, PV.upto σ.length a) → vc (mkCfg Try.prog mixed [] 12 σ.length) k106 (FinK σ.length [.t 4] K) (argEnv 0 args) σ) : ACall Try.prog 106 args σ K :=
  ACall_enter (C := mkCfg Try.prog mixed [] 12 σ.length) (c := Try.f106.body.getD .skip) Try.func106 (by kernel_rfl) (by kernel_rfl) (by kernel_rfl) rfl hl (by kernel_rfl) (by kernel_rfl) h
end Go.Proofs.Ytpepbomifjbgnaa
namespace Go.Proofs.Ytpepbomifjbgnaa
open Go.Kv
set_option linter.unusedVariables false
set_option linter.unusedSimpArgs false
attribute [local irreducible] ACall PCall KL
theorem p106 (fs : List (List Nat)) (n : Nat) (hf : ∀ f ∈ fs, Ok f n) (hfl : fs.length ≤ 1000) (q : Nat) (hq : q < n) (N : Nat) (hN : N ≤ 900) (hB : ∀ i, (bl fs ldp [(q : Int)] i).length ≤ N) (K : PV → Heap → Prop)
    (hK : ∀ i, i = (bl fs ldp [(q : Int)] i).length → K (.list (ints (rch fs q i))) []) : ACall Try.prog 106 [.list (aggs (fs.map mp)), .int .i64 q] [] K := by
  refine e106 (by simp) fun _ _ => ?_
  simp only [k106, argEnv, take6, List.drop_zero, Int.cast_ofNat_Int, go_sem, ↓reduceIte, Nat.reduceEqDiff, Nat.reduceAdd, Nat.reduceMul, Nat.reduceLeDiff, Nat.reduceLT, Int.reduceLE, Int.reduceLT, reduceCtorEq]
  try simp only [OpK_eq, take6, List.drop_zero, Int.cast_ofNat_Int, go_sem, ↓reduceIte, Nat.reduceEqDiff, Nat.reduceAdd, Nat.reduceMul, Nat.reduceLeDiff, Nat.reduceLT, Int.reduceLE, Int.reduceLT, reduceCtorEq]
  refine ACall.giveAt (id := 1) (args' := [.list (aggs (fs.map mp)), .list (ints [(q : Int)]), .fn (.func 140) [] [], .fn (.func 141) [] [.ptr 0 0]]) rfl ?_ rfl (fun i c d hc hd => ?_)
  rotate_left
  · rcases i with _ | _ | _ | _ | i
    · simp only [List.getElem?_cons_zero, Option.some.injEq] at hc hd; subst hc; subst hd
      exact .inl Imm.still
    · simp only [List.getElem?_cons_succ, List.getElem?_cons_zero, Option.some.injEq] at hc hd; subst hc; subst hd
      exact .inl (Imm.refn (l := [(q : Int)]) (solo_get (o := .arr 0 2 1 (ints [(q : Int)])) rfl) rfl)
    · simp only [List.getElem?_cons_succ, List.getElem?_cons_zero, Option.some.injEq] at hc hd; subst hc; subst hd
      exact .inl Imm.still
    · simp only [List.getElem?_cons_succ, List.getElem?_cons_zero, Option.some.injEq] at hc hd; subst hc; subst hd
      exact .inr ⟨rfl, Kv.undr_upto (by simp [PV.undr, PV.undrL])⟩
    · simp at hc
  refine p139J (α := List Int × Option Nat) fs n hf hfl 140 141 [.ptr 0 0] ldp (one n) (fun p hp => by obtain ⟨x, _, rfl⟩ := hp; simp) (fun f hf' p hp => ldp_one (hf f hf') hp) (fun f hf' p hp => p140 f n (hf f hf') p hp)
    RI (fun x id => id = 0 ∨ x.2 = some id) (fun x p y => y.1 = x.1 ++ p ∧ p.length = 1) (fun _ _ => true) (fun _ _ _ _ => False) (fun x σ id hI hU => ?_) (fun x σ σ' hI hk hl => ?_) N (fun i x => x.1 = rch fs q i ∧ x.1.length ≤ i) (fun i x σ p w l hJ hi hp hI hw K' k1 k2 => ?_) ([], none) [(q : Int)] ⟨q, hq, rfl⟩ (by omega) hB ⟨rfl, by simp⟩ (fun i x y h hJ _ hy => ?_) _ ⟨rfl, rfl⟩ _ (fun i x h hJ hgo => by cases hgo) (fun i x hi hJ σ hI => ?_)
  · obtain ⟨l, o⟩ := x
    cases o with
    | none =>
      rcases hU with rfl | hU
      · exact (List.getElem?_eq_some_iff.1 hI.1).1
      · cases hU
    | some id' =>
      obtain ⟨ver, h1, h2, h3⟩ := hI
      rcases hU with rfl | hU
      · exact (List.getElem?_eq_some_iff.1 h1).1
      · simp only [Option.some.injEq] at hU; subst hU
        exact (List.getElem?_eq_some_iff.1 h2).1
  · obtain ⟨l, o⟩ := x
    have k0 := hk 0 (.inl rfl)
    cases o with
    | none => exact ⟨k0.trans hI.1, hI.2⟩
    | some id' =>
      obtain ⟨ver, h1, h2, h3⟩ := hI
      exact ⟨ver, k0.trans h1, (hk id' (.inr rfl)).trans h2, h3⟩
  · obtain ⟨l0, o⟩ := x
    obtain ⟨y, hy, rfl⟩ := hp
    have hwok : w.ok = true := hw.cs.2
    cases o with
    | none =>
      obtain ⟨h1, h2⟩ := hI
      have h2 : l0 = [] := h2
      subst h2
      have hlt := (List.getElem?_eq_some_iff.1 h1).1
      refine p141n σ y w h1 hwok K' (k1 rfl ([(y : Int)], some σ.length) _ ⟨rfl, rfl⟩ ⟨0, ?_, ?_, by omega⟩ (by simp) fun id hid hu => ⟨?_, ?_⟩)
      · exact List.getElem?_set_self (by simp)
      · show _ = some (AObj.arr 0 2 1 (ints [(y : Int)]))
        rw [List.getElem?_set_ne (by omega)]; simp
      · rw [List.getElem?_set_ne (fun e => hu (.inl e.symm)), List.getElem?_append_left hid]
      · rintro (rfl | h)
        · exact hu (.inl rfl)
        · simp only [Option.some.injEq] at h; omega
    | some id' =>
      obtain ⟨ver, h1, h2, h3⟩ := hI
      have hlt := (List.getElem?_eq_some_iff.1 h1).1
      have hlt2 := (List.getElem?_eq_some_iff.1 h2).1
      have hJl : l0.length ≤ i := hJ.2
      refine p141r σ y w l0 (by omega) id' ver h2 h3 h1 hwok K' (k1 rfl (l0 ++ [(y : Int)], some id') _ ⟨rfl, rfl⟩ ⟨ver + 1, ?_, ?_, h3⟩ (by simp) fun id hid hu => ⟨?_, ?_⟩)
      · show _ = some (AObj.box [.ref id' (ver + 1) 0 (l0 ++ [(y : Int)]).length])
        rw [List.length_append, List.length_singleton]
        exact List.getElem?_set_self (by simpa using hlt)
      · show _ = some (AObj.arr (ver + 1) 2 1 (ints (l0 ++ [(y : Int)])))
        rw [List.getElem?_set_ne (Ne.symm h3), List.getElem?_set_self hlt2]
      · rw [List.getElem?_set_ne (fun e => hu (.inl e.symm)), List.getElem?_set_ne (fun e => hu (.inr (by rw [e])))]
      · exact hu
  · obtain ⟨h1, h2⟩ := hJ
    refine ⟨?_, ?_⟩
    · show y.1 = rch fs q (i + 1)
      rw [rch_succ h, hy.1, h1]
    · show y.1.length ≤ i + 1
      rw [hy.1, List.length_append, hy.2]; omega
  · have hK' := hK i hi
    rw [← hJ.1] at hK'
    clear hK
    obtain ⟨l0, o⟩ := x
    cases o with
    | none =>
      obtain ⟨h1, h2⟩ := hI
      have h2 : l0 = [] := h2
      subst h2
      try simp only [OpK_eq, HKv, h1, take6, List.drop_zero, Int.cast_ofNat_Int, go_sem, ↓reduceIte, Nat.reduceEqDiff, Nat.reduceAdd, Nat.reduceMul, Nat.reduceLeDiff, Nat.reduceLT, Int.reduceLE, Int.reduceLT, reduceCtorEq]
      exact Kv.Fin.freeze .nils hK'
    | some id' =>
      obtain ⟨ver, h1, h2, h3⟩ := hI
      try simp only [OpK_eq, HKv, h1, take6, List.drop_zero, Int.cast_ofNat_Int, go_sem, ↓reduceIte, Nat.reduceEqDiff, Nat.reduceAdd, Nat.reduceMul, Nat.reduceLeDiff, Nat.reduceLT, Int.reduceLE, Int.reduceLT, reduceCtorEq]
      exact Kv.Fin.freeze (.refi h2) hK'
end Go.Proofs.Ytpepbomifjbgnaa
end
