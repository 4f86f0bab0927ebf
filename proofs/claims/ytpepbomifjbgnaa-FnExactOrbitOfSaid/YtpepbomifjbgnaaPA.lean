/- All partitions of few points: both sides. -/
import Derived.Test.YtpepbomifjbgnaaCb
import Derived.Test.YtpepbomifjbgnaaCL
import Derived.Test.YtpepbomifjbgnaaCS
import Derived.Test.YtpepbomifjbgnaaLO
namespace Go.Proofs.Ytpepbomifjbgnaa
open Go.Kv
set_option maxRecDepth 100000
/- impl.partitions -/
/- live [4, 6, 10, 11, 13, 14, 15, 25, 26] -/
def k110_b0 : KC := (.seq (.ops [⟨(some 27), none, .bin .lss (.t 26) (.t 25)⟩])
  (.seq (.cond (.t 27) .skip (.exit 4))
  (.seq (.block 5 (.seq (.ops [⟨(some 28), none, .mv (.t 26)⟩, ⟨(some 8), none, .mv (.t 28)⟩])
  (.ops [⟨(some 29), none, .mv (.t 4)⟩, ⟨(some 30), none, .mv (.t 6)⟩, ⟨(some 31), none, .call (.c (.fn (.func 132) [] [])) [(.t 30)]⟩, ⟨(some 32), none, .mv (.t 8)⟩, ⟨(some 33), none, .bsl true 2 1 [(.t 32)]⟩, ⟨(some 34), none, .app (.t 31) (.t 33) 2 1⟩, ⟨(some 35), none, .bsl true 23 1 [(.t 34)]⟩, ⟨(some 36), none, .app (.t 29) (.t 35) 23 1⟩, ⟨(some 4), none, .mv (.t 36)⟩])))
  (.ops [⟨(some 37), none, .bin .add (.t 26) (.c (.int .i64 1))⟩, ⟨(some 26), none, .mv (.t 37)⟩]))))
/- live [4, 10, 11, 13, 14, 15] -/
def k110_b1 : KC := (.seq (.ops [⟨(some 16), none, .bin .lss (.t 15) (.t 14)⟩])
  (.seq (.cond (.t 16) .skip (.exit 2))
  (.seq (.block 3 (.seq (.ops [⟨(some 17), none, .idxS 1 (.t 13) (.t 15)⟩, ⟨(some 18), none, .load false 1 (.t 17)⟩, ⟨(some 6), none, .mv (.t 18)⟩])
  (.seq (.ops [⟨(some 7), none, .mv (.c (.int .i64 0))⟩])
  (.seq (.seq (.ops [⟨(some 19), none, .mv (.t 6)⟩, ⟨(some 20), none, .len false (.t 19)⟩, ⟨(some 21), none, .bin .gtr (.t 20) (.c (.int .i64 0))⟩])
  (.cond (.t 21) (.ops [⟨(some 22), none, .mv (.t 6)⟩, ⟨(some 23), none, .call (.c (.fn (.func 66) [] [])) [(.t 22)]⟩, ⟨(some 7), none, .mv (.t 23)⟩]) .skip))
  (.seq (.ops [⟨(some 24), none, .mv (.t 7)⟩, ⟨(some 25), none, .bin .add (.t 24) (.c (.int .i64 1))⟩, ⟨(some 26), none, .mv (.c (.int .i64 0))⟩])
  (.block 4 (.loop k110_b0)))))))
  (.ops [⟨(some 38), none, .bin .add (.t 15) (.c (.int .i64 1))⟩, ⟨(some 15), none, .mv (.t 38)⟩]))))
/- live [3, 10, 11] -/
def k110_b2 : KC := (.seq (.ops [⟨(some 12), none, .bin .lss (.t 11) (.t 10)⟩])
  (.seq (.cond (.t 12) .skip (.exit 0))
  (.seq (.block 1 (.seq (.ops [⟨(some 4), none, .mv (.c (.nils))⟩])
  (.seq (.seq (.ops [⟨(some 13), none, .mv (.t 3)⟩, ⟨(some 14), none, .len false (.t 13)⟩, ⟨(some 15), none, .mv (.c (.int .i64 0))⟩])
  (.block 2 (.loop k110_b1)))
  (.ops [⟨(some 39), none, .mv (.t 4)⟩, ⟨(some 3), none, .mv (.t 39)⟩]))))
  (.ops [⟨(some 40), none, .bin .add (.t 11) (.c (.int .i64 1))⟩, ⟨(some 11), none, .mv (.t 40)⟩]))))
def k110 : KC := (.seq (.ops [⟨(some 2), none, .mv (.c (.nils))⟩])
  (.seq (.ops [⟨(some 9), none, .bsl false 23 1 [(.c (.nils))]⟩, ⟨(some 3), none, .mv (.t 9)⟩])
  (.seq (.seq (.ops [⟨(some 10), none, .mv (.t 0)⟩, ⟨(some 11), none, .mv (.c (.int .i64 0))⟩])
  (.block 0 (.loop k110_b2)))
  (.seq (.ops [⟨(some 41), none, .mv (.t 3)⟩, ⟨(some 2), none, .mv (.t 41)⟩])
  .ret))))
theorem e110 {args : List PV} {σ : Heap} {K : PV → Heap → Prop} (hl : args.length ≤ 42) (h : Wf σ → (∀ a ∈ args, PV.upto σ.length a) → vc (mkCfg Try.prog mixed [33, 35] 42 σ.length) k110 (FinK σ.length [.t 2] K) (argEnv 0 args) σ) : ACall Try.prog 110 args σ K :=
  ACall_enter (C := mkCfg Try.prog mixed [33, 35] 42 σ.length) (c := Try.f110.body.getD .skip) Try.func110 (by kernel_rfl) (by kernel_rfl) (by kernel_rfl) rfl hl (by kernel_rfl) (by kernel_rfl) h
/- spec.l10Partitions -/
/- live [0, 1, 2, 7, 8] -/
def k107_b0 : KC := (.seq (.seq (.ops [⟨(some 16), none, .mv (.t 8)⟩, ⟨(some 17), none, .mv (.t 1)⟩, ⟨(some 18), none, .bin .leq (.t 16) (.t 17)⟩])
  (.cond (.t 18) .skip (.exit 0)))
  (.seq (.block 1 (.ops [⟨(some 21), none, .mv (.t 7)⟩, ⟨(some 22), none, .mv (.t 0)⟩, ⟨(some 23), none, .call (.c (.fn (.func 122) [] [])) [(.t 22)]⟩, ⟨(some 24), none, .mv (.t 8)⟩, ⟨(some 25), none, .bsl true 2 1 [(.t 24)]⟩, ⟨(some 26), none, .app (.t 23) (.t 25) 2 1⟩, ⟨(some 27), none, .mv (.t 1)⟩, ⟨(some 28), none, .mv (.t 8)⟩, ⟨(some 29), none, .bin .add (.t 28) (.c (.int .i64 1))⟩, ⟨(some 30), none, .mnmx true (.t 27) [(.t 29)]⟩, ⟨(some 31), none, .mv (.t 2)⟩, ⟨(some 32), none, .call (.c (.fn (.func 107) [] [])) [(.t 26), (.t 30), (.t 31)]⟩, ⟨(some 33), none, .app (.t 21) (.t 32) 23 1⟩, ⟨(some 7), none, .mv (.t 33)⟩]))
  (.ops [⟨(some 19), none, .mv (.t 8)⟩, ⟨(some 20), none, .bin .add (.t 19) (.c (.int .i64 1))⟩, ⟨(some 8), none, .mv (.t 20)⟩])))
def k107 : KC := (.seq (.ops [⟨(some 6), none, .mv (.c (.nils))⟩])
  (.seq (.seq (.ops [⟨(some 9), none, .mv (.t 0)⟩, ⟨(some 10), none, .len false (.t 9)⟩, ⟨(some 11), none, .mv (.t 2)⟩, ⟨(some 12), none, .bin .eql (.t 10) (.t 11)⟩])
  (.cond (.t 12) (.seq (.ops [⟨(some 13), none, .mv (.t 0)⟩, ⟨(some 14), none, .bsl false 23 1 [(.t 13)]⟩, ⟨(some 6), none, .mv (.t 14)⟩])
  .ret) .skip))
  (.seq (.ops [⟨(some 15), none, .bsl false 23 1 []⟩, ⟨(some 7), none, .mv (.t 15)⟩])
  (.seq (.seq (.ops [⟨(some 8), none, .mv (.c (.int .i64 0))⟩])
  (.block 0 (.loop k107_b0)))
  (.seq (.ops [⟨(some 34), none, .mv (.t 7)⟩, ⟨(some 6), none, .mv (.t 34)⟩])
  .ret)))))
theorem e107 {args : List PV} {σ : Heap} {K : PV → Heap → Prop} (hl : args.length ≤ 35) (h : Wf σ → (∀ a ∈ args, PV.upto σ.length a) → vc (mkCfg Try.prog mixed [25] 35 σ.length) k107 (FinK σ.length [.t 6] K) (argEnv 0 args) σ) : ACall Try.prog 107 args σ K :=
  ACall_enter (C := mkCfg Try.prog mixed [25] 35 σ.length) (c := Try.f107.body.getD .skip) Try.func107 (by kernel_rfl) (by kernel_rfl) (by kernel_rfl) rfl hl (by kernel_rfl) (by kernel_rfl) h
/- slices.Clone[[]int64,int64] -/
def k132 : KC := (.seq (.ops [⟨(some 2), none, .mv (.c (.nils))⟩])
  (.seq (.seq (.ops [⟨(some 3), none, .mv (.t 0)⟩, ⟨(some 4), none, .isn false (.t 3)⟩])
  (.cond (.t 4) (.seq (.ops [⟨(some 2), none, .mv (.c (.nils))⟩])
  .ret) .skip))
  (.seq (.ops [⟨(some 5), none, .bsl false 2 1 []⟩, ⟨(some 6), none, .mv (.t 0)⟩, ⟨(some 7), none, .app (.t 5) (.t 6) 2 1⟩, ⟨(some 2), none, .mv (.t 7)⟩])
  .ret)))
theorem e132 {args : List PV} {σ : Heap} {K : PV → Heap → Prop} (hl : args.length ≤ 8) (h : Wf σ → (∀ a ∈ args, PV.upto σ.length a) → vc (mkCfg Try.prog mixed [] 8 σ.length) k132 (FinK σ.length [.t 2] K) (argEnv 0 args) σ) : ACall Try.prog 132 args σ K :=
  ACall_enter (C := mkCfg Try.prog mixed [] 8 σ.length) (c := Try.f132.body.getD .skip) Try.func132 (by kernel_rfl) (by kernel_rfl) (by kernel_rfl) rfl hl (by kernel_rfl) (by kernel_rfl) h
end Go.Proofs.Ytpepbomifjbgnaa
namespace Go.Proofs.Ytpepbomifjbgnaa
open Go.Kv
set_option linter.unusedVariables false
set_option linter.unusedSimpArgs false
attribute [local irreducible] ACall PCall KL
def mst (P : List Int) : Nat := if P.length = 0 then 0 else (mxl P + 1).toNat
def ext (P : List Int) (k : Nat) : List (List Int) := (List.range k).map fun c : Nat => P ++ [(c : Int)]
def nxt (T : List (List Int)) (y : Nat) : List (List Int) := ((T.take y).map fun P => ext P (mst P + 1)).flatten
/-- All partitions of n points. -/
def prt : Nat → List (List Int)
  | 0 => [[]]
  | n + 1 => nxt (prt n) (prt n).length
theorem nxt_succ (T : List (List Int)) {y : Nat} (h : y < T.length) : nxt T (y + 1) = nxt T y ++ ext T[y] (mst T[y] + 1) := by
  unfold nxt; rw [List.take_succ_eq_append_getElem h]
  simp only [List.map_append, List.flatten_append, List.map_cons, List.map_nil, List.flatten_cons, List.flatten_nil, List.append_nil]
theorem ext_succ (P : List Int) (k : Nat) : ext P (k + 1) = ext P k ++ [P ++ [(k : Int)]] := by simp [ext, List.range_succ]
@[simp] theorem ext_length (P : List Int) (k : Nat) : (ext P k).length = k := by simp [ext]
def okP (n : Nat) (P : List Int) : Bool := decide (P.length = n) && P.all (fun k => decide (0 ≤ k ∧ k ≤ 4)) && decide (P.length = 0 ∨ 0 ≤ mxl P) && decide (mxl P ≤ 4)
set_option maxRecDepth 100000 in
theorem prt_fact : ((List.range 6).all fun n => decide ((prt n).length ≤ 52) && (prt n).all (okP n)) = true := by decide
theorem prt_len {n : Nat} (h : n ≤ 5) : (prt n).length ≤ 52 := by
  have := List.all_eq_true.1 prt_fact n (by simp; omega)
  simp only [Bool.and_eq_true, decide_eq_true_eq] at this
  exact this.1
theorem prt_ok {n : Nat} (h : n ≤ 5) {P : List Int} (hP : P ∈ prt n) : P.length = n ∧ (∀ k ∈ P, 0 ≤ k ∧ k ≤ 4) ∧ (P.length = 0 ∨ 0 ≤ mxl P) ∧ mxl P ≤ 4 := by
  have := List.all_eq_true.1 prt_fact n (by simp; omega)
  simp only [Bool.and_eq_true, decide_eq_true_eq] at this
  have := List.all_eq_true.1 this.2 P hP
  simp only [okP, Bool.and_eq_true, decide_eq_true_eq, List.all_eq_true] at this
  exact ⟨this.1.1.1, this.1.1.2, this.1.2, this.2⟩
theorem prt_pref {n y : Nat} (h : n < 5) (hy : y ≤ (prt n).length) : (nxt (prt n) y).length ≤ 52 := by
  have h1 := prt_len (n := n + 1) (by omega)
  have e : prt (n + 1) = nxt (prt n) y ++ (((prt n).drop y).map fun P => ext P (mst P + 1)).flatten := by
    show nxt (prt n) (prt n).length = _
    unfold nxt
    rw [List.take_length, ← List.flatten_append, ← List.map_append, List.take_append_drop]
  rw [e, List.length_append] at h1
  omega
theorem tabLen {e2 e1 : TypeId} {σ : Heap} {v : PV} {T : List (List Int)} (h : TabN e2 e1 σ v T) (K : PV → Prop) : aLen v σ K = K (.int .i64 T.length) := by
  cases h with
  | nil => rfl
  | tab id ver rs t h =>
    obtain ⟨junk, ho⟩ := h.out
    simp [aLen, ho]
theorem HKv (σ : Heap) (K : PV → Heap → Prop) (v : PV) : HK σ K v = K v σ := rfl
/-- A copy of a slice of numbers. -/
theorem p132P (l : List Int) (hl : l.length ≤ 4294967296) : ACall Try.prog 132 [.list (ints l)] [] (fun v s => (v = .ref 0 1 0 l.length ∧ s = [.arr 1 2 1 (ints l)]) ∨ (l = [] ∧ v = .nils ∧ s = [])) := by
  cases l with
  | nil =>
    refine e132 (by simp) fun _ _ => ?_
    simp only [k132, argEnv, take6, List.drop_zero, Int.cast_ofNat_Int, go_sem, ↓reduceIte, Nat.reduceEqDiff, Nat.reduceAdd, Nat.reduceMul, Nat.reduceLeDiff, Nat.reduceLT, Int.reduceLE, Int.reduceLT, reduceCtorEq]
    have e : ∀ K : Bool → Prop, aIsn (.list (ints [])) K = (K true ∧ K false) := fun _ => rfl
    rw [e]
    exact ⟨⟨fun _ => Kv.Fin.now (.inr ⟨rfl, rfl⟩), fun h => by cases h⟩, ⟨fun h => (by cases h), fun _ => Kv.Fin.now (.inl ⟨rfl, rfl⟩)⟩⟩
  | cons x l =>
    refine e132 (by simp) fun _ _ => ?_
    simp only [k132, argEnv, take6, List.drop_zero, Int.cast_ofNat_Int, go_sem, ↓reduceIte, Nat.reduceEqDiff, Nat.reduceAdd, Nat.reduceMul, Nat.reduceLeDiff, Nat.reduceLT, Int.reduceLE, Int.reduceLT, reduceCtorEq]
    have e : ∀ K : Bool → Prop, aIsn (.list (ints (x :: l))) K = K false := fun _ => rfl
    rw [e]
    try simp only [take6, List.drop_zero, Int.cast_ofNat_Int, go_sem, ↓reduceIte, Nat.reduceEqDiff, Nat.reduceAdd, Nat.reduceMul, Nat.reduceLeDiff, Nat.reduceLT, Int.reduceLE, Int.reduceLT, reduceCtorEq]
    refine ⟨by simp at hl; omega, Kv.Fin.now (.inl ⟨rfl, ?_⟩)⟩
    simp
theorem lp110 {fz : List Nat} {N n0 : Nat} {Q : Exit → Env → Heap → Prop} {env : Env} {σ0 : Heap} {P : List Int} {T0 : List (List Int)} {m : Nat} {v0 b10 b11 b13 b14 b15 : PV} (hPl : P.length ≤ 5) (hm : m ≤ 5) (hT0 : T0.length ≤ 100) (hT : TabN 23 2 σ0 v0 T0) (hf : Free σ0)
    (hE : keep [4, 6, 10, 11, 13, 14, 15, 25, 26] env = [(4, v0), (6, .list (ints P)), (10, b10), (11, b11), (13, b13), (14, b14), (15, b15), (25, .int .i64 (m + 1)), (26, .int .i64 0)])
    (hQ : ∀ a v' σ', TabN 23 2 σ' v' (T0 ++ Go.Proofs.Ytpepbomifjbgnaa.ext P (m + 1)) → Free σ' → Q (.exit 4) [(27, a), (4, v'), (6, .list (ints P)), (10, b10), (11, b11), (13, b13), (14, b14), (15, b15), (25, .int .i64 (m + 1)), (26, .int .i64 (m + 1 : Nat))] σ') :
    KL (mkCfg Try.prog mixed fz N n0) k110_b0 Q env σ0 := by
  refine KL_ind k110_b0.eq_1 (fun z : Nat × PV × Heap => [(4, z.2.1), (6, .list (ints P)), (10, b10), (11, b11), (13, b13), (14, b14), (15, b15), (25, .int .i64 (m + 1)), (26, .int .i64 z.1)]) (fun z => z.2.2) (fun z => z.1 ≤ m + 1 ∧ TabN 23 2 z.2.2 z.2.1 (T0 ++ Go.Proofs.Ytpepbomifjbgnaa.ext P z.1) ∧ Free z.2.2) (fun z => m + 1 - z.1) [4, 6, 10, 11, 13, 14, 15, 25, 26] (0, v0, σ0) hE rfl ⟨Nat.zero_le _, by simpa [Go.Proofs.Ytpepbomifjbgnaa.ext] using hT, hf⟩ fun ⟨k, v, σ⟩ ⟨hk, hTk, hfk⟩ ih => ?_
  simp only at hk hTk hfk
  have hes := ext_succ P k
  try simp only [HKv, OpK_eq, take6, List.drop_zero, Int.cast_ofNat_Int, go_sem, ↓reduceIte, Nat.reduceEqDiff, Nat.reduceAdd, Nat.reduceMul, Nat.reduceLeDiff, Nat.reduceLT, Int.reduceLE, Int.reduceLT, reduceCtorEq]
  refine ⟨fun h1 => ?_, fun h1 => ?_⟩
  · refine (p132P P (by omega)).go fun v' s hv => ?_
    have hnext : ∀ v2 σ2, TabN 23 2 σ2 v2 ((T0 ++ Go.Proofs.Ytpepbomifjbgnaa.ext P k) ++ [P ++ [(k : Int)]]) → Free σ2 → ∀ env' σ', keep [4, 6, 10, 11, 13, 14, 15, 25, 26] env' = [(4, v2), (6, .list (ints P)), (10, b10), (11, b11), (13, b13), (14, b14), (15, b15), (25, .int .i64 (m + 1)), (26, .int .i64 (k + 1 : Nat))] → σ' = σ2 → KL (mkCfg Try.prog mixed fz N n0) k110_b0 Q env' σ' := fun v2 σ2 q1 q2 env' σ' q3 q4 =>
      ih (k + 1, v2, σ2) ⟨by show k + 1 ≤ m + 1; omega, by rw [List.append_assoc, ← hes] at q1; exact q1, q2⟩ (by show m + 1 - (k + 1) < m + 1 - k; omega) env' σ' q3 q4
    have hself : ∀ a : AObj, (σ ++ [a])[σ.length]? = some a := fun a => by simp
    have hset : ∀ a b : AObj, (σ ++ [a]).set σ.length b = σ ++ [b] := fun a b => by simp [List.set_append_right]
    rcases hv with ⟨hv, hs⟩ | ⟨hP, hv, hs⟩
    · subst hv; subst hs
      try simp only [HKv, OpK_eq, hself, hset, ren_ref, take6, List.drop_zero, Int.cast_ofNat_Int, go_sem, ↓reduceIte, Nat.reduceEqDiff, Nat.reduceAdd, Nat.reduceMul, Nat.reduceLeDiff, Nat.reduceLT, Int.reduceLE, Int.reduceLT, reduceCtorEq]
      refine ⟨by omega, TabN.pushRow hTk hfk (P ++ [(k : Int)]) (by simp) (by simp; omega) fun v2 σ2 q1 q2 => ?_⟩
      try simp only [HKv, OpK_eq, take6, List.drop_zero, Int.cast_ofNat_Int, go_sem, ↓reduceIte, Nat.reduceEqDiff, Nat.reduceAdd, Nat.reduceMul, Nat.reduceLeDiff, Nat.reduceLT, Int.reduceLE, Int.reduceLT, reduceCtorEq]
      exact ⟨by omega, hnext v2 σ2 q1 q2 _ _ (by simp [keep]) rfl⟩
    · subst hv; subst hs
      subst hP
      try simp only [HKv, OpK_eq, hself, hset, List.append_nil, take6, List.drop_zero, Int.cast_ofNat_Int, go_sem, ↓reduceIte, Nat.reduceEqDiff, Nat.reduceAdd, Nat.reduceMul, Nat.reduceLeDiff, Nat.reduceLT, Int.reduceLE, Int.reduceLT, reduceCtorEq]
      refine TabN.pushRow (n := 1) (vr := 0) hTk hfk ([] ++ [(k : Int)]) (by simp) (by simp; omega) fun v2 σ2 q1 q2 => ?_
      try simp only [HKv, OpK_eq, take6, List.drop_zero, Int.cast_ofNat_Int, go_sem, ↓reduceIte, Nat.reduceEqDiff, Nat.reduceAdd, Nat.reduceMul, Nat.reduceLeDiff, Nat.reduceLT, Int.reduceLE, Int.reduceLT, reduceCtorEq]
      exact ⟨by omega, hnext v2 σ2 q1 q2 _ _ (by simp [keep]) rfl⟩
  · obtain rfl : k = m + 1 := by omega
    exact hQ _ _ _ hTk hfk
theorem p110 (n : Nat) (h5 : n ≤ 5) : ACall Try.prog 110 [.int .i64 n] [] (fun v s => TabN 23 2 s v (prt n) ∧ Free s) := by
  refine e110 (by simp) fun _ _ => ?_
  simp only [k110, argEnv, take6, List.drop_zero, Int.cast_ofNat_Int, go_sem, ↓reduceIte, Nat.reduceEqDiff, Nat.reduceAdd, Nat.reduceMul, Nat.reduceLeDiff, Nat.reduceLT, Int.reduceLE, Int.reduceLT, reduceCtorEq]
  refine KL_ind k110_b2.eq_1 (fun x : Nat × PV × Heap => [(3, x.2.1), (10, .int .i64 n), (11, .int .i64 x.1)]) (fun x => x.2.2) (fun x => x.1 ≤ n ∧ TabN 23 2 x.2.2 x.2.1 (prt x.1) ∧ Free x.2.2) (fun x => n - x.1) [3, 10, 11] (0, .ref 0 0 0 1, [.arr 0 23 1 [.nils]]) (by simp [keep]) rfl ⟨Nat.zero_le _, ?_, ?_⟩ fun ⟨x, v, σ⟩ ⟨hx, hT, hf⟩ ih => ?_
  · exact .tab 0 0 [⟨true, 0, 0, [], []⟩] [[]] ⟨⟨[], rfl⟩, rfl, fun i r l hr hl => (by
      have h1 := List.mem_of_getElem? hr
      have h2 := List.mem_of_getElem? hl
      simp at h1 h2; subst h1; subst h2
      exact ⟨fun _ => rfl, fun h => by cases h⟩), fun i j r q hr hq h1 => (by
      have h3 := List.mem_of_getElem? hr
      simp at h3; subst h3; cases h1), fun r hr h1 => (by simp at hr; subst hr; cases h1)⟩
  · intro o ho
    simp at ho; subst ho
    intro c hc
    simp [flat, PV.cs] at hc; subst hc
    exact Plain.nils.fr
  simp only at hx hT hf
  have hlen := tabLen hT
  try simp only [HKv, OpK_eq, hlen, take6, List.drop_zero, Int.cast_ofNat_Int, go_sem, ↓reduceIte, Nat.reduceEqDiff, Nat.reduceAdd, Nat.reduceMul, Nat.reduceLeDiff, Nat.reduceLT, Int.reduceLE, Int.reduceLT, reduceCtorEq]
  refine ⟨fun h1 => ?_, fun h1 => ?_⟩
  · have hxn : x < n := by omega
    have hpl := prt_len (n := x) (by omega)
    refine KL_freeze (env' := [(4, .nils), (10, .int .i64 n), (11, .int .i64 x), (13, .list (rows (prt x))), (14, .int .i64 (prt x).length), (15, .int .i64 0)]) [4, 10, 11, 13, 14, 15] rfl (by simp [keep]) (.cons Imm.still (.cons Imm.still (.cons Imm.still (.cons hT.imm (.cons Imm.still (.cons Imm.still .nil)))))) ?_
    refine KL_ind k110_b1.eq_1 (fun z : Nat × PV × Heap => [(4, z.2.1), (10, .int .i64 n), (11, .int .i64 x), (13, .list (rows (prt x))), (14, .int .i64 (prt x).length), (15, .int .i64 z.1)]) (fun z => z.2.2) (fun z => z.1 ≤ (prt x).length ∧ TabN 23 2 z.2.2 z.2.1 (nxt (prt x) z.1) ∧ Free z.2.2) (fun z => (prt x).length - z.1) [4, 10, 11, 13, 14, 15] (0, .nils, []) (by simp [keep]) rfl ⟨Nat.zero_le _, .nil, .nil⟩ fun ⟨y, v1, σ1⟩ ⟨hy, hT1, hf1⟩ ihy => ?_
    simp only at hy hT1 hf1
    try simp only [HKv, OpK_eq, take6, List.drop_zero, Int.cast_ofNat_Int, go_sem, ↓reduceIte, Nat.reduceEqDiff, Nat.reduceAdd, Nat.reduceMul, Nat.reduceLeDiff, Nat.reduceLT, Int.reduceLE, Int.reduceLT, reduceCtorEq]
    refine ⟨fun h2 => ?_, fun h2 => ?_⟩
    · have hyl : y < (prt x).length := by omega
      obtain ⟨hPl, hPk, hPm, hPm4⟩ := prt_ok (n := x) (by omega) (List.getElem_mem hyl)
      have eP : (prt x).getD y [] = (prt x)[y] := by simp [List.getD_eq_getElem?_getD, hyl]
      have hns := nxt_succ (prt x) hyl
      have hpr := prt_pref (n := x) (y := y + 1) (by omega) (by omega)
      rw [hns, List.length_append, ext_length] at hpr
      rw [eP]
      generalize hP : (prt x)[y] = P at *
      have hx4 : x ≤ 4 := by omega
      refine ⟨by omega, fun _ => ⟨fun h3 => ?_, fun h3 => ?_⟩⟩
      · refine (p66 P (by omega) (by omega) (fun k hk => (hPk k hk).1) (by omega)).go ?_
        have hmst : (mxl P + 1 : Int) = (mst P : Nat) := by unfold mst; rw [if_neg (by omega)]; omega
        have hm5 : mst P ≤ 5 := by omega
        try simp only [hmst, take6, List.drop_zero, Int.cast_ofNat_Int, go_sem, ↓reduceIte, Nat.reduceEqDiff, Nat.reduceAdd, Nat.reduceMul, Nat.reduceLeDiff, Nat.reduceLT, Int.reduceLE, Int.reduceLT, reduceCtorEq]
        refine ⟨by omega, ?_⟩
        refine lp110 (P := P) (m := mst P) (b10 := .int .i64 n) (b11 := .int .i64 x) (b13 := .list (rows (prt x))) (b14 := .int .i64 (prt x).length) (b15 := .int .i64 y) (by omega) hm5 (by omega) hT1 hf1 (by simp [keep]) fun a v' σ' hT' hf' => ?_
        rw [← hns] at hT'
        try simp only [take6, List.drop_zero, Int.cast_ofNat_Int, go_sem, ↓reduceIte, Nat.reduceEqDiff, Nat.reduceAdd, Nat.reduceMul, Nat.reduceLeDiff, Nat.reduceLT, Int.reduceLE, Int.reduceLT, reduceCtorEq]
        exact ⟨by omega, ihy (y + 1, v', σ') ⟨by show y + 1 ≤ (prt x).length; omega, hT', hf'⟩ (by show (prt x).length - (y + 1) < (prt x).length - y; omega) _ _ (by simp [keep]) rfl⟩
      · have hm0 : mst P = 0 := by unfold mst; rw [if_pos (by omega)]
        refine ⟨by omega, ?_⟩
        refine lp110 (P := P) (m := mst P) (b10 := .int .i64 n) (b11 := .int .i64 x) (b13 := .list (rows (prt x))) (b14 := .int .i64 (prt x).length) (b15 := .int .i64 y) (by omega) (by omega) (by omega) hT1 hf1 (by simp [keep, hm0]) fun a v' σ' hT' hf' => ?_
        rw [← hns] at hT'
        try simp only [take6, List.drop_zero, Int.cast_ofNat_Int, go_sem, ↓reduceIte, Nat.reduceEqDiff, Nat.reduceAdd, Nat.reduceMul, Nat.reduceLeDiff, Nat.reduceLT, Int.reduceLE, Int.reduceLT, reduceCtorEq]
        exact ⟨by omega, ihy (y + 1, v', σ') ⟨by show y + 1 ≤ (prt x).length; omega, hT', hf'⟩ (by show (prt x).length - (y + 1) < (prt x).length - y; omega) _ _ (by simp [keep]) rfl⟩
    · obtain rfl : y = (prt x).length := by omega
      exact ⟨by omega, ih (x + 1, v1, σ1) ⟨by show x + 1 ≤ n; omega, hT1, hf1⟩ (by show n - (x + 1) < n - x; omega) _ _ (by simp [keep]) rfl⟩
  · obtain rfl : x = n := by omega
    exact Kv.Fin.now ⟨hT, hf⟩
/-- The specification's recursion. -/
def spt : Nat → List Int → Nat → List (List Int)
  | 0, b, _ => [b]
  | d + 1, b, nx => ((List.range (nx + 1)).map fun c : Nat => spt d (b ++ [(c : Int)]) (max nx (c + 1))).flatten
def sptN (d : Nat) (b : List Int) (nx x : Nat) : List (List Int) := ((List.range x).map fun c : Nat => spt d (b ++ [(c : Int)]) (max nx (c + 1))).flatten
theorem sptN_succ (d : Nat) (b : List Int) (nx x : Nat) : sptN d b nx (x + 1) = sptN d b nx x ++ spt d (b ++ [(x : Int)]) (max nx (x + 1)) := by
  simp [sptN, List.range_succ]
theorem spt_le : ∀ (d : Nat) (b : List Int) (nx : Nat), nx + d ≤ 6 → (spt d b nx).length ≤ 7 ^ d ∧ ∀ x, x ≤ nx + 1 → 1 ≤ d → (sptN (d - 1) b nx x).length ≤ x * 7 ^ (d - 1)
  | 0, b, nx, _ => ⟨by simp [spt], fun x _ h => by omega⟩
  | d + 1, b, nx, h => by
    have h1 : ∀ x, x ≤ nx + 1 → (sptN d b nx x).length ≤ x * 7 ^ d := by
      intro x
      induction x with
      | zero => intro _; simp [sptN]
      | succ x ih =>
        intro hx
        rw [sptN_succ, List.length_append, Nat.succ_mul]
        have := (spt_le d (b ++ [(x : Int)]) (max nx (x + 1)) (by omega)).1
        have := ih (by omega)
        omega
    refine ⟨?_, fun x hx _ => by rw [Nat.add_sub_cancel]; exact h1 x hx⟩
    have h2 := h1 (nx + 1) (Nat.le_refl _)
    have h3 : (nx + 1) * 7 ^ d ≤ 7 * 7 ^ d := Nat.mul_le_mul_right _ (by omega)
    rw [Nat.pow_succ, Nat.mul_comm]
    exact Nat.le_trans h2 h3
set_option maxRecDepth 100000 in
theorem spt_prt : ((List.range 6).all fun n => decide (n = 0 ∨ spt (n - 1) [0] 1 = prt n)) = true := by decide
theorem spt_eq {n : Nat} (h1 : 1 ≤ n) (h5 : n ≤ 5) : spt (n - 1) [0] 1 = prt n := by
  have := List.all_eq_true.1 spt_prt n (by simp; omega)
  simp only [decide_eq_true_eq] at this
  rcases this with h | h
  · omega
  · exact h
theorem p107 (n : Nat) (h5 : n ≤ 5) : ∀ (d : Nat) (b : List Int) (nx : Nat), b.length + d = n → nx + d ≤ 6 → 1 ≤ b.length →
    Pure Try.prog 107 [.list (ints b), .int .i64 nx, .int .i64 n] (.list (rows (spt d b nx))) := by
  intro d
  induction d with
  | zero =>
    intro b nx hb hnx hb1
    refine e107 (by simp) fun _ _ => ?_
    simp only [k107, argEnv, take6, List.drop_zero, Int.cast_ofNat_Int, go_sem, ↓reduceIte, Nat.reduceEqDiff, Nat.reduceAdd, Nat.reduceMul, Nat.reduceLeDiff, Nat.reduceLT, Int.reduceLE, Int.reduceLT, reduceCtorEq]
    refine ⟨fun _ => ?_, fun h => absurd h (by omega)⟩
    exact Kv.Fin.freeze (Imm.refr (l := [b]) rfl rfl) ⟨rfl, rfl⟩
  | succ d ihd =>
    intro b nx hb hnx hb1
    have hp7 : 7 ^ d ≤ 16807 := by
      have : 7 ^ d ≤ 7 ^ 5 := Nat.pow_le_pow_right (by omega) (by omega)
      omega
    refine e107 (by simp) fun _ _ => ?_
    simp only [k107, argEnv, take6, List.drop_zero, Int.cast_ofNat_Int, go_sem, ↓reduceIte, Nat.reduceEqDiff, Nat.reduceAdd, Nat.reduceMul, Nat.reduceLeDiff, Nat.reduceLT, Int.reduceLE, Int.reduceLT, reduceCtorEq]
    refine ⟨fun h => absurd h (by omega), fun _ => ?_⟩
    refine KL_indD k107_b0.eq_1 (fun x : Nat × Nat => [(0, .list (ints b)), (1, .int .i64 nx), (2, .int .i64 n), (7, .ref 0 x.2 0 (sptN d b nx x.1).length), (8, .int .i64 x.1)]) (fun x => [.arr x.2 23 1 (rows (sptN d b nx x.1))]) (fun x => x.1 ≤ nx + 1) (fun x => nx + 1 - x.1) [0, 1, 2, 7, 8] (0, 0) (by simp [keep, sptN]) ⟨[], by simp [sptN, rows]⟩ (Nat.zero_le _) (fun x hx => ?_) fun ⟨x, ver⟩ hx ih => ?_
    · exact ⟨Nat.zero_le _, Env.undr_upto (by simp [Env.undr, PV.undr, undrX_ints]), .cons (by simp [AObj.undr, undrX_rows]) (.nil _)⟩
    simp only at hx
    have hsx := sptN_succ d b nx x
    try simp only [take6, List.drop_zero, Int.cast_ofNat_Int, go_sem, ↓reduceIte, Nat.reduceEqDiff, Nat.reduceAdd, Nat.reduceMul, Nat.reduceLeDiff, Nat.reduceLT, Int.reduceLE, Int.reduceLT, reduceCtorEq]
    refine ⟨fun h1 => ?_, fun h1 => ?_⟩
    · have hle := (spt_le (d + 1) b nx hnx).2 (x + 1) (by omega) (by omega)
      rw [Nat.add_sub_cancel] at hle
      have hm7 : (x + 1) * 7 ^ d ≤ 7 * 16807 := Nat.mul_le_mul (by omega) hp7
      rw [hsx, List.length_append] at hle
      refine (p122 b (by omega)).go fun v s ⟨hv, hs⟩ => ?_
      subst hv; subst hs
      try simp only [ren_ref, take6, List.drop_zero, Int.cast_ofNat_Int, go_sem, ↓reduceIte, Nat.reduceEqDiff, Nat.reduceAdd, Nat.reduceMul, Nat.reduceLeDiff, Nat.reduceLT, Int.reduceLE, Int.reduceLT, reduceCtorEq]
      have hmx : max (nx : Int) ((x : Int) + 1) = ((max nx (x + 1) : Nat) : Int) := by omega
      rw [hmx]
      refine ⟨by omega, by omega, (ihd (b ++ [(x : Int)]) (max nx (x + 1)) (by simp; omega) (by omega) (by simp)).give (id := 1) rfl (.cons (Imm.refn (solo_get rfl) (by simp)) (.cons Imm.still (.cons Imm.still (.nil _)))) ?_⟩
      try simp only [take6, List.drop_zero, Int.cast_ofNat_Int, go_sem, ↓reduceIte, Nat.reduceEqDiff, Nat.reduceAdd, Nat.reduceMul, Nat.reduceLeDiff, Nat.reduceLT, Int.reduceLE, Int.reduceLT, reduceCtorEq]
      refine ⟨⟨?_, ?_⟩, by omega, ih (x + 1, ver + 1) (by show x + 1 ≤ nx + 1; omega) (by show nx + 1 - (x + 1) < nx + 1 - x; omega) _ _ (by simp [keep, hsx]) ⟨[.dead], ?_⟩⟩
      · exact Nat.le_refl _
      · omega
      · show _ = [AObj.arr (ver + 1) 23 1 (rows (sptN d b nx (x + 1))), AObj.dead]
        rw [hsx]; simp [rows]
    · obtain rfl : x = nx + 1 := by omega
      exact Kv.Fin.freeze (Imm.refr rfl rfl) ⟨rfl, rfl⟩
end Go.Proofs.Ytpepbomifjbgnaa
