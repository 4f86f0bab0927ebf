/- All partitions of few points: both sides. -/
import Derived.Test.YtpfapiiinkkcgaaGreatCb
import Derived.Test.YtpfapiiinkkcgaaGreatG3
namespace Go.Proofs.YtpfapiiinkkcgaaGreat
open Go.Kv
set_option maxRecDepth 100000
/- slices.Clone[[]int64,int64] -/
def k191 : KC := (.seq (.ops [⟨(some 2), none, .mv (.c (.nils))⟩])
  (.seq (.seq (.ops [⟨(some 3), none, .mv (.t 0)⟩, ⟨(some 4), none, .isn false (.t 3)⟩])
  (.cond (.t 4) (.seq (.ops [⟨(some 2), none, .mv (.c (.nils))⟩])
  .ret) .skip))
  (.seq (.ops [⟨(some 5), none, .bsl false 2 1 []⟩, ⟨(some 6), none, .mv (.t 0)⟩, ⟨(some 7), none, .app (.t 5) (.t 6) 2 1⟩, ⟨(some 2), none, .mv (.t 7)⟩])
  .ret)))
theorem e191 {args : List PV} {σ : Heap} {K : PV → Heap → Prop} (hl : args.length ≤ 8) (h : Wf σ → (∀ a ∈ args, PV.upto σ.length a) → vc (mkCfg Tryz.prog mixed [] 8 σ.length) k191 (FinK σ.length [.t 2] K) (argEnv 0 args) σ) : ACall Tryz.prog 191 args σ K :=
  ACall_enter (C := mkCfg Tryz.prog mixed [] 8 σ.length) (c := Tryz.f191.body.getD .skip) Tryz.func191 (by kernel_rfl) (by kernel_rfl) (by kernel_rfl) rfl hl (by kernel_rfl) (by kernel_rfl) h
end Go.Proofs.YtpfapiiinkkcgaaGreat
namespace Go.Proofs.YtpfapiiinkkcgaaGreat
open Go.Kv
set_option linter.unusedVariables false
set_option linter.unusedSimpArgs false
attribute [local irreducible] ACall PCall KL
def mst (P : List Int) : Nat := if P.length = 0 then 0 else (mxl P + 1).toNat
def ext (P : List Int) (k : Nat) : List (List Int) := (List.range k).map fun c : Nat => P ++ [(c : Int)]
def nxt (T : List (List Int)) (y : Nat) : List (List Int) := ((T.take y).map fun P => ext P (mst P + 1)).flatten
/-- All partitions of n points. -/
def prt : Nat → List (List Int)
  | 0 => [[]]
  | n + 1 => nxt (prt n) (prt n).length
theorem nxt_succ (T : List (List Int)) {y : Nat} (h : y < T.length) : nxt T (y + 1) = nxt T y ++ ext T[y] (mst T[y] + 1) := by
  unfold nxt; rw [List.take_succ_eq_append_getElem h]
  simp only [List.map_append, List.flatten_append, List.map_cons, List.map_nil, List.flatten_cons, List.flatten_nil, List.append_nil]
theorem ext_succ (P : List Int) (k : Nat) : ext P (k + 1) = ext P k ++ [P ++ [(k : Int)]] := by simp [ext, List.range_succ]
@[simp] theorem ext_length (P : List Int) (k : Nat) : (ext P k).length = k := by simp [ext]
def okP (n : Nat) (P : List Int) : Bool := decide (P.length = n) && P.all (fun k => decide (0 ≤ k ∧ k ≤ 4)) && decide (P.length = 0 ∨ 0 ≤ mxl P) && decide (mxl P ≤ 4)
set_option maxRecDepth 100000 in
theorem prt_fact : ((List.range 6).all fun n => decide ((prt n).length ≤ 52) && (prt n).all (okP n)) = true := by decide
theorem prt_len {n : Nat} (h : n ≤ 5) : (prt n).length ≤ 52 := by
  have := List.all_eq_true.1 prt_fact n (by simp; omega)
  simp only [Bool.and_eq_true, decide_eq_true_eq] at this
  exact this.1
theorem prt_ok {n : Nat} (h : n ≤ 5) {P : List Int} (hP : P ∈ prt n) : P.length = n ∧ (∀ k ∈ P, 0 ≤ k ∧ k ≤ 4) ∧ (P.length = 0 ∨ 0 ≤ mxl P) ∧ mxl P ≤ 4 := by
  have := List.all_eq_true.1 prt_fact n (by simp; omega)
  simp only [Bool.and_eq_true, decide_eq_true_eq] at this
  have := List.all_eq_true.1 this.2 P hP
  simp only [okP, Bool.and_eq_true, decide_eq_true_eq, List.all_eq_true] at this
  exact ⟨this.1.1.1, this.1.1.2, this.1.2, this.2⟩
theorem prt_pref {n y : Nat} (h : n < 5) (hy : y ≤ (prt n).length) : (nxt (prt n) y).length ≤ 52 := by
  have h1 := prt_len (n := n + 1) (by omega)
  have e : prt (n + 1) = nxt (prt n) y ++ (((prt n).drop y).map fun P => ext P (mst P + 1)).flatten := by
    show nxt (prt n) (prt n).length = _
    unfold nxt
    rw [List.take_length, ← List.flatten_append, ← List.map_append, List.take_append_drop]
  rw [e, List.length_append] at h1
  omega
theorem tabLen {e2 e1 : TypeId} {σ : Heap} {v : PV} {T : List (List Int)} (h : TabN e2 e1 σ v T) (K : PV → Prop) : aLen v σ K = K (.int .i64 T.length) := by
  cases h with
  | nil => rfl
  | tab id ver rs t h =>
    obtain ⟨junk, ho⟩ := h.out
    simp [aLen, ho]
theorem HKv (σ : Heap) (K : PV → Heap → Prop) (v : PV) : HK σ K v = K v σ := rfl
/-- A copy of a slice of numbers. -/
theorem p191P (l : List Int) (hl : l.length ≤ 4294967296) : ACall Tryz.prog 191 [.list (ints l)] [] (fun v s => (v = .ref 0 1 0 l.length ∧ s = [.arr 1 2 1 (ints l)]) ∨ (l = [] ∧ v = .nils ∧ s = [])) := by
  cases l with
  | nil =>
    refine e191 (by simp) fun _ _ => ?_
    simp only [k191, argEnv, take6, List.drop_zero, Int.cast_ofNat_Int, go_sem, ↓reduceIte, Nat.reduceEqDiff, Nat.reduceAdd, Nat.reduceMul, Nat.reduceLeDiff, Nat.reduceLT, Int.reduceLE, Int.reduceLT, reduceCtorEq]
    have e : ∀ K : Bool → Prop, aIsn (.list (ints [])) K = (K true ∧ K false) := fun _ => rfl
    rw [e]
    exact ⟨⟨fun _ => Kv.Fin.now (.inr ⟨rfl, rfl⟩), fun h => by cases h⟩, ⟨fun h => (by cases h), fun _ => Kv.Fin.now (.inl ⟨rfl, rfl⟩)⟩⟩
  | cons x l =>
    refine e191 (by simp) fun _ _ => ?_
    simp only [k191, argEnv, take6, List.drop_zero, Int.cast_ofNat_Int, go_sem, ↓reduceIte, Nat.reduceEqDiff, Nat.reduceAdd, Nat.reduceMul, Nat.reduceLeDiff, Nat.reduceLT, Int.reduceLE, Int.reduceLT, reduceCtorEq]
    have e : ∀ K : Bool → Prop, aIsn (.list (ints (x :: l))) K = K false := fun _ => rfl
    rw [e]
    try simp only [take6, List.drop_zero, Int.cast_ofNat_Int, go_sem, ↓reduceIte, Nat.reduceEqDiff, Nat.reduceAdd, Nat.reduceMul, Nat.reduceLeDiff, Nat.reduceLT, Int.reduceLE, Int.reduceLT, reduceCtorEq]
    refine ⟨by simp at hl; omega, Kv.Fin.now (.inl ⟨rfl, ?_⟩)⟩
    simp
/-- The specification's recursion. -/
def spt : Nat → List Int → Nat → List (List Int)
  | 0, b, _ => [b]
  | d + 1, b, nx => ((List.range (nx + 1)).map fun c : Nat => spt d (b ++ [(c : Int)]) (max nx (c + 1))).flatten
def sptN (d : Nat) (b : List Int) (nx x : Nat) : List (List Int) := ((List.range x).map fun c : Nat => spt d (b ++ [(c : Int)]) (max nx (c + 1))).flatten
theorem sptN_succ (d : Nat) (b : List Int) (nx x : Nat) : sptN d b nx (x + 1) = sptN d b nx x ++ spt d (b ++ [(x : Int)]) (max nx (x + 1)) := by
  simp [sptN, List.range_succ]
theorem spt_le : ∀ (d : Nat) (b : List Int) (nx : Nat), nx + d ≤ 6 → (spt d b nx).length ≤ 7 ^ d ∧ ∀ x, x ≤ nx + 1 → 1 ≤ d → (sptN (d - 1) b nx x).length ≤ x * 7 ^ (d - 1)
  | 0, b, nx, _ => ⟨by simp [spt], fun x _ h => by omega⟩
  | d + 1, b, nx, h => by
    have h1 : ∀ x, x ≤ nx + 1 → (sptN d b nx x).length ≤ x * 7 ^ d := by
      intro x
      induction x with
      | zero => intro _; simp [sptN]
      | succ x ih =>
        intro hx
        rw [sptN_succ, List.length_append, Nat.succ_mul]
        have := (spt_le d (b ++ [(x : Int)]) (max nx (x + 1)) (by omega)).1
        have := ih (by omega)
        omega
    refine ⟨?_, fun x hx _ => by rw [Nat.add_sub_cancel]; exact h1 x hx⟩
    have h2 := h1 (nx + 1) (Nat.le_refl _)
    have h3 : (nx + 1) * 7 ^ d ≤ 7 * 7 ^ d := Nat.mul_le_mul_right _ (by omega)
    rw [Nat.pow_succ, Nat.mul_comm]
    exact Nat.le_trans h2 h3
set_option maxRecDepth 100000 in
theorem spt_prt : ((List.range 6).all fun n => decide (n = 0 ∨ spt (n - 1) [0] 1 = prt n)) = true := by decide
theorem spt_eq {n : Nat} (h1 : 1 ≤ n) (h5 : n ≤ 5) : spt (n - 1) [0] 1 = prt n := by
  have := List.all_eq_true.1 spt_prt n (by simp; omega)
  simp only [decide_eq_true_eq] at this
  rcases this with h | h
  · omega
  · exact h
end Go.Proofs.YtpfapiiinkkcgaaGreat
