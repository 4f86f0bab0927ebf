/- Orbits: both sides. -/
import Derived.Test.YtpepbomifjbgnaaCb
import Derived.Test.YtpepbomifjbgnaaRW
import Derived.Test.YtpepbomifjbgnaaOL
import Derived.Test.YtpepbomifjbgnaaST
namespace Go.Proofs.Ytpepbomifjbgnaa
open Go.Kv
set_option maxRecDepth 100000
/- slices.Values[[]int64,int64] -/
def k49 : KC := (.seq (.ops [⟨(some 1), none, .box true (.t 0)⟩, ⟨(some 2), none, .mv (.c (.nilf))⟩])
  (.seq (.ops [⟨(some 3), none, .mkfn (.func 97) [] [(.t 1)]⟩, ⟨(some 2), none, .mv (.t 3)⟩])
  .ret))
theorem e49 {args : List PV} {σ : Heap} {K : PV → Heap → Prop} (hl : args.length ≤ 4) (h : Wf σ → (∀ a ∈ args, PV.upto σ.length a) → vc (mkCfg Try.prog mixed [1] 4 σ.length) k49 (FinK σ.length [.t 2] K) (argEnv 0 args) σ) : ACall Try.prog 49 args σ K :=
  ACall_enter (C := mkCfg Try.prog mixed [1] 4 σ.length) (c := Try.f49.body.getD .skip) Try.func49 (by kernel_rfl) (by kernel_rfl) (by kernel_rfl) rfl hl (by kernel_rfl) (by kernel_rfl) h
/- slices.Collect[int64] -/
def k95 : KC := (.seq (.ops [⟨(some 2), none, .mv (.c (.nils))⟩])
  (.seq (.ops [⟨(some 3), none, .mv (.t 0)⟩, ⟨(some 4), none, .call (.c (.fn (.func 135) [] [])) [(.c (.nils)), (.t 3)]⟩, ⟨(some 2), none, .mv (.t 4)⟩])
  .ret))
theorem e95 {args : List PV} {σ : Heap} {K : PV → Heap → Prop} (hl : args.length ≤ 5) (h : Wf σ → (∀ a ∈ args, PV.upto σ.length a) → vc (mkCfg Try.prog mixed [] 5 σ.length) k95 (FinK σ.length [.t 2] K) (argEnv 0 args) σ) : ACall Try.prog 95 args σ K :=
  ACall_enter (C := mkCfg Try.prog mixed [] 5 σ.length) (c := Try.f95.body.getD .skip) Try.func95 (by kernel_rfl) (by kernel_rfl) (by kernel_rfl) rfl hl (by kernel_rfl) (by kernel_rfl) h
/- slices.Sorted[int64] -/
def k48 : KC := (.seq (.ops [⟨(some 2), none, .mv (.c (.nils))⟩])
  (.seq (.ops [⟨(some 4), none, .mv (.t 0)⟩, ⟨(some 5), none, .call (.c (.fn (.func 95) [] [])) [(.t 4)]⟩, ⟨(some 3), none, .mv (.t 5)⟩])
  (.seq (.ops [⟨(some 6), none, .mv (.t 3)⟩, ⟨(some 7), none, .call (.c (.fn (.func 96) [] [])) [(.t 6)]⟩])
  (.seq (.ops [⟨(some 8), none, .mv (.t 3)⟩, ⟨(some 2), none, .mv (.t 8)⟩])
  .ret))))
theorem e48 {args : List PV} {σ : Heap} {K : PV → Heap → Prop} (hl : args.length ≤ 9) (h : Wf σ → (∀ a ∈ args, PV.upto σ.length a) → vc (mkCfg Try.prog mixed [] 9 σ.length) k48 (FinK σ.length [.t 2] K) (argEnv 0 args) σ) : ACall Try.prog 48 args σ K :=
  ACall_enter (C := mkCfg Try.prog mixed [] 9 σ.length) (c := Try.f48.body.getD .skip) Try.func48 (by kernel_rfl) (by kernel_rfl) (by kernel_rfl) rfl hl (by kernel_rfl) (by kernel_rfl) h
/- impl.orbit -/
def k61 : KC := (.seq (.ops [⟨(some 4), none, .mv (.c (.nils))⟩])
  (.seq (.ops [⟨(some 5), none, .mv (.t 0)⟩, ⟨(some 6), none, .mv (.t 1)⟩, ⟨(some 7), none, .call (.c (.fn (.func 106) [] [])) [(.t 5), (.t 6)]⟩, ⟨(some 8), none, .call (.c (.fn (.func 49) [] [])) [(.t 7)]⟩, ⟨(some 9), none, .call (.c (.fn (.func 48) [] [])) [(.t 8)]⟩, ⟨(some 4), none, .mv (.t 9)⟩])
  .ret))
theorem e61 {args : List PV} {σ : Heap} {K : PV → Heap → Prop} (hl : args.length ≤ 10) (h : Wf σ → (∀ a ∈ args, PV.upto σ.length a) → vc (mkCfg Try.prog mixed [] 10 σ.length) k61 (FinK σ.length [.t 4] K) (argEnv 0 args) σ) : ACall Try.prog 61 args σ K :=
  ACall_enter (C := mkCfg Try.prog mixed [] 10 σ.length) (c := Try.f61.body.getD .skip) Try.func61 (by kernel_rfl) (by kernel_rfl) (by kernel_rfl) rfl hl (by kernel_rfl) (by kernel_rfl) h
end Go.Proofs.Ytpepbomifjbgnaa
namespace Go.Proofs.Ytpepbomifjbgnaa
open Go.Kv
set_option linter.unusedVariables false
set_option linter.unusedSimpArgs false
attribute [local irreducible] ACall PCall KL
theorem p49 (l : List Int) : Pure Try.prog 49 [.list (ints l)] (.fn (.func 97) [] [.fptr [.list (ints l)] 0]) := by
  refine e49 (by simp) fun _ _ => ?_
  simp only [k49, argEnv, take6, List.drop_zero, Int.cast_ofNat_Int, go_sem, ↓reduceIte, Nat.reduceEqDiff, Nat.reduceAdd, Nat.reduceMul, Nat.reduceLeDiff, Nat.reduceLT, Int.reduceLE, Int.reduceLT, reduceCtorEq]
  try simp only [OpK_eq, HKv, take6, List.drop_zero, Int.cast_ofNat_Int, go_sem, ↓reduceIte, Nat.reduceEqDiff, Nat.reduceAdd, Nat.reduceMul, Nat.reduceLeDiff, Nat.reduceLT, Int.reduceLE, Int.reduceLT, reduceCtorEq]
  exact Kv.Fin.now ⟨rfl, rfl⟩
theorem p95 (l : List Int) (hl : l.length ≤ 1048576) (σ : Heap) (K : PV → Heap → Prop) (hK : K (.ref σ.length 0 0 l.length) (σ ++ [.arr 0 2 1 (ints l)])) :
    ACall Try.prog 95 [.fn (.func 97) [] [.fptr [.list (ints l)] 0]] σ K := by
  refine e95 (by simp) fun _ _ => ?_
  simp only [k95, argEnv, take6, List.drop_zero, Int.cast_ofNat_Int, go_sem, ↓reduceIte, Nat.reduceEqDiff, Nat.reduceAdd, Nat.reduceMul, Nat.reduceLeDiff, Nat.reduceLT, Int.reduceLE, Int.reduceLT, reduceCtorEq]
  refine p135 l hl σ _ ?_
  try simp only [OpK_eq, HKv, take6, List.drop_zero, Int.cast_ofNat_Int, go_sem, ↓reduceIte, Nat.reduceEqDiff, Nat.reduceAdd, Nat.reduceMul, Nat.reduceLeDiff, Nat.reduceLT, Int.reduceLE, Int.reduceLT, reduceCtorEq]
  exact Kv.Fin.now hK
theorem p48 (l : List Int) (hl : l.length ≤ 12) (σ : Heap) (K : PV → Heap → Prop) (hK : ∀ r : List Int, r.Perm l → r.Pairwise (· ≤ ·) → K (.ref σ.length 0 0 l.length) (σ ++ [.arr 0 2 1 (ints r)])) :
    ACall Try.prog 48 [.fn (.func 97) [] [.fptr [.list (ints l)] 0]] σ K := by
  refine e48 (by simp) fun _ _ => ?_
  simp only [k48, argEnv, take6, List.drop_zero, Int.cast_ofNat_Int, go_sem, ↓reduceIte, Nat.reduceEqDiff, Nat.reduceAdd, Nat.reduceMul, Nat.reduceLeDiff, Nat.reduceLT, Int.reduceLE, Int.reduceLT, reduceCtorEq]
  refine p95 l (by omega) σ _ ?_
  try simp only [OpK_eq, HKv, take6, List.drop_zero, Int.cast_ofNat_Int, go_sem, ↓reduceIte, Nat.reduceEqDiff, Nat.reduceAdd, Nat.reduceMul, Nat.reduceLeDiff, Nat.reduceLT, Int.reduceLE, Int.reduceLT, reduceCtorEq]
  refine p96 _ σ.length 0 2 l (by simp) hl fun r h1 h2 => ?_
  rw [List.set_append_right _ _ (Nat.le_refl _), Nat.sub_self]
  try simp only [OpK_eq, HKv, take6, List.drop_zero, Int.cast_ofNat_Int, go_sem, ↓reduceIte, Nat.reduceEqDiff, Nat.reduceAdd, Nat.reduceMul, Nat.reduceLeDiff, Nat.reduceLT, Int.reduceLE, Int.reduceLT, reduceCtorEq]
  exact Kv.Fin.now (hK r h1 h2)
/-- The orbit: a new slice. -/
theorem p61 (fs : List (List Nat)) (n : Nat) (hf : ∀ f ∈ fs, Ok f n) (hn5 : n ≤ 5) (hfl : fs.length ≤ 1000) (q : Nat) (hq : q < n) :
    ACall Try.prog 61 [.list (aggs (fs.map mp)), .int .i64 q] [] (fun v s => v = .ref 0 0 0 (orb fs q).length ∧ s = [.arr 0 2 1 (ints (nz (orb fs q)))]) := by
  refine e61 (by simp) fun _ _ => ?_
  simp only [k61, argEnv, take6, List.drop_zero, Int.cast_ofNat_Int, go_sem, ↓reduceIte, Nat.reduceEqDiff, Nat.reduceAdd, Nat.reduceMul, Nat.reduceLeDiff, Nat.reduceLT, Int.reduceLE, Int.reduceLT, reduceCtorEq]
  refine p106 fs n hf hfl q hq 5 (by omega) (fun i => Nat.le_trans (bl_len hf hq i) hn5) _ fun i hi => ?_
  try simp only [OpK_eq, HKv, take6, List.drop_zero, Int.cast_ofNat_Int, go_sem, ↓reduceIte, Nat.reduceEqDiff, Nat.reduceAdd, Nat.reduceMul, Nat.reduceLeDiff, Nat.reduceLT, Int.reduceLE, Int.reduceLT, reduceCtorEq]
  refine (p49 (rch fs q i)).go ?_
  try simp only [OpK_eq, HKv, take6, List.drop_zero, Int.cast_ofNat_Int, go_sem, ↓reduceIte, Nat.reduceEqDiff, Nat.reduceAdd, Nat.reduceMul, Nat.reduceLeDiff, Nat.reduceLT, Int.reduceLE, Int.reduceLT, reduceCtorEq]
  have hp := rch_perm hf hn5 hq hi
  have hlen := hp.length_eq
  have h5 := orb_len fs q
  rw [nz_len] at hlen
  refine p48 (rch fs q i) (by omega) [] _ fun r h1 h2 => ?_
  rw [rch_srt hf hn5 hq hi h1 h2, hlen]
  try simp only [OpK_eq, HKv, take6, List.drop_zero, Int.cast_ofNat_Int, go_sem, ↓reduceIte, Nat.reduceEqDiff, Nat.reduceAdd, Nat.reduceMul, Nat.reduceLeDiff, Nat.reduceLT, Int.reduceLE, Int.reduceLT, reduceCtorEq]
  exact Kv.Fin.now ⟨rfl, rfl⟩
/-- The specification's. -/
theorem p59P (fs : List (List Nat)) (n : Nat) (hf : ∀ f ∈ fs, Ok f n) (hn5 : n ≤ 5) (hfl : fs.length ≤ 1000) (q : Nat) (hq : q < n) : Pure Try.prog 59 [.list (aggs (fs.map mp)), .int .i64 q] (.int .i64 (sb (orb fs q))) :=
  p59 fs n hf hn5 hfl q hq _ fun l hl => ⟨by rw [sb_ext fun x => (hl x).trans (orb_mem hf hn5 hq x).symm], rfl⟩
end Go.Proofs.Ytpepbomifjbgnaa
