/- Maps: cyclic points, ends, cycles, powers, images. -/
import Derived.Test.YtpkddcjecfogeaaCb
import Derived.Test.YtpkddcjecfogeaaMA
import Derived.Test.YtpkddcjecfogeaaIt
import Derived.Test.YtpkddcjecfogeaaFC
import Derived.Test.YtpkddcjecfogeaaSq
namespace Go.Proofs.Ytpkddcjecfogeaa
open Go.Kv
set_option maxRecDepth 100000
/- (impl.Map).isCyclic -/
/- live [1, 2, 5, 11, 12] -/
def k54_b0 : KC := (.seq (.ops [⟨(some 13), none, .bin .lss (.t 12) (.t 11)⟩])
  (.seq (.cond (.t 13) .skip (.exit 0))
  (.seq (.block 1 (.seq (.seq (.ops [⟨(some 14), none, .mv (.t 5)⟩, ⟨(some 15), none, .mv (.t 1)⟩, ⟨(some 16), none, .bin .eql (.t 14) (.t 15)⟩])
  (.cond (.t 16) (.seq (.ops [⟨(some 4), none, .mv (.c (.bool true))⟩])
  .ret) .skip))
  (.ops [⟨(some 17), none, .mv (.t 5)⟩, ⟨(some 18), none, .fieldA 1 (.t 2)⟩, ⟨(some 19), none, .idxA 5 1 (.t 18) (.t 17)⟩, ⟨(some 20), none, .load false 1 (.t 19)⟩, ⟨(some 5), none, .mv (.t 20)⟩])))
  (.ops [⟨(some 21), none, .bin .add (.t 12) (.c (.int .i64 1))⟩, ⟨(some 12), none, .mv (.t 21)⟩]))))
def k54 : KC := (.seq (.ops [⟨(some 2), none, .box true (.t 0)⟩, ⟨(some 4), none, .mv (.c (.bool false))⟩])
  (.seq (.ops [⟨(some 6), none, .mv (.t 1)⟩, ⟨(some 7), none, .fieldA 1 (.t 2)⟩, ⟨(some 8), none, .idxA 5 1 (.t 7) (.t 6)⟩, ⟨(some 9), none, .load false 1 (.t 8)⟩, ⟨(some 5), none, .mv (.t 9)⟩])
  (.seq (.seq (.ops [⟨(some 10), none, .fieldA 0 (.t 2)⟩, ⟨(some 11), none, .load false 1 (.t 10)⟩, ⟨(some 12), none, .mv (.c (.int .i64 0))⟩])
  (.block 0 (.loop k54_b0)))
  (.seq (.ops [⟨(some 4), none, .mv (.c (.bool false))⟩])
  .ret))))
theorem e54 {args : List PV} {σ : Heap} {K : PV → Heap → Prop} (hl : args.length ≤ 22) (h : Wf σ → (∀ a ∈ args, PV.upto σ.length a) → vc (mkCfg Try.prog mixed [2] 22 σ.length) k54 (FinK σ.length [.t 4] K) (argEnv 0 args) σ) : ACall Try.prog 54 args σ K :=
  ACall_enter (C := mkCfg Try.prog mixed [2] 22 σ.length) (c := Try.f54.body.getD .skip) Try.func54 (by kernel_rfl) (by kernel_rfl) (by kernel_rfl) rfl hl (by kernel_rfl) (by kernel_rfl) h
/- (impl.Map).cycleOf -/
/- live [1, 2, 5, 6] -/
def k55_b0 : KC := (.seq (.seq (.ops [⟨(some 13), none, .mv (.t 6)⟩, ⟨(some 14), none, .mv (.t 1)⟩, ⟨(some 15), none, .bin .neq (.t 13) (.t 14)⟩])
  (.cond (.t 15) .skip (.exit 0)))
  (.seq (.block 1 (.ops [⟨(some 20), none, .mv (.t 5)⟩, ⟨(some 21), none, .mv (.t 6)⟩, ⟨(some 22), none, .bsl true 2 1 [(.t 21)]⟩, ⟨(some 23), none, .app (.t 20) (.t 22) 2 1⟩, ⟨(some 5), none, .mv (.t 23)⟩]))
  (.ops [⟨(some 16), none, .mv (.t 6)⟩, ⟨(some 17), none, .fieldA 1 (.t 2)⟩, ⟨(some 18), none, .idxA 5 1 (.t 17) (.t 16)⟩, ⟨(some 19), none, .load false 1 (.t 18)⟩, ⟨(some 6), none, .mv (.t 19)⟩])))
def k55 : KC := (.seq (.ops [⟨(some 2), none, .box true (.t 0)⟩, ⟨(some 4), none, .mv (.c (.nils))⟩])
  (.seq (.ops [⟨(some 7), none, .mv (.t 1)⟩, ⟨(some 8), none, .bsl false 2 1 [(.t 7)]⟩, ⟨(some 5), none, .mv (.t 8)⟩])
  (.seq (.seq (.ops [⟨(some 9), none, .mv (.t 1)⟩, ⟨(some 10), none, .fieldA 1 (.t 2)⟩, ⟨(some 11), none, .idxA 5 1 (.t 10) (.t 9)⟩, ⟨(some 12), none, .load false 1 (.t 11)⟩, ⟨(some 6), none, .mv (.t 12)⟩])
  (.block 0 (.loop k55_b0)))
  (.seq (.ops [⟨(some 24), none, .mv (.t 5)⟩, ⟨(some 4), none, .mv (.t 24)⟩])
  .ret))))
theorem e55 {args : List PV} {σ : Heap} {K : PV → Heap → Prop} (hl : args.length ≤ 25) (h : Wf σ → (∀ a ∈ args, PV.upto σ.length a) → vc (mkCfg Try.prog mixed [2, 22] 25 σ.length) k55 (FinK σ.length [.t 4] K) (argEnv 0 args) σ) : ACall Try.prog 55 args σ K :=
  ACall_enter (C := mkCfg Try.prog mixed [2, 22] 25 σ.length) (c := Try.f55.body.getD .skip) Try.func55 (by kernel_rfl) (by kernel_rfl) (by kernel_rfl) rfl hl (by kernel_rfl) (by kernel_rfl) h
/- slices.Min[[]int64,int64] -/
/- live [0, 3, 4] -/
def k56_b0 : KC := (.seq (.seq (.ops [⟨(some 12), none, .mv (.t 4)⟩, ⟨(some 13), none, .mv (.t 0)⟩, ⟨(some 14), none, .len false (.t 13)⟩, ⟨(some 15), none, .bin .lss (.t 12) (.t 14)⟩])
  (.cond (.t 15) .skip (.exit 0)))
  (.seq (.block 1 (.ops [⟨(some 18), none, .mv (.t 3)⟩, ⟨(some 19), none, .mv (.t 0)⟩, ⟨(some 20), none, .mv (.t 4)⟩, ⟨(some 21), none, .idxS 1 (.t 19) (.t 20)⟩, ⟨(some 22), none, .load false 1 (.t 21)⟩, ⟨(some 23), none, .mnmx false (.t 18) [(.t 22)]⟩, ⟨(some 3), none, .mv (.t 23)⟩]))
  (.ops [⟨(some 16), none, .mv (.t 4)⟩, ⟨(some 17), none, .bin .add (.t 16) (.c (.int .i64 1))⟩, ⟨(some 4), none, .mv (.t 17)⟩])))
def k56 : KC := (.seq (.ops [⟨(some 2), none, .mv (.c (.int .i64 0))⟩])
  (.seq (.seq (.ops [⟨(some 5), none, .mv (.t 0)⟩, ⟨(some 6), none, .len false (.t 5)⟩, ⟨(some 7), none, .bin .lss (.t 6) (.c (.int .i64 1))⟩])
  (.cond (.t 7) (.ops [⟨(some 8), none, .bad⟩, ⟨none, none, .bad⟩]) .skip))
  (.seq (.ops [⟨(some 9), none, .mv (.t 0)⟩, ⟨(some 10), none, .idxS 1 (.t 9) (.c (.int .i64 0))⟩, ⟨(some 11), none, .load false 1 (.t 10)⟩, ⟨(some 3), none, .mv (.t 11)⟩])
  (.seq (.seq (.ops [⟨(some 4), none, .mv (.c (.int .i64 1))⟩])
  (.block 0 (.loop k56_b0)))
  (.seq (.ops [⟨(some 24), none, .mv (.t 3)⟩, ⟨(some 2), none, .mv (.t 24)⟩])
  .ret)))))
theorem e56 {args : List PV} {σ : Heap} {K : PV → Heap → Prop} (hl : args.length ≤ 25) (h : Wf σ → (∀ a ∈ args, PV.upto σ.length a) → vc (mkCfg Try.prog mixed [] 25 σ.length) k56 (FinK σ.length [.t 2] K) (argEnv 0 args) σ) : ACall Try.prog 56 args σ K :=
  ACall_enter (C := mkCfg Try.prog mixed [] 25 σ.length) (c := Try.f56.body.getD .skip) Try.func56 (by kernel_rfl) (by kernel_rfl) (by kernel_rfl) rfl hl (by kernel_rfl) (by kernel_rfl) h
/- spec.l01Power -/
/- live [1, 2, 4, 5] -/
def k110_b0 : KC := (.seq (.seq (.ops [⟨(some 9), none, .mv (.t 1)⟩, ⟨(some 10), none, .bin .gtr (.t 9) (.c (.int .i64 0))⟩])
  (.cond (.t 10) .skip (.exit 0)))
  (.seq (.block 1 (.seq (.seq (.ops [⟨(some 13), none, .mv (.t 1)⟩, ⟨(some 14), none, .bin .rem (.t 13) (.c (.int .i64 2))⟩, ⟨(some 15), none, .bin .eql (.t 14) (.c (.int .i64 1))⟩])
  (.cond (.t 15) (.ops [⟨(some 16), none, .load true 6 (.t 5)⟩, ⟨(some 17), none, .load true 6 (.t 2)⟩, ⟨(some 18), none, .call (.c (.fn (.func 116) [] [])) [(.t 16), (.t 17)]⟩, ⟨none, none, .store 6 (.t 5) (.t 18)⟩]) .skip))
  (.ops [⟨(some 19), none, .load true 6 (.t 2)⟩, ⟨(some 20), none, .load true 6 (.t 2)⟩, ⟨(some 21), none, .call (.c (.fn (.func 116) [] [])) [(.t 19), (.t 20)]⟩, ⟨none, none, .store 6 (.t 2) (.t 21)⟩])))
  (.ops [⟨(some 11), none, .mv (.t 1)⟩, ⟨(some 12), none, .bin .quo (.t 11) (.c (.int .i64 2))⟩, ⟨(some 1), none, .mv (.t 12)⟩])))
def k110 : KC := (.seq (.ops [⟨(some 2), none, .box false (.t 0)⟩, ⟨(some 4), none, .alloc [.int .i64 0, .int .i64 0, .int .i64 0, .int .i64 0, .int .i64 0, .int .i64 0]⟩])
  (.seq (.ops [⟨(some 6), none, .fieldA 0 (.t 2)⟩, ⟨(some 7), none, .load false 1 (.t 6)⟩, ⟨(some 8), none, .call (.c (.fn (.func 158) [] [])) [(.t 7)]⟩, ⟨(some 5), none, .alloc [.int .i64 0, .int .i64 0, .int .i64 0, .int .i64 0, .int .i64 0, .int .i64 0]⟩, ⟨none, none, .store 6 (.t 5) (.t 8)⟩])
  (.seq (.block 0 (.loop k110_b0))
  (.seq (.ops [⟨(some 22), none, .load true 6 (.t 5)⟩, ⟨none, none, .store 6 (.t 4) (.t 22)⟩])
  .ret))))
theorem e110 {args : List PV} {σ : Heap} {K : PV → Heap → Prop} (hl : args.length ≤ 23) (h : Wf σ → (∀ a ∈ args, PV.upto σ.length a) → vc (mkCfg Try.prog mixed [] 23 σ.length) k110 (FinK σ.length [.cell 4 true 6] K) (argEnv 0 args) σ) : ACall Try.prog 110 args σ K :=
  ACall_enter (C := mkCfg Try.prog mixed [] 23 σ.length) (c := Try.f110.body.getD .skip) Try.func110 (by kernel_rfl) (by kernel_rfl) (by kernel_rfl) rfl hl (by kernel_rfl) (by kernel_rfl) h
end Go.Proofs.Ytpkddcjecfogeaa
namespace Go.Proofs.Ytpkddcjecfogeaa
open Go.Kv
set_option linter.unusedVariables false
set_option linter.unusedSimpArgs false
attribute [local irreducible] ACall PCall KL
theorem p54 (f : List Nat) (n p : Nat) (hf : Ok f n) (hp : p < n) : Pure Try.prog 54 [.agg (ints (mp f)), .int .i64 p] (.bool (cyc f n p)) := by
  have hlf := hf.mp_len
  have h5 := hf.le
  refine e54 (by simp) fun _ _ => ?_
  simp only [k54, argEnv, hlf, hf.len, take6, List.drop_zero, Int.cast_ofNat_Int, go_sem, ↓reduceIte, Nat.reduceEqDiff, Nat.reduceAdd, Nat.reduceMul, Nat.reduceLeDiff, Nat.reduceLT, Int.reduceLE, Int.reduceLT, reduceCtorEq]
  refine ⟨by omega, by omega, fun _ => ?_⟩
  refine KL_ind k54_b0.eq_1 (fun x : Nat => [(1, .int .i64 p), (2, .fptr (ints (mp f)) 0), (5, .int .i64 (it f (x + 1) p)), (11, .int .i64 n), (12, .int .i64 x)]) (fun _ => []) (fun x => x ≤ n ∧ ((List.range n).take x).any (fun k => decide (it f (k + 1) p = p)) = false) (fun x => n - x) [1, 2, 5, 11, 12] 0 (by rfl) rfl ⟨Nat.zero_le _, rfl⟩ fun x ⟨hx, hno⟩ ih => ?_
  have hq := it_lt hf hp (x + 1)
  try simp only [hlf, take6, List.drop_zero, Int.cast_ofNat_Int, go_sem, ↓reduceIte, Nat.reduceEqDiff, Nat.reduceAdd, Nat.reduceMul, Nat.reduceLeDiff, Nat.reduceLT, Int.reduceLE, Int.reduceLT, reduceCtorEq]
  refine ⟨fun h1 => ⟨fun h2 => ?_, fun h2 => ?_⟩, fun h1 => ?_⟩
  · refine Kv.Fin.now ⟨?_, rfl⟩
    have : cyc f n p = true := cyc_iff.2 ⟨x + 1, by omega, by omega, by omega⟩
    rw [this]
  · repeat' (first | refine And.intro ?_ ?_ | intro _)
    all_goals (try omega)
    refine ih (x + 1) ⟨by omega, ?_⟩ (by omega) _ _ (by rfl) rfl
    rw [any_take_succ _ (by simp; omega), hno]
    simp; omega
  · obtain rfl : x = n := by omega
    rw [List.take_of_length_le (by simp)] at hno
    exact Kv.Fin.now ⟨by rw [cyc, hno], rfl⟩
/-- The first steps from p. -/
def its (f : List Nat) (p m : Nat) : List Int := (List.range m).map fun k => (it f k p : Int)
@[simp] theorem its_length (f : List Nat) (p m : Nat) : (its f p m).length = m := by simp [its]
theorem its_succ (f : List Nat) (p m : Nat) : its f p m ++ [(it f m p : Int)] = its f p (m + 1) := by simp [its, List.range_succ]
theorem p55 (f : List Nat) (n p : Nat) (hf : Ok f n) (hp : p < n) (hc : cyc f n p = true) : ACall Try.prog 55 [.agg (ints (mp f)), .int .i64 p] [] (fun v s => (∃ m, m ≤ 59 ∧ it f (m + 1) p = p ∧ v = .list (ints (its f p (m + 1)))) ∧ s = []) := by
  have hlf := hf.mp_len
  have h5 := hf.le
  refine e55 (by simp) fun _ _ => ?_
  simp only [k55, argEnv, hlf, hf.len, take6, List.drop_zero, Int.cast_ofNat_Int, go_sem, ↓reduceIte, Nat.reduceEqDiff, Nat.reduceAdd, Nat.reduceMul, Nat.reduceLeDiff, Nat.reduceLT, Int.reduceLE, Int.reduceLT, reduceCtorEq]
  refine ⟨by omega, by omega, fun _ => ?_⟩
  refine KL_ind k55_b0.eq_1 (fun x : Nat => [(1, .int .i64 p), (2, .fptr (ints (mp f)) 0), (5, .ref 0 x 0 (x + 1)), (6, .int .i64 (it f (x + 1) p))]) (fun x => [.arr x 2 1 (ints (its f p (x + 1)))]) (fun x => x ≤ 59) (fun x => 60 - x) [1, 2, 5, 6] 0 (by rfl) (by rfl) (Nat.zero_le _) fun x hx ih => ?_
  have hq := it_lt hf hp (x + 1)
  try simp only [hlf, take6, List.drop_zero, Int.cast_ofNat_Int, go_sem, ↓reduceIte, Nat.reduceEqDiff, Nat.reduceAdd, Nat.reduceMul, Nat.reduceLeDiff, Nat.reduceLT, Int.reduceLE, Int.reduceLT, reduceCtorEq]
  refine ⟨fun h1 => ?_, fun h1 => ?_⟩
  · have hx2 : x < 59 := by
      refine Decidable.byContradiction fun hn => h1 ?_
      obtain rfl : x = 59 := by omega
      rw [cyc_60 hf hc]
    have hl := its_length f p (x + 1)
    try simp only [hl, take6, List.drop_zero, Int.cast_ofNat_Int, go_sem, ↓reduceIte, Nat.reduceEqDiff, Nat.reduceAdd, Nat.reduceMul, Nat.reduceLeDiff, Nat.reduceLT, Int.reduceLE, Int.reduceLT, reduceCtorEq]
    repeat' (first | refine And.intro ?_ ?_ | intro _)
    all_goals (try omega)
    refine ih (x + 1) (by omega) (by omega) _ _ (by rfl) ?_
    rw [List.take_of_length_le (by omega), its_succ]
  · refine Kv.Fin.freeze (.refn (l := its f p (x + 1)) rfl (by simp)) ⟨⟨x, hx, by omega, rfl⟩, rfl⟩
/-- The least of the first ones. -/
def mnl (l : List Int) : Nat → Int
  | 0 => l.getD 0 0
  | x + 1 => min (mnl l x) (l.getD (x + 1) 0)
theorem p56 (l : List Int) (hl : 1 ≤ l.length) (hl2 : l.length ≤ 4294967296) : Pure Try.prog 56 [.list (ints l)] (.int .i64 (mnl l (l.length - 1))) := by
  refine e56 (by simp) fun _ _ => ?_
  simp only [k56, argEnv, take6, List.drop_zero, Int.cast_ofNat_Int, go_sem, ↓reduceIte, Nat.reduceEqDiff, Nat.reduceAdd, Nat.reduceMul, Nat.reduceLeDiff, Nat.reduceLT, Int.reduceLE, Int.reduceLT, reduceCtorEq]
  refine ⟨fun h => by omega, fun _ => ⟨by omega, fun _ => ?_⟩⟩
  refine KL_ind k56_b0.eq_1 (fun x : Nat => [(0, .list (ints l)), (3, .int .i64 (mnl l x)), (4, .int .i64 (x + 1))]) (fun _ => []) (fun x => x < l.length) (fun x => l.length - x) [0, 3, 4] 0 (by rfl) rfl (by omega) fun x hx ih => ?_
  try simp only [take6, List.drop_zero, Int.cast_ofNat_Int, go_sem, ↓reduceIte, Nat.reduceEqDiff, Nat.reduceAdd, Nat.reduceMul, Nat.reduceLeDiff, Nat.reduceLT, Int.reduceLE, Int.reduceLT, reduceCtorEq]
  refine ⟨fun h1 => ⟨by omega, fun h2 => ?_⟩, fun h1 => ?_⟩
  · repeat' (first | refine And.intro ?_ ?_ | intro _)
    all_goals (try omega)
    exact ih (x + 1) (by omega) (by omega) _ _ (by rfl) rfl
  · obtain rfl : x = l.length - 1 := by omega
    exact Kv.Fin.now ⟨rfl, rfl⟩
theorem mnl_its (f : List Nat) (p m : Nat) : ∀ x, x < m → mnl (its f p m) x = (lo f p x : Int)
  | 0, h => by simp [mnl, its, lo, h, it]
  | x + 1, h => by
    have e : (its f p m).getD (x + 1) 0 = (it f (x + 1) p : Int) := by simp [its, h]
    simp only [mnl, lo, mnl_its f p m x (by omega), e]
    omega
theorem p110 (f : List Nat) (n k : Nat) (hf : Ok f n) (hk : k ≤ 1000000000000) : Pure Try.prog 110 [.agg (ints (mp f)), .int .i64 k] (.agg (ints (mp (itM f n k)))) := by
  have hlf := hf.mp_len
  have hli := (Ok.idn hf.pos hf.le).mp_len
  refine e110 (by simp) fun _ _ => ?_
  simp only [k110, argEnv, hlf, hf.len, take6, List.drop_zero, Int.cast_ofNat_Int, go_sem, ↓reduceIte, Nat.reduceEqDiff, Nat.reduceAdd, Nat.reduceMul, Nat.reduceLeDiff, Nat.reduceLT, Int.reduceLE, Int.reduceLT, reduceCtorEq]
  refine (p158 n hf.pos hf.le).go ?_
  try simp only [hli, take6, List.drop_zero, Int.cast_ofNat_Int, go_sem, ↓reduceIte, Nat.reduceEqDiff, Nat.reduceAdd, Nat.reduceMul, Nat.reduceLeDiff, Nat.reduceLT, Int.reduceLE, Int.reduceLT, reduceCtorEq]
  refine KL_ind k110_b0.eq_1 (fun x : Nat × Nat × Nat => [(1, .int .i64 x.1), (2, .ptr 0 0), (4, .ptr 1 0), (5, .ptr 2 0)]) (fun x => [.box (ints (mp (itM f n x.2.2))), .box (ints [0, 0, 0, 0, 0, 0]), .box (ints (mp (itM f n x.2.1)))]) (fun x => x.1 ≤ 1000000000000 ∧ x.2.1 + x.2.2 * x.1 = k) (fun x => x.1) [1, 2, 4, 5] (k, 0, 1) (by rfl) (by rw [itM_zero, itM_one hf]; rfl) ⟨hk, by simp⟩ fun ⟨x, a, b⟩ ⟨hx, hab⟩ ih => ?_
  simp only at hx hab
  have hla := (itM_ok hf a).mp_len
  have hlb := (itM_ok hf b).mp_len
  have hlbb := (itM_ok hf (b + b)).mp_len
  have hlab := (itM_ok hf (a + b)).mp_len
  have h1 := p116 _ _ n (itM_ok hf b) (itM_ok hf b)
  have h2 := p116 _ _ n (itM_ok hf a) (itM_ok hf b)
  rw [itM_mul hf] at h1 h2
  try simp only [hla, hlb, take6, List.drop_zero, Int.cast_ofNat_Int, go_sem, ↓reduceIte, Nat.reduceEqDiff, Nat.reduceAdd, Nat.reduceMul, Nat.reduceLeDiff, Nat.reduceLT, Int.reduceLE, Int.reduceLT, reduceCtorEq]
  refine ⟨fun h3 => ⟨fun h4 => ?_, fun h4 => ?_⟩, fun h3 => ?_⟩
  · refine h2.go ?_
    try simp only [hla, hlb, hlab, take6, List.drop_zero, Int.cast_ofNat_Int, go_sem, ↓reduceIte, Nat.reduceEqDiff, Nat.reduceAdd, Nat.reduceMul, Nat.reduceLeDiff, Nat.reduceLT, Int.reduceLE, Int.reduceLT, reduceCtorEq]
    refine h1.go ?_
    try simp only [hlb, hlbb, take6, List.drop_zero, Int.cast_ofNat_Int, go_sem, ↓reduceIte, Nat.reduceEqDiff, Nat.reduceAdd, Nat.reduceMul, Nat.reduceLeDiff, Nat.reduceLT, Int.reduceLE, Int.reduceLT, reduceCtorEq]
    repeat' (first | refine And.intro ?_ ?_ | intro _)
    all_goals (try omega)
    refine ih (x / 2, a + b, b + b) ⟨by show x / 2 ≤ _; omega, ?_⟩ (by show x / 2 < x; omega) _ _ (by rfl) (by rfl)
    show a + b + (b + b) * (x / 2) = k
    have : x = 2 * (x / 2) + 1 := by omega
    rw [← hab]
    conv => rhs; rw [this]
    rw [Nat.mul_add, ← Nat.mul_assoc, Nat.mul_two, Nat.mul_one]
    generalize (b + b) * (x / 2) = z
    omega
  · refine h1.go ?_
    try simp only [hlb, hlbb, take6, List.drop_zero, Int.cast_ofNat_Int, go_sem, ↓reduceIte, Nat.reduceEqDiff, Nat.reduceAdd, Nat.reduceMul, Nat.reduceLeDiff, Nat.reduceLT, Int.reduceLE, Int.reduceLT, reduceCtorEq]
    repeat' (first | refine And.intro ?_ ?_ | intro _)
    all_goals (try omega)
    refine ih (x / 2, a, b + b) ⟨by show x / 2 ≤ _; omega, ?_⟩ (by show x / 2 < x; omega) _ _ (by rfl) (by rfl)
    show a + (b + b) * (x / 2) = k
    have : x = 2 * (x / 2) := by omega
    rw [← hab]
    conv => rhs; rw [this]
    rw [← Nat.mul_assoc, Nat.mul_two]
  · obtain rfl : x = 0 := by omega
    simp only [Nat.mul_zero, Nat.add_zero] at hab
    subst hab
    exact Kv.Fin.still ⟨rfl, rfl⟩
end Go.Proofs.Ytpkddcjecfogeaa
