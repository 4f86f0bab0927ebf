/- Heights and basins: both sides, and the laws' functions. -/
import Derived.Test.YtpkddcjecfogeaaCb
import Derived.Test.YtpkddcjecfogeaaMI
namespace Go.Proofs.Ytpkddcjecfogeaa
open Go.Kv
set_option maxRecDepth 100000
/- spec.l09Basins -/
/- live [1, 3, 4, 5, 6, 7] -/
def k50_b0 : KC := (.seq (.seq (.ops [⟨(some 25), none, .mv (.t 7)⟩, ⟨(some 26), none, .mv (.t 5)⟩, ⟨(some 27), none, .bin .neq (.t 25) (.t 26)⟩])
  (.cond (.t 27) .skip (.exit 2)))
  (.seq (.block 3 (.ops [⟨(some 32), none, .mv (.t 6)⟩, ⟨(some 33), none, .mv (.t 7)⟩, ⟨(some 34), none, .mnmx false (.t 32) [(.t 33)]⟩, ⟨(some 6), none, .mv (.t 34)⟩]))
  (.ops [⟨(some 28), none, .mv (.t 7)⟩, ⟨(some 29), none, .fieldA 1 (.t 1)⟩, ⟨(some 30), none, .idxA 5 1 (.t 29) (.t 28)⟩, ⟨(some 31), none, .load false 1 (.t 30)⟩, ⟨(some 7), none, .mv (.t 31)⟩])))
/- live [1, 3, 4] -/
def k50_b1 : KC := (.seq (.seq (.ops [⟨(some 9), none, .mv (.t 4)⟩, ⟨(some 10), none, .fieldA 0 (.t 1)⟩, ⟨(some 11), none, .load false 1 (.t 10)⟩, ⟨(some 12), none, .bin .lss (.t 9) (.t 11)⟩])
  (.cond (.t 12) .skip (.exit 0)))
  (.seq (.block 1 (.seq (.ops [⟨(some 15), none, .load true 6 (.t 1)⟩, ⟨(some 16), none, .call (.c (.fn (.func 110) [] [])) [(.t 15), (.c (.int .i64 60))]⟩, ⟨(some 17), none, .fieldV true 5 1 (.t 16)⟩, ⟨(some 18), none, .mv (.t 4)⟩, ⟨(some 19), none, .idxV 5 1 false (.t 17) (.t 18)⟩, ⟨(some 5), none, .mv (.t 19)⟩])
  (.seq (.ops [⟨(some 20), none, .mv (.t 5)⟩, ⟨(some 6), none, .mv (.t 20)⟩])
  (.seq (.seq (.ops [⟨(some 21), none, .mv (.t 5)⟩, ⟨(some 22), none, .fieldA 1 (.t 1)⟩, ⟨(some 23), none, .idxA 5 1 (.t 22) (.t 21)⟩, ⟨(some 24), none, .load false 1 (.t 23)⟩, ⟨(some 7), none, .mv (.t 24)⟩])
  (.block 2 (.loop k50_b0)))
  (.ops [⟨(some 35), none, .mv (.t 3)⟩, ⟨(some 36), none, .mv (.t 6)⟩, ⟨(some 37), none, .bsl true 2 1 [(.t 36)]⟩, ⟨(some 38), none, .app (.t 35) (.t 37) 2 1⟩, ⟨(some 3), none, .mv (.t 38)⟩])))))
  (.ops [⟨(some 13), none, .mv (.t 4)⟩, ⟨(some 14), none, .bin .add (.t 13) (.c (.int .i64 1))⟩, ⟨(some 4), none, .mv (.t 14)⟩])))
def k50 : KC := (.seq (.ops [⟨(some 1), none, .box true (.t 0)⟩, ⟨(some 2), none, .mv (.c (.nils))⟩])
  (.seq (.ops [⟨(some 8), none, .bsl false 2 1 []⟩, ⟨(some 3), none, .mv (.t 8)⟩])
  (.seq (.seq (.ops [⟨(some 4), none, .mv (.c (.int .i64 0))⟩])
  (.block 0 (.loop k50_b1)))
  (.seq (.ops [⟨(some 39), none, .mv (.t 3)⟩, ⟨(some 2), none, .mv (.t 39)⟩])
  .ret))))
theorem e50 {args : List PV} {σ : Heap} {K : PV → Heap → Prop} (hl : args.length ≤ 40) (h : Wf σ → (∀ a ∈ args, PV.upto σ.length a) → vc (mkCfg Try.prog mixed [1, 37] 40 σ.length) k50 (FinK σ.length [.t 2] K) (argEnv 0 args) σ) : ACall Try.prog 50 args σ K :=
  ACall_enter (C := mkCfg Try.prog mixed [1, 37] 40 σ.length) (c := Try.f50.body.getD .skip) Try.func50 (by kernel_rfl) (by kernel_rfl) (by kernel_rfl) rfl hl (by kernel_rfl) (by kernel_rfl) h
end Go.Proofs.Ytpkddcjecfogeaa
namespace Go.Proofs.Ytpkddcjecfogeaa
open Go.Kv
set_option linter.unusedVariables false
set_option linter.unusedSimpArgs false
attribute [local irreducible] ACall PCall KL
def htl (f : List Nat) (n x : Nat) : List Int := (List.range x).map fun p => (hgt f n p : Int)
@[simp] theorem htl_length (f : List Nat) (n x : Nat) : (htl f n x).length = x := by simp [htl]
theorem htl_succ (f : List Nat) (n x : Nat) : htl f n x ++ [(hgt f n x : Int)] = htl f n (x + 1) := by simp [htl, List.range_succ]
def bsl (f : List Nat) (n x : Nat) : List Int := (List.range x).map fun p => (mino f (it f (hgt f n p) p) : Int)
@[simp] theorem bsl_length (f : List Nat) (n x : Nat) : (bsl f n x).length = x := by simp [bsl]
theorem bsl_succ (f : List Nat) (n x : Nat) : bsl f n x ++ [(mino f (it f (hgt f n x) x) : Int)] = bsl f n (x + 1) := by simp [bsl, List.range_succ]
theorem hgt_spec {f : List Nat} {n p : Nat} (hf : Ok f n) (hp : p < n) : hgt f n p ≤ 60 ∧ cyc f n (it f (hgt f n p) p) = true := by
  have hlt : hgt f n p < (List.range 61).length := by
    rw [hgt, List.findIdx_lt_length]
    exact ⟨60, by simp, cyc_late hf hp (by have := hf.le; omega)⟩
  refine ⟨by simp at hlt; omega, ?_⟩
  have := List.findIdx_getElem (w := hlt)
  have e : (List.range 61)[hgt f n p]'hlt = hgt f n p := List.getElem_range _
  unfold hgt at e ⊢
  rw [e] at this
  exact this
theorem lo_60 {f : List Nat} {n p : Nat} (hf : Ok f n) (hp : p < n) : ∀ m, it f (m + 1) (it f 60 p) = it f 60 p → lo f (it f 60 p) m = mino f (it f (hgt f n p) p) := fun m hm => by
  obtain ⟨hh, hc⟩ := hgt_spec hf hp
  obtain ⟨r, hr⟩ : ∃ r, 60 = hgt f n p + r := ⟨60 - hgt f n p, by omega⟩
  have h1 := lo_round hm
  have e : it f 60 p = it f r (it f (hgt f n p) p) := by rw [← it_add, ← hr]
  rw [e] at h1 ⊢
  exact mino_eq hf hc (h1.move hc)
theorem p50 (f : List Nat) (n : Nat) (hf : Ok f n) : ACall Try.prog 50 [.agg (ints (mp f))] [] (fun v s => v = .ref 0 n 0 n ∧ s = [.arr n 2 1 (ints (bsl f n n))]) := by
  have hlf := hf.mp_len
  have h1 := hf.pos
  have h5 := hf.le
  have hi := itM_ok hf 60
  have hli := hi.mp_len
  refine e50 (by simp) fun _ _ => ?_
  simp only [k50, argEnv, hlf, take6, List.drop_zero, Int.cast_ofNat_Int, go_sem, ↓reduceIte, Nat.reduceEqDiff, Nat.reduceAdd, Nat.reduceMul, Nat.reduceLeDiff, Nat.reduceLT, Int.reduceLE, Int.reduceLT, reduceCtorEq]
  refine KL_ind k50_b1.eq_1 (fun x : Nat => [(1, .fptr (ints (mp f)) 0), (3, .ref 0 x 0 x), (4, .int .i64 x)]) (fun x => [.arr x 2 1 (ints (bsl f n x))]) (fun x => x ≤ n) (fun x => n - x) [1, 3, 4] 0 (by rfl) (by rfl) (Nat.zero_le _) fun x hx ih => ?_
  try simp only [hlf, hf.len, take6, List.drop_zero, Int.cast_ofNat_Int, go_sem, ↓reduceIte, Nat.reduceEqDiff, Nat.reduceAdd, Nat.reduceMul, Nat.reduceLeDiff, Nat.reduceLT, Int.reduceLE, Int.reduceLT, reduceCtorEq]
  refine ⟨fun h2 => ?_, fun h2 => ?_⟩
  · have hp : x < n := by omega
    refine (p110 f n 60 hf (by omega)).go ?_
    have hg : (List.take 5 (List.drop 1 (mp (itM f n 60)))).getD x 0 = (it f 60 x : Int) := by
      have : (List.take 5 (List.drop 1 (mp (itM f n 60)))).getD x 0 = (mp (itM f n 60)).getD (x + 1) 0 := by
        simp [List.getD_eq_getElem?_getD, List.getElem?_take, show x < 5 by omega, Nat.add_comm]
      rw [this, mp_get, itM_get hp]
    have hl5 : (List.take 5 (List.drop 1 (mp (itM f n 60)))).length = 5 := by simp [hli]
    have hq := it_lt hf hp 60
    have hcy : cyc f n (it f 60 x) = true := cyc_late hf hp (by omega)
    try simp only [hli, hl5, hg, hlf, take6, List.drop_zero, Int.cast_ofNat_Int, go_sem, ↓reduceIte, Nat.reduceEqDiff, Nat.reduceAdd, Nat.reduceMul, Nat.reduceLeDiff, Nat.reduceLT, Int.reduceLE, Int.reduceLT, reduceCtorEq]
    refine ⟨by omega, by omega, fun _ => ⟨by omega, by omega, fun _ => ?_⟩⟩
    refine KL_ind k50_b0.eq_1 (fun y : Nat => [(1, .fptr (ints (mp f)) 0), (3, .ref 0 x 0 x), (4, .int .i64 x), (5, .int .i64 (it f 60 x)), (6, .int .i64 (lo f (it f 60 x) y)), (7, .int .i64 (it f (y + 1) (it f 60 x)))]) (fun _ => [.arr x 2 1 (ints (bsl f n x))]) (fun y => y ≤ 59) (fun y => 60 - y) [1, 3, 4, 5, 6, 7] 0 (by rfl) (by rfl) (Nat.zero_le _) fun y hy ihy => ?_
    have hq2 := it_lt hf hq (y + 1)
    try simp only [hlf, take6, List.drop_zero, Int.cast_ofNat_Int, go_sem, ↓reduceIte, Nat.reduceEqDiff, Nat.reduceAdd, Nat.reduceMul, Nat.reduceLeDiff, Nat.reduceLT, Int.reduceLE, Int.reduceLT, reduceCtorEq]
    refine ⟨fun h3 => ?_, fun h3 => ?_⟩
    · have hy2 : y < 59 := by
        refine Decidable.byContradiction fun hn => h3 ?_
        obtain rfl : y = 59 := by omega
        rw [cyc_60 hf hcy]
      have em : min (lo f (it f 60 x) y : Int) (it f (y + 1) (it f 60 x) : Int) = ((lo f (it f 60 x) (y + 1) : Nat) : Int) := by
        simp only [lo]; omega
      rw [em]
      repeat' (first | refine And.intro ?_ ?_ | intro _)
      all_goals (try omega)
      exact ihy (y + 1) (by omega) (by omega) _ _ (by rfl) rfl
    · have e := lo_60 hf hp y (by omega)
      rw [e]
      have hl := bsl_length f n x
      try simp only [hl, take6, List.drop_zero, Int.cast_ofNat_Int, go_sem, ↓reduceIte, Nat.reduceEqDiff, Nat.reduceAdd, Nat.reduceMul, Nat.reduceLeDiff, Nat.reduceLT, Int.reduceLE, Int.reduceLT, reduceCtorEq]
      repeat' (first | refine And.intro ?_ ?_ | intro _)
      all_goals (try omega)
      refine ih (x + 1) (by omega) (by omega) _ _ (by rfl) ?_
      rw [List.take_of_length_le (by simp), bsl_succ]
  · obtain rfl : x = n := by omega
    exact Kv.Fin.now ⟨rfl, rfl⟩
end Go.Proofs.Ytpkddcjecfogeaa
