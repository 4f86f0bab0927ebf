/- Cycle types: both sides. -/
import Derived.Test.YtpfapiiinkkcgaaGreatCb
import Derived.Test.YtpfapiiinkkcgaaGreatSF
import Derived.Test.YtpfapiiinkkcgaaGreatHB
import Derived.Test.YtpfapiiinkkcgaaGreatG5
import Derived.Test.YtpfapiiinkkcgaaGreatG3
namespace Go.Proofs.YtpfapiiinkkcgaaGreat
open Go.Kv
set_option maxRecDepth 100000
/- impl.CycleType -/
/- live [1, 4, 14, 15, 16] -/
def k25_b0 : KC := (.seq (.ops [⟨(some 17), none, .bin .lss (.t 16) (.t 15)⟩])
  (.seq (.cond (.t 17) .skip (.exit 0))
  (.seq (.block 1 (.seq (.ops [⟨(some 18), none, .idxS 1 (.t 14) (.t 16)⟩, ⟨(some 19), none, .load false 1 (.t 18)⟩, ⟨(some 6), none, .mv (.t 19)⟩])
  (.seq (.ops [⟨(some 20), none, .load true 6 (.t 1)⟩, ⟨(some 21), none, .mv (.t 6)⟩, ⟨(some 22), none, .call (.c (.fn (.func 88) [] [])) [(.t 20), (.t 21)]⟩, ⟨(some 7), none, .mv (.t 22)⟩])
  (.seq (.ops [⟨(some 23), none, .mv (.t 7)⟩, ⟨(some 24), none, .call (.c (.fn (.func 87) [] [])) [(.t 23)]⟩, ⟨(some 25), none, .mv (.t 6)⟩, ⟨(some 26), none, .bin .eql (.t 24) (.t 25)⟩])
  (.cond (.t 26) (.ops [⟨(some 27), none, .mv (.t 4)⟩, ⟨(some 28), none, .mv (.t 7)⟩, ⟨(some 29), none, .len false (.t 28)⟩, ⟨(some 30), none, .bsl true 2 1 [(.t 29)]⟩, ⟨(some 31), none, .app (.t 27) (.t 30) 2 1⟩, ⟨(some 4), none, .mv (.t 31)⟩]) .skip)))))
  (.ops [⟨(some 32), none, .bin .add (.t 16) (.c (.int .i64 1))⟩, ⟨(some 16), none, .mv (.t 32)⟩]))))
def k25 : KC := (.seq (.ops [⟨(some 1), none, .box true (.t 0)⟩, ⟨(some 2), none, .mv (.c (.nils))⟩, ⟨(some 3), none, .mv (.c (.int .i64 0))⟩])
  (.seq (.seq (.ops [⟨(some 8), none, .load true 6 (.t 1)⟩, ⟨(some 9), none, .call (.c (.fn (.func 85) [] [])) [(.t 8)]⟩, ⟨(some 10), none, .not (.t 9)⟩])
  (.cond (.t 10) (.seq (.ops [⟨(some 2), none, .mv (.c (.nils))⟩, ⟨(some 3), none, .mv (.c (.int .i64 1))⟩])
  .ret) .skip))
  (.seq (.ops [⟨(some 4), none, .mv (.c (.nils))⟩])
  (.seq (.seq (.ops [⟨(some 11), none, .load true 6 (.t 1)⟩, ⟨(some 12), none, .load true 6 (.t 1)⟩, ⟨(some 13), none, .mkfn (.func 94) [(.t 12)] []⟩, ⟨(some 14), none, .call (.c (.fn (.func 93) [] [])) [(.t 11), (.t 13)]⟩, ⟨(some 15), none, .len false (.t 14)⟩, ⟨(some 16), none, .mv (.c (.int .i64 0))⟩])
  (.block 0 (.loop k25_b0)))
  (.seq (.ops [⟨(some 33), none, .mv (.t 4)⟩, ⟨(some 34), none, .call (.c (.fn (.func 95) [] [])) [(.t 33), (.c (.fn (.func 96) [] []))]⟩])
  (.seq (.ops [⟨(some 35), none, .mv (.t 4)⟩, ⟨(some 2), none, .mv (.t 35)⟩, ⟨(some 3), none, .mv (.c (.int .i64 0))⟩])
  .ret))))))
theorem e25 {args : List PV} {σ : Heap} {K : PV → Heap → Prop} (hl : args.length ≤ 36) (h : Wf σ → (∀ a ∈ args, PV.upto σ.length a) → vc (mkCfg Tryz.prog mixed [1, 30] 36 σ.length) k25 (FinK σ.length [.t 2, .t 3] K) (argEnv 0 args) σ) : ACall Tryz.prog 25 args σ K :=
  ACall_enter (C := mkCfg Tryz.prog mixed [1, 30] 36 σ.length) (c := Tryz.f25.body.getD .skip) Tryz.func25 (by kernel_rfl) (by kernel_rfl) (by kernel_rfl) rfl hl (by kernel_rfl) (by kernel_rfl) h
/- impl.CycleType$1 -/
def k96 : KC := (.seq (.ops [⟨(some 4), none, .mv (.c (.int .i64 0))⟩])
  (.seq (.ops [⟨(some 5), none, .mv (.t 1)⟩, ⟨(some 6), none, .mv (.t 0)⟩, ⟨(some 7), none, .call (.c (.fn (.func 97) [] [])) [(.t 5), (.t 6)]⟩, ⟨(some 4), none, .mv (.t 7)⟩])
  .ret))
theorem e96 {args : List PV} {σ : Heap} {K : PV → Heap → Prop} (hl : args.length ≤ 8) (h : Wf σ → (∀ a ∈ args, PV.upto σ.length a) → vc (mkCfg Tryz.prog mixed [] 8 σ.length) k96 (FinK σ.length [.t 4] K) (argEnv 0 args) σ) : ACall Tryz.prog 96 args σ K :=
  ACall_enter (C := mkCfg Tryz.prog mixed [] 8 σ.length) (c := Tryz.f96.body.getD .skip) Tryz.func96 (by kernel_rfl) (by kernel_rfl) (by kernel_rfl) rfl hl (by kernel_rfl) (by kernel_rfl) h
/- (impl.Map).where -/
def k93 : KC := (.seq (.ops [⟨(some 2), none, .box true (.t 0)⟩, ⟨(some 3), none, .box true (.t 1)⟩, ⟨(some 4), none, .mv (.c (.nils))⟩])
  (.seq (.ops [⟨(some 5), none, .fieldA 0 (.t 2)⟩, ⟨(some 6), none, .load false 1 (.t 5)⟩, ⟨(some 7), none, .call (.c (.fn (.func 112) [] [])) [(.t 6)]⟩, ⟨(some 8), none, .mkfn (.func 144) [] [(.t 3)]⟩, ⟨(some 9), none, .call (.c (.fn (.func 111) [] [])) [(.t 7), (.t 8)]⟩, ⟨(some 4), none, .mv (.t 9)⟩])
  .ret))
theorem e93 {args : List PV} {σ : Heap} {K : PV → Heap → Prop} (hl : args.length ≤ 10) (h : Wf σ → (∀ a ∈ args, PV.upto σ.length a) → vc (mkCfg Tryz.prog mixed [2, 3] 10 σ.length) k93 (FinK σ.length [.t 4] K) (argEnv 0 args) σ) : ACall Tryz.prog 93 args σ K :=
  ACall_enter (C := mkCfg Tryz.prog mixed [2, 3] 10 σ.length) (c := Tryz.f93.body.getD .skip) Tryz.func93 (by kernel_rfl) (by kernel_rfl) (by kernel_rfl) rfl hl (by kernel_rfl) (by kernel_rfl) h
/- (impl.Map).where$1 -/
def k144 : KC := (.seq (.ops [⟨(some 3), none, .mv (.c (.bool false))⟩])
  (.seq (.ops [⟨(some 4), none, .load false 1 (.t 1)⟩, ⟨(some 5), none, .mv (.t 0)⟩, ⟨(some 6), none, .call (.t 4) [(.t 5)]⟩, ⟨(some 7), none, .not (.t 6)⟩, ⟨(some 3), none, .mv (.t 7)⟩])
  .ret))
theorem e144 {args : List PV} {σ : Heap} {K : PV → Heap → Prop} (hl : args.length ≤ 8) (h : Wf σ → (∀ a ∈ args, PV.upto σ.length a) → vc (mkCfg Tryz.prog mixed [] 8 σ.length) k144 (FinK σ.length [.t 3] K) (argEnv 0 args) σ) : ACall Tryz.prog 144 args σ K :=
  ACall_enter (C := mkCfg Tryz.prog mixed [] 8 σ.length) (c := Tryz.f144.body.getD .skip) Tryz.func144 (by kernel_rfl) (by kernel_rfl) (by kernel_rfl) rfl hl (by kernel_rfl) (by kernel_rfl) h
/- spec.CycleType -/
/- live [1, 4, 5, 6, 7, 8, 50, 51, 52, 53, 54, 55, 56] -/
def k66_b0 : KC := (.seq (.seq (.ops [⟨(some 32), none, .mv (.t 8)⟩, ⟨(some 33), none, .mv (.t 6)⟩, ⟨(some 34), none, .bin .neq (.t 32) (.t 33)⟩])
  (.cond (.t 34) .skip (.exit 2)))
  (.seq (.block 3 (.ops [⟨(some 39), none, .mv (.t 7)⟩, ⟨(some 40), none, .bin .add (.t 39) (.c (.int .i64 1))⟩, ⟨(some 7), none, .mv (.t 40)⟩]))
  (.ops [⟨(some 35), none, .mv (.t 8)⟩, ⟨(some 36), none, .fieldA 1 (.t 1)⟩, ⟨(some 37), none, .idxA 5 1 (.t 36) (.t 35)⟩, ⟨(some 38), none, .load false 1 (.t 37)⟩, ⟨(some 8), none, .mv (.t 38)⟩])))
/- live [1, 4, 5, 6, 7, 9, 50, 51, 52, 53, 54, 55, 56] -/
def k66_b1 : KC := (.seq (.seq (.ops [⟨(some 47), none, .mv (.t 9)⟩, ⟨(some 48), none, .bin .gtr (.t 47) (.c (.int .i64 0))⟩, ⟨(some 49), none, .mv (.t 48)⟩, ⟨(some 50), some (49, true), .mv (.t 5)⟩, ⟨(some 51), some (49, true), .mv (.t 9)⟩, ⟨(some 52), some (49, true), .bin .sub (.t 51) (.c (.int .i64 1))⟩, ⟨(some 53), some (49, true), .idxS 1 (.t 50) (.t 52)⟩, ⟨(some 54), some (49, true), .load false 1 (.t 53)⟩, ⟨(some 55), some (49, true), .mv (.t 7)⟩, ⟨(some 56), some (49, true), .bin .lss (.t 54) (.t 55)⟩, ⟨(some 57), none, .pick (.t 49) (.t 56) (.c (.bool false))⟩])
  (.cond (.t 57) .skip (.exit 4)))
  (.block 5 (.seq (.ops [⟨(some 58), none, .mv (.t 5)⟩, ⟨(some 59), none, .mv (.t 9)⟩, ⟨(some 60), none, .mv (.t 5)⟩, ⟨(some 61), none, .mv (.t 9)⟩, ⟨(some 62), none, .bin .sub (.t 61) (.c (.int .i64 1))⟩, ⟨(some 63), none, .idxS 1 (.t 60) (.t 62)⟩, ⟨(some 64), none, .load false 1 (.t 63)⟩, ⟨(some 65), none, .idxS 1 (.t 58) (.t 59)⟩, ⟨none, none, .store 1 (.t 65) (.t 64)⟩])
  (.ops [⟨(some 66), none, .mv (.t 9)⟩, ⟨(some 67), none, .bin .sub (.t 66) (.c (.int .i64 1))⟩, ⟨(some 9), none, .mv (.t 67)⟩]))))
/- live [1, 4, 5, 6, 50, 51, 52, 53, 54, 55, 56] -/
def k66_b2 : KC := (.seq (.seq (.ops [⟨(some 16), none, .mv (.t 6)⟩, ⟨(some 17), none, .fieldA 0 (.t 1)⟩, ⟨(some 18), none, .load false 1 (.t 17)⟩, ⟨(some 19), none, .bin .lss (.t 16) (.t 18)⟩])
  (.cond (.t 19) .skip (.exit 0)))
  (.seq (.block 1 (.seq (.seq (.ops [⟨(some 22), none, .mv (.t 4)⟩, ⟨(some 23), none, .mv (.t 6)⟩, ⟨(some 24), none, .idxS 1 (.t 22) (.t 23)⟩, ⟨(some 25), none, .load false 1 (.t 24)⟩, ⟨(some 26), none, .mv (.t 6)⟩, ⟨(some 27), none, .bin .neq (.t 25) (.t 26)⟩])
  (.cond (.t 27) (.exit 1) .skip))
  (.seq (.ops [⟨(some 7), none, .mv (.c (.int .i64 1))⟩])
  (.seq (.seq (.ops [⟨(some 28), none, .mv (.t 6)⟩, ⟨(some 29), none, .fieldA 1 (.t 1)⟩, ⟨(some 30), none, .idxA 5 1 (.t 29) (.t 28)⟩, ⟨(some 31), none, .load false 1 (.t 30)⟩, ⟨(some 8), none, .mv (.t 31)⟩])
  (.block 2 (.loop k66_b0)))
  (.seq (.ops [⟨(some 41), none, .mv (.t 5)⟩, ⟨(some 42), none, .len false (.t 41)⟩, ⟨(some 9), none, .mv (.t 42)⟩])
  (.seq (.ops [⟨(some 43), none, .mv (.t 5)⟩, ⟨(some 44), none, .mv (.t 7)⟩, ⟨(some 45), none, .bsl true 2 1 [(.t 44)]⟩, ⟨(some 46), none, .app (.t 43) (.t 45) 2 1⟩, ⟨(some 5), none, .mv (.t 46)⟩])
  (.seq (.block 4 (.loop k66_b1))
  (.ops [⟨(some 68), none, .mv (.t 5)⟩, ⟨(some 69), none, .mv (.t 9)⟩, ⟨(some 70), none, .mv (.t 7)⟩, ⟨(some 71), none, .idxS 1 (.t 68) (.t 69)⟩, ⟨none, none, .store 1 (.t 71) (.t 70)⟩]))))))))
  (.ops [⟨(some 20), none, .mv (.t 6)⟩, ⟨(some 21), none, .bin .add (.t 20) (.c (.int .i64 1))⟩, ⟨(some 6), none, .mv (.t 21)⟩])))
def k66 : KC := (.seq (.ops [⟨(some 1), none, .box true (.t 0)⟩, ⟨(some 2), none, .mv (.c (.nils))⟩, ⟨(some 3), none, .mv (.c (.int .i64 0))⟩])
  (.seq (.seq (.ops [⟨(some 10), none, .load true 6 (.t 1)⟩, ⟨(some 11), none, .call (.c (.fn (.func 89) [] [])) [(.t 10)]⟩, ⟨(some 12), none, .not (.t 11)⟩])
  (.cond (.t 12) (.seq (.ops [⟨(some 2), none, .mv (.c (.nils))⟩, ⟨(some 3), none, .mv (.c (.int .i64 1))⟩])
  .ret) .skip))
  (.seq (.ops [⟨(some 13), none, .load true 6 (.t 1)⟩, ⟨(some 14), none, .call (.c (.fn (.func 90) [] [])) [(.t 13)]⟩, ⟨(some 15), none, .bsl false 2 1 []⟩, ⟨(some 4), none, .mv (.t 14)⟩, ⟨(some 5), none, .mv (.t 15)⟩])
  (.seq (.seq (.ops [⟨(some 6), none, .mv (.c (.int .i64 0))⟩])
  (.block 0 (.loop k66_b2)))
  (.seq (.ops [⟨(some 72), none, .mv (.t 5)⟩, ⟨(some 2), none, .mv (.t 72)⟩, ⟨(some 3), none, .mv (.c (.int .i64 0))⟩])
  .ret)))))
theorem e66 {args : List PV} {σ : Heap} {K : PV → Heap → Prop} (hl : args.length ≤ 73) (h : Wf σ → (∀ a ∈ args, PV.upto σ.length a) → vc (mkCfg Tryz.prog mixed [1, 45] 73 σ.length) k66 (FinK σ.length [.t 2, .t 3] K) (argEnv 0 args) σ) : ACall Tryz.prog 66 args σ K :=
  ACall_enter (C := mkCfg Tryz.prog mixed [1, 45] 73 σ.length) (c := Tryz.f66.body.getD .skip) Tryz.func66 (by kernel_rfl) (by kernel_rfl) (by kernel_rfl) rfl hl (by kernel_rfl) (by kernel_rfl) h
end Go.Proofs.YtpfapiiinkkcgaaGreat
namespace Go.Proofs.YtpfapiiinkkcgaaGreat
open Go.Kv
set_option linter.unusedVariables false
set_option linter.unusedSimpArgs false
attribute [local irreducible] ACall PCall KL
/-- The length of the cycle of a cyclic point. -/
def clen (f : List Nat) (p : Nat) : Nat := (List.range 60).findIdx (fun k => decide (it f (k + 1) p = p)) + 1
theorem clen_eq {f : List Nat} {p m : Nat} (hm : m < 60) (h : it f (m + 1) p = p) (hno : ∀ j, j < m → it f (j + 1) p ≠ p) : clen f p = m + 1 := by
  unfold clen
  congr 1
  rw [List.findIdx_eq (by simpa using hm)]
  refine ⟨by simp [h], fun j hj => by simp [hno j hj]⟩
attribute [local irreducible] clen
/-- The least points of the cycles. -/
def isRt (f : List Nat) (n p : Nat) : Bool := cyc f n p && decide (mino f p = p)
def crts (f : List Nat) (n x : Nat) : List Nat := (List.range x).filter (isRt f n)
def lens (f : List Nat) (n x : Nat) : List Int := (crts f n x).map fun p => (clen f p : Int)
theorem lens_succ (f : List Nat) (n x : Nat) : lens f n (x + 1) = lens f n x ++ if isRt f n x = true then [(clen f x : Int)] else [] := by
  unfold lens crts
  rw [List.range_succ, List.filter_append, List.map_append]
  congr 1
  by_cases h : isRt f n x = true <;> simp [h]
theorem bas_root {f : List Nat} {n p : Nat} (hf : Ok f n) (hp : p < n) : (mino f (it f (hgt f n p) p) = p) ↔ isRt f n p = true := by
  obtain ⟨h1, h2⟩ := hgt_spec hf hp
  constructor
  · intro h
    have hm := lo_round (f := f) (m := 59) (cyc_60 hf h2)
    obtain ⟨k, hk⟩ := hm.1
    have hc : cyc f n p = true := by
      have := cyc_step h2 k
      have e : mino f (it f (hgt f n p) p) = it f k (it f (hgt f n p) p) := hk
      rw [← e, h] at this
      exact this
    have h0 : hgt f n p = 0 := hgt_eq (by omega) (by simpa [it] using hc) (fun j hj => by omega)
    rw [h0] at h
    simp only [isRt, hc, Bool.true_and, decide_eq_true_eq]
    exact h
  · intro h
    simp only [isRt, Bool.and_eq_true, decide_eq_true_eq] at h
    have h0 : hgt f n p = 0 := hgt_eq (by omega) (by simpa [it] using h.1) (fun j hj => by omega)
    rw [h0]; exact h.2
/-- The lists of lengths, the greatest first. -/
theorem desc_uniq {r s : List Int} (h : r.Perm s) (hr : (negs r).Pairwise (· ≤ ·)) (hs : (negs s).Pairwise (· ≤ ·)) : r = s := by
  have := sorted_uniq (h.map fun x => -x) hr hs
  have h2 := congrArg (List.map fun x : Int => -x) this
  simpa [negs, Function.comp_def] using h2
theorem p88T (f : List Nat) (n p : Nat) (hf : Ok f n) (hp : p < n) (hc : cyc f n p = true) : ACall Tryz.prog 88 [.agg (ints (mp f)), .int .i64 p] [] (fun v s => (∃ m, m ≤ 59 ∧ it f (m + 1) p = p ∧ (∀ j, j < m → it f (j + 1) p ≠ p) ∧ v = .list (ints (its f p (m + 1)))) ∧ s = []) := by
  have hlf := hf.mp_len
  have h5 := hf.le
  refine e88 (by simp) fun _ _ => ?_
  simp only [k88, argEnv, hlf, hf.len, take6, List.drop_zero, Int.cast_ofNat_Int, go_sem, ↓reduceIte, Nat.reduceEqDiff, Nat.reduceAdd, Nat.reduceMul, Nat.reduceLeDiff, Nat.reduceLT, Int.reduceLE, Int.reduceLT, reduceCtorEq]
  refine ⟨by omega, by omega, fun _ => ?_⟩
  refine KL_ind k88_b0.eq_1 (fun x : Nat => [(1, .int .i64 p), (2, .fptr (ints (mp f)) 0), (5, .ref 0 x 0 (x + 1)), (6, .int .i64 (it f (x + 1) p))]) (fun x => [.arr x 2 1 (ints (its f p (x + 1)))]) (fun x => x ≤ 59 ∧ ∀ j, j < x → it f (j + 1) p ≠ p) (fun x => 60 - x) [1, 2, 5, 6] 0 (by rfl) (by rfl) ⟨Nat.zero_le _, fun j hj => by omega⟩ fun x ⟨hx, hno⟩ ih => ?_
  have hq := it_lt hf hp (x + 1)
  try simp only [hlf, take6, List.drop_zero, Int.cast_ofNat_Int, go_sem, ↓reduceIte, Nat.reduceEqDiff, Nat.reduceAdd, Nat.reduceMul, Nat.reduceLeDiff, Nat.reduceLT, Int.reduceLE, Int.reduceLT, reduceCtorEq]
  refine ⟨fun h1 => ?_, fun h1 => ?_⟩
  · have hx2 : x < 59 := by
      refine Decidable.byContradiction fun hn => h1 ?_
      obtain rfl : x = 59 := by omega
      rw [cyc_60 hf hc]
    have hl := its_length f p (x + 1)
    try simp only [hl, take6, List.drop_zero, Int.cast_ofNat_Int, go_sem, ↓reduceIte, Nat.reduceEqDiff, Nat.reduceAdd, Nat.reduceMul, Nat.reduceLeDiff, Nat.reduceLT, Int.reduceLE, Int.reduceLT, reduceCtorEq]
    repeat' (first | refine And.intro ?_ ?_ | intro _)
    all_goals (try omega)
    refine ih (x + 1) ⟨by omega, fun j hj => ?_⟩ (by omega) _ _ (by rfl) ?_
    · by_cases e : j = x
      · subst e; omega
      · exact hno j (by omega)
    · rw [List.take_of_length_le (by omega), its_succ]
  · refine Kv.Fin.freeze (.refn (l := its f p (x + 1)) rfl (by simp)) ⟨⟨x, hx, by omega, hno, rfl⟩, rfl⟩
theorem p96 (a b : Int) : Pure Tryz.prog 96 [.int .i64 a, .int .i64 b] (.int .i64 (cmpI b a)) := by
  refine e96 (by simp) fun _ _ => ?_
  simp only [k96, argEnv, take6, List.drop_zero, Int.cast_ofNat_Int, go_sem, ↓reduceIte, Nat.reduceEqDiff, Nat.reduceAdd, Nat.reduceMul, Nat.reduceLeDiff, Nat.reduceLT, Int.reduceLE, Int.reduceLT, reduceCtorEq]
  refine (p97 b a).go ?_
  try simp only [take6, List.drop_zero, Int.cast_ofNat_Int, go_sem, ↓reduceIte, Nat.reduceEqDiff, Nat.reduceAdd, Nat.reduceMul, Nat.reduceLeDiff, Nat.reduceLT, Int.reduceLE, Int.reduceLT, reduceCtorEq]
  exact Kv.Fin.still ⟨rfl, rfl⟩
theorem p144 (f : List Nat) (n p : Nat) (hf : Ok f n) (hp : p < n) : Pure Tryz.prog 144 [.int .i64 p, .fptr [.fn (.func 94) [.agg (ints (mp f))] []] 0] (.bool (!cyc f n p)) := by
  refine e144 (by simp) fun _ _ => ?_
  simp only [k144, argEnv, take6, List.drop_zero, Int.cast_ofNat_Int, go_sem, ↓reduceIte, Nat.reduceEqDiff, Nat.reduceAdd, Nat.reduceMul, Nat.reduceLeDiff, Nat.reduceLT, Int.reduceLE, Int.reduceLT, reduceCtorEq]
  refine (p94 f n p hf hp).go ?_
  try simp only [take6, List.drop_zero, Int.cast_ofNat_Int, go_sem, ↓reduceIte, Nat.reduceEqDiff, Nat.reduceAdd, Nat.reduceMul, Nat.reduceLeDiff, Nat.reduceLT, Int.reduceLE, Int.reduceLT, reduceCtorEq]
  exact Kv.Fin.still ⟨rfl, rfl⟩
theorem p93 (f : List Nat) (n : Nat) (hf : Ok f n) : Pure Tryz.prog 93 [.agg (ints (mp f)), .fn (.func 94) [.agg (ints (mp f))] []] (.list (ints (((List.range n).filter (cyc f n)).map fun x : Nat => (x : Int)))) := by
  have hlf := hf.mp_len
  have h1 := hf.pos
  have h5 := hf.le
  refine e93 (by simp) fun _ _ => ?_
  simp only [k93, argEnv, hlf, hf.len, take6, List.drop_zero, Int.cast_ofNat_Int, go_sem, ↓reduceIte, Nat.reduceEqDiff, Nat.reduceAdd, Nat.reduceMul, Nat.reduceLeDiff, Nat.reduceLT, Int.reduceLE, Int.reduceLT, reduceCtorEq]
  refine (p112 n (by omega)).go fun v s ⟨hv, hs⟩ => ?_
  subst hv; subst hs
  try simp only [ren_ref, take6, List.drop_zero, Int.cast_ofNat_Int, go_sem, ↓reduceIte, Nat.reduceEqDiff, Nat.reduceAdd, Nat.reduceMul, Nat.reduceLeDiff, Nat.reduceLT, Int.reduceLE, Int.reduceLT, reduceCtorEq]
  refine (p111 (n - 1) (pts n) (by simp [pts]; omega) 144 [.fptr [.fn (.func 94) [.agg (ints (mp f))] []] 0] ?_ (fun v => !cyc f n v.toNat) fun x hx => ?_).mono fun v s ⟨hv, post, hs⟩ => ?_
  · exact StillL.up inferInstance
  · obtain ⟨k, hk, rfl⟩ := List.mem_map.1 (show x ∈ (List.range n).map fun i : Nat => (i : Int) from hx)
    have := p144 f n k hf (by simpa using hk)
    simpa using this
  · subst hv; subst hs
    try simp only [take6, List.drop_zero, Int.cast_ofNat_Int, go_sem, ↓reduceIte, Nat.reduceEqDiff, Nat.reduceAdd, Nat.reduceMul, Nat.reduceLeDiff, Nat.reduceLT, Int.reduceLE, Int.reduceLT, reduceCtorEq]
    have e : (pts n).filter (fun x => !!cyc f n x.toNat) = ((List.range n).filter (cyc f n)).map fun x : Nat => (x : Int) := by
      show ((List.range n).map fun i : Nat => (i : Int)).filter _ = _
      rw [List.filter_map]
      congr 1
      refine List.filter_congr fun k _ => ?_
      simp
    rw [e]
    exact Kv.Fin.freeze (Imm.refp (pre := []) (post := post) rfl rfl rfl) ⟨rfl, rfl⟩
/-- The maps that are no maps. -/
theorem p25_out (m : List Int) (h6 : m.length = 6) (hm : isM m = false) : Pure Tryz.prog 25 [.agg (ints m)] (.tup [.nils, .int .i64 1]) := by
  refine e25 (by simp) fun _ _ => ?_
  simp only [k25, argEnv, h6, take6, List.drop_zero, Int.cast_ofNat_Int, go_sem, ↓reduceIte, Nat.reduceEqDiff, Nat.reduceAdd, Nat.reduceMul, Nat.reduceLeDiff, Nat.reduceLT, Int.reduceLE, Int.reduceLT, reduceCtorEq]
  refine (p85 m h6).go ?_
  rw [hm]
  try simp only [h6, take6, List.drop_zero, Int.cast_ofNat_Int, go_sem, ↓reduceIte, Nat.reduceEqDiff, Nat.reduceAdd, Nat.reduceMul, Nat.reduceLeDiff, Nat.reduceLT, Int.reduceLE, Int.reduceLT, reduceCtorEq]
  exact Kv.Fin.still ⟨rfl, rfl⟩
theorem p66_out (m : List Int) (h6 : m.length = 6) (hm : isM m = false) : Pure Tryz.prog 66 [.agg (ints m)] (.tup [.nils, .int .i64 1]) := by
  refine e66 (by simp) fun _ _ => ?_
  simp only [k66, argEnv, h6, take6, List.drop_zero, Int.cast_ofNat_Int, go_sem, ↓reduceIte, Nat.reduceEqDiff, Nat.reduceAdd, Nat.reduceMul, Nat.reduceLeDiff, Nat.reduceLT, Int.reduceLE, Int.reduceLT, reduceCtorEq]
  refine (p89 m h6).go ?_
  rw [hm]
  try simp only [h6, take6, List.drop_zero, Int.cast_ofNat_Int, go_sem, ↓reduceIte, Nat.reduceEqDiff, Nat.reduceAdd, Nat.reduceMul, Nat.reduceLeDiff, Nat.reduceLT, Int.reduceLE, Int.reduceLT, reduceCtorEq]
  exact Kv.Fin.still ⟨rfl, rfl⟩
/-- The first lengths, along the cyclic points. -/
def cyN (f : List Nat) (n x : Nat) : List Int := ((((List.range n).filter (cyc f n)).take x).filter (fun p => decide (mino f p = p))).map fun p => (clen f p : Int)
theorem cyN_eq (f : List Nat) (n x : Nat) : cyN f n x = ((((List.range n).filter (cyc f n)).take x).filter (fun p => decide (mino f p = p))).map fun p => (clen f p : Int) := rfl
theorem cyN_all (f : List Nat) (n : Nat) : cyN f n ((List.range n).filter (cyc f n)).length = lens f n n := by
  rw [cyN_eq, List.take_length, List.filter_filter]
  show _ = ((List.range n).filter (isRt f n)).map fun p => (clen f p : Int)
  exact congrArg (List.map fun p => (clen f p : Int)) (List.filter_congr fun p _ => by unfold isRt; rw [Bool.and_comm])
theorem cyN_succ (f : List Nat) (n : Nat) {x : Nat} (h : x < ((List.range n).filter (cyc f n)).length) : cyN f n (x + 1) = cyN f n x ++ if mino f ((List.range n).filter (cyc f n))[x] = ((List.range n).filter (cyc f n))[x] then [(clen f ((List.range n).filter (cyc f n))[x] : Int)] else [] := by
  rw [cyN_eq, cyN_eq, List.take_succ_eq_append_getElem h, List.filter_append, List.map_append]
  refine congrArg (fun z => (((((List.range n).filter (cyc f n)).take x).filter (fun p => decide (mino f p = p))).map fun p => (clen f p : Int)) ++ z) ?_
  generalize ((List.range n).filter (cyc f n))[x] = q
  by_cases hm : mino f q = q
  · rw [if_pos hm, List.filter_cons_of_pos (by simp [hm]), List.filter_nil]; rfl
  · rw [if_neg hm, List.filter_cons_of_neg (by simp [hm]), List.filter_nil]; rfl
theorem cyN_len (f : List Nat) (n x : Nat) : (cyN f n x).length ≤ x := by
  rw [cyN_eq, List.length_map]
  have := List.length_filter_le (fun p => decide (mino f p = p)) (((List.range n).filter (cyc f n)).take x)
  simp only [List.length_take] at this
  omega
/-- A slice of numbers that grows, and is all the heap. -/
def GrI (v : PV) (σ : Heap) (l : List Int) : Prop := (v = .nils ∧ σ = [] ∧ l = []) ∨ ∃ ver, v = .ref 0 ver 0 l.length ∧ σ = [.arr ver 2 1 (ints l)]
theorem GrI.push {v : PV} {σ : Heap} {l : List Int} (h : GrI v σ l) (hl : l.length ≤ 1000) (x : Int) {K : PV → Heap → Prop} (hK : ∀ v' σ', GrI v' σ' (l ++ [x]) → K v' σ') : aApp 2 1 v (.list [.int .i64 x]) σ K := by
  have hok : okL 1 [PV.int .i64 x] = True := by simp [okL, PV.cs, PV.ok]
  rcases h with ⟨rfl, rfl, rfl⟩ | ⟨ver, rfl, rfl⟩
  · simp only [aApp_nils, aNews_list, hok, true_and, AppN_def]
    refine ⟨by simp, hK _ _ (.inr ⟨0, ?_, ?_⟩)⟩
    · simp
    · simp [ints]
  · have h0 : ([AObj.arr ver 2 1 (ints l)] : Heap)[0]? = some (.arr ver 2 1 (ints l)) := rfl
    simp only [aApp_ref, h0, AppR_arr, aNews_list, hok, true_and, AppM_def]
    refine ⟨⟨by simp [ints_length], by simp; omega⟩, hK _ _ (.inr ⟨ver + 1, ?_, ?_⟩)⟩
    · simp
    · rw [List.take_of_length_le (by simp [ints_length])]; simp [ints]
theorem lens_ne {f : List Nat} {n : Nat} (hf : Ok f n) : lens f n n ≠ [] := by
  have hp : 0 < n := hf.pos
  obtain ⟨_, h2⟩ := hgt_spec hf hp
  generalize hq : it f (hgt f n 0) 0 = q at h2
  have hqn : q < n := by rw [← hq]; exact it_lt hf hp _
  have h60 := cyc_60 hf h2
  have hmin := lo_round (f := f) (m := 59) h60
  obtain ⟨k, hk, e⟩ := lo_mem f q 59
  have hr : mino f q = it f k q := e
  have hrc : cyc f n (it f k q) = true := cyc_step h2 k
  have hback : it f (60 - k) (it f k q) = q := by rw [← it_add, show k + (60 - k) = 60 by omega]; exact h60
  have hm2 : IsMin f (it f k q) (it f k q) := by
    refine IsMin.move (n := n) (j := 60 - k) hrc ?_
    rw [hback]
    have : IsMin f q (mino f q) := hmin
    rwa [hr] at this
  have hmr := mino_eq hf hrc hm2
  have hmem : it f k q ∈ crts f n n := by
    refine List.mem_filter.2 ⟨List.mem_range.2 (it_lt hf hqn k), ?_⟩
    simp only [isRt, hrc, Bool.true_and, decide_eq_true_eq]
    exact hmr.symm
  intro h0
  have hl := congrArg List.length h0
  simp only [lens, List.length_map, List.length_nil] at hl
  have := List.length_pos_of_mem hmem
  omega
theorem p25_in (f : List Nat) (n : Nat) (hf : Ok f n) : NewIO Tryz.prog 25 [.agg (ints (mp f))] 2 (negs (srt (negs (lens f n n)))) 0 := by
  have hlf := hf.mp_len
  have h5 := hf.le
  unfold NewIO
  refine e25 (by simp) fun _ _ => ?_
  simp only [k25, argEnv, hlf, take6, List.drop_zero, Int.cast_ofNat_Int, go_sem, ↓reduceIte, Nat.reduceEqDiff, Nat.reduceAdd, Nat.reduceMul, Nat.reduceLeDiff, Nat.reduceLT, Int.reduceLE, Int.reduceLT, reduceCtorEq]
  refine (p85 (mp f) hlf).go ?_
  rw [isM_mp hf]
  try simp only [hlf, take6, List.drop_zero, Int.cast_ofNat_Int, go_sem, ↓reduceIte, Nat.reduceEqDiff, Nat.reduceAdd, Nat.reduceMul, Nat.reduceLeDiff, Nat.reduceLT, Int.reduceLE, Int.reduceLT, reduceCtorEq]
  refine (p93 f n hf).go ?_
  generalize hL : (List.range n).filter (cyc f n) = L at *
  have hLl : L.length ≤ n := by
    rw [← hL]; have := List.length_filter_le (cyc f n) (List.range n); simpa using this
  have hcs := fun x (h : x < L.length) => by
    have := cyN_succ f n (x := x) (by rw [hL]; exact h)
    simp only [hL] at this
    exact this
  try simp only [List.length_map, hlf, take6, List.drop_zero, Int.cast_ofNat_Int, go_sem, ↓reduceIte, Nat.reduceEqDiff, Nat.reduceAdd, Nat.reduceMul, Nat.reduceLeDiff, Nat.reduceLT, Int.reduceLE, Int.reduceLT, reduceCtorEq]
  refine KL_ind k25_b0.eq_1 (fun x : Nat × PV × Heap => [(1, .fptr (ints (mp f)) 0), (4, x.2.1), (14, .list (ints (L.map fun x : Nat => (x : Int)))), (15, .int .i64 L.length), (16, .int .i64 x.1)]) (fun x => x.2.2) (fun x => x.1 ≤ L.length ∧ GrI x.2.1 x.2.2 (cyN f n x.1)) (fun x => L.length - x.1) [1, 4, 14, 15, 16] (0, .nils, []) (by simp [keep]) rfl ⟨Nat.zero_le _, .inl ⟨rfl, rfl, rfl⟩⟩ fun ⟨x, v, σ⟩ ⟨hx, hG⟩ ih => ?_
  simp only at hx hG
  try simp only [List.length_map, hlf, natD, take6, List.drop_zero, Int.cast_ofNat_Int, go_sem, ↓reduceIte, Nat.reduceEqDiff, Nat.reduceAdd, Nat.reduceMul, Nat.reduceLeDiff, Nat.reduceLT, Int.reduceLE, Int.reduceLT, reduceCtorEq]
  refine ⟨fun h1 => ?_, fun h1 => ?_⟩
  · have hxl : x < L.length := by omega
    have hm : L[x] ∈ L := List.getElem_mem hxl
    have hm2 : L[x] ∈ (List.range n).filter (cyc f n) := by rw [hL]; exact hm
    obtain ⟨hpn, hpc⟩ := List.mem_filter.1 hm2
    rw [List.mem_range] at hpn
    clear hm2
    have hgx : L.getD x 0 = L[x] := by simp [List.getD_eq_getElem?_getD, hxl]
    have hc := hcs x hxl
    have hcl := cyN_len f n x
    rw [hgx]
    generalize hq : L[x] = q at *
    refine ⟨by omega, fun _ => ?_⟩
    refine (p88T f n q hf hpn hpc).go fun v' s ⟨⟨m, hm59, hret, hno, hv⟩, hs⟩ => ?_
    subst hv; subst hs
    have hmin : mnl (its f q (m + 1)) m = (mino f q : Int) := by
      rw [mnl_its f q (m + 1) m (by omega), mino_eq hf hpc (lo_round hret)]
    have hcle := clen_eq (by omega) hret hno
    have hMin := p87 (its f q (m + 1)) (by simp) (by simp; omega)
    rw [its_length, Nat.add_sub_cancel, hmin] at hMin
    try simp only [List.append_nil, ren_ints, take6, List.drop_zero, Int.cast_ofNat_Int, go_sem, ↓reduceIte, Nat.reduceEqDiff, Nat.reduceAdd, Nat.reduceMul, Nat.reduceLeDiff, Nat.reduceLT, Int.reduceLE, Int.reduceLT, reduceCtorEq]
    refine hMin.go ?_
    try simp only [its_length, OpK_eq, take6, List.drop_zero, Int.cast_ofNat_Int, go_sem, ↓reduceIte, Nat.reduceEqDiff, Nat.reduceAdd, Nat.reduceMul, Nat.reduceLeDiff, Nat.reduceLT, Int.reduceLE, Int.reduceLT, reduceCtorEq]
    refine ⟨fun h3 => ?_, fun h3 => ⟨by omega, ?_⟩⟩
    · rw [if_pos (by omega)] at hc
      refine hG.push (by omega) _ fun v2 σ2 hG2 => ?_
      try simp only [OpK_eq, take6, List.drop_zero, Int.cast_ofNat_Int, go_sem, ↓reduceIte, Nat.reduceEqDiff, Nat.reduceAdd, Nat.reduceMul, Nat.reduceLeDiff, Nat.reduceLT, Int.reduceLE, Int.reduceLT, reduceCtorEq]
      refine ⟨by omega, ih (x + 1, v2, σ2) ⟨by show x + 1 ≤ L.length; omega, ?_⟩ (by show L.length - (x + 1) < L.length - x; omega) _ _ (by simp [keep]) rfl⟩
      show GrI v2 σ2 (cyN f n (x + 1))
      rw [hc, hcle]; exact hG2
    · rw [if_neg (by omega), List.append_nil] at hc
      refine ih (x + 1, v, σ) ⟨by show x + 1 ≤ L.length; omega, ?_⟩ (by show L.length - (x + 1) < L.length - x; omega) _ _ (by simp [keep]) (by simp)
      show GrI v σ (cyN f n (x + 1))
      rw [hc]; exact hG
  · obtain rfl : x = L.length := by omega
    have hall := cyN_all f n
    rw [hL] at hall
    rw [hall] at hG
    rcases hG with ⟨_, _, h0⟩ | ⟨ver, rfl, rfl⟩
    · exact absurd h0 (lens_ne hf)
    have hl12 : (lens f n n).length ≤ 12 := by rw [← hall]; have := cyN_len f n L.length; omega
    try simp only [OpK_eq, take6, List.drop_zero, Int.cast_ofNat_Int, go_sem, ↓reduceIte, Nat.reduceEqDiff, Nat.reduceAdd, Nat.reduceMul, Nat.reduceLeDiff, Nat.reduceLT, Int.reduceLE, Int.reduceLT, reduceCtorEq]
    refine p95 96 p96 _ 0 ver 2 (lens f n n) rfl hl12 fun r hp hS => ?_
    try simp only [OpK_eq, take6, List.drop_zero, Int.cast_ofNat_Int, go_sem, ↓reduceIte, Nat.reduceEqDiff, Nat.reduceAdd, Nat.reduceMul, Nat.reduceLeDiff, Nat.reduceLT, Int.reduceLE, Int.reduceLT, reduceCtorEq]
    have hr : r = negs (srt (negs (lens f n n))) := by
      have hnn : negs (negs (srt (negs (lens f n n)))) = srt (negs (lens f n n)) := by simp [negs, Function.comp_def]
      refine desc_uniq (hp.trans ?_) hS (by rw [hnn]; exact srt_sorted _)
      have := (srt_perm (negs (lens f n n))).map fun x : Int => -x
      have e : (negs (lens f n n)).map (fun x : Int => -x) = lens f n n := by simp [negs, Function.comp_def]
      rw [e] at this
      exact this.symm
    have hrl : (lens f n n).length = r.length := hp.length_eq.symm
    rw [hrl]
    rw [hr]
    exact Kv.Fin.now ⟨_, rfl, .own 0 ver [] _ [] (by simp) ⟨Nat.zero_le _, by simp⟩, Free.ints _ _ _ _⟩
/-- A place in a list, with a number in it. -/
def insG (r : List Int) (y : Nat) (g : Int) : List Int := r.take y ++ g :: r.drop y
theorem insG_length (r : List Int) {y : Nat} (g : Int) (h : y ≤ r.length) : (insG r y g).length = r.length + 1 := by simp [insG]; omega
theorem insG_top (r : List Int) (g : Int) : insG r r.length g = r ++ [g] := by simp [insG]
theorem insG_set (r : List Int) {y : Nat} (g v : Int) (h : y ≤ r.length) : (insG r y g).set y v = insG r y v := by
  unfold insG
  rw [List.set_append_right _ _ (by simp; omega), List.length_take, Nat.min_eq_left h, Nat.sub_self]
  rfl
theorem insG_get (r : List Int) {y : Nat} (g : Int) (h0 : 0 < y) (h : y ≤ r.length) : (insG r y g).getD (y - 1) 0 = r.getD (y - 1) 0 := by
  unfold insG
  simp only [List.getD_eq_getElem?_getD]
  rw [List.getElem?_append_left (by simp; omega), List.getElem?_take_of_lt (by omega)]
theorem insG_move (r : List Int) {y : Nat} (h0 : 0 < y) (h : y ≤ r.length) : insG r y (r.getD (y - 1) 0) = insG r (y - 1) (r.getD (y - 1) 0) := by
  obtain ⟨z, rfl⟩ : ∃ z, y = z + 1 := ⟨y - 1, by omega⟩
  have hz : z < r.length := by omega
  unfold insG
  have hg : r.getD z 0 = r[z] := by simp [List.getD_eq_getElem?_getD, hz]
  rw [Nat.add_sub_cancel, hg, List.take_succ_eq_append_getElem hz, List.drop_eq_getElem_cons hz, List.append_assoc]
  rfl
theorem insG_perm (r : List Int) (y : Nat) (g : Int) : (insG r y g).Perm (r ++ [g]) := by
  unfold insG
  refine List.perm_middle.trans ?_
  rw [List.take_append_drop]
  exact (List.perm_append_singleton g r).symm
theorem insG_desc {r : List Int} {y : Nat} {g : Int} (hr : r.Pairwise (fun a b => b ≤ a)) (h1 : ∀ a ∈ r.drop y, a ≤ g) (h2 : y = 0 ∨ g ≤ r.getD (y - 1) 0) (h : y ≤ r.length) : (insG r y g).Pairwise (fun a b => b ≤ a) := by
  unfold insG
  have ha : ∀ a ∈ r.take y, g ≤ a := fun a ha => by
    rcases h2 with rfl | h2
    · simp at ha
    obtain ⟨i, hi, rfl⟩ := List.getElem_of_mem ha
    simp only [List.length_take] at hi
    rw [List.getElem_take]
    have hy : y - 1 < r.length := by omega
    have e : r.getD (y - 1) 0 = r[y - 1] := by simp [List.getD_eq_getElem?_getD, hy]
    rw [e] at h2
    by_cases e : i = y - 1
    · subst e; exact h2
    · exact Int.le_trans h2 (List.pairwise_iff_getElem.1 hr i (y - 1) (by omega) hy (by omega))
  rw [← List.take_append_drop y r, List.pairwise_append] at hr
  rw [List.pairwise_append]
  refine ⟨hr.1, List.pairwise_cons.2 ⟨h1, hr.2.1⟩, fun a hma b hb => ?_⟩
  rcases List.mem_cons.1 hb with rfl | hb
  · exact ha a hma
  · exact hr.2.2 a hma b hb
theorem bsl_getD (f : List Nat) (n : Nat) {x : Nat} (h : x < n) : (bsl f n n).getD x 0 = (mino f (it f (hgt f n x) x) : Int) := by
  unfold bsl
  simp [List.getD_eq_getElem?_getD, h]
attribute [local irreducible] bsl
theorem p66_in (f : List Nat) (n : Nat) (hf : Ok f n) : Pure Tryz.prog 66 [.agg (ints (mp f))] (.tup [.list (ints (negs (srt (negs (lens f n n))))), .int .i64 0]) := by
  have hlf := hf.mp_len
  have h1 := hf.pos
  have h5 := hf.le
  refine e66 (by simp) fun _ _ => ?_
  simp only [k66, argEnv, hlf, take6, List.drop_zero, Int.cast_ofNat_Int, go_sem, ↓reduceIte, Nat.reduceEqDiff, Nat.reduceAdd, Nat.reduceMul, Nat.reduceLeDiff, Nat.reduceLT, Int.reduceLE, Int.reduceLT, reduceCtorEq]
  refine (p89 (mp f) hlf).go ?_
  rw [isM_mp hf]
  try simp only [hlf, take6, List.drop_zero, Int.cast_ofNat_Int, go_sem, ↓reduceIte, Nat.reduceEqDiff, Nat.reduceAdd, Nat.reduceMul, Nat.reduceLeDiff, Nat.reduceLT, Int.reduceLE, Int.reduceLT, reduceCtorEq]
  refine (p90 f n hf).go fun v s ⟨hv, hs⟩ => ?_
  subst hv; subst hs
  try simp only [hlf, hf.len, take6, List.drop_zero, Int.cast_ofNat_Int, go_sem, ↓reduceIte, Nat.reduceEqDiff, Nat.reduceAdd, Nat.reduceMul, Nat.reduceLeDiff, Nat.reduceLT, Int.reduceLE, Int.reduceLT, reduceCtorEq]
  refine KL_ind k66_b2.eq_1 (fun x : Nat × List Int => [(1, .fptr (ints (mp f)) 0), (4, .ref 0 n 0 n), (5, .ref 1 x.2.length 0 x.2.length), (6, .int .i64 x.1)]) (fun x => [.arr n 2 1 (ints (bsl f n n)), .arr x.2.length 2 1 (ints x.2)]) (fun x => x.1 ≤ n ∧ x.2.Perm (lens f n x.1) ∧ x.2.Pairwise (fun a b => b ≤ a)) (fun x => n - x.1) [1, 4, 5, 6] (0, []) (by simp [keep]) (by rfl) ⟨Nat.zero_le _, .refl _, .nil⟩ fun ⟨x, r⟩ ⟨hx, hp, hS⟩ ih => ?_
  simp only at hx hp hS
  have hbl := bsl_length f n n
  try simp only [hlf, hf.len, hbl, take6, List.drop_zero, Int.cast_ofNat_Int, go_sem, ↓reduceIte, Nat.reduceEqDiff, Nat.reduceAdd, Nat.reduceMul, Nat.reduceLeDiff, Nat.reduceLT, Int.reduceLE, Int.reduceLT, reduceCtorEq]
  refine ⟨fun h2 => ?_, fun h2 => ?_⟩
  · have hxn : x < n := by omega
    rw [bsl_getD f n hxn]
    have hroot := bas_root hf hxn
    have hsucc := lens_succ f n x
    refine ⟨⟨by omega, by omega⟩, hxn, fun _ => ⟨fun h3 => ⟨by omega, ?_⟩, fun h3 => ⟨by omega, by omega, fun _ => ?_⟩⟩⟩
    · have hb : isRt f n x = false := by
        cases hb : isRt f n x with
        | false => rfl
        | true => exact absurd (hroot.2 hb) (by omega)
      rw [hb, if_neg (by simp), List.append_nil] at hsucc
      refine ih (x + 1, r) ⟨by show x + 1 ≤ n; omega, ?_, hS⟩ (by show n - (x + 1) < n - x; omega) _ _ (by simp [keep]) rfl
      show r.Perm (lens f n (x + 1))
      rw [hsucc]; exact hp
    · have hb : isRt f n x = true := hroot.1 (by omega)
      rw [if_pos hb] at hsucc
      have hc : cyc f n x = true := by simp only [isRt, Bool.and_eq_true] at hb; exact hb.1
      have hrl : r.length ≤ x := by
        rw [hp.length_eq]; simp only [lens, crts, List.length_map]
        have := List.length_filter_le (isRt f n) (List.range x); simpa using this
      refine KL_ind k66_b0.eq_1 (fun m : Nat => [(1, .fptr (ints (mp f)) 0), (4, .ref 0 n 0 n), (5, .ref 1 r.length 0 r.length), (6, .int .i64 x), (7, .int .i64 (m + 1 : Nat)), (8, .int .i64 (it f (m + 1) x))]) (fun _ => [.arr n 2 1 (ints (bsl f n n)), .arr r.length 2 1 (ints r)]) (fun m => m ≤ 59 ∧ ∀ j, j < m → it f (j + 1) x ≠ x) (fun m => 60 - m) [1, 4, 5, 6, 7, 8] 0 (by rfl) rfl ⟨Nat.zero_le _, fun j hj => by omega⟩ fun m ⟨hm, hno⟩ ihm => ?_
      have hq := it_lt hf hxn (m + 1)
      try simp only [hlf, take6, List.drop_zero, Int.cast_ofNat_Int, go_sem, ↓reduceIte, Nat.reduceEqDiff, Nat.reduceAdd, Nat.reduceMul, Nat.reduceLeDiff, Nat.reduceLT, Int.reduceLE, Int.reduceLT, reduceCtorEq]
      refine ⟨fun h4 => ?_, fun h4 => ?_⟩
      · have hm2 : m < 59 := by
          refine Decidable.byContradiction fun hn => h4 ?_
          obtain rfl : m = 59 := by omega
          rw [cyc_60 hf hc]
        refine ⟨by omega, by omega, by omega, fun _ => ?_⟩
        refine ihm (m + 1) ⟨by omega, fun j hj => ?_⟩ (by omega) _ _ (by rfl) rfl
        by_cases e : j = m
        · subst e; omega
        · exact hno j (by omega)
      · have hcl := clen_eq (by omega) (by omega : it f (m + 1) x = x) hno
        rw [← hcl]
        clear ihm
        generalize clen f x = L at *
        have hL60 : L ≤ 60 := by omega
        refine ⟨⟨Nat.le_refl _, by omega⟩, ?_⟩
        refine KL_ind k66_b1.eq_1 (fun y : Nat × Int => [(1, .fptr (ints (mp f)) 0), (4, .ref 0 n 0 n), (5, .ref 1 (r.length + 1) 0 (r.length + 1)), (6, .int .i64 x), (7, .int .i64 L), (9, .int .i64 y.1)]) (fun y => [.arr n 2 1 (ints (bsl f n n)), .arr (r.length + 1) 2 1 (ints (insG r y.1 y.2))]) (fun y => y.1 ≤ r.length ∧ ∀ a ∈ r.drop y.1, a ≤ L) (fun y => y.1) [1, 4, 5, 6, 7, 9] (r.length, (L : Int)) (by rfl) (by rw [insG_top]) ⟨Nat.le_refl _, fun a ha => by simp at ha⟩ fun ⟨y, g⟩ ⟨hy, hd⟩ ihy => ?_
        simp only at hy hd
        have hil := insG_length r g hy
        have hy1 : ((y : Int) - 1).toNat = y - 1 := by omega
        have hig := insG_get r g (y := y)
        try simp only [hil, hy1, take6, List.drop_zero, Int.cast_ofNat_Int, go_sem, ↓reduceIte, Nat.reduceEqDiff, Nat.reduceAdd, Nat.reduceMul, Nat.reduceLeDiff, Nat.reduceLT, Int.reduceLE, Int.reduceLT, reduceCtorEq]
        refine ⟨fun h5' => ?_, fun h5' => ?_⟩
        · rw [hig (by omega) hy]
          refine ⟨by omega, by omega, by omega, fun _ => ⟨fun h6 => ⟨by omega, by omega, by omega, fun _ => ⟨by omega, by omega, fun _ => ⟨by omega, ?_⟩⟩⟩, fun h6 => ?_⟩⟩
          · refine ihy (y - 1, r.getD (y - 1) 0) ⟨by show y - 1 ≤ r.length; omega, fun a ha => ?_⟩ (by show y - 1 < y; omega) _ _ ?_ ?_
            · have hz : y - 1 < r.length := by omega
              have ha : a ∈ r.drop (y - 1) := ha
              have e : r.getD (y - 1) 0 = r[y - 1] := by simp [List.getD_eq_getElem?_getD, hz]
              rw [List.drop_eq_getElem_cons hz] at ha
              rcases List.mem_cons.1 ha with rfl | ha
              · omega
              · rw [show y - 1 + 1 = y by omega] at ha; exact hd a ha
            · have : ((y : Int) - 1) = ((y - 1 : Nat) : Int) := by omega
              simp [keep, this]
            · rw [insG_set r g _ hy, insG_move r (by omega) hy]
          · refine ⟨by omega, by omega, fun _ => ⟨by omega, ?_⟩⟩
            refine ih (x + 1, insG r y L) ⟨by show x + 1 ≤ n; omega, ?_, insG_desc hS hd (.inr (by omega)) hy⟩ (by show n - (x + 1) < n - x; omega) _ _ (by simp [keep, insG_length r _ hy]) (by rw [insG_set r g _ hy, insG_length r _ hy])
            show (insG r y L).Perm (lens f n (x + 1))
            rw [hsucc]; exact (insG_perm r y L).trans (hp.append_right _)
        · refine ⟨by omega, by omega, fun _ => ⟨by omega, ?_⟩⟩
          refine ih (x + 1, insG r y L) ⟨by show x + 1 ≤ n; omega, ?_, insG_desc hS hd (.inl (by omega)) hy⟩ (by show n - (x + 1) < n - x; omega) _ _ (by simp [keep, insG_length r _ hy]) (by rw [insG_set r g _ hy, insG_length r _ hy])
          show (insG r y L).Perm (lens f n (x + 1))
          rw [hsucc]; exact (insG_perm r y L).trans (hp.append_right _)
  · obtain rfl : x = n := by omega
    have hr : r = negs (srt (negs (lens f x x))) := by
      have hnn : negs (negs (srt (negs (lens f x x)))) = srt (negs (lens f x x)) := by simp [negs, Function.comp_def]
      refine desc_uniq (hp.trans ?_) (by unfold negs; rw [List.pairwise_map]; exact hS.imp fun h => by omega) (by rw [hnn]; exact srt_sorted _)
      have := (srt_perm (negs (lens f x x))).map fun x : Int => -x
      have e : (negs (lens f x x)).map (fun x : Int => -x) = lens f x x := by simp [negs, Function.comp_def]
      rw [e] at this
      exact this.symm
    rw [← hr]
    exact Fin.freeze (Imm.tupL (.cons (.refn (l := r) rfl rfl) (.cons (.int _ _ _) (.nil _)))) ⟨rfl, rfl⟩
end Go.Proofs.YtpfapiiinkkcgaaGreat
