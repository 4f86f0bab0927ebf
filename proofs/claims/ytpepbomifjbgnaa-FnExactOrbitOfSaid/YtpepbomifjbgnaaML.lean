/- Lists of maps: their size, their copies, their equality; the lists that are joined. -/
import Derived.Test.YtpepbomifjbgnaaCb
import Derived.Test.YtpepbomifjbgnaaEqM
import Derived.Test.YtpepbomifjbgnaaSlM
import Derived.Test.YtpepbomifjbgnaaTG
namespace Go.Proofs.Ytpepbomifjbgnaa
open Go.Kv
set_option maxRecDepth 100000
/- laws.szMapS -/
def k19 : KC := (.seq (.ops [⟨(some 4), none, .mv (.c (.int .i64 0))⟩])
  (.seq (.ops [⟨(some 5), none, .mv (.t 1)⟩, ⟨(some 6), none, .mv (.t 0)⟩, ⟨(some 7), none, .len false (.t 6)⟩, ⟨(some 8), none, .bin .sub (.t 5) (.t 7)⟩, ⟨(some 1), none, .mv (.t 8)⟩])
  (.seq (.seq (.ops [⟨(some 9), none, .mv (.t 1)⟩, ⟨(some 10), none, .bin .lss (.t 9) (.c (.int .i64 0))⟩])
  (.cond (.t 10) (.seq (.ops [⟨(some 4), none, .mv (.c (.int .i64 (-1)))⟩])
  .ret) .skip))
  (.seq (.ops [⟨(some 11), none, .mv (.t 1)⟩, ⟨(some 4), none, .mv (.t 11)⟩])
  .ret))))
theorem e19 {args : List PV} {σ : Heap} {K : PV → Heap → Prop} (hl : args.length ≤ 12) (h : Wf σ → (∀ a ∈ args, PV.upto σ.length a) → vc (mkCfg Try.prog mixed [] 12 σ.length) k19 (FinK σ.length [.t 4] K) (argEnv 0 args) σ) : ACall Try.prog 19 args σ K :=
  ACall_enter (C := mkCfg Try.prog mixed [] 12 σ.length) (c := Try.f19.body.getD .skip) Try.func19 (by kernel_rfl) (by kernel_rfl) (by kernel_rfl) rfl hl (by kernel_rfl) (by kernel_rfl) h
/- laws.toMapS -/
/- live [0, 3, 4] -/
def k21_b0 : KC := (.seq (.seq (.ops [⟨(some 8), none, .mv (.t 4)⟩, ⟨(some 9), none, .mv (.t 0)⟩, ⟨(some 10), none, .len false (.t 9)⟩, ⟨(some 11), none, .bin .lss (.t 8) (.t 10)⟩])
  (.cond (.t 11) .skip (.exit 0)))
  (.seq (.block 1 (.ops [⟨(some 14), none, .mv (.t 3)⟩, ⟨(some 15), none, .mv (.t 4)⟩, ⟨(some 16), none, .mv (.t 0)⟩, ⟨(some 17), none, .mv (.t 4)⟩, ⟨(some 18), none, .idxS 6 (.t 16) (.t 17)⟩, ⟨(some 19), none, .load true 6 (.t 18)⟩, ⟨(some 20), none, .call (.c (.fn (.func 53) [] [])) [(.t 19)]⟩, ⟨(some 21), none, .idxS 6 (.t 14) (.t 15)⟩, ⟨none, none, .store 6 (.t 21) (.t 20)⟩]))
  (.ops [⟨(some 12), none, .mv (.t 4)⟩, ⟨(some 13), none, .bin .add (.t 12) (.c (.int .i64 1))⟩, ⟨(some 4), none, .mv (.t 13)⟩])))
def k21 : KC := (.seq (.ops [⟨(some 2), none, .mv (.c (.nils))⟩])
  (.seq (.ops [⟨(some 5), none, .mv (.t 0)⟩, ⟨(some 6), none, .len false (.t 5)⟩, ⟨(some 7), none, .mks 59 6 (.agg [.int .i64 0, .int .i64 0, .int .i64 0, .int .i64 0, .int .i64 0, .int .i64 0]) (.t 6) (.t 6)⟩, ⟨(some 3), none, .mv (.t 7)⟩])
  (.seq (.seq (.ops [⟨(some 4), none, .mv (.c (.int .i64 0))⟩])
  (.block 0 (.loop k21_b0)))
  (.seq (.ops [⟨(some 22), none, .mv (.t 3)⟩, ⟨(some 2), none, .mv (.t 22)⟩])
  .ret))))
theorem e21 {args : List PV} {σ : Heap} {K : PV → Heap → Prop} (hl : args.length ≤ 23) (h : Wf σ → (∀ a ∈ args, PV.upto σ.length a) → vc (mkCfg Try.prog mixed [] 23 σ.length) k21 (FinK σ.length [.t 2] K) (argEnv 0 args) σ) : ACall Try.prog 21 args σ K :=
  ACall_enter (C := mkCfg Try.prog mixed [] 23 σ.length) (c := Try.f21.body.getD .skip) Try.func21 (by kernel_rfl) (by kernel_rfl) (by kernel_rfl) rfl hl (by kernel_rfl) (by kernel_rfl) h
/- laws.eqMapS -/
/- live [0, 1, 5] -/
def k23_b0 : KC := (.seq (.seq (.ops [⟨(some 11), none, .mv (.t 5)⟩, ⟨(some 12), none, .mv (.t 0)⟩, ⟨(some 13), none, .len false (.t 12)⟩, ⟨(some 14), none, .bin .lss (.t 11) (.t 13)⟩])
  (.cond (.t 14) .skip (.exit 0)))
  (.seq (.block 1 (.seq (.draw [⟨(some 17), none, .mv (.t 0)⟩, ⟨(some 18), none, .mv (.t 5)⟩, ⟨(some 19), none, .idxS 6 (.t 17) (.t 18)⟩, ⟨(some 20), none, .load true 6 (.t 19)⟩, ⟨(some 21), none, .mv (.t 1)⟩, ⟨(some 22), none, .mv (.t 5)⟩, ⟨(some 23), none, .idxS 6 (.t 21) (.t 22)⟩, ⟨(some 24), none, .load true 6 (.t 23)⟩, ⟨(some 25), none, .pcall (.c (.fn (.func 56) [] [])) [(.t 20), (.t 24)]⟩, ⟨(some 26), none, .not (.t 25)⟩])
  (.cond (.t 26) (.seq (.ops [⟨(some 4), none, .mv (.c (.bool false))⟩])
  .ret) .skip)))
  (.ops [⟨(some 15), none, .mv (.t 5)⟩, ⟨(some 16), none, .bin .add (.t 15) (.c (.int .i64 1))⟩, ⟨(some 5), none, .mv (.t 16)⟩])))
def k23 : KC := (.seq (.ops [⟨(some 4), none, .mv (.c (.bool false))⟩])
  (.seq (.seq (.ops [⟨(some 6), none, .mv (.t 0)⟩, ⟨(some 7), none, .len false (.t 6)⟩, ⟨(some 8), none, .mv (.t 1)⟩, ⟨(some 9), none, .len false (.t 8)⟩, ⟨(some 10), none, .bin .neq (.t 7) (.t 9)⟩])
  (.cond (.t 10) (.seq (.ops [⟨(some 4), none, .mv (.c (.bool false))⟩])
  .ret) .skip))
  (.seq (.seq (.ops [⟨(some 5), none, .mv (.c (.int .i64 0))⟩])
  (.block 0 (.loop k23_b0)))
  (.seq (.ops [⟨(some 4), none, .mv (.c (.bool true))⟩])
  .ret))))
theorem e23 {args : List PV} {σ : Heap} {K : PV → Heap → Prop} (hl : args.length ≤ 27) (h : Wf σ → (∀ a ∈ args, PV.upto σ.length a) → vc (mkCfg Try.prog mixed [] 27 σ.length) k23 (FinK σ.length [.t 4] K) (argEnv 0 args) σ) : ACall Try.prog 23 args σ K :=
  ACall_enter (C := mkCfg Try.prog mixed [] 27 σ.length) (c := Try.f23.body.getD .skip) Try.func23 (by kernel_rfl) (by kernel_rfl) (by kernel_rfl) rfl hl (by kernel_rfl) (by kernel_rfl) h
/- slices.Grow[[]impl.Map,impl.Map] -/
def k137 : KC := (.seq (.ops [⟨(some 4), none, .mv (.c (.nils))⟩])
  (.seq (.seq (.ops [⟨(some 5), none, .mv (.t 1)⟩, ⟨(some 6), none, .bin .lss (.t 5) (.c (.int .i64 0))⟩])
  (.cond (.t 6) (.ops [⟨(some 7), none, .bad⟩, ⟨none, none, .bad⟩]) .skip))
  (.seq (.seq (.ops [⟨(some 8), none, .mv (.t 1)⟩, ⟨(some 9), none, .mv (.t 0)⟩, ⟨(some 10), none, .cap0 (.t 9)⟩, ⟨(some 11), none, .mv (.t 0)⟩, ⟨(some 12), none, .len false (.t 11)⟩, ⟨(some 13), none, .bin .sub (.t 10) (.t 12)⟩, ⟨(some 14), none, .bin .sub (.t 8) (.t 13)⟩, ⟨(some 1), none, .mv (.t 14)⟩])
  (.seq (.ops [⟨(some 15), none, .mv (.t 1)⟩, ⟨(some 16), none, .bin .gtr (.t 15) (.c (.int .i64 0))⟩])
  (.cond (.t 16) (.ops [⟨(some 17), none, .mv (.t 0)⟩, ⟨(some 18), none, .mv (.t 0)⟩, ⟨(some 19), none, .cap0 (.t 18)⟩, ⟨(some 20), none, .sls 6 (.t 17) none (some (.t 19))⟩, ⟨(some 21), none, .mv (.t 1)⟩, ⟨(some 22), none, .apn (.t 20) (.t 21) 59 6 (.agg [.int .i64 0, .int .i64 0, .int .i64 0, .int .i64 0, .int .i64 0, .int .i64 0])⟩, ⟨(some 23), none, .mv (.t 0)⟩, ⟨(some 24), none, .len false (.t 23)⟩, ⟨(some 25), none, .sls 6 (.t 22) none (some (.t 24))⟩, ⟨(some 0), none, .mv (.t 25)⟩]) .skip)))
  (.seq (.ops [⟨(some 26), none, .mv (.t 0)⟩, ⟨(some 4), none, .mv (.t 26)⟩])
  .ret))))
theorem e137 {args : List PV} {σ : Heap} {K : PV → Heap → Prop} (hl : args.length ≤ 27) (h : Wf σ → (∀ a ∈ args, PV.upto σ.length a) → vc (mkCfg Try.prog mixed [] 27 σ.length) k137 (FinK σ.length [.t 4] K) (argEnv 0 args) σ) : ACall Try.prog 137 args σ K :=
  ACall_enter (C := mkCfg Try.prog mixed [] 27 σ.length) (c := Try.f137.body.getD .skip) Try.func137 (by kernel_rfl) (by kernel_rfl) (by kernel_rfl) rfl hl (by kernel_rfl) (by kernel_rfl) h
/- slices.Concat[[]impl.Map,impl.Map] -/
/- live [0, 3, 9, 10, 11] -/
def k101_b0 : KC := (.seq (.ops [⟨(some 12), none, .bin .lss (.t 11) (.t 10)⟩])
  (.seq (.cond (.t 12) .skip (.exit 0))
  (.seq (.block 1 (.seq (.ops [⟨(some 13), none, .idxS 1 (.t 9) (.t 11)⟩, ⟨(some 14), none, .load false 1 (.t 13)⟩, ⟨(some 5), none, .mv (.t 14)⟩])
  (.seq (.ops [⟨(some 15), none, .mv (.t 3)⟩, ⟨(some 16), none, .mv (.t 5)⟩, ⟨(some 17), none, .len false (.t 16)⟩, ⟨(some 18), none, .bin .add (.t 15) (.t 17)⟩, ⟨(some 3), none, .mv (.t 18)⟩])
  (.seq (.ops [⟨(some 19), none, .mv (.t 3)⟩, ⟨(some 20), none, .bin .lss (.t 19) (.c (.int .i64 0))⟩])
  (.cond (.t 20) (.ops [⟨(some 21), none, .bad⟩, ⟨none, none, .bad⟩]) .skip)))))
  (.ops [⟨(some 22), none, .bin .add (.t 11) (.c (.int .i64 1))⟩, ⟨(some 11), none, .mv (.t 22)⟩]))))
/- live [6, 25, 26, 27] -/
def k101_b1 : KC := (.seq (.ops [⟨(some 28), none, .bin .lss (.t 27) (.t 26)⟩])
  (.seq (.cond (.t 28) .skip (.exit 2))
  (.seq (.block 3 (.seq (.ops [⟨(some 29), none, .idxS 1 (.t 25) (.t 27)⟩, ⟨(some 30), none, .load false 1 (.t 29)⟩, ⟨(some 8), none, .mv (.t 30)⟩])
  (.ops [⟨(some 31), none, .mv (.t 6)⟩, ⟨(some 32), none, .mv (.t 8)⟩, ⟨(some 33), none, .app (.t 31) (.t 32) 59 6⟩, ⟨(some 6), none, .mv (.t 33)⟩])))
  (.ops [⟨(some 34), none, .bin .add (.t 27) (.c (.int .i64 1))⟩, ⟨(some 27), none, .mv (.t 34)⟩]))))
def k101 : KC := (.seq (.ops [⟨(some 2), none, .mv (.c (.nils))⟩])
  (.seq (.ops [⟨(some 3), none, .mv (.c (.int .i64 0))⟩])
  (.seq (.seq (.ops [⟨(some 9), none, .mv (.t 0)⟩, ⟨(some 10), none, .len false (.t 9)⟩, ⟨(some 11), none, .mv (.c (.int .i64 0))⟩])
  (.block 0 (.loop k101_b0)))
  (.seq (.ops [⟨(some 23), none, .mv (.t 3)⟩, ⟨(some 24), none, .call (.c (.fn (.func 137) [] [])) [(.c (.nils)), (.t 23)]⟩, ⟨(some 6), none, .mv (.t 24)⟩])
  (.seq (.seq (.ops [⟨(some 25), none, .mv (.t 0)⟩, ⟨(some 26), none, .len false (.t 25)⟩, ⟨(some 27), none, .mv (.c (.int .i64 0))⟩])
  (.block 2 (.loop k101_b1)))
  (.seq (.ops [⟨(some 35), none, .mv (.t 6)⟩, ⟨(some 2), none, .mv (.t 35)⟩])
  .ret))))))
theorem e101 {args : List PV} {σ : Heap} {K : PV → Heap → Prop} (hl : args.length ≤ 36) (h : Wf σ → (∀ a ∈ args, PV.upto σ.length a) → vc (mkCfg Try.prog mixed [] 36 σ.length) k101 (FinK σ.length [.t 2] K) (argEnv 0 args) σ) : ACall Try.prog 101 args σ K :=
  ACall_enter (C := mkCfg Try.prog mixed [] 36 σ.length) (c := Try.f101.body.getD .skip) Try.func101 (by kernel_rfl) (by kernel_rfl) (by kernel_rfl) rfl hl (by kernel_rfl) (by kernel_rfl) h
end Go.Proofs.Ytpepbomifjbgnaa
namespace Go.Proofs.Ytpepbomifjbgnaa
open Go.Kv
set_option linter.unusedVariables false
set_option linter.unusedSimpArgs false
attribute [local irreducible] ACall PCall KL
theorem p19 (l : List (List Int)) (k : Int) (hl : l.length ≤ 9223372036854775807) (hk : 0 ≤ k ∧ k ≤ 4294967296) : Pure Try.prog 19 [.list (aggs l), .int .i64 k] (.int .i64 (if k - l.length < 0 then -1 else k - l.length)) := by
  refine e19 (by simp) fun _ _ => ?_
  simp only [k19, argEnv, take6, List.drop_zero, Int.cast_ofNat_Int, go_sem, ↓reduceIte, Nat.reduceEqDiff, Nat.reduceAdd, Nat.reduceMul, Nat.reduceLeDiff, Nat.reduceLT, Int.reduceLE, Int.reduceLT, reduceCtorEq]
  repeat' (first | refine And.intro ?_ ?_ | intro _)
  all_goals (try omega)
  · rename_i h
    exact Kv.Fin.now ⟨by rw [if_pos h], rfl⟩
  · rename_i h
    exact Kv.Fin.now ⟨by rw [if_neg h], rfl⟩
theorem aggs_repl (n : Nat) : List.replicate n (PV.agg [.int .i64 0, .int .i64 0, .int .i64 0, .int .i64 0, .int .i64 0, .int .i64 0]) = aggs (List.replicate n [0, 0, 0, 0, 0, 0]) := by simp [aggs, ints]
theorem copyA_step {l : List (List Int)} {x : Nat} (z : List Int) (h : x < l.length) : (l.take x ++ List.replicate (l.length - x) z).set x (l.getD x []) = l.take (x + 1) ++ List.replicate (l.length - (x + 1)) z := by
  have e : l.length - x = (l.length - (x + 1)) + 1 := by omega
  rw [e, List.replicate_succ, List.set_append_right _ _ (by simp; omega), List.length_take, Nat.min_eq_left (by omega), Nat.sub_self, List.set_cons_zero, List.take_succ_eq_append_getElem h, List.append_assoc]
  simp [List.getD_eq_getElem?_getD, h]
theorem mixA_get {l : List (List Int)} {x : Nat} (z : List Int) (h : x < l.length) : (l.take x ++ List.replicate (l.length - x) z).getD x [] = z := by
  have e : l.length - x = (l.length - (x + 1)) + 1 := by omega
  rw [List.getD_eq_getElem?_getD, List.getElem?_append_right (by simp; omega), List.length_take, Nat.min_eq_left (by omega), Nat.sub_self, e]
  rfl
theorem p21o (l : List (List Int)) (hl : l.length ≤ 1048576) (hm : ∀ r ∈ l, r.length = 6) : ACall Try.prog 21 [.list (aggs l)] [] (fun v s => v = .ref 0 0 0 l.length ∧ s = [.arr 0 59 6 (aggs l)]) := by
  refine e21 (by simp) fun _ _ => ?_
  simp only [k21, argEnv, aggs_repl, take6, List.drop_zero, Int.cast_ofNat_Int, go_sem, ↓reduceIte, Nat.reduceEqDiff, Nat.reduceAdd, Nat.reduceMul, Nat.reduceLeDiff, Nat.reduceLT, Int.reduceLE, Int.reduceLT, reduceCtorEq]
  refine ⟨by omega, ?_⟩
  refine KL_ind k21_b0.eq_1 (fun x : Nat => [(4, .int .i64 x), (3, .ref 0 0 0 l.length), (0, .list (aggs l))]) (fun x => [.arr 0 59 6 (aggs (l.take x ++ List.replicate (l.length - x) [0, 0, 0, 0, 0, 0]))]) (fun x => x ≤ l.length) (fun x => l.length - x) [4, 3, 0] 0 (by simp [keep]) (by simp) (Nat.zero_le _) fun x hi ih => ?_
  try simp only [take6, List.drop_zero, Int.cast_ofNat_Int, go_sem, ↓reduceIte, Nat.reduceEqDiff, Nat.reduceAdd, Nat.reduceMul, Nat.reduceLeDiff, Nat.reduceLT, Int.reduceLE, Int.reduceLT, reduceCtorEq]
  refine ⟨fun h1 => ⟨by omega, fun h2 => ?_⟩, fun h1 => ?_⟩
  · have h6 : (l.getD x []).length = 6 := by rw [getD_eq h2]; exact hm _ (List.getElem_mem h2)
    try simp only [h6, take6, List.drop_zero, Int.cast_ofNat_Int, go_sem, ↓reduceIte, Nat.reduceEqDiff, Nat.reduceAdd, Nat.reduceMul, Nat.reduceLeDiff, Nat.reduceLT, Int.reduceLE, Int.reduceLT, reduceCtorEq]
    refine (p53 _ h6).go ?_
    try simp only [h6, List.length_take, List.length_replicate, mixA_get _ h2, take6, List.drop_zero, Int.cast_ofNat_Int, go_sem, ↓reduceIte, Nat.reduceEqDiff, Nat.reduceAdd, Nat.reduceMul, Nat.reduceLeDiff, Nat.reduceLT, Int.reduceLE, Int.reduceLT, reduceCtorEq]
    repeat' (first | refine And.intro ?_ ?_ | intro _)
    all_goals (try omega)
    all_goals first
      | (rw [copyA_step _ h2]; exact ih (x + 1) (by omega) (by omega) _ _ (by simp [keep]) rfl)
      | skip
  · obtain rfl : x = l.length := by omega
    have e : l.take l.length ++ List.replicate (l.length - l.length) [0, 0, 0, 0, 0, 0] = l := by simp
    rw [e]
    exact Kv.Fin.now ⟨rfl, rfl⟩
theorem p21 (l : List (List Int)) (hl : l.length ≤ 1048576) (hm : ∀ r ∈ l, r.length = 6) : Pure Try.prog 21 [.list (aggs l)] (.list (aggs l)) :=
  ACall.ret (p21o l hl hm) fun v s ⟨hv, hs⟩ => by
    subst hv; subst hs
    exact Fin.freeze (Imm.refa rfl) ⟨rfl, rfl⟩
theorem takeL_succ_eq {xs ys : List (List Int)} {x : Nat} (ht : xs.take x = ys.take x) (h1 : x < xs.length) (h2 : x < ys.length) (he : xs.getD x [] = ys.getD x []) : xs.take (x + 1) = ys.take (x + 1) := by
  rw [List.take_succ_eq_append_getElem h1, List.take_succ_eq_append_getElem h2, ht]
  simp [List.getD_eq_getElem?_getD, h1, h2] at he
  rw [he]
theorem p23 (a b : List (List Int)) (ha : a.length ≤ 4294967296) (hb : b.length ≤ 4294967296) (hma : ∀ r ∈ a, r.length = 6) (hmb : ∀ r ∈ b, r.length = 6) : Pure Try.prog 23 [.list (aggs a), .list (aggs b)] (.bool (decide (a = b))) := by
  refine e23 (by simp) fun _ _ => ?_
  simp only [k23, argEnv, take6, List.drop_zero, Int.cast_ofNat_Int, go_sem, ↓reduceIte, Nat.reduceEqDiff, Nat.reduceAdd, Nat.reduceMul, Nat.reduceLeDiff, Nat.reduceLT, Int.reduceLE, Int.reduceLT, reduceCtorEq]
  refine ⟨fun h => Kv.Fin.now ⟨?_, rfl⟩, fun h => ?_⟩
  · have : a ≠ b := fun e => h (by rw [e])
    simp [this]
  · have hlen : a.length = b.length := by omega
    refine KL_ind k23_b0.eq_1 (fun x : Nat => [(5, .int .i64 x), (0, .list (aggs a)), (1, .list (aggs b))]) (fun _ => []) (fun x => x ≤ a.length ∧ a.take x = b.take x) (fun x => a.length - x) [5, 0, 1] 0 (by rfl) rfl ⟨Nat.zero_le _, by simp⟩ fun x ⟨hi, ht⟩ ih => ?_
    try simp only [take6, List.drop_zero, Int.cast_ofNat_Int, go_sem, ↓reduceIte, Nat.reduceEqDiff, Nat.reduceAdd, Nat.reduceMul, Nat.reduceLeDiff, Nat.reduceLT, Int.reduceLE, Int.reduceLT, reduceCtorEq]
    refine ⟨fun h1 => ⟨by omega, fun h2 => ?_⟩, fun h1 => ?_⟩
    · have h6 : (a.getD x []).length = 6 := by rw [getD_eq h2]; exact hma _ (List.getElem_mem h2)
      have h2' : x < b.length := by omega
      have h6' : (b.getD x []).length = 6 := by rw [getD_eq h2']; exact hmb _ (List.getElem_mem h2')
      try simp only [h6, h6', h2', take6, List.drop_zero, Int.cast_ofNat_Int, go_sem, ↓reduceIte, Nat.reduceEqDiff, Nat.reduceAdd, Nat.reduceMul, Nat.reduceLeDiff, Nat.reduceLT, Int.reduceLE, Int.reduceLT, reduceCtorEq]
      refine ⟨by omega, ?_⟩
      refine (p56 _ _ h6 h6').pgo ?_
      try simp only [take6, List.drop_zero, Int.cast_ofNat_Int, go_sem, ↓reduceIte, Nat.reduceEqDiff, Nat.reduceAdd, Nat.reduceMul, Nat.reduceLeDiff, Nat.reduceLT, Int.reduceLE, Int.reduceLT, reduceCtorEq]
      refine ⟨fun h4 => ?_, fun h4 => ⟨by omega, ?_⟩⟩
      · have : a ≠ b := fun e => h4 (by rw [e])
        exact Kv.Fin.now ⟨by simp [this], rfl⟩
      · exact ih (x + 1) ⟨by omega, takeL_succ_eq ht h2 h2' h4⟩ (by omega) _ _ (by rfl) rfl
    · obtain rfl : x = a.length := by omega
      have : a = b := by rw [List.take_length, hlen, List.take_length] at ht; exact ht
      exact Kv.Fin.now ⟨by simp [this], rfl⟩
end Go.Proofs.Ytpepbomifjbgnaa
