/- Comparing, marking and holding of own slices of numbers. -/
import Derived.Test.YtpepbomifjbgnaaCb
import Derived.Test.YtpepbomifjbgnaaFC
namespace Go.Proofs.Ytpepbomifjbgnaa
open Go.Kv
set_option maxRecDepth 100000
/- laws.eqInt64S -/
/- live [0, 1, 5] -/
def k18_b0 : KC := (.seq (.seq (.ops [⟨(some 11), none, .mv (.t 5)⟩, ⟨(some 12), none, .mv (.t 0)⟩, ⟨(some 13), none, .len false (.t 12)⟩, ⟨(some 14), none, .bin .lss (.t 11) (.t 13)⟩])
  (.cond (.t 14) .skip (.exit 0)))
  (.seq (.block 1 (.seq (.draw [⟨(some 17), none, .mv (.t 0)⟩, ⟨(some 18), none, .mv (.t 5)⟩, ⟨(some 19), none, .idxS 1 (.t 17) (.t 18)⟩, ⟨(some 20), none, .load false 1 (.t 19)⟩, ⟨(some 21), none, .mv (.t 1)⟩, ⟨(some 22), none, .mv (.t 5)⟩, ⟨(some 23), none, .idxS 1 (.t 21) (.t 22)⟩, ⟨(some 24), none, .load false 1 (.t 23)⟩, ⟨(some 25), none, .bin .neq (.t 20) (.t 24)⟩])
  (.cond (.t 25) (.seq (.ops [⟨(some 4), none, .mv (.c (.bool false))⟩])
  .ret) .skip)))
  (.ops [⟨(some 15), none, .mv (.t 5)⟩, ⟨(some 16), none, .bin .add (.t 15) (.c (.int .i64 1))⟩, ⟨(some 5), none, .mv (.t 16)⟩])))
def k18 : KC := (.seq (.ops [⟨(some 4), none, .mv (.c (.bool false))⟩])
  (.seq (.seq (.ops [⟨(some 6), none, .mv (.t 0)⟩, ⟨(some 7), none, .len false (.t 6)⟩, ⟨(some 8), none, .mv (.t 1)⟩, ⟨(some 9), none, .len false (.t 8)⟩, ⟨(some 10), none, .bin .neq (.t 7) (.t 9)⟩])
  (.cond (.t 10) (.seq (.ops [⟨(some 4), none, .mv (.c (.bool false))⟩])
  .ret) .skip))
  (.seq (.seq (.ops [⟨(some 5), none, .mv (.c (.int .i64 0))⟩])
  (.block 0 (.loop k18_b0)))
  (.seq (.ops [⟨(some 4), none, .mv (.c (.bool true))⟩])
  .ret))))
theorem e18 {args : List PV} {σ : Heap} {K : PV → Heap → Prop} (hl : args.length ≤ 26) (h : Wf σ → (∀ a ∈ args, PV.upto σ.length a) → vc (mkCfg Try.prog mixed [] 26 σ.length) k18 (FinK σ.length [.t 4] K) (argEnv 0 args) σ) : ACall Try.prog 18 args σ K :=
  ACall_enter (C := mkCfg Try.prog mixed [] 26 σ.length) (c := Try.f18.body.getD .skip) Try.func18 (by kernel_rfl) (by kernel_rfl) (by kernel_rfl) rfl hl (by kernel_rfl) (by kernel_rfl) h
/- laws.markInt64S -/
/- live [0, 1, 5] -/
def k27_b0 : KC := (.seq (.seq (.ops [⟨(some 6), none, .mv (.t 5)⟩, ⟨(some 7), none, .mv (.t 0)⟩, ⟨(some 8), none, .len false (.t 7)⟩, ⟨(some 9), none, .bin .lss (.t 6) (.t 8)⟩])
  (.cond (.t 9) .skip (.exit 0)))
  (.seq (.block 1 (.seq (.ops [⟨(some 12), none, .mv (.t 0)⟩, ⟨(some 13), none, .mv (.t 5)⟩, ⟨(some 14), none, .mv (.t 1)⟩, ⟨(some 15), none, .idxS 1 (.t 12) (.t 13)⟩, ⟨none, none, .store 1 (.t 15) (.t 14)⟩])
  (.ops [⟨(some 16), none, .mv (.t 1)⟩, ⟨(some 17), none, .bin .add (.t 16) (.c (.int .i64 1))⟩, ⟨(some 1), none, .mv (.t 17)⟩])))
  (.ops [⟨(some 10), none, .mv (.t 5)⟩, ⟨(some 11), none, .bin .add (.t 10) (.c (.int .i64 1))⟩, ⟨(some 5), none, .mv (.t 11)⟩])))
def k27 : KC := (.seq (.ops [⟨(some 4), none, .mv (.c (.int .i64 0))⟩])
  (.seq (.seq (.ops [⟨(some 5), none, .mv (.c (.int .i64 0))⟩])
  (.block 0 (.loop k27_b0)))
  (.seq (.ops [⟨(some 18), none, .mv (.t 1)⟩, ⟨(some 4), none, .mv (.t 18)⟩])
  .ret)))
theorem e27 {args : List PV} {σ : Heap} {K : PV → Heap → Prop} (hl : args.length ≤ 19) (h : Wf σ → (∀ a ∈ args, PV.upto σ.length a) → vc (mkCfg Try.prog mixed [] 19 σ.length) k27 (FinK σ.length [.t 4] K) (argEnv 0 args) σ) : ACall Try.prog 27 args σ K :=
  ACall_enter (C := mkCfg Try.prog mixed [] 19 σ.length) (c := Try.f27.body.getD .skip) Try.func27 (by kernel_rfl) (by kernel_rfl) (by kernel_rfl) rfl hl (by kernel_rfl) (by kernel_rfl) h
/- laws.heldInt64S -/
/- live [0, 1, 5] -/
def k28_b0 : KC := (.seq (.seq (.ops [⟨(some 6), none, .mv (.t 5)⟩, ⟨(some 7), none, .mv (.t 0)⟩, ⟨(some 8), none, .len false (.t 7)⟩, ⟨(some 9), none, .bin .lss (.t 6) (.t 8)⟩])
  (.cond (.t 9) .skip (.exit 0)))
  (.seq (.block 1 (.seq (.seq (.ops [⟨(some 12), none, .mv (.t 0)⟩, ⟨(some 13), none, .mv (.t 5)⟩, ⟨(some 14), none, .idxS 1 (.t 12) (.t 13)⟩, ⟨(some 15), none, .load false 1 (.t 14)⟩, ⟨(some 16), none, .mv (.t 1)⟩, ⟨(some 17), none, .bin .neq (.t 15) (.t 16)⟩])
  (.cond (.t 17) (.seq (.ops [⟨(some 4), none, .mv (.c (.int .i64 (-1)))⟩])
  .ret) .skip))
  (.ops [⟨(some 18), none, .mv (.t 1)⟩, ⟨(some 19), none, .bin .add (.t 18) (.c (.int .i64 1))⟩, ⟨(some 1), none, .mv (.t 19)⟩])))
  (.ops [⟨(some 10), none, .mv (.t 5)⟩, ⟨(some 11), none, .bin .add (.t 10) (.c (.int .i64 1))⟩, ⟨(some 5), none, .mv (.t 11)⟩])))
def k28 : KC := (.seq (.ops [⟨(some 4), none, .mv (.c (.int .i64 0))⟩])
  (.seq (.seq (.ops [⟨(some 5), none, .mv (.c (.int .i64 0))⟩])
  (.block 0 (.loop k28_b0)))
  (.seq (.ops [⟨(some 20), none, .mv (.t 1)⟩, ⟨(some 4), none, .mv (.t 20)⟩])
  .ret)))
theorem e28 {args : List PV} {σ : Heap} {K : PV → Heap → Prop} (hl : args.length ≤ 21) (h : Wf σ → (∀ a ∈ args, PV.upto σ.length a) → vc (mkCfg Try.prog mixed [] 21 σ.length) k28 (FinK σ.length [.t 4] K) (argEnv 0 args) σ) : ACall Try.prog 28 args σ K :=
  ACall_enter (C := mkCfg Try.prog mixed [] 21 σ.length) (c := Try.f28.body.getD .skip) Try.func28 (by kernel_rfl) (by kernel_rfl) (by kernel_rfl) rfl hl (by kernel_rfl) (by kernel_rfl) h
end Go.Proofs.Ytpepbomifjbgnaa
namespace Go.Proofs.Ytpepbomifjbgnaa
open Go.Kv
set_option linter.unusedVariables false
set_option linter.unusedSimpArgs false
attribute [local irreducible] ACall PCall KL
theorem take_succ_eq {xs ys : List Int} {x : Nat} (ht : xs.take x = ys.take x) (h1 : x < xs.length) (h2 : x < ys.length) (he : xs.getD x 0 = ys.getD x 0) : xs.take (x + 1) = ys.take (x + 1) := by
  rw [List.take_succ_eq_append_getElem h1, List.take_succ_eq_append_getElem h2, ht]
  simp [List.getD_eq_getElem?_getD, h1, h2] at he
  rw [he]
theorem p18 (xs ys : List Int) (hx : xs.length ≤ 4294967296) (hy : ys.length ≤ 4294967296) : Pure Try.prog 18 [.list (ints xs), .list (ints ys)] (.bool (decide (xs = ys))) := by
  refine e18 (by simp) fun _ _ => ?_
  simp only [k18, argEnv, go_sem, ↓reduceIte, Nat.reduceEqDiff, Nat.reduceAdd, reduceCtorEq]
  refine ⟨fun h => Kv.Fin.now ⟨?_, rfl⟩, fun h => ?_⟩
  · have : xs ≠ ys := fun e => h (by rw [e])
    simp [this]
  · have hlen : xs.length = ys.length := by omega
    refine KL_ind k18_b0.eq_1 (fun x : Nat => [(5, .int .i64 x), (0, .list (ints xs)), (1, .list (ints ys))]) (fun _ => []) (fun x => x ≤ xs.length ∧ xs.take x = ys.take x) (fun x => xs.length - x) [5, 0, 1] 0 rfl rfl ⟨Nat.zero_le _, by simp⟩ fun x ⟨hi, ht⟩ ih => ?_
    simp only [go_sem, ↓reduceIte, Nat.reduceEqDiff, Nat.reduceAdd, reduceCtorEq]
    repeat' (first | refine And.intro ?_ ?_ | intro _)
    all_goals (try omega)
    · rename_i h1 h2 h3 h4
      have : xs ≠ ys := fun e => h4 (by rw [e])
      exact Kv.Fin.now ⟨by simp [this], rfl⟩
    · rename_i h1 h2 h3 h4
      exact ih (x + 1) ⟨by omega, take_succ_eq ht h2 h3 h4⟩ (by omega) _ _ rfl rfl
    · rename_i h1
      obtain rfl : x = xs.length := by omega
      have : xs = ys := by rw [List.take_length, hlen, List.take_length] at ht; exact ht
      exact Kv.Fin.now ⟨by simp [this], rfl⟩

/-- The numbers from k on. -/
def seqI (k : Int) (n : Nat) : List Int := (List.range n).map fun i => k + (i : Nat)
@[simp] theorem seqI_length (k : Int) (n : Nat) : (seqI k n).length = n := by simp [seqI]
theorem seqI_getD (k : Int) {n i : Nat} (h : i < n) : (seqI k n).getD i 0 = k + i := by simp [seqI, List.getD_eq_getElem?_getD, h]
theorem seqI_succ (k : Int) (n : Nat) : seqI k (n + 1) = seqI k n ++ [k + n] := by simp [seqI, List.range_succ]
theorem mark_step (k : Int) {l : List Int} {x : Nat} (h : x < l.length) : (seqI k x ++ l.drop x).set x (k + x) = seqI k (x + 1) ++ l.drop (x + 1) := by
  rw [List.set_append_right _ _ (by simp), seqI_length, Nat.sub_self, List.drop_eq_getElem_cons h, List.set_cons_zero, seqI_succ, List.append_assoc]
  rfl
theorem p27 (σ : Heap) (id ver : Nat) (e : TypeId) (pre l post : List Int) (k : Int) (hid : σ[id]? = some (.arr ver e 1 (ints (pre ++ l ++ post)))) (hk : -4294967296 ≤ k ∧ k ≤ 4294967296) (hl : l.length ≤ 4294967296) {K : PV → Heap → Prop} (hK : K (.int .i64 (k + l.length)) (σ.set id (.arr ver e 1 (ints (pre ++ seqI k l.length ++ post))))) :
    ACall Try.prog 27 [.ref id ver pre.length l.length, .int .i64 k] σ K := by
  have hlt := (List.getElem?_eq_some_iff.1 hid).1
  have hself : ∀ o, (σ.set id o)[id]? = some o := fun o => List.getElem?_set_self hlt
  have hset : ∀ o o', (σ.set id o).set id o' = σ.set id o' := fun o o' => List.set_set ..
  refine e27 (by simp) fun _ _ => ?_
  simp only [k27, argEnv, go_sem, ↓reduceIte, Nat.reduceEqDiff, Nat.reduceAdd, reduceCtorEq]
  refine KL_ind k27_b0.eq_1 (fun x : Nat => [(5, .int .i64 x), (0, .ref id ver pre.length l.length), (1, .int .i64 (k + x))]) (fun x => σ.set id (.arr ver e 1 (ints (pre ++ (seqI k x ++ l.drop x) ++ post)))) (fun x => x ≤ l.length) (fun x => l.length - x) [5, 0, 1] 0 (by simp [keep]) ?_ (Nat.zero_le _) fun x hi ih => ?_
  · apply List.ext_getElem?; intro j
    by_cases e1 : id = j
    · subst e1; rw [hself, hid]; simp [seqI]
    · rw [List.getElem?_set_ne e1]
  simp only [hself, hset, go_sem, ↓reduceIte, Nat.reduceEqDiff, Nat.reduceAdd, reduceCtorEq]
  repeat' (first | refine And.intro ?_ ?_ | intro _)
  all_goals (try simp only [List.length_append, seqI_length, List.length_drop, ints_length])
  all_goals (try omega)
  · have e1 : (pre ++ (seqI k x ++ l.drop x) ++ post).set (x + pre.length) (k + x) = pre ++ (seqI k (x + 1) ++ l.drop (x + 1)) ++ post := by
      rw [List.set_append_left _ _ (by simp; omega), List.set_append_right _ _ (by omega), Nat.add_sub_cancel, mark_step k (by omega)]
    rw [e1]
    exact ih (x + 1) (by omega) (by omega) _ _ (by simp [keep]; omega) rfl
  · obtain rfl : x = l.length := by omega
    refine Kv.Fin.now ?_
    simpa using hK
theorem p27n (σ : Heap) (k : Int) {K : PV → Heap → Prop} (hK : K (.int .i64 k) σ) : ACall Try.prog 27 [.nils, .int .i64 k] σ K := by
  refine e27 (by simp) fun _ _ => ?_
  simp only [k27, argEnv, go_sem, ↓reduceIte, Nat.reduceEqDiff, Nat.reduceAdd, reduceCtorEq]
  refine KL_round ?_
  rw [k27_b0.eq_1]
  simp only [go_sem, ↓reduceIte, Nat.reduceEqDiff, Nat.reduceAdd, reduceCtorEq]
  repeat' (first | refine And.intro ?_ ?_ | intro _)
  all_goals (try omega)
  exact Kv.Fin.now hK
theorem p28 (k : Int) (n : Nat) (hk : -4294967296 ≤ k ∧ k ≤ 4294967296) (hl : n ≤ 4294967296) : Pure Try.prog 28 [.list (ints (seqI k n)), .int .i64 k] (.int .i64 (k + n)) := by
  refine e28 (by simp) fun _ _ => ?_
  simp only [k28, argEnv, go_sem, ↓reduceIte, Nat.reduceEqDiff, Nat.reduceAdd, reduceCtorEq]
  refine KL_ind k28_b0.eq_1 (fun x : Nat => [(5, .int .i64 x), (0, .list (ints (seqI k n))), (1, .int .i64 (k + x))]) (fun _ => []) (fun x => x ≤ n) (fun x => n - x) [5, 0, 1] 0 (by simp [keep]) rfl (Nat.zero_le _) fun x hi ih => ?_
  simp only [go_sem, ↓reduceIte, Nat.reduceEqDiff, Nat.reduceAdd, reduceCtorEq]
  repeat' (first | refine And.intro ?_ ?_ | intro _)
  all_goals (try simp only [seqI_length] at *)
  all_goals (try omega)
  · exact absurd (seqI_getD k (by omega)) (by assumption)
  · exact ih (x + 1) (by omega) (by omega) _ _ (by simp [keep]; omega) rfl
  · obtain rfl : x = n := by omega
    exact Kv.Fin.now ⟨rfl, rfl⟩
end Go.Proofs.Ytpepbomifjbgnaa
