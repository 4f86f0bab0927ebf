/- Maps in order: plain laws, and the table of products. -/
import Derived.Test.YtpepbomifjbgnaaCb
import Derived.Test.YtpepbomifjbgnaaTA
namespace Go.Proofs.Ytpepbomifjbgnaa
open Go.Kv
set_option maxRecDepth 100000
/- spec.l06Table -/
/- live [0, 3, 4, 5, 6] -/
def k68_b0 : KC := (.seq (.seq (.ops [⟨(some 15), none, .mv (.t 6)⟩, ⟨(some 16), none, .mv (.t 0)⟩, ⟨(some 17), none, .len false (.t 16)⟩, ⟨(some 18), none, .bin .lss (.t 15) (.t 17)⟩])
  (.cond (.t 18) .skip (.exit 2)))
  (.seq (.block 3 (.draw [⟨(some 21), none, .mv (.t 5)⟩, ⟨(some 22), none, .mv (.t 0)⟩, ⟨(some 23), none, .mv (.t 0)⟩, ⟨(some 24), none, .mv (.t 4)⟩, ⟨(some 25), none, .idxS 6 (.t 23) (.t 24)⟩, ⟨(some 26), none, .load true 6 (.t 25)⟩, ⟨(some 27), none, .mv (.t 0)⟩, ⟨(some 28), none, .mv (.t 6)⟩, ⟨(some 29), none, .idxS 6 (.t 27) (.t 28)⟩, ⟨(some 30), none, .load true 6 (.t 29)⟩, ⟨(some 31), none, .pcall (.c (.fn (.func 117) [] [])) [(.t 26), (.t 30)]⟩, ⟨(some 32), none, .pcall (.c (.fn (.func 116) [] [])) [(.t 22), (.t 31)]⟩, ⟨(some 33), none, .bsl true 2 1 [(.t 32)]⟩, ⟨(some 34), none, .app (.t 21) (.t 33) 2 1⟩, ⟨(some 5), none, .mv (.t 34)⟩]))
  (.ops [⟨(some 19), none, .mv (.t 6)⟩, ⟨(some 20), none, .bin .add (.t 19) (.c (.int .i64 1))⟩, ⟨(some 6), none, .mv (.t 20)⟩])))
/- live [0, 3, 4] -/
def k68_b1 : KC := (.seq (.seq (.ops [⟨(some 8), none, .mv (.t 4)⟩, ⟨(some 9), none, .mv (.t 0)⟩, ⟨(some 10), none, .len false (.t 9)⟩, ⟨(some 11), none, .bin .lss (.t 8) (.t 10)⟩])
  (.cond (.t 11) .skip (.exit 0)))
  (.seq (.block 1 (.seq (.ops [⟨(some 14), none, .bsl false 2 1 []⟩, ⟨(some 5), none, .mv (.t 14)⟩])
  (.seq (.seq (.ops [⟨(some 6), none, .mv (.c (.int .i64 0))⟩])
  (.block 2 (.loop k68_b0)))
  (.ops [⟨(some 35), none, .mv (.t 3)⟩, ⟨(some 36), none, .mv (.t 5)⟩, ⟨(some 37), none, .bsl true 23 1 [(.t 36)]⟩, ⟨(some 38), none, .app (.t 35) (.t 37) 23 1⟩, ⟨(some 3), none, .mv (.t 38)⟩]))))
  (.ops [⟨(some 12), none, .mv (.t 4)⟩, ⟨(some 13), none, .bin .add (.t 12) (.c (.int .i64 1))⟩, ⟨(some 4), none, .mv (.t 13)⟩])))
def k68 : KC := (.seq (.ops [⟨(some 2), none, .mv (.c (.nils))⟩])
  (.seq (.ops [⟨(some 7), none, .bsl false 23 1 []⟩, ⟨(some 3), none, .mv (.t 7)⟩])
  (.seq (.seq (.ops [⟨(some 4), none, .mv (.c (.int .i64 0))⟩])
  (.block 0 (.loop k68_b1)))
  (.seq (.ops [⟨(some 39), none, .mv (.t 3)⟩, ⟨(some 2), none, .mv (.t 39)⟩])
  .ret))))
theorem e68 {args : List PV} {σ : Heap} {K : PV → Heap → Prop} (hl : args.length ≤ 40) (h : Wf σ → (∀ a ∈ args, PV.upto σ.length a) → vc (mkCfg Try.prog mixed [33, 37] 40 σ.length) k68 (FinK σ.length [.t 2] K) (argEnv 0 args) σ) : ACall Try.prog 68 args σ K :=
  ACall_enter (C := mkCfg Try.prog mixed [33, 37] 40 σ.length) (c := Try.f68.body.getD .skip) Try.func68 (by kernel_rfl) (by kernel_rfl) (by kernel_rfl) rfl hl (by kernel_rfl) (by kernel_rfl) h
end Go.Proofs.Ytpepbomifjbgnaa
namespace Go.Proofs.Ytpepbomifjbgnaa
open Go.Kv
set_option linter.unusedVariables false
set_option linter.unusedSimpArgs false
attribute [local irreducible] ACall PCall KL
theorem lo_mem {n : Nat} {S : List (List Nat)} (hS : SrM n S) {f : List Nat} (hf : Ok f n) : (loM n S f < S.length ∧ S.getD (loM n S f) [] = f) ↔ f ∈ S := by
  constructor
  · rintro ⟨h1, h2⟩
    rw [← h2, List.getD_eq_getElem?_getD, List.getElem?_eq_getElem h1]
    exact List.getElem_mem _
  · intro h
    obtain ⟨i, hi, e⟩ := List.getElem_of_mem h
    have hle := loM_le n S f
    have h1 : ¬ i < loM n S f := fun hh => by
      have := (loM_iff f hS.2 i hi).2 hh
      rw [e] at this; omega
    have hlo : loM n S f < S.length := by omega
    have h2 : ¬ nbl n S[loM n S f] < nbl n f := fun hh => by
      have := (loM_iff f hS.2 _ hlo).1 hh
      omega
    have h3 : loM n S f = i := by
      refine Classical.byContradiction fun hne => ?_
      have := List.pairwise_iff_getElem.1 hS.2 (loM n S f) i hlo hi (by omega)
      rw [e] at this
      exact h2 this
    refine ⟨hlo, ?_⟩
    rw [List.getD_eq_getElem?_getD, List.getElem?_eq_getElem hlo]
    simp only [h3, Option.getD_some]
    exact e
theorem putM_mem {n : Nat} {S : List (List Nat)} (hS : SrM n S) {f : List Nat} (hf : Ok f n) {x : List Nat} : x ∈ putM n S f ↔ x = f ∨ x ∈ S := by
  unfold putM
  split
  · rename_i h
    have := (lo_mem hS hf).1 h
    exact ⟨fun h => .inr h, fun h => by rcases h with rfl | h <;> assumption⟩
  · rw [List.mem_append, List.mem_cons]
    constructor
    · rintro (h | h | h)
      · exact .inr (List.mem_of_mem_take h)
      · exact .inl h
      · exact .inr (List.mem_of_mem_drop h)
    · rintro (h | h)
      · exact .inr (.inl h)
      · rw [← List.take_append_drop (loM n S f) S, List.mem_append] at h
        rcases h with h | h
        · exact .inl h
        · exact .inr (.inr h)
theorem putM_srm {n : Nat} {S : List (List Nat)} (hS : SrM n S) {f : List Nat} (hf : Ok f n) : SrM n (putM n S f) := by
  refine ⟨fun g hg => ?_, ?_⟩
  · rcases (putM_mem hS hf).1 hg with rfl | hg
    · exact hf
    · exact hS.1 g hg
  · unfold putM
    split
    · exact hS.2
    · rename_i hno
      have hnm : f ∉ S := fun h => hno ((lo_mem hS hf).2 h)
      have hle := loM_le n S f
      have hfr : ∀ x ∈ S.take (loM n S f), nbl n x < nbl n f := fun x hx => by
        obtain ⟨i, hi, rfl⟩ := List.getElem_of_mem hx
        rw [List.length_take] at hi
        rw [List.getElem_take]
        exact (loM_iff f hS.2 i (by omega)).2 (by omega)
      have hbk : ∀ x ∈ S.drop (loM n S f), nbl n f < nbl n x := fun x hx => by
        obtain ⟨i, hi, rfl⟩ := List.getElem_of_mem hx
        rw [List.length_drop] at hi
        rw [List.getElem_drop]
        have h1 : ¬ nbl n S[loM n S f + i] < nbl n f := fun hh => by
          have := (loM_iff f hS.2 _ (by omega)).1 hh
          omega
        have h2 : nbl n S[loM n S f + i] ≠ nbl n f := fun hh => hnm (by
          rw [← nbl_inj (hS.1 _ (List.getElem_mem (by omega))) hf hh]
          exact List.getElem_mem _)
        omega
      rw [List.pairwise_append, List.pairwise_cons]
      refine ⟨hS.2.sublist (List.take_sublist _ _), ⟨hbk, hS.2.sublist (List.drop_sublist _ _)⟩, fun a ha b hb => ?_⟩
      have h1 := hfr a ha
      rcases List.mem_cons.1 hb with rfl | hb
      · exact h1
      · have := hbk b hb; omega
theorem putM_len {n : Nat} {S : List (List Nat)} (f : List Nat) : (putM n S f).length ≤ S.length + 1 := by
  have hle := loM_le n S f
  unfold putM
  split
  · omega
  · rw [List.length_append, List.length_cons, List.length_take, List.length_drop]; omega
/-- The place of a map, or -1. -/
def plM (n : Nat) (S : List (List Nat)) (f : List Nat) : Int := if loM n S f < S.length ∧ S.getD (loM n S f) [] = f then loM n S f else -1
/-- The table of products. -/
def rowM (n : Nat) (S : List (List Nat)) (f : List Nat) : List Int := S.map fun g => plM n S (mul f g)
def tabM (n : Nat) (S : List (List Nat)) : List (List Int) := S.map fun f => rowM n S f
theorem p68 (n : Nat) (S : List (List Nat)) (hS : SrM n S) (hl : S.length ≤ 1000) : Pure Try.prog 68 [.list (aggs (S.map mp))] (.list (rows (tabM n S))) := by
  refine e68 (by simp) fun _ _ => ?_
  simp only [k68, argEnv, take6, List.drop_zero, Int.cast_ofNat_Int, go_sem, ↓reduceIte, Nat.reduceEqDiff, Nat.reduceAdd, Nat.reduceMul, Nat.reduceLeDiff, Nat.reduceLT, Int.reduceLE, Int.reduceLT, reduceCtorEq]
  have hS6 : ∀ i, i < S.length → (S.map mp).getD i [] = mp (S.getD i []) ∧ Ok (S.getD i []) n := fun i h => by
    have e : S.getD i [] = S[i] := by simp [List.getD_eq_getElem?_getD, h]
    rw [e]
    exact ⟨by simp [List.getD_eq_getElem?_getD, h], hS.1 _ (List.getElem_mem h)⟩
  refine KL_ind k68_b1.eq_1 (fun y : Nat × PV × Heap => [(0, .list (aggs (S.map mp))), (3, y.2.1), (4, .int .i64 y.1)]) (fun y => y.2.2) (fun y => y.1 ≤ S.length ∧ TabN 23 2 y.2.2 y.2.1 ((tabM n S).take y.1) ∧ Free y.2.2) (fun y => S.length - y.1) [0, 3, 4] (0, .ref 0 0 0 0, [.arr 0 23 1 []]) (by simp [keep]) rfl ⟨Nat.zero_le _, by rw [List.take_zero]; exact TabN.empty, Free.empty _ _ _⟩ fun ⟨x, v, σ⟩ ⟨hx, hT, hF⟩ ih => ?_
  simp only at hx hT hF
  try simp only [OpK_eq, HKv, aggs_length, List.length_map, take6, List.drop_zero, Int.cast_ofNat_Int, go_sem, ↓reduceIte, Nat.reduceEqDiff, Nat.reduceAdd, Nat.reduceMul, Nat.reduceLeDiff, Nat.reduceLT, Int.reduceLE, Int.reduceLT, reduceCtorEq]
  refine ⟨fun g1 => ?_, fun g1 => ?_⟩
  · have hxl : x < S.length := by omega
    obtain ⟨e1, o1⟩ := hS6 x hxl
    have h61 := o1.mp_len
    have hrl : (rowM n S (S.getD x [])).length = S.length := List.length_map _
    have hself : ∀ a : AObj, (σ ++ [a])[σ.length]? = some a := fun a => by simp
    have hset : ∀ a b : AObj, (σ ++ [a]).set σ.length b = σ ++ [b] := fun a b => by simp [List.set_append_right]
    refine KL_ind k68_b0.eq_1 (fun y : Nat => [(0, .list (aggs (S.map mp))), (3, v), (4, .int .i64 x), (5, .ref σ.length y 0 y), (6, .int .i64 y)]) (fun y => σ ++ [.arr y 2 1 (ints ((rowM n S (S.getD x [])).take y))]) (fun y => y ≤ S.length) (fun y => S.length - y) [0, 3, 4, 5, 6] 0 (by simp [keep]) rfl (Nat.zero_le _) fun y hy ihy => ?_
    have htl : ((rowM n S (S.getD x [])).take y).length = y := by rw [List.length_take]; omega
    try simp only [OpK_eq, HKv, aggs_length, List.length_map, e1, h61, take6, List.drop_zero, Int.cast_ofNat_Int, go_sem, ↓reduceIte, Nat.reduceEqDiff, Nat.reduceAdd, Nat.reduceMul, Nat.reduceLeDiff, Nat.reduceLT, Int.reduceLE, Int.reduceLT, reduceCtorEq]
    refine ⟨fun g2 => ?_, fun g2 => ?_⟩
    · have hyl : y < S.length := by omega
      obtain ⟨e2, o2⟩ := hS6 y hyl
      have h62 := o2.mp_len
      try simp only [OpK_eq, HKv, aggs_length, List.length_map, e1, h61, e2, h62, hself, hset, take6, List.drop_zero, Int.cast_ofNat_Int, go_sem, ↓reduceIte, Nat.reduceEqDiff, Nat.reduceAdd, Nat.reduceMul, Nat.reduceLeDiff, Nat.reduceLT, Int.reduceLE, Int.reduceLT, reduceCtorEq]
      refine ⟨by omega, fun _ => ⟨by omega, fun _ => ?_⟩⟩
      refine (p117 _ _ n o1 o2).pgo ?_
      have hFd := p116 n S hS (by omega) (mul (S.getD x []) (S.getD y [])) (o1.mul o2)
      have hpl : (if loM n S (mul (S.getD x []) (S.getD y [])) < S.length ∧ S.getD (loM n S (mul (S.getD x []) (S.getD y []))) [] = mul (S.getD x []) (S.getD y []) then (loM n S (mul (S.getD x []) (S.getD y [])) : Int) else -1) = plM n S (mul (S.getD x []) (S.getD y [])) := rfl
      rw [hpl] at hFd
      try simp only [OpK_eq, HKv, take6, List.drop_zero, Int.cast_ofNat_Int, go_sem, ↓reduceIte, Nat.reduceEqDiff, Nat.reduceAdd, Nat.reduceMul, Nat.reduceLeDiff, Nat.reduceLT, Int.reduceLE, Int.reduceLT, reduceCtorEq]
      refine hFd.pgo ?_
      have hts : (rowM n S (S.getD x [])).take (y + 1) = (rowM n S (S.getD x [])).take y ++ [plM n S (mul (S.getD x []) (S.getD y []))] := by
        have hyr : y < (rowM n S (S.getD x [])).length := by omega
        rw [List.take_succ_eq_append_getElem hyr]
        have : (rowM n S (S.getD x []))[y] = plM n S (mul (S.getD x []) S[y]) := by simp [rowM]
        rw [this]
        simp [List.getD_eq_getElem?_getD, hyl]
      have ht2 : List.take y ((rowM n S (S.getD x [])).take y) = (rowM n S (S.getD x [])).take y := List.take_of_length_le (by omega)
      try simp only [OpK_eq, HKv, hself, hset, htl, ht2, take6, List.drop_zero, Int.cast_ofNat_Int, go_sem, ↓reduceIte, Nat.reduceEqDiff, Nat.reduceAdd, Nat.reduceMul, Nat.reduceLeDiff, Nat.reduceLT, Int.reduceLE, Int.reduceLT, reduceCtorEq]
      refine ⟨⟨by omega, by omega⟩, by omega, ihy (y + 1) (by omega) (by omega) _ _ (by simp [keep]) ?_⟩
      rw [hts]
    · obtain rfl : y = S.length := by omega
      have htx : (tabM n S).take (x + 1) = (tabM n S).take x ++ [rowM n S (S.getD x [])] := by
        have hxt : x < (tabM n S).length := by rw [tabM, List.length_map]; exact hxl
        rw [List.take_succ_eq_append_getElem hxt]
        have : (tabM n S)[x] = rowM n S S[x] := by simp [tabM]
        rw [this]
        simp [List.getD_eq_getElem?_getD, hxl]
      rw [List.take_of_length_le (by omega : (rowM n S (S.getD x [])).length ≤ S.length)]
      refine hT.pushRow hF (rowM n S (S.getD x [])) (by omega) (by rw [List.length_take]; omega) fun v' σ' q1 q2 => ?_
      try simp only [OpK_eq, HKv, take6, List.drop_zero, Int.cast_ofNat_Int, go_sem, ↓reduceIte, Nat.reduceEqDiff, Nat.reduceAdd, Nat.reduceMul, Nat.reduceLeDiff, Nat.reduceLT, Int.reduceLE, Int.reduceLT, reduceCtorEq]
      exact ⟨by omega, ih (x + 1, v', σ') ⟨by show x + 1 ≤ S.length; omega, by show TabN _ _ σ' v' ((tabM n S).take (x + 1)); rw [htx]; exact q1, q2⟩ (by show S.length - (x + 1) < S.length - x; omega) _ _ (by simp [keep]) rfl⟩
  · obtain rfl : x = S.length := by omega
    rw [List.take_of_length_le (by rw [tabM, List.length_map]; exact Nat.le_refl _)] at hT
    try simp only [OpK_eq, HKv, take6, List.drop_zero, Int.cast_ofNat_Int, go_sem, ↓reduceIte, Nat.reduceEqDiff, Nat.reduceAdd, Nat.reduceMul, Nat.reduceLeDiff, Nat.reduceLT, Int.reduceLE, Int.reduceLT, reduceCtorEq]
    exact Kv.Fin.freeze hT.imm ⟨rfl, rfl⟩
end Go.Proofs.Ytpepbomifjbgnaa
