/- The elements of a monoid, and its table: the specification. -/
import Derived.Test.YtpepbomifjbgnaaCb
import Derived.Test.YtpepbomifjbgnaaTC
namespace Go.Proofs.Ytpepbomifjbgnaa
open Go.Kv
set_option maxRecDepth 100000
/- spec.l02Elements -/
/- live [7, 10, 11] -/
def k67_b0 : KC := (.seq (.seq (.ops [⟨(some 31), none, .mv (.t 11)⟩, ⟨(some 32), none, .mv (.t 7)⟩, ⟨(some 33), none, .len false (.t 32)⟩, ⟨(some 34), none, .bin .lss (.t 31) (.t 33)⟩])
  (.cond (.t 34) .skip (.exit 0)))
  (.seq (.block 1 (.ops [⟨(some 37), none, .mv (.t 10)⟩, ⟨(some 38), none, .mv (.t 7)⟩, ⟨(some 39), none, .mv (.t 11)⟩, ⟨(some 40), none, .idxS 6 (.t 38) (.t 39)⟩, ⟨(some 41), none, .load true 6 (.t 40)⟩, ⟨(some 42), none, .call (.c (.fn (.func 115) [] [])) [(.t 37), (.t 41)]⟩, ⟨(some 10), none, .mv (.t 42)⟩]))
  (.ops [⟨(some 35), none, .mv (.t 11)⟩, ⟨(some 36), none, .bin .add (.t 35) (.c (.int .i64 1))⟩, ⟨(some 11), none, .mv (.t 36)⟩])))
def k67 : KC := (.seq (.ops [⟨(some 4), none, .mv (.c (.nils))⟩, ⟨(some 5), none, .mv (.c (.int .i64 0))⟩])
  (.seq (.seq (.ops [⟨(some 12), none, .mv (.t 0)⟩, ⟨(some 13), none, .mv (.t 1)⟩, ⟨(some 14), none, .call (.c (.fn (.func 51) [] [])) [(.t 12), (.t 13)]⟩, ⟨(some 6), none, .mv (.t 14)⟩])
  (.seq (.ops [⟨(some 15), none, .mv (.t 6)⟩, ⟨(some 16), none, .bin .neq (.t 15) (.c (.int .i64 0))⟩])
  (.cond (.t 16) (.seq (.ops [⟨(some 17), none, .mv (.t 6)⟩, ⟨(some 4), none, .mv (.c (.nils))⟩, ⟨(some 5), none, .mv (.t 17)⟩])
  .ret) .skip)))
  (.seq (.ops [⟨(some 19), none, .mv (.t 0)⟩, ⟨(some 20), none, .mv (.t 0)⟩, ⟨(some 21), none, .idxS 6 (.t 20) (.c (.int .i64 0))⟩, ⟨(some 22), none, .fieldA 0 (.t 21)⟩, ⟨(some 23), none, .load false 1 (.t 22)⟩, ⟨(some 24), none, .call (.c (.fn (.func 114) [] [])) [(.t 19), (.t 23)]⟩, ⟨(some 18), none, .mv (.t 24)⟩, ⟨(some 25), none, .extr 0 (.t 18)⟩, ⟨(some 26), none, .extr 1 (.t 18)⟩, ⟨(some 27), none, .extr 2 (.t 18)⟩, ⟨(some 7), none, .mv (.t 25)⟩, ⟨(some 8), none, .mv (.t 26)⟩, ⟨(some 9), none, .mv (.t 27)⟩])
  (.seq (.seq (.ops [⟨(some 28), none, .mv (.t 9)⟩, ⟨(some 29), none, .not (.t 28)⟩])
  (.cond (.t 29) (.seq (.ops [⟨(some 4), none, .mv (.c (.nils))⟩, ⟨(some 5), none, .mv (.c (.int .i64 3))⟩])
  .ret) .skip))
  (.seq (.ops [⟨(some 30), none, .bsl false 59 6 []⟩, ⟨(some 10), none, .mv (.t 30)⟩])
  (.seq (.seq (.ops [⟨(some 11), none, .mv (.c (.int .i64 0))⟩])
  (.block 0 (.loop k67_b0)))
  (.seq (.ops [⟨(some 43), none, .mv (.t 10)⟩, ⟨(some 4), none, .mv (.t 43)⟩, ⟨(some 5), none, .mv (.c (.int .i64 0))⟩])
  .ret)))))))
theorem e67 {args : List PV} {σ : Heap} {K : PV → Heap → Prop} (hl : args.length ≤ 44) (h : Wf σ → (∀ a ∈ args, PV.upto σ.length a) → vc (mkCfg Try.prog mixed [] 44 σ.length) k67 (FinK σ.length [.t 4, .t 5] K) (argEnv 0 args) σ) : ACall Try.prog 67 args σ K :=
  ACall_enter (C := mkCfg Try.prog mixed [] 44 σ.length) (c := Try.f67.body.getD .skip) Try.func67 (by kernel_rfl) (by kernel_rfl) (by kernel_rfl) rfl hl (by kernel_rfl) (by kernel_rfl) h
/- spec.TableOf -/
def k35 : KC := (.seq (.ops [⟨(some 2), none, .mv (.c (.nils))⟩, ⟨(some 3), none, .mv (.c (.int .i64 0))⟩])
  (.seq (.ops [⟨(some 7), none, .mv (.t 0)⟩, ⟨(some 8), none, .call (.c (.fn (.func 67) [] [])) [(.t 7), (.c (.nils))]⟩, ⟨(some 6), none, .mv (.t 8)⟩, ⟨(some 9), none, .extr 0 (.t 6)⟩, ⟨(some 10), none, .extr 1 (.t 6)⟩, ⟨(some 4), none, .mv (.t 9)⟩, ⟨(some 5), none, .mv (.t 10)⟩])
  (.seq (.seq (.ops [⟨(some 11), none, .mv (.t 5)⟩, ⟨(some 12), none, .bin .eql (.t 11) (.c (.int .i64 0))⟩, ⟨(some 13), none, .mv (.t 12)⟩, ⟨(some 14), some (13, true), .mv (.t 4)⟩, ⟨(some 15), some (13, true), .len false (.t 14)⟩, ⟨(some 16), some (13, true), .bin .gtr (.t 15) (.c (.int .i64 40))⟩, ⟨(some 17), none, .pick (.t 13) (.t 16) (.c (.bool false))⟩])
  (.cond (.t 17) (.ops [⟨(some 5), none, .mv (.c (.int .i64 3))⟩]) .skip))
  (.seq (.seq (.ops [⟨(some 18), none, .mv (.t 5)⟩, ⟨(some 19), none, .bin .neq (.t 18) (.c (.int .i64 0))⟩])
  (.cond (.t 19) (.seq (.ops [⟨(some 20), none, .mv (.t 5)⟩, ⟨(some 2), none, .mv (.c (.nils))⟩, ⟨(some 3), none, .mv (.t 20)⟩])
  .ret) .skip))
  (.seq (.ops [⟨(some 21), none, .mv (.t 4)⟩, ⟨(some 22), none, .call (.c (.fn (.func 68) [] [])) [(.t 21)]⟩, ⟨(some 2), none, .mv (.t 22)⟩, ⟨(some 3), none, .mv (.c (.int .i64 0))⟩])
  .ret)))))
theorem e35 {args : List PV} {σ : Heap} {K : PV → Heap → Prop} (hl : args.length ≤ 23) (h : Wf σ → (∀ a ∈ args, PV.upto σ.length a) → vc (mkCfg Try.prog mixed [] 23 σ.length) k35 (FinK σ.length [.t 2, .t 3] K) (argEnv 0 args) σ) : ACall Try.prog 35 args σ K :=
  ACall_enter (C := mkCfg Try.prog mixed [] 23 σ.length) (c := Try.f35.body.getD .skip) Try.func35 (by kernel_rfl) (by kernel_rfl) (by kernel_rfl) rfl hl (by kernel_rfl) (by kernel_rfl) h
end Go.Proofs.Ytpepbomifjbgnaa
namespace Go.Proofs.Ytpepbomifjbgnaa
open Go.Kv
set_option linter.unusedVariables false
set_option linter.unusedSimpArgs false
attribute [local irreducible] ACall PCall KL
theorem clB_none {fs : List (List Nat)} {n i : Nat} (h : clB fs n i = none) : ∀ d, clB fs n (i + d) = none
  | 0 => h
  | d + 1 => by
    show clB fs n (i + d + 1) = none
    rw [clB, clB_none h d]
theorem clB_stop {fs : List (List Nat)} {n i : Nat} {Q : List (List Nat)} (h : clB fs n i = some Q) (hi : Q.length ≤ i) : ∀ d, clB fs n (i + d) = some Q
  | 0 => h
  | d + 1 => by
    show clB fs n (i + d + 1) = some Q
    rw [clB, clB_stop h hi d]
    simp only
    rw [List.getElem?_eq_none (by omega)]
/-- The maps of all words, if there are not too many. -/
def clR (fs : List (List Nat)) (n : Nat) : Option (List (List Nat)) := clB fs n 301
/-- In order. -/
def elS (n : Nat) (Q : List (List Nat)) : List (List Nat) := Q.foldl (putM n) []
theorem fold_putM {n : Nat} : ∀ (Q S : List (List Nat)), SrM n S → (∀ f ∈ Q, Ok f n) → SrM n (Q.foldl (putM n) S) ∧ (∀ f, f ∈ Q.foldl (putM n) S ↔ f ∈ Q ∨ f ∈ S) ∧ (Q.foldl (putM n) S).length ≤ Q.length + S.length
  | [], S, h, _ => ⟨h, fun f => by simp, by simp⟩
  | a :: Q, S, h, hQ => by
    have ha := hQ a (by simp)
    obtain ⟨h1, h2, h3⟩ := fold_putM Q (putM n S a) (putM_srm h ha) fun f hf => hQ f (by simp [hf])
    refine ⟨h1, fun f => ?_, ?_⟩
    · rw [List.foldl_cons, h2, putM_mem h ha, List.mem_cons]
      constructor
      · rintro (h | h | h)
        · exact .inl (.inr h)
        · exact .inl (.inl h)
        · exact .inr h
      · rintro ((h | h) | h)
        · exact .inr (.inl h)
        · exact .inl h
        · exact .inr (.inr h)
    · have := putM_len (n := n) (S := S) a
      rw [List.foldl_cons, List.length_cons]; omega
theorem p67_in (fs : List (List Nat)) (n : Nat) (h1 : 1 ≤ n) (h5 : n ≤ 5) (hf : ∀ f ∈ fs, Ok f n) (h0 : 0 < fs.length) (hfl : fs.length ≤ 6) (hl : lcode (fs.map mp) [] = 0) :
    Pure Try.prog 67 [.list (aggs (fs.map mp)), .nils] (match clR fs n with | none => .tup [.nils, .int .i64 3] | some Q => .tup [.list (aggs ((elS n Q).map mp)), .int .i64 0]) := by
  have hk := hf _ (List.getElem_mem h0)
  have h6k := hk.mp_len
  have hn : (mp fs[0]).getD 0 0 = (n : Int) := by simp [mp, mpN, hk.len]
  refine e67 (by simp) fun _ _ => ?_
  simp only [k67, argEnv, take6, List.drop_zero, Int.cast_ofNat_Int, go_sem, ↓reduceIte, Nat.reduceEqDiff, Nat.reduceAdd, Nat.reduceMul, Nat.reduceLeDiff, Nat.reduceLT, Int.reduceLE, Int.reduceLT, reduceCtorEq]
  refine (p51n (fs.map mp) (by simp; omega) (fun r hr => by obtain ⟨f, hf', rfl⟩ := List.mem_map.1 hr; exact (hf f hf').mp_len)).go ?_
  rw [hl]
  try simp only [OpK_eq, HKv, map_getD h0, h6k, hn, List.length_map, take6, List.drop_zero, Int.cast_ofNat_Int, go_sem, ↓reduceIte, Nat.reduceEqDiff, Nat.reduceAdd, Nat.reduceMul, Nat.reduceLeDiff, Nat.reduceLT, Int.reduceLE, Int.reduceLT, reduceCtorEq]
  refine ⟨by omega, fun _ => ?_⟩
  refine p114 fs n h1 h5 hf (by omega) (fun i Q W c1 c2 c3 c4 => ?_) (fun i c0 c1 => ?_)
  · have hR : clR fs n = some Q := by
      have := clB_stop c1 (by omega) (301 - i)
      rwa [show i + (301 - i) = 301 by omega] at this
    rw [hR]
    try simp only [OpK_eq, HKv, take6, List.drop_zero, Int.cast_ofNat_Int, go_sem, ↓reduceIte, Nat.reduceEqDiff, Nat.reduceAdd, Nat.reduceMul, Nat.reduceLeDiff, Nat.reduceLT, Int.reduceLE, Int.reduceLT, reduceCtorEq]
    refine KL_freeze (env0 := [(7, .list (aggs (Q.map mp))), (10, .ref 0 0 0 0), (11, .int .i64 0)]) (env' := [(7, .list (aggs (Q.map mp))), (10, .list (aggs (([] : List (List Nat)).map mp))), (11, .int .i64 0)]) [7, 10, 11] rfl (by simp [keep]) (.cons Imm.still (.cons (Imm.refa (l := []) rfl) (.cons Imm.still .nil))) ?_
    refine KL_ind k67_b0.eq_1 (fun y : Nat => [(7, .list (aggs (Q.map mp))), (10, .list (aggs ((elS n (Q.take y)).map mp))), (11, .int .i64 y)]) (fun _ => []) (fun y => y ≤ Q.length) (fun y => Q.length - y) [7, 10, 11] 0 (by simp [keep, elS]) rfl (Nat.zero_le _) fun y hy ih => ?_
    try simp only [OpK_eq, HKv, aggs_length, List.length_map, take6, List.drop_zero, Int.cast_ofNat_Int, go_sem, ↓reduceIte, Nat.reduceEqDiff, Nat.reduceAdd, Nat.reduceMul, Nat.reduceLeDiff, Nat.reduceLT, Int.reduceLE, Int.reduceLT, reduceCtorEq]
    refine ⟨fun g1 => ?_, fun g1 => ?_⟩
    · have hyl : y < Q.length := by omega
      have hgy : (Q.map mp).getD y [] = mp Q[y] := by simp [List.getD_eq_getElem?_getD, hyl]
      have hOy := c3 _ (List.getElem_mem hyl)
      have h6y := hOy.mp_len
      obtain ⟨s1, s2, s3⟩ := fold_putM (n := n) (Q.take y) [] ⟨by simp, by simp⟩ fun f hf' => c3 f (List.mem_of_mem_take hf')
      have hes : elS n (Q.take (y + 1)) = putM n (elS n (Q.take y)) Q[y] := by
        unfold elS
        rw [List.take_succ_eq_append_getElem hyl, List.foldl_append]; rfl
      have s3' : (elS n (Q.take y)).length ≤ Q.length := by
        have : (elS n (Q.take y)).length ≤ (Q.take y).length + 0 := s3
        rw [List.length_take] at this; omega
      try simp only [OpK_eq, HKv, aggs_length, List.length_map, hgy, h6y, take6, List.drop_zero, Int.cast_ofNat_Int, go_sem, ↓reduceIte, Nat.reduceEqDiff, Nat.reduceAdd, Nat.reduceMul, Nat.reduceLeDiff, Nat.reduceLT, Int.reduceLE, Int.reduceLT, reduceCtorEq]
      refine ⟨by omega, fun _ => ?_⟩
      refine (p115 n (elS n (Q.take y)) s1 (by omega) Q[y] hOy).go ?_
      try simp only [OpK_eq, HKv, take6, List.drop_zero, Int.cast_ofNat_Int, go_sem, ↓reduceIte, Nat.reduceEqDiff, Nat.reduceAdd, Nat.reduceMul, Nat.reduceLeDiff, Nat.reduceLT, Int.reduceLE, Int.reduceLT, reduceCtorEq]
      exact ⟨by omega, ih (y + 1) (by omega) (by omega) _ _ (by simp [keep, hes]) rfl⟩
    · obtain rfl : y = Q.length := by omega
      rw [List.take_length]
      try simp only [OpK_eq, HKv, take6, List.drop_zero, Int.cast_ofNat_Int, go_sem, ↓reduceIte, Nat.reduceEqDiff, Nat.reduceAdd, Nat.reduceMul, Nat.reduceLeDiff, Nat.reduceLT, Int.reduceLE, Int.reduceLT, reduceCtorEq]
      exact Kv.Fin.still ⟨rfl, rfl⟩
  · have hR : clR fs n = none := by
      have := clB_none c1 (301 - i)
      rwa [show i + (301 - i) = 301 by omega] at this
    rw [hR]
    try simp only [OpK_eq, HKv, take6, List.drop_zero, Int.cast_ofNat_Int, go_sem, ↓reduceIte, Nat.reduceEqDiff, Nat.reduceAdd, Nat.reduceMul, Nat.reduceLeDiff, Nat.reduceLT, Int.reduceLE, Int.reduceLT, reduceCtorEq]
    exact Kv.Fin.still ⟨rfl, rfl⟩
theorem elS_ok {n : Nat} {Q : List (List Nat)} (hQ : ∀ f ∈ Q, Ok f n) : SrM n (elS n Q) ∧ (∀ f, f ∈ elS n Q ↔ f ∈ Q) ∧ (elS n Q).length ≤ Q.length := by
  obtain ⟨h1, h2, h3⟩ := fold_putM (n := n) Q [] ⟨by simp, by simp⟩ hQ
  exact ⟨h1, fun f => by rw [elS, h2]; simp, h3⟩
theorem clA_okQ {fs : List (List Nat)} {n : Nat} (hf : ∀ f ∈ fs, Ok f n) {m : List Nat} (hm : Ok m n) {Q : List (List Nat)} (hQ : ∀ f ∈ Q, Ok f n) (hl : Q.length ≤ 300) : ∀ k R, k ≤ fs.length → clA fs m Q k = some R → (∀ f ∈ R, Ok f n) ∧ R.length ≤ 300
  | 0, R, _, h => by
    have : Q = R := by simpa [clA] using h
    subst this; exact ⟨hQ, hl⟩
  | k + 1, R, hk, h => by
    unfold clA at h
    cases hc : clA fs m Q k with
    | none => rw [hc] at h; cases h
    | some R' =>
      obtain ⟨h1, h2⟩ := clA_okQ hf hm hQ hl k R' (by omega) hc
      have hgf : fs.getD k [] = fs[k] := by simp [List.getD_eq_getElem?_getD, show k < fs.length by omega]
      rw [hc] at h
      simp only at h
      split at h
      · cases h; exact ⟨h1, h2⟩
      · split at h
        · cases h
        · cases h
          refine ⟨fun f hf' => ?_, by rw [List.length_append, List.length_singleton]; omega⟩
          rcases List.mem_append.1 hf' with hf' | hf'
          · exact h1 f hf'
          · simp only [List.mem_singleton] at hf'
            rw [hf', hgf]
            exact hm.mul (hf _ (List.getElem_mem _))
theorem clB_okQ {fs : List (List Nat)} {n : Nat} (h1 : 1 ≤ n) (h5 : n ≤ 5) (hf : ∀ f ∈ fs, Ok f n) : ∀ i Q, clB fs n i = some Q → (∀ f ∈ Q, Ok f n) ∧ Q.length ≤ 300
  | 0, Q, h => by
    have : [List.range n] = Q := by simpa [clB] using h
    subst this
    refine ⟨fun f hf' => ?_, by simp⟩
    simp only [List.mem_singleton] at hf'; rw [hf']; exact range_ok h1 h5
  | i + 1, Q, h => by
    rw [clB] at h
    cases hc : clB fs n i with
    | none => rw [hc] at h; cases h
    | some R =>
      obtain ⟨h2, h3⟩ := clB_okQ h1 h5 hf i R hc
      rw [hc] at h
      simp only at h
      cases hg : R[i]? with
      | none => rw [hg] at h; cases h; exact ⟨h2, h3⟩
      | some m => rw [hg] at h; exact clA_okQ hf (h2 m (List.mem_of_getElem? hg)) h2 h3 fs.length Q (Nat.le_refl _) h
theorem p35_in (fs : List (List Nat)) (n : Nat) (h1 : 1 ≤ n) (h5 : n ≤ 5) (hf : ∀ f ∈ fs, Ok f n) (h0 : 0 < fs.length) (hfl : fs.length ≤ 6) (hl : lcode (fs.map mp) [] = 0) :
    Pure Try.prog 35 [.list (aggs (fs.map mp))] (match clR fs n with | none => .tup [.nils, .int .i64 3] | some Q => if 40 < (elS n Q).length then .tup [.nils, .int .i64 3] else .tup [.list (rows (tabM n (elS n Q))), .int .i64 0]) := by
  have hE := p67_in fs n h1 h5 hf h0 hfl hl
  cases hR : clR fs n with
  | none =>
    rw [hR] at hE
    simp only at hE ⊢
    refine e35 (by simp) fun _ _ => ?_
    simp only [k35, argEnv, take6, List.drop_zero, Int.cast_ofNat_Int, go_sem, ↓reduceIte, Nat.reduceEqDiff, Nat.reduceAdd, Nat.reduceMul, Nat.reduceLeDiff, Nat.reduceLT, Int.reduceLE, Int.reduceLT, reduceCtorEq]
    refine hE.go ?_
    try simp only [OpK_eq, HKv, take6, List.drop_zero, Int.cast_ofNat_Int, go_sem, ↓reduceIte, Nat.reduceEqDiff, Nat.reduceAdd, Nat.reduceMul, Nat.reduceLeDiff, Nat.reduceLT, Int.reduceLE, Int.reduceLT, reduceCtorEq]
    exact ⟨fun h => absurd h (by decide), fun _ => ⟨fun _ => Kv.Fin.still ⟨rfl, rfl⟩, fun h => absurd h (by decide)⟩⟩
  | some Q =>
    rw [hR] at hE
    simp only at hE ⊢
    obtain ⟨c3, c4⟩ := clB_okQ h1 h5 hf _ _ hR
    obtain ⟨s1, s2, s3⟩ := elS_ok c3
    refine e35 (by simp) fun _ _ => ?_
    simp only [k35, argEnv, take6, List.drop_zero, Int.cast_ofNat_Int, go_sem, ↓reduceIte, Nat.reduceEqDiff, Nat.reduceAdd, Nat.reduceMul, Nat.reduceLeDiff, Nat.reduceLT, Int.reduceLE, Int.reduceLT, reduceCtorEq]
    refine hE.go ?_
    generalize elS n Q = S at *
    try simp only [OpK_eq, HKv, aggs_length, List.length_map, take6, List.drop_zero, Int.cast_ofNat_Int, go_sem, ↓reduceIte, Nat.reduceEqDiff, Nat.reduceAdd, Nat.reduceMul, Nat.reduceLeDiff, Nat.reduceLT, Int.reduceLE, Int.reduceLT, reduceCtorEq]
    refine ⟨fun g1 => ?_, fun g1 => ?_⟩
    · rw [if_pos (by omega)]
      exact ⟨fun _ => Kv.Fin.still ⟨rfl, rfl⟩, fun h => absurd h (by decide)⟩
    · rw [if_neg (by omega)]
      refine (p68 n S s1 (by omega)).go ?_
      try simp only [OpK_eq, HKv, take6, List.drop_zero, Int.cast_ofNat_Int, go_sem, ↓reduceIte, Nat.reduceEqDiff, Nat.reduceAdd, Nat.reduceMul, Nat.reduceLeDiff, Nat.reduceLT, Int.reduceLE, Int.reduceLT, reduceCtorEq]
      exact Kv.Fin.still ⟨rfl, rfl⟩
theorem p67_out (a : List (List Int)) (ha : a.length ≤ 1048576) (h6 : ∀ r ∈ a, r.length = 6) (hc : lcode a [] ≠ 0) : Pure Try.prog 67 [.list (aggs a), .nils] (.tup [.nils, .int .i64 (lcode a [])]) := by
  refine e67 (by simp) fun _ _ => ?_
  simp only [k67, argEnv, take6, List.drop_zero, Int.cast_ofNat_Int, go_sem, ↓reduceIte, Nat.reduceEqDiff, Nat.reduceAdd, Nat.reduceMul, Nat.reduceLeDiff, Nat.reduceLT, Int.reduceLE, Int.reduceLT, reduceCtorEq]
  refine (p51n a ha h6).go ?_
  try simp only [OpK_eq, HKv, take6, List.drop_zero, Int.cast_ofNat_Int, go_sem, ↓reduceIte, Nat.reduceEqDiff, Nat.reduceAdd, Nat.reduceMul, Nat.reduceLeDiff, Nat.reduceLT, Int.reduceLE, Int.reduceLT, reduceCtorEq]
  exact ⟨fun h1 => Kv.Fin.still ⟨rfl, rfl⟩, fun h1 => absurd h1 hc⟩
theorem p35_out (a : List (List Int)) (ha : a.length ≤ 1048576) (h6 : ∀ r ∈ a, r.length = 6) (hc : lcode a [] ≠ 0) : Pure Try.prog 35 [.list (aggs a)] (.tup [.nils, .int .i64 (lcode a [])]) := by
  refine e35 (by simp) fun _ _ => ?_
  simp only [k35, argEnv, take6, List.drop_zero, Int.cast_ofNat_Int, go_sem, ↓reduceIte, Nat.reduceEqDiff, Nat.reduceAdd, Nat.reduceMul, Nat.reduceLeDiff, Nat.reduceLT, Int.reduceLE, Int.reduceLT, reduceCtorEq]
  refine (p67_out a ha h6 hc).go ?_
  try simp only [OpK_eq, HKv, take6, List.drop_zero, Int.cast_ofNat_Int, go_sem, ↓reduceIte, Nat.reduceEqDiff, Nat.reduceAdd, Nat.reduceMul, Nat.reduceLeDiff, Nat.reduceLT, Int.reduceLE, Int.reduceLT, reduceCtorEq]
  exact ⟨fun h => absurd h hc, fun _ => ⟨fun _ => Kv.Fin.still ⟨rfl, rfl⟩, fun h => absurd h hc⟩⟩
end Go.Proofs.Ytpepbomifjbgnaa
