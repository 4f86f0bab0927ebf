/- The maps of all words, in the order in which they are met: the specification. -/
import Derived.Test.YtpepbomifjbgnaaCb
import Derived.Test.YtpepbomifjbgnaaTB
import Derived.Test.YtpepbomifjbgnaaWN
import Derived.Test.YtpepbomifjbgnaaFE
namespace Go.Proofs.Ytpepbomifjbgnaa
open Go.Kv
set_option maxRecDepth 100000
/- spec.l02Closed -/
/- live [0, 7, 8, 9, 10, 11] -/
def k114_b0 : KC := (.seq (.seq (.ops [⟨(some 27), none, .mv (.t 11)⟩, ⟨(some 28), none, .mv (.t 0)⟩, ⟨(some 29), none, .len false (.t 28)⟩, ⟨(some 30), none, .bin .lss (.t 27) (.t 29)⟩])
  (.cond (.t 30) .skip (.exit 2)))
  (.seq (.block 3 (.seq (.draw [⟨(some 33), none, .mv (.t 7)⟩, ⟨(some 34), none, .mv (.t 10)⟩, ⟨(some 35), none, .idxS 6 (.t 33) (.t 34)⟩, ⟨(some 36), none, .load true 6 (.t 35)⟩, ⟨(some 37), none, .mv (.t 0)⟩, ⟨(some 38), none, .mv (.t 11)⟩, ⟨(some 39), none, .idxS 6 (.t 37) (.t 38)⟩, ⟨(some 40), none, .load true 6 (.t 39)⟩, ⟨(some 41), none, .pcall (.c (.fn (.func 117) [] [])) [(.t 36), (.t 40)]⟩, ⟨(some 12), none, .alloc [.int .i64 0, .int .i64 0, .int .i64 0, .int .i64 0, .int .i64 0, .int .i64 0]⟩, ⟨none, none, .store 6 (.t 12) (.t 41)⟩])
  (.seq (.seq (.ops [⟨(some 42), none, .mv (.t 9)⟩, ⟨(some 43), none, .load true 6 (.t 12)⟩, ⟨(some 44), none, .call (.c (.fn (.func 116) [] [])) [(.t 42), (.t 43)]⟩, ⟨(some 45), none, .bin .geq (.t 44) (.c (.int .i64 0))⟩])
  (.cond (.t 45) (.exit 3) .skip))
  (.seq (.seq (.ops [⟨(some 46), none, .mv (.t 7)⟩, ⟨(some 47), none, .len false (.t 46)⟩, ⟨(some 48), none, .bin .eql (.t 47) (.c (.int .i64 300))⟩])
  (.cond (.t 48) (.seq (.ops [⟨(some 4), none, .mv (.c (.nils))⟩, ⟨(some 5), none, .mv (.c (.nils))⟩, ⟨(some 6), none, .mv (.c (.bool false))⟩])
  .ret) .skip))
  (.seq (.ops [⟨(some 49), none, .mv (.t 7)⟩, ⟨(some 50), none, .load true 6 (.t 12)⟩, ⟨(some 51), none, .bsl true 59 6 [(.t 50)]⟩, ⟨(some 52), none, .app (.t 49) (.t 51) 59 6⟩, ⟨(some 7), none, .mv (.t 52)⟩])
  (.seq (.ops [⟨(some 53), none, .mv (.t 8)⟩, ⟨(some 54), none, .mv (.t 8)⟩, ⟨(some 55), none, .mv (.t 10)⟩, ⟨(some 56), none, .idxS 1 (.t 54) (.t 55)⟩, ⟨(some 57), none, .load false 1 (.t 56)⟩, ⟨(some 58), none, .call (.c (.fn (.func 122) [] [])) [(.t 57)]⟩, ⟨(some 59), none, .mv (.t 11)⟩, ⟨(some 60), none, .bsl true 2 1 [(.t 59)]⟩, ⟨(some 61), none, .app (.t 58) (.t 60) 2 1⟩, ⟨(some 62), none, .bsl true 23 1 [(.t 61)]⟩, ⟨(some 63), none, .app (.t 53) (.t 62) 23 1⟩, ⟨(some 8), none, .mv (.t 63)⟩])
  (.ops [⟨(some 64), none, .mv (.t 9)⟩, ⟨(some 65), none, .load true 6 (.t 12)⟩, ⟨(some 66), none, .call (.c (.fn (.func 115) [] [])) [(.t 64), (.t 65)]⟩, ⟨(some 9), none, .mv (.t 66)⟩])))))))
  (.ops [⟨(some 31), none, .mv (.t 11)⟩, ⟨(some 32), none, .bin .add (.t 31) (.c (.int .i64 1))⟩, ⟨(some 11), none, .mv (.t 32)⟩])))
/- live [0, 7, 8, 9, 10] -/
def k114_b1 : KC := (.seq (.seq (.ops [⟨(some 21), none, .mv (.t 10)⟩, ⟨(some 22), none, .mv (.t 7)⟩, ⟨(some 23), none, .len false (.t 22)⟩, ⟨(some 24), none, .bin .lss (.t 21) (.t 23)⟩])
  (.cond (.t 24) .skip (.exit 0)))
  (.seq (.block 1 (.seq (.ops [⟨(some 11), none, .mv (.c (.int .i64 0))⟩])
  (.block 2 (.loop k114_b0))))
  (.ops [⟨(some 25), none, .mv (.t 10)⟩, ⟨(some 26), none, .bin .add (.t 25) (.c (.int .i64 1))⟩, ⟨(some 10), none, .mv (.t 26)⟩])))
def k114 : KC := (.seq (.ops [⟨(some 4), none, .mv (.c (.nils))⟩, ⟨(some 5), none, .mv (.c (.nils))⟩, ⟨(some 6), none, .mv (.c (.bool false))⟩])
  (.seq (.ops [⟨(some 13), none, .mv (.t 1)⟩, ⟨(some 14), none, .call (.c (.fn (.func 142) [] [])) [(.t 13)]⟩, ⟨(some 15), none, .bsl false 59 6 [(.t 14)]⟩, ⟨(some 16), none, .bsl false 2 1 []⟩, ⟨(some 17), none, .bsl false 23 1 [(.t 16)]⟩, ⟨(some 7), none, .mv (.t 15)⟩, ⟨(some 8), none, .mv (.t 17)⟩])
  (.seq (.ops [⟨(some 18), none, .mv (.t 1)⟩, ⟨(some 19), none, .call (.c (.fn (.func 142) [] [])) [(.t 18)]⟩, ⟨(some 20), none, .bsl false 59 6 [(.t 19)]⟩, ⟨(some 9), none, .mv (.t 20)⟩])
  (.seq (.seq (.ops [⟨(some 10), none, .mv (.c (.int .i64 0))⟩])
  (.block 0 (.loop k114_b1)))
  (.seq (.ops [⟨(some 67), none, .mv (.t 7)⟩, ⟨(some 68), none, .mv (.t 8)⟩, ⟨(some 4), none, .mv (.t 67)⟩, ⟨(some 5), none, .mv (.t 68)⟩, ⟨(some 6), none, .mv (.c (.bool true))⟩])
  .ret)))))
theorem e114 {args : List PV} {σ : Heap} {K : PV → Heap → Prop} (hl : args.length ≤ 69) (h : Wf σ → (∀ a ∈ args, PV.upto σ.length a) → vc (mkCfg Try.prog mixed [51, 60, 62] 69 σ.length) k114 (FinK σ.length [.t 4, .t 5, .t 6] K) (argEnv 0 args) σ) : ACall Try.prog 114 args σ K :=
  ACall_enter (C := mkCfg Try.prog mixed [51, 60, 62] 69 σ.length) (c := Try.f114.body.getD .skip) Try.func114 (by kernel_rfl) (by kernel_rfl) (by kernel_rfl) rfl hl (by kernel_rfl) (by kernel_rfl) h
end Go.Proofs.Ytpepbomifjbgnaa
namespace Go.Proofs.Ytpepbomifjbgnaa
open Go.Kv
set_option linter.unusedVariables false
set_option linter.unusedSimpArgs false
attribute [local irreducible] ACall PCall KL
/-- What one map gives, by the first k of the list; nothing, if there are too many. -/
def clA (fs : List (List Nat)) (m : List Nat) (Q : List (List Nat)) : Nat → Option (List (List Nat))
  | 0 => some Q
  | k + 1 => match clA fs m Q k with
    | none => none
    | some R => if mul m (fs.getD k []) ∈ R then some R else if R.length = 300 then none else some (R ++ [mul m (fs.getD k [])])
/-- What has been met behind i maps. -/
def clB (fs : List (List Nat)) (n : Nat) : Nat → Option (List (List Nat))
  | 0 => some [List.range n]
  | i + 1 => match clB fs n i with
    | none => none
    | some Q => match Q[i]? with
      | some m => clA fs m Q fs.length
      | none => some Q
theorem range_ok {n : Nat} (h1 : 1 ≤ n) (h5 : n ≤ 5) : Ok (List.range n) n := by
  refine ⟨?_, ?_, ?_, ?_⟩ <;> first | exact h1 | exact h5 | simp
theorem clA_pre {fs : List (List Nat)} {m : List Nat} {Q : List (List Nat)} : ∀ k R, clA fs m Q k = some R → ∃ r, R = Q ++ r
  | 0, R, h => by
    have : Q = R := by simpa [clA] using h
    exact ⟨[], by simp [this]⟩
  | k + 1, R, h => by
    unfold clA at h
    cases hc : clA fs m Q k with
    | none => rw [hc] at h; cases h
    | some R' =>
      obtain ⟨r, hr⟩ := clA_pre k R' hc
      rw [hc] at h
      simp only at h
      split at h
      · cases h; exact ⟨r, hr⟩
      · split at h
        · cases h
        · cases h; exact ⟨r ++ [mul m (fs.getD k [])], by rw [hr, List.append_assoc]⟩
theorem clA_none {fs : List (List Nat)} {m : List Nat} {Q : List (List Nat)} {k : Nat} (h : clA fs m Q k = none) : ∀ d, clA fs m Q (k + d) = none
  | 0 => h
  | d + 1 => by
    show clA fs m Q (k + d + 1) = none
    unfold clA
    rw [clA_none h d]
theorem WG.immN {σ : Heap} {A : Nat → Prop} {q ver k : Nat} {ws : List PV} {L : List (List Int)} (h : WG σ A q ver ws L) (hk : k = L.length) : Imm σ (.ref q ver 0 k) (.list (rows L)) := by
  subst hk
  refine .ref q ver 0 L.length _ 1 ws (rows L) h.out (by rw [h.len]; simp) (rows_length L) (fun i x d hx hd => ?_) (fun i x d j c c' hx hd hc hc' => ?_)
  all_goals
    rw [Nat.zero_add] at hx
    have hi : i < L.length := by have := (List.getElem?_eq_some_iff.1 hd).1; rwa [rows_length] at this
    obtain ⟨w, hw, hW⟩ := h.cell hi
    obtain ⟨y, hy, rfl⟩ := rows_get hd
    rw [List.getElem?_eq_getElem hi] at hy; cases hy
    rw [hw] at hx; cases hx
  · have := hW.cs
    refine ⟨by rw [this.1]; rfl, rfl⟩
  · have h1 := List.mem_of_getElem? hc
    have h2 := List.mem_of_getElem? hc'
    rw [hW.cs.1] at h1
    simp only [PV.cs, List.mem_singleton] at h1 h2
    subst h1; subst h2
    exact hW.imm
set_option maxHeartbeats 4000000 in
theorem p114 (fs : List (List Nat)) (n : Nat) (h1 : 1 ≤ n) (h5 : n ≤ 5) (hf : ∀ f ∈ fs, Ok f n) (hfl : fs.length ≤ 1000) {K : PV → Heap → Prop}
    (hK1 : ∀ i Q W, clB fs n i = some Q → i = Q.length → (∀ f ∈ Q, Ok f n) → Q.length ≤ 300 → K (.tup [.list (aggs (Q.map mp)), .list (rows W), .bool true]) [])
    (hK2 : ∀ i, i ≤ 301 → clB fs n i = none → K (.tup [.nils, .nils, .bool false]) []) : ACall Try.prog 114 [.list (aggs (fs.map mp)), .int .i64 n] [] K := by
  have h0k := range_ok h1 h5
  have h06 := h0k.mp_len
  refine e114 (by simp) fun _ _ => ?_
  simp only [k114, argEnv, take6, List.drop_zero, Int.cast_ofNat_Int, go_sem, ↓reduceIte, Nat.reduceEqDiff, Nat.reduceAdd, Nat.reduceMul, Nat.reduceLeDiff, Nat.reduceLT, Int.reduceLE, Int.reduceLT, reduceCtorEq]
  refine (p142 n h1 h5).go ?_
  try simp only [OpK_eq, HKv, h06, take6, List.drop_zero, Int.cast_ofNat_Int, go_sem, ↓reduceIte, Nat.reduceEqDiff, Nat.reduceAdd, Nat.reduceMul, Nat.reduceLeDiff, Nat.reduceLT, Int.reduceLE, Int.reduceLT, reduceCtorEq]
  refine (p142 n h1 h5).go ?_
  try simp only [OpK_eq, HKv, h06, take6, List.drop_zero, Int.cast_ofNat_Int, go_sem, ↓reduceIte, Nat.reduceEqDiff, Nat.reduceAdd, Nat.reduceMul, Nat.reduceLeDiff, Nat.reduceLT, Int.reduceLE, Int.reduceLT, reduceCtorEq]
  refine KL_freezeAt (id := 3) [0, 7, 8, 9, 10] rfl (env0 := [(0, .list (aggs (fs.map mp))), (7, .ref 0 0 0 1), (8, .ref 2 0 0 1), (9, .ref 3 0 0 1), (10, .int .i64 0)]) (env' := [(0, .list (aggs (fs.map mp))), (7, .ref 0 0 0 1), (8, .ref 2 0 0 1), (9, .list (aggs ([List.range n].map mp))), (10, .int .i64 0)]) (by simp [keep]) (by rfl) (fun t => ?_) ?_
  · simp only [look_cons, look_nil]
    repeat' split
    · exact .inl Imm.still
    · exact .inr ⟨rfl, 0, 0, 0, 1, by decide, rfl⟩
    · exact .inr ⟨rfl, 2, 0, 0, 1, by decide, rfl⟩
    · exact .inl (Imm.refa (l := [mp (List.range n)]) (solo_get rfl))
    · exact .inl Imm.still
    · exact .inl (.refl _ Plain.undef.up)
  refine KL_ind k114_b1.eq_1 (fun y : Nat × Nat × Nat × List PV × List (List Int) × List (List Nat) × List (List Nat) × Heap => [(0, .list (aggs (fs.map mp))), (7, .ref 0 y.2.1 0 y.2.2.2.2.2.2.1.length), (8, .ref 2 y.2.2.1 0 y.2.2.2.2.2.2.1.length), (9, .list (aggs (y.2.2.2.2.2.1.map mp))), (10, .int .i64 y.1)]) (fun y => y.2.2.2.2.2.2.2)
    (fun ⟨i, v0, v2, ws, W, S, Q, σ⟩ => i ≤ Q.length ∧ clB fs n i = some Q ∧ (∀ f ∈ Q, Ok f n) ∧ Q.length ≤ 300 ∧ SrM n S ∧ (∀ f, f ∈ S ↔ f ∈ Q) ∧ S.length ≤ Q.length ∧ σ[0]? = some (.arr v0 59 6 (aggs (Q.map mp))) ∧ WG σ (fun id => id = 0) 2 v2 ws W ∧ W.length = Q.length ∧ (∀ w ∈ W, w.length + 1 ≤ W.length)) (fun y => 301 - y.1) [0, 7, 8, 9, 10]
    (0, 0, 0, [.ref 1 0 0 0], [[]], [List.range n], [List.range n], _) (by simp [keep]) rfl ?_ fun ⟨i, v0, v2, ws, W, S, Q, σ⟩ ⟨j1, j2, j3, j4, j5, j6, j7, j8, j9, j10, j11⟩ ih => ?_
  · refine ⟨Nat.zero_le _, rfl, fun f hf' => ?_, by simp, ⟨fun f hf' => ?_, by simp⟩, fun f => Iff.rfl, Nat.le_refl _, rfl, ⟨rfl, rfl, fun j w l hw hl => ?_⟩, rfl, fun w hw => ?_⟩
    · simp only [List.mem_singleton] at hf'; rw [hf']; exact h0k
    · simp only [List.mem_singleton] at hf'; rw [hf']; exact h0k
    · have e1 := List.mem_of_getElem? hw
      have e2 := List.mem_of_getElem? hl
      simp only [List.mem_singleton] at e1 e2
      subst e1; subst e2
      exact .inr ⟨1, 0, rfl, rfl, by decide⟩
    · simp only [List.mem_singleton] at hw; subst hw; simp
  try simp only at j1 j2 j3 j4 j5 j6 j7 j8 j9 j10 j11
  try simp only [OpK_eq, HKv, j8, aggs_length, List.length_map, take6, List.drop_zero, Int.cast_ofNat_Int, go_sem, ↓reduceIte, Nat.reduceEqDiff, Nat.reduceAdd, Nat.reduceMul, Nat.reduceLeDiff, Nat.reduceLT, Int.reduceLE, Int.reduceLT, reduceCtorEq]
  refine ⟨fun g1 => ?_, fun g1 => ?_⟩
  · have hil : i < Q.length := by omega
    have hm? : Q[i]? = some Q[i] := List.getElem?_eq_getElem hil
    have hBs : clB fs n (i + 1) = clA fs Q[i] Q fs.length := by
      rw [clB, j2]
      simp only
      rw [hm?]
    have hmO := j3 _ (List.getElem_mem hil)
    generalize hm : Q[i] = m at *
    refine KL_ind k114_b0.eq_1 (fun y : Nat × Nat × Nat × List PV × List (List Int) × List (List Nat) × List (List Nat) × Heap => [(0, .list (aggs (fs.map mp))), (7, .ref 0 y.2.1 0 y.2.2.2.2.2.2.1.length), (8, .ref 2 y.2.2.1 0 y.2.2.2.2.2.2.1.length), (9, .list (aggs (y.2.2.2.2.2.1.map mp))), (10, .int .i64 i), (11, .int .i64 y.1)]) (fun y => y.2.2.2.2.2.2.2)
      (fun ⟨k, v0, v2, ws, W, S, R, τ⟩ => k ≤ fs.length ∧ clA fs m Q k = some R ∧ (∀ f ∈ R, Ok f n) ∧ R.length ≤ 300 ∧ SrM n S ∧ (∀ f, f ∈ S ↔ f ∈ R) ∧ S.length ≤ R.length ∧ τ[0]? = some (.arr v0 59 6 (aggs (R.map mp))) ∧ WG τ (fun id => id = 0) 2 v2 ws W ∧ W.length = R.length ∧ (∀ w ∈ W, w.length + 1 ≤ W.length)) (fun y => fs.length - y.1) [0, 7, 8, 9, 10, 11]
      (0, v0, v2, ws, W, S, Q, σ) (by simp [keep]) rfl ⟨Nat.zero_le _, rfl, j3, j4, j5, j6, j7, j8, j9, j10, j11⟩ fun ⟨k, u0, u2, ws2, W2, S2, R, τ⟩ ⟨l1, l2, l3, l4, l5, l6, l7, l8, l9, l10, l11⟩ ihk => ?_
    obtain ⟨r, hr⟩ := clA_pre k R l2
    have hiR : i < R.length := by rw [hr, List.length_append]; omega
    have hRi : (R.map mp).getD i [] = mp m := by
      rw [List.getD_eq_getElem?_getD, List.getElem?_map, hr, List.getElem?_append_left hil, hm?]; rfl
    have h6m := hmO.mp_len
    try simp only [OpK_eq, HKv, l8, aggs_length, List.length_map, take6, List.drop_zero, Int.cast_ofNat_Int, go_sem, ↓reduceIte, Nat.reduceEqDiff, Nat.reduceAdd, Nat.reduceMul, Nat.reduceLeDiff, Nat.reduceLT, Int.reduceLE, Int.reduceLT, reduceCtorEq]
    refine ⟨fun g2 => ?_, fun g2 => ?_⟩
    · have hkl : k < fs.length := by omega
      have hfk := hf _ (List.getElem_mem hkl)
      have h6k := hfk.mp_len
      have hgk : (fs.map mp).getD k [] = mp fs[k] := by simp [List.getD_eq_getElem?_getD, hkl]
      have hgf : fs.getD k [] = fs[k] := by simp [List.getD_eq_getElem?_getD, hkl]
      try simp only [OpK_eq, HKv, l8, aggs_length, List.length_map, hRi, h6m, hgk, h6k, take6, List.drop_zero, Int.cast_ofNat_Int, go_sem, ↓reduceIte, Nat.reduceEqDiff, Nat.reduceAdd, Nat.reduceMul, Nat.reduceLeDiff, Nat.reduceLT, Int.reduceLE, Int.reduceLT, reduceCtorEq]
      refine ⟨⟨by omega, by omega⟩, by omega, fun _ => ⟨by omega, fun _ => ?_⟩⟩
      refine (p117 m fs[k] n hmO hfk).pgo ?_
      have hgO := hmO.mul hfk
      have hAs : clA fs m Q (k + 1) = if mul m fs[k] ∈ R then some R else if R.length = 300 then none else some (R ++ [mul m fs[k]]) := by
        rw [clA, l2]
        simp only
        rw [hgf]
      generalize hg' : mul m fs[k] = g at *
      have h6g := hgO.mp_len
      have hgb : ∀ (s : Heap) (a : AObj), (s ++ [a])[s.length]? = some a := fun s a => by simp
      have hsb : ∀ (s : Heap) (a b : AObj), (s ++ [a]).set s.length b = s ++ [b] := fun s a b => by simp [List.set_append_right]
      have hilg : (ints (mp g)).length = 6 := by rw [ints_length, h6g]
      try simp only [OpK_eq, HKv, hgb, hsb, hilg, h6g, take6, List.drop_zero, Int.cast_ofNat_Int, go_sem, ↓reduceIte, Nat.reduceEqDiff, Nat.reduceAdd, Nat.reduceMul, Nat.reduceLeDiff, Nat.reduceLT, Int.reduceLE, Int.reduceLT, reduceCtorEq]
      have hFd := p116 n S2 l5 (by omega) g hgO
      have hlom := lo_mem l5 hgO
      by_cases hin : g ∈ R
      · rw [if_pos hin] at hAs
        rw [if_pos (hlom.2 ((l6 g).2 hin))] at hFd
        refine hFd.go ?_
        try simp only [OpK_eq, HKv, take6, List.drop_zero, Int.cast_ofNat_Int, go_sem, ↓reduceIte, Nat.reduceEqDiff, Nat.reduceAdd, Nat.reduceMul, Nat.reduceLeDiff, Nat.reduceLT, Int.reduceLE, Int.reduceLT, reduceCtorEq]
        refine ⟨by omega, ihk (k + 1, u0, u2, ws2, W2, S2, R, _) ⟨by omega, hAs, l3, l4, l5, l6, l7, (List.getElem?_append_left (List.getElem?_eq_some_iff.1 l8).1).trans l8, l9.keep (fun id hid _ => List.getElem?_append_left hid) (by decide), l10, l11⟩ (by show fs.length - (k + 1) < fs.length - k; omega) _ _ (by simp [keep]) rfl⟩
      · rw [if_neg hin] at hAs
        rw [if_neg (fun h => hin ((l6 g).1 (hlom.1 h)))] at hFd
        refine hFd.go ?_
        have h0' : ∀ X, (τ ++ X)[0]? = some (.arr u0 59 6 (aggs (R.map mp))) := fun X => (List.getElem?_append_left (List.getElem?_eq_some_iff.1 l8).1).trans l8
        have hok := ok6' h6g
        have t6 : List.take 6 (mp g) = mp g := take6 h6g
        have tR : List.take R.length (R.map mp) = R.map mp := List.take_of_length_le (by rw [List.length_map]; exact Nat.le_refl _)
        have tRg : R.map mp ++ [mp g] = (R ++ [g]).map mp := by simp
        try simp only [OpK_eq, HKv, h0', aggs_length, List.length_map, t6, tR, tRg, take6, List.drop_zero, Int.cast_ofNat_Int, go_sem, ↓reduceIte, Nat.reduceEqDiff, Nat.reduceAdd, Nat.reduceMul, Nat.reduceLeDiff, Nat.reduceLT, Int.reduceLE, Int.reduceLT, reduceCtorEq]
        refine ⟨fun h300 => Kv.Fin.still (hK2 (i + 1) (by omega) ?_), fun h300 => ⟨by omega, h6g, h6g, ⟨by omega, by omega⟩, ?_⟩⟩
        · rw [hBs]
          have hN : clA fs m Q (k + 1) = none := by rw [hAs, if_pos (by omega)]
          have := clA_none hN (fs.length - (k + 1))
          rwa [show k + 1 + (fs.length - (k + 1)) = fs.length by omega] at this
        · rw [if_neg (by omega)] at hAs
          have hτ0 := (List.getElem?_eq_some_iff.1 l8).1
          have r0 : ((τ ++ [AObj.box (ints (mp g))]).set 0 (.arr (u0 + 1) 59 6 (aggs ((R ++ [g]).map mp))))[0]? = some (.arr (u0 + 1) 59 6 (aggs ((R ++ [g]).map mp))) := List.getElem?_set_self (by simp)
          have rb : ((τ ++ [AObj.box (ints (mp g))]).set 0 (.arr (u0 + 1) 59 6 (aggs ((R ++ [g]).map mp))))[τ.length]? = some (.box (ints (mp g))) := by
            rw [List.getElem?_set_ne (by omega)]; simp
          have hW : WG ((τ ++ [AObj.box (ints (mp g))]).set 0 (.arr (u0 + 1) 59 6 (aggs ((R ++ [g]).map mp)))) (fun id => id = 0) 2 u2 ws2 W2 := l9.keep (fun id hid hA => by
            rw [List.getElem?_set_ne (fun e => hA e.symm), List.getElem?_append_left hid]) (by decide)
          generalize (τ ++ [AObj.box (ints (mp g))]).set 0 (.arr (u0 + 1) 59 6 (aggs ((R ++ [g]).map mp))) = ρ at *
          obtain ⟨w, hw, hWd⟩ := hW.cell (i := i) (by omega)
          have hWo := hW.out
          have hwl := hW.len
          have hwcs := hWd.cs
          try simp only [OpK_eq, HKv, hWo, take6, List.drop_zero, Int.cast_ofNat_Int, go_sem, ↓reduceIte, Nat.reduceEqDiff, Nat.reduceAdd, Nat.reduceMul, Nat.reduceLeDiff, Nat.reduceLT, Int.reduceLE, Int.reduceLT, reduceCtorEq]
          refine ⟨⟨by omega, by omega⟩, by omega, fun q hq => ?_⟩
          rw [hw] at hq; cases hq
          rw [hwcs.1]
          refine ⟨by simp, fun q hq => ?_⟩
          simp only [List.getElem?_cons_zero, Option.some.injEq] at hq; subst hq
          have hWi : W2[i].length + 1 ≤ W2.length := l11 _ (List.getElem_mem _)
          generalize W2[i]'(by omega) = wi at hWd hWi
          try simp only [OpK_eq, HKv, take6, List.drop_zero, Int.cast_ofNat_Int, go_sem, ↓reduceIte, Nat.reduceEqDiff, Nat.reduceAdd, Nat.reduceMul, Nat.reduceLeDiff, Nat.reduceLT, Int.reduceLE, Int.reduceLT, reduceCtorEq]
          refine ACall.lend (p122 wi (by omega)) (.cons hWd.imm (.nil _)) fun v s hv => ?_
          obtain ⟨rfl, rfl⟩ := hv
          refine ⟨⟨free_ref _ _ _ _, Free.ints _ _ _ _⟩, ?_⟩
          try simp only [OpK_eq, HKv, ren_ref, ren_arr, ren_ints, Nat.zero_add, hgb, hsb, take6, List.drop_zero, Int.cast_ofNat_Int, go_sem, ↓reduceIte, Nat.reduceEqDiff, Nat.reduceAdd, Nat.reduceMul, Nat.reduceLeDiff, Nat.reduceLT, Int.reduceLE, Int.reduceLT, reduceCtorEq]
          have hW3 : WG (ρ ++ [AObj.arr 2 2 1 (ints (wi ++ [(k : Int)]))]) (fun id => id = 0) 2 u2 ws2 W2 := hW.keep (fun id hid _ => List.getElem?_append_left hid) (by decide)
          have hρ2 := (List.getElem?_eq_some_iff.1 hWo).1
          have hwd : Wd (ρ ++ [AObj.arr 2 2 1 (ints (wi ++ [(k : Int)]))]) (fun id => id = 0 ∨ id = 2) (.ref ρ.length 2 0 (wi.length + 1)) (wi ++ [(k : Int)]) := by
            have e : wi.length + 1 = (wi ++ [(k : Int)]).length := by simp
            rw [e]
            exact .inr ⟨_, 2, rfl, by simp, fun h => by rcases h with h | h <;> omega⟩
          have hpush : ∀ K' : PV → Heap → Prop, (WG ((ρ ++ [AObj.arr 2 2 1 (ints (wi ++ [(k : Int)]))]).set 2 (.arr (u2 + 1) 23 1 (ws2 ++ [.ref ρ.length 2 0 (wi.length + 1)]))) (fun id => id = 0) 2 (u2 + 1) (ws2 ++ [.ref ρ.length 2 0 (wi.length + 1)]) (W2 ++ [wi ++ [(k : Int)]]) → K' (.ref 2 (u2 + 1) 0 (R.length + 1)) ((ρ ++ [AObj.arr 2 2 1 (ints (wi ++ [(k : Int)]))]).set 2 (.arr (u2 + 1) 23 1 (ws2 ++ [.ref ρ.length 2 0 (wi.length + 1)])))) → aApp 23 1 (.ref 2 u2 0 R.length) (.list [.ref ρ.length 2 0 (wi.length + 1)]) (ρ ++ [AObj.arr 2 2 1 (ints (wi ++ [(k : Int)]))]) K' := fun K' hk => by
            have := hW3.push hwd (by omega) (K := K') (by rw [l10]; exact hk)
            rwa [l10] at this
          refine ⟨⟨by omega, by omega⟩, ?_⟩
          rw [← aApp_ref]
          refine hpush _ fun hWn => ?_
          have n0 : ((ρ ++ [AObj.arr 2 2 1 (ints (wi ++ [(k : Int)]))]).set 2 (.arr (u2 + 1) 23 1 (ws2 ++ [.ref ρ.length 2 0 (wi.length + 1)])))[0]? = some (.arr (u0 + 1) 59 6 (aggs ((R ++ [g]).map mp))) := by
            rw [List.getElem?_set_ne (by decide), List.getElem?_append_left (by omega)]; exact r0
          have hτ2 := (List.getElem?_eq_some_iff.1 l9.out).1
          have nb : ((ρ ++ [AObj.arr 2 2 1 (ints (wi ++ [(k : Int)]))]).set 2 (.arr (u2 + 1) 23 1 (ws2 ++ [.ref ρ.length 2 0 (wi.length + 1)])))[τ.length]? = some (.box (ints (mp g))) := by
            have hb := (List.getElem?_eq_some_iff.1 rb).1
            rw [List.getElem?_set_ne (by omega), List.getElem?_append_left hb]; exact rb
          generalize (ρ ++ [AObj.arr 2 2 1 (ints (wi ++ [(k : Int)]))]).set 2 (.arr (u2 + 1) 23 1 (ws2 ++ [.ref ρ.length 2 0 (wi.length + 1)])) = ρ2 at *
          try simp only [OpK_eq, HKv, nb, hilg, h6g, take6, List.drop_zero, Int.cast_ofNat_Int, go_sem, ↓reduceIte, Nat.reduceEqDiff, Nat.reduceAdd, Nat.reduceMul, Nat.reduceLeDiff, Nat.reduceLT, Int.reduceLE, Int.reduceLT, reduceCtorEq]
          refine (p115 n S2 l5 (by omega) g hgO).go ?_
          have hpm := fun x => putM_mem l5 hgO (x := x)
          have hps := putM_srm l5 hgO
          have hpl := putM_len (n := n) (S := S2) g
          try simp only [OpK_eq, HKv, take6, List.drop_zero, Int.cast_ofNat_Int, go_sem, ↓reduceIte, Nat.reduceEqDiff, Nat.reduceAdd, Nat.reduceMul, Nat.reduceLeDiff, Nat.reduceLT, Int.reduceLE, Int.reduceLT, reduceCtorEq]
          refine ⟨by omega, ihk (k + 1, u0 + 1, u2 + 1, _, W2 ++ [wi ++ [(k : Int)]], putM n S2 g, R ++ [g], ρ2) ⟨by omega, hAs, fun f hf' => ?_, by simp; omega, hps, fun f => ?_, by simp; omega, n0, hWn, by simp [l10], fun x hx => ?_⟩ (by show fs.length - (k + 1) < fs.length - k; omega) _ _ (by simp [keep]) rfl⟩
          · rcases List.mem_append.1 hf' with hf' | hf'
            · exact l3 f hf'
            · simp only [List.mem_singleton] at hf'; rw [hf']; exact hgO
          · rw [hpm, List.mem_append, List.mem_singleton, l6]
            exact ⟨fun h => h.elim .inr .inl, fun h => h.elim .inr .inl⟩
          · rw [List.length_append, List.length_singleton]
            rcases List.mem_append.1 hx with hx | hx
            · have := l11 x hx; omega
            · simp only [List.mem_singleton] at hx
              rw [hx, List.length_append, List.length_singleton]; omega
    · have hke : k = fs.length := by omega
      subst hke
      try simp only [take6, List.drop_zero, Int.cast_ofNat_Int, go_sem, ↓reduceIte, Nat.reduceEqDiff, Nat.reduceAdd, Nat.reduceMul, Nat.reduceLeDiff, Nat.reduceLT, Int.reduceLE, Int.reduceLT, reduceCtorEq]
      exact ⟨by omega, ih (i + 1, u0, u2, ws2, W2, S2, R, τ) ⟨by omega, by rw [hBs]; exact l2, l3, l4, l5, l6, l7, l8, l9, l10, l11⟩ (by show 301 - (i + 1) < 301 - i; omega) _ _ (by simp [keep]) rfl⟩
  · have hiQ : i = Q.length := by omega
    have hl1 : Q.length = (Q.map mp).length := (List.length_map _).symm
    refine Kv.Fin.freeze (Imm.tupL (.cons (Imm.refa' j8 hl1) (.cons (WG.immN j9 j10.symm) (.cons Imm.still (.nil _))))) (hK1 i Q W j2 hiQ j3 j4)
end Go.Proofs.Ytpepbomifjbgnaa
