/- Several texts of this session as one, less what the claim does not need. -/
import Derived.Test.YthbbjbfbeaiphaaGreatCb
import Derived.Test.YthbbjbfbeaiphaaGreatZ11
import Derived.Test.YthbbjbfbeaiphaaGreatZ10
import Derived.Test.YthbbjbfbeaiphaaGreatZ7
import Derived.Test.YthbbjbfbeaiphaaGreatZ8
import Derived.Test.YthbbjbfbeaiphaaGreatZ9
section
/- The maps of all words, in the order in which they are met: the specification. -/
namespace Go.Proofs.YthbbjbfbeaiphaaGreat
open Go.Kv
set_option maxRecDepth 100000
def k214_b0 : KC := (.seq (.seq (.ops [mV 27 11, mV 28 0, oP 29 (.len false (.t 28)), oP 30 (.bin .lss (.t 27) (.t 29))])
  (.cond (.t 30) .skip (.exit 2)))
  (.seq (.block 3 (.seq (.draw [mV 33 7, mV 34 10, oP 35 (.idxS 6 (.t 33) (.t 34)), oP 36 (.load true 6 (.t 35)), mV 37 0, mV 38 11, oP 39 (.idxS 6 (.t 37) (.t 38)), oP 40 (.load true 6 (.t 39)), oP 41 (.pcall (fC 217) [(.t 36), (.t 40)]), oP 12 (.alloc [.int .i64 0, .int .i64 0, .int .i64 0, .int .i64 0, .int .i64 0, .int .i64 0]), ⟨none, none, .store 6 (.t 12) (.t 41)⟩])
  (.seq (.seq (.ops [mV 42 9, oP 43 (.load true 6 (.t 12)), oP 44 (.call (fC 216) [(.t 42), (.t 43)]), oP 45 (.bin .geq (.t 44) (iC 0))])
  (.cond (.t 45) (.exit 3) .skip))
  (.seq (.seq (.ops [mV 46 7, oP 47 (.len false (.t 46)), oP 48 (.bin .eql (.t 47) (iC 300))])
  (.cond (.t 48) (.seq (.ops [oP 4 (.mv (.c (.nils))), oP 5 (.mv (.c (.nils))), oP 6 (.mv (.c (.bool false)))])
  .ret) .skip))
  (.seq (.ops [mV 49 7, oP 50 (.load true 6 (.t 12)), oP 51 (.bsl true 60 6 [(.t 50)]), oP 52 (.app (.t 49) (.t 51) 60 6), mV 7 52])
  (.seq (.ops [mV 53 8, mV 54 8, mV 55 10, oP 56 (.idxS 1 (.t 54) (.t 55)), oP 57 (.load false 1 (.t 56)), oP 58 (.call (fC 105) [(.t 57)]), mV 59 11, oP 60 (.bsl true 2 1 [(.t 59)]), oP 61 (.app (.t 58) (.t 60) 2 1), oP 62 (.bsl true 27 1 [(.t 61)]), oP 63 (.app (.t 53) (.t 62) 27 1), mV 8 63])
  (.ops [mV 64 9, oP 65 (.load true 6 (.t 12)), oP 66 (.call (fC 215) [(.t 64), (.t 65)]), mV 9 66])))))))
  (.ops [mV 31 11, oP 32 (.bin .add (.t 31) (iC 1)), mV 11 32])))
def k214_b1 : KC := (.seq (.seq (.ops [mV 21 10, mV 22 7, oP 23 (.len false (.t 22)), oP 24 (.bin .lss (.t 21) (.t 23))])
  (.cond (.t 24) .skip (.exit 0)))
  (.seq (.block 1 (.seq (.ops [oP 11 (.mv (iC 0))])
  (.block 2 (.loop k214_b0))))
  (.ops [mV 25 10, oP 26 (.bin .add (.t 25) (iC 1)), mV 10 26])))
def k214 : KC := (.seq (.ops [oP 4 (.mv (.c (.nils))), oP 5 (.mv (.c (.nils))), oP 6 (.mv (.c (.bool false)))])
  (.seq (.ops [mV 13 1, oP 14 (.call (fC 75) [(.t 13)]), oP 15 (.bsl false 60 6 [(.t 14)]), oP 16 (.bsl false 2 1 []), oP 17 (.bsl false 27 1 [(.t 16)]), mV 7 15, mV 8 17])
  (.seq (.ops [mV 18 1, oP 19 (.call (fC 75) [(.t 18)]), oP 20 (.bsl false 60 6 [(.t 19)]), mV 9 20])
  (.seq (.seq (.ops [oP 10 (.mv (iC 0))])
  (.block 0 (.loop k214_b1)))
  (.seq (.ops [mV 67 7, mV 68 8, mV 4 67, mV 5 68, oP 6 (.mv (.c (.bool true)))])
  .ret)))))
theorem e214 : Ent 214 69 [51, 60, 62] [.t 4, .t 5, .t 6] k214 := ent Tryz.func214 (by kernel_rfl) (by kernel_rfl) (by kernel_rfl) (fun _ => by kernel_rfl) (by kernel_rfl)
end Go.Proofs.YthbbjbfbeaiphaaGreat
namespace Go.Proofs.YthbbjbfbeaiphaaGreat
open Go.Kv
set_option linter.unusedVariables false
set_option linter.unusedSimpArgs false
attribute [local irreducible] ACall PCall KL
/-- What one map gives, by the first k of the list; nothing, if there are too many. -/
def clA (fs : List (List Nat)) (m : List Nat) (Q : List (List Nat)) : Nat → Option (List (List Nat))
  | 0 => some Q
  | k + 1 => match clA fs m Q k with
    | none => none
    | some R => if mul m (fs.getD k []) ∈ R then some R else if R.length = 300 then none else some (R ++ [mul m (fs.getD k [])])
/-- What has been met behind i maps. -/
def clB (fs : List (List Nat)) (n : Nat) : Nat → Option (List (List Nat))
  | 0 => some [List.range n]
  | i + 1 => match clB fs n i with
    | none => none
    | some Q => match Q[i]? with
      | some m => clA fs m Q fs.length
      | none => some Q
theorem range_ok {n : Nat} (h1 : 1 ≤ n) (h5 : n ≤ 5) : Ok (List.range n) n := by
  refine ⟨?_, ?_, ?_, ?_⟩ <;> first | exact h1 | exact h5 | simp
theorem clA_pre {fs : List (List Nat)} {m : List Nat} {Q : List (List Nat)} : ∀ k R, clA fs m Q k = some R → ∃ r, R = Q ++ r
  | 0, R, h => by
    have : Q = R := by simpa [clA] using h
    exact ⟨[], by simp [this]⟩
  | k + 1, R, h => by
    unfold clA at h
    cases hc : clA fs m Q k with
    | none => rw [hc] at h; cases h
    | some R' =>
      obtain ⟨r, hr⟩ := clA_pre k R' hc
      rw [hc] at h
      simp only at h
      split at h
      · cases h; exact ⟨r, hr⟩
      · split at h
        · cases h
        · cases h; exact ⟨r ++ [mul m (fs.getD k [])], by rw [hr, List.append_assoc]⟩
theorem clA_none {fs : List (List Nat)} {m : List Nat} {Q : List (List Nat)} {k : Nat} (h : clA fs m Q k = none) : ∀ d, clA fs m Q (k + d) = none
  | 0 => h
  | d + 1 => by
    show clA fs m Q (k + d + 1) = none
    unfold clA
    rw [clA_none h d]
theorem WG.immN {σ : Heap} {A : Nat → Prop} {q ver k : Nat} {ws : List PV} {L : List (List Int)} (h : WG σ A q ver ws L) (hk : k = L.length) : Imm σ (.ref q ver 0 k) (.list (rows L)) := by
  subst hk
  refine .ref q ver 0 L.length _ 1 ws (rows L) h.out (by rw [h.len]; simp) (rows_length L) (fun i x d hx hd => ?_) (fun i x d j c c' hx hd hc hc' => ?_)
  all_goals
    rw [Nat.zero_add] at hx
    have hi : i < L.length := by have := (List.getElem?_eq_some_iff.1 hd).1; rwa [rows_length] at this
    obtain ⟨w, hw, hW⟩ := h.cell hi
    obtain ⟨y, hy, rfl⟩ := rows_get hd
    rw [List.getElem?_eq_getElem hi] at hy; cases hy
    rw [hw] at hx; cases hx
  · have := hW.cs
    refine ⟨by rw [this.1]; rfl, rfl⟩
  · have h1 := List.mem_of_getElem? hc
    have h2 := List.mem_of_getElem? hc'
    rw [hW.cs.1] at h1
    simp only [PV.cs, List.mem_singleton] at h1 h2
    subst h1; subst h2
    exact hW.imm
set_option maxHeartbeats 4000000 in
theorem p214 (fs : List (List Nat)) (n : Nat) (h1 : 1 ≤ n) (h5 : n ≤ 5) (hf : ∀ f ∈ fs, Ok f n) (hfl : fs.length ≤ 1000) {K : PV → Heap → Prop}
    (hK1 : ∀ i Q W, clB fs n i = some Q → i = Q.length → (∀ f ∈ Q, Ok f n) → Q.length ≤ 300 → K (.tup [.list (aggs (Q.map mp)), .list (rows W), .bool true]) [])
    (hK2 : ∀ i, i ≤ 301 → clB fs n i = none → K (.tup [.nils, .nils, .bool false]) []) : ACall Tryz.prog 214 [.list (aggs (fs.map mp)), .int .i64 n] [] K := by
  have h0k := range_ok h1 h5
  have h06 := h0k.mp_len
  refine e214 (by simp) fun _ _ => ?_
  simp only [k214, argEnv, take6, List.drop_zero, Int.cast_ofNat_Int, go_sem, ↓reduceIte, Nat.reduceEqDiff, Nat.reduceAdd, Nat.reduceMul, Nat.reduceLeDiff, Nat.reduceLT, Int.reduceLE, Int.reduceLT, reduceCtorEq]
  refine (p75 n h1 h5).go ?_
  try simp only [OpK_eq, HKv, h06, take6, List.drop_zero, Int.cast_ofNat_Int, go_sem, ↓reduceIte, Nat.reduceEqDiff, Nat.reduceAdd, Nat.reduceMul, Nat.reduceLeDiff, Nat.reduceLT, Int.reduceLE, Int.reduceLT, reduceCtorEq]
  refine (p75 n h1 h5).go ?_
  try simp only [OpK_eq, HKv, h06, take6, List.drop_zero, Int.cast_ofNat_Int, go_sem, ↓reduceIte, Nat.reduceEqDiff, Nat.reduceAdd, Nat.reduceMul, Nat.reduceLeDiff, Nat.reduceLT, Int.reduceLE, Int.reduceLT, reduceCtorEq]
  refine KL_freezeAt (id := 3) [0, 7, 8, 9, 10] rfl (env0 := [(0, .list (aggs (fs.map mp))), (7, .ref 0 0 0 1), (8, .ref 2 0 0 1), (9, .ref 3 0 0 1), (10, .int .i64 0)]) (env' := [(0, .list (aggs (fs.map mp))), (7, .ref 0 0 0 1), (8, .ref 2 0 0 1), (9, .list (aggs ([List.range n].map mp))), (10, .int .i64 0)]) (by simp [keep]) (by rfl) (fun t => ?_) ?_
  · simp only [look_cons, look_nil]
    repeat' split
    · exact .inl Imm.still
    · exact .inr ⟨rfl, 0, 0, 0, 1, by decide, rfl⟩
    · exact .inr ⟨rfl, 2, 0, 0, 1, by decide, rfl⟩
    · exact .inl (Imm.refa (l := [mp (List.range n)]) (solo_get rfl))
    · exact .inl Imm.still
    · exact .inl (.refl _ Plain.undef.up)
  refine KL_ind k214_b1.eq_1 (fun y : Nat × Nat × Nat × List PV × List (List Int) × List (List Nat) × List (List Nat) × Heap => [(0, .list (aggs (fs.map mp))), (7, .ref 0 y.2.1 0 y.2.2.2.2.2.2.1.length), (8, .ref 2 y.2.2.1 0 y.2.2.2.2.2.2.1.length), (9, .list (aggs (y.2.2.2.2.2.1.map mp))), (10, .int .i64 y.1)]) (fun y => y.2.2.2.2.2.2.2)
    (fun ⟨i, v0, v2, ws, W, S, Q, σ⟩ => i ≤ Q.length ∧ clB fs n i = some Q ∧ (∀ f ∈ Q, Ok f n) ∧ Q.length ≤ 300 ∧ SrM n S ∧ (∀ f, f ∈ S ↔ f ∈ Q) ∧ S.length ≤ Q.length ∧ σ[0]? = some (.arr v0 60 6 (aggs (Q.map mp))) ∧ WG σ (fun id => id = 0) 2 v2 ws W ∧ W.length = Q.length ∧ (∀ w ∈ W, w.length + 1 ≤ W.length)) (fun y => 301 - y.1) [0, 7, 8, 9, 10]
    (0, 0, 0, [.ref 1 0 0 0], [[]], [List.range n], [List.range n], _) (by simp [keep]) rfl ?_ fun ⟨i, v0, v2, ws, W, S, Q, σ⟩ ⟨j1, j2, j3, j4, j5, j6, j7, j8, j9, j10, j11⟩ ih => ?_
  · refine ⟨Nat.zero_le _, rfl, fun f hf' => ?_, by simp, ⟨fun f hf' => ?_, by simp⟩, fun f => Iff.rfl, Nat.le_refl _, rfl, ⟨rfl, rfl, fun j w l hw hl => ?_⟩, rfl, fun w hw => ?_⟩
    · simp only [List.mem_singleton] at hf'; rw [hf']; exact h0k
    · simp only [List.mem_singleton] at hf'; rw [hf']; exact h0k
    · have e1 := List.mem_of_getElem? hw
      have e2 := List.mem_of_getElem? hl
      simp only [List.mem_singleton] at e1 e2
      subst e1; subst e2
      exact .inr ⟨1, 0, rfl, rfl, by decide⟩
    · simp only [List.mem_singleton] at hw; subst hw; simp
  try simp only at j1 j2 j3 j4 j5 j6 j7 j8 j9 j10 j11
  try simp only [OpK_eq, HKv, j8, aggs_length, List.length_map, take6, List.drop_zero, Int.cast_ofNat_Int, go_sem, ↓reduceIte, Nat.reduceEqDiff, Nat.reduceAdd, Nat.reduceMul, Nat.reduceLeDiff, Nat.reduceLT, Int.reduceLE, Int.reduceLT, reduceCtorEq]
  refine ⟨fun g1 => ?_, fun g1 => ?_⟩
  · have hil : i < Q.length := by omega
    have hm? : Q[i]? = some Q[i] := List.getElem?_eq_getElem hil
    have hBs : clB fs n (i + 1) = clA fs Q[i] Q fs.length := by
      rw [clB, j2]
      simp only
      rw [hm?]
    have hmO := j3 _ (List.getElem_mem hil)
    generalize hm : Q[i] = m at *
    refine KL_ind k214_b0.eq_1 (fun y : Nat × Nat × Nat × List PV × List (List Int) × List (List Nat) × List (List Nat) × Heap => [(0, .list (aggs (fs.map mp))), (7, .ref 0 y.2.1 0 y.2.2.2.2.2.2.1.length), (8, .ref 2 y.2.2.1 0 y.2.2.2.2.2.2.1.length), (9, .list (aggs (y.2.2.2.2.2.1.map mp))), (10, .int .i64 i), (11, .int .i64 y.1)]) (fun y => y.2.2.2.2.2.2.2)
      (fun ⟨k, v0, v2, ws, W, S, R, τ⟩ => k ≤ fs.length ∧ clA fs m Q k = some R ∧ (∀ f ∈ R, Ok f n) ∧ R.length ≤ 300 ∧ SrM n S ∧ (∀ f, f ∈ S ↔ f ∈ R) ∧ S.length ≤ R.length ∧ τ[0]? = some (.arr v0 60 6 (aggs (R.map mp))) ∧ WG τ (fun id => id = 0) 2 v2 ws W ∧ W.length = R.length ∧ (∀ w ∈ W, w.length + 1 ≤ W.length)) (fun y => fs.length - y.1) [0, 7, 8, 9, 10, 11]
      (0, v0, v2, ws, W, S, Q, σ) (by simp [keep]) rfl ⟨Nat.zero_le _, rfl, j3, j4, j5, j6, j7, j8, j9, j10, j11⟩ fun ⟨k, u0, u2, ws2, W2, S2, R, τ⟩ ⟨l1, l2, l3, l4, l5, l6, l7, l8, l9, l10, l11⟩ ihk => ?_
    obtain ⟨r, hr⟩ := clA_pre k R l2
    have hiR : i < R.length := by rw [hr, List.length_append]; omega
    have hRi : (R.map mp).getD i [] = mp m := by
      rw [List.getD_eq_getElem?_getD, List.getElem?_map, hr, List.getElem?_append_left hil, hm?]; rfl
    have h6m := hmO.mp_len
    try simp only [OpK_eq, HKv, l8, aggs_length, List.length_map, take6, List.drop_zero, Int.cast_ofNat_Int, go_sem, ↓reduceIte, Nat.reduceEqDiff, Nat.reduceAdd, Nat.reduceMul, Nat.reduceLeDiff, Nat.reduceLT, Int.reduceLE, Int.reduceLT, reduceCtorEq]
    refine ⟨fun g2 => ?_, fun g2 => ?_⟩
    · have hkl : k < fs.length := by omega
      have hfk := hf _ (List.getElem_mem hkl)
      have h6k := hfk.mp_len
      have hgk : (fs.map mp).getD k [] = mp fs[k] := by simp [List.getD_eq_getElem?_getD, hkl]
      have hgf : fs.getD k [] = fs[k] := by simp [List.getD_eq_getElem?_getD, hkl]
      try simp only [OpK_eq, HKv, l8, aggs_length, List.length_map, hRi, h6m, hgk, h6k, take6, List.drop_zero, Int.cast_ofNat_Int, go_sem, ↓reduceIte, Nat.reduceEqDiff, Nat.reduceAdd, Nat.reduceMul, Nat.reduceLeDiff, Nat.reduceLT, Int.reduceLE, Int.reduceLT, reduceCtorEq]
      refine ⟨⟨by omega, by omega⟩, by omega, fun _ => ⟨by omega, fun _ => ?_⟩⟩
      refine (p217 m fs[k] n hmO hfk).pgo ?_
      have hgO := hmO.mul hfk
      have hAs : clA fs m Q (k + 1) = if mul m fs[k] ∈ R then some R else if R.length = 300 then none else some (R ++ [mul m fs[k]]) := by
        rw [clA, l2]
        simp only
        rw [hgf]
      generalize hg' : mul m fs[k] = g at *
      have h6g := hgO.mp_len
      have hgb : ∀ (s : Heap) (a : AObj), (s ++ [a])[s.length]? = some a := fun s a => by simp
      have hsb : ∀ (s : Heap) (a b : AObj), (s ++ [a]).set s.length b = s ++ [b] := fun s a b => by simp [List.set_append_right]
      have hilg : (ints (mp g)).length = 6 := by rw [ints_length, h6g]
      try simp only [OpK_eq, HKv, hgb, hsb, hilg, h6g, take6, List.drop_zero, Int.cast_ofNat_Int, go_sem, ↓reduceIte, Nat.reduceEqDiff, Nat.reduceAdd, Nat.reduceMul, Nat.reduceLeDiff, Nat.reduceLT, Int.reduceLE, Int.reduceLT, reduceCtorEq]
      have hFd := p216 n S2 l5 (by omega) g hgO
      have hlom := lo_mem l5 hgO
      by_cases hin : g ∈ R
      · rw [if_pos hin] at hAs
        rw [if_pos (hlom.2 ((l6 g).2 hin))] at hFd
        refine hFd.go ?_
        try simp only [OpK_eq, HKv, take6, List.drop_zero, Int.cast_ofNat_Int, go_sem, ↓reduceIte, Nat.reduceEqDiff, Nat.reduceAdd, Nat.reduceMul, Nat.reduceLeDiff, Nat.reduceLT, Int.reduceLE, Int.reduceLT, reduceCtorEq]
        refine ⟨by omega, ihk (k + 1, u0, u2, ws2, W2, S2, R, _) ⟨by omega, hAs, l3, l4, l5, l6, l7, (List.getElem?_append_left (List.getElem?_eq_some_iff.1 l8).1).trans l8, l9.keep (fun id hid _ => List.getElem?_append_left hid) (by decide), l10, l11⟩ (by show fs.length - (k + 1) < fs.length - k; omega) _ _ (by simp [keep]) rfl⟩
      · rw [if_neg hin] at hAs
        rw [if_neg (fun h => hin ((l6 g).1 (hlom.1 h)))] at hFd
        refine hFd.go ?_
        have h0' : ∀ X, (τ ++ X)[0]? = some (.arr u0 60 6 (aggs (R.map mp))) := fun X => (List.getElem?_append_left (List.getElem?_eq_some_iff.1 l8).1).trans l8
        have hok := ok6' h6g
        have t6 : List.take 6 (mp g) = mp g := take6 h6g
        have tR : List.take R.length (R.map mp) = R.map mp := List.take_of_length_le (by rw [List.length_map]; exact Nat.le_refl _)
        have tRg : R.map mp ++ [mp g] = (R ++ [g]).map mp := by simp
        try simp only [OpK_eq, HKv, h0', aggs_length, List.length_map, t6, tR, tRg, take6, List.drop_zero, Int.cast_ofNat_Int, go_sem, ↓reduceIte, Nat.reduceEqDiff, Nat.reduceAdd, Nat.reduceMul, Nat.reduceLeDiff, Nat.reduceLT, Int.reduceLE, Int.reduceLT, reduceCtorEq]
        refine ⟨fun h300 => Kv.Fin.still (hK2 (i + 1) (by omega) ?_), fun h300 => ⟨by omega, h6g, h6g, ⟨by omega, by omega⟩, ?_⟩⟩
        · rw [hBs]
          have hN : clA fs m Q (k + 1) = none := by rw [hAs, if_pos (by omega)]
          have := clA_none hN (fs.length - (k + 1))
          rwa [show k + 1 + (fs.length - (k + 1)) = fs.length by omega] at this
        · rw [if_neg (by omega)] at hAs
          have hτ0 := (List.getElem?_eq_some_iff.1 l8).1
          have r0 : ((τ ++ [AObj.box (ints (mp g))]).set 0 (.arr (u0 + 1) 60 6 (aggs ((R ++ [g]).map mp))))[0]? = some (.arr (u0 + 1) 60 6 (aggs ((R ++ [g]).map mp))) := List.getElem?_set_self (by simp)
          have rb : ((τ ++ [AObj.box (ints (mp g))]).set 0 (.arr (u0 + 1) 60 6 (aggs ((R ++ [g]).map mp))))[τ.length]? = some (.box (ints (mp g))) := by
            rw [List.getElem?_set_ne (by omega)]; simp
          have hW : WG ((τ ++ [AObj.box (ints (mp g))]).set 0 (.arr (u0 + 1) 60 6 (aggs ((R ++ [g]).map mp)))) (fun id => id = 0) 2 u2 ws2 W2 := l9.keep (fun id hid hA => by
            rw [List.getElem?_set_ne (fun e => hA e.symm), List.getElem?_append_left hid]) (by decide)
          generalize (τ ++ [AObj.box (ints (mp g))]).set 0 (.arr (u0 + 1) 60 6 (aggs ((R ++ [g]).map mp))) = ρ at *
          obtain ⟨w, hw, hWd⟩ := hW.cell (i := i) (by omega)
          have hWo := hW.out
          have hwl := hW.len
          have hwcs := hWd.cs
          try simp only [OpK_eq, HKv, hWo, take6, List.drop_zero, Int.cast_ofNat_Int, go_sem, ↓reduceIte, Nat.reduceEqDiff, Nat.reduceAdd, Nat.reduceMul, Nat.reduceLeDiff, Nat.reduceLT, Int.reduceLE, Int.reduceLT, reduceCtorEq]
          refine ⟨⟨by omega, by omega⟩, by omega, fun q hq => ?_⟩
          rw [hw] at hq; cases hq
          rw [hwcs.1]
          refine ⟨by simp, fun q hq => ?_⟩
          simp only [List.getElem?_cons_zero, Option.some.injEq] at hq; subst hq
          have hWi : W2[i].length + 1 ≤ W2.length := l11 _ (List.getElem_mem _)
          generalize W2[i]'(by omega) = wi at hWd hWi
          try simp only [OpK_eq, HKv, take6, List.drop_zero, Int.cast_ofNat_Int, go_sem, ↓reduceIte, Nat.reduceEqDiff, Nat.reduceAdd, Nat.reduceMul, Nat.reduceLeDiff, Nat.reduceLT, Int.reduceLE, Int.reduceLT, reduceCtorEq]
          refine ACall.lend (p105 wi (by omega)) (.cons hWd.imm (.nil _)) fun v s hv => ?_
          obtain ⟨rfl, rfl⟩ := hv
          refine ⟨⟨free_ref _ _ _ _, Free.ints _ _ _ _⟩, ?_⟩
          try simp only [OpK_eq, HKv, ren_ref, ren_arr, ren_ints, Nat.zero_add, hgb, hsb, take6, List.drop_zero, Int.cast_ofNat_Int, go_sem, ↓reduceIte, Nat.reduceEqDiff, Nat.reduceAdd, Nat.reduceMul, Nat.reduceLeDiff, Nat.reduceLT, Int.reduceLE, Int.reduceLT, reduceCtorEq]
          have hW3 : WG (ρ ++ [AObj.arr 2 2 1 (ints (wi ++ [(k : Int)]))]) (fun id => id = 0) 2 u2 ws2 W2 := hW.keep (fun id hid _ => List.getElem?_append_left hid) (by decide)
          have hρ2 := (List.getElem?_eq_some_iff.1 hWo).1
          have hwd : Wd (ρ ++ [AObj.arr 2 2 1 (ints (wi ++ [(k : Int)]))]) (fun id => id = 0 ∨ id = 2) (.ref ρ.length 2 0 (wi.length + 1)) (wi ++ [(k : Int)]) := by
            have e : wi.length + 1 = (wi ++ [(k : Int)]).length := by simp
            rw [e]
            exact .inr ⟨_, 2, rfl, by simp, fun h => by rcases h with h | h <;> omega⟩
          have hpush : ∀ K' : PV → Heap → Prop, (WG ((ρ ++ [AObj.arr 2 2 1 (ints (wi ++ [(k : Int)]))]).set 2 (.arr (u2 + 1) 27 1 (ws2 ++ [.ref ρ.length 2 0 (wi.length + 1)]))) (fun id => id = 0) 2 (u2 + 1) (ws2 ++ [.ref ρ.length 2 0 (wi.length + 1)]) (W2 ++ [wi ++ [(k : Int)]]) → K' (.ref 2 (u2 + 1) 0 (R.length + 1)) ((ρ ++ [AObj.arr 2 2 1 (ints (wi ++ [(k : Int)]))]).set 2 (.arr (u2 + 1) 27 1 (ws2 ++ [.ref ρ.length 2 0 (wi.length + 1)])))) → aApp 27 1 (.ref 2 u2 0 R.length) (.list [.ref ρ.length 2 0 (wi.length + 1)]) (ρ ++ [AObj.arr 2 2 1 (ints (wi ++ [(k : Int)]))]) K' := fun K' hk => by
            have := hW3.push hwd (by omega) (K := K') (by rw [l10]; exact hk)
            rwa [l10] at this
          refine ⟨⟨by omega, by omega⟩, ?_⟩
          rw [← aApp_ref]
          refine hpush _ fun hWn => ?_
          have n0 : ((ρ ++ [AObj.arr 2 2 1 (ints (wi ++ [(k : Int)]))]).set 2 (.arr (u2 + 1) 27 1 (ws2 ++ [.ref ρ.length 2 0 (wi.length + 1)])))[0]? = some (.arr (u0 + 1) 60 6 (aggs ((R ++ [g]).map mp))) := by
            rw [List.getElem?_set_ne (by decide), List.getElem?_append_left (by omega)]; exact r0
          have hτ2 := (List.getElem?_eq_some_iff.1 l9.out).1
          have nb : ((ρ ++ [AObj.arr 2 2 1 (ints (wi ++ [(k : Int)]))]).set 2 (.arr (u2 + 1) 27 1 (ws2 ++ [.ref ρ.length 2 0 (wi.length + 1)])))[τ.length]? = some (.box (ints (mp g))) := by
            have hb := (List.getElem?_eq_some_iff.1 rb).1
            rw [List.getElem?_set_ne (by omega), List.getElem?_append_left hb]; exact rb
          generalize (ρ ++ [AObj.arr 2 2 1 (ints (wi ++ [(k : Int)]))]).set 2 (.arr (u2 + 1) 27 1 (ws2 ++ [.ref ρ.length 2 0 (wi.length + 1)])) = ρ2 at *
          try simp only [OpK_eq, HKv, nb, hilg, h6g, take6, List.drop_zero, Int.cast_ofNat_Int, go_sem, ↓reduceIte, Nat.reduceEqDiff, Nat.reduceAdd, Nat.reduceMul, Nat.reduceLeDiff, Nat.reduceLT, Int.reduceLE, Int.reduceLT, reduceCtorEq]
          refine (p215 n S2 l5 (by omega) g hgO).go ?_
          have hpm := fun x => putM_mem l5 hgO (x := x)
          have hps := putM_srm l5 hgO
          have hpl := putM_len (n := n) (S := S2) g
          try simp only [OpK_eq, HKv, take6, List.drop_zero, Int.cast_ofNat_Int, go_sem, ↓reduceIte, Nat.reduceEqDiff, Nat.reduceAdd, Nat.reduceMul, Nat.reduceLeDiff, Nat.reduceLT, Int.reduceLE, Int.reduceLT, reduceCtorEq]
          refine ⟨by omega, ihk (k + 1, u0 + 1, u2 + 1, _, W2 ++ [wi ++ [(k : Int)]], putM n S2 g, R ++ [g], ρ2) ⟨by omega, hAs, fun f hf' => ?_, by simp; omega, hps, fun f => ?_, by simp; omega, n0, hWn, by simp [l10], fun x hx => ?_⟩ (by show fs.length - (k + 1) < fs.length - k; omega) _ _ (by simp [keep]) rfl⟩
          · rcases List.mem_append.1 hf' with hf' | hf'
            · exact l3 f hf'
            · simp only [List.mem_singleton] at hf'; rw [hf']; exact hgO
          · rw [hpm, List.mem_append, List.mem_singleton, l6]
            exact ⟨fun h => h.elim .inr .inl, fun h => h.elim .inr .inl⟩
          · rw [List.length_append, List.length_singleton]
            rcases List.mem_append.1 hx with hx | hx
            · have := l11 x hx; omega
            · simp only [List.mem_singleton] at hx
              rw [hx, List.length_append, List.length_singleton]; omega
    · have hke : k = fs.length := by omega
      subst hke
      try simp only [take6, List.drop_zero, Int.cast_ofNat_Int, go_sem, ↓reduceIte, Nat.reduceEqDiff, Nat.reduceAdd, Nat.reduceMul, Nat.reduceLeDiff, Nat.reduceLT, Int.reduceLE, Int.reduceLT, reduceCtorEq]
      exact ⟨by omega, ih (i + 1, u0, u2, ws2, W2, S2, R, τ) ⟨by omega, by rw [hBs]; exact l2, l3, l4, l5, l6, l7, l8, l9, l10, l11⟩ (by show 301 - (i + 1) < 301 - i; omega) _ _ (by simp [keep]) rfl⟩
  · have hiQ : i = Q.length := by omega
    have hl1 : Q.length = (Q.map mp).length := (List.length_map _).symm
    refine Kv.Fin.freeze (Imm.tupL (.cons (Imm.refa' j8 hl1) (.cons (WG.immN j9 j10.symm) (.cons Imm.still (.nil _))))) (hK1 i Q W j2 hiQ j3 j4)
end Go.Proofs.YthbbjbfbeaiphaaGreat
end
section
/- The elements of a monoid, and its table: the specification. -/
namespace Go.Proofs.YthbbjbfbeaiphaaGreat
open Go.Kv
set_option maxRecDepth 100000
def k201_b0 : KC := (.seq (.seq (.ops [mV 31 11, mV 32 7, oP 33 (.len false (.t 32)), oP 34 (.bin .lss (.t 31) (.t 33))])
  (.cond (.t 34) .skip (.exit 0)))
  (.seq (.block 1 (.ops [mV 37 10, mV 38 7, mV 39 11, oP 40 (.idxS 6 (.t 38) (.t 39)), oP 41 (.load true 6 (.t 40)), oP 42 (.call (fC 215) [(.t 37), (.t 41)]), mV 10 42]))
  (.ops [mV 35 11, oP 36 (.bin .add (.t 35) (iC 1)), mV 11 36])))
def k201 : KC := (.seq (.ops [oP 4 (.mv (.c (.nils))), oP 5 (.mv (iC 0))])
  (.seq (.seq (.ops [mV 12 0, mV 13 1, oP 14 (.call (fC 74) [(.t 12), (.t 13)]), mV 6 14])
  (.seq (.ops [mV 15 6, oP 16 (.bin .neq (.t 15) (iC 0))])
  (.cond (.t 16) (.seq (.ops [mV 17 6, oP 4 (.mv (.c (.nils))), mV 5 17])
  .ret) .skip)))
  (.seq (.ops [mV 19 0, mV 20 0, oP 21 (.idxS 6 (.t 20) (iC 0)), oP 22 (.fieldA 0 (.t 21)), oP 23 (.load false 1 (.t 22)), oP 24 (.call (fC 214) [(.t 19), (.t 23)]), mV 18 24, oP 25 (.extr 0 (.t 18)), oP 26 (.extr 1 (.t 18)), oP 27 (.extr 2 (.t 18)), mV 7 25, mV 8 26, mV 9 27])
  (.seq (.seq (.ops [mV 28 9, oP 29 (.not (.t 28))])
  (.cond (.t 29) (.seq (.ops [oP 4 (.mv (.c (.nils))), oP 5 (.mv (iC 3))])
  .ret) .skip))
  (.seq (.ops [oP 30 (.bsl false 60 6 []), mV 10 30])
  (.seq (.seq (.ops [oP 11 (.mv (iC 0))])
  (.block 0 (.loop k201_b0)))
  (.seq (.ops [mV 43 10, mV 4 43, oP 5 (.mv (iC 0))])
  .ret)))))))
theorem e201 : Ent 201 44 [] [.t 4, .t 5] k201 := ent Tryz.func201 (by kernel_rfl) (by kernel_rfl) (by kernel_rfl) (fun _ => by kernel_rfl) (by kernel_rfl)
def k167 : KC := (.seq (.ops [oP 2 (.mv (.c (.nils))), oP 3 (.mv (iC 0))])
  (.seq (.ops [mV 7 0, oP 8 (.call (fC 201) [(.t 7), (.c (.nils))]), mV 6 8, oP 9 (.extr 0 (.t 6)), oP 10 (.extr 1 (.t 6)), mV 4 9, mV 5 10])
  (.seq (.seq (.ops [mV 11 5, oP 12 (.bin .eql (.t 11) (iC 0)), mV 13 12, ⟨(some 14), some (13, true), .mv (.t 4)⟩, ⟨(some 15), some (13, true), .len false (.t 14)⟩, ⟨(some 16), some (13, true), .bin .gtr (.t 15) (iC 40)⟩, oP 17 (.pick (.t 13) (.t 16) (.c (.bool false)))])
  (.cond (.t 17) (.ops [oP 5 (.mv (iC 3))]) .skip))
  (.seq (.seq (.ops [mV 18 5, oP 19 (.bin .neq (.t 18) (iC 0))])
  (.cond (.t 19) (.seq (.ops [mV 20 5, oP 2 (.mv (.c (.nils))), mV 3 20])
  .ret) .skip))
  (.seq (.ops [mV 21 4, oP 22 (.call (fC 202) [(.t 21)]), mV 2 22, oP 3 (.mv (iC 0))])
  .ret)))))
theorem e167 : Ent 167 23 [] [.t 2, .t 3] k167 := ent Tryz.func167 (by kernel_rfl) (by kernel_rfl) (by kernel_rfl) (fun _ => by kernel_rfl) (by kernel_rfl)
end Go.Proofs.YthbbjbfbeaiphaaGreat
namespace Go.Proofs.YthbbjbfbeaiphaaGreat
open Go.Kv
set_option linter.unusedVariables false
set_option linter.unusedSimpArgs false
attribute [local irreducible] ACall PCall KL
theorem clB_none {fs : List (List Nat)} {n i : Nat} (h : clB fs n i = none) : ∀ d, clB fs n (i + d) = none
  | 0 => h
  | d + 1 => by
    show clB fs n (i + d + 1) = none
    rw [clB, clB_none h d]
theorem clB_stop {fs : List (List Nat)} {n i : Nat} {Q : List (List Nat)} (h : clB fs n i = some Q) (hi : Q.length ≤ i) : ∀ d, clB fs n (i + d) = some Q
  | 0 => h
  | d + 1 => by
    show clB fs n (i + d + 1) = some Q
    rw [clB, clB_stop h hi d]
    simp only
    rw [List.getElem?_eq_none (by omega)]
/-- The maps of all words, if there are not too many. -/
def clR (fs : List (List Nat)) (n : Nat) : Option (List (List Nat)) := clB fs n 301
/-- In order. -/
def elS (n : Nat) (Q : List (List Nat)) : List (List Nat) := Q.foldl (putM n) []
theorem fold_putM {n : Nat} : ∀ (Q S : List (List Nat)), SrM n S → (∀ f ∈ Q, Ok f n) → SrM n (Q.foldl (putM n) S) ∧ (∀ f, f ∈ Q.foldl (putM n) S ↔ f ∈ Q ∨ f ∈ S) ∧ (Q.foldl (putM n) S).length ≤ Q.length + S.length
  | [], S, h, _ => ⟨h, fun f => by simp, by simp⟩
  | a :: Q, S, h, hQ => by
    have ha := hQ a (by simp)
    obtain ⟨h1, h2, h3⟩ := fold_putM Q (putM n S a) (putM_srm h ha) fun f hf => hQ f (by simp [hf])
    refine ⟨h1, fun f => ?_, ?_⟩
    · rw [List.foldl_cons, h2, putM_mem h ha, List.mem_cons]
      constructor
      · rintro (h | h | h)
        · exact .inl (.inr h)
        · exact .inl (.inl h)
        · exact .inr h
      · rintro ((h | h) | h)
        · exact .inr (.inl h)
        · exact .inl h
        · exact .inr (.inr h)
    · have := putM_len (n := n) (S := S) a
      rw [List.foldl_cons, List.length_cons]; omega
theorem p201_in (fs : List (List Nat)) (n : Nat) (h1 : 1 ≤ n) (h5 : n ≤ 5) (hf : ∀ f ∈ fs, Ok f n) (h0 : 0 < fs.length) (hfl : fs.length ≤ 6) (hl : lcode (fs.map mp) [] = 0) :
    Pure Tryz.prog 201 [.list (aggs (fs.map mp)), .nils] (match clR fs n with | none => .tup [.nils, .int .i64 3] | some Q => .tup [.list (aggs ((elS n Q).map mp)), .int .i64 0]) := by
  have hk := hf _ (List.getElem_mem h0)
  have h6k := hk.mp_len
  have hn : (mp fs[0]).getD 0 0 = (n : Int) := by simp [mp, mpN, hk.len]
  refine e201 (by simp) fun _ _ => ?_
  simp only [k201, argEnv, take6, List.drop_zero, Int.cast_ofNat_Int, go_sem, ↓reduceIte, Nat.reduceEqDiff, Nat.reduceAdd, Nat.reduceMul, Nat.reduceLeDiff, Nat.reduceLT, Int.reduceLE, Int.reduceLT, reduceCtorEq]
  refine (p74n (fs.map mp) (by simp; omega) (fun r hr => by obtain ⟨f, hf', rfl⟩ := List.mem_map.1 hr; exact (hf f hf').mp_len)).go ?_
  rw [hl]
  try simp only [OpK_eq, HKv, map_getD h0, h6k, hn, List.length_map, take6, List.drop_zero, Int.cast_ofNat_Int, go_sem, ↓reduceIte, Nat.reduceEqDiff, Nat.reduceAdd, Nat.reduceMul, Nat.reduceLeDiff, Nat.reduceLT, Int.reduceLE, Int.reduceLT, reduceCtorEq]
  refine ⟨by omega, fun _ => ?_⟩
  refine p214 fs n h1 h5 hf (by omega) (fun i Q W c1 c2 c3 c4 => ?_) (fun i c0 c1 => ?_)
  · have hR : clR fs n = some Q := by
      have := clB_stop c1 (by omega) (301 - i)
      rwa [show i + (301 - i) = 301 by omega] at this
    rw [hR]
    try simp only [OpK_eq, HKv, take6, List.drop_zero, Int.cast_ofNat_Int, go_sem, ↓reduceIte, Nat.reduceEqDiff, Nat.reduceAdd, Nat.reduceMul, Nat.reduceLeDiff, Nat.reduceLT, Int.reduceLE, Int.reduceLT, reduceCtorEq]
    refine KL_freeze (env0 := [(7, .list (aggs (Q.map mp))), (10, .ref 0 0 0 0), (11, .int .i64 0)]) (env' := [(7, .list (aggs (Q.map mp))), (10, .list (aggs (([] : List (List Nat)).map mp))), (11, .int .i64 0)]) [7, 10, 11] rfl (by simp [keep]) (.cons Imm.still (.cons (Imm.refa (l := []) rfl) (.cons Imm.still .nil))) ?_
    refine KL_ind k201_b0.eq_1 (fun y : Nat => [(7, .list (aggs (Q.map mp))), (10, .list (aggs ((elS n (Q.take y)).map mp))), (11, .int .i64 y)]) (fun _ => []) (fun y => y ≤ Q.length) (fun y => Q.length - y) [7, 10, 11] 0 (by simp [keep, elS]) rfl (Nat.zero_le _) fun y hy ih => ?_
    try simp only [OpK_eq, HKv, aggs_length, List.length_map, take6, List.drop_zero, Int.cast_ofNat_Int, go_sem, ↓reduceIte, Nat.reduceEqDiff, Nat.reduceAdd, Nat.reduceMul, Nat.reduceLeDiff, Nat.reduceLT, Int.reduceLE, Int.reduceLT, reduceCtorEq]
    refine ⟨fun g1 => ?_, fun g1 => ?_⟩
    · have hyl : y < Q.length := by omega
      have hgy : (Q.map mp).getD y [] = mp Q[y] := by simp [List.getD_eq_getElem?_getD, hyl]
      have hOy := c3 _ (List.getElem_mem hyl)
      have h6y := hOy.mp_len
      obtain ⟨s1, s2, s3⟩ := fold_putM (n := n) (Q.take y) [] ⟨by simp, by simp⟩ fun f hf' => c3 f (List.mem_of_mem_take hf')
      have hes : elS n (Q.take (y + 1)) = putM n (elS n (Q.take y)) Q[y] := by
        unfold elS
        rw [List.take_succ_eq_append_getElem hyl, List.foldl_append]; rfl
      have s3' : (elS n (Q.take y)).length ≤ Q.length := by
        have : (elS n (Q.take y)).length ≤ (Q.take y).length + 0 := s3
        rw [List.length_take] at this; omega
      try simp only [OpK_eq, HKv, aggs_length, List.length_map, hgy, h6y, take6, List.drop_zero, Int.cast_ofNat_Int, go_sem, ↓reduceIte, Nat.reduceEqDiff, Nat.reduceAdd, Nat.reduceMul, Nat.reduceLeDiff, Nat.reduceLT, Int.reduceLE, Int.reduceLT, reduceCtorEq]
      refine ⟨by omega, fun _ => ?_⟩
      refine (p215 n (elS n (Q.take y)) s1 (by omega) Q[y] hOy).go ?_
      try simp only [OpK_eq, HKv, take6, List.drop_zero, Int.cast_ofNat_Int, go_sem, ↓reduceIte, Nat.reduceEqDiff, Nat.reduceAdd, Nat.reduceMul, Nat.reduceLeDiff, Nat.reduceLT, Int.reduceLE, Int.reduceLT, reduceCtorEq]
      exact ⟨by omega, ih (y + 1) (by omega) (by omega) _ _ (by simp [keep, hes]) rfl⟩
    · obtain rfl : y = Q.length := by omega
      rw [List.take_length]
      try simp only [OpK_eq, HKv, take6, List.drop_zero, Int.cast_ofNat_Int, go_sem, ↓reduceIte, Nat.reduceEqDiff, Nat.reduceAdd, Nat.reduceMul, Nat.reduceLeDiff, Nat.reduceLT, Int.reduceLE, Int.reduceLT, reduceCtorEq]
      exact Kv.Fin.still ⟨rfl, rfl⟩
  · have hR : clR fs n = none := by
      have := clB_none c1 (301 - i)
      rwa [show i + (301 - i) = 301 by omega] at this
    rw [hR]
    try simp only [OpK_eq, HKv, take6, List.drop_zero, Int.cast_ofNat_Int, go_sem, ↓reduceIte, Nat.reduceEqDiff, Nat.reduceAdd, Nat.reduceMul, Nat.reduceLeDiff, Nat.reduceLT, Int.reduceLE, Int.reduceLT, reduceCtorEq]
    exact Kv.Fin.still ⟨rfl, rfl⟩
theorem elS_ok {n : Nat} {Q : List (List Nat)} (hQ : ∀ f ∈ Q, Ok f n) : SrM n (elS n Q) ∧ (∀ f, f ∈ elS n Q ↔ f ∈ Q) ∧ (elS n Q).length ≤ Q.length := by
  obtain ⟨h1, h2, h3⟩ := fold_putM (n := n) Q [] ⟨by simp, by simp⟩ hQ
  exact ⟨h1, fun f => by rw [elS, h2]; simp, h3⟩
theorem clA_okQ {fs : List (List Nat)} {n : Nat} (hf : ∀ f ∈ fs, Ok f n) {m : List Nat} (hm : Ok m n) {Q : List (List Nat)} (hQ : ∀ f ∈ Q, Ok f n) (hl : Q.length ≤ 300) : ∀ k R, k ≤ fs.length → clA fs m Q k = some R → (∀ f ∈ R, Ok f n) ∧ R.length ≤ 300
  | 0, R, _, h => by
    have : Q = R := by simpa [clA] using h
    subst this; exact ⟨hQ, hl⟩
  | k + 1, R, hk, h => by
    unfold clA at h
    cases hc : clA fs m Q k with
    | none => rw [hc] at h; cases h
    | some R' =>
      obtain ⟨h1, h2⟩ := clA_okQ hf hm hQ hl k R' (by omega) hc
      have hgf : fs.getD k [] = fs[k] := by simp [List.getD_eq_getElem?_getD, show k < fs.length by omega]
      rw [hc] at h
      simp only at h
      split at h
      · cases h; exact ⟨h1, h2⟩
      · split at h
        · cases h
        · cases h
          refine ⟨fun f hf' => ?_, by rw [List.length_append, List.length_singleton]; omega⟩
          rcases List.mem_append.1 hf' with hf' | hf'
          · exact h1 f hf'
          · simp only [List.mem_singleton] at hf'
            rw [hf', hgf]
            exact hm.mul (hf _ (List.getElem_mem _))
theorem clB_okQ {fs : List (List Nat)} {n : Nat} (h1 : 1 ≤ n) (h5 : n ≤ 5) (hf : ∀ f ∈ fs, Ok f n) : ∀ i Q, clB fs n i = some Q → (∀ f ∈ Q, Ok f n) ∧ Q.length ≤ 300
  | 0, Q, h => by
    have : [List.range n] = Q := by simpa [clB] using h
    subst this
    refine ⟨fun f hf' => ?_, by simp⟩
    simp only [List.mem_singleton] at hf'; rw [hf']; exact range_ok h1 h5
  | i + 1, Q, h => by
    rw [clB] at h
    cases hc : clB fs n i with
    | none => rw [hc] at h; cases h
    | some R =>
      obtain ⟨h2, h3⟩ := clB_okQ h1 h5 hf i R hc
      rw [hc] at h
      simp only at h
      cases hg : R[i]? with
      | none => rw [hg] at h; cases h; exact ⟨h2, h3⟩
      | some m => rw [hg] at h; exact clA_okQ hf (h2 m (List.mem_of_getElem? hg)) h2 h3 fs.length Q (Nat.le_refl _) h
theorem p167_in (fs : List (List Nat)) (n : Nat) (h1 : 1 ≤ n) (h5 : n ≤ 5) (hf : ∀ f ∈ fs, Ok f n) (h0 : 0 < fs.length) (hfl : fs.length ≤ 6) (hl : lcode (fs.map mp) [] = 0) :
    Pure Tryz.prog 167 [.list (aggs (fs.map mp))] (match clR fs n with | none => .tup [.nils, .int .i64 3] | some Q => if 40 < (elS n Q).length then .tup [.nils, .int .i64 3] else .tup [.list (rows (tabM n (elS n Q))), .int .i64 0]) := by
  have hE := p201_in fs n h1 h5 hf h0 hfl hl
  cases hR : clR fs n with
  | none =>
    rw [hR] at hE
    simp only at hE ⊢
    refine e167 (by simp) fun _ _ => ?_
    simp only [k167, argEnv, take6, List.drop_zero, Int.cast_ofNat_Int, go_sem, ↓reduceIte, Nat.reduceEqDiff, Nat.reduceAdd, Nat.reduceMul, Nat.reduceLeDiff, Nat.reduceLT, Int.reduceLE, Int.reduceLT, reduceCtorEq]
    refine hE.go ?_
    try simp only [OpK_eq, HKv, take6, List.drop_zero, Int.cast_ofNat_Int, go_sem, ↓reduceIte, Nat.reduceEqDiff, Nat.reduceAdd, Nat.reduceMul, Nat.reduceLeDiff, Nat.reduceLT, Int.reduceLE, Int.reduceLT, reduceCtorEq]
    exact ⟨fun h => absurd h (by decide), fun _ => ⟨fun _ => Kv.Fin.still ⟨rfl, rfl⟩, fun h => absurd h (by decide)⟩⟩
  | some Q =>
    rw [hR] at hE
    simp only at hE ⊢
    obtain ⟨c3, c4⟩ := clB_okQ h1 h5 hf _ _ hR
    obtain ⟨s1, s2, s3⟩ := elS_ok c3
    refine e167 (by simp) fun _ _ => ?_
    simp only [k167, argEnv, take6, List.drop_zero, Int.cast_ofNat_Int, go_sem, ↓reduceIte, Nat.reduceEqDiff, Nat.reduceAdd, Nat.reduceMul, Nat.reduceLeDiff, Nat.reduceLT, Int.reduceLE, Int.reduceLT, reduceCtorEq]
    refine hE.go ?_
    generalize elS n Q = S at *
    try simp only [OpK_eq, HKv, aggs_length, List.length_map, take6, List.drop_zero, Int.cast_ofNat_Int, go_sem, ↓reduceIte, Nat.reduceEqDiff, Nat.reduceAdd, Nat.reduceMul, Nat.reduceLeDiff, Nat.reduceLT, Int.reduceLE, Int.reduceLT, reduceCtorEq]
    refine ⟨fun g1 => ?_, fun g1 => ?_⟩
    · rw [if_pos (by omega)]
      exact ⟨fun _ => Kv.Fin.still ⟨rfl, rfl⟩, fun h => absurd h (by decide)⟩
    · rw [if_neg (by omega)]
      refine (p202 n S s1 (by omega)).go ?_
      try simp only [OpK_eq, HKv, take6, List.drop_zero, Int.cast_ofNat_Int, go_sem, ↓reduceIte, Nat.reduceEqDiff, Nat.reduceAdd, Nat.reduceMul, Nat.reduceLeDiff, Nat.reduceLT, Int.reduceLE, Int.reduceLT, reduceCtorEq]
      exact Kv.Fin.still ⟨rfl, rfl⟩
theorem p201_out (a : List (List Int)) (ha : a.length ≤ 1048576) (h6 : ∀ r ∈ a, r.length = 6) (hc : lcode a [] ≠ 0) : Pure Tryz.prog 201 [.list (aggs a), .nils] (.tup [.nils, .int .i64 (lcode a [])]) := by
  refine e201 (by simp) fun _ _ => ?_
  simp only [k201, argEnv, take6, List.drop_zero, Int.cast_ofNat_Int, go_sem, ↓reduceIte, Nat.reduceEqDiff, Nat.reduceAdd, Nat.reduceMul, Nat.reduceLeDiff, Nat.reduceLT, Int.reduceLE, Int.reduceLT, reduceCtorEq]
  refine (p74n a ha h6).go ?_
  try simp only [OpK_eq, HKv, take6, List.drop_zero, Int.cast_ofNat_Int, go_sem, ↓reduceIte, Nat.reduceEqDiff, Nat.reduceAdd, Nat.reduceMul, Nat.reduceLeDiff, Nat.reduceLT, Int.reduceLE, Int.reduceLT, reduceCtorEq]
  exact ⟨fun h1 => Kv.Fin.still ⟨rfl, rfl⟩, fun h1 => absurd h1 hc⟩
theorem p167_out (a : List (List Int)) (ha : a.length ≤ 1048576) (h6 : ∀ r ∈ a, r.length = 6) (hc : lcode a [] ≠ 0) : Pure Tryz.prog 167 [.list (aggs a)] (.tup [.nils, .int .i64 (lcode a [])]) := by
  refine e167 (by simp) fun _ _ => ?_
  simp only [k167, argEnv, take6, List.drop_zero, Int.cast_ofNat_Int, go_sem, ↓reduceIte, Nat.reduceEqDiff, Nat.reduceAdd, Nat.reduceMul, Nat.reduceLeDiff, Nat.reduceLT, Int.reduceLE, Int.reduceLT, reduceCtorEq]
  refine (p201_out a ha h6 hc).go ?_
  try simp only [OpK_eq, HKv, take6, List.drop_zero, Int.cast_ofNat_Int, go_sem, ↓reduceIte, Nat.reduceEqDiff, Nat.reduceAdd, Nat.reduceMul, Nat.reduceLeDiff, Nat.reduceLT, Int.reduceLE, Int.reduceLT, reduceCtorEq]
  exact ⟨fun h => absurd h hc, fun _ => ⟨fun _ => Kv.Fin.still ⟨rfl, rfl⟩, fun h => absurd h hc⟩⟩
end Go.Proofs.YthbbjbfbeaiphaaGreat
end
section
/- Monoid tables: both sides, and the law's function. -/
namespace Go.Proofs.YthbbjbfbeaiphaaGreat
open Go.Kv
set_option linter.unusedVariables false
set_option linter.unusedSimpArgs false
attribute [local irreducible] ACall PCall KL
def ascC (t : List (List Int)) (a b c : Nat) : Bool := decide (tat t (tat t a b).toNat c = tat t a (tat t b c).toNat)
def ascB (t : List (List Int)) (a b : Nat) : Bool := (List.range t.length).all (ascC t a b)
def ascA (t : List (List Int)) (a : Nat) : Bool := (List.range t.length).all (ascB t a)
def asso (t : List (List Int)) : Bool := (List.range t.length).all (ascA t)
end Go.Proofs.YthbbjbfbeaiphaaGreat
end
section
/- Tables of monoids: plain laws. -/
namespace Go.Proofs.YthbbjbfbeaiphaaGreat
open Go.Kv
set_option linter.unusedVariables false
set_option linter.unusedSimpArgs false
attribute [local irreducible] ACall PCall KL
/-- What is reached from the identity. -/
inductive Rch (fs : List (List Nat)) (n : Nat) : List Nat → Prop
  | one : Rch fs n (List.range n)
  | step (g f : List Nat) (hg : Rch fs n g) (hf : f ∈ fs) : Rch fs n (mul g f)
theorem Rch.ok {fs : List (List Nat)} {n : Nat} (h1 : 1 ≤ n) (h5 : n ≤ 5) (hf : ∀ f ∈ fs, Ok f n) {g : List Nat} (h : Rch fs n g) : Ok g n := by
  induction h with
  | one => exact range_ok h1 h5
  | step g f _ hm ih => exact ih.mul (hf f hm)
theorem clA_has {fs : List (List Nat)} {n : Nat} {m : List Nat} {Q : List (List Nat)} (hm : Rch fs n m) (hQ : ∀ g ∈ Q, Rch fs n g) : ∀ k R, k ≤ fs.length → clA fs m Q k = some R → (∀ t, t < k → mul m (fs.getD t []) ∈ R) ∧ ∀ g ∈ R, Rch fs n g
  | 0, R, _, h => by
    have : Q = R := by simpa [clA] using h
    subst this
    exact ⟨fun t ht => by omega, hQ⟩
  | k + 1, R, hk, h => by
    unfold clA at h
    cases hc : clA fs m Q k with
    | none => rw [hc] at h; cases h
    | some R' =>
      obtain ⟨a, b⟩ := clA_has hm hQ k R' (by omega) hc
      rw [hc] at h
      simp only at h
      have hkm : fs.getD k [] ∈ fs := by rw [List.getD_eq_getElem?_getD, List.getElem?_eq_getElem (by omega)]; exact List.getElem_mem _
      split at h
      · rename_i hin
        cases h
        refine ⟨fun t ht => ?_, b⟩
        by_cases e : t = k
        · subst e; exact hin
        · exact a t (by omega)
      · split at h
        · cases h
        · cases h
          refine ⟨fun t ht => ?_, fun g hg => ?_⟩
          · by_cases e : t = k
            · subst e; simp
            · exact List.mem_append.2 (.inl (a t (by omega)))
          · rcases List.mem_append.1 hg with hg | hg
            · exact b g hg
            · simp only [List.mem_singleton] at hg
              subst hg
              exact .step m _ hm hkm
theorem clB_has {fs : List (List Nat)} {n : Nat} : ∀ i Q, clB fs n i = some Q → List.range n ∈ Q ∧ (∀ g ∈ Q, Rch fs n g) ∧ ∀ j m, j < i → Q[j]? = some m → ∀ f ∈ fs, mul m f ∈ Q
  | 0, Q, h => by
    have : [List.range n] = Q := by simpa [clB] using h
    subst this
    refine ⟨by simp, fun g hg => ?_, fun j m hj => by omega⟩
    simp only [List.mem_singleton] at hg
    subst hg; exact .one
  | i + 1, Q, h => by
    rw [clB] at h
    cases hc : clB fs n i with
    | none => rw [hc] at h; cases h
    | some Q' =>
      obtain ⟨a, b, c⟩ := clB_has i Q' hc
      rw [hc] at h
      simp only at h
      split at h
      · rename_i m0 hm0
        obtain ⟨r, hr⟩ := clA_pre _ _ h
        obtain ⟨d, e⟩ := clA_has (b m0 (List.mem_of_getElem? hm0)) b fs.length Q (Nat.le_refl _) h
        have hlt := (List.getElem?_eq_some_iff.1 hm0).1
        refine ⟨by rw [hr]; exact List.mem_append.2 (.inl a), e, fun j m hj hjm f hf => ?_⟩
        by_cases eji : j = i
        · subst eji
          rw [hr, List.getElem?_append_left hlt, hm0] at hjm
          cases hjm
          obtain ⟨t, ht, rfl⟩ := List.getElem_of_mem hf
          have := d t ht
          rwa [List.getD_eq_getElem?_getD, List.getElem?_eq_getElem ht] at this
        · have hj2 : Q'[j]? = some m := by rw [hr, List.getElem?_append_left (by omega)] at hjm; exact hjm
          have := c j m (by omega) hj2 f hf
          rw [hr]; exact List.mem_append.2 (.inl this)
      · rename_i hm0
        cases h
        refine ⟨a, b, fun j m hj hjm f hf => ?_⟩
        have hlt := (List.getElem?_eq_some_iff.1 hjm).1
        have := List.getElem?_eq_none_iff.1 hm0
        exact c j m (by omega) hjm f hf
/-- A list of maps in order that is a monoid. -/
structure Mnd (n : Nat) (S : List (List Nat)) : Prop where
  srm : SrM n S
  one : List.range n ∈ S
  mul : ∀ f g, f ∈ S → g ∈ S → Go.Kv.mul f g ∈ S
theorem clR_mnd {fs : List (List Nat)} {n : Nat} (h1 : 1 ≤ n) (h5 : n ≤ 5) (hf : ∀ f ∈ fs, Ok f n) {Q : List (List Nat)} (hR : clB fs n 301 = some Q) : Mnd n (elS n Q) := by
  obtain ⟨c3, c4⟩ := clB_okQ h1 h5 hf _ _ hR
  obtain ⟨s1, s2, s3⟩ := elS_ok c3
  obtain ⟨a, b, c⟩ := clB_has _ _ hR
  refine ⟨s1, (s2 _).2 a, fun f g hfm hgm => (s2 _).2 ?_⟩
  have hfQ := (s2 f).1 hfm
  have hr := b g ((s2 g).1 hgm)
  clear hgm hfm
  induction hr with
  | one => rw [mul_one (c3 f hfQ)]; exact hfQ
  | step g' f' hg' hf' ih =>
    rw [← mul_assoc (c3 f hfQ) (hg'.ok h1 h5 hf) (hf f' hf')]
    obtain ⟨j, hj, e⟩ := List.getElem_of_mem ih
    exact c j _ (by omega) (by rw [List.getElem?_eq_getElem hj, e]) f' hf'
theorem Mnd.at {n : Nat} {S : List (List Nat)} (h : Mnd n S) {i j : Nat} (hi : i < S.length) (hj : j < S.length) : tat (tabM n S) i j = (loM n S (Go.Kv.mul S[i] S[j]) : Int) ∧ loM n S (Go.Kv.mul S[i] S[j]) < S.length ∧ S.getD (loM n S (Go.Kv.mul S[i] S[j])) [] = Go.Kv.mul S[i] S[j] := by
  have hm := h.mul _ _ (List.getElem_mem hi) (List.getElem_mem hj)
  have hO := h.srm.1 _ hm
  obtain ⟨h1, h2⟩ := (lo_mem h.srm hO).2 hm
  refine ⟨?_, h1, h2⟩
  have e1 : (tabM n S).getD i [] = rowM n S S[i] := by simp [tabM, List.getD_eq_getElem?_getD, hi]
  have e2 : (rowM n S S[i]).getD j 0 = plM n S (Go.Kv.mul S[i] S[j]) := by simp [rowM, List.getD_eq_getElem?_getD, hj]
  rw [tat, e1, e2, plM, if_pos ⟨h1, h2⟩]
theorem tabM_len {n : Nat} {S : List (List Nat)} : (tabM n S).length = S.length := by simp [tabM]
theorem Mnd.isTab {n : Nat} {S : List (List Nat)} (h : Mnd n S) (h40 : S.length ≤ 40) : isTab (tabM n S) = true := by
  have h0 : 0 < S.length := List.length_pos_of_mem h.one
  have hrow : ∀ r ∈ tabM n S, rowOk (tabM n S).length r = true := fun r hr => by
    obtain ⟨i, hi, rfl⟩ := List.getElem_of_mem hr
    have hiS : i < S.length := by rw [← tabM_len (n := n)]; exact hi
    have hri : (tabM n S)[i] = rowM n S S[i] := by simp [tabM]
    rw [hri, rowOk, Bool.and_eq_true, List.all_eq_true]
    refine ⟨decide_eq_true (by simp [rowM, tabM_len]), fun x hx => decide_eq_true ?_⟩
    obtain ⟨j, hj, rfl⟩ := List.getElem_of_mem hx
    have hjS : j < S.length := by simpa [rowM] using hj
    obtain ⟨x1, x2, _⟩ := h.at hiS hjS
    have e1 : (rowM n S S[i])[j] = tat (tabM n S) i j := by
      have e2 : (tabM n S).getD i [] = rowM n S S[i] := by simp [tabM, List.getD_eq_getElem?_getD, hiS]
      rw [tat, e2, List.getD_eq_getElem?_getD, List.getElem?_eq_getElem hj]; rfl
    rw [e1, x1, tabM_len]; omega
  unfold Go.Proofs.YthbbjbfbeaiphaaGreat.isTab
  rw [Bool.and_eq_true, List.all_eq_true]
  exact ⟨decide_eq_true (by rw [tabM_len]; omega), hrow⟩
theorem Mnd.asso {n : Nat} {S : List (List Nat)} (h : Mnd n S) : Go.Proofs.YthbbjbfbeaiphaaGreat.asso (tabM n S) = true := by
  have hO : ∀ i (hi : i < S.length), Ok S[i] n := fun i hi => h.srm.1 _ (List.getElem_mem hi)
  unfold Go.Proofs.YthbbjbfbeaiphaaGreat.asso ascA ascB ascC
  simp only [List.all_eq_true, List.mem_range, tabM_len, decide_eq_true_eq]
  intro a ha b hb c hc
  obtain ⟨x1, x2, x3⟩ := h.at ha hb
  obtain ⟨y1, y2, y3⟩ := h.at hb hc
  have e1 : (tat (tabM n S) a b).toNat = loM n S (Go.Kv.mul S[a] S[b]) := by rw [x1]; omega
  have e2 : (tat (tabM n S) b c).toNat = loM n S (Go.Kv.mul S[b] S[c]) := by rw [y1]; omega
  rw [e1, e2]
  have z1 := (h.at x2 hc).1
  have z2 := (h.at ha y2).1
  have g1 : S[loM n S (Go.Kv.mul S[a] S[b])] = Go.Kv.mul S[a] S[b] := by
    rw [List.getD_eq_getElem?_getD, List.getElem?_eq_getElem x2] at x3; exact x3
  have g2 : S[loM n S (Go.Kv.mul S[b] S[c])] = Go.Kv.mul S[b] S[c] := by
    rw [List.getD_eq_getElem?_getD, List.getElem?_eq_getElem y2] at y3; exact y3
  rw [z1, z2, g1, g2, mul_assoc (hO a ha) (hO b hb) (hO c hc)]
theorem Mnd.idn {n : Nat} {S : List (List Nat)} (h : Mnd n S) : 0 ≤ Go.Proofs.YthbbjbfbeaiphaaGreat.idn (tabM n S) := by
  have hO : ∀ i (hi : i < S.length), Ok S[i] n := fun i hi => h.srm.1 _ (List.getElem_mem hi)
  have hdec := idx_nonneg (fun e => okE (tabM n S) e (tabM n S).length) (List.range (tabM n S).length)
  have hone : Ok (List.range n) n := h.srm.1 _ h.one
  obtain ⟨h1, h2⟩ := (lo_mem h.srm hone).2 h.one
  have hat : ∀ i (hi : i < S.length), loM n S S[i] = i := fun i hi => by
    obtain ⟨a, b⟩ := (lo_mem h.srm (hO i hi)).2 (List.getElem_mem hi)
    apply Classical.byContradiction
    intro hne
    rw [List.getD_eq_getElem?_getD, List.getElem?_eq_getElem a] at b
    simp only [Option.getD_some] at b
    rcases Nat.lt_or_gt_of_ne hne with hlt | hlt
    · have := List.pairwise_iff_getElem.1 h.srm.2 _ _ a hi hlt
      rw [b] at this; omega
    · have := List.pairwise_iff_getElem.1 h.srm.2 _ _ hi a hlt
      rw [b] at this; omega
  have hg : S[loM n S (List.range n)] = List.range n := by
    rw [List.getD_eq_getElem?_getD, List.getElem?_eq_getElem h1] at h2; exact h2
  have hok : okE (tabM n S) (loM n S (List.range n)) (tabM n S).length = true := by
    unfold okE
    simp only [List.all_eq_true, List.mem_range, tabM_len, Bool.and_eq_true, decide_eq_true_eq]
    intro x hx
    rw [(h.at h1 hx).1, (h.at hx h1).1, hg, one_mul (hO x hx), mul_one (hO x hx), hat x hx]
    exact ⟨rfl, rfl⟩
  have hany : (List.range (tabM n S).length).any (fun e => okE (tabM n S) e (tabM n S).length) = true := by
    rw [List.any_eq_true]
    exact ⟨_, List.mem_range.2 (by rw [tabM_len]; exact h1), hok⟩
  rw [hany] at hdec
  exact of_decide_eq_true hdec
end Go.Proofs.YthbbjbfbeaiphaaGreat
end
section
/- The specification's TableOf, its rows one's own; SizeOf. -/
namespace Go.Proofs.YthbbjbfbeaiphaaGreat
open Go.Kv
set_option linter.unusedVariables false
set_option linter.unusedSimpArgs false
attribute [local irreducible] ACall PCall KL
theorem p167o (t : List (List Int)) (h7 : t.length ≤ 1000) (h6 : ∀ r ∈ t, r.length = 6) : ACall Tryz.prog 167 [.list (aggs t)] [] fun v s => (∃ c : Int, c ≠ 0 ∧ v = .tup [.nils, .int .i64 c] ∧ s = []) ∨ ∃ x n S, v = .tup [x, .int .i64 0] ∧ TabN 27 2 s x (tabM n S) ∧ Free s ∧ Mnd n S ∧ S.length ≤ 40 := by
  by_cases hl : lcode t [] = 0
  · obtain ⟨fs, n, e, hf, h0, hfl, hn, h1, h5⟩ := lcode_maps h6 hl
    subst e
    have hE := p201_in fs n h1 h5 hf h0 hfl hl
    have hE0 := p167_in fs n h1 h5 hf h0 hfl hl
    cases hR : clR fs n with
    | none =>
      rw [hR] at hE0
      exact hE0.mono fun v s ⟨hv, hs⟩ => .inl ⟨3, by decide, hv, hs⟩
    | some Q =>
      have hM := clR_mnd h1 h5 hf hR
      rw [hR] at hE hE0
      simp only at hE hE0
      by_cases g : 40 < (elS n Q).length
      · rw [if_pos g] at hE0
        exact hE0.mono fun v s ⟨hv, hs⟩ => .inl ⟨3, by decide, hv, hs⟩
      · clear hE0
        refine e167 (by simp) fun _ _ => ?_
        simp only [k167, argEnv, take6, List.drop_zero, Int.cast_ofNat_Int, go_sem, ↓reduceIte, Nat.reduceEqDiff, Nat.reduceAdd, Nat.reduceMul, Nat.reduceLeDiff, Nat.reduceLT, Int.reduceLE, Int.reduceLT, reduceCtorEq]
        refine hE.go ?_
        generalize elS n Q = S at *
        try simp only [OpK_eq, HKv, aggs_length, List.length_map, take6, List.drop_zero, Int.cast_ofNat_Int, go_sem, ↓reduceIte, Nat.reduceEqDiff, Nat.reduceAdd, Nat.reduceMul, Nat.reduceLeDiff, Nat.reduceLT, Int.reduceLE, Int.reduceLT, reduceCtorEq]
        refine ⟨fun g1 => by omega, fun g1 => ?_⟩
        refine (p202o n S hM.srm (by omega)).mono fun v s ⟨hT, hF⟩ => ?_
        try simp only [OpK_eq, HKv, take6, List.drop_zero, Int.cast_ofNat_Int, go_sem, ↓reduceIte, Nat.reduceEqDiff, Nat.reduceAdd, Nat.reduceMul, Nat.reduceLeDiff, Nat.reduceLT, Int.reduceLE, Int.reduceLT, reduceCtorEq]
        exact Kv.Fin.now (.inr ⟨v, n, S, rfl, hT, hF, hM, by omega⟩)
  · exact (p167_out t (by omega) h6 hl).mono fun v s ⟨hv, hs⟩ => .inl ⟨_, hl, hv, hs⟩
end Go.Proofs.YthbbjbfbeaiphaaGreat
end
section
/- The draws of tables: renamed tables. -/
namespace Go.Proofs.YthbbjbfbeaiphaaGreat
open Go.Kv
set_option maxRecDepth 100000
def k119_b0 : KC := (.seq (.seq (.ops [mV 11 6, mV 12 0, oP 13 (.len false (.t 12)), oP 14 (.bin .lss (.t 11) (.t 13))])
  (.cond (.t 14) .skip (.exit 0)))
  (.seq (.block 1 (.ops [mV 17 5, mV 18 0, oP 19 (.len false (.t 18)), oP 20 (.mks 2 1 (.int .i64 0) (.t 19) (.t 19)), oP 21 (.bsl true 27 1 [(.t 20)]), oP 22 (.app (.t 17) (.t 21) 27 1), mV 5 22]))
  (.ops [mV 15 6, oP 16 (.bin .add (.t 15) (iC 1)), mV 6 16])))
def k119_b1 : KC := (.seq (.seq (.ops [mV 29 8, mV 30 0, oP 31 (.len false (.t 30)), oP 32 (.bin .lss (.t 29) (.t 31))])
  (.cond (.t 32) .skip (.exit 4)))
  (.seq (.block 5 (.seq (.ops [mV 35 5, mV 36 1, mV 37 7, oP 38 (.idxS 1 (.t 36) (.t 37)), oP 39 (.load false 1 (.t 38)), oP 40 (.idxS 1 (.t 35) (.t 39)), oP 41 (.load false 1 (.t 40)), mV 9 41])
  (.draw [mV 42 9, mV 43 1, mV 44 8, oP 45 (.idxS 1 (.t 43) (.t 44)), oP 46 (.load false 1 (.t 45)), mV 47 1, mV 48 0, mV 49 7, oP 50 (.idxS 1 (.t 48) (.t 49)), oP 51 (.load false 1 (.t 50)), mV 52 8, oP 53 (.idxS 1 (.t 51) (.t 52)), oP 54 (.load false 1 (.t 53)), oP 55 (.idxS 1 (.t 47) (.t 54)), oP 56 (.load false 1 (.t 55)), oP 57 (.idxS 1 (.t 42) (.t 46)), ⟨none, none, .store 1 (.t 57) (.t 56)⟩])))
  (.ops [mV 33 8, oP 34 (.bin .add (.t 33) (iC 1)), mV 8 34])))
def k119_b2 : KC := (.seq (.seq (.ops [mV 23 7, mV 24 0, oP 25 (.len false (.t 24)), oP 26 (.bin .lss (.t 23) (.t 25))])
  (.cond (.t 26) .skip (.exit 2)))
  (.seq (.block 3 (.seq (.ops [oP 8 (.mv (iC 0))])
  (.block 4 (.loop k119_b1))))
  (.ops [mV 27 7, oP 28 (.bin .add (.t 27) (iC 1)), mV 7 28])))
def k119 : KC := (.seq (.ops [oP 4 (.mv (.c (.nils)))])
  (.seq (.ops [oP 10 (.bsl false 27 1 []), mV 5 10])
  (.seq (.seq (.ops [oP 6 (.mv (iC 0))])
  (.block 0 (.loop k119_b0)))
  (.seq (.seq (.ops [oP 7 (.mv (iC 0))])
  (.block 2 (.loop k119_b2)))
  (.seq (.ops [mV 58 5, mV 4 58])
  .ret)))))
theorem e119 : Ent 119 59 [21] [.t 4] k119 := ent Tryz.func119 (by kernel_rfl) (by kernel_rfl) (by kernel_rfl) (fun _ => by kernel_rfl) (by kernel_rfl)
end Go.Proofs.YthbbjbfbeaiphaaGreat
namespace Go.Proofs.YthbbjbfbeaiphaaGreat
open Go.Kv
set_option linter.unusedVariables false
set_option linter.unusedSimpArgs false
attribute [local irreducible] ACall PCall KL
/-- Square rows. -/
def Sq0 (n : Nat) (t : List (List Int)) : Prop := t.length = n ∧ ∀ r ∈ t, r.length = n
def In0 (n : Nat) (t : List (List Int)) : Prop := ∀ r ∈ t, ∀ x ∈ r, 0 ≤ x ∧ x < (n : Int)
theorem getD_in {l : List Int} {n i : Nat} (h : ∀ x ∈ l, 0 ≤ x ∧ x < (n : Int)) (hi : i < l.length) : 0 ≤ l.getD i 0 ∧ l.getD i 0 < (n : Int) := h _ (getD_memD hi)
theorem getD_memR {l : List (List Int)} {i : Nat} (h : i < l.length) : l.getD i [] ∈ l := by
  rw [List.getD_eq_getElem?_getD, List.getElem?_eq_getElem h]; exact List.getElem_mem _
theorem tabG_at {e2 e1 : TypeId} {σ : Heap} {id ver : Nat} {rs : List Rw} {t : List (List Int)} (h : TabG e2 e1 σ id ver rs t) {i : Nat} (hi : i < t.length) (hl : 1 ≤ (t.getD i []).length) :
    ∃ r, rs[i]? = some r ∧ r.nil = false ∧ (∃ junk, σ[id]? = some (.arr ver e2 1 (pvs rs t ++ junk)) ∧ (pvs rs t ++ junk)[i]? = some (.ref r.id r.ver r.pre.length (t.getD i []).length)) ∧ σ[r.id]? = some (.arr r.ver e1 1 (ints (r.pre ++ t.getD i [] ++ r.post))) := by
  have hir : i < rs.length := by rw [h.len]; exact hi
  have hr : rs[i]? = some rs[i] := List.getElem?_eq_getElem hir
  have ht : t[i]? = some (t.getD i []) := by rw [List.getD_eq_getElem?_getD, List.getElem?_eq_getElem hi]; rfl
  have hR := h.row i _ _ hr ht
  have hn : rs[i].nil = false := by
    cases hx : rs[i].nil with
    | false => rfl
    | true => rw [hR.nl hx] at hl; simp at hl
  obtain ⟨junk, ho⟩ := h.out
  refine ⟨rs[i], hr, hn, ⟨junk, ho, ?_⟩, hR.ow hn⟩
  rw [List.getElem?_append_left (by rw [pvs_length h.len]; exact hi)]
  simp only [pvs, List.getElem?_zipWith, hr, ht, Rw.pv, hn]
  rfl
theorem tabN_pos {e2 e1 : TypeId} {σ : Heap} {v : PV} {t : List (List Int)} (h : TabN e2 e1 σ v t) (h1 : 1 ≤ t.length) : ∃ id ver rs, v = .ref id ver 0 t.length ∧ TabG e2 e1 σ id ver rs t := by
  cases h with
  | nil => simp at h1
  | tab id ver rs _ hG => exact ⟨id, ver, rs, rfl, hG⟩
theorem set_mid {p l q : List Int} {k : Nat} {v : Int} (h : k < l.length) : (p ++ l ++ q).set (k + p.length) v = p ++ l.set k v ++ q := by
  rw [List.append_assoc, List.set_append_right _ _ (by omega), List.append_assoc, Nat.add_sub_cancel, List.set_append_left _ _ h]
theorem p119 (t : List (List Int)) (n : Nat) (h1 : 1 ≤ n) (hn : n ≤ 1000) (hT : Sq0 n t) (hI : In0 n t) (p : List Int) (hp : p.length = n) (hpi : ∀ x ∈ p, 0 ≤ x ∧ x < (n : Int)) :
    ACall Tryz.prog 119 [.list (rows t), .list (ints p)] [] fun v s => ∃ t', Sq0 n t' ∧ TabN 27 2 s v t' ∧ Free s := by
  obtain ⟨htl, hrl⟩ := hT
  refine e119 (by simp) fun _ _ => ?_
  simp only [k119, argEnv, take6, List.drop_zero, Int.cast_ofNat_Int, go_sem, ↓reduceIte, Nat.reduceEqDiff, Nat.reduceAdd, Nat.reduceMul, Nat.reduceLeDiff, Nat.reduceLT, Int.reduceLE, Int.reduceLT, reduceCtorEq]
  refine KL_ind k119_b0.eq_1 (fun y : Nat × PV × Heap => [(0, .list (rows t)), (1, .list (ints p)), (5, y.2.1), (6, .int .i64 y.1)]) (fun y => y.2.2) (fun y => y.1 ≤ n ∧ TabN 27 2 y.2.2 y.2.1 (List.replicate y.1 (List.replicate n 0)) ∧ Free y.2.2) (fun y => n - y.1) [0, 1, 5, 6] (0, .ref 0 0 0 0, [.arr 0 27 1 []]) (by simp [keep]) rfl ⟨Nat.zero_le _, TabN.empty, Free.empty _ _ _⟩ fun ⟨x, v, σ⟩ ⟨hx, hTx, hF⟩ ih => ?_
  simp only at hx hTx hF
  have hz : List.replicate n (PV.int .i64 0) = ints (List.replicate n 0) := by simp [ints]
  try simp only [OpK_eq, HKv, htl, take6, List.drop_zero, Int.cast_ofNat_Int, go_sem, ↓reduceIte, Nat.reduceEqDiff, Nat.reduceAdd, Nat.reduceMul, Nat.reduceLeDiff, Nat.reduceLT, Int.reduceLE, Int.reduceLT, reduceCtorEq]
  refine ⟨fun g1 => ?_, fun g1 => ?_⟩
  · refine ⟨⟨by omega, by omega⟩, hTx.pushRow hF (List.replicate n 0) (vr := 0) (n := n) (by simp) (by simp; omega) fun v' σ' q1 q2 => ?_⟩
    try simp only [OpK_eq, HKv, take6, List.drop_zero, Int.cast_ofNat_Int, go_sem, ↓reduceIte, Nat.reduceEqDiff, Nat.reduceAdd, Nat.reduceMul, Nat.reduceLeDiff, Nat.reduceLT, Int.reduceLE, Int.reduceLT, reduceCtorEq]
    refine ⟨by omega, ih (x + 1, v', σ') ⟨by show x + 1 ≤ n; omega, ?_, q2⟩ (by show n - (x + 1) < n - x; omega) _ _ (by simp [keep]) rfl⟩
    show TabN _ _ σ' v' (List.replicate (x + 1) (List.replicate n 0))
    rw [List.replicate_succ']; exact q1
  · obtain rfl : x = n := by omega
    obtain ⟨id, ver, rs, rfl, hG⟩ := tabN_pos hTx (by simp; omega)
    rw [List.length_replicate]
    have hsq : Sq0 x (List.replicate x (List.replicate x (0 : Int))) := ⟨by simp, fun r hr => by rw [List.eq_of_mem_replicate hr]; simp⟩
    refine KL_ind k119_b2.eq_1 (fun y : Nat × List (List Int) × Heap => [(0, .list (rows t)), (1, .list (ints p)), (5, .ref id ver 0 x), (7, .int .i64 y.1)]) (fun y => y.2.2) (fun y => y.1 ≤ x ∧ Sq0 x y.2.1 ∧ TabG 27 2 y.2.2 id ver rs y.2.1 ∧ Free y.2.2) (fun y => x - y.1) [0, 1, 5, 7] (0, _, σ) (by simp [keep]) rfl ⟨Nat.zero_le _, hsq, hG, hF⟩ fun ⟨a, ta, τ⟩ ⟨ha, hs, hGa, hFa⟩ iha => ?_
    clear hG hF ih hsq
    simp only at ha hs hGa hFa
    try simp only [OpK_eq, HKv, htl, take6, List.drop_zero, Int.cast_ofNat_Int, go_sem, ↓reduceIte, Nat.reduceEqDiff, Nat.reduceAdd, Nat.reduceMul, Nat.reduceLeDiff, Nat.reduceLT, Int.reduceLE, Int.reduceLT, reduceCtorEq]
    refine ⟨fun g2 => ?_, fun g2 => ?_⟩
    · refine KL_ind k119_b1.eq_1 (fun y : Nat × List (List Int) × Heap => [(0, .list (rows t)), (1, .list (ints p)), (5, .ref id ver 0 x), (7, .int .i64 a), (8, .int .i64 y.1)]) (fun y => y.2.2) (fun y => y.1 ≤ x ∧ Sq0 x y.2.1 ∧ TabG 27 2 y.2.2 id ver rs y.2.1 ∧ Free y.2.2) (fun y => x - y.1) [0, 1, 5, 7, 8] (0, ta, τ) (by simp [keep]) rfl ⟨Nat.zero_le _, hs, hGa, hFa⟩ fun ⟨b, tb, ρ⟩ ⟨hb, hsb, hGb, hFb⟩ ihb => ?_
      clear hGa hFa
      simp only at hb hsb hGb hFb
      obtain ⟨s1, s2⟩ := hsb
      have hat := fun (i : Nat) (hi : i < x) => tabG_at hGb (i := i) (by omega) (by rw [s2 _ (getD_memR (by omega))]; omega)
      try simp only [OpK_eq, HKv, htl, take6, List.drop_zero, Int.cast_ofNat_Int, go_sem, ↓reduceIte, Nat.reduceEqDiff, Nat.reduceAdd, Nat.reduceMul, Nat.reduceLeDiff, Nat.reduceLT, Int.reduceLE, Int.reduceLT, reduceCtorEq]
      refine ⟨fun g3 => ?_, fun g3 => ?_⟩
      · have hpa := getD_in hpi (i := a) (by omega)
        have hpb := getD_in hpi (i := b) (by omega)
        obtain ⟨i, hi⟩ : ∃ i : Nat, p.getD a 0 = (i : Int) := ⟨(p.getD a 0).toNat, by omega⟩
        obtain ⟨k, hk⟩ : ∃ k : Nat, p.getD b 0 = (k : Int) := ⟨(p.getD b 0).toNat, by omega⟩
        rw [hi] at hpa
        rw [hk] at hpb
        obtain ⟨r, r1, r2, ⟨junk, r3, r4⟩, r5⟩ := hat i (by omega)
        have r6 : (tb.getD i []).length = x := s2 _ (getD_memR (by omega))
        have hra : (t.getD a []).length = x := hrl _ (getD_memR (by omega))
        have hrb : 0 ≤ (t.getD a []).getD b 0 ∧ (t.getD a []).getD b 0 < (x : Int) := getD_in (hI _ (getD_memR (by omega))) (by omega)
        obtain ⟨m, hm⟩ : ∃ m : Nat, (t.getD a []).getD b 0 = (m : Int) := ⟨((t.getD a []).getD b 0).toNat, by omega⟩
        rw [hm] at hrb
        have r7 := pvs_length hGb.len
        simp only [hi, r3, r4]
        try simp only [OpK_eq, HKv, htl, hp, hk, hm, hra, r3, r4, r5, r6, take6, List.drop_zero, Int.cast_ofNat_Int, go_sem, ↓reduceIte, Nat.reduceEqDiff, Nat.reduceAdd, Nat.reduceMul, Nat.reduceLeDiff, Nat.reduceLT, Int.reduceLE, Int.reduceLT, reduceCtorEq]
        refine ⟨by omega, fun _ => ⟨⟨by omega, by omega⟩, ?_⟩⟩
        try simp only [OpK_eq, HKv, htl, hp, hk, hm, hra, r3, r4, r5, r6, take6, List.drop_zero, Int.cast_ofNat_Int, go_sem, ↓reduceIte, Nat.reduceEqDiff, Nat.reduceAdd, Nat.reduceMul, Nat.reduceLeDiff, Nat.reduceLT, Int.reduceLE, Int.reduceLT, reduceCtorEq]
        have htb : tb[i]? = some (tb.getD i []) := by rw [List.getD_eq_getElem?_getD, List.getElem?_eq_getElem (by omega)]; rfl
        have hset := hGb.set r1 r2 htb (m := (tb.getD i []).set k (p.getD m 0)) (by simp)
        rw [← set_mid (by omega)] at hset
        exact ⟨by omega, by omega, fun _ => ⟨by omega, fun _ => ⟨by omega, fun _ => ⟨by omega, fun _ => ⟨⟨by omega, by omega⟩, by omega, fun _ => ⟨by omega, ihb (b + 1, _, _) ⟨by show b + 1 ≤ x; omega, ⟨by rw [List.length_set]; exact s1, fun q hq => by
          rcases List.mem_or_eq_of_mem_set hq with hq | rfl
          · exact s2 q hq
          · rw [List.length_set]; exact r6⟩, hset, Free.set hFb _ (free_ints _)⟩ (by show x - (b + 1) < x - b; omega) _ _ (by simp [keep]) rfl⟩⟩⟩⟩⟩⟩
      · obtain rfl : b = x := by omega
        try simp only [OpK_eq, HKv, take6, List.drop_zero, Int.cast_ofNat_Int, go_sem, ↓reduceIte, Nat.reduceEqDiff, Nat.reduceAdd, Nat.reduceMul, Nat.reduceLeDiff, Nat.reduceLT, Int.reduceLE, Int.reduceLT, reduceCtorEq]
        exact ⟨by omega, iha (a + 1, tb, ρ) ⟨by show a + 1 ≤ b; omega, ⟨s1, s2⟩, hGb, hFb⟩ (by show b - (a + 1) < b - a; omega) _ _ (by simp [keep]) rfl⟩
    · try simp only [OpK_eq, HKv, take6, List.drop_zero, Int.cast_ofNat_Int, go_sem, ↓reduceIte, Nat.reduceEqDiff, Nat.reduceAdd, Nat.reduceMul, Nat.reduceLeDiff, Nat.reduceLT, Int.reduceLE, Int.reduceLT, reduceCtorEq]
      exact Kv.Fin.now ⟨ta, hs, hs.1 ▸ .tab id ver rs ta hGa, hFa⟩
end Go.Proofs.YthbbjbfbeaiphaaGreat
end
section
/- The draws of tables. -/
namespace Go.Proofs.YthbbjbfbeaiphaaGreat
open Go.Kv
set_option maxRecDepth 100000
def k131_b0 : KC := (.seq (.seq (.ops [mV 9 5, oP 10 (.bin .lss (.t 9) (iC 12))])
  (.cond (.t 10) .skip (.exit 0)))
  (.seq (.block 1 (.seq (.ops [mV 13 0, mV 14 0, oP 15 (.bsl false 2 1 [(iC 1), (iC 2), (iC 2), (iC 3)]), oP 16 (.call (fC 58) [(.t 14), (.t 15)]), oP 17 (.call (fC 69) [(.t 13), (.t 16)]), mV 6 17])
  (.seq (.ops [mV 19 6, oP 20 (.call (fC 167) [(.t 19)]), mV 18 20, oP 21 (.extr 0 (.t 18)), oP 22 (.extr 1 (.t 18)), mV 7 21, mV 8 22])
  (.seq (.ops [mV 23 8, oP 24 (.bin .eql (.t 23) (iC 0)), mV 25 24, ⟨(some 26), some (25, true), .mv (.t 7)⟩, ⟨(some 27), some (25, true), .len false (.t 26)⟩, ⟨(some 28), some (25, true), .mv (.t 1)⟩, ⟨(some 29), some (25, true), .bin .leq (.t 27) (.t 28)⟩, oP 30 (.pick (.t 25) (.t 29) (.c (.bool false)))])
  (.cond (.t 30) (.seq (.ops [mV 31 7, mV 4 31])
  .ret) .skip)))))
  (.ops [mV 11 5, oP 12 (.bin .add (.t 11) (iC 1)), mV 5 12])))
def k131 : KC := (.seq (.ops [oP 4 (.mv (.c (.nils)))])
  (.seq (.seq (.ops [oP 5 (.mv (iC 0))])
  (.block 0 (.loop k131_b0)))
  (.seq (.ops [oP 32 (.bsl false 2 1 [(iC 0), (iC 1)]), oP 33 (.bsl false 2 1 [(iC 1), (iC 0)]), oP 34 (.bsl false 27 1 [(.t 32), (.t 33)]), mV 4 34])
  .ret)))
theorem e131 : Ent 131 35 [] [.t 4] k131 := ent Tryz.func131 (by kernel_rfl) (by kernel_rfl) (by kernel_rfl) (fun _ => by kernel_rfl) (by kernel_rfl)
def k64 : KC := (.seq (.ops [oP 4 (.mv (.c (.nils)))])
  (.seq (.ops [mV 7 0, mV 8 1, oP 9 (.call (fC 131) [(.t 7), (.t 8)]), mV 5 9])
  (.seq (.seq (.ops [mV 10 0, oP 11 (.call (fC 56) [(.t 10), (iC 12)])])
  (.block 0 (.seq (.ops [oP 13 (.bin .eql (.t 11) (iC 0)), mV 12 13])
  (.cond (.t 12) (.seq (.ops [mV 14 5, mV 15 0, mV 16 5, oP 17 (.len false (.t 16)), oP 18 (.call (fC 56) [(.t 15), (.t 17)]), oP 19 (.idxS 1 (.t 14) (.t 18)), oP 20 (.load false 1 (.t 19)), mV 6 20])
  (.ops [mV 21 6, mV 22 0, mV 23 5, oP 24 (.len false (.t 23)), oP 25 (.call (fC 56) [(.t 22), (.t 24)]), mV 26 0, mV 27 5, oP 28 (.len false (.t 27)), mV 29 0, oP 30 (.call (fC 56) [(.t 29), (iC 4)]), oP 31 (.bin .quo (.t 30) (iC 3)), oP 32 (.bin .add (.t 28) (.t 31)), oP 33 (.call (fC 56) [(.t 26), (.t 32)]), oP 34 (.idxS 1 (.t 21) (.t 25)), ⟨none, none, .store 1 (.t 34) (.t 33)⟩])) (.seq (.ops [oP 36 (.bin .eql (.t 11) (iC 1)), mV 35 36])
  (.cond (.t 35) (.ops [mV 37 5, mV 38 0, mV 39 5, oP 40 (.len false (.t 39)), oP 41 (.call (fC 57) [(.t 38), (.t 40)]), oP 42 (.call (fC 119) [(.t 37), (.t 41)]), mV 5 42]) (.seq (.ops [oP 44 (.bin .eql (.t 11) (iC 2)), mV 43 44])
  (.cond (.t 43) (.seq (.ops [mV 45 0, oP 46 (.call (fC 56) [(.t 45), (iC 4)]), oP 47 (.bin .eql (.t 46) (iC 0))])
  (.cond (.t 47) (.ops [mV 48 5, oP 49 (.bsl false 2 1 [(iC 0)]), oP 50 (.bsl true 27 1 [(.t 49)]), oP 51 (.app (.t 48) (.t 50) 27 1), mV 5 51]) .skip)) .skip))))))))
  (.seq (.ops [mV 52 5, mV 4 52])
  .ret))))
theorem e64 : Ent 64 53 [50] [.t 4] k64 := ent Tryz.func64 (by kernel_rfl) (by kernel_rfl) (by kernel_rfl) (fun _ => by kernel_rfl) (by kernel_rfl)
end Go.Proofs.YthbbjbfbeaiphaaGreat
namespace Go.Proofs.YthbbjbfbeaiphaaGreat
open Go.Kv
set_option linter.unusedVariables false
set_option linter.unusedSimpArgs false
attribute [local irreducible] ACall PCall KL
theorem isTab_sq {t : List (List Int)} (h : isTab t = true) : (1 ≤ t.length ∧ t.length ≤ 40) ∧ Sq0 t.length t ∧ In0 t.length t := by
  simp only [isTab, Bool.and_eq_true, decide_eq_true_eq, List.all_eq_true] at h
  refine ⟨h.1, ⟨rfl, fun r hr => ?_⟩, fun r hr x hx => ?_⟩
  · have := h.2 r hr
    simp only [rowOk, Bool.and_eq_true, decide_eq_true_eq, List.all_eq_true] at this
    exact this.1
  · have := h.2 r hr
    simp only [rowOk, Bool.and_eq_true, decide_eq_true_eq, List.all_eq_true] at this
    have := this.2 x hx
    omega
/-- A table of one's own, beside the source. -/
structure TT (σ τ : Heap) (b : Nat) (l : List Int) (id ver : Nat) (rs : List Rw) (t : List (List Int)) : Prop where
  src : Src τ b l
  kept : Kept σ τ b
  tab : TabG 27 2 τ id ver rs t
  ge : σ.length ≤ id ∧ ∀ r ∈ rs, r.nil = false → σ.length ≤ r.id
  lt : b < σ.length
theorem TT.step {σ τ τ' : Heap} {b : Nat} {l : List Int} {id ver : Nat} {rs : List Rw} {t : List (List Int)} (h : TT σ τ b l id ver rs t) (hS : Src τ' b l) (hK : Kept τ τ' b) : TT σ τ' b l id ver rs t := by
  have h3 := h.lt
  have h4 := h.tab.lt
  refine ⟨hS, h.kept.trans hK, h.tab.keep (hK.2 _ h4.1 (by have := h.ge.1; omega)) (fun r hr hn => hK.2 _ (h4.2 r hr hn) (by have := h.ge.2 r hr hn; omega)), h.ge, h.lt⟩
theorem own_tt {σ τ τ' : Heap} {b : Nat} {l : List Int} {x : PV} {t : List (List Int)} (hS : Src τ b l) (hK : Kept σ τ b) (hb : b < σ.length) (h : OwnT 27 2 τ' τ.length τ'.length x t) (hp : ∀ j, j < τ.length → τ'[j]? = τ[j]?) (hl : τ.length ≤ τ'.length) (h1 : 1 ≤ t.length) : ∃ id ver rs, x = .ref id ver 0 t.length ∧ TT σ τ' b l id ver rs t := by
  have hk := hK.1
  cases h with
  | nil => simp at h1
  | tab id ver rs _ hG g1 g2 =>
    exact ⟨id, ver, rs, rfl, hS.keep (hp b (by omega)), hK.trans ⟨hl, fun j hj _ => hp j hj⟩, hG, ⟨by omega, fun r hr hn => by have := (g2 r hr hn).1; omega⟩, hb⟩
/-- The call of TableOf at any heap. -/
theorem tableL {σ τ : Heap} {b : Nat} {l : List Int} (hS : Src τ b l) (hK0 : Kept σ τ b) (hb : b < σ.length) (t : List (List Int)) (h7 : t.length ≤ 1000) (h6 : ∀ r ∈ t, r.length = 6) {K : PV → Heap → Prop}
    (hN : ∀ c : Int, c ≠ 0 → K (.tup [.nils, .int .i64 c]) τ) (hY : ∀ id ver rs t' τ', TT σ τ' b l id ver rs t' → isTab t' = true → K (.tup [.ref id ver 0 t'.length, .int .i64 0]) τ') : ACall Tryz.prog 167 [.list (aggs t)] τ K := by
  refine ACall.lend (p167o t h7 h6) (.cons Imm.still (.nil _)) fun v s hv => ?_
  rcases hv with ⟨c, hc, rfl, rfl⟩ | ⟨x, n, S, rfl, hT, hF, hM, h40⟩
  · refine ⟨⟨free_tup fun c hc => ?_, fun o ho => by cases ho⟩, ?_⟩
    · simp only [List.mem_cons, List.not_mem_nil, or_false] at hc
      rcases hc with rfl | rfl
      · exact Plain.nils.fr
      · exact (Plain.int _ _).fr
    · simpa only [ren_tup, ren_nils, ren_int, List.map_cons, List.map_nil, List.append_nil] using hN c hc
  · refine ⟨⟨free_tup fun c hc => ?_, hF⟩, ?_⟩
    · simp only [List.mem_cons, List.not_mem_nil, or_false] at hc
      rcases hc with rfl | rfl
      · exact hT.up
      · exact (Plain.int _ _).fr
    · have hI := hM.isTab h40
      have h1 := (isTab_sq hI).1.1
      have hO : OwnT 27 2 s 0 s.length x (tabM n S) := by
        generalize tabM n S = T at hT
        cases hT with
        | nil => exact .nil
        | tab id ver rs _ h => exact .tab id ver rs _ h ⟨Nat.zero_le _, h.lt.1⟩ fun r hr hn => ⟨Nat.zero_le _, h.lt.2 r hr hn⟩
      have h2 := hO.shift τ
      have e : (τ ++ s.map (AObj.ren (Kv.sh τ.length))).length = s.length + τ.length := by simp; omega
      rw [Nat.zero_add, ← e] at h2
      obtain ⟨id, ver, rs, e2, hTT⟩ := own_tt hS hK0 hb h2 (fun j hj => List.getElem?_append_left hj) (by simp) h1
      have := hY id ver rs _ _ hTT hI
      simpa only [ren_tup, ren_int, List.map_cons, List.map_nil, e2] using this
theorem p131 {l : List Int} (hl : Byt l) {σ : Heap} {b : Nat} (hS : Src σ b l) (most : Int) {K : PV → Heap → Prop}
    (hK : ∀ id ver rs t τ, TT σ τ b l id ver rs t → isTab t = true → K (.ref id ver 0 t.length) τ) : ACall Tryz.prog 131 [.ptr b 0, .int .i64 most] σ K := by
  have hlt := hS.lt
  refine e131 (by simp) fun _ _ => ?_
  simp only [k131, argEnv, take6, List.drop_zero, Int.cast_ofNat_Int, go_sem, ↓reduceIte, Nat.reduceEqDiff, Nat.reduceAdd, Nat.reduceMul, Nat.reduceLeDiff, Nat.reduceLT, Int.reduceLE, Int.reduceLT, reduceCtorEq]
  refine KL_ind k131_b0.eq_1 (fun y : Nat × Heap × PV × PV × PV × PV => [(0, .ptr b 0), (1, .int .i64 most), (5, .int .i64 y.1), (26, y.2.2.1), (27, y.2.2.2.1), (28, y.2.2.2.2.1), (29, y.2.2.2.2.2)]) (fun y => y.2.1) (fun y => y.1 ≤ 12 ∧ Src y.2.1 b l ∧ Kept σ y.2.1 b) (fun y => 12 - y.1) [0, 1, 5, 26, 27, 28, 29] (0, σ, .undef, .undef, .undef, .undef) (by simp [keep]) rfl ⟨Nat.zero_le _, hS, Kept.refl _ _⟩ fun ⟨k, τ, v1, v2, v3, v4⟩ ⟨hk, hS1, hK1⟩ ih => ?_
  simp only at hk hS1 hK1
  try simp only [OpK_eq, HKv, take6, List.drop_zero, Int.cast_ofNat_Int, go_sem, ↓reduceIte, Nat.reduceEqDiff, Nat.reduceAdd, Nat.reduceMul, Nat.reduceLeDiff, Nat.reduceLT, Int.reduceLE, Int.reduceLT, reduceCtorEq]
  refine ⟨fun g1 => ?_, fun g1 => ?_⟩
  · refine p58 hl (hS1.app _) [1, 2, 2, 3] (by simp) (id := τ.length) (ver := 0) (e := 2) (by simp [ints]) (by have := hS1.lt; omega) 4 rfl fun r ρ h2 h4 h5 h6 => ?_
    obtain ⟨n, rfl, hn1, hn5⟩ : ∃ n : Nat, r = n ∧ 1 ≤ n ∧ n ≤ 5 := by
      simp only [List.mem_cons, List.not_mem_nil, or_false] at h2
      exact ⟨r.toNat, by omega, by omega, by omega⟩
    have hK2 := (hK1.trans (Kept.app _ _ _)).trans h5
    clear h2 h5 h6
    try simp only [OpK_eq, HKv, take6, List.drop_zero, Int.cast_ofNat_Int, go_sem, ↓reduceIte, Nat.reduceEqDiff, Nat.reduceAdd, Nat.reduceMul, Nat.reduceLeDiff, Nat.reduceLT, Int.reduceLE, Int.reduceLT, reduceCtorEq]
    refine p69 hl h4 n hn1 hn5 fun t ρ2 q1 q2 q3 q4 q5 => ?_
    have hK3 := hK2.trans q5
    try simp only [OpK_eq, HKv, take6, List.drop_zero, Int.cast_ofNat_Int, go_sem, ↓reduceIte, Nat.reduceEqDiff, Nat.reduceAdd, Nat.reduceMul, Nat.reduceLeDiff, Nat.reduceLT, Int.reduceLE, Int.reduceLT, reduceCtorEq]
    refine tableL (σ := σ) q4 hK3 hlt t (by omega) (fun r hr => (q3 r hr).1) (fun c hc => ?_) (fun id ver rs t' τ' hT hI => ?_)
    · try simp only [OpK_eq, HKv, take6, List.drop_zero, Int.cast_ofNat_Int, go_sem, ↓reduceIte, Nat.reduceEqDiff, Nat.reduceAdd, Nat.reduceMul, Nat.reduceLeDiff, Nat.reduceLT, Int.reduceLE, Int.reduceLT, reduceCtorEq]
      refine ⟨fun h => absurd h hc, fun _ => ⟨by omega, ih (k + 1, ρ2, _, _, _, _) ⟨by show k + 1 ≤ 12; omega, q4, hK3⟩ (by show 12 - (k + 1) < 12 - k; omega) _ _ (by simp [keep]; exact ⟨rfl, rfl, rfl, rfl⟩) rfl⟩⟩
    · obtain ⟨junk, ho⟩ := hT.tab.out
      have hpl := pvs_length hT.tab.len
      try simp only [OpK_eq, HKv, ho, take6, List.drop_zero, Int.cast_ofNat_Int, go_sem, ↓reduceIte, Nat.reduceEqDiff, Nat.reduceAdd, Nat.reduceMul, Nat.reduceLeDiff, Nat.reduceLT, Int.reduceLE, Int.reduceLT, reduceCtorEq]
      refine ⟨fun _ => Kv.Fin.now (hK id ver rs t' τ' hT hI), fun _ => ⟨by omega, ih (k + 1, τ', _, _, _, _) ⟨by show k + 1 ≤ 12; omega, hT.src, hT.kept⟩ (by show 12 - (k + 1) < 12 - k; omega) _ _ (by simp [keep]; exact ⟨rfl, rfl, rfl, rfl⟩) rfl⟩⟩
  · refine Kv.Fin.now (hK (τ.length + 2) 0 [⟨false, τ.length, 0, [], []⟩, ⟨false, τ.length + 1, 0, [], []⟩] [[0, 1], [1, 0]] _ ⟨(hS1.app _).app _ |>.app _, ((hK1.trans (Kept.app _ _ _)).trans (Kept.app _ _ _)).trans (Kept.app _ _ _), ?_, ⟨by have := hK1.1; omega, ?_⟩, hlt⟩ (by decide))
    · have hk1 := hK1.1
      have e0 : (τ ++ [AObj.arr 0 2 1 [PV.int .i64 0, PV.int .i64 1]] ++ [AObj.arr 0 2 1 [PV.int .i64 1, PV.int .i64 0]] ++ [AObj.arr 0 27 1 [PV.ref τ.length 0 0 2, PV.ref (τ.length + 1) 0 0 2]]) = τ ++ [AObj.arr 0 2 1 [PV.int .i64 0, PV.int .i64 1], AObj.arr 0 2 1 [PV.int .i64 1, PV.int .i64 0], AObj.arr 0 27 1 [PV.ref τ.length 0 0 2, PV.ref (τ.length + 1) 0 0 2]] := by simp
      rw [e0]
      have hg : ∀ (j : Nat) (X : Heap), (τ ++ X)[τ.length + j]? = X[j]? := fun j X => by rw [List.getElem?_append_right (by omega)]; congr 1; omega
      refine ⟨⟨[], by rw [hg]; rfl⟩, rfl, fun i r m hr hm => ?_, fun i j r q hr hq _ _ he => ?_, fun r hr _ => ?_⟩
      · rcases i with _ | _ | i
        · cases hr; cases hm
          exact ⟨fun h => (by cases h), fun _ => (hg 0 _).trans rfl⟩
        · cases hr; cases hm
          exact ⟨fun h => (by cases h), fun _ => (hg 1 _).trans rfl⟩
        · simp at hr
      · rcases i with _ | _ | i <;> rcases j with _ | _ | j <;> first | rfl | (simp at hr; done) | (simp at hq; done) | (cases hr; cases hq; simp at he)
      · simp only [List.mem_cons, List.not_mem_nil, or_false] at hr
        rcases hr with rfl | rfl <;> simp
    · intro r hr _
      have hk1 := hK1.1
      simp only [List.mem_cons, List.not_mem_nil, or_false] at hr
      rcases hr with rfl | rfl
      · exact hk1
      · show σ.length ≤ τ.length + 1; omega
theorem tabG_push {e2 e1 : TypeId} {σ : Heap} {id ver : Nat} {rs : List Rw} {t : List (List Int)} (h : TabG e2 e1 σ id ver rs t) {junk : List PV} (l : List Int) :
    TabG e2 e1 ((σ ++ [AObj.arr 0 e1 1 (ints l)]).set id (AObj.arr (ver + 1) e2 1 (List.take t.length (pvs rs t ++ junk) ++ [PV.ref σ.length 0 0 l.length]))) id (ver + 1) (rs ++ [⟨false, σ.length, 0, [], []⟩]) (t ++ [l]) := by
  have hpl := pvs_length h.len
  have hlt := h.lt
  have htk : (pvs rs t ++ junk).take t.length ++ [PV.ref σ.length 0 0 l.length] = pvs (rs ++ [⟨false, σ.length, 0, [], []⟩]) (t ++ [l]) := by
    rw [pvs_snoc h.len, ← hpl, List.take_left]; rfl
  rw [htk]
  have hid : id < (σ ++ [AObj.arr 0 e1 1 (ints l)]).length := by simp; omega
  have hlast : ∀ (k : Nat) (x : Rw), (rs ++ [(⟨false, σ.length, 0, [], []⟩ : Rw)])[k]? = some x → (k < rs.length ∧ rs[k]? = some x) ∨ (k = rs.length ∧ x = ⟨false, σ.length, 0, [], []⟩) := fun k x hx => by
    rw [List.getElem?_append] at hx
    split at hx
    · rename_i hk; exact .inl ⟨hk, hx⟩
    · have h5 := (List.getElem?_eq_some_iff.1 hx).1
      have h4 := List.mem_of_getElem? hx
      simp at h4 h5
      exact .inr ⟨by omega, h4⟩
  refine ⟨⟨[], by rw [List.getElem?_set_self hid, List.append_nil]⟩, by simp [h.len], fun i q m hq hm => ?_, fun i j q p hq hp h1 h2 h3 => ?_, fun q hq hqn => ?_⟩
  · rcases hlast i q hq with ⟨hi, hq⟩ | ⟨hi, rfl⟩
    · rw [List.getElem?_append_left (by rw [← h.len]; exact hi)] at hm
      exact ((h.append _).row i q m hq hm).keep fun hqn => List.getElem?_set_ne (Ne.symm (h.ni q (List.mem_of_getElem? hq) hqn))
    · subst hi
      rw [h.len, List.getElem?_append_right (Nat.le_refl _), Nat.sub_self] at hm
      cases hm
      refine ⟨fun h => (by cases h), fun _ => ?_⟩
      rw [List.getElem?_set_ne (by show id ≠ σ.length; omega)]
      simp
  · rcases hlast i q hq with ⟨hi, hq⟩ | ⟨hi, rfl⟩ <;> rcases hlast j p hp with ⟨hj, hp⟩ | ⟨hj, rfl⟩
    · exact h.nd i j q p hq hp h1 h2 h3
    · have := hlt.2 q (List.mem_of_getElem? hq) h1
      simp only at h3; omega
    · have := hlt.2 p (List.mem_of_getElem? hp) h2
      simp only at h3; omega
    · omega
  · rcases List.mem_append.1 hq with hq | hq
    · exact h.ni q hq hqn
    · simp only [List.mem_singleton] at hq; subst hq
      simp only; omega
theorem next0 {l : List Int} (hl : Byt l) {σ ρ : Heap} {b id ver : Nat} {rs : List Rw} {t : List (List Int)} (h : TT σ ρ b l id ver rs t) (n : Int) {K : PV → Heap → Prop} (hK : ∀ (r : Int) ρ', 0 ≤ r → (1 ≤ n → r < n) → TT σ ρ' b l id ver rs t → K (.int .i64 r) ρ') : ACall Tryz.prog 56 [.ptr b 0, .int .i64 n] ρ K :=
  p56 hl h.src n fun r ρ' h1 h2 h3 h4 _ => hK r ρ' h1 h2 (h.step h3 h4)
theorem p64 {l : List Int} (hl : Byt l) {σ : Heap} {b : Nat} (hS : Src σ b l) (most : Int) {K : PV → Heap → Prop}
    (hK : ∀ id ver rs t τ, TT σ τ b l id ver rs t → (1 ≤ t.length ∧ t.length ≤ 41 ∧ ∀ r ∈ t, r.length ≤ 40) → K (.ref id ver 0 t.length) τ) : ACall Tryz.prog 64 [.ptr b 0, .int .i64 most] σ K := by
  have hlt := hS.lt
  refine e64 (by simp) fun _ _ => ?_
  simp only [k64, argEnv, take6, List.drop_zero, Int.cast_ofNat_Int, go_sem, ↓reduceIte, Nat.reduceEqDiff, Nat.reduceAdd, Nat.reduceMul, Nat.reduceLeDiff, Nat.reduceLT, Int.reduceLE, Int.reduceLT, reduceCtorEq]
  try simp only [OpK_eq, HKv, take6, List.drop_zero, Int.cast_ofNat_Int, go_sem, ↓reduceIte, Nat.reduceEqDiff, Nat.reduceAdd, Nat.reduceMul, Nat.reduceLeDiff, Nat.reduceLT, Int.reduceLE, Int.reduceLT, reduceCtorEq]
  refine p131 hl hS most fun id ver rs t τ hT hI => ?_
  obtain ⟨⟨t1, t40⟩, hsq, hin⟩ := isTab_sq hI
  have hfin : ∀ τ, TT σ τ b l id ver rs t → K (.ref id ver 0 t.length) τ := fun τ h => hK _ _ _ _ _ h ⟨t1, by omega, fun r hr => by rw [hsq.2 r hr]; exact t40⟩
  try simp only [OpK_eq, HKv, take6, List.drop_zero, Int.cast_ofNat_Int, go_sem, ↓reduceIte, Nat.reduceEqDiff, Nat.reduceAdd, Nat.reduceMul, Nat.reduceLeDiff, Nat.reduceLT, Int.reduceLE, Int.reduceLT, reduceCtorEq]
  refine next0 hl hT _ fun r0 ρ q0 q1 hT1 => ?_
  obtain ⟨junk, ho⟩ := hT1.tab.out
  have hpl := pvs_length hT1.tab.len
  have hol : t.length ≤ (pvs rs t ++ junk).length := by rw [List.length_append, hpl]; omega
  try simp only [OpK_eq, HKv, ho, hol, take6, List.drop_zero, Int.cast_ofNat_Int, go_sem, ↓reduceIte, Nat.reduceEqDiff, Nat.reduceAdd, Nat.reduceMul, Nat.reduceLeDiff, Nat.reduceLT, Int.reduceLE, Int.reduceLT, reduceCtorEq]
  refine ⟨fun _ => ?_, fun _ => ⟨fun _ => ?_, fun _ => ⟨fun _ => ?_, fun _ => ?_⟩⟩⟩
  · refine next0 hl hT1 _ fun r1 ρ1 q2 q3 hT2 => ?_
    have q3 := q3 (by omega)
    obtain ⟨i, rfl⟩ : ∃ i : Nat, r1 = i := ⟨r1.toNat, by omega⟩
    obtain ⟨r, k1, k2, ⟨junk2, k3, k4⟩, k5⟩ := tabG_at hT2.tab (i := i) (by omega) (by rw [hsq.2 _ (getD_memR (by omega))]; exact t1)
    have k6 : (t.getD i []).length = t.length := hsq.2 _ (getD_memR (by omega))
    have k7 := pvs_length hT2.tab.len
    have k8 : t.length ≤ (pvs rs t ++ junk2).length := by rw [List.length_append, k7]; omega
    try simp only [OpK_eq, HKv, k3, k4, k6, k8, take6, List.drop_zero, Int.cast_ofNat_Int, go_sem, ↓reduceIte, Nat.reduceEqDiff, Nat.reduceAdd, Nat.reduceMul, Nat.reduceLeDiff, Nat.reduceLT, Int.reduceLE, Int.reduceLT, reduceCtorEq]
    refine ⟨⟨by omega, by omega⟩, by omega, next0 hl hT2 _ fun r2 ρ2 m2 m3 hT3 => ?_⟩
    have m3 := m3 (by omega)
    obtain ⟨j, rfl⟩ : ∃ j : Nat, r2 = j := ⟨r2.toNat, by omega⟩
    obtain ⟨q, k1', k2', ⟨junk3, k3', k4'⟩, k5'⟩ := tabG_at hT3.tab (i := i) (by omega) (by rw [k6]; exact t1)
    rw [k1] at k1'; cases k1'
    have k7' := pvs_length hT3.tab.len
    have k8' : t.length ≤ (pvs rs t ++ junk3).length := by rw [List.length_append, k7']; omega
    try simp only [OpK_eq, HKv, k3', k6, k8', take6, List.drop_zero, Int.cast_ofNat_Int, go_sem, ↓reduceIte, Nat.reduceEqDiff, Nat.reduceAdd, Nat.reduceMul, Nat.reduceLeDiff, Nat.reduceLT, Int.reduceLE, Int.reduceLT, reduceCtorEq]
    refine next0 hl hT3 _ fun r3 ρ3 n2 n3 hT4 => ?_
    have n3 := n3 (by omega)
    have n4 : (0 : Int) ≤ r3 / 3 ∧ r3 / 3 ≤ 1 := by omega
    try simp only [OpK_eq, HKv, take6, List.drop_zero, Int.cast_ofNat_Int, go_sem, ↓reduceIte, Nat.reduceEqDiff, Nat.reduceAdd, Nat.reduceMul, Nat.reduceLeDiff, Nat.reduceLT, Int.reduceLE, Int.reduceLT, reduceCtorEq]
    refine ⟨n2, ⟨by omega, by omega⟩, ⟨by omega, by omega⟩, next0 hl hT4 _ fun r4 ρ4 n5 n6 hT5 => ?_⟩
    obtain ⟨q, k1', k2', ⟨junk4, k3', k4'⟩, k5'⟩ := tabG_at hT5.tab (i := i) (by omega) (by rw [k6]; exact t1)
    rw [k1] at k1'; cases k1'
    try simp only [OpK_eq, HKv, k5', k6, take6, List.drop_zero, Int.cast_ofNat_Int, go_sem, ↓reduceIte, Nat.reduceEqDiff, Nat.reduceAdd, Nat.reduceMul, Nat.reduceLeDiff, Nat.reduceLT, Int.reduceLE, Int.reduceLT, reduceCtorEq]
    have htb : t[i]? = some (t.getD i []) := by rw [List.getD_eq_getElem?_getD, List.getElem?_eq_getElem (by omega)]; rfl
    have hset := hT5.tab.set k1 k2 htb (m := (t.getD i []).set j r4) (by simp)
    rw [← set_mid (by omega)] at hset
    have hge := hT5.ge.2 r (List.mem_of_getElem? k1) k2
    have e1 : t.length = (t.set i ((t.getD i []).set j r4)).length := by simp
    refine ⟨⟨by omega, by omega⟩, by omega, fun _ => ?_⟩
    rw [e1]
    refine Kv.Fin.now (hK _ _ _ _ _ ⟨hT5.src.set2 (by omega) _, hT5.kept.set2 hge _, hset, hT5.ge, hlt⟩ ⟨by rw [← e1]; exact t1, by rw [← e1]; omega, fun x hx => ?_⟩)
    rcases List.mem_or_eq_of_mem_set hx with hx | rfl
    · rw [hsq.2 x hx]; exact t40
    · rw [List.length_set, k6]; exact t40
  · refine p57S hl hT1.src t.length (by omega) fun L id2 ver2 ρ1 p1 p2 p3 p4 p5 p6 => ?_
    have hT2 := hT1.step p3 p4
    try simp only [OpK_eq, HKv, take6, List.drop_zero, Int.cast_ofNat_Int, go_sem, ↓reduceIte, Nat.reduceEqDiff, Nat.reduceAdd, Nat.reduceMul, Nat.reduceLeDiff, Nat.reduceLT, Int.reduceLE, Int.reduceLT, reduceCtorEq]
    refine ACall.lend (p119 t t.length t1 (by omega) hsq hin L p1 p2.1) (.cons (hT2.tab.imm rfl) (.cons (Imm.refn p6 p1.symm) (.nil _))) fun v s ⟨t', s1, s2, s3⟩ => ⟨⟨s2.up, s3⟩, ?_⟩
    have h1' := s1.1
    have hO : OwnT 27 2 s 0 s.length v t' := by
      cases s2 with
      | nil => exact .nil
      | tab id ver rs _ h => exact .tab id ver rs _ h ⟨Nat.zero_le _, h.lt.1⟩ fun r hr hn => ⟨Nat.zero_le _, h.lt.2 r hr hn⟩
    have h2 := hO.shift ρ1
    have e : (ρ1 ++ s.map (AObj.ren (Kv.sh ρ1.length))).length = s.length + ρ1.length := by simp; omega
    rw [Nat.zero_add, ← e] at h2
    obtain ⟨id3, ver3, rs3, e2, hTT⟩ := own_tt hT2.src hT2.kept hlt h2 (fun j hj => List.getElem?_append_left hj) (by simp) (by omega)
    rw [e2]
    try simp only [OpK_eq, HKv, take6, List.drop_zero, Int.cast_ofNat_Int, go_sem, ↓reduceIte, Nat.reduceEqDiff, Nat.reduceAdd, Nat.reduceMul, Nat.reduceLeDiff, Nat.reduceLT, Int.reduceLE, Int.reduceLT, reduceCtorEq]
    exact Kv.Fin.now (hK _ _ _ _ _ hTT ⟨by omega, by omega, fun r hr => by rw [s1.2 r hr]; exact t40⟩)
  · refine next0 hl hT1 _ fun r1 ρ1 q2 q3 hT2 => ?_
    obtain ⟨junk2, k3⟩ := hT2.tab.out
    have k7 := pvs_length hT2.tab.len
    have k8 : t.length ≤ (pvs rs t ++ junk2).length := by rw [List.length_append, k7]; omega
    have k9 : ∀ X, (ρ1 ++ X)[id]? = some (.arr ver 27 1 (pvs rs t ++ junk2)) := fun X => (List.getElem?_append_left hT2.tab.lt.1).trans k3
    try simp only [OpK_eq, HKv, k3, k8, k9, take6, List.drop_zero, Int.cast_ofNat_Int, go_sem, ↓reduceIte, Nat.reduceEqDiff, Nat.reduceAdd, Nat.reduceMul, Nat.reduceLeDiff, Nat.reduceLT, Int.reduceLE, Int.reduceLT, reduceCtorEq]
    refine ⟨fun _ => ⟨⟨by omega, by omega⟩, ?_⟩, fun _ => Kv.Fin.now (hfin _ hT2)⟩
    have hp := tabG_push hT2.tab (junk := junk2) [0]
    have e1 : t.length + 1 = (t ++ [[(0 : Int)]]).length := by simp
    rw [e1]
    have hge := hT2.ge
    have hbid : id ≠ b := by omega
    refine Kv.Fin.now (hK _ _ _ _ _ ⟨(hT2.src.app _).set2 hbid _, (hT2.kept.trans (Kept.app _ _ _)).set2 hge.1 _, hp, ⟨hge.1, fun r hr hn => ?_⟩, hlt⟩ ⟨by simp, by simp; omega, fun r hr => ?_⟩)
    · rcases List.mem_append.1 hr with hr | hr
      · exact hge.2 r hr hn
      · simp only [List.mem_singleton] at hr; subst hr
        exact hT2.kept.1
    · rcases List.mem_append.1 hr with hr | hr
      · rw [hsq.2 r hr]; exact t40
      · simp only [List.mem_singleton] at hr; subst hr
        simp
  · exact Kv.Fin.now (hfin ρ hT1)
end Go.Proofs.YthbbjbfbeaiphaaGreat
end
