/- Several texts of this session as one, less what the claim does not need. -/
import Derived.Test.YthbbjbfbeaiphaaGreatZ15
import Derived.Test.YthbbjbfbeaiphaaGreatZ14
import Derived.Test.YthbbjbfbeaiphaaGreatZ13
import Derived.Test.YthbbjbfbeaiphaaGreatCb
import Derived.Test.YthbbjbfbeaiphaaGreatZ12
section
/- newMonoid. -/
namespace Go.Proofs.YthbbjbfbeaiphaaGreat
open Go.Kv
set_option linter.unusedVariables false
set_option linter.unusedSimpArgs false
attribute [local irreducible] ACall PCall KL
theorem p189P (l : List (List Int)) (h6 : ∀ m ∈ l, m.length = 6) (h0 : 0 < l.length) (hl : l.length ≤ 4294967296) : ACall Tryz.prog 189 [.list (aggs l)] [] (fun v s => v = .ref 0 1 0 l.length ∧ s = [.arr 1 60 6 (aggs l)]) := by
  cases l with
  | nil => simp at h0
  | cons x l =>
    refine e189 (by simp) fun _ _ => ?_
    simp only [k189, argEnv, take6, List.drop_zero, Int.cast_ofNat_Int, go_sem, ↓reduceIte, Nat.reduceEqDiff, Nat.reduceAdd, Nat.reduceMul, Nat.reduceLeDiff, Nat.reduceLT, Int.reduceLE, Int.reduceLT, reduceCtorEq]
    have e : ∀ K : Bool → Prop, aIsn (.list (aggs (x :: l))) K = K false := fun _ => rfl
    rw [e]
    try simp only [take6, List.drop_zero, Int.cast_ofNat_Int, go_sem, ↓reduceIte, Nat.reduceEqDiff, Nat.reduceAdd, Nat.reduceMul, Nat.reduceLeDiff, Nat.reduceLT, Int.reduceLE, Int.reduceLT, reduceCtorEq]
    refine ⟨?_, by simp at hl; omega, Kv.Fin.now ⟨rfl, rfl⟩⟩
    rw [okL_aggs]
    exact h6
theorem WG.keepQ {σ σ' : Heap} {A : Nat → Prop} {q ver : Nat} {ws : List PV} {L : List (List Int)} (h : WG σ A q ver ws L) (hk : ∀ id, id < σ.length → (¬ A id ∨ id = q) → σ'[id]? = σ[id]?) : WG σ' A q ver ws L :=
  ⟨(hk q (List.getElem?_eq_some_iff.1 h.out).1 (.inr rfl)).trans h.out, h.len, fun i w l hw hl => (h.row i w l hw hl).keep fun id hid hA => ⟨hk id hid (.inl fun h => hA (.inl h)), hA⟩⟩
theorem clB_ne {fs : List (List Nat)} {n : Nat} : ∀ {i : Nat} {Q : List (List Nat)}, clB fs n i = some Q → Q ≠ []
  | 0, Q, h => by
    have : [List.range n] = Q := by simpa [clB] using h
    subst this; simp
  | i + 1, Q, h => by
    rw [clB] at h
    cases hc : clB fs n i with
    | none => rw [hc] at h; cases h
    | some Q' =>
      have := clB_ne hc
      rw [hc] at h
      simp only at h
      split at h
      · obtain ⟨r, hr⟩ := clA_pre _ _ h
        rw [hr]; simp [this]
      · cases h; exact this
/-- The start: the identity alone is found. -/
theorem fd_nil {n N : Nat} {P : List Int} (hN : N = 3125) (hP : P = List.replicate N 0) : FdOk n P [] := by
  have hm : ∀ x ∈ P, x = 0 := fun x hx => by rw [hP] at hx; exact List.eq_of_mem_replicate hx
  refine ⟨by rw [hP, List.length_replicate, hN], fun x hx => by rw [hm x hx]; omega, fun f hf => ⟨fun j hj => (by rw [List.getElem?_nil] at hj; cases hj), fun _ => ?_⟩⟩
  rw [List.getD_eq_getElem?_getD]
  cases h : P[numK f 5]? with
  | none => rfl
  | some x => exact hm x (List.mem_of_getElem? h)
theorem fd_start {n : Nat} {P : List Int} (h1 : 1 ≤ n) (h5 : n ≤ 5) (h : FdOk n P []) : FdOk n (P.set (numK (List.range n) 5) 1) [List.range n] := by
  have := h.push (range_ok h1 h5) (fun h => nomatch h) (by decide)
  exact this
set_option maxHeartbeats 4000000 in
theorem p158_in (fs : List (List Nat)) (n : Nat) (h1 : 1 ≤ n) (h5 : n ≤ 5) (hf : ∀ f ∈ fs, Ok f n) (hfl : fs.length ≤ 1000) {K : PV → Heap → Prop}
    (hK1 : ∀ Q, clB fs n Q.length = some Q → (∀ f ∈ Q, Ok f n) → Q.length ≤ 300 → FdOk n (fdP Q P00) Q → K (.tup [.fptr (monV fs n Q) 0, .int .i64 0]) [])
    (hK2 : ∀ i, i ≤ 301 → clB fs n i = none → K (.tup [.nilptr, .int .i64 3]) []) : ACall Tryz.prog 158 [.list (aggs (fs.map mp)), .int .i64 n] [] K := by
  have h0k := range_ok h1 h5
  have h06 := h0k.mp_len
  have hN0 := num_lt h0k
  refine e158 (by simp) fun _ _ => ?_
  simp only [k158, argEnv, take6, List.drop_zero, Int.cast_ofNat_Int, go_sem, ↓reduceIte, Nat.reduceEqDiff, Nat.reduceAdd, Nat.reduceMul, Nat.reduceLeDiff, Nat.reduceLT, Int.reduceLE, Int.reduceLT, reduceCtorEq]
  generalize hP0 : List.replicate 3125 (0 : Int) = P0
  have hPl : P0.length = 3125 := by rw [← hP0]; exact List.length_replicate
  have hFd : FdOk n P0 [] := fd_nil rfl hP0.symm
  have hP1 : P0.set (numK (List.range n) 5) 1 = fdP [List.range n] P00 := by rw [← hP0]; rfl
  clear hP0
  refine (p73 n h1 h5).go ?_
  try simp only [OpK_eq, HKv, h06, take6, List.drop_zero, Int.cast_ofNat_Int, go_sem, ↓reduceIte, Nat.reduceEqDiff, Nat.reduceAdd, Nat.reduceMul, Nat.reduceLeDiff, Nat.reduceLT, Int.reduceLE, Int.reduceLT, reduceCtorEq]
  refine (p188 _ n h0k).pgo ?_
  try simp only [OpK_eq, HKv, h06, hPl, take6, List.drop_zero, Int.cast_ofNat_Int, go_sem, ↓reduceIte, Nat.reduceEqDiff, Nat.reduceAdd, Nat.reduceMul, Nat.reduceLeDiff, Nat.reduceLT, Int.reduceLE, Int.reduceLT, reduceCtorEq]
  refine ⟨by omega, by omega, ?_⟩
  refine KL_ind k158_b1.eq_1 (fun y : Nat × Nat × Nat × List PV × List (List Int) × List Int × List (List Nat) × Heap => [(0, .list (aggs (fs.map mp))), (6, .ptr 0 0), (7, .ref 1 y.2.1 0 y.2.2.2.2.2.2.1.length), (8, .ref 2 y.2.2.1 0 y.2.2.2.2.1.length), (9, .int .i64 y.1)]) (fun y => y.2.2.2.2.2.2.2)
    (fun ⟨i, u1, u2, ws, W, P, Q, σ⟩ => i ≤ Q.length ∧ clB fs n i = some Q ∧ (∀ f ∈ Q, Ok f n) ∧ Q.length ≤ 300 ∧ FdOk n P Q ∧ σ[0]? = some (.box (.nils :: .nils :: ints P)) ∧ σ[1]? = some (.arr u1 60 6 (aggs (Q.map mp))) ∧ WG σ (fun id => id = 0 ∨ id = 1) 2 u2 ws W ∧ W.length = Q.length ∧ (∀ w ∈ W, w.length + 1 ≤ W.length) ∧ P = fdP Q P00 ∧ W = clV fs n i) (fun y => 301 - y.1) [0, 6, 7, 8, 9]
    (0, 0, 0, [.nils], [[]], P0.set (numK (List.range n) 5) 1, [List.range n], _) (by simp [keep]) rfl ?_ fun ⟨i, u1, u2, ws, W, P, Q, σ⟩ ⟨j1, j2, j3, j4, j5, j6, j7, j8, j9, j10, j11, j12⟩ ih => ?_
  · refine ⟨Nat.zero_le _, rfl, fun f hf' => ?_, by simp, fd_start h1 h5 hFd, rfl, rfl, ⟨rfl, rfl, fun j w l hw hl => ?_⟩, rfl, fun w hw => ?_, hP1, rfl⟩
    · simp only [List.mem_singleton] at hf'; rw [hf']; exact h0k
    · have e1 := List.mem_of_getElem? hw
      have e2 := List.mem_of_getElem? hl
      simp only [List.mem_singleton] at e1 e2
      subst e1; subst e2
      exact .inl ⟨rfl, rfl⟩
    · simp only [List.mem_singleton] at hw; subst hw; simp
  try simp only at j1 j2 j3 j4 j5 j6 j7 j8 j9 j10 j11 j12
  try simp only [OpK_eq, HKv, j7, aggs_length, List.length_map, take6, List.drop_zero, Int.cast_ofNat_Int, go_sem, ↓reduceIte, Nat.reduceEqDiff, Nat.reduceAdd, Nat.reduceMul, Nat.reduceLeDiff, Nat.reduceLT, Int.reduceLE, Int.reduceLT, reduceCtorEq]
  refine ⟨fun g1 => ?_, fun g1 => ?_⟩
  · have hil : i < Q.length := by omega
    have hm? : Q[i]? = some Q[i] := List.getElem?_eq_getElem hil
    have hBs : clB fs n (i + 1) = clA fs Q[i] Q fs.length := by
      rw [clB, j2]
      simp only
      rw [hm?]
    have hVs : clV fs n (i + 1) = clW fs Q[i] Q (clV fs n i) i fs.length := by
      rw [clV, j2]
      simp only
      rw [hm?]
    have hmO := j3 _ (List.getElem_mem hil)
    generalize hm : Q[i] = m at *
    refine KL_ind k158_b0.eq_1 (fun y : Nat × Nat × Nat × List PV × List (List Int) × List Int × List (List Nat) × Heap => [(0, .list (aggs (fs.map mp))), (6, .ptr 0 0), (7, .ref 1 y.2.1 0 y.2.2.2.2.2.2.1.length), (8, .ref 2 y.2.2.1 0 y.2.2.2.2.1.length), (9, .int .i64 i), (37, .list (aggs (fs.map mp))), (38, .int .i64 fs.length), (39, .int .i64 y.1)]) (fun y => y.2.2.2.2.2.2.2)
      (fun ⟨k, u1, u2, ws, W, P, R, τ⟩ => k ≤ fs.length ∧ clA fs m Q k = some R ∧ (∀ f ∈ R, Ok f n) ∧ R.length ≤ 300 ∧ FdOk n P R ∧ τ[0]? = some (.box (.nils :: .nils :: ints P)) ∧ τ[1]? = some (.arr u1 60 6 (aggs (R.map mp))) ∧ WG τ (fun id => id = 0 ∨ id = 1) 2 u2 ws W ∧ W.length = R.length ∧ (∀ w ∈ W, w.length + 1 ≤ W.length) ∧ P = fdP R P00 ∧ W = clW fs m Q (clV fs n i) i k) (fun y => fs.length - y.1) [0, 6, 7, 8, 9, 37, 38, 39]
      (0, u1, u2, ws, W, P, Q, σ) (by simp [keep]) rfl ⟨Nat.zero_le _, rfl, j3, j4, j5, j6, j7, j8, j9, j10, j11, j12⟩ fun ⟨k, t1, t2, ws2, W2, P2, R, τ⟩ ⟨l2, l3, l4, l5, l6, l7, l8, l9, l10, l11, l12, l13⟩ ihk => ?_
    try simp only at l2 l3 l4 l5 l6 l7 l8 l9 l10 l11 l12 l13
    obtain ⟨r, hr⟩ := clA_pre k R l3
    have hiR : i < R.length := by rw [hr, List.length_append]; omega
    have hRi : (R.map mp).getD i [] = mp m := by
      rw [List.getD_eq_getElem?_getD, List.getElem?_map, hr, List.getElem?_append_left hil, hm?]; rfl
    have h6m := hmO.mp_len
    try simp only [OpK_eq, HKv, l8, aggs_length, List.length_map, take6, List.drop_zero, Int.cast_ofNat_Int, go_sem, ↓reduceIte, Nat.reduceEqDiff, Nat.reduceAdd, Nat.reduceMul, Nat.reduceLeDiff, Nat.reduceLT, Int.reduceLE, Int.reduceLT, reduceCtorEq]
    refine ⟨fun g2 => ?_, fun g2 => ?_⟩
    · have hkl : k < fs.length := by omega
      have hfk := hf _ (List.getElem_mem hkl)
      have h6k := hfk.mp_len
      have hgk : (fs.map mp).getD k [] = mp fs[k] := by simp [List.getD_eq_getElem?_getD, hkl]
      have hgf : fs.getD k [] = fs[k] := by simp [List.getD_eq_getElem?_getD, hkl]
      have hτ1 := (List.getElem?_eq_some_iff.1 l8).1
      have hτ2 := (List.getElem?_eq_some_iff.1 l9.out).1
      have hx0 : ∀ X, (τ ++ X)[0]? = some (.box (.nils :: .nils :: ints P2)) := fun X => (List.getElem?_append_left (by omega)).trans l7
      have hx1 : ∀ X, (τ ++ X)[1]? = some (.arr t1 60 6 (aggs (R.map mp))) := fun X => (List.getElem?_append_left hτ1).trans l8
      have hgb : ∀ (s : Heap) (a : AObj), (s ++ [a])[s.length]? = some a := fun s a => by simp
      have hsb : ∀ (s : Heap) (a b : AObj), (s ++ [a]).set s.length b = s ++ [b] := fun s a b => by simp [List.set_append_right]
      try simp only [OpK_eq, HKv, l8, hx1, aggs_length, List.length_map, hRi, h6m, hgk, h6k, hgb, hsb, ints_length, hfl, take6, List.drop_zero, Int.cast_ofNat_Int, go_sem, ↓reduceIte, Nat.reduceEqDiff, Nat.reduceAdd, Nat.reduceMul, Nat.reduceLeDiff, Nat.reduceLT, Int.reduceLE, Int.reduceLT, reduceCtorEq]
      refine ⟨by omega, fun _ => ⟨⟨by omega, Nat.le_refl _⟩, by omega, fun _ => ?_⟩⟩
      refine (p157 m fs[k] n hmO hfk).pgo ?_
      have hgO := hmO.mul hfk
      have hAs : clA fs m Q (k + 1) = if mul m fs[k] ∈ R then some R else if R.length = 300 then none else some (R ++ [mul m fs[k]]) := by
        rw [clA, l3]
        simp only
        rw [hgf]
      have hWs : clW fs m Q (clV fs n i) i (k + 1) = if mul m fs[k] ∈ R then W2 else W2 ++ [W2.getD i [] ++ [(k : Int)]] := by
        rw [clW, l3]
        simp only
        rw [hgf, ← l13]
      generalize hg' : mul m fs[k] = g at *
      have h6g := hgO.mp_len
      have hgN := num_lt hgO
      have hPl2 := l6.1
      have hilg : (ints (mp g)).length = 6 := by rw [ints_length, h6g]
      have hτ0 : 0 < τ.length := by omega
      generalize hτk : τ ++ [AObj.box (ints (mp fs[k]))] = ρ at *
      have hρ : ρ.length = τ.length + 1 := by rw [← hτk, List.length_append]; rfl
      have hρk : ∀ id, id < τ.length → ρ[id]? = τ[id]? := fun id hid => by rw [← hτk]; exact List.getElem?_append_left hid
      try simp only [OpK_eq, HKv, hgb, hsb, hilg, h6g, take6, List.drop_zero, Int.cast_ofNat_Int, go_sem, ↓reduceIte, Nat.reduceEqDiff, Nat.reduceAdd, Nat.reduceMul, Nat.reduceLeDiff, Nat.reduceLT, Int.reduceLE, Int.reduceLT, reduceCtorEq]
      refine (p188 g n hgO).pgo ?_
      have hy0 : ∀ X, (ρ ++ X)[0]? = some (.box (.nils :: .nils :: ints P2)) := fun X => (List.getElem?_append_left (by omega)).trans ((hρk 0 (by omega)).trans l7)
      try simp only [OpK_eq, HKv, hgb, hsb, hilg, h6g, hy0, hPl2, ints_length, take6, List.drop_zero, Int.cast_ofNat_Int, go_sem, ↓reduceIte, Nat.reduceEqDiff, Nat.reduceAdd, Nat.reduceMul, Nat.reduceLeDiff, Nat.reduceLT, Int.reduceLE, Int.reduceLT, reduceCtorEq]
      have hWρ : ∀ X, WG (ρ ++ X) (fun id => id = 0 ∨ id = 1) 2 t2 ws2 W2 := fun X => l9.keep (fun id hid _ => (List.getElem?_append_left (by omega)).trans (hρk id hid)) (by simp)
      have hy1 : ∀ X, (ρ ++ X)[1]? = some (.arr t1 60 6 (aggs (R.map mp))) := fun X => (List.getElem?_append_left (by omega)).trans ((hρk 1 (by omega)).trans l8)
      refine ⟨by omega, by omega, fun _ => ⟨fun p1 => ?_, fun p1 => ?_⟩⟩
      · have hin := (l6.pos hgO).1 p1
        rw [if_pos hin] at hAs hWs
        exact ⟨by omega, ihk (k + 1, t1, t2, ws2, W2, P2, R, _) ⟨by omega, hAs, l4, l5, l6, hy0 _, hy1 _, hWρ _, l10, l11, l12, hWs.symm⟩ (by show fs.length - (k + 1) < fs.length - k; omega) _ _ (by simp [keep]) rfl⟩
      · have hin : g ∉ R := fun h => p1 ((l6.pos hgO).2 h)
        rw [if_neg hin] at hAs hWs
        try simp only [OpK_eq, HKv, hy1, aggs_length, List.length_map, take6, List.drop_zero, Int.cast_ofNat_Int, go_sem, ↓reduceIte, Nat.reduceEqDiff, Nat.reduceAdd, Nat.reduceMul, Nat.reduceLeDiff, Nat.reduceLT, Int.reduceLE, Int.reduceLT, reduceCtorEq]
        refine ⟨fun h300 => Kv.Fin.still (hK2 (i + 1) (by omega) ?_), fun h300 => ?_⟩
        · rw [hBs]
          have hN : clA fs m Q (k + 1) = none := by rw [hAs, if_pos (by omega)]
          have := clA_none hN (fs.length - (k + 1))
          rwa [show k + 1 + (fs.length - (k + 1)) = fs.length by omega] at this
        rw [if_neg (by omega)] at hAs
        have hbb : (ρ ++ [AObj.box (ints (mp g))])[ρ.length]? = some (.box (ints (mp g))) := hgb _ _
        refine nm_tree (bb := ρ.length) (v0 := .list (aggs (fs.map mp))) (v6 := .ptr 0 0) (v37 := .list (aggs (fs.map mp))) (v38 := .int .i64 fs.length) (v39 := .int .i64 k) (hy1 _) (hWρ _) l10 hbb (by omega) h6g (by omega) hiR (by omega) l11 rfl rfl rfl rfl rfl rfl rfl rfl rfl rfl fun env' ρ' w' q1 q2 q3 q4 => ?_
        simp only [keep, List.map_cons, List.map_nil, List.cons.injEq, Prod.mk.injEq, true_and, and_true] at q1
        obtain ⟨a0, a6, a7, a8, a9, a12, a37, a38, a39⟩ := q1
        have r0 : ρ'[0]? = some (.box (.nils :: .nils :: ints P2)) := (q4 0 (by simp) (by decide) (by decide)).trans (hy0 _)
        have rb : ρ'[ρ.length]? = some (.box (ints (mp g))) := (q4 ρ.length (by simp) (by omega) (by omega)).trans hbb
        try simp only [OpK_eq, HKv, a0, a6, a7, a8, a9, a12, a37, a38, a39, q2, rb, hilg, h6g, aggs_length, List.length_map, take6, List.drop_zero, Int.cast_ofNat_Int, go_sem, ↓reduceIte, Nat.reduceEqDiff, Nat.reduceAdd, Nat.reduceMul, Nat.reduceLeDiff, Nat.reduceLT, Int.reduceLE, Int.reduceLT, reduceCtorEq]
        refine (p188 g n hgO).pgo ?_
        try simp only [OpK_eq, HKv, a0, a6, a7, a8, a9, a12, a37, a38, a39, r0, hPl2, ints_length, take6, List.drop_zero, Int.cast_ofNat_Int, go_sem, ↓reduceIte, Nat.reduceEqDiff, Nat.reduceAdd, Nat.reduceMul, Nat.reduceLeDiff, Nat.reduceLT, Int.reduceLE, Int.reduceLT, reduceCtorEq]
        have hFn := l6.push hgO hin (by omega)
        have hc : ((R.length + 1 : Nat) : Int) = (R.length : Int) + 1 := by omega
        rw [hc]
        have hρ'0 : 0 < ρ'.length := (List.getElem?_eq_some_iff.1 r0).1
        have hWgd : (W2.getD i []).length + 1 ≤ W2.length := by
          rw [List.getD_eq_getElem?_getD, List.getElem?_eq_getElem (by omega)]; exact l11 _ (List.getElem_mem _)
        refine ⟨by omega, by omega, by omega, ihk (k + 1, t1 + 1, t2 + 1, ws2 ++ [w'], W2 ++ [W2.getD i [] ++ [(k : Int)]], _, R ++ [g], _) ⟨by omega, hAs, fun f hf' => ?_, by simp; omega, hFn, List.getElem?_set_self hρ'0, (List.getElem?_set_ne (by decide)).trans q2, q3.keep (fun id hid hA => List.getElem?_set_ne fun e => hA (.inl e.symm)) (by simp), by simp [l10], fun x hx => ?_, by rw [l12]; exact fdP_push R g P00, hWs.symm⟩ (by show fs.length - (k + 1) < fs.length - k; omega) _ _ (by simp [keep, a0, a6, a7, a8, a9, a37, a38, a39]) rfl⟩
        · rcases List.mem_append.1 hf' with hf' | hf'
          · exact l4 f hf'
          · simp only [List.mem_singleton] at hf'; rw [hf']; exact hgO
        · rw [List.length_append, List.length_singleton]
          rcases List.mem_append.1 hx with hx | hx
          · have := l11 x hx; omega
          · simp only [List.mem_singleton] at hx
            rw [hx, List.length_append, List.length_singleton]; omega
    · have hke : k = fs.length := by omega
      subst hke
      try simp only [take6, List.drop_zero, Int.cast_ofNat_Int, go_sem, ↓reduceIte, Nat.reduceEqDiff, Nat.reduceAdd, Nat.reduceMul, Nat.reduceLeDiff, Nat.reduceLT, Int.reduceLE, Int.reduceLT, reduceCtorEq]
      exact ⟨by omega, ih (i + 1, t1, t2, ws2, W2, P2, R, τ) ⟨by show i + 1 ≤ R.length; omega, by rw [hBs]; exact l3, l4, l5, l6, l7, l8, l9, l10, l11, l12, by rw [hVs]; exact l13⟩ (by show 301 - (i + 1) < 301 - i; omega) _ _ (by simp [keep]) rfl⟩
  · obtain rfl : i = Q.length := by omega
    clear ih
    have hd := j5.nodup j3
    subst j11; subst j12
    generalize hP : fdP Q P00 = P at *
    generalize hW : clV fs n Q.length = W at *
    have hQl : (Q.map mp).length = Q.length := List.length_map _
    have hσ1 := (List.getElem?_eq_some_iff.1 j7).1
    have hσ2 := (List.getElem?_eq_some_iff.1 j8.out).1
    have hQ0 : 0 < Q.length := by
      cases Q with
      | nil => have := clB_ne j2; exact absurd rfl this
      | cons a l => simp
    have hcl := p189P (Q.map mp) (fun x hx => by obtain ⟨f, hf', rfl⟩ := List.mem_map.1 hx; exact (j3 f hf').mp_len) (by omega) (by omega)
    refine ACall.lend hcl (.cons (Imm.refa' j7 hQl.symm) (.nil _)) fun v s hv => ?_
    obtain ⟨rfl, rfl⟩ := hv
    refine ⟨⟨free_ref _ _ _ _, Free.aggs _ _ _ _⟩, ?_⟩
    have k0 : (σ ++ [AObj.arr 1 60 6 (aggs (Q.map mp))])[0]? = some (.box (.nils :: .nils :: ints P)) := (List.getElem?_append_left (by omega)).trans j6
    try simp only [OpK_eq, HKv, ren_ref, ren_arr, ren_aggs, Nat.zero_add, k0, hQl, sh_def, take6, List.drop_zero, Int.cast_ofNat_Int, go_sem, ↓reduceIte, Nat.reduceEqDiff, Nat.reduceAdd, Nat.reduceMul, Nat.reduceLeDiff, Nat.reduceLT, Int.reduceLE, Int.reduceLT, reduceCtorEq]
    obtain ⟨τ, hτ⟩ : ∃ τ, τ = List.set (σ ++ [AObj.arr 1 60 6 (aggs (Q.map mp))]) 0 (AObj.box (.ref σ.length 1 0 Q.length :: .nils :: ints P)) := ⟨_, rfl⟩
    have hτl : τ.length = σ.length + 1 := by rw [hτ, List.length_set, List.length_append]; rfl
    have m0 : τ[0]? = some (.box (.ref σ.length 1 0 Q.length :: .nils :: ints P)) := by rw [hτ]; exact List.getElem?_set_self (by simp)
    have mE : τ[σ.length]? = some (.arr 1 60 6 (aggs (Q.map mp))) := by rw [hτ, List.getElem?_set_ne (by omega)]; simp
    have mk : ∀ id, id < σ.length → id ≠ 0 → τ[id]? = σ[id]? := fun id h1 h2 => by rw [hτ, List.getElem?_set_ne (Ne.symm h2), List.getElem?_append_left h1]
    rw [← hτ]
    clear hτ
    try simp only [OpK_eq, HKv, m0, take6, List.drop_zero, Int.cast_ofNat_Int, go_sem, ↓reduceIte, Nat.reduceEqDiff, Nat.reduceAdd, Nat.reduceMul, Nat.reduceLeDiff, Nat.reduceLT, Int.reduceLE, Int.reduceLT, reduceCtorEq]
    have hsm := fun (K' : PV → Heap → Prop) => sort_maps (K := K') (σ := τ) (ms := Q.map mp) (e := 60) (ver := 1) (id := σ.length) (fun x hx => by obtain ⟨f, hf', rfl⟩ := List.mem_map.1 hx; exact (j3 f hf').mp_len) (by omega) (by omega) mE
    rw [hQl] at hsm
    refine ⟨by omega, hsm _ fun r hr hs => ?_⟩
    obtain rfl := sorted_elS j3 hd hr hs
    obtain ⟨s1, s2, s3⟩ := elS_ok j3
    have hSl : (elS n Q).length = Q.length := by
      have := hr.length_eq
      rw [List.length_map, List.length_map] at this; exact this
    generalize hSE : elS n Q = S at *
    obtain ⟨ρ, hρ⟩ : ∃ ρ, ρ = τ.set σ.length (.arr 1 60 6 (aggs (S.map mp))) := ⟨_, rfl⟩
    have hρl : ρ.length = σ.length + 1 := by rw [hρ, List.length_set, hτl]
    have n0 : ρ[0]? = some (.box (.ref σ.length 1 0 Q.length :: .nils :: ints P)) := by rw [hρ, List.getElem?_set_ne (by omega)]; exact m0
    have nE : ρ[σ.length]? = some (.arr 1 60 6 (aggs (S.map mp))) := by rw [hρ]; exact List.getElem?_set_self (by omega)
    have nk : ∀ id, id < σ.length → id ≠ 0 → ρ[id]? = σ[id]? := fun id h1 h2 => by rw [hρ, List.getElem?_set_ne (by omega)]; exact mk id h1 h2
    rw [← hρ]
    clear hρ
    have nW : WG ρ (fun id => id = 0 ∨ id = 1 ∨ σ.length ≤ id) 2 u2 ws W := ⟨(nk 2 hσ2 (by decide)).trans j8.out, j8.len, fun a w l hw hl => (j8.row a w l hw hl).keep fun id hid hA => ⟨nk id hid fun e => hA (.inl (.inl e)), fun h => by
      rcases h with (h | h | h) | h
      · exact hA (.inl (.inl h))
      · exact hA (.inl (.inr h))
      · omega
      · exact hA (.inr h)⟩⟩
    have hPl : P.length = 3125 := j5.1
    have hSm : ∀ f ∈ S, f ∈ Q := fun f hf => (s2 f).1 hf
    try simp only [OpK_eq, HKv, n0, nE, aggs_length, List.length_map, take6, List.drop_zero, Int.cast_ofNat_Int, go_sem, ↓reduceIte, Nat.reduceEqDiff, Nat.reduceAdd, Nat.reduceMul, Nat.reduceLeDiff, Nat.reduceLT, Int.reduceLE, Int.reduceLT, reduceCtorEq]
    refine ⟨by omega, ?_⟩
    refine KL_ind k158_b2.eq_1 (fun y : Nat × PV × Heap => [(6, .ptr 0 0), (8, .ref 2 u2 0 W.length), (98, .ref σ.length 1 0 Q.length), (99, .int .i64 Q.length), (100, .int .i64 y.1)]) (fun y => y.2.2)
      (fun ⟨y, wv, ω⟩ => y ≤ S.length ∧ σ.length < ω.length ∧ ω[0]? = some (.box (.ref σ.length 1 0 Q.length :: wv :: ints P)) ∧ ω[σ.length]? = some (.arr 1 60 6 (aggs (S.map mp))) ∧ WG ω (fun id => id = 0 ∨ id = 1 ∨ σ.length ≤ id) 2 u2 ws W ∧ (y = 0 ∧ wv = .nils ∨ ∃ q v ws', wv = .ref q v 0 y ∧ σ.length < q ∧ WG ω (fun id => id = 0 ∨ id = 1 ∨ id = 2 ∨ σ.length ≤ id) q v ws' (wdS S P W y))) (fun y => S.length - y.1) [6, 8, 98, 99, 100]
      (0, .nils, ρ) (by simp [keep]) rfl ⟨Nat.zero_le _, by omega, n0, nE, nW, .inl ⟨rfl, rfl⟩⟩ fun ⟨y, wv, ω⟩ ⟨o1, o2, o3, o4, o5, o6⟩ ihy => ?_
    · try simp only at o1 o2 o3 o4 o5 o6
      try simp only [OpK_eq, HKv, o3, o4, aggs_length, List.length_map, hSl, take6, List.drop_zero, Int.cast_ofNat_Int, go_sem, ↓reduceIte, Nat.reduceEqDiff, Nat.reduceAdd, Nat.reduceMul, Nat.reduceLeDiff, Nat.reduceLT, Int.reduceLE, Int.reduceLT, reduceCtorEq]
      refine ⟨fun g3 => ?_, fun g3 => ?_⟩
      · have hyl : y < S.length := by omega
        have hgy : (S.map mp).getD y [] = mp S[y] := by simp [List.getD_eq_getElem?_getD, hyl]
        have hgs : S.getD y [] = S[y] := by simp [List.getD_eq_getElem?_getD, hyl]
        have hfO := s1.1 _ (List.getElem_mem hyl)
        have hfQ := hSm _ (List.getElem_mem hyl)
        have h6y := hfO.mp_len
        have hwd := wdS_succ (P := P) (W := W) hyl
        rw [hgs] at hwd
        generalize S[y] = f at *
        have hN := num_lt hfO
        obtain ⟨jj, hjj, hje⟩ := List.getElem_of_mem hfQ
        have hpl := (j5.2.2 f hfO).1 jj (by rw [List.getElem?_eq_getElem hjj, hje])
        have hgb : ∀ (s : Heap) (a : AObj), (s ++ [a])[s.length]? = some a := fun s a => by simp
        have hsb : ∀ (s : Heap) (a b : AObj), (s ++ [a]).set s.length b = s ++ [b] := fun s a b => by simp [List.set_append_right]
        have hilg : (ints (mp f)).length = 6 := by rw [ints_length, h6y]
        have hz0 : ∀ X, (ω ++ X)[0]? = some (.box (.ref σ.length 1 0 Q.length :: wv :: ints P)) := fun X => (List.getElem?_append_left (by omega)).trans o3
        have hz2 : ∀ X, (ω ++ X)[2]? = some (.arr u2 27 1 ws) := fun X => (List.getElem?_append_left (by omega)).trans o5.out
        try simp only [OpK_eq, HKv, o4, aggs_length, List.length_map, hSl, hgy, h6y, hgb, hsb, hilg, hz0, hz2, take6, List.drop_zero, Int.cast_ofNat_Int, go_sem, ↓reduceIte, Nat.reduceEqDiff, Nat.reduceAdd, Nat.reduceMul, Nat.reduceLeDiff, Nat.reduceLT, Int.reduceLE, Int.reduceLT, reduceCtorEq]
        refine ⟨⟨by omega, Nat.le_refl _⟩, by omega, fun _ => ⟨by omega, ?_⟩⟩
        refine (p188 f n hfO).pgo ?_
        try simp only [OpK_eq, HKv, o4, aggs_length, List.length_map, hSl, hgy, h6y, hgb, hsb, hilg, hz0, hz2, hPl, ints_length, hpl, take6, List.drop_zero, Int.cast_ofNat_Int, go_sem, ↓reduceIte, Nat.reduceEqDiff, Nat.reduceAdd, Nat.reduceMul, Nat.reduceLeDiff, Nat.reduceLT, Int.reduceLE, Int.reduceLT, reduceCtorEq]
        have hjt : ((jj : Int) + 1 - 1).toNat = jj := by omega
        rw [hjt]
        have hwl := o5.len
        have hjW : jj < W.length := by omega
        obtain ⟨w, hw, hWd⟩ := o5.cell (i := jj) hjW
        have hwc := hWd.cs
        have hWj : W.getD ((jj : Int) + 1 - 1).toNat [] = W[jj] := by rw [hjt, List.getD_eq_getElem?_getD, List.getElem?_eq_getElem hjW]; rfl
        rw [hpl, hWj] at hwd
        generalize W[jj] = wj at hWd hwd
        refine ⟨by omega, by omega, fun _ => ⟨⟨by omega, by omega⟩, ⟨by omega, by omega, by omega⟩, by omega, fun x hx => ?_⟩⟩
        rw [hw] at hx; cases hx
        rw [hwc.1]
        refine ⟨by simp, fun c hc => ?_⟩
        simp only [List.getElem?_cons_zero, Option.some.injEq] at hc; subst hc
        refine ⟨by rw [hwc.1]; simp [hwc.2], ?_⟩
        have hz2W : ∀ X, WG (ω ++ X) (fun id => id = 0 ∨ id = 1 ∨ σ.length ≤ id) 2 u2 ws W := fun X => o5.keepQ fun id hid _ => List.getElem?_append_left hid
        have hzE : ∀ X, (ω ++ X)[σ.length]? = some (.arr 1 60 6 (aggs (S.map mp))) := fun X => (List.getElem?_append_left o2).trans o4
        have hWdB : ∀ X (B : Nat → Prop), (∀ id, id < σ.length → id ≠ 0 → id ≠ 1 → id ≠ 2 → ¬ B id) → Wd (ω ++ X) B w wj := fun X B hB => hWd.keep fun id hid hA => ⟨List.getElem?_append_left hid, hB id (Nat.lt_of_not_le fun h => hA (.inl (.inr (.inr h)))) (fun h => hA (.inl (.inl h))) (fun h => hA (.inl (.inr (.inl h)))) (fun h => hA (.inr h))⟩
        have hap : ∀ (b : AObj) (K' : PV → Heap → Prop), (∀ wv' χ, σ.length < χ.length → χ[0]? = some (.box (.ref σ.length 1 0 Q.length :: wv :: ints P)) → χ[σ.length]? = some (.arr 1 60 6 (aggs (S.map mp))) → WG χ (fun id => id = 0 ∨ id = 1 ∨ σ.length ≤ id) 2 u2 ws W → (∃ q v ws', wv' = .ref q v 0 (y + 1) ∧ σ.length < q ∧ WG χ (fun id => id = 0 ∨ id = 1 ∨ id = 2 ∨ σ.length ≤ id) q v ws' (wdS S P W (y + 1))) → K' wv' χ) → aApp 27 1 wv (.list [w]) (ω ++ [b]) K' := fun b K' hK' => by
          rcases o6 with ⟨rfl, rfl⟩ | ⟨q, v, ws', rfl, hq, hG⟩
          · have hok : okL 1 [w] = True := by simp [okL, hwc.1, hwc.2]
            simp only [aApp_nils, aNews_list, hok, true_and, AppN_def]
            have h0 : ∀ id, id < ω.length → (ω ++ [b] ++ [AObj.arr 0 27 1 [w]])[id]? = ω[id]? := fun id hid => by rw [List.append_assoc]; exact List.getElem?_append_left hid
            refine ⟨by simp, hK' _ _ (by simp; omega) ((h0 0 (by omega)).trans o3) ((h0 _ o2).trans o4) (by rw [List.append_assoc]; exact hz2W _) ⟨_, 0, [w], rfl, by simp; omega, ?_⟩⟩
            rw [hwd, show wdS S P W 0 = [] by rfl, List.nil_append]
            refine ⟨by simp, rfl, fun a w' l' hw' hl' => ?_⟩
            have e1 := List.mem_of_getElem? hw'
            have e2 := List.mem_of_getElem? hl'
            simp only [List.mem_singleton] at e1 e2
            subst e1; subst e2
            rw [List.append_assoc]
            exact hWdB _ _ fun id h1 h2 h3 h4 h => by
              simp only [List.length_append] at h
              omega
          · have hwl' : (wdS S P W y).length = y := by simp [wdS]; omega
            have hG' : WG (ω ++ [b]) (fun id => id = 0 ∨ id = 1 ∨ id = 2 ∨ σ.length ≤ id) q v ws' (wdS S P W y) := hG.keepQ fun id hid _ => List.getElem?_append_left hid
            have hpu := hG'.push (l := wj) (w := w) (hWdB _ _ fun id h1 h2 h3 h4 h => by omega) (by omega) (K := K') fun hn => hK' _ _ (by simp; omega) ((List.getElem?_set_ne (by omega)).trans (hz0 _)) ((List.getElem?_set_ne (by omega)).trans (hzE _)) ((hz2W [b]).keepQ fun id hid h => List.getElem?_set_ne fun e => by rcases h with h | h <;> omega) ⟨q, v + 1, _, by rw [hwl'], hq, by rw [hwd]; exact hn⟩
            rwa [hwl'] at hpu
        refine hap _ _ fun wv' χ x1 x2 x3 x4 x5 => ?_
        try simp only [OpK_eq, HKv, x2, hPl, ints_length, take6, List.drop_zero, Int.cast_ofNat_Int, go_sem, ↓reduceIte, Nat.reduceEqDiff, Nat.reduceAdd, Nat.reduceMul, Nat.reduceLeDiff, Nat.reduceLT, Int.reduceLE, Int.reduceLT, reduceCtorEq]
        obtain ⟨q, v, ws', rfl, hq, hG⟩ := x5
        refine ⟨⟨rfl, rfl⟩, by omega, ihy (y + 1, .ref q v 0 (y + 1), _) ⟨by omega, by rw [List.length_set]; exact x1, List.getElem?_set_self (by omega), (List.getElem?_set_ne (by omega)).trans x3, x4.keepQ fun id hid h => List.getElem?_set_ne fun e => ?_, .inr ⟨q, v, ws', rfl, hq, hG.keepQ fun id hid h => List.getElem?_set_ne fun e => ?_⟩⟩ (by show S.length - (y + 1) < S.length - y; omega) _ _ (by simp [keep]) rfl⟩
        · rcases h with h | h
          · exact h (.inl e.symm)
          · omega
        · rcases h with h | h
          · exact h (.inl e.symm)
          · omega
      · have hyS : y = S.length := by omega
        subst hyS
        rcases o6 with ⟨e0, _⟩ | ⟨q, v, ws', rfl, hq, hG⟩
        · omega
        refine ⟨by omega, ?_⟩
        have hl0 : (setP S P 0) = P := rfl
        refine KL_ind k158_b3.eq_1 (fun y : Nat × Heap => [(6, .ptr 0 0), (128, .ref σ.length 1 0 Q.length), (129, .int .i64 Q.length), (130, .int .i64 y.1)]) (fun y => y.2)
          (fun ⟨y, ξ⟩ => y ≤ S.length ∧ σ.length < ξ.length ∧ ξ[0]? = some (.box (.ref σ.length 1 0 Q.length :: .ref q v 0 S.length :: ints (setP S P y))) ∧ ξ[σ.length]? = some (.arr 1 60 6 (aggs (S.map mp))) ∧ WG ξ (fun id => id = 0 ∨ id = 1 ∨ id = 2 ∨ σ.length ≤ id) q v ws' (wdS S P W S.length)) (fun y => S.length - y.1) [6, 128, 129, 130]
          (0, ω) (by simp [keep]) rfl ⟨Nat.zero_le _, o2, o3, o4, hG⟩ fun ⟨y, ξ⟩ ⟨z1, z2, z3, z4, z5⟩ ihz => ?_
        try simp only at z1 z2 z3 z4 z5
        obtain ⟨hsl, _⟩ := setP_spec s1 hPl y z1
        try simp only [OpK_eq, HKv, z3, z4, aggs_length, List.length_map, hSl, take6, List.drop_zero, Int.cast_ofNat_Int, go_sem, ↓reduceIte, Nat.reduceEqDiff, Nat.reduceAdd, Nat.reduceMul, Nat.reduceLeDiff, Nat.reduceLT, Int.reduceLE, Int.reduceLT, reduceCtorEq]
        refine ⟨fun g4 => ?_, fun g4 => ?_⟩
        · have hyl : y < S.length := by omega
          have hgy : (S.map mp).getD y [] = mp S[y] := by simp [List.getD_eq_getElem?_getD, hyl]
          have hgs : S.getD y [] = S[y] := by simp [List.getD_eq_getElem?_getD, hyl]
          have hfO := s1.1 _ (List.getElem_mem hyl)
          have h6y := hfO.mp_len
          have hsp : setP S P (y + 1) = (setP S P y).set (numK S[y] 5) ((y : Int) + 1) := by rw [setP, hgs]
          generalize S[y] = f at *
          have hN := num_lt hfO
          have hgb : ∀ (s : Heap) (a : AObj), (s ++ [a])[s.length]? = some a := fun s a => by simp
          have hsb : ∀ (s : Heap) (a b : AObj), (s ++ [a]).set s.length b = s ++ [b] := fun s a b => by simp [List.set_append_right]
          have hilg : (ints (mp f)).length = 6 := by rw [ints_length, h6y]
          have hz0 : ∀ X, (ξ ++ X)[0]? = some (.box (.ref σ.length 1 0 Q.length :: .ref q v 0 S.length :: ints (setP S P y))) := fun X => (List.getElem?_append_left (by omega)).trans z3
          try simp only [OpK_eq, HKv, z4, aggs_length, List.length_map, hSl, hgy, h6y, hgb, hsb, hilg, hz0, take6, List.drop_zero, Int.cast_ofNat_Int, go_sem, ↓reduceIte, Nat.reduceEqDiff, Nat.reduceAdd, Nat.reduceMul, Nat.reduceLeDiff, Nat.reduceLT, Int.reduceLE, Int.reduceLT, reduceCtorEq]
          refine ⟨⟨by omega, Nat.le_refl _⟩, by omega, fun _ => ⟨by omega, ?_⟩⟩
          refine (p188 f n hfO).pgo ?_
          try simp only [OpK_eq, HKv, hgb, hsb, hilg, hz0, hsl, ints_length, take6, List.drop_zero, Int.cast_ofNat_Int, go_sem, ↓reduceIte, Nat.reduceEqDiff, Nat.reduceAdd, Nat.reduceMul, Nat.reduceLeDiff, Nat.reduceLT, Int.reduceLE, Int.reduceLT, reduceCtorEq]
          refine ⟨by omega, by omega, by omega, ihz (y + 1, _) ⟨by omega, by simp; omega, by rw [hsp]; exact List.getElem?_set_self (by simp), (List.getElem?_set_ne (by omega)).trans ((List.getElem?_append_left z2).trans z4), (z5.keepQ fun id hid _ => List.getElem?_append_left hid : WG (ξ ++ [AObj.box (ints (mp f))]) _ _ _ _ _).keepQ fun id hid h => List.getElem?_set_ne fun e => ?_⟩ (by show S.length - (y + 1) < S.length - y; omega) _ _ (by simp [keep]) rfl⟩
          rcases h with h | h
          · exact h (.inl e.symm)
          · omega
        · obtain rfl : y = S.length := by omega
          have hwl' : (wdS S P W S.length).length = S.length := by simp [wdS]
          have hsl' : (S.map mp).length = S.length := List.length_map _
          have hK := hK1 Q j2 j3 j4 (by rw [hP]; exact j5)
          unfold monV moV at hK
          rw [hSE, hP, hW] at hK
          refine Kv.Fin.freeze (Imm.tupL (.cons (.ptr 0 0 _ _ z3 (by simp only [List.length_cons]) ?_ fun a c d hc hd => ?_) (.cons Imm.still (.nil _)))) hK
          · simp [ints, PV.ok]
          · match a, hc, hd with
            | 0, hc, hd =>
              simp only [List.getElem?_cons_zero, Option.some.injEq] at hc hd
              subst hc; subst hd
              exact Imm.refa' z4 (by omega)
            | 1, hc, hd =>
              simp only [List.getElem?_cons_succ, List.getElem?_cons_zero, Option.some.injEq] at hc hd
              subst hc; subst hd
              exact z5.immN hwl'.symm
            | a + 2, hc, hd =>
              simp only [List.getElem?_cons_succ] at hc hd
              rw [hc] at hd; cases hd
              obtain ⟨x, _, rfl⟩ := ints_get hc
              exact Imm.still
/-- What newMonoid hands back. -/
theorem p158 (fs : List (List Nat)) (n : Nat) (h1 : 1 ≤ n) (h5 : n ≤ 5) (hf : ∀ f ∈ fs, Ok f n) (hfl : fs.length ≤ 1000) :
    Pure Tryz.prog 158 [.list (aggs (fs.map mp)), .int .i64 n] (match clR fs n with | none => .tup [.nilptr, .int .i64 3] | some Q => .tup [.fptr (monV fs n Q) 0, .int .i64 0]) := by
  refine p158_in fs n h1 h5 hf hfl (fun Q c1 c2 c3 c4 => ?_) (fun i c0 c1 => ?_)
  · have hR : clR fs n = some Q := by
      have := clB_stop c1 (Nat.le_refl _) (301 - Q.length)
      rwa [show Q.length + (301 - Q.length) = 301 by omega] at this
    rw [hR]
    exact ⟨rfl, rfl⟩
  · have hR : clR fs n = none := by
      have := clB_none c1 (301 - i)
      rwa [show i + (301 - i) = 301 by omega] at this
    rw [hR]
    exact ⟨rfl, rfl⟩
end Go.Proofs.YthbbjbfbeaiphaaGreat
end
section
/- MonOk: what newMonoid owes is paid; TableOf, both sides. -/
namespace Go.Proofs.YthbbjbfbeaiphaaGreat
open Go.Kv
set_option linter.unusedVariables false
set_option linter.unusedSimpArgs false
attribute [local irreducible] ACall PCall KL
theorem clA_nd {fs : List (List Nat)} {m : List Nat} {Q : List (List Nat)} (hQ : Q.Nodup) : ∀ k R, clA fs m Q k = some R → R.Nodup
  | 0, R, h => by
    have : Q = R := by simpa [clA] using h
    rw [← this]; exact hQ
  | k + 1, R, h => by
    unfold clA at h
    cases hc : clA fs m Q k with
    | none => rw [hc] at h; cases h
    | some R' =>
      have hr := clA_nd hQ k R' hc
      rw [hc] at h
      simp only at h
      split at h
      · cases h; exact hr
      · rename_i hn
        split at h
        · cases h
        · cases h
          rw [List.nodup_append]
          exact ⟨hr, by simp, fun a ha b hb e => by simp only [List.mem_singleton] at hb; subst hb; subst e; exact hn ha⟩
theorem clB_nd {fs : List (List Nat)} {n : Nat} : ∀ i Q, clB fs n i = some Q → Q.Nodup
  | 0, Q, h => by
    have : [List.range n] = Q := by simpa [clB] using h
    rw [← this]; simp
  | i + 1, Q, h => by
    rw [clB] at h
    cases hc : clB fs n i with
    | none => rw [hc] at h; cases h
    | some Q' =>
      have hr := clB_nd i Q' hc
      rw [hc] at h
      simp only at h
      split at h
      · exact clA_nd hr _ _ h
      · cases h; exact hr
theorem fd_of {n : Nat} : ∀ (k : Nat) (Q : List (List Nat)), Q.length = k → k ≤ 300 → Q.Nodup → (∀ f ∈ Q, Ok f n) → FdOk n (fdP Q P00) Q
  | 0, Q, hk, _, _, _ => by
    obtain rfl := List.eq_nil_of_length_eq_zero hk
    exact fd_nil (N := 3125) rfl (show P00 = List.replicate 3125 0 by unfold P00; rfl)
  | k + 1, Q, hk, h3, hd, hO => by
    have hne : Q ≠ [] := fun e => by rw [e] at hk; simp at hk
    have e := List.dropLast_concat_getLast hne
    generalize Q.dropLast = R at e
    generalize Q.getLast hne = g at e
    subst e
    rw [List.nodup_append] at hd
    have hR : R.length = k := by simpa using hk
    have := fd_of k R hR (by omega) hd.1 fun f hf => hO f (by simp [hf])
    rw [← fdP_push]
    exact this.push (hO g (by simp)) (fun h => hd.2.2 g h g (by simp) rfl) (by omega)
theorem monOk (fs : List (List Nat)) (n : Nat) (h1 : 1 ≤ n) (h5 : n ≤ 5) (hf : ∀ f ∈ fs, Ok f n) (hfl : fs.length ≤ 1000) : MonOk fs n := by
  have hM := p158 fs n h1 h5 hf hfl
  unfold MonOk
  cases hR : clR fs n with
  | none => rw [hR] at hM; exact hM
  | some Q =>
    rw [hR] at hM
    obtain ⟨c3, c4⟩ := clB_okQ h1 h5 hf _ _ hR
    obtain ⟨s1, s2, s3⟩ := elS_ok c3
    have hF := fd_of Q.length Q rfl (by omega) (clB_nd _ _ hR) c3
    exact ⟨_, _, inferInstance, setP_ok s1 (by omega) hF.1 hF.2.1 fun f h4 h5 => (hF.2.2 f h4).2 fun h => h5 ((s2 f).2 h), hM⟩
attribute [local irreducible] clR
end Go.Proofs.YthbbjbfbeaiphaaGreat
end
section
/- The size of a monoid. -/
namespace Go.Proofs.YthbbjbfbeaiphaaGreat
open Go.Kv
set_option maxRecDepth 100000
def k76 : KC := (.seq (.ops [oP 2 (.mv (.c (.nils))), oP 3 (.mv (iC 0))])
  (.seq (.ops [mV 8 0, oP 9 (.call (fC 114) [(.t 8), (.c (.nils))]), mV 7 9, oP 10 (.extr 0 (.t 7)), oP 11 (.extr 1 (.t 7)), oP 12 (.extr 2 (.t 7)), mV 4 10, mV 5 11, mV 6 12])
  (.seq (.seq (.ops [mV 13 6, oP 14 (.bin .neq (.t 13) (iC 0))])
  (.cond (.t 14) (.seq (.ops [mV 15 6, oP 2 (.mv (.c (.nils))), mV 3 15])
  .ret) .skip))
  (.seq (.ops [mV 16 4, oP 17 (.nilck (.t 16)), oP 18 (.fieldA 0 (.t 17)), oP 19 (.load false 1 (.t 18)), mV 2 19, oP 3 (.mv (iC 0))])
  .ret))))
theorem e76 : Ent 76 20 [] [.t 2, .t 3] k76 := ent Tryz.func76 (by kernel_rfl) (by kernel_rfl) (by kernel_rfl) (fun _ => by kernel_rfl) (by kernel_rfl)
def k24 : KC := (.seq (.ops [oP 2 (.mv (iC 0)), oP 3 (.mv (iC 0))])
  (.seq (.ops [mV 7 0, oP 8 (.call (fC 76) [(.t 7)]), mV 6 8, oP 9 (.extr 0 (.t 6)), oP 10 (.extr 1 (.t 6)), mV 4 9, mV 5 10])
  (.seq (.ops [mV 11 4, oP 12 (.len false (.t 11)), mV 13 5, mV 2 12, mV 3 13])
  .ret)))
theorem e24 : Ent 24 14 [] [.t 2, .t 3] k24 := ent Tryz.func24 (by kernel_rfl) (by kernel_rfl) (by kernel_rfl) (fun _ => by kernel_rfl) (by kernel_rfl)
end Go.Proofs.YthbbjbfbeaiphaaGreat
namespace Go.Proofs.YthbbjbfbeaiphaaGreat
open Go.Kv
set_option linter.unusedVariables false
set_option linter.unusedSimpArgs false
attribute [local irreducible] ACall PCall KL
set_option maxRecDepth 8000 in
theorem p76_in (fs : List (List Nat)) (n : Nat) (h1 : 1 ≤ n) (h5 : n ≤ 5) (hf : ∀ f ∈ fs, Ok f n) (h0 : 0 < fs.length) (hfl : fs.length ≤ 6) (hl : lcode (fs.map mp) [] = 0) :
    Pure Tryz.prog 76 [.list (aggs (fs.map mp))] (match clR fs n with | none => .tup [.nils, .int .i64 3] | some Q => .tup [.list (aggs ((elS n Q).map mp)), .int .i64 0]) := by
  have hM := monOk fs n h1 h5 hf (Nat.le_trans hfl (by decide))
  unfold MonOk at hM
  cases hR : clR fs n with
  | none =>
    rw [hR] at hM
    simp only at hM
    have hE := p114_of fs n hf h0 hfl hl _ _ hM
    rw [if_neg (by decide)] at hE
    show Pure Tryz.prog 76 [.list (aggs (fs.map mp))] (.tup [.nils, .int .i64 3])
    refine e76 (by simp) fun _ _ => ?_
    simp only [k76, argEnv, take6, List.drop_zero, Int.cast_ofNat_Int, go_sem, ↓reduceIte, Nat.reduceEqDiff, Nat.reduceAdd, Nat.reduceMul, Nat.reduceLeDiff, Nat.reduceLT, Int.reduceLE, Int.reduceLT, reduceCtorEq]
    refine hE.go ?_
    try simp only [OpK_eq, HKv, take6, List.drop_zero, Int.cast_ofNat_Int, go_sem, ↓reduceIte, Nat.reduceEqDiff, Nat.reduceAdd, Nat.reduceMul, Nat.reduceLeDiff, Nat.reduceLT, Int.reduceLE, Int.reduceLT, reduceCtorEq]
    exact ⟨fun _ => Kv.Fin.still ⟨rfl, rfl⟩, fun h => absurd h (by decide)⟩
  | some Q =>
    rw [hR] at hM
    simp only at hM
    obtain ⟨W, P, hW, hP, hM⟩ := hM
    have hE := p114_of fs n hf h0 hfl hl _ _ hM
    rw [if_pos rfl] at hE
    show Pure Tryz.prog 76 [.list (aggs (fs.map mp))] (.tup [.list (aggs ((elS n Q).map mp)), .int .i64 0])
    have hml : (moV (.list (aggs ((elS n Q).map mp))) W P).length = 3127 := by rw [moV, List.length_cons, List.length_cons, ints_length, hP.1]
    have hm0 : (moV (.list (aggs ((elS n Q).map mp))) W P)[0]? = some (.list (aggs ((elS n Q).map mp))) := rfl
    refine e76 (by simp) fun _ _ => ?_
    simp only [k76, argEnv, take6, List.drop_zero, Int.cast_ofNat_Int, go_sem, ↓reduceIte, Nat.reduceEqDiff, Nat.reduceAdd, Nat.reduceMul, Nat.reduceLeDiff, Nat.reduceLT, Int.reduceLE, Int.reduceLT, reduceCtorEq]
    refine hE.go ?_
    try simp only [OpK_eq, HKv, hml, hm0, take6, List.drop_zero, Int.cast_ofNat_Int, go_sem, ↓reduceIte, Nat.reduceEqDiff, Nat.reduceAdd, Nat.reduceMul, Nat.reduceLeDiff, Nat.reduceLT, Int.reduceLE, Int.reduceLT, reduceCtorEq]
    exact Kv.Fin.still ⟨rfl, rfl⟩
theorem p76_out (a : List (List Int)) (ha : a.length ≤ 1048576) (h6 : ∀ r ∈ a, r.length = 6) (hc : lcode a [] ≠ 0) : Pure Tryz.prog 76 [.list (aggs a)] (.tup [.nils, .int .i64 (lcode a [])]) := by
  refine e76 (by simp) fun _ _ => ?_
  simp only [k76, argEnv, take6, List.drop_zero, Int.cast_ofNat_Int, go_sem, ↓reduceIte, Nat.reduceEqDiff, Nat.reduceAdd, Nat.reduceMul, Nat.reduceLeDiff, Nat.reduceLT, Int.reduceLE, Int.reduceLT, reduceCtorEq]
  refine (p114_out a ha h6 hc).go ?_
  try simp only [OpK_eq, HKv, take6, List.drop_zero, Int.cast_ofNat_Int, go_sem, ↓reduceIte, Nat.reduceEqDiff, Nat.reduceAdd, Nat.reduceMul, Nat.reduceLeDiff, Nat.reduceLT, Int.reduceLE, Int.reduceLT, reduceCtorEq]
  exact ⟨fun _ => Kv.Fin.still ⟨rfl, rfl⟩, fun h => absurd h hc⟩
/-- The size, or a code that is not zero. -/
theorem sz_loc (t : List (List Int)) (ht : t.length ≤ 1048576) (h6 : ∀ r ∈ t, r.length = 6) : ∃ s c : Int, Pure Tryz.prog 24 [.list (aggs t)] (.tup [.int .i64 s, .int .i64 c]) ∧ (c = 0 → ∃ fs n Q, t = fs.map mp ∧ (∀ f ∈ fs, Ok f n) ∧ 1 ≤ fs.length ∧ clR fs n = some Q ∧ s = ((elS n Q).length : Int) ∧ (elS n Q).length ≤ 300) := by
  by_cases hl : lcode t [] = 0
  · obtain ⟨fs, n, e, hf, h0, hfl, hn, h1, h5⟩ := lcode_maps h6 hl
    subst e
    have hE := p76_in fs n h1 h5 hf h0 hfl hl
    cases hR : clR fs n with
    | none =>
      rw [hR] at hE
      simp only at hE
      refine ⟨0, 3, ?_, fun h => absurd h (by decide)⟩
      refine e24 (by simp) fun _ _ => ?_
      simp only [k24, argEnv, take6, List.drop_zero, Int.cast_ofNat_Int, go_sem, ↓reduceIte, Nat.reduceEqDiff, Nat.reduceAdd, Nat.reduceMul, Nat.reduceLeDiff, Nat.reduceLT, Int.reduceLE, Int.reduceLT, reduceCtorEq]
      refine hE.go ?_
      try simp only [OpK_eq, HKv, take6, List.drop_zero, Int.cast_ofNat_Int, go_sem, ↓reduceIte, Nat.reduceEqDiff, Nat.reduceAdd, Nat.reduceMul, Nat.reduceLeDiff, Nat.reduceLT, Int.reduceLE, Int.reduceLT, reduceCtorEq]
      exact Kv.Fin.still ⟨rfl, rfl⟩
    | some Q =>
      obtain ⟨c3, c4⟩ := clB_okQ h1 h5 hf _ _ hR
      obtain ⟨_, _, s3⟩ := elS_ok c3
      rw [hR] at hE
      simp only at hE
      refine ⟨((elS n Q).length : Int), 0, ?_, fun _ => ⟨fs, n, Q, rfl, hf, h0, hR, rfl, by omega⟩⟩
      refine e24 (by simp) fun _ _ => ?_
      simp only [k24, argEnv, take6, List.drop_zero, Int.cast_ofNat_Int, go_sem, ↓reduceIte, Nat.reduceEqDiff, Nat.reduceAdd, Nat.reduceMul, Nat.reduceLeDiff, Nat.reduceLT, Int.reduceLE, Int.reduceLT, reduceCtorEq]
      refine hE.go ?_
      try simp only [OpK_eq, HKv, aggs_length, List.length_map, take6, List.drop_zero, Int.cast_ofNat_Int, go_sem, ↓reduceIte, Nat.reduceEqDiff, Nat.reduceAdd, Nat.reduceMul, Nat.reduceLeDiff, Nat.reduceLT, Int.reduceLE, Int.reduceLT, reduceCtorEq]
      repeat' (first | refine And.intro ?_ ?_ | intro _)
      all_goals (try omega)
      exact Kv.Fin.still ⟨rfl, rfl⟩
  · refine ⟨0, lcode t [], ?_, fun h => absurd h hl⟩
    refine e24 (by simp) fun _ _ => ?_
    simp only [k24, argEnv, take6, List.drop_zero, Int.cast_ofNat_Int, go_sem, ↓reduceIte, Nat.reduceEqDiff, Nat.reduceAdd, Nat.reduceMul, Nat.reduceLeDiff, Nat.reduceLT, Int.reduceLE, Int.reduceLT, reduceCtorEq]
    refine (p76_out t ht h6 hl).go ?_
    try simp only [OpK_eq, HKv, take6, List.drop_zero, Int.cast_ofNat_Int, go_sem, ↓reduceIte, Nat.reduceEqDiff, Nat.reduceAdd, Nat.reduceMul, Nat.reduceLeDiff, Nat.reduceLT, Int.reduceLE, Int.reduceLT, reduceCtorEq]
    exact Kv.Fin.still ⟨rfl, rfl⟩
end Go.Proofs.YthbbjbfbeaiphaaGreat
end
section
/- Side by side: what both sides answer, and the sizes. -/
namespace Go.Proofs.YthbbjbfbeaiphaaGreat
open Go.Kv
set_option linter.unusedVariables false
set_option linter.unusedSimpArgs false
attribute [local irreducible] ACall PCall KL
theorem p23e : Pure Tryz.prog 23 [.list (aggs []), .nils] (.bool true) := by
  refine e23 (by simp) fun _ _ => ?_
  simp only [k23, argEnv, take6, List.drop_zero, Int.cast_ofNat_Int, go_sem, ↓reduceIte, Nat.reduceEqDiff, Nat.reduceAdd, Nat.reduceMul, Nat.reduceLeDiff, Nat.reduceLT, Int.reduceLE, Int.reduceLT, reduceCtorEq]
  try simp only [OpK_eq, HKv, bne_self_eq_false, aggs_length, take6, List.drop_zero, Int.cast_ofNat_Int, go_sem, ↓reduceIte, Nat.reduceEqDiff, Nat.reduceAdd, Nat.reduceMul, Nat.reduceLeDiff, Nat.reduceLT, Int.reduceLE, Int.reduceLT, reduceCtorEq]
  refine KL_ind k23_b0.eq_1 (fun x : Unit => [(0, .list (aggs [])), (1, .nils), (5, .int .i64 0)]) (fun _ => []) (fun x => True) (fun x => 0) [0, 1, 5] () (by simp [keep]) rfl trivial fun x hx ih => ?_
  try simp only [OpK_eq, HKv, aggs_length, take6, List.drop_zero, Int.cast_ofNat_Int, go_sem, ↓reduceIte, Nat.reduceEqDiff, Nat.reduceAdd, Nat.reduceMul, Nat.reduceLeDiff, Nat.reduceLT, Int.reduceLE, Int.reduceLT, reduceCtorEq]
  exact Kv.Fin.still ⟨rfl, rfl⟩
theorem sb_loc (a b : List (List Int)) (ha : a.length ≤ 7) (ha6 : ∀ r ∈ a, r.length = 6) (hb : b.length ≤ 7) (hb6 : ∀ r ∈ b, r.length = 6) : ∃ (T : List (List Int)) (W : PV) (c : Int), Still W ∧ T.length ≤ 1000 ∧ (∀ r ∈ T, r.length = 6) ∧ Pure Tryz.prog 21 [.list (aggs a), .list (aggs b)] (.tup [.list (aggs T), .int .i64 c]) ∧ Pure Tryz.prog 22 [.list (aggs a), .list (aggs b)] (.tup [W, .int .i64 c]) ∧ Pure Tryz.prog 23 [.list (aggs T), W] (.bool true) ∧
    ∃ s1 c1 s2 c2 s3 c3 : Int, Pure Tryz.prog 24 [.list (aggs a)] (.tup [.int .i64 s1, .int .i64 c1]) ∧ Pure Tryz.prog 24 [.list (aggs b)] (.tup [.int .i64 s2, .int .i64 c2]) ∧ Pure Tryz.prog 24 [.list (aggs T)] (.tup [.int .i64 s3, .int .i64 c3]) ∧ (c = 0 → c1 = 0 → c2 = 0 → c3 = 0 → s3 = s1 * s2 ∧ (0 ≤ s1 * s2 ∧ s1 * s2 ≤ 100000)) := by
  obtain ⟨s1, c1, z1, y1⟩ := sz_loc a (by omega) ha6
  obtain ⟨s2, c2, z2, y2⟩ := sz_loc b (by omega) hb6
  have hi := NewAO.frozen (p21 a b (by omega) (by omega) ha6 hb6)
  by_cases h : sbc a b = 0
  · obtain ⟨h1, h2, h3, h4⟩ := sbc_zero h
    rw [h] at hi
    have hT : sbT a b = rsA ((ptz a).toNat + (ptz b).toNat) (a.map um) ++ rsB ((ptz a).toNat + (ptz b).toNat) (ptz a).toNat (b.map um) := by unfold sbT; rw [if_pos h]
    rw [hT] at hi
    obtain ⟨fs, n, rfl, hf, hl1, hl2, hn, hn1, hn5⟩ := lcode_maps ha6 h1
    obtain ⟨gs, m, rfl, hg, hm1, hm2, hm, hm1', hm5⟩ := lcode_maps hb6 h2
    unfold ptz at hi h3
    rw [hn, hm] at hi h3
    rw [map_um, map_um] at hi
    simp only [Int.toNat_natCast] at hi
    simp only [List.length_map] at h4
    have hnm : n + m ≤ 5 := by omega
    have eT : rsA (n + m) fs ++ rsB (n + m) n gs = (sbl n m fs gs).map mp := by
      unfold rsA rsB sbl
      rw [List.map_append, List.map_map, List.map_map]
      congr 1
      · exact List.map_congr_left fun f hfm => by rw [sA_cb (hf f hfm)]; rfl
      · exact List.map_congr_left fun g hgm => by rw [sB_cb (hg g hgm)]; rfl
    have hok : ∀ f ∈ sbl n m fs gs, Ok f (n + m) := fun f hfm => by
      rcases List.mem_append.1 hfm with h | h
      · obtain ⟨a, ha, rfl⟩ := List.mem_map.1 h
        exact cb_ok (hf a ha) (range_ok hm1' hm5) hnm
      · obtain ⟨a, ha, rfl⟩ := List.mem_map.1 h
        exact cb_ok (range_ok hn1 hn5) (hg a ha) hnm
    have hs := p22_in fs gs n m hf hg hl1 hm1 hnm h4 hn1 hm1' ha6 hb6 h1 h2
    rw [eT] at hi hs
    have hT6 : ∀ r ∈ (sbl n m fs gs).map mp, r.length = 6 := fun r hr => by
      obtain ⟨f, hfm, rfl⟩ := List.mem_map.1 hr
      exact (hok f hfm).mp_len
    have hTl : ((sbl n m fs gs).map mp).length ≤ 1000 := by simp [sbl]; omega
    obtain ⟨s3, c3, z3, y3⟩ := sz_loc ((sbl n m fs gs).map mp) (by omega) hT6
    refine ⟨_, _, 0, inferInstance, hTl, hT6, hi, hs, p23 _ hTl hT6, s1, c1, s2, c2, s3, c3, z1, z2, z3, fun _ e1 e2 e3 => ?_⟩
    obtain ⟨fs', n', Q1, q1, q2, q3, q4, q5, q6⟩ := y1 e1
    obtain ⟨gs', m', Q2, r1, r2, r3, r4, r5, r6⟩ := y2 e2
    obtain ⟨hs', k', Q3, t1, t2, t3, t4, t5, t6⟩ := y3 e3
    have u1 : fs' = fs := by have := congrArg (List.map um) q1; rw [map_um, map_um] at this; exact this.symm
    have u2 : gs' = gs := by have := congrArg (List.map um) r1; rw [map_um, map_um] at this; exact this.symm
    have u3 : hs' = sbl n m fs gs := by have := congrArg (List.map um) t1; rw [map_um, map_um] at this; exact this.symm
    subst u1; subst u2; subst u3
    have v1 : n' = n := by
      have g := List.getElem_mem (l := fs') (n := 0) (by omega)
      rw [← (q2 _ g).len, (hf _ g).len]
    have v2 : m' = m := by
      have g := List.getElem_mem (l := gs') (n := 0) (by omega)
      rw [← (r2 _ g).len, (hg _ g).len]
    have v3 : k' = n' + m' := by
      have g := List.getElem_mem (l := sbl n m fs' gs') (n := 0) (by omega)
      rw [← (t2 _ g).len, (hok _ g).len, v1, v2]
    subst v1; subst v2; subst v3
    have hsz := side_size hn1 hm1' hnm hf hg q4 r4 t4
    have hmul : (elS n' Q1).length * (elS m' Q2).length ≤ 300 * 300 := Nat.mul_le_mul q6 r6
    rw [q5, r5, t5, hsz, ← Int.natCast_mul]
    exact ⟨rfl, by omega, by omega⟩
  · have hT : sbT a b = [] := by unfold sbT; rw [if_neg h]
    rw [hT] at hi
    obtain ⟨s3, c3, z3, y3⟩ := sz_loc [] (by simp) (by simp)
    exact ⟨[], .nils, sbc a b, inferInstance, by simp, by simp, hi, p22_out a b (by omega) (by omega) ha6 hb6 h, p23e, s1, c1, s2, c2, s3, c3, z1, z2, z3, fun e => absurd e h⟩
end Go.Proofs.YthbbjbfbeaiphaaGreat
end
section
/- The law of isomorphisms, walked: from its end to its beginning. -/
namespace Go.Proofs.YthbbjbfbeaiphaaGreat
open Go.Kv
set_option maxRecDepth 100000
def k3 : KC := (.seq (.ops [oP 2 (.mv (.c (.bool false)))])
  (.seq (.seq (.ops [mV 47 0, oP 48 (.call (fC 5) [(.t 47)])])
  (.cond (.t 48) (.seq (.ops [oP 2 (.mv (.c (.bool true)))])
  .ret) .skip))
  (.seq (.ops [mV 50 0, oP 51 (.call (fC 6) [(.t 50)]), mV 49 51, oP 52 (.extr 0 (.t 49)), oP 53 (.extr 1 (.t 49)), mV 3 52, mV 4 53])
  (.seq (.ops [mV 55 3, mV 56 4, oP 57 (.call (fC 7) [(.t 55), (.t 56)]), mV 54 57, oP 58 (.extr 0 (.t 54)), oP 59 (.extr 1 (.t 54)), mV 5 58, mV 6 59])
  (.seq (.seq (.ops [mV 61 3, mV 62 4, oP 63 (.call (fC 8) [(.t 61), (.t 62)]), mV 60 63, oP 64 (.extr 0 (.t 60)), oP 65 (.extr 1 (.t 60)), mV 7 64, mV 8 65])
  (.seq (.ops [mV 66 6, mV 67 8, oP 68 (.bin .neq (.t 66) (.t 67)), mV 69 68, ⟨(some 70), some (69, false), .mv (.t 5)⟩, ⟨(some 71), some (69, false), .mv (.t 7)⟩, ⟨(some 72), some (69, false), .call (fC 9) [(.t 70), (.t 71)]⟩, ⟨(some 73), some (69, false), .not (.t 72)⟩, oP 74 (.pick (.t 69) (.c (.bool true)) (.t 73))])
  (.cond (.t 74) (.seq (.ops [oP 2 (.mv (.c (.bool false)))])
  .ret) .skip)))
  (.seq (.ops [mV 76 0, oP 77 (.call (fC 10) [(.t 76)]), mV 75 77, oP 78 (.extr 0 (.t 75)), oP 79 (.extr 1 (.t 75)), oP 80 (.extr 2 (.t 75)), mV 9 78, mV 10 79, mV 11 80])
  (.seq (.ops [mV 82 9, mV 83 10, mV 84 11, oP 85 (.call (fC 11) [(.t 82), (.t 83), (.t 84)]), mV 81 85, oP 86 (.extr 0 (.t 81)), oP 87 (.extr 1 (.t 81)), mV 12 86, mV 13 87])
  (.seq (.seq (.ops [mV 89 9, mV 90 10, mV 91 11, oP 92 (.call (fC 12) [(.t 89), (.t 90), (.t 91)]), mV 88 92, oP 93 (.extr 0 (.t 88)), oP 94 (.extr 1 (.t 88)), mV 14 93, mV 15 94])
  (.seq (.ops [mV 95 13, mV 96 15, oP 97 (.bin .neq (.t 95) (.t 96)), mV 98 97, ⟨(some 99), some (98, false), .mv (.t 12)⟩, ⟨(some 100), some (98, false), .mv (.t 14)⟩, ⟨(some 101), some (98, false), .beq true (.t 99) (.t 100)⟩, oP 102 (.pick (.t 98) (.c (.bool true)) (.t 101))])
  (.cond (.t 102) (.seq (.ops [oP 2 (.mv (.c (.bool false)))])
  .ret) .skip)))
  (.seq (.ops [mV 103 0, oP 104 (.call (fC 13) [(.t 103)]), mV 16 104])
  (.seq (.ops [mV 106 16, oP 107 (.call (fC 14) [(.t 106)]), mV 105 107, oP 108 (.extr 0 (.t 105)), oP 109 (.extr 1 (.t 105)), mV 17 108, mV 18 109])
  (.seq (.seq (.ops [mV 111 16, oP 112 (.call (fC 15) [(.t 111)]), mV 110 112, oP 113 (.extr 0 (.t 110)), oP 114 (.extr 1 (.t 110)), mV 19 113, mV 20 114])
  (.seq (.ops [mV 115 18, mV 116 20, oP 117 (.bin .neq (.t 115) (.t 116)), mV 118 117, ⟨(some 119), some (118, false), .mv (.t 17)⟩, ⟨(some 120), some (118, false), .mv (.t 19)⟩, ⟨(some 121), some (118, false), .bin .neq (.t 119) (.t 120)⟩, oP 122 (.pick (.t 118) (.c (.bool true)) (.t 121))])
  (.cond (.t 122) (.seq (.ops [oP 2 (.mv (.c (.bool false)))])
  .ret) .skip)))
  (.seq (.ops [mV 124 0, oP 125 (.call (fC 16) [(.t 124)]), mV 123 125, oP 126 (.extr 0 (.t 123)), oP 127 (.extr 1 (.t 123)), mV 21 126, mV 22 127])
  (.seq (.ops [mV 129 21, mV 130 22, oP 131 (.call (fC 17) [(.t 129), (.t 130)]), mV 128 131, oP 132 (.extr 0 (.t 128)), oP 133 (.extr 1 (.t 128)), mV 23 132, mV 24 133])
  (.seq (.seq (.ops [mV 135 21, mV 136 22, oP 137 (.call (fC 18) [(.t 135), (.t 136)]), mV 134 137, oP 138 (.extr 0 (.t 134)), oP 139 (.extr 1 (.t 134)), mV 25 138, mV 26 139])
  (.seq (.ops [mV 140 24, mV 141 26, oP 142 (.bin .neq (.t 140) (.t 141)), mV 143 142, ⟨(some 144), some (143, false), .mv (.t 23)⟩, ⟨(some 145), some (143, false), .mv (.t 25)⟩, ⟨(some 146), some (143, false), .call (fC 19) [(.t 144), (.t 145)]⟩, ⟨(some 147), some (143, false), .not (.t 146)⟩, oP 148 (.pick (.t 143) (.c (.bool true)) (.t 147))])
  (.cond (.t 148) (.seq (.ops [oP 2 (.mv (.c (.bool false)))])
  .ret) .skip)))
  (.seq (.ops [mV 150 0, oP 151 (.call (fC 20) [(.t 150)]), mV 149 151, oP 152 (.extr 0 (.t 149)), oP 153 (.extr 1 (.t 149)), mV 27 152, mV 28 153])
  (.seq (.ops [mV 155 27, mV 156 28, oP 157 (.call (fC 21) [(.t 155), (.t 156)]), mV 154 157, oP 158 (.extr 0 (.t 154)), oP 159 (.extr 1 (.t 154)), mV 29 158, mV 30 159])
  (.seq (.seq (.ops [mV 161 27, mV 162 28, oP 163 (.call (fC 22) [(.t 161), (.t 162)]), mV 160 163, oP 164 (.extr 0 (.t 160)), oP 165 (.extr 1 (.t 160)), mV 31 164, mV 32 165])
  (.seq (.ops [mV 166 30, mV 167 32, oP 168 (.bin .neq (.t 166) (.t 167)), mV 169 168, ⟨(some 170), some (169, false), .mv (.t 29)⟩, ⟨(some 171), some (169, false), .mv (.t 31)⟩, ⟨(some 172), some (169, false), .call (fC 23) [(.t 170), (.t 171)]⟩, ⟨(some 173), some (169, false), .not (.t 172)⟩, oP 174 (.pick (.t 169) (.c (.bool true)) (.t 173))])
  (.cond (.t 174) (.seq (.ops [oP 2 (.mv (.c (.bool false)))])
  .ret) .skip)))
  (.seq (.seq (.ops [mV 175 30, oP 176 (.bin .eql (.t 175) (iC 0))])
  (.cond (.t 176) (.seq (.ops [mV 178 27, oP 179 (.call (fC 24) [(.t 178)]), mV 177 179, oP 180 (.extr 0 (.t 177)), oP 181 (.extr 1 (.t 177)), mV 33 180, mV 34 181])
  (.seq (.ops [mV 183 28, oP 184 (.call (fC 24) [(.t 183)]), mV 182 184, oP 185 (.extr 0 (.t 182)), oP 186 (.extr 1 (.t 182)), mV 35 185, mV 36 186])
  (.seq (.ops [mV 188 29, oP 189 (.call (fC 24) [(.t 188)]), mV 187 189, oP 190 (.extr 0 (.t 187)), oP 191 (.extr 1 (.t 187)), mV 37 190, mV 38 191])
  (.seq (.ops [mV 192 34, oP 193 (.bin .eql (.t 192) (iC 0)), mV 194 193, ⟨(some 195), some (194, true), .mv (.t 36)⟩, ⟨(some 196), some (194, true), .bin .eql (.t 195) (iC 0)⟩, oP 197 (.pick (.t 194) (.t 196) (.c (.bool false))), mV 198 197, ⟨(some 199), some (198, true), .mv (.t 38)⟩, ⟨(some 200), some (198, true), .bin .eql (.t 199) (iC 0)⟩, oP 201 (.pick (.t 198) (.t 200) (.c (.bool false))), mV 202 201, ⟨(some 203), some (202, true), .mv (.t 37)⟩, ⟨(some 204), some (202, true), .mv (.t 33)⟩, ⟨(some 205), some (202, true), .mv (.t 35)⟩, ⟨(some 206), some (202, true), .bin .mul (.t 204) (.t 205)⟩, ⟨(some 207), some (202, true), .bin .neq (.t 203) (.t 206)⟩, oP 208 (.pick (.t 202) (.t 207) (.c (.bool false)))])
  (.cond (.t 208) (.seq (.ops [oP 2 (.mv (.c (.bool false)))])
  .ret) .skip))))) .skip))
  (.seq (.seq (.ops [mV 209 24, oP 210 (.bin .eql (.t 209) (iC 0))])
  (.cond (.t 210) (.seq (.ops [mV 212 21, oP 213 (.call (fC 25) [(.t 212)]), mV 211 213, oP 214 (.extr 0 (.t 211)), oP 215 (.extr 1 (.t 211)), mV 39 214, mV 40 215])
  (.seq (.ops [mV 217 22, oP 218 (.call (fC 25) [(.t 217)]), mV 216 218, oP 219 (.extr 0 (.t 216)), oP 220 (.extr 1 (.t 216)), mV 41 219, mV 42 220])
  (.seq (.ops [mV 222 23, oP 223 (.call (fC 25) [(.t 222)]), mV 221 223, oP 224 (.extr 0 (.t 221)), oP 225 (.extr 1 (.t 221)), mV 43 224, mV 44 225])
  (.seq (.ops [mV 226 40, oP 227 (.bin .eql (.t 226) (iC 0)), mV 228 227, ⟨(some 229), some (228, true), .mv (.t 42)⟩, ⟨(some 230), some (228, true), .bin .eql (.t 229) (iC 0)⟩, oP 231 (.pick (.t 228) (.t 230) (.c (.bool false))), mV 232 44, oP 233 (.bin .eql (.t 232) (iC 0)), oP 234 (.beq true (.t 231) (.t 233)), mV 235 234, ⟨(some 236), some (235, false), .mv (.t 44)⟩, ⟨(some 237), some (235, false), .bin .eql (.t 236) (iC 0)⟩, ⟨(some 238), some (235, false), .mv (.t 237)⟩, ⟨(some 239), some (238, true), .mv (.t 43)⟩, ⟨(some 240), some (238, true), .mv (.t 39)⟩, ⟨(some 241), some (238, true), .mv (.t 22)⟩, ⟨(some 242), some (238, true), .len false (.t 241)⟩, ⟨(some 243), some (238, true), .bin .mul (.t 240) (.t 242)⟩, ⟨(some 244), some (238, true), .mv (.t 41)⟩, ⟨(some 245), some (238, true), .bin .add (.t 243) (.t 244)⟩, ⟨(some 246), some (238, true), .bin .neq (.t 239) (.t 245)⟩, ⟨(some 247), some (235, false), .pick (.t 238) (.t 246) (.c (.bool false))⟩, oP 248 (.pick (.t 235) (.c (.bool true)) (.t 247))])
  (.cond (.t 248) (.seq (.ops [oP 2 (.mv (.c (.bool false)))])
  .ret) .skip))))) .skip))
  (.seq (.seq (.ops [mV 249 18, oP 250 (.bin .eql (.t 249) (iC 0)), mV 251 250, ⟨(some 252), some (251, true), .mv (.t 17)⟩, ⟨(some 253), some (251, true), .bin .lss (.t 252) (iC 1)⟩, oP 254 (.pick (.t 251) (.t 253) (.c (.bool false)))])
  (.cond (.t 254) (.seq (.ops [oP 2 (.mv (.c (.bool false)))])
  .ret) .skip))
  (.seq (.seq (.ops [mV 255 6, oP 256 (.bin .neq (.t 255) (iC 0))])
  (.cond (.t 256) (.seq (.ops [mV 257 5, oP 258 (.len false (.t 257)), oP 259 (.bin .eql (.t 258) (iC 0)), mV 2 259])
  .ret) .skip))
  (.seq (.ops [mV 261 3, mV 262 4, mV 263 5, oP 264 (.call (fC 11) [(.t 261), (.t 262), (.t 263)]), mV 260 264, oP 265 (.extr 0 (.t 260)), oP 266 (.extr 1 (.t 260)), mV 45 265, mV 46 266])
  (.seq (.ops [mV 267 46, oP 268 (.bin .eql (.t 267) (iC 0)), mV 269 268, ⟨(some 270), some (269, true), .mv (.t 45)⟩, oP 271 (.pick (.t 269) (.t 270) (.c (.bool false))), mV 2 271])
  .ret)))))))))))))))))))))))
theorem e3 : Ent 3 272 [] [.t 2] k3 := ent Tryz.func3 (by kernel_rfl) (by kernel_rfl) (by kernel_rfl) (fun _ => by kernel_rfl) (by kernel_rfl)
end Go.Proofs.YthbbjbfbeaiphaaGreat
namespace Go.Proofs.YthbbjbfbeaiphaaGreat
open Go.Kv
set_option linter.unusedVariables false
set_option linter.unusedSimpArgs false
attribute [local irreducible] ACall PCall KL
attribute [local go_sem] take6 List.drop_zero Int.cast_ofNat_Int OpK_eq HKv bne_self_eq_false decide_true Bool.not_true beq_self_eq_true Bool.not_false
def hdK : KC → KC
  | .seq a _ => a
  | k => k
def tlK : KC → KC
  | .seq _ b => b
  | k => k
def drK : Nat → KC → KC
  | 0, k => k
  | n + 1, k => drK n (tlK k)
def upK : Nat → KC → KC → KC
  | 0, _, t => t
  | n + 1, k, t => .seq (hdK k) (upK n (tlK k) t)
/-- What is left behind k steps of the law. -/
abbrev Rest (K : PV → Heap → Prop) (k : Nat) (env : Env) : Prop := vc (mkCfg Tryz.prog mixed [] 272 0) (drK k k3) (FinK 0 [.t 2] K) env []
section
variable {K : PV → Heap → Prop}
theorem rest20 (hK : K (.bool true) []) {a b : List (List Int)} {T : List Int} {c1 : Int} (hc : (c1 = 0 ∧ Pure Tryz.prog 11 [.list (rows a), .list (rows b), .list (ints T)] (.tup [.bool true, .int .i64 0])) ∨ (c1 ≠ 0 ∧ T = [])) {env : Env}
    (u3 : Kv.look env 3 = .list (rows a)) (u4 : Kv.look env 4 = .list (rows b)) (u5 : Kv.look env 5 = .list (ints T)) (u6 : Kv.look env 6 = .int .i64 c1) : Rest K 20 env := by
  unfold Rest
  simp only [drK, tlK, k3]
  rcases hc with ⟨rfl, hI⟩ | ⟨h, rfl⟩
  · try simp only [u3, u4, u5, u6, go_sem, ↓reduceIte, Nat.reduceEqDiff, Nat.reduceAdd, Nat.reduceMul, Nat.reduceLeDiff, Nat.reduceLT, Int.reduceLE, Int.reduceLT, reduceCtorEq]
    refine hI.go ?_
    try simp only [u3, u4, u5, u6, go_sem, ↓reduceIte, Nat.reduceEqDiff, Nat.reduceAdd, Nat.reduceMul, Nat.reduceLeDiff, Nat.reduceLT, Int.reduceLE, Int.reduceLT, reduceCtorEq]
    exact Kv.Fin.still hK
  · try simp only [u3, u4, u5, u6, h, decide_false, go_sem, ↓reduceIte, Nat.reduceEqDiff, Nat.reduceAdd, Nat.reduceMul, Nat.reduceLeDiff, Nat.reduceLT, Int.reduceLE, Int.reduceLT, reduceCtorEq]
    exact Kv.Fin.still hK
theorem rest19 {v3 c3 : Int} (hc : c3 = 0 → 1 ≤ v3) {env : Env} (u17 : Kv.look env 17 = .int .i64 v3) (u18 : Kv.look env 18 = .int .i64 c3) {u3 u4 u5 u6 : PV} (h3 : Kv.look env 3 = u3) (h4 : Kv.look env 4 = u4) (h5 : Kv.look env 5 = u5) (h6 : Kv.look env 6 = u6)
    (hr : ∀ env : Env, Kv.look env 3 = u3 → Kv.look env 4 = u4 → Kv.look env 5 = u5 → Kv.look env 6 = u6 → Rest K 20 env) : Rest K 19 env := by
  unfold Rest at hr ⊢
  rw [show drK 19 k3 = upK 1 (drK 19 k3) (drK 20 k3) from rfl]
  generalize drK 20 k3 = t at hr ⊢
  simp only [upK, hdK, drK, tlK, k3]
  by_cases h : c3 = 0
  · subst h
    have h1 : ¬ v3 < 1 := by have := hc rfl; omega
    try simp only [u17, u18, h1, decide_false, go_sem, ↓reduceIte, Nat.reduceEqDiff, Nat.reduceAdd, Nat.reduceMul, Nat.reduceLeDiff, Nat.reduceLT, Int.reduceLE, Int.reduceLT, reduceCtorEq]
    exact hr _ (by simp [h3]) (by simp [h4]) (by simp [h5]) (by simp [h6])
  · try simp only [u17, u18, h, decide_false, go_sem, ↓reduceIte, Nat.reduceEqDiff, Nat.reduceAdd, Nat.reduceMul, Nat.reduceLeDiff, Nat.reduceLT, Int.reduceLE, Int.reduceLT, reduceCtorEq]
    exact hr _ (by simp [h3]) (by simp [h4]) (by simp [h5]) (by simp [h6])
theorem rest18 {e f : List (List Int)} {V : PV} [Still V] {c4 : Int} (hf : f.length ≤ 41)
    (hc : c4 = 0 → ∃ x cx y cy z cz : Int, Pure Tryz.prog 25 [.list (rows e)] (.tup [.int .i64 x, .int .i64 cx]) ∧ Pure Tryz.prog 25 [.list (rows f)] (.tup [.int .i64 y, .int .i64 cy]) ∧ Pure Tryz.prog 25 [V] (.tup [.int .i64 z, .int .i64 cz]) ∧ (cz = 0 ↔ cx = 0 ∧ cy = 0) ∧ (cz = 0 → z = x * f.length + y) ∧ (0 ≤ x ∧ x ≤ 40) ∧ (0 ≤ y ∧ y ≤ 40))
    {env : Env} (u21 : Kv.look env 21 = .list (rows e)) (u22 : Kv.look env 22 = .list (rows f)) (u23 : Kv.look env 23 = V) (u24 : Kv.look env 24 = .int .i64 c4) {u3 u4 u5 u6 u17 u18 : PV} (h3 : Kv.look env 3 = u3) (h4 : Kv.look env 4 = u4) (h5 : Kv.look env 5 = u5) (h6 : Kv.look env 6 = u6) (h17 : Kv.look env 17 = u17) (h18 : Kv.look env 18 = u18)
    (hr : ∀ env : Env, Kv.look env 3 = u3 → Kv.look env 4 = u4 → Kv.look env 5 = u5 → Kv.look env 6 = u6 → Kv.look env 17 = u17 → Kv.look env 18 = u18 → Rest K 19 env) : Rest K 18 env := by
  unfold Rest at hr ⊢
  rw [show drK 18 k3 = upK 1 (drK 18 k3) (drK 19 k3) from rfl]
  generalize drK 19 k3 = t at hr ⊢
  simp only [upK, hdK, drK, tlK, k3]
  by_cases h : c4 = 0
  · obtain ⟨x, cx, y, cy, z, cz, i1, i2, i3, hz, hzz, hx, hy⟩ := hc h
    subst h
    try simp only [u24, go_sem, ↓reduceIte, Nat.reduceEqDiff, Nat.reduceAdd, Nat.reduceMul, Nat.reduceLeDiff, Nat.reduceLT, Int.reduceLE, Int.reduceLT, reduceCtorEq]
    try simp only [u21, u22, u23, go_sem, ↓reduceIte, Nat.reduceEqDiff, Nat.reduceAdd, Nat.reduceMul, Nat.reduceLeDiff, Nat.reduceLT, Int.reduceLE, Int.reduceLT, reduceCtorEq]
    refine i1.go ?_
    try simp only [u21, u22, u23, go_sem, ↓reduceIte, Nat.reduceEqDiff, Nat.reduceAdd, Nat.reduceMul, Nat.reduceLeDiff, Nat.reduceLT, Int.reduceLE, Int.reduceLT, reduceCtorEq]
    refine i2.go ?_
    try simp only [u21, u22, u23, go_sem, ↓reduceIte, Nat.reduceEqDiff, Nat.reduceAdd, Nat.reduceMul, Nat.reduceLeDiff, Nat.reduceLT, Int.reduceLE, Int.reduceLT, reduceCtorEq]
    refine i3.go ?_
    have hm := Int.mul_nonneg hx.1 (by omega : (0 : Int) ≤ f.length)
    have hm2 := Int.mul_le_mul hx.2 (by omega : (f.length : Int) ≤ 41) (by omega) (by omega)
    by_cases g : cz = 0
    · obtain ⟨g1, g2⟩ := hz.1 g
      subst g; subst g1; subst g2
      have hzz := hzz rfl
      subst hzz
      generalize hmm : x * (f.length : Int) = w at *
      try simp only [u21, u22, u23, hmm, go_sem, ↓reduceIte, Nat.reduceEqDiff, Nat.reduceAdd, Nat.reduceMul, Nat.reduceLeDiff, Nat.reduceLT, Int.reduceLE, Int.reduceLT, reduceCtorEq]
      exact ⟨by omega, by omega, hr _ (by simp [h3]) (by simp [h4]) (by simp [h5]) (by simp [h6]) (by simp [h17]) (by simp [h18])⟩
    · by_cases g1 : cx = 0
      · have g2 : cy ≠ 0 := fun e => g (hz.2 ⟨g1, e⟩)
        subst g1
        try simp only [g, g2, decide_false, go_sem, ↓reduceIte, Nat.reduceEqDiff, Nat.reduceAdd, Nat.reduceMul, Nat.reduceLeDiff, Nat.reduceLT, Int.reduceLE, Int.reduceLT, reduceCtorEq]
        exact hr _ (by simp [h3]) (by simp [h4]) (by simp [h5]) (by simp [h6]) (by simp [h17]) (by simp [h18])
      · try simp only [g, g1, decide_false, go_sem, ↓reduceIte, Nat.reduceEqDiff, Nat.reduceAdd, Nat.reduceMul, Nat.reduceLeDiff, Nat.reduceLT, Int.reduceLE, Int.reduceLT, reduceCtorEq]
        exact hr _ (by simp [h3]) (by simp [h4]) (by simp [h5]) (by simp [h6]) (by simp [h17]) (by simp [h18])
  · try simp only [u24, h, decide_false, go_sem, ↓reduceIte, Nat.reduceEqDiff, Nat.reduceAdd, Nat.reduceMul, Nat.reduceLeDiff, Nat.reduceLT, Int.reduceLE, Int.reduceLT, reduceCtorEq]
    exact hr _ (by simp [h3]) (by simp [h4]) (by simp [h5]) (by simp [h6]) (by simp [h17]) (by simp [h18])
theorem rest17 {a b : List (List Int)} {S : List (List Int)} {c5 : Int}
    (hc : ∃ s1 c1 s2 c2 s3 c3 : Int, Pure Tryz.prog 24 [.list (aggs a)] (.tup [.int .i64 s1, .int .i64 c1]) ∧ Pure Tryz.prog 24 [.list (aggs b)] (.tup [.int .i64 s2, .int .i64 c2]) ∧ Pure Tryz.prog 24 [.list (aggs S)] (.tup [.int .i64 s3, .int .i64 c3]) ∧ (c5 = 0 → c1 = 0 → c2 = 0 → c3 = 0 → s3 = s1 * s2 ∧ (0 ≤ s1 * s2 ∧ s1 * s2 ≤ 100000)))
    {env : Env} (u27 : Kv.look env 27 = .list (aggs a)) (u28 : Kv.look env 28 = .list (aggs b)) (u29 : Kv.look env 29 = .list (aggs S)) (u30 : Kv.look env 30 = .int .i64 c5) {u3 u4 u5 u6 u17 u18 u21 u22 u23 u24 : PV} (h3 : Kv.look env 3 = u3) (h4 : Kv.look env 4 = u4) (h5 : Kv.look env 5 = u5) (h6 : Kv.look env 6 = u6) (h17 : Kv.look env 17 = u17) (h18 : Kv.look env 18 = u18) (h21 : Kv.look env 21 = u21) (h22 : Kv.look env 22 = u22) (h23 : Kv.look env 23 = u23) (h24 : Kv.look env 24 = u24)
    (hr : ∀ env : Env, Kv.look env 3 = u3 → Kv.look env 4 = u4 → Kv.look env 5 = u5 → Kv.look env 6 = u6 → Kv.look env 17 = u17 → Kv.look env 18 = u18 → Kv.look env 21 = u21 → Kv.look env 22 = u22 → Kv.look env 23 = u23 → Kv.look env 24 = u24 → Rest K 18 env) : Rest K 17 env := by
  unfold Rest at hr ⊢
  rw [show drK 17 k3 = upK 1 (drK 17 k3) (drK 18 k3) from rfl]
  generalize drK 18 k3 = t at hr ⊢
  simp only [upK, hdK, drK, tlK, k3]
  obtain ⟨s1, c1, s2, c2, s3, c3, i1, i2, i3, hz⟩ := hc
  by_cases h : c5 = 0
  · have hz := hz h
    subst h
    try simp only [u30, go_sem, ↓reduceIte, Nat.reduceEqDiff, Nat.reduceAdd, Nat.reduceMul, Nat.reduceLeDiff, Nat.reduceLT, Int.reduceLE, Int.reduceLT, reduceCtorEq]
    try simp only [u27, u28, u29, go_sem, ↓reduceIte, Nat.reduceEqDiff, Nat.reduceAdd, Nat.reduceMul, Nat.reduceLeDiff, Nat.reduceLT, Int.reduceLE, Int.reduceLT, reduceCtorEq]
    refine i1.go ?_
    try simp only [u27, u28, u29, go_sem, ↓reduceIte, Nat.reduceEqDiff, Nat.reduceAdd, Nat.reduceMul, Nat.reduceLeDiff, Nat.reduceLT, Int.reduceLE, Int.reduceLT, reduceCtorEq]
    refine i2.go ?_
    try simp only [u27, u28, u29, go_sem, ↓reduceIte, Nat.reduceEqDiff, Nat.reduceAdd, Nat.reduceMul, Nat.reduceLeDiff, Nat.reduceLT, Int.reduceLE, Int.reduceLT, reduceCtorEq]
    refine i3.go ?_
    by_cases g1 : c1 = 0
    · by_cases g2 : c2 = 0
      · by_cases g3 : c3 = 0
        · obtain ⟨e1, e2⟩ := hz rfl g1 g2 g3
          subst g1; subst g2; subst g3; subst e1
          try simp only [u27, go_sem, ↓reduceIte, Nat.reduceEqDiff, Nat.reduceAdd, Nat.reduceMul, Nat.reduceLeDiff, Nat.reduceLT, Int.reduceLE, Int.reduceLT, reduceCtorEq]
          exact ⟨by omega, hr _ (by simp [h3]) (by simp [h4]) (by simp [h5]) (by simp [h6]) (by simp [h17]) (by simp [h18]) (by simp [h21]) (by simp [h22]) (by simp [h23]) (by simp [h24])⟩
        · subst g1; subst g2
          try simp only [g3, decide_false, go_sem, ↓reduceIte, Nat.reduceEqDiff, Nat.reduceAdd, Nat.reduceMul, Nat.reduceLeDiff, Nat.reduceLT, Int.reduceLE, Int.reduceLT, reduceCtorEq]
          exact hr _ (by simp [h3]) (by simp [h4]) (by simp [h5]) (by simp [h6]) (by simp [h17]) (by simp [h18]) (by simp [h21]) (by simp [h22]) (by simp [h23]) (by simp [h24])
      · subst g1
        try simp only [g2, decide_false, go_sem, ↓reduceIte, Nat.reduceEqDiff, Nat.reduceAdd, Nat.reduceMul, Nat.reduceLeDiff, Nat.reduceLT, Int.reduceLE, Int.reduceLT, reduceCtorEq]
        exact hr _ (by simp [h3]) (by simp [h4]) (by simp [h5]) (by simp [h6]) (by simp [h17]) (by simp [h18]) (by simp [h21]) (by simp [h22]) (by simp [h23]) (by simp [h24])
    · try simp only [g1, decide_false, go_sem, ↓reduceIte, Nat.reduceEqDiff, Nat.reduceAdd, Nat.reduceMul, Nat.reduceLeDiff, Nat.reduceLT, Int.reduceLE, Int.reduceLT, reduceCtorEq]
      exact hr _ (by simp [h3]) (by simp [h4]) (by simp [h5]) (by simp [h6]) (by simp [h17]) (by simp [h18]) (by simp [h21]) (by simp [h22]) (by simp [h23]) (by simp [h24])
  · try simp only [u30, h, decide_false, go_sem, ↓reduceIte, Nat.reduceEqDiff, Nat.reduceAdd, Nat.reduceMul, Nat.reduceLeDiff, Nat.reduceLT, Int.reduceLE, Int.reduceLT, reduceCtorEq]
    exact hr _ (by simp [h3]) (by simp [h4]) (by simp [h5]) (by simp [h6]) (by simp [h17]) (by simp [h18]) (by simp [h21]) (by simp [h22]) (by simp [h23]) (by simp [h24])
end
set_option maxRecDepth 100000 in
set_option maxHeartbeats 8000000 in
theorem p3 (l : List Int) (hl : l.length ≤ 9223372036854775807) (hb : ∀ z ∈ l, 0 ≤ z ∧ z ≤ 255) : Pure Tryz.prog 3 [.list (u8s l)] (.bool true) := by
  refine e3 (by simp) fun _ _ => ?_
  have hK : (fun (v : PV) (σ : Heap) => v = .bool true ∧ σ = []) (.bool true) [] := ⟨rfl, rfl⟩
  have r17 := @rest17 (fun (v : PV) (σ : Heap) => v = .bool true ∧ σ = [])
  have r18 := @rest18 (fun (v : PV) (σ : Heap) => v = .bool true ∧ σ = [])
  have r19 := @rest19 (fun (v : PV) (σ : Heap) => v = .bool true ∧ σ = [])
  have r20 := @rest20 (fun (v : PV) (σ : Heap) => v = .bool true ∧ σ = []) hK
  unfold Rest at r17
  show vc (mkCfg Tryz.prog mixed [] 272 0) (upK 17 k3 (drK 17 k3)) (FinK 0 [.t 2] fun v σ => v = .bool true ∧ σ = []) (argEnv 0 [.list (u8s l)]) []
  generalize drK 17 k3 = t at r17 ⊢
  simp only [upK, hdK, drK, tlK, k3]
  try simp only [argEnv, go_sem, ↓reduceIte, Nat.reduceEqDiff, Nat.reduceAdd, Nat.reduceMul, Nat.reduceLeDiff, Nat.reduceLT, Int.reduceLE, Int.reduceLT, reduceCtorEq]
  refine (p5 l hl).go ?_
  try simp only [go_sem, ↓reduceIte, Nat.reduceEqDiff, Nat.reduceAdd, Nat.reduceMul, Nat.reduceLeDiff, Nat.reduceLT, Int.reduceLE, Int.reduceLT, reduceCtorEq]
  refine ⟨fun h => Kv.Fin.still ⟨rfl, rfl⟩, fun hbig => ?_⟩
  have hB : Byt l := ⟨by omega, hb⟩
  refine p6 hB fun a b ha hb => ?_
  obtain ⟨T, W, c1, hW, _, i1, s1, m1, h1⟩ := fi_loc ha hb
  try simp only [go_sem, ↓reduceIte, Nat.reduceEqDiff, Nat.reduceAdd, Nat.reduceMul, Nat.reduceLeDiff, Nat.reduceLT, Int.reduceLE, Int.reduceLT, reduceCtorEq]
  refine i1.go ?_
  try simp only [go_sem, ↓reduceIte, Nat.reduceEqDiff, Nat.reduceAdd, Nat.reduceMul, Nat.reduceLeDiff, Nat.reduceLT, Int.reduceLE, Int.reduceLT, reduceCtorEq]
  refine s1.go ?_
  try simp only [go_sem, ↓reduceIte, Nat.reduceEqDiff, Nat.reduceAdd, Nat.reduceMul, Nat.reduceLeDiff, Nat.reduceLT, Int.reduceLE, Int.reduceLT, reduceCtorEq]
  refine m1.go ?_
  try simp only [go_sem, ↓reduceIte, Nat.reduceEqDiff, Nat.reduceAdd, Nat.reduceMul, Nat.reduceLeDiff, Nat.reduceLT, Int.reduceLE, Int.reduceLT, reduceCtorEq]
  refine p10 hB fun c d q hc hd hq => ?_
  obtain ⟨v2, c2, i2, s2⟩ := ii_loc hc hd q hq
  try simp only [go_sem, ↓reduceIte, Nat.reduceEqDiff, Nat.reduceAdd, Nat.reduceMul, Nat.reduceLeDiff, Nat.reduceLT, Int.reduceLE, Int.reduceLT, reduceCtorEq]
  refine i2.go ?_
  try simp only [go_sem, ↓reduceIte, Nat.reduceEqDiff, Nat.reduceAdd, Nat.reduceMul, Nat.reduceLeDiff, Nat.reduceLT, Int.reduceLE, Int.reduceLT, reduceCtorEq]
  refine s2.go ?_
  try simp only [go_sem, ↓reduceIte, Nat.reduceEqDiff, Nat.reduceAdd, Nat.reduceMul, Nat.reduceLeDiff, Nat.reduceLT, Int.reduceLE, Int.reduceLT, reduceCtorEq]
  refine p13 hB fun t3 ht3 => ?_
  obtain ⟨v3, c3, i3, s3, h3⟩ := cs_loc ht3
  try simp only [go_sem, ↓reduceIte, Nat.reduceEqDiff, Nat.reduceAdd, Nat.reduceMul, Nat.reduceLeDiff, Nat.reduceLT, Int.reduceLE, Int.reduceLT, reduceCtorEq]
  refine i3.go ?_
  try simp only [go_sem, ↓reduceIte, Nat.reduceEqDiff, Nat.reduceAdd, Nat.reduceMul, Nat.reduceLeDiff, Nat.reduceLT, Int.reduceLE, Int.reduceLT, reduceCtorEq]
  refine s3.go ?_
  try simp only [go_sem, ↓reduceIte, Nat.reduceEqDiff, Nat.reduceAdd, Nat.reduceMul, Nat.reduceLeDiff, Nat.reduceLT, Int.reduceLE, Int.reduceLT, reduceCtorEq]
  refine p16 hB fun e f he hf => ?_
  obtain ⟨V, c4, hV, i4, s4, m4, h4⟩ := pt_loc he hf
  try simp only [go_sem, ↓reduceIte, Nat.reduceEqDiff, Nat.reduceAdd, Nat.reduceMul, Nat.reduceLeDiff, Nat.reduceLT, Int.reduceLE, Int.reduceLT, reduceCtorEq]
  refine i4.go ?_
  try simp only [go_sem, ↓reduceIte, Nat.reduceEqDiff, Nat.reduceAdd, Nat.reduceMul, Nat.reduceLeDiff, Nat.reduceLT, Int.reduceLE, Int.reduceLT, reduceCtorEq]
  refine s4.go ?_
  try simp only [go_sem, ↓reduceIte, Nat.reduceEqDiff, Nat.reduceAdd, Nat.reduceMul, Nat.reduceLeDiff, Nat.reduceLT, Int.reduceLE, Int.reduceLT, reduceCtorEq]
  refine m4.go ?_
  try simp only [go_sem, ↓reduceIte, Nat.reduceEqDiff, Nat.reduceAdd, Nat.reduceMul, Nat.reduceLeDiff, Nat.reduceLT, Int.reduceLE, Int.reduceLT, reduceCtorEq]
  refine p20 hB fun g h g7 g6 h7 h6 => ?_
  obtain ⟨S, W5, c5, hW5, _, _, i5, s5, m5, h5⟩ := sb_loc g h g7 g6 h7 h6
  try simp only [go_sem, ↓reduceIte, Nat.reduceEqDiff, Nat.reduceAdd, Nat.reduceMul, Nat.reduceLeDiff, Nat.reduceLT, Int.reduceLE, Int.reduceLT, reduceCtorEq]
  refine i5.go ?_
  try simp only [go_sem, ↓reduceIte, Nat.reduceEqDiff, Nat.reduceAdd, Nat.reduceMul, Nat.reduceLeDiff, Nat.reduceLT, Int.reduceLE, Int.reduceLT, reduceCtorEq]
  refine s5.go ?_
  try simp only [go_sem, ↓reduceIte, Nat.reduceEqDiff, Nat.reduceAdd, Nat.reduceMul, Nat.reduceLeDiff, Nat.reduceLT, Int.reduceLE, Int.reduceLT, reduceCtorEq]
  refine m5.go ?_
  try simp only [go_sem, ↓reduceIte, Nat.reduceEqDiff, Nat.reduceAdd, Nat.reduceMul, Nat.reduceLeDiff, Nat.reduceLT, Int.reduceLE, Int.reduceLT, reduceCtorEq]
  refine r17 h5 (by simp) (by simp) (by simp) (by simp) (by simp; rfl) (by simp; rfl) (by simp; rfl) (by simp; rfl) (by simp; rfl) (by simp; rfl) (by simp; rfl) (by simp; rfl) (by simp; rfl) (by simp; rfl) fun env x3 x4 x5 x6 x17 x18 x21 x22 x23 x24 => ?_
  refine r18 hf.2.1 h4 x21 x22 x23 x24 x3 x4 x5 x6 x17 x18 fun env x3 x4 x5 x6 x17 x18 => ?_
  refine r19 h3 x17 x18 x3 x4 x5 x6 fun env x3 x4 x5 x6 => ?_
  refine r20 ?_ x3 x4 x5 x6
  rcases h1 with ⟨h1, _, h2⟩ | h1
  · exact .inl ⟨h1, h2⟩
  · exact .inr h1
end Go.Proofs.YthbbjbfbeaiphaaGreat
end
