/- newMonoid. -/
import Derived.Test.YtpepbomifjbgnaaNC
import Derived.Test.YtpepbomifjbgnaaNP
import Derived.Test.YtpepbomifjbgnaaTL
import Derived.Test.YtpepbomifjbgnaaID
namespace Go.Proofs.Ytpepbomifjbgnaa
open Go.Kv
set_option linter.unusedVariables false
set_option linter.unusedSimpArgs false
attribute [local irreducible] ACall PCall KL
theorem p147P (l : List (List Int)) (h6 : ∀ m ∈ l, m.length = 6) (h0 : 0 < l.length) (hl : l.length ≤ 4294967296) : ACall Try.prog 147 [.list (aggs l)] [] (fun v s => v = .ref 0 1 0 l.length ∧ s = [.arr 1 59 6 (aggs l)]) := by
  cases l with
  | nil => simp at h0
  | cons x l =>
    refine e147 (by simp) fun _ _ => ?_
    simp only [k147, argEnv, take6, List.drop_zero, Int.cast_ofNat_Int, go_sem, ↓reduceIte, Nat.reduceEqDiff, Nat.reduceAdd, Nat.reduceMul, Nat.reduceLeDiff, Nat.reduceLT, Int.reduceLE, Int.reduceLT, reduceCtorEq]
    have e : ∀ K : Bool → Prop, aIsn (.list (aggs (x :: l))) K = K false := fun _ => rfl
    rw [e]
    try simp only [take6, List.drop_zero, Int.cast_ofNat_Int, go_sem, ↓reduceIte, Nat.reduceEqDiff, Nat.reduceAdd, Nat.reduceMul, Nat.reduceLeDiff, Nat.reduceLT, Int.reduceLE, Int.reduceLT, reduceCtorEq]
    refine ⟨?_, by simp at hl; omega, Kv.Fin.now ⟨rfl, rfl⟩⟩
    rw [okL_aggs]
    exact h6
theorem WG.keepQ {σ σ' : Heap} {A : Nat → Prop} {q ver : Nat} {ws : List PV} {L : List (List Int)} (h : WG σ A q ver ws L) (hk : ∀ id, id < σ.length → (¬ A id ∨ id = q) → σ'[id]? = σ[id]?) : WG σ' A q ver ws L :=
  ⟨(hk q (List.getElem?_eq_some_iff.1 h.out).1 (.inr rfl)).trans h.out, h.len, fun i w l hw hl => (h.row i w l hw hl).keep fun id hid hA => ⟨hk id hid (.inl fun h => hA (.inl h)), hA⟩⟩
theorem clB_ne {fs : List (List Nat)} {n : Nat} : ∀ {i : Nat} {Q : List (List Nat)}, clB fs n i = some Q → Q ≠ []
  | 0, Q, h => by
    have : [List.range n] = Q := by simpa [clB] using h
    subst this; simp
  | i + 1, Q, h => by
    rw [clB] at h
    cases hc : clB fs n i with
    | none => rw [hc] at h; cases h
    | some Q' =>
      have := clB_ne hc
      rw [hc] at h
      simp only at h
      split at h
      · obtain ⟨r, hr⟩ := clA_pre _ _ h
        rw [hr]; simp [this]
      · cases h; exact this
/-- The start: the identity alone is found. -/
theorem fd_nil {n N : Nat} {P : List Int} (hN : N = 3125) (hP : P = List.replicate N 0) : FdOk n P [] := by
  have hm : ∀ x ∈ P, x = 0 := fun x hx => by rw [hP] at hx; exact List.eq_of_mem_replicate hx
  refine ⟨by rw [hP, List.length_replicate, hN], fun x hx => by rw [hm x hx]; omega, fun f hf => ⟨fun j hj => (by rw [List.getElem?_nil] at hj; cases hj), fun _ => ?_⟩⟩
  rw [List.getD_eq_getElem?_getD]
  cases h : P[numK f 5]? with
  | none => rfl
  | some x => exact hm x (List.mem_of_getElem? h)
theorem fd_start {n : Nat} {P : List Int} (h1 : 1 ≤ n) (h5 : n ≤ 5) (h : FdOk n P []) : FdOk n (P.set (numK (List.range n) 5) 1) [List.range n] := by
  have := h.push (range_ok h1 h5) (fun h => nomatch h) (by decide)
  exact this
set_option maxHeartbeats 4000000 in
theorem p118_in (fs : List (List Nat)) (n : Nat) (h1 : 1 ≤ n) (h5 : n ≤ 5) (hf : ∀ f ∈ fs, Ok f n) (hfl : fs.length ≤ 1000) {K : PV → Heap → Prop}
    (hK1 : ∀ Q, clB fs n Q.length = some Q → (∀ f ∈ Q, Ok f n) → Q.length ≤ 300 → FdOk n (fdP Q P00) Q → K (.tup [.fptr (monV fs n Q) 0, .int .i64 0]) [])
    (hK2 : ∀ i, i ≤ 301 → clB fs n i = none → K (.tup [.nilptr, .int .i64 3]) []) : ACall Try.prog 118 [.list (aggs (fs.map mp)), .int .i64 n] [] K := by
  have h0k := range_ok h1 h5
  have h06 := h0k.mp_len
  have hN0 := num_lt h0k
  refine e118 (by simp) fun _ _ => ?_
  simp only [k118, argEnv, take6, List.drop_zero, Int.cast_ofNat_Int, go_sem, ↓reduceIte, Nat.reduceEqDiff, Nat.reduceAdd, Nat.reduceMul, Nat.reduceLeDiff, Nat.reduceLT, Int.reduceLE, Int.reduceLT, reduceCtorEq]
  generalize hP0 : List.replicate 3125 (0 : Int) = P0
  have hPl : P0.length = 3125 := by rw [← hP0]; exact List.length_replicate
  have hFd : FdOk n P0 [] := fd_nil rfl hP0.symm
  have hP1 : P0.set (numK (List.range n) 5) 1 = fdP [List.range n] P00 := by rw [← hP0]; rfl
  clear hP0
  refine (p144 n h1 h5).go ?_
  try simp only [OpK_eq, HKv, h06, take6, List.drop_zero, Int.cast_ofNat_Int, go_sem, ↓reduceIte, Nat.reduceEqDiff, Nat.reduceAdd, Nat.reduceMul, Nat.reduceLeDiff, Nat.reduceLT, Int.reduceLE, Int.reduceLT, reduceCtorEq]
  refine (p145 _ n h0k).pgo ?_
  try simp only [OpK_eq, HKv, h06, hPl, take6, List.drop_zero, Int.cast_ofNat_Int, go_sem, ↓reduceIte, Nat.reduceEqDiff, Nat.reduceAdd, Nat.reduceMul, Nat.reduceLeDiff, Nat.reduceLT, Int.reduceLE, Int.reduceLT, reduceCtorEq]
  refine ⟨by omega, by omega, ?_⟩
  refine KL_ind k118_b1.eq_1 (fun y : Nat × Nat × Nat × List PV × List (List Int) × List Int × List (List Nat) × Heap => [(0, .list (aggs (fs.map mp))), (6, .ptr 0 0), (7, .ref 1 y.2.1 0 y.2.2.2.2.2.2.1.length), (8, .ref 2 y.2.2.1 0 y.2.2.2.2.1.length), (9, .int .i64 y.1)]) (fun y => y.2.2.2.2.2.2.2)
    (fun ⟨i, u1, u2, ws, W, P, Q, σ⟩ => i ≤ Q.length ∧ clB fs n i = some Q ∧ (∀ f ∈ Q, Ok f n) ∧ Q.length ≤ 300 ∧ FdOk n P Q ∧ σ[0]? = some (.box (.nils :: .nils :: ints P)) ∧ σ[1]? = some (.arr u1 59 6 (aggs (Q.map mp))) ∧ WG σ (fun id => id = 0 ∨ id = 1) 2 u2 ws W ∧ W.length = Q.length ∧ (∀ w ∈ W, w.length + 1 ≤ W.length) ∧ P = fdP Q P00 ∧ W = clV fs n i) (fun y => 301 - y.1) [0, 6, 7, 8, 9]
    (0, 0, 0, [.nils], [[]], P0.set (numK (List.range n) 5) 1, [List.range n], _) (by simp [keep]) rfl ?_ fun ⟨i, u1, u2, ws, W, P, Q, σ⟩ ⟨j1, j2, j3, j4, j5, j6, j7, j8, j9, j10, j11, j12⟩ ih => ?_
  · refine ⟨Nat.zero_le _, rfl, fun f hf' => ?_, by simp, fd_start h1 h5 hFd, rfl, rfl, ⟨rfl, rfl, fun j w l hw hl => ?_⟩, rfl, fun w hw => ?_, hP1, rfl⟩
    · simp only [List.mem_singleton] at hf'; rw [hf']; exact h0k
    · have e1 := List.mem_of_getElem? hw
      have e2 := List.mem_of_getElem? hl
      simp only [List.mem_singleton] at e1 e2
      subst e1; subst e2
      exact .inl ⟨rfl, rfl⟩
    · simp only [List.mem_singleton] at hw; subst hw; simp
  try simp only at j1 j2 j3 j4 j5 j6 j7 j8 j9 j10 j11 j12
  try simp only [OpK_eq, HKv, j7, aggs_length, List.length_map, take6, List.drop_zero, Int.cast_ofNat_Int, go_sem, ↓reduceIte, Nat.reduceEqDiff, Nat.reduceAdd, Nat.reduceMul, Nat.reduceLeDiff, Nat.reduceLT, Int.reduceLE, Int.reduceLT, reduceCtorEq]
  refine ⟨fun g1 => ?_, fun g1 => ?_⟩
  · have hil : i < Q.length := by omega
    have hm? : Q[i]? = some Q[i] := List.getElem?_eq_getElem hil
    have hBs : clB fs n (i + 1) = clA fs Q[i] Q fs.length := by
      rw [clB, j2]
      simp only
      rw [hm?]
    have hVs : clV fs n (i + 1) = clW fs Q[i] Q (clV fs n i) i fs.length := by
      rw [clV, j2]
      simp only
      rw [hm?]
    have hmO := j3 _ (List.getElem_mem hil)
    generalize hm : Q[i] = m at *
    refine KL_ind k118_b0.eq_1 (fun y : Nat × Nat × Nat × List PV × List (List Int) × List Int × List (List Nat) × Heap => [(0, .list (aggs (fs.map mp))), (6, .ptr 0 0), (7, .ref 1 y.2.1 0 y.2.2.2.2.2.2.1.length), (8, .ref 2 y.2.2.1 0 y.2.2.2.2.1.length), (9, .int .i64 i), (37, .list (aggs (fs.map mp))), (38, .int .i64 fs.length), (39, .int .i64 y.1)]) (fun y => y.2.2.2.2.2.2.2)
      (fun ⟨k, u1, u2, ws, W, P, R, τ⟩ => k ≤ fs.length ∧ clA fs m Q k = some R ∧ (∀ f ∈ R, Ok f n) ∧ R.length ≤ 300 ∧ FdOk n P R ∧ τ[0]? = some (.box (.nils :: .nils :: ints P)) ∧ τ[1]? = some (.arr u1 59 6 (aggs (R.map mp))) ∧ WG τ (fun id => id = 0 ∨ id = 1) 2 u2 ws W ∧ W.length = R.length ∧ (∀ w ∈ W, w.length + 1 ≤ W.length) ∧ P = fdP R P00 ∧ W = clW fs m Q (clV fs n i) i k) (fun y => fs.length - y.1) [0, 6, 7, 8, 9, 37, 38, 39]
      (0, u1, u2, ws, W, P, Q, σ) (by simp [keep]) rfl ⟨Nat.zero_le _, rfl, j3, j4, j5, j6, j7, j8, j9, j10, j11, j12⟩ fun ⟨k, t1, t2, ws2, W2, P2, R, τ⟩ ⟨l2, l3, l4, l5, l6, l7, l8, l9, l10, l11, l12, l13⟩ ihk => ?_
    try simp only at l2 l3 l4 l5 l6 l7 l8 l9 l10 l11 l12 l13
    obtain ⟨r, hr⟩ := clA_pre k R l3
    have hiR : i < R.length := by rw [hr, List.length_append]; omega
    have hRi : (R.map mp).getD i [] = mp m := by
      rw [List.getD_eq_getElem?_getD, List.getElem?_map, hr, List.getElem?_append_left hil, hm?]; rfl
    have h6m := hmO.mp_len
    try simp only [OpK_eq, HKv, l8, aggs_length, List.length_map, take6, List.drop_zero, Int.cast_ofNat_Int, go_sem, ↓reduceIte, Nat.reduceEqDiff, Nat.reduceAdd, Nat.reduceMul, Nat.reduceLeDiff, Nat.reduceLT, Int.reduceLE, Int.reduceLT, reduceCtorEq]
    refine ⟨fun g2 => ?_, fun g2 => ?_⟩
    · have hkl : k < fs.length := by omega
      have hfk := hf _ (List.getElem_mem hkl)
      have h6k := hfk.mp_len
      have hgk : (fs.map mp).getD k [] = mp fs[k] := by simp [List.getD_eq_getElem?_getD, hkl]
      have hgf : fs.getD k [] = fs[k] := by simp [List.getD_eq_getElem?_getD, hkl]
      have hτ1 := (List.getElem?_eq_some_iff.1 l8).1
      have hτ2 := (List.getElem?_eq_some_iff.1 l9.out).1
      have hx0 : ∀ X, (τ ++ X)[0]? = some (.box (.nils :: .nils :: ints P2)) := fun X => (List.getElem?_append_left (by omega)).trans l7
      have hx1 : ∀ X, (τ ++ X)[1]? = some (.arr t1 59 6 (aggs (R.map mp))) := fun X => (List.getElem?_append_left hτ1).trans l8
      have hgb : ∀ (s : Heap) (a : AObj), (s ++ [a])[s.length]? = some a := fun s a => by simp
      have hsb : ∀ (s : Heap) (a b : AObj), (s ++ [a]).set s.length b = s ++ [b] := fun s a b => by simp [List.set_append_right]
      try simp only [OpK_eq, HKv, l8, hx1, aggs_length, List.length_map, hRi, h6m, hgk, h6k, hgb, hsb, ints_length, hfl, take6, List.drop_zero, Int.cast_ofNat_Int, go_sem, ↓reduceIte, Nat.reduceEqDiff, Nat.reduceAdd, Nat.reduceMul, Nat.reduceLeDiff, Nat.reduceLT, Int.reduceLE, Int.reduceLT, reduceCtorEq]
      refine ⟨by omega, fun _ => ⟨⟨by omega, Nat.le_refl _⟩, by omega, fun _ => ?_⟩⟩
      refine (p146 m fs[k] n hmO hfk).pgo ?_
      have hgO := hmO.mul hfk
      have hAs : clA fs m Q (k + 1) = if mul m fs[k] ∈ R then some R else if R.length = 300 then none else some (R ++ [mul m fs[k]]) := by
        rw [clA, l3]
        simp only
        rw [hgf]
      have hWs : clW fs m Q (clV fs n i) i (k + 1) = if mul m fs[k] ∈ R then W2 else W2 ++ [W2.getD i [] ++ [(k : Int)]] := by
        rw [clW, l3]
        simp only
        rw [hgf, ← l13]
      generalize hg' : mul m fs[k] = g at *
      have h6g := hgO.mp_len
      have hgN := num_lt hgO
      have hPl2 := l6.1
      have hilg : (ints (mp g)).length = 6 := by rw [ints_length, h6g]
      have hτ0 : 0 < τ.length := by omega
      generalize hτk : τ ++ [AObj.box (ints (mp fs[k]))] = ρ at *
      have hρ : ρ.length = τ.length + 1 := by rw [← hτk, List.length_append]; rfl
      have hρk : ∀ id, id < τ.length → ρ[id]? = τ[id]? := fun id hid => by rw [← hτk]; exact List.getElem?_append_left hid
      try simp only [OpK_eq, HKv, hgb, hsb, hilg, h6g, take6, List.drop_zero, Int.cast_ofNat_Int, go_sem, ↓reduceIte, Nat.reduceEqDiff, Nat.reduceAdd, Nat.reduceMul, Nat.reduceLeDiff, Nat.reduceLT, Int.reduceLE, Int.reduceLT, reduceCtorEq]
      refine (p145 g n hgO).pgo ?_
      have hy0 : ∀ X, (ρ ++ X)[0]? = some (.box (.nils :: .nils :: ints P2)) := fun X => (List.getElem?_append_left (by omega)).trans ((hρk 0 (by omega)).trans l7)
      try simp only [OpK_eq, HKv, hgb, hsb, hilg, h6g, hy0, hPl2, ints_length, take6, List.drop_zero, Int.cast_ofNat_Int, go_sem, ↓reduceIte, Nat.reduceEqDiff, Nat.reduceAdd, Nat.reduceMul, Nat.reduceLeDiff, Nat.reduceLT, Int.reduceLE, Int.reduceLT, reduceCtorEq]
      have hWρ : ∀ X, WG (ρ ++ X) (fun id => id = 0 ∨ id = 1) 2 t2 ws2 W2 := fun X => l9.keep (fun id hid _ => (List.getElem?_append_left (by omega)).trans (hρk id hid)) (by simp)
      have hy1 : ∀ X, (ρ ++ X)[1]? = some (.arr t1 59 6 (aggs (R.map mp))) := fun X => (List.getElem?_append_left (by omega)).trans ((hρk 1 (by omega)).trans l8)
      refine ⟨by omega, by omega, fun _ => ⟨fun p1 => ?_, fun p1 => ?_⟩⟩
      · have hin := (l6.pos hgO).1 p1
        rw [if_pos hin] at hAs hWs
        exact ⟨by omega, ihk (k + 1, t1, t2, ws2, W2, P2, R, _) ⟨by omega, hAs, l4, l5, l6, hy0 _, hy1 _, hWρ _, l10, l11, l12, hWs.symm⟩ (by show fs.length - (k + 1) < fs.length - k; omega) _ _ (by simp [keep]) rfl⟩
      · have hin : g ∉ R := fun h => p1 ((l6.pos hgO).2 h)
        rw [if_neg hin] at hAs hWs
        try simp only [OpK_eq, HKv, hy1, aggs_length, List.length_map, take6, List.drop_zero, Int.cast_ofNat_Int, go_sem, ↓reduceIte, Nat.reduceEqDiff, Nat.reduceAdd, Nat.reduceMul, Nat.reduceLeDiff, Nat.reduceLT, Int.reduceLE, Int.reduceLT, reduceCtorEq]
        refine ⟨fun h300 => Kv.Fin.still (hK2 (i + 1) (by omega) ?_), fun h300 => ?_⟩
        · rw [hBs]
          have hN : clA fs m Q (k + 1) = none := by rw [hAs, if_pos (by omega)]
          have := clA_none hN (fs.length - (k + 1))
          rwa [show k + 1 + (fs.length - (k + 1)) = fs.length by omega] at this
        rw [if_neg (by omega)] at hAs
        have hbb : (ρ ++ [AObj.box (ints (mp g))])[ρ.length]? = some (.box (ints (mp g))) := hgb _ _
        refine nm_tree (bb := ρ.length) (v0 := .list (aggs (fs.map mp))) (v6 := .ptr 0 0) (v37 := .list (aggs (fs.map mp))) (v38 := .int .i64 fs.length) (v39 := .int .i64 k) (hy1 _) (hWρ _) l10 hbb (by omega) h6g (by omega) hiR (by omega) l11 rfl rfl rfl rfl rfl rfl rfl rfl rfl rfl fun env' ρ' w' q1 q2 q3 q4 => ?_
        simp only [keep, List.map_cons, List.map_nil, List.cons.injEq, Prod.mk.injEq, true_and, and_true] at q1
        obtain ⟨a0, a6, a7, a8, a9, a12, a37, a38, a39⟩ := q1
        have r0 : ρ'[0]? = some (.box (.nils :: .nils :: ints P2)) := (q4 0 (by simp) (by decide) (by decide)).trans (hy0 _)
        have rb : ρ'[ρ.length]? = some (.box (ints (mp g))) := (q4 ρ.length (by simp) (by omega) (by omega)).trans hbb
        try simp only [OpK_eq, HKv, a0, a6, a7, a8, a9, a12, a37, a38, a39, q2, rb, hilg, h6g, aggs_length, List.length_map, take6, List.drop_zero, Int.cast_ofNat_Int, go_sem, ↓reduceIte, Nat.reduceEqDiff, Nat.reduceAdd, Nat.reduceMul, Nat.reduceLeDiff, Nat.reduceLT, Int.reduceLE, Int.reduceLT, reduceCtorEq]
        refine (p145 g n hgO).pgo ?_
        try simp only [OpK_eq, HKv, a0, a6, a7, a8, a9, a12, a37, a38, a39, r0, hPl2, ints_length, take6, List.drop_zero, Int.cast_ofNat_Int, go_sem, ↓reduceIte, Nat.reduceEqDiff, Nat.reduceAdd, Nat.reduceMul, Nat.reduceLeDiff, Nat.reduceLT, Int.reduceLE, Int.reduceLT, reduceCtorEq]
        have hFn := l6.push hgO hin (by omega)
        have hc : ((R.length + 1 : Nat) : Int) = (R.length : Int) + 1 := by omega
        rw [hc]
        have hρ'0 : 0 < ρ'.length := (List.getElem?_eq_some_iff.1 r0).1
        have hWgd : (W2.getD i []).length + 1 ≤ W2.length := by
          rw [List.getD_eq_getElem?_getD, List.getElem?_eq_getElem (by omega)]; exact l11 _ (List.getElem_mem _)
        refine ⟨by omega, by omega, by omega, ihk (k + 1, t1 + 1, t2 + 1, ws2 ++ [w'], W2 ++ [W2.getD i [] ++ [(k : Int)]], _, R ++ [g], _) ⟨by omega, hAs, fun f hf' => ?_, by simp; omega, hFn, List.getElem?_set_self hρ'0, (List.getElem?_set_ne (by decide)).trans q2, q3.keep (fun id hid hA => List.getElem?_set_ne fun e => hA (.inl e.symm)) (by simp), by simp [l10], fun x hx => ?_, by rw [l12]; exact fdP_push R g P00, hWs.symm⟩ (by show fs.length - (k + 1) < fs.length - k; omega) _ _ (by simp [keep, a0, a6, a7, a8, a9, a37, a38, a39]) rfl⟩
        · rcases List.mem_append.1 hf' with hf' | hf'
          · exact l4 f hf'
          · simp only [List.mem_singleton] at hf'; rw [hf']; exact hgO
        · rw [List.length_append, List.length_singleton]
          rcases List.mem_append.1 hx with hx | hx
          · have := l11 x hx; omega
          · simp only [List.mem_singleton] at hx
            rw [hx, List.length_append, List.length_singleton]; omega
    · have hke : k = fs.length := by omega
      subst hke
      try simp only [take6, List.drop_zero, Int.cast_ofNat_Int, go_sem, ↓reduceIte, Nat.reduceEqDiff, Nat.reduceAdd, Nat.reduceMul, Nat.reduceLeDiff, Nat.reduceLT, Int.reduceLE, Int.reduceLT, reduceCtorEq]
      exact ⟨by omega, ih (i + 1, t1, t2, ws2, W2, P2, R, τ) ⟨by show i + 1 ≤ R.length; omega, by rw [hBs]; exact l3, l4, l5, l6, l7, l8, l9, l10, l11, l12, by rw [hVs]; exact l13⟩ (by show 301 - (i + 1) < 301 - i; omega) _ _ (by simp [keep]) rfl⟩
  · obtain rfl : i = Q.length := by omega
    clear ih
    have hd := j5.nodup j3
    subst j11; subst j12
    generalize hP : fdP Q P00 = P at *
    generalize hW : clV fs n Q.length = W at *
    have hQl : (Q.map mp).length = Q.length := List.length_map _
    have hσ1 := (List.getElem?_eq_some_iff.1 j7).1
    have hσ2 := (List.getElem?_eq_some_iff.1 j8.out).1
    have hQ0 : 0 < Q.length := by
      cases Q with
      | nil => have := clB_ne j2; exact absurd rfl this
      | cons a l => simp
    have hcl := p147P (Q.map mp) (fun x hx => by obtain ⟨f, hf', rfl⟩ := List.mem_map.1 hx; exact (j3 f hf').mp_len) (by omega) (by omega)
    refine ACall.lend hcl (.cons (Imm.refa' j7 hQl.symm) (.nil _)) fun v s hv => ?_
    obtain ⟨rfl, rfl⟩ := hv
    refine ⟨⟨free_ref _ _ _ _, Free.aggs _ _ _ _⟩, ?_⟩
    have k0 : (σ ++ [AObj.arr 1 59 6 (aggs (Q.map mp))])[0]? = some (.box (.nils :: .nils :: ints P)) := (List.getElem?_append_left (by omega)).trans j6
    try simp only [OpK_eq, HKv, ren_ref, ren_arr, ren_aggs, Nat.zero_add, k0, hQl, sh_def, take6, List.drop_zero, Int.cast_ofNat_Int, go_sem, ↓reduceIte, Nat.reduceEqDiff, Nat.reduceAdd, Nat.reduceMul, Nat.reduceLeDiff, Nat.reduceLT, Int.reduceLE, Int.reduceLT, reduceCtorEq]
    obtain ⟨τ, hτ⟩ : ∃ τ, τ = List.set (σ ++ [AObj.arr 1 59 6 (aggs (Q.map mp))]) 0 (AObj.box (.ref σ.length 1 0 Q.length :: .nils :: ints P)) := ⟨_, rfl⟩
    have hτl : τ.length = σ.length + 1 := by rw [hτ, List.length_set, List.length_append]; rfl
    have m0 : τ[0]? = some (.box (.ref σ.length 1 0 Q.length :: .nils :: ints P)) := by rw [hτ]; exact List.getElem?_set_self (by simp)
    have mE : τ[σ.length]? = some (.arr 1 59 6 (aggs (Q.map mp))) := by rw [hτ, List.getElem?_set_ne (by omega)]; simp
    have mk : ∀ id, id < σ.length → id ≠ 0 → τ[id]? = σ[id]? := fun id h1 h2 => by rw [hτ, List.getElem?_set_ne (Ne.symm h2), List.getElem?_append_left h1]
    rw [← hτ]
    clear hτ
    try simp only [OpK_eq, HKv, m0, take6, List.drop_zero, Int.cast_ofNat_Int, go_sem, ↓reduceIte, Nat.reduceEqDiff, Nat.reduceAdd, Nat.reduceMul, Nat.reduceLeDiff, Nat.reduceLT, Int.reduceLE, Int.reduceLT, reduceCtorEq]
    have hsm := fun (K' : PV → Heap → Prop) => sort_maps (K := K') (σ := τ) (ms := Q.map mp) (e := 59) (ver := 1) (id := σ.length) (fun x hx => by obtain ⟨f, hf', rfl⟩ := List.mem_map.1 hx; exact (j3 f hf').mp_len) (by omega) (by omega) mE
    rw [hQl] at hsm
    refine ⟨by omega, hsm _ fun r hr hs => ?_⟩
    obtain rfl := sorted_elS j3 hd hr hs
    obtain ⟨s1, s2, s3⟩ := elS_ok j3
    have hSl : (elS n Q).length = Q.length := by
      have := hr.length_eq
      rw [List.length_map, List.length_map] at this; exact this
    generalize hSE : elS n Q = S at *
    obtain ⟨ρ, hρ⟩ : ∃ ρ, ρ = τ.set σ.length (.arr 1 59 6 (aggs (S.map mp))) := ⟨_, rfl⟩
    have hρl : ρ.length = σ.length + 1 := by rw [hρ, List.length_set, hτl]
    have n0 : ρ[0]? = some (.box (.ref σ.length 1 0 Q.length :: .nils :: ints P)) := by rw [hρ, List.getElem?_set_ne (by omega)]; exact m0
    have nE : ρ[σ.length]? = some (.arr 1 59 6 (aggs (S.map mp))) := by rw [hρ]; exact List.getElem?_set_self (by omega)
    have nk : ∀ id, id < σ.length → id ≠ 0 → ρ[id]? = σ[id]? := fun id h1 h2 => by rw [hρ, List.getElem?_set_ne (by omega)]; exact mk id h1 h2
    rw [← hρ]
    clear hρ
    have nW : WG ρ (fun id => id = 0 ∨ id = 1 ∨ σ.length ≤ id) 2 u2 ws W := ⟨(nk 2 hσ2 (by decide)).trans j8.out, j8.len, fun a w l hw hl => (j8.row a w l hw hl).keep fun id hid hA => ⟨nk id hid fun e => hA (.inl (.inl e)), fun h => by
      rcases h with (h | h | h) | h
      · exact hA (.inl (.inl h))
      · exact hA (.inl (.inr h))
      · omega
      · exact hA (.inr h)⟩⟩
    have hPl : P.length = 3125 := j5.1
    have hSm : ∀ f ∈ S, f ∈ Q := fun f hf => (s2 f).1 hf
    try simp only [OpK_eq, HKv, n0, nE, aggs_length, List.length_map, take6, List.drop_zero, Int.cast_ofNat_Int, go_sem, ↓reduceIte, Nat.reduceEqDiff, Nat.reduceAdd, Nat.reduceMul, Nat.reduceLeDiff, Nat.reduceLT, Int.reduceLE, Int.reduceLT, reduceCtorEq]
    refine ⟨by omega, ?_⟩
    refine KL_ind k118_b2.eq_1 (fun y : Nat × PV × Heap => [(6, .ptr 0 0), (8, .ref 2 u2 0 W.length), (98, .ref σ.length 1 0 Q.length), (99, .int .i64 Q.length), (100, .int .i64 y.1)]) (fun y => y.2.2)
      (fun ⟨y, wv, ω⟩ => y ≤ S.length ∧ σ.length < ω.length ∧ ω[0]? = some (.box (.ref σ.length 1 0 Q.length :: wv :: ints P)) ∧ ω[σ.length]? = some (.arr 1 59 6 (aggs (S.map mp))) ∧ WG ω (fun id => id = 0 ∨ id = 1 ∨ σ.length ≤ id) 2 u2 ws W ∧ (y = 0 ∧ wv = .nils ∨ ∃ q v ws', wv = .ref q v 0 y ∧ σ.length < q ∧ WG ω (fun id => id = 0 ∨ id = 1 ∨ id = 2 ∨ σ.length ≤ id) q v ws' (wdS S P W y))) (fun y => S.length - y.1) [6, 8, 98, 99, 100]
      (0, .nils, ρ) (by simp [keep]) rfl ⟨Nat.zero_le _, by omega, n0, nE, nW, .inl ⟨rfl, rfl⟩⟩ fun ⟨y, wv, ω⟩ ⟨o1, o2, o3, o4, o5, o6⟩ ihy => ?_
    · try simp only at o1 o2 o3 o4 o5 o6
      try simp only [OpK_eq, HKv, o3, o4, aggs_length, List.length_map, hSl, take6, List.drop_zero, Int.cast_ofNat_Int, go_sem, ↓reduceIte, Nat.reduceEqDiff, Nat.reduceAdd, Nat.reduceMul, Nat.reduceLeDiff, Nat.reduceLT, Int.reduceLE, Int.reduceLT, reduceCtorEq]
      refine ⟨fun g3 => ?_, fun g3 => ?_⟩
      · have hyl : y < S.length := by omega
        have hgy : (S.map mp).getD y [] = mp S[y] := by simp [List.getD_eq_getElem?_getD, hyl]
        have hgs : S.getD y [] = S[y] := by simp [List.getD_eq_getElem?_getD, hyl]
        have hfO := s1.1 _ (List.getElem_mem hyl)
        have hfQ := hSm _ (List.getElem_mem hyl)
        have h6y := hfO.mp_len
        have hwd := wdS_succ (P := P) (W := W) hyl
        rw [hgs] at hwd
        generalize S[y] = f at *
        have hN := num_lt hfO
        obtain ⟨jj, hjj, hje⟩ := List.getElem_of_mem hfQ
        have hpl := (j5.2.2 f hfO).1 jj (by rw [List.getElem?_eq_getElem hjj, hje])
        have hgb : ∀ (s : Heap) (a : AObj), (s ++ [a])[s.length]? = some a := fun s a => by simp
        have hsb : ∀ (s : Heap) (a b : AObj), (s ++ [a]).set s.length b = s ++ [b] := fun s a b => by simp [List.set_append_right]
        have hilg : (ints (mp f)).length = 6 := by rw [ints_length, h6y]
        have hz0 : ∀ X, (ω ++ X)[0]? = some (.box (.ref σ.length 1 0 Q.length :: wv :: ints P)) := fun X => (List.getElem?_append_left (by omega)).trans o3
        have hz2 : ∀ X, (ω ++ X)[2]? = some (.arr u2 23 1 ws) := fun X => (List.getElem?_append_left (by omega)).trans o5.out
        try simp only [OpK_eq, HKv, o4, aggs_length, List.length_map, hSl, hgy, h6y, hgb, hsb, hilg, hz0, hz2, take6, List.drop_zero, Int.cast_ofNat_Int, go_sem, ↓reduceIte, Nat.reduceEqDiff, Nat.reduceAdd, Nat.reduceMul, Nat.reduceLeDiff, Nat.reduceLT, Int.reduceLE, Int.reduceLT, reduceCtorEq]
        refine ⟨⟨by omega, Nat.le_refl _⟩, by omega, fun _ => ⟨by omega, ?_⟩⟩
        refine (p145 f n hfO).pgo ?_
        try simp only [OpK_eq, HKv, o4, aggs_length, List.length_map, hSl, hgy, h6y, hgb, hsb, hilg, hz0, hz2, hPl, ints_length, hpl, take6, List.drop_zero, Int.cast_ofNat_Int, go_sem, ↓reduceIte, Nat.reduceEqDiff, Nat.reduceAdd, Nat.reduceMul, Nat.reduceLeDiff, Nat.reduceLT, Int.reduceLE, Int.reduceLT, reduceCtorEq]
        have hjt : ((jj : Int) + 1 - 1).toNat = jj := by omega
        rw [hjt]
        have hwl := o5.len
        have hjW : jj < W.length := by omega
        obtain ⟨w, hw, hWd⟩ := o5.cell (i := jj) hjW
        have hwc := hWd.cs
        have hWj : W.getD ((jj : Int) + 1 - 1).toNat [] = W[jj] := by rw [hjt, List.getD_eq_getElem?_getD, List.getElem?_eq_getElem hjW]; rfl
        rw [hpl, hWj] at hwd
        generalize W[jj] = wj at hWd hwd
        refine ⟨by omega, by omega, fun _ => ⟨⟨by omega, by omega⟩, ⟨by omega, by omega, by omega⟩, by omega, fun x hx => ?_⟩⟩
        rw [hw] at hx; cases hx
        rw [hwc.1]
        refine ⟨by simp, fun c hc => ?_⟩
        simp only [List.getElem?_cons_zero, Option.some.injEq] at hc; subst hc
        refine ⟨by rw [hwc.1]; simp [hwc.2], ?_⟩
        have hz2W : ∀ X, WG (ω ++ X) (fun id => id = 0 ∨ id = 1 ∨ σ.length ≤ id) 2 u2 ws W := fun X => o5.keepQ fun id hid _ => List.getElem?_append_left hid
        have hzE : ∀ X, (ω ++ X)[σ.length]? = some (.arr 1 59 6 (aggs (S.map mp))) := fun X => (List.getElem?_append_left o2).trans o4
        have hWdB : ∀ X (B : Nat → Prop), (∀ id, id < σ.length → id ≠ 0 → id ≠ 1 → id ≠ 2 → ¬ B id) → Wd (ω ++ X) B w wj := fun X B hB => hWd.keep fun id hid hA => ⟨List.getElem?_append_left hid, hB id (Nat.lt_of_not_le fun h => hA (.inl (.inr (.inr h)))) (fun h => hA (.inl (.inl h))) (fun h => hA (.inl (.inr (.inl h)))) (fun h => hA (.inr h))⟩
        have hap : ∀ (b : AObj) (K' : PV → Heap → Prop), (∀ wv' χ, σ.length < χ.length → χ[0]? = some (.box (.ref σ.length 1 0 Q.length :: wv :: ints P)) → χ[σ.length]? = some (.arr 1 59 6 (aggs (S.map mp))) → WG χ (fun id => id = 0 ∨ id = 1 ∨ σ.length ≤ id) 2 u2 ws W → (∃ q v ws', wv' = .ref q v 0 (y + 1) ∧ σ.length < q ∧ WG χ (fun id => id = 0 ∨ id = 1 ∨ id = 2 ∨ σ.length ≤ id) q v ws' (wdS S P W (y + 1))) → K' wv' χ) → aApp 23 1 wv (.list [w]) (ω ++ [b]) K' := fun b K' hK' => by
          rcases o6 with ⟨rfl, rfl⟩ | ⟨q, v, ws', rfl, hq, hG⟩
          · have hok : okL 1 [w] = True := by simp [okL, hwc.1, hwc.2]
            simp only [aApp_nils, aNews_list, hok, true_and, AppN_def]
            have h0 : ∀ id, id < ω.length → (ω ++ [b] ++ [AObj.arr 0 23 1 [w]])[id]? = ω[id]? := fun id hid => by rw [List.append_assoc]; exact List.getElem?_append_left hid
            refine ⟨by simp, hK' _ _ (by simp; omega) ((h0 0 (by omega)).trans o3) ((h0 _ o2).trans o4) (by rw [List.append_assoc]; exact hz2W _) ⟨_, 0, [w], rfl, by simp; omega, ?_⟩⟩
            rw [hwd, show wdS S P W 0 = [] by rfl, List.nil_append]
            refine ⟨by simp, rfl, fun a w' l' hw' hl' => ?_⟩
            have e1 := List.mem_of_getElem? hw'
            have e2 := List.mem_of_getElem? hl'
            simp only [List.mem_singleton] at e1 e2
            subst e1; subst e2
            rw [List.append_assoc]
            exact hWdB _ _ fun id h1 h2 h3 h4 h => by
              simp only [List.length_append] at h
              omega
          · have hwl' : (wdS S P W y).length = y := by simp [wdS]; omega
            have hG' : WG (ω ++ [b]) (fun id => id = 0 ∨ id = 1 ∨ id = 2 ∨ σ.length ≤ id) q v ws' (wdS S P W y) := hG.keepQ fun id hid _ => List.getElem?_append_left hid
            have hpu := hG'.push (l := wj) (w := w) (hWdB _ _ fun id h1 h2 h3 h4 h => by omega) (by omega) (K := K') fun hn => hK' _ _ (by simp; omega) ((List.getElem?_set_ne (by omega)).trans (hz0 _)) ((List.getElem?_set_ne (by omega)).trans (hzE _)) ((hz2W [b]).keepQ fun id hid h => List.getElem?_set_ne fun e => by rcases h with h | h <;> omega) ⟨q, v + 1, _, by rw [hwl'], hq, by rw [hwd]; exact hn⟩
            rwa [hwl'] at hpu
        refine hap _ _ fun wv' χ x1 x2 x3 x4 x5 => ?_
        try simp only [OpK_eq, HKv, x2, hPl, ints_length, take6, List.drop_zero, Int.cast_ofNat_Int, go_sem, ↓reduceIte, Nat.reduceEqDiff, Nat.reduceAdd, Nat.reduceMul, Nat.reduceLeDiff, Nat.reduceLT, Int.reduceLE, Int.reduceLT, reduceCtorEq]
        obtain ⟨q, v, ws', rfl, hq, hG⟩ := x5
        refine ⟨⟨rfl, rfl⟩, by omega, ihy (y + 1, .ref q v 0 (y + 1), _) ⟨by omega, by rw [List.length_set]; exact x1, List.getElem?_set_self (by omega), (List.getElem?_set_ne (by omega)).trans x3, x4.keepQ fun id hid h => List.getElem?_set_ne fun e => ?_, .inr ⟨q, v, ws', rfl, hq, hG.keepQ fun id hid h => List.getElem?_set_ne fun e => ?_⟩⟩ (by show S.length - (y + 1) < S.length - y; omega) _ _ (by simp [keep]) rfl⟩
        · rcases h with h | h
          · exact h (.inl e.symm)
          · omega
        · rcases h with h | h
          · exact h (.inl e.symm)
          · omega
      · have hyS : y = S.length := by omega
        subst hyS
        rcases o6 with ⟨e0, _⟩ | ⟨q, v, ws', rfl, hq, hG⟩
        · omega
        refine ⟨by omega, ?_⟩
        have hl0 : (setP S P 0) = P := rfl
        refine KL_ind k118_b3.eq_1 (fun y : Nat × Heap => [(6, .ptr 0 0), (128, .ref σ.length 1 0 Q.length), (129, .int .i64 Q.length), (130, .int .i64 y.1)]) (fun y => y.2)
          (fun ⟨y, ξ⟩ => y ≤ S.length ∧ σ.length < ξ.length ∧ ξ[0]? = some (.box (.ref σ.length 1 0 Q.length :: .ref q v 0 S.length :: ints (setP S P y))) ∧ ξ[σ.length]? = some (.arr 1 59 6 (aggs (S.map mp))) ∧ WG ξ (fun id => id = 0 ∨ id = 1 ∨ id = 2 ∨ σ.length ≤ id) q v ws' (wdS S P W S.length)) (fun y => S.length - y.1) [6, 128, 129, 130]
          (0, ω) (by simp [keep]) rfl ⟨Nat.zero_le _, o2, o3, o4, hG⟩ fun ⟨y, ξ⟩ ⟨z1, z2, z3, z4, z5⟩ ihz => ?_
        try simp only at z1 z2 z3 z4 z5
        obtain ⟨hsl, _⟩ := setP_spec s1 hPl y z1
        try simp only [OpK_eq, HKv, z3, z4, aggs_length, List.length_map, hSl, take6, List.drop_zero, Int.cast_ofNat_Int, go_sem, ↓reduceIte, Nat.reduceEqDiff, Nat.reduceAdd, Nat.reduceMul, Nat.reduceLeDiff, Nat.reduceLT, Int.reduceLE, Int.reduceLT, reduceCtorEq]
        refine ⟨fun g4 => ?_, fun g4 => ?_⟩
        · have hyl : y < S.length := by omega
          have hgy : (S.map mp).getD y [] = mp S[y] := by simp [List.getD_eq_getElem?_getD, hyl]
          have hgs : S.getD y [] = S[y] := by simp [List.getD_eq_getElem?_getD, hyl]
          have hfO := s1.1 _ (List.getElem_mem hyl)
          have h6y := hfO.mp_len
          have hsp : setP S P (y + 1) = (setP S P y).set (numK S[y] 5) ((y : Int) + 1) := by rw [setP, hgs]
          generalize S[y] = f at *
          have hN := num_lt hfO
          have hgb : ∀ (s : Heap) (a : AObj), (s ++ [a])[s.length]? = some a := fun s a => by simp
          have hsb : ∀ (s : Heap) (a b : AObj), (s ++ [a]).set s.length b = s ++ [b] := fun s a b => by simp [List.set_append_right]
          have hilg : (ints (mp f)).length = 6 := by rw [ints_length, h6y]
          have hz0 : ∀ X, (ξ ++ X)[0]? = some (.box (.ref σ.length 1 0 Q.length :: .ref q v 0 S.length :: ints (setP S P y))) := fun X => (List.getElem?_append_left (by omega)).trans z3
          try simp only [OpK_eq, HKv, z4, aggs_length, List.length_map, hSl, hgy, h6y, hgb, hsb, hilg, hz0, take6, List.drop_zero, Int.cast_ofNat_Int, go_sem, ↓reduceIte, Nat.reduceEqDiff, Nat.reduceAdd, Nat.reduceMul, Nat.reduceLeDiff, Nat.reduceLT, Int.reduceLE, Int.reduceLT, reduceCtorEq]
          refine ⟨⟨by omega, Nat.le_refl _⟩, by omega, fun _ => ⟨by omega, ?_⟩⟩
          refine (p145 f n hfO).pgo ?_
          try simp only [OpK_eq, HKv, hgb, hsb, hilg, hz0, hsl, ints_length, take6, List.drop_zero, Int.cast_ofNat_Int, go_sem, ↓reduceIte, Nat.reduceEqDiff, Nat.reduceAdd, Nat.reduceMul, Nat.reduceLeDiff, Nat.reduceLT, Int.reduceLE, Int.reduceLT, reduceCtorEq]
          refine ⟨by omega, by omega, by omega, ihz (y + 1, _) ⟨by omega, by simp; omega, by rw [hsp]; exact List.getElem?_set_self (by simp), (List.getElem?_set_ne (by omega)).trans ((List.getElem?_append_left z2).trans z4), (z5.keepQ fun id hid _ => List.getElem?_append_left hid : WG (ξ ++ [AObj.box (ints (mp f))]) _ _ _ _ _).keepQ fun id hid h => List.getElem?_set_ne fun e => ?_⟩ (by show S.length - (y + 1) < S.length - y; omega) _ _ (by simp [keep]) rfl⟩
          rcases h with h | h
          · exact h (.inl e.symm)
          · omega
        · obtain rfl : y = S.length := by omega
          have hwl' : (wdS S P W S.length).length = S.length := by simp [wdS]
          have hsl' : (S.map mp).length = S.length := List.length_map _
          have hK := hK1 Q j2 j3 j4 (by rw [hP]; exact j5)
          unfold monV moV at hK
          rw [hSE, hP, hW] at hK
          refine Kv.Fin.freeze (Imm.tupL (.cons (.ptr 0 0 _ _ z3 (by simp only [List.length_cons]) ?_ fun a c d hc hd => ?_) (.cons Imm.still (.nil _)))) hK
          · simp [ints, PV.ok]
          · match a, hc, hd with
            | 0, hc, hd =>
              simp only [List.getElem?_cons_zero, Option.some.injEq] at hc hd
              subst hc; subst hd
              exact Imm.refa' z4 (by omega)
            | 1, hc, hd =>
              simp only [List.getElem?_cons_succ, List.getElem?_cons_zero, Option.some.injEq] at hc hd
              subst hc; subst hd
              exact z5.immN hwl'.symm
            | a + 2, hc, hd =>
              simp only [List.getElem?_cons_succ] at hc hd
              rw [hc] at hd; cases hd
              obtain ⟨x, _, rfl⟩ := ints_get hc
              exact Imm.still
/-- What newMonoid hands back. -/
theorem p118 (fs : List (List Nat)) (n : Nat) (h1 : 1 ≤ n) (h5 : n ≤ 5) (hf : ∀ f ∈ fs, Ok f n) (hfl : fs.length ≤ 1000) :
    Pure Try.prog 118 [.list (aggs (fs.map mp)), .int .i64 n] (match clR fs n with | none => .tup [.nilptr, .int .i64 3] | some Q => .tup [.fptr (monV fs n Q) 0, .int .i64 0]) := by
  refine p118_in fs n h1 h5 hf hfl (fun Q c1 c2 c3 c4 => ?_) (fun i c0 c1 => ?_)
  · have hR : clR fs n = some Q := by
      have := clB_stop c1 (Nat.le_refl _) (301 - Q.length)
      rwa [show Q.length + (301 - Q.length) = 301 by omega] at this
    rw [hR]
    exact ⟨rfl, rfl⟩
  · have hR : clR fs n = none := by
      have := clB_none c1 (301 - i)
      rwa [show i + (301 - i) = 301 by omega] at this
    rw [hR]
    exact ⟨rfl, rfl⟩
end Go.Proofs.Ytpepbomifjbgnaa
