/- MonOk: what newMonoid owes is paid; TableOf, both sides. -/
import Derived.Test.YtpepbomifjbgnaaNM
import Derived.Test.YtpepbomifjbgnaaTL
namespace Go.Proofs.Ytpepbomifjbgnaa
open Go.Kv
set_option linter.unusedVariables false
set_option linter.unusedSimpArgs false
attribute [local irreducible] ACall PCall KL
theorem clA_nd {fs : List (List Nat)} {m : List Nat} {Q : List (List Nat)} (hQ : Q.Nodup) : ∀ k R, clA fs m Q k = some R → R.Nodup
  | 0, R, h => by
    have : Q = R := by simpa [clA] using h
    rw [← this]; exact hQ
  | k + 1, R, h => by
    unfold clA at h
    cases hc : clA fs m Q k with
    | none => rw [hc] at h; cases h
    | some R' =>
      have hr := clA_nd hQ k R' hc
      rw [hc] at h
      simp only at h
      split at h
      · cases h; exact hr
      · rename_i hn
        split at h
        · cases h
        · cases h
          rw [List.nodup_append]
          exact ⟨hr, by simp, fun a ha b hb e => by simp only [List.mem_singleton] at hb; subst hb; subst e; exact hn ha⟩
theorem clB_nd {fs : List (List Nat)} {n : Nat} : ∀ i Q, clB fs n i = some Q → Q.Nodup
  | 0, Q, h => by
    have : [List.range n] = Q := by simpa [clB] using h
    rw [← this]; simp
  | i + 1, Q, h => by
    rw [clB] at h
    cases hc : clB fs n i with
    | none => rw [hc] at h; cases h
    | some Q' =>
      have hr := clB_nd i Q' hc
      rw [hc] at h
      simp only at h
      split at h
      · exact clA_nd hr _ _ h
      · cases h; exact hr
theorem fd_of {n : Nat} : ∀ (k : Nat) (Q : List (List Nat)), Q.length = k → k ≤ 300 → Q.Nodup → (∀ f ∈ Q, Ok f n) → FdOk n (fdP Q P00) Q
  | 0, Q, hk, _, _, _ => by
    obtain rfl := List.eq_nil_of_length_eq_zero hk
    exact fd_nil (N := 3125) rfl (show P00 = List.replicate 3125 0 by unfold P00; rfl)
  | k + 1, Q, hk, h3, hd, hO => by
    have hne : Q ≠ [] := fun e => by rw [e] at hk; simp at hk
    have e := List.dropLast_concat_getLast hne
    generalize Q.dropLast = R at e
    generalize Q.getLast hne = g at e
    subst e
    rw [List.nodup_append] at hd
    have hR : R.length = k := by simpa using hk
    have := fd_of k R hR (by omega) hd.1 fun f hf => hO f (by simp [hf])
    rw [← fdP_push]
    exact this.push (hO g (by simp)) (fun h => hd.2.2 g h g (by simp) rfl) (by omega)
theorem monOk (fs : List (List Nat)) (n : Nat) (h1 : 1 ≤ n) (h5 : n ≤ 5) (hf : ∀ f ∈ fs, Ok f n) (hfl : fs.length ≤ 1000) : MonOk fs n := by
  have hM := p118 fs n h1 h5 hf hfl
  unfold MonOk
  cases hR : clR fs n with
  | none => rw [hR] at hM; exact hM
  | some Q =>
    rw [hR] at hM
    obtain ⟨c3, c4⟩ := clB_okQ h1 h5 hf _ _ hR
    obtain ⟨s1, s2, s3⟩ := elS_ok c3
    have hF := fd_of Q.length Q rfl (by omega) (clB_nd _ _ hR) c3
    exact ⟨_, _, inferInstance, setP_ok s1 (by omega) hF.1 hF.2.1 fun f h4 h5 => (hF.2.2 f h4).2 fun h => h5 ((s2 f).2 h), hM⟩
theorem clR_okQ {fs : List (List Nat)} {n : Nat} (h1 : 1 ≤ n) (h5 : n ≤ 5) (hf : ∀ f ∈ fs, Ok f n) {Q : List (List Nat)} (hR : clR fs n = some Q) : (∀ f ∈ Q, Ok f n) ∧ Q.length ≤ 300 := clB_okQ h1 h5 hf _ _ hR
attribute [local irreducible] clR
/-- The table, new. -/
theorem p36T (fs : List (List Nat)) (n : Nat) (h1 : 1 ≤ n) (h5 : n ≤ 5) (hf : ∀ f ∈ fs, Ok f n) (h0 : 0 < fs.length) (hfl : fs.length ≤ 6) (hl : lcode (fs.map mp) [] = 0) {Q : List (List Nat)} (hR : clR fs n = some Q) (h40 : (elS n Q).length ≤ 40) :
    NewTO Try.prog 36 [.list (aggs (fs.map mp))] 23 2 (tabM n (elS n Q)) 0 := by
  have hM := monOk fs n h1 h5 hf (Nat.le_trans hfl (by decide))
  unfold MonOk at hM
  rw [hR] at hM
  simp only at hM
  obtain ⟨W, P, hW, hP, hM⟩ := hM
  obtain ⟨c3, c4⟩ := clR_okQ h1 h5 hf hR
  obtain ⟨s1, s2, s3⟩ := elS_ok c3
  have hE := p69_of fs n hf h0 hfl hl _ _ hM
  rw [if_pos rfl] at hE
  have hT := p70N W P hP.1 (elS n Q) n s1.1 (by omega) hP.2.1
  rw [tabP_eq hP s1.1] at hT
  have hml : (moV (.list (aggs ((elS n Q).map mp))) W P).length = 3127 := by rw [moV, List.length_cons, List.length_cons, ints_length, hP.1]
  have hm0 : (moV (.list (aggs ((elS n Q).map mp))) W P)[0]? = some (.list (aggs ((elS n Q).map mp))) := rfl
  refine NewTN.own ?_
  unfold NewTN
  refine e36 (by simp) fun _ _ => ?_
  simp only [k36, argEnv, take6, List.drop_zero, Int.cast_ofNat_Int, go_sem, ↓reduceIte, Nat.reduceEqDiff, Nat.reduceAdd, Nat.reduceMul, Nat.reduceLeDiff, Nat.reduceLT, Int.reduceLE, Int.reduceLT, reduceCtorEq]
  refine hE.go ?_
  try simp only [OpK_eq, HKv, hml, hm0, aggs_length, List.length_map, take6, List.drop_zero, Int.cast_ofNat_Int, go_sem, ↓reduceIte, Nat.reduceEqDiff, Nat.reduceAdd, Nat.reduceMul, Nat.reduceLeDiff, Nat.reduceLT, Int.reduceLE, Int.reduceLT, reduceCtorEq]
  refine ⟨fun g1 => absurd g1 (by omega), fun g1 => ?_⟩
  refine ACall.mono hT fun v s ⟨t1, t2⟩ => ?_
  try simp only [OpK_eq, HKv, take6, List.drop_zero, Int.cast_ofNat_Int, go_sem, ↓reduceIte, Nat.reduceEqDiff, Nat.reduceAdd, Nat.reduceMul, Nat.reduceLeDiff, Nat.reduceLT, Int.reduceLE, Int.reduceLT, reduceCtorEq]
  exact Kv.Fin.now ⟨_, rfl, t1, t2⟩
end Go.Proofs.Ytpepbomifjbgnaa
