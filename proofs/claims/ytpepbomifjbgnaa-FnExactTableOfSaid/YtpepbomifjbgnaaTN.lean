/- The places, written anew in order. -/
import Derived.Test.YtpepbomifjbgnaaTM
namespace Go.Proofs.Ytpepbomifjbgnaa
open Go.Kv
set_option linter.unusedVariables false
set_option linter.unusedSimpArgs false
attribute [local irreducible] ACall PCall KL
def setP (S : List (List Nat)) (P : List Int) : Nat → List Int
  | 0 => P
  | k + 1 => (setP S P k).set (numK (S.getD k []) 5) (k + 1)
theorem set_getD {l : List Int} {i j : Nat} {x : Int} : (l.set i x).getD j 0 = if i = j ∧ i < l.length then x else l.getD j 0 := by
  rw [List.getD_eq_getElem?_getD, List.getD_eq_getElem?_getD, List.getElem?_set]
  by_cases h : i = j
  · subst h
    by_cases h' : i < l.length
    · simp [h']
    · simp [h', List.getElem?_eq_none (Nat.le_of_not_lt h')]
  · simp [h]
theorem num_lt {f : List Nat} {n : Nat} (hf : Ok f n) : numK f 5 < 3125 :=
  numK_lt (f := f) (fun x hx => by have := hf.lt x hx; have := hf.le; omega) 5
theorem setP_spec {n : Nat} {S : List (List Nat)} {P : List Int} (hS : SrM n S) (hP : P.length = 3125) : ∀ k, k ≤ S.length → (setP S P k).length = 3125 ∧ ∀ f, Ok f n → (∀ j, j < k → S.getD j [] = f → (setP S P k).getD (numK f 5) 0 = j + 1) ∧ ((∀ j, j < k → S.getD j [] ≠ f) → (setP S P k).getD (numK f 5) 0 = P.getD (numK f 5) 0)
  | 0, _ => ⟨hP, fun f _ => ⟨fun j hj => by omega, fun _ => rfl⟩⟩
  | k + 1, hk => by
    obtain ⟨i1, i2⟩ := setP_spec hS hP k (by omega)
    have ge : ∀ j (hj : j < S.length), S.getD j [] = S[j] := fun j hj => by simp [List.getD_eq_getElem?_getD, hj]
    have ok : Ok (S.getD k []) n := by rw [ge k hk]; exact hS.1 _ (List.getElem_mem _)
    have lk := num_lt ok
    refine ⟨by rw [setP, List.length_set, i1], fun f hf => ⟨fun j hj e => ?_, fun h => ?_⟩⟩
    · rw [setP, set_getD, i1]
      by_cases hjk : j = k
      · subst hjk; rw [e, if_pos ⟨rfl, num_lt hf⟩]
      · have hne : S.getD k [] ≠ f := fun e' => by
          have := List.pairwise_iff_getElem.1 hS.2 j k (by omega) (by omega) (by omega)
          rw [← ge j (by omega), ← ge k (by omega), e, e'] at this; omega
        rw [if_neg fun c => hne (num_inj ok hf c.1)]
        exact (i2 f hf).1 j (by omega) e
    · rw [setP, set_getD, if_neg fun c => h k (by omega) (num_inj ok hf c.1)]
      exact (i2 f hf).2 fun j hj => h j (by omega)
theorem setP_bound {S : List (List Nat)} {P : List Int} (hb : ∀ x ∈ P, 0 ≤ x ∧ x ≤ 300) : ∀ k, k ≤ 300 → ∀ x ∈ setP S P k, 0 ≤ x ∧ x ≤ 300
  | 0, _, x, hx => hb x hx
  | k + 1, hk, x, hx => by
    rw [setP] at hx
    rcases List.mem_or_eq_of_mem_set hx with h | h
    · exact setP_bound hb k (by omega) x h
    · omega
/-- Written anew, they tell the elements. -/
theorem setP_ok {n : Nat} {S : List (List Nat)} {P : List Int} (hS : SrM n S) (hl : S.length ≤ 300) (hP : P.length = 3125) (hb : ∀ x ∈ P, 0 ≤ x ∧ x ≤ 300) (h0 : ∀ f, Ok f n → f ∉ S → P.getD (numK f 5) 0 = 0) : PlOk n (setP S P S.length) S := by
  obtain ⟨i1, i2⟩ := setP_spec hS hP S.length (Nat.le_refl _)
  refine ⟨i1, setP_bound hb _ hl, fun f hf => ?_⟩
  unfold plM
  by_cases h : f ∈ S
  · obtain ⟨h1, h2⟩ := (lo_mem hS hf).2 h
    rw [if_pos ⟨h1, h2⟩, (i2 f hf).1 _ h1 h2]; omega
  · rw [if_neg fun c => h ((lo_mem hS hf).1 c), (i2 f hf).2 fun j hj e => h ?_, h0 f hf h]
    · rfl
    · rw [← e, List.getD_eq_getElem?_getD, List.getElem?_eq_getElem hj]; exact List.getElem_mem _
end Go.Proofs.Ytpepbomifjbgnaa
