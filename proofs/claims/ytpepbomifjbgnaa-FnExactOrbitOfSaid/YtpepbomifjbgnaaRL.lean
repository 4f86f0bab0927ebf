/- What the search by single points reaches: plain laws. -/
import Derived.Test.YtpepbomifjbgnaaCb
import Derived.Test.YtpepbomifjbgnaaRF
import Derived.Test.YtpepbomifjbgnaaOB
namespace Go.Proofs.Ytpepbomifjbgnaa
open Go.Kv
set_option maxRecDepth 100000
end Go.Proofs.Ytpepbomifjbgnaa
namespace Go.Proofs.Ytpepbomifjbgnaa
open Go.Kv
set_option linter.unusedVariables false
set_option linter.unusedSimpArgs false
attribute [local irreducible] ACall PCall KL
theorem adv_one {fs : List (List Nat)} {n q : Nat} (hf : ∀ f ∈ fs, Ok f n) {Q : List Met} {m : Met} (hQ : ∀ x ∈ Q, ∃ y, Rea fs q y ∧ y < n ∧ x.1 = [(y : Int)]) (hd : (Q.map Prod.fst).Nodup) (hm : ∃ y, Rea fs q y ∧ y < n ∧ m.1 = [(y : Int)]) : ∀ k, k ≤ fs.length →
    (∀ x ∈ advN fs ldp Q m k, ∃ y, Rea fs q y ∧ y < n ∧ x.1 = [(y : Int)]) ∧ ((advN fs ldp Q m k).map Prod.fst).Nodup ∧ (∀ j, j < k → ∃ x ∈ advN fs ldp Q m k, x.1 = ldp (fs.getD j []) m.1) ∧ (∀ x ∈ Q, x ∈ advN fs ldp Q m k)
  | 0, _ => ⟨hQ, hd, fun j h => by omega, fun x hx => hx⟩
  | k + 1, hk => by
    obtain ⟨h1, h2, h3, h4⟩ := adv_one hf hQ hd hm k (by omega)
    have hgf : fs.getD k [] = fs[k] := by simp [List.getD_eq_getElem?_getD, show k < fs.length by omega]
    have hfk : fs[k] ∈ fs := List.getElem_mem _
    rw [advN_succ]
    cases hany : (advN fs ldp Q m k).any (fun x => decide (x.1 = ldp (fs.getD k []) m.1)) with
    | true =>
      rw [if_pos rfl]
      refine ⟨h1, h2, fun j hj => ?_, h4⟩
      by_cases e : j = k
      · subst e
        obtain ⟨x, hx, e⟩ := List.any_eq_true.1 hany
        exact ⟨x, hx, of_decide_eq_true e⟩
      · exact h3 j (by omega)
    | false =>
      rw [if_neg (by simp)]
      refine ⟨fun x hx => ?_, ?_, fun j hj => ?_, fun x hx => List.mem_append.2 (.inl (h4 x hx))⟩
      · rcases List.mem_append.1 hx with hx | hx
        · exact h1 x hx
        · simp only [List.mem_singleton] at hx; subst hx
          obtain ⟨y, hy, hyn, e⟩ := hm
          refine ⟨fs[k].getD y 0, .step _ y hfk hy, (hf _ hfk).get' y, ?_⟩
          show ldp (fs.getD k []) m.1 = _
          rw [hgf, e]; simp [ldp]
      · rw [List.map_append, List.nodup_append]
        refine ⟨h2, by simp, fun y hy z hz => ?_⟩
        simp only [List.map_cons, List.map_nil, List.mem_singleton] at hz
        subst hz
        obtain ⟨x, hx, rfl⟩ := List.mem_map.1 hy
        rw [List.any_eq_false] at hany
        have := hany x hx
        simpa using this
      · by_cases e : j = k
        · subst e; exact ⟨_, List.mem_append.2 (.inr (List.mem_singleton.2 rfl)), rfl⟩
        · obtain ⟨x, hx, e⟩ := h3 j (by omega)
          exact ⟨x, List.mem_append.2 (.inl hx), e⟩
theorem bl_one {fs : List (List Nat)} {n q : Nat} (hf : ∀ f ∈ fs, Ok f n) (hq : q < n) : ∀ i, i ≤ (bl fs ldp [(q : Int)] i).length →
    (∀ x ∈ bl fs ldp [(q : Int)] i, ∃ y, Rea fs q y ∧ y < n ∧ x.1 = [(y : Int)]) ∧ ((bl fs ldp [(q : Int)] i).map Prod.fst).Nodup ∧ (∃ x ∈ bl fs ldp [(q : Int)] i, x.1 = [(q : Int)]) ∧
    (∀ j, (h : j < (bl fs ldp [(q : Int)] i).length) → j < i → ∀ k, k < fs.length → ∃ x ∈ bl fs ldp [(q : Int)] i, x.1 = ldp (fs.getD k []) (bl fs ldp [(q : Int)] i)[j].1)
  | 0, _ => by
    have e : bl fs ldp [(q : Int)] 0 = [(([(q : Int)], []) : Met)] := rfl
    rw [e]
    refine ⟨fun x hx => ?_, by simp, ⟨_, List.mem_singleton.2 rfl, rfl⟩, fun j _ h => by omega⟩
    simp only [List.mem_singleton] at hx; subst hx
    exact ⟨q, .here, hq, rfl⟩
  | i + 1, hi1 => by
    by_cases hi : i < (bl fs ldp [(q : Int)] i).length
    · obtain ⟨h1, h2, h3, h4⟩ := bl_one hf hq i (by omega)
      obtain ⟨g1, g2, g3, g4⟩ := adv_one hf h1 h2 (h1 _ (List.getElem_mem hi)) fs.length (Nat.le_refl _)
      obtain ⟨r, hr⟩ := advN_preE fs ldp (bl fs ldp [(q : Int)] i) (bl fs ldp [(q : Int)] i)[i] fs.length
      have e := bl_succ (fs := fs) (bf := ldp) (p := [(q : Int)]) hi
      rw [← e] at g1 g2 g3 g4 hr
      obtain ⟨x0, hx0, e0⟩ := h3
      refine ⟨g1, g2, ⟨x0, g4 x0 hx0, e0⟩, fun j hj hji k hk => ?_⟩
      have hj' : j < (bl fs ldp [(q : Int)] i).length := by omega
      have ej : (bl fs ldp [(q : Int)] (i + 1))[j] = (bl fs ldp [(q : Int)] i)[j] := by
        have : (bl fs ldp [(q : Int)] (i + 1))[j]? = (bl fs ldp [(q : Int)] i)[j]? := by rw [hr, List.getElem?_append_left hj']
        rw [List.getElem?_eq_getElem hj, List.getElem?_eq_getElem hj'] at this
        exact Option.some.inj this
      rw [ej]
      by_cases e2 : j = i
      · subst e2; exact g3 k hk
      · obtain ⟨x, hx, e3⟩ := h4 j hj' (by omega) k hk
        exact ⟨x, g4 x hx, e3⟩
    · have e : bl fs ldp [(q : Int)] (i + 1) = bl fs ldp [(q : Int)] i := by
        rw [bl]
        have : (bl fs ldp [(q : Int)] i)[i]? = none := List.getElem?_eq_none (Nat.le_of_not_lt hi)
        rw [this]
      rw [e] at hi1
      omega
/-- At the end all is reached. -/
theorem bl_all {fs : List (List Nat)} {n q : Nat} (hf : ∀ f ∈ fs, Ok f n) (hq : q < n) {i : Nat} (hi : i = (bl fs ldp [(q : Int)] i).length) (y : Nat) : Rea fs q y ↔ ∃ x ∈ bl fs ldp [(q : Int)] i, x.1 = [(y : Int)] := by
  obtain ⟨h1, _, h3, h4⟩ := bl_one hf hq i (by omega)
  constructor
  · intro hy
    induction hy with
    | here => exact h3
    | step f x hf' _ ih =>
      obtain ⟨z, hz, e⟩ := ih
      obtain ⟨j, hj, rfl⟩ := List.getElem_of_mem hz
      obtain ⟨k, hk, rfl⟩ := List.getElem_of_mem hf'
      obtain ⟨u, hu, e2⟩ := h4 j hj (by omega) k hk
      refine ⟨u, hu, ?_⟩
      rw [e2, e]
      simp [ldp, List.getD_eq_getElem?_getD, hk]
  · rintro ⟨x, hx, e⟩
    obtain ⟨z, hz, _, e2⟩ := h1 x hx
    rw [e] at e2
    simp only [List.cons.injEq, and_true] at e2
    have : y = z := by omega
    rw [this]; exact hz
theorem rch_mem {fs : List (List Nat)} {n q : Nat} (hf : ∀ f ∈ fs, Ok f n) (hq : q < n) {i : Nat} (hi : i = (bl fs ldp [(q : Int)] i).length) (x : Int) : x ∈ rch fs q i ↔ ∃ y, x = (y : Nat) ∧ Rea fs q y := by
  obtain ⟨h1, _, _, _⟩ := bl_one hf hq i (by omega)
  unfold rch
  rw [List.take_of_length_le (by omega), List.mem_flatMap]
  constructor
  · rintro ⟨m, hm, hx⟩
    obtain ⟨y, hy, _, e⟩ := h1 m hm
    rw [e] at hx
    simp only [List.mem_singleton] at hx
    exact ⟨y, hx, hy⟩
  · rintro ⟨y, rfl, hy⟩
    obtain ⟨m, hm, e⟩ := (bl_all hf hq hi y).1 hy
    exact ⟨m, hm, by rw [e]; simp⟩
end Go.Proofs.Ytpepbomifjbgnaa
