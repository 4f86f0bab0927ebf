/- newMonoid: what it finds, told by the list alone; the sorted list of the found. -/
import Derived.Test.YtpepbomifjbgnaaNB
import Derived.Test.YtpepbomifjbgnaaTP
namespace Go.Proofs.Ytpepbomifjbgnaa
open Go.Kv
set_option linter.unusedVariables false
set_option linter.unusedSimpArgs false
attribute [local irreducible] ACall PCall KL
theorem slc_cmpL : ∀ (xs ys : List Int), xs.length = ys.length → slc xs ys = cmpL xs ys
  | [], [], _ => rfl
  | [], _ :: _, h => by simp at h
  | _ :: _, [], h => by simp at h
  | x :: xs, y :: ys, h => by
    rw [slc, cmpL, slc_cmpL xs ys (by simpa using h)]
theorem slc_mp {a b : List Nat} {n : Nat} (ha : Ok a n) (hb : Ok b n) (h : slc (mp a) (mp b) ≤ 0) : nbl n a ≤ nbl n b := by
  apply Classical.byContradiction
  intro hn
  have h1 := (ltM_nbl hb ha).2 (by omega)
  have e : slc (mp b) (mp a) = cmpL (b.map fun x : Nat => (x : Int)) (a.map fun x : Nat => (x : Int)) := by
    rw [slc_cmpL _ _ (by rw [ha.mp_len, hb.mp_len])]
    simp only [mp, mpN, cmpL, ha.len, hb.len, Int.lt_irrefl, if_false]
    exact cmpL_app _ _ _ (by simp [ha.len, hb.len])
  have h2 := of_decide_eq_true h1
  rw [← e] at h2
  have := slc_anti (mp a) (mp b)
  omega
/-- The sorted list of what is found. -/
theorem sorted_elS {n : Nat} {Q : List (List Nat)} {r : List (List Int)} (hQ : ∀ f ∈ Q, Ok f n) (hd : Q.Nodup) (hp : r.Perm (Q.map mp)) (hs : r.Pairwise fun a b => slc a b ≤ 0) : r = (elS n Q).map mp := by
  have hr : r = (r.map um).map mp := by
    rw [List.map_map]
    conv => lhs; rw [← List.map_id r]
    refine List.map_congr_left fun x hx => ?_
    obtain ⟨f, hf, rfl⟩ := List.mem_map.1 (hp.mem_iff.1 hx)
    show id (mp f) = mp (um (mp f))
    rw [um_mp]; rfl
  have hS : (r.map um).Perm Q := by
    have := hp.map um
    rw [List.map_map] at this
    have e : Q.map (um ∘ mp) = Q := by
      conv => rhs; rw [← List.map_id Q]
      exact List.map_congr_left fun f _ => um_mp f
    rwa [e] at this
  generalize r.map um = S at hr hS
  subst hr
  have hSO : ∀ f ∈ S, Ok f n := fun f hf => hQ f (hS.mem_iff.1 hf)
  have hSd : S.Nodup := hS.nodup_iff.2 hd
  have hSr : SrM n S := by
    refine ⟨hSO, ?_⟩
    rw [List.pairwise_map] at hs
    rw [List.nodup_iff_pairwise_ne] at hSd
    rw [List.pairwise_iff_getElem] at hs hSd ⊢
    intro i j hi hj hij
    have h1 := hSO _ (List.getElem_mem hi)
    have h2 := hSO _ (List.getElem_mem hj)
    have h3 := slc_mp h1 h2 (hs i j hi hj hij)
    have h4 := hSd i j hi hj hij
    have : nbl n S[i] ≠ nbl n S[j] := fun e => h4 (nbl_inj h1 h2 e)
    omega
  obtain ⟨e1, e2, e3⟩ := elS_ok hQ
  rw [srm_uniq hSr e1 fun f => by rw [hS.mem_iff, e2]]
theorem FdOk.nodup {n : Nat} {P : List Int} {Q : List (List Nat)} (h : FdOk n P Q) (hQ : ∀ f ∈ Q, Ok f n) : Q.Nodup := by
  rw [List.nodup_iff_pairwise_ne, List.pairwise_iff_getElem]
  intro i j hi hj hij e
  have h1 := (h.2.2 _ (hQ _ (List.getElem_mem hi))).1 i (List.getElem?_eq_getElem hi)
  have h2 := (h.2.2 _ (hQ _ (List.getElem_mem hi))).1 j (by rw [List.getElem?_eq_getElem hj, e])
  omega
/-- The words of the maps found behind k of the list. -/
def clW (fs : List (List Nat)) (m : List Nat) (Q : List (List Nat)) (V : List (List Int)) (i : Nat) : Nat → List (List Int)
  | 0 => V
  | k + 1 => match clA fs m Q k with
    | none => clW fs m Q V i k
    | some R => if mul m (fs.getD k []) ∈ R then clW fs m Q V i k else clW fs m Q V i k ++ [(clW fs m Q V i k).getD i [] ++ [(k : Int)]]
/-- The words of the maps found behind i maps. -/
def clV (fs : List (List Nat)) (n : Nat) : Nat → List (List Int)
  | 0 => [[]]
  | i + 1 => match clB fs n i with
    | none => []
    | some Q => match Q[i]? with
      | some m => clW fs m Q (clV fs n i) i fs.length
      | none => clV fs n i
/-- Their places, as they are found. -/
def fdP (Q : List (List Nat)) (P0 : List Int) : List Int := setP Q P0 Q.length
theorem setP_app {Q : List (List Nat)} {g : List Nat} {P : List Int} : ∀ k, k ≤ Q.length → setP (Q ++ [g]) P k = setP Q P k
  | 0, _ => rfl
  | k + 1, h => by
    rw [setP, setP, setP_app k (by omega)]
    congr 2
    rw [List.getD_eq_getElem?_getD, List.getD_eq_getElem?_getD, List.getElem?_append_left (by omega)]
theorem fdP_push (Q : List (List Nat)) (g : List Nat) (P0 : List Int) : (fdP Q P0).set (numK g 5) ((Q.length : Int) + 1) = fdP (Q ++ [g]) P0 := by
  unfold fdP
  rw [List.length_append, List.length_singleton, setP, setP_app _ (Nat.le_refl _)]
  congr 2
  rw [List.getD_eq_getElem?_getD, List.getElem?_append_right (Nat.le_refl _)]; simp
def P00 : List Int := List.replicate 3125 0
/-- The words, in the order of the elements. -/
def wdS (S : List (List Nat)) (P : List Int) (W : List (List Int)) (y : Nat) : List (List Int) := (S.take y).map fun f => W.getD (P.getD (numK f 5) 0 - 1).toNat []
theorem wdS_succ {S : List (List Nat)} {P : List Int} {W : List (List Int)} {y : Nat} (h : y < S.length) : wdS S P W (y + 1) = wdS S P W y ++ [W.getD (P.getD (numK (S.getD y []) 5) 0 - 1).toNat []] := by
  unfold wdS
  rw [List.take_succ_eq_append_getElem h, List.map_append]
  simp [List.getD_eq_getElem?_getD, h]
/-- The monoid as it is handed back. -/
def monV (fs : List (List Nat)) (n : Nat) (Q : List (List Nat)) : List PV := moV (.list (aggs ((elS n Q).map mp))) (.list (rows (wdS (elS n Q) (fdP Q P00) (clV fs n Q.length) (elS n Q).length))) (setP (elS n Q) (fdP Q P00) (elS n Q).length)
end Go.Proofs.Ytpepbomifjbgnaa
