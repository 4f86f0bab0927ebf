/- Isomorphisms of two tables that begin with some numbers: the specification's side of FindIsomorphism; what a fit of one number more is. -/
import Derived.Test.YtkljidghocnllaaFIc
import Derived.Test.YtkljidghocnllaaCS
namespace Go.Proofs.Ytkljidghocnllaa
open Go.Kv
set_option linter.unusedVariables false
set_option linter.unusedSimpArgs false
attribute [local irreducible] ACall PCall KL
/-- All isomorphisms that begin with p, d numbers being left, in order. -/
noncomputable def comps (a b : List (List Int)) : Nat → List Nat → List (List Nat)
  | 0, p => [p]
  | d + 1, p => ((List.range a.length).map fun q => if fitsB a b (p ++ [q]) = true then comps a b d (p ++ [q]) else []).flatten
noncomputable def cmpN (a b : List (List Int)) (d : Nat) (p : List Nat) (x : Nat) : List (List Nat) := ((List.range x).map fun q => if fitsB a b (p ++ [q]) = true then comps a b d (p ++ [q]) else []).flatten
theorem cmpN_succ (a b : List (List Int)) (d : Nat) (p : List Nat) (x : Nat) : cmpN a b d p (x + 1) = cmpN a b d p x ++ if fitsB a b (p ++ [x]) = true then comps a b d (p ++ [x]) else [] := by
  simp [cmpN, List.range_succ, List.flatten_append]
theorem cmpN_zero (a b : List (List Int)) (d : Nat) (p : List Nat) : cmpN a b d p 0 = [] := rfl
theorem cmpN_all (a b : List (List Int)) (d : Nat) (p : List Nat) : comps a b (d + 1) p = cmpN a b d p a.length := rfl
theorem comps_syc (a : List (List Int)) : ∀ (d : Nat) (p : List Nat), (comps a a d p).length = syc a d p ∧ ∀ x, (cmpN a a d p x).length = sycN a d p x
  | 0, p => by
    refine ⟨rfl, fun x => ?_⟩
    induction x with
    | zero => simp [sycN, cmpN]
    | succ x ih =>
      rw [sycN_succ, cmpN_succ, List.length_append, ih]
      split
      · rfl
      · rfl
  | d + 1, p => by
    have h1 : ∀ q, (comps a a (d + 1) q).length = syc a (d + 1) q := fun q => (comps_syc a d q).2 a.length
    refine ⟨h1 p, fun x => ?_⟩
    induction x with
    | zero => simp [sycN, cmpN]
    | succ x ih =>
      rw [sycN_succ, cmpN_succ, List.length_append, ih]
      split
      · rw [h1]
      · rfl
def toI (q : List Nat) : List Int := q.map fun x : Nat => (x : Int)
theorem comps_len {a b : List (List Int)} : ∀ (d : Nat) (p : List Nat), ∀ q ∈ comps a b d p, q.length = p.length + d
  | 0, p, q, h => by simp [comps] at h; subst h; rfl
  | d + 1, p, q, h => by
    simp only [comps, List.mem_flatten, List.mem_map] at h
    obtain ⟨l, ⟨x, _, rfl⟩, h⟩ := h
    split at h
    · have := comps_len d _ q h; simp at this; omega
    · simp at h
/-- Products agree where all three are told, everywhere. -/
def fitA (a b : List (List Int)) (p : List Nat) : Prop := ∀ i k, i < p.length → k < p.length → fit1 a b p i k
noncomputable def fitAB (a b : List (List Int)) (p : List Nat) : Bool := @decide (fitA a b p) (Classical.propDecidable _)
theorem fitAB_true {a b : List (List Int)} {p : List Nat} (h : fitA a b p) : fitAB a b p = true := by
  unfold fitAB; exact @decide_eq_true _ (Classical.propDecidable _) h
theorem fitAB_false {a b : List (List Int)} {p : List Nat} (h : ¬ fitA a b p) : fitAB a b p = false := by
  unfold fitAB; exact @decide_eq_false _ (Classical.propDecidable _) h
theorem fitAB_iff {a b : List (List Int)} {p : List Nat} : fitAB a b p = true ↔ fitA a b p := by
  by_cases h : fitA a b p
  · simp [fitAB_true h, h]
  · simp [fitAB_false h, h]
theorem getD_snoc (p : List Nat) (q i : Nat) : (p ++ [q]).getD i 0 = if i < p.length then p.getD i 0 else if i = p.length then q else 0 := by
  rw [List.getD_eq_getElem?_getD, List.getElem?_append]
  split
  · rw [List.getD_eq_getElem?_getD]
  · split
    · rename_i h1 h2; subst h2; simp
    · rename_i h1 h2
      have : ([q] : List Nat)[i - p.length]? = none := by rw [List.getElem?_eq_none_iff]; simp; omega
      rw [this]; rfl
/-- What is told of the first numbers stays so. -/
theorem fit1_snoc {a b : List (List Int)} {p : List Nat} (h : fitA a b p) (q : Nat) {i k : Nat} (hi : i < p.length) (hk : k < p.length) (h0 : 0 ≤ tat a i k) (hz : tat a i k ≠ p.length) : fit1 a b (p ++ [q]) i k := by
  intro hlt
  simp only [List.length_append, List.length_cons, List.length_nil] at hlt
  have h1 := h i k hi hk (by omega)
  rw [getD_snoc, getD_snoc, getD_snoc, if_pos (by omega), if_pos hi, if_pos hk]
  exact h1
theorem fits_snoc {a b : List (List Int)} {p : List Nat} {q : Nat} : Fits a b (p ++ [q]) ↔ q ∉ p ∧ fitA a b (p ++ [q]) := by
  have hl : (p ++ [q]).length = p.length + 1 := by simp
  constructor
  · rintro ⟨h1, h2⟩
    refine ⟨fun hm => ?_, h2⟩
    obtain ⟨i, hi, e⟩ := List.mem_iff_getElem.1 hm
    refine h1 i (by omega) ?_
    rw [hl, Nat.add_sub_cancel, getD_snoc, getD_snoc, if_pos hi, if_neg (by omega), if_pos rfl, List.getD_eq_getElem?_getD, List.getElem?_eq_getElem hi, ← e]
    rfl
  · rintro ⟨h1, h2⟩
    refine ⟨fun i hi => ?_, h2⟩
    rw [hl, Nat.add_sub_cancel, getD_snoc, getD_snoc, if_pos (by omega), if_neg (by omega), if_pos rfl, List.getD_eq_getElem?_getD, List.getElem?_eq_getElem (by omega : i < p.length)]
    intro e
    exact h1 (by rw [← e]; exact List.getElem_mem _)
theorem fits_in {a b : List (List Int)} {p : List Nat} {q : Nat} (h : q ∈ p) : fitsB a b (p ++ [q]) = false := fitsB_false fun hf => (fits_snoc.1 hf).1 h
theorem fits_out {a b : List (List Int)} {p : List Nat} {q : Nat} (h : q ∉ p) : fitsB a b (p ++ [q]) = fitAB a b (p ++ [q]) := by
  by_cases hf : fitA a b (p ++ [q])
  · rw [fitsB_true (fits_snoc.2 ⟨h, hf⟩), fitAB_true hf]
  · rw [fitsB_false fun hx => hf (fits_snoc.1 hx).2, fitAB_false hf]
@[simp] theorem toI_length (q : List Nat) : (toI q).length = q.length := by simp [toI]
theorem snoc_lt {p : List Nat} {q n : Nat} (hpx : ∀ i, i < p.length → p.getD i 0 < n) (hq : q < n) : ∀ i, i < (p ++ [q]).length → (p ++ [q]).getD i 0 < n := fun i hi => by
  rw [getD_snoc]
  simp only [List.length_append, List.length_cons, List.length_nil] at hi
  split
  · exact hpx i (by assumption)
  · rw [if_pos (by omega)]; exact hq
theorem toI_getD (q : List Nat) (i : Nat) : (toI q).getD i 0 = (q.getD i 0 : Int) := natD q i
set_option maxRecDepth 100000 in
theorem p115 (a b : List (List Int)) (p : List Nat) (q : Nat) (tl : List PV) (ha : isTab a = true) (hb : isTab b = true) (hab : b.length = a.length) (h10 : a.length ≤ 10) (hp : p.length < a.length) (hpx : ∀ i, i < p.length → p.getD i 0 < a.length) (hq : q < a.length) (hA : fitA a b p) :
    Pure Try.prog 115 [.fptr (.list (rows a) :: .list (rows b) :: .list (ints (toI (p ++ [q]))) :: tl) 0] (.bool (fitAB a b (p ++ [q]))) := by
  obtain ⟨hna, hsa⟩ := tab_sq ha
  obtain ⟨hnb, hsb⟩ := tab_sq hb
  have hPx := snoc_lt hpx hq
  have hPl : (p ++ [q]).length = p.length + 1 := by simp
  have hfs := fun i k (hi : i < p.length) (hk : k < p.length) => fit1_snoc hA q hi hk (tab_at ha (i := i) (j := k) (by omega) (by omega)).1
  generalize hP : p ++ [q] = P at *
  have hl1 : ((p.length + 1 : Nat) : Int) - 1 = p.length := by omega
  refine e115 (by simp) fun _ _ => ?_
  simp only [k115, argEnv, toI_length, hPl, hl1, take6, List.drop_zero, Int.cast_ofNat_Int, go_sem, ↓reduceIte, Nat.reduceEqDiff, Nat.reduceAdd, Nat.reduceMul, Nat.reduceLeDiff, Nat.reduceLT, Int.reduceLE, Int.reduceLT, reduceCtorEq]
  refine ⟨by omega, by omega, by omega, ?_⟩
  refine KL_ind k115_b1.eq_1 (fun x : Nat => [(0, .fptr (.list (rows a) :: .list (rows b) :: .list (ints (toI P)) :: tl) 0), (3, .int .i64 p.length), (17, .int .i64 (p.length + 1)), (18, .int .i64 x)]) (fun _ => []) (fun i => i ≤ p.length + 1 ∧ ∀ j k, j < i → k < p.length + 1 → fit1 a b P j k) (fun i => p.length + 1 - i) [0, 3, 17, 18] 0 (by simp [keep]) rfl ⟨Nat.zero_le _, fun j k hj => by omega⟩ fun i ⟨hi, hfi⟩ ihi => ?_
  try simp only [toI_length, hPl, take6, List.drop_zero, Int.cast_ofNat_Int, go_sem, ↓reduceIte, Nat.reduceEqDiff, Nat.reduceAdd, Nat.reduceMul, Nat.reduceLeDiff, Nat.reduceLT, Int.reduceLE, Int.reduceLT, reduceCtorEq]
  refine ⟨fun h2 => ?_, fun h2 => ?_⟩
  · have hip : i < p.length + 1 := by omega
    refine ⟨by omega, ?_⟩
    refine KL_ind k115_b0.eq_1 (fun k : Nat => [(0, .fptr (.list (rows a) :: .list (rows b) :: .list (ints (toI P)) :: tl) 0), (3, .int .i64 p.length), (4, .int .i64 i), (17, .int .i64 (p.length + 1)), (18, .int .i64 i), (25, .int .i64 (p.length + 1)), (26, .int .i64 k)]) (fun _ => []) (fun k => k ≤ p.length + 1 ∧ ∀ j, j < k → fit1 a b P i j) (fun k => p.length + 1 - k) [0, 3, 4, 17, 18, 25, 26] 0 (by simp [keep]) rfl ⟨Nat.zero_le _, fun j hj => by omega⟩ fun k ⟨hk, hfk⟩ ihk => ?_
    have hrow := hsa i (by omega)
    have hrb := hsb (P.getD i 0) (by have := hPx i (by omega); omega)
    try simp only [toI_length, toI_getD, hPl, hrow, hrb, take6, List.drop_zero, Int.cast_ofNat_Int, go_sem, ↓reduceIte, Nat.reduceEqDiff, Nat.reduceAdd, Nat.reduceMul, Nat.reduceLeDiff, Nat.reduceLT, Int.reduceLE, Int.reduceLT, reduceCtorEq]
    refine ⟨fun h3 => ?_, fun h3 => ?_⟩
    · have hkp : k < p.length + 1 := by omega
      have hta := tab_at ha (i := i) (j := k) (by omega) (by omega)
      have e1 : (a.getD i []).getD k 0 = tat a i k := rfl
      have e2 : (b.getD (P.getD i 0) []).getD (P.getD k 0) 0 = tat b (P.getD i 0) (P.getD k 0) := rfl
      have hpi := hPx i (by omega)
      have hpk := hPx k (by omega)
      rw [e1, e2]
      have hst : fit1 a b P i k → ∀ j, j < k + 1 → fit1 a b P i j := fun h j hj => by
        by_cases e : j = k
        · rw [e]; exact h
        · exact hfk j (by omega)
      repeat' (first | refine And.intro ?_ ?_ | intro _)
      all_goals first
        | omega
        | exact Kv.Fin.still ⟨by rw [fitAB_false fun h => by have := h i k (by omega) (by omega) (by omega); omega], rfl⟩
        | (refine ihk (k + 1) ⟨by omega, hst ?_⟩ (by omega) _ _ (by simp [keep]) rfl
           first
             | exact hfs i k (by omega) (by omega) (by omega)
             | (intro hlt; omega))
    · obtain rfl : k = p.length + 1 := by omega
      refine ⟨by omega, ?_⟩
      refine ihi (i + 1) ⟨by omega, fun j k hj hk => ?_⟩ (by omega) _ _ (by simp [keep]) rfl
      by_cases e : j = i
      · rw [e]; exact hfk k hk
      · exact hfi j k (by omega) hk
  · obtain rfl : i = p.length + 1 := by omega
    exact Kv.Fin.still ⟨by rw [fitAB_true fun i k hi hk => hfi i k (by omega) (by omega)], rfl⟩
end Go.Proofs.Ytkljidghocnllaa
