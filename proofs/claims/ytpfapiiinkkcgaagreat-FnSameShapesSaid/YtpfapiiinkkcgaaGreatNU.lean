/- Numbers of maps: plain laws of heights, cycles, powers. -/
import Derived.Test.YtpfapiiinkkcgaaGreatCT
import Derived.Test.YtpfapiiinkkcgaaGreatCO
namespace Go.Proofs.YtpfapiiinkkcgaaGreat
open Go.Kv
set_option linter.unusedVariables false
set_option linter.unusedSimpArgs false
attribute [local irreducible] ACall PCall KL
theorem cyc_of {f : List Nat} {n p d : Nat} (hf : Ok f n) (hp : p < n) (hd : 1 ≤ d) (h : it f d p = p) : cyc f n p = true := by
  have h1 := it_mul h n
  have h2 := cyc_late hf hp (k := d * n) (by have := Nat.le_mul_of_pos_left n hd; omega)
  rwa [h1] at h2
theorem hgt_le {f : List Nat} {n p k : Nat} (hf : Ok f n) (hp : p < n) (h : cyc f n (it f k p) = true) : hgt f n p ≤ k := by
  apply Classical.byContradiction
  intro hk
  have h60 := (hgt_spec hf hp).1
  have hlt : k < (List.range 61).findIdx fun k => cyc f n (it f k p) := by unfold hgt at hk; omega
  have := List.not_of_lt_findIdx hlt
  simp only [List.getElem_range] at this
  rw [h] at this; cases this
theorem hgt_zero {f : List Nat} {n p : Nat} (hf : Ok f n) (hp : p < n) : hgt f n p = 0 ↔ cyc f n p = true := by
  constructor
  · intro h
    have := (hgt_spec hf hp).2
    rwa [h] at this
  · intro h
    have := hgt_le (k := 0) hf hp h
    omega
theorem mino_it (f : List Nat) (q : Nat) : ∃ k, mino f q = it f k q := by
  obtain ⟨k, _, h⟩ := lo_mem f q 59
  exact ⟨k, h⟩
theorem mino_cyc {f : List Nat} {n q : Nat} (h : cyc f n q = true) : cyc f n (mino f q) = true := by
  obtain ⟨k, e⟩ := mino_it f q
  rw [e]; exact cyc_step h k
/-- All that returns comes back from where it is led. -/
theorem cyc_back {f : List Nat} {n p : Nat} (h : cyc f n p = true) (k : Nat) : ∃ j, it f j (it f k p) = p := by
  obtain ⟨d, h1, h2, h3⟩ := cyc_iff.1 h
  refine ⟨d * k - k, ?_⟩
  have hj : k ≤ d * k := Nat.le_mul_of_pos_left k h1
  rw [← it_add, show k + (d * k - k) = d * k by omega, it_mul h3]
theorem mino_move {f : List Nat} {n p : Nat} (hf : Ok f n) (h : cyc f n p = true) (k : Nat) : mino f (it f k p) = mino f p := by
  have h1 := lo_round (f := f) (p := it f k p) (m := 59) (cyc_60 hf (cyc_step h k))
  exact mino_eq hf h (h1.move h)
theorem clen_spec {f : List Nat} {n p : Nat} (hf : Ok f n) (h : cyc f n p = true) : it f (clen f p) p = p ∧ (∀ j, j + 1 < clen f p → it f (j + 1) p ≠ p) ∧ 1 ≤ clen f p := by
  obtain ⟨d, h1, h2, h3⟩ := cyc_iff.1 h
  have hn5 := hf.le
  have hlt : (List.range 60).findIdx (fun k => decide (it f (k + 1) p = p)) < (List.range 60).length := by
    rw [List.findIdx_lt_length]
    exact ⟨d - 1, by simp; omega, by rw [Nat.sub_add_cancel h1]; simpa using h3⟩
  refine ⟨?_, fun j hj => ?_, by unfold clen; omega⟩
  · have := List.findIdx_getElem (w := hlt)
    simp only [List.getElem_range, decide_eq_true_eq] at this
    exact this
  · have hj' : j < (List.range 60).findIdx (fun k => decide (it f (k + 1) p = p)) := by unfold clen at hj; omega
    have := List.not_of_lt_findIdx hj'
    simpa using this
theorem sum_key {α : Type} (g : α → Nat) (R : List Nat) (hR : R.Nodup) : ∀ (L : List α), (∀ x ∈ L, g x ∈ R) → L.length = (R.map fun r => (L.filter fun x => decide (g x = r)).length).sum
  | [], _ => by
    have : (R.map fun r => (([] : List α).filter fun x => decide (g x = r)).length) = R.map fun _ => 0 := by simp
    rw [this]
    clear hR this
    induction R with
    | nil => rfl
    | cons a l ih => simpa using ih
  | x :: L, h => by
    have ih := sum_key g R hR L fun y hy => h y (by simp [hy])
    have hx := h x (by simp)
    have key : ∀ (R : List Nat), R.Nodup → (R.map fun r => ((x :: L).filter fun y => decide (g y = r)).length).sum = (R.map fun r => (L.filter fun y => decide (g y = r)).length).sum + if g x ∈ R then 1 else 0 := fun R => by
      induction R with
      | nil => intro _; rfl
      | cons a l ih2 =>
        intro hd
        obtain ⟨hd1, hd2⟩ := List.nodup_cons.1 hd
        rw [List.map_cons, List.sum_cons, ih2 hd2, List.map_cons, List.sum_cons, List.filter_cons]
        by_cases e : g x = a
        · subst e
          rw [if_pos (by simp), if_neg hd1, if_pos (by simp)]
          simp only [List.length_cons]; omega
        · rw [if_neg (by simpa using e)]
          by_cases e2 : g x ∈ l
          · rw [if_pos e2, if_pos (by simp [e2])]; omega
          · rw [if_neg e2, if_neg (by simp [e, e2])]; omega
    rw [key R hR, if_pos hx, ← ih, List.length_cons]
/-- The points whose orbits have the least point r are as many as the cycle of r is long. -/
theorem fiber {f : List Nat} {n r : Nat} (hf : Ok f n) (hr : r < n) (hc : cyc f n r = true) (hm : mino f r = r) : (((List.range n).filter (cyc f n)).filter fun x => decide (mino f x = r)).length = clen f r := by
  obtain ⟨c1, c2, c3⟩ := clen_spec hf hc
  have hP : (((List.range n).filter (cyc f n)).filter fun x => decide (mino f x = r)).Perm ((List.range (clen f r)).map fun k => it f k r) := by
    refine (List.perm_ext_iff_of_nodup ((List.nodup_range.filter _).filter _) ?_).2 fun p => ?_
    · rw [List.nodup_iff_pairwise_ne, List.pairwise_map]
      have := List.nodup_iff_pairwise_ne.1 (List.nodup_range (n := clen f r))
      rw [List.pairwise_iff_getElem] at this ⊢
      intro a b ha hb hab e
      simp only [List.length_range] at ha hb
      simp only [List.getElem_range] at e
      have e2 : it f (a + (clen f r - b)) r = r := by
        rw [it_add, e, ← it_add, show b + (clen f r - b) = clen f r by omega, c1]
      exact c2 (a + (clen f r - b) - 1) (by omega) (by rw [show a + (clen f r - b) - 1 + 1 = a + (clen f r - b) by omega]; exact e2)
    · simp only [List.mem_filter, List.mem_range, List.mem_map, decide_eq_true_eq]
      constructor
      · rintro ⟨⟨hp, hpc⟩, hpm⟩
        obtain ⟨k, hk⟩ := mino_it f p
        obtain ⟨j, hj⟩ := cyc_back hpc k
        rw [← hk, hpm] at hj
        refine ⟨j % clen f r, Nat.mod_lt _ (by omega), ?_⟩
        rw [← hj]
        conv => rhs; rw [← Nat.div_add_mod j (clen f r), it_add, it_mul c1]
      · rintro ⟨k, hk, rfl⟩
        exact ⟨⟨it_lt hf hr k, cyc_step hc k⟩, by rw [mino_move hf hc k, hm]⟩
  rw [hP.length_eq]; simp
theorem sum_lens {f : List Nat} {n : Nat} (hf : Ok f n) : (lens f n n).sum = (((List.range n).filter (cyc f n)).length : Int) := by
  have h := sum_key (mino f) (crts f n n) (List.nodup_range.filter _) ((List.range n).filter (cyc f n)) fun p hp => by
    obtain ⟨h1, h2⟩ := List.mem_filter.1 hp
    have hpn := List.mem_range.1 h1
    obtain ⟨k, hk⟩ := mino_it f p
    have hc := mino_cyc h2
    refine List.mem_filter.2 ⟨List.mem_range.2 (by rw [hk]; exact it_lt hf hpn k), ?_⟩
    simp only [isRt, Bool.and_eq_true, decide_eq_true_eq]
    refine ⟨hc, ?_⟩
    conv => lhs; rw [hk, mino_move hf h2 k]
  rw [h]
  have e : (crts f n n).map (fun r => (((List.range n).filter (cyc f n)).filter fun x => decide (mino f x = r)).length) = (crts f n n).map fun r => clen f r := by
    refine List.map_congr_left fun r hr => ?_
    obtain ⟨h1, h2⟩ := List.mem_filter.1 hr
    simp only [isRt, Bool.and_eq_true, decide_eq_true_eq] at h2
    exact fiber hf (List.mem_range.1 h1) h2.1 h2.2
  rw [e]
  unfold lens
  generalize crts f n n = R
  induction R with
  | nil => rfl
  | cons a l ih => rw [List.map_cons, List.sum_cons, ih, List.map_cons, List.sum_cons]; omega
theorem perm_sumI {a b : List Int} (h : a.Perm b) : a.sum = b.sum := by
  induction h with
  | nil => rfl
  | cons x _ ih => rw [List.sum_cons, List.sum_cons, ih]
  | swap x y l => simp only [List.sum_cons]; omega
  | trans _ _ h1 h2 => rw [h1, h2]
theorem sum_negs : ∀ l : List Int, (negs l).sum = - l.sum
  | [] => rfl
  | a :: l => by
    have := sum_negs l
    unfold negs at this ⊢
    rw [List.map_cons, List.sum_cons, List.sum_cons, this]; omega
/-- What the round of the powers says. -/
structure Rnd (f : List Nat) (n a L : Nat) : Prop where
  lt : a < L
  eq : itM f n L = itM f n a
  nd : ∀ i j, i < j → j < L → itM f n i ≠ itM f n j
theorem Rnd.max {f : List Nat} {n a L : Nat} (hf : Ok f n) (h : Rnd f n a L) : (∀ p, p < n → hgt f n p ≤ a) ∧ (a = 0 ∨ ∃ p, p < n ∧ hgt f n p = a) := by
  have hlt := h.lt
  have heq : ∀ p, p < n → it f L p = it f a p := fun p hp => by
    have := congrArg (fun l : List Nat => l.getD p 0) h.eq
    simp only [itM_get hp] at this; exact this
  have hle : ∀ p, p < n → hgt f n p ≤ a := fun p hp => by
    refine hgt_le hf hp (cyc_of hf (it_lt hf hp a) (d := L - a) (by omega) ?_)
    rw [← it_add, show a + (L - a) = L by omega]; exact heq p hp
  refine ⟨hle, ?_⟩
  apply Classical.byContradiction
  intro hno
  have ha : 1 ≤ a := Nat.pos_of_ne_zero fun e => hno (.inl e)
  have hall : ∀ p, p < n → cyc f n (it f (a - 1) p) = true := fun p hp => by
    have h1 := hle p hp
    have h2 : hgt f n p ≠ a := fun e => hno (.inr ⟨p, hp, e⟩)
    have h3 := (hgt_spec hf hp).2
    have h4 := cyc_step h3 (a - 1 - hgt f n p)
    rwa [← it_add, show hgt f n p + (a - 1 - hgt f n p) = a - 1 by omega] at h4
  refine h.nd (a - 1) (L - 1) (by omega) (by omega) ?_
  refine ext_getD (by simp [itM]) fun p hp => ?_
  simp only [itM, List.length_map, List.length_range] at hp
  rw [itM_get hp, itM_get hp]
  obtain ⟨s, hs⟩ := cyc_back (hall p hp) 1
  have e1 : it f 1 (it f (a - 1) p) = it f a p := by rw [← it_add, show a - 1 + 1 = a by omega]
  rw [e1] at hs
  have e2 : it f (L - a) (it f a p) = it f a p := by rw [← it_add, show a + (L - a) = L by omega]; exact heq p hp
  calc it f (a - 1) p = it f s (it f a p) := hs.symm
    _ = it f s (it f (L - a) (it f a p)) := by rw [e2]
    _ = it f (L - a) (it f s (it f a p)) := by rw [← it_add, Nat.add_comm, it_add]
    _ = it f (L - a) (it f (a - 1) p) := by rw [hs]
    _ = it f (L - 1) p := by rw [← it_add, show a - 1 + (L - a) = L - 1 by omega]
/-- Powers that all differ are not too many. -/
theorem pow_few {f : List Nat} {n L : Nat} (hf : Ok f n) (h : ∀ i j, i < j → j < L → itM f n i ≠ itM f n j) : L ≤ 3125 := by
  have h1 : ((List.range L).map fun k => nbl n (itM f n k)).Nodup := by
    rw [List.nodup_iff_pairwise_ne, List.pairwise_map, List.pairwise_iff_getElem]
    intro i j hi hj hij e
    simp only [List.length_range] at hi hj
    simp only [List.getElem_range] at e
    exact h i j hij hj (nbl_inj (itM_ok hf i) (itM_ok hf j) e)
  have h2 := nodup_len (n ^ n) _ h1 fun x hx => by
    obtain ⟨k, _, rfl⟩ := List.mem_map.1 hx
    exact (dg_nbl (itM_ok hf k)).1
  rw [List.length_map, List.length_range] at h2
  have h3 : n ^ n ≤ 3125 := by
    have h1 := hf.pos
    have h5 := hf.le
    match n, h1, h5 with
    | 1, _, _ => decide
    | 2, _, _ => decide
    | 3, _, _ => decide
    | 4, _, _ => decide
    | 5, _, _ => decide
  omega
end Go.Proofs.YtpfapiiinkkcgaaGreat
