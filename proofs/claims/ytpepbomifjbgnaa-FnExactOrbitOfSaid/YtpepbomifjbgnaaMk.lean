/- Lists given by a rule; heaps that grow at the end: small laws. -/
import Derived.Test.YtpepbomifjbgnaaFC
namespace Go.Kv
/-- The list whose i-th member is f i. -/
def mk (m : Nat) (f : Nat → Int) : List Int := (List.range m).map f
@[go_sem, simp] theorem mk_length (m : Nat) (f : Nat → Int) : (mk m f).length = m := by simp [mk]
theorem mk_getD {m i : Nat} (h : i < m) (f : Nat → Int) : (mk m f).getD i 0 = f i := by simp [mk, List.getD_eq_getElem?_getD, h]
theorem mk_congr {m : Nat} {f g : Nat → Int} (h : ∀ i, i < m → f i = g i) : mk m f = mk m g := List.map_congr_left fun i hi => h i (by simpa using hi)
theorem mk_set {m i : Nat} (f : Nat → Int) (v : Int) : (mk m f).set i v = mk m (fun r => if r = i then v else f r) := by
  apply List.ext_getElem?
  intro j
  simp only [mk, List.getElem?_set, List.getElem?_map, List.length_map, List.length_range]
  by_cases hj : j < m
  · by_cases e : i = j
    · subst e; simp [hj]
    · have e' : ¬ j = i := fun h => e h.symm
      simp [hj, e, e']
  · by_cases e : i = j
    · subst e; simp [hj]
    · simp [hj, e]
theorem mk_rep (m : Nat) : List.replicate m (0 : Int) = mk m fun _ => 0 := by simp [mk, List.map_const']
theorem mk_succ (m : Nat) (f : Nat → Int) : mk (m + 1) f = mk m f ++ [f m] := by simp [mk, List.range_succ]
theorem mk_snoc (m : Nat) (f : Nat → Int) : mk m f ++ [f m] = mk (m + 1) f := by simp [mk, List.range_succ]
theorem mk_cons (m : Nat) (f : Nat → Int) : mk (m + 1) f = [f 0] ++ mk m fun i => f (i + 1) := by
  simp [mk, List.range_succ_eq_map, Function.comp_def]
theorem mk_zero (f : Nat → Int) : mk 0 f = [] := rfl
theorem mk_of (l : List Int) : mk l.length (fun i => l.getD i 0) = l := by
  apply List.ext_getElem?
  intro j
  simp only [mk, List.getElem?_map]
  by_cases hj : j < l.length
  · simp [hj, List.getD_eq_getElem?_getD]
  · have : (List.range l.length)[j]? = none := by simp; omega
    simp [this]; omega
@[go_sem] theorem get_last (σ : Heap) (a : AObj) : (σ ++ [a])[σ.length]? = some a := by simp
@[go_sem] theorem set_last (σ : Heap) (a b : AObj) : (σ ++ [a]).set σ.length b = σ ++ [b] := by simp
theorem get_left {σ : Heap} {i : Nat} {o : AObj} (h : σ[i]? = some o) (τ : Heap) : (σ ++ τ)[i]? = some o := by
  rw [List.getElem?_append_left (List.getElem?_eq_some_iff.1 h).1]; exact h
theorem copy_step {l : List Int} {x : Nat} (h : x < l.length) : (l.take x ++ List.replicate (l.length - x) 0).set x (l.getD x 0) = l.take (x + 1) ++ List.replicate (l.length - (x + 1)) 0 := by
  have e : l.length - x = (l.length - (x + 1)) + 1 := by omega
  have hm : min x l.length = x := by omega
  rw [e, List.replicate_succ, List.set_append_right _ _ (by rw [List.length_take]; omega), List.length_take, hm, Nat.sub_self, List.set_cons_zero, List.take_succ_eq_append_getElem h, List.append_assoc, List.getD_eq_getElem?_getD, List.getElem?_eq_getElem h]
  rfl
theorem all_range_succ (p : Nat → Bool) (n : Nat) : (List.range (n + 1)).all p = ((List.range n).all p && p n) := by simp [List.range_succ, List.all_append]
theorem not_range {p : Nat → Bool} {n x : Nat} (h : x < n) (hp : p x = false) : (List.range n).all p = false := by
  rw [List.all_eq_false]; exact ⟨x, by simpa using h, by simp [hp]⟩
end Go.Kv
