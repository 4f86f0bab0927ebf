/- Numbers of maps of the same shape: both sides. -/
import Derived.Test.YtpepbomifjbgnaaCb
import Derived.Test.YtpepbomifjbgnaaG5
import Derived.Test.YtpepbomifjbgnaaOR
import Derived.Test.YtpepbomifjbgnaaCC
import Derived.Test.YtpepbomifjbgnaaG1
namespace Go.Proofs.Ytpepbomifjbgnaa
open Go.Kv
set_option maxRecDepth 100000
end Go.Proofs.Ytpepbomifjbgnaa
namespace Go.Proofs.Ytpepbomifjbgnaa
open Go.Kv
set_option linter.unusedVariables false
set_option linter.unusedSimpArgs false
attribute [local irreducible] ACall PCall KL
theorem Imm.refaj {σ : Heap} {id ver n k : Nat} {e : TypeId} {l post : List (List Int)} (h : σ[id]? = some (.arr ver e n (aggs (l ++ post)))) (hk : k = l.length) : Imm σ (.ref id ver 0 k) (.list (aggs l)) := by
  subst hk
  have hg : ∀ (i : Nat) (x d : PV), (aggs (l ++ post))[0 + i]? = some x → (aggs l)[i]? = some d → x = d := fun i x d hx hd => by
    have hlt := (List.getElem?_eq_some_iff.1 hd).1
    rw [Nat.zero_add, ← aggs_append, List.getElem?_append_left hlt, hd] at hx
    exact (Option.some.inj hx).symm
  refine .ref id ver 0 l.length e n (aggs (l ++ post)) (aggs l) h (by simp [aggs_length]) (aggs_length l) (fun i x d hx hd => ?_) (fun i x d j c c' hx hd hc hc' => ?_)
  · obtain rfl := hg i x d hx hd
    obtain ⟨y, _, rfl⟩ := aggs_get hd
    exact ⟨rfl, ints_ok y⟩
  · obtain rfl := hg i x d hx hd
    obtain ⟨y, _, rfl⟩ := aggs_get hd
    rw [hc] at hc'; cases hc'
    exact .refl _ ((Plain.ints y c (List.mem_of_getElem? hc)).up)
def kept (f : List Nat) (n x : Nat) : Nat := (((prm n).take x).filter fun g => decide (mul f g = mul g f)).length
theorem kept_le (f : List Nat) (n x : Nat) : kept f n x ≤ x := by
  have := List.length_filter_le (fun g => decide (mul f g = mul g f)) ((prm n).take x)
  simp only [List.length_take] at this
  unfold kept; omega
theorem kept_succ (f : List Nat) (n : Nat) {x : Nat} (h : x < (prm n).length) : kept f n (x + 1) = kept f n x + if mul f (prm n)[x] = mul (prm n)[x] f then 1 else 0 := by
  unfold kept
  rw [List.take_succ_eq_append_getElem h, List.filter_append, List.length_append]
  by_cases hc : mul f (prm n)[x] = mul (prm n)[x] f
  · simp [hc]
  · simp [hc]
theorem kept_pos {f : List Nat} {n : Nat} (hf : Ok f n) : 1 ≤ kept f n (prm n).length := by
  unfold kept
  rw [List.take_length]
  have hm : List.range n ∈ (prm n).filter fun g => decide (mul f g = mul g f) := by
    refine List.mem_filter.2 ⟨range_prm hf.pos, decide_eq_true ?_⟩
    have e1 : mul f (List.range n) = f := by
      unfold mul
      conv => rhs; rw [← List.map_id f]
      refine List.map_congr_left fun x hx => ?_
      have := hf.lt x hx
      simp [List.getD_eq_getElem?_getD, this]
    have e2 : mul (List.range n) f = f := by
      apply List.ext_getElem (by simp [hf.len])
      intro i h1 h2
      simp [mul, List.getD_eq_getElem?_getD, h2]
    rw [e1, e2]
  exact List.length_pos_of_mem hm
end Go.Proofs.Ytpepbomifjbgnaa
