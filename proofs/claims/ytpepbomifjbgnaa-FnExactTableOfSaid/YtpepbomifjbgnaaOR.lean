/- All permutations of few points: the specification's recursion, and that they are the maps whose images differ. -/
import Derived.Test.YtpepbomifjbgnaaCb
import Derived.Test.YtpepbomifjbgnaaG3
import Derived.Test.YtpepbomifjbgnaaG5
import Derived.Test.YtpepbomifjbgnaaG6
namespace Go.Proofs.Ytpepbomifjbgnaa
open Go.Kv
set_option maxRecDepth 100000
end Go.Proofs.Ytpepbomifjbgnaa
namespace Go.Proofs.Ytpepbomifjbgnaa
open Go.Kv
set_option linter.unusedVariables false
set_option linter.unusedSimpArgs false
attribute [local irreducible] ACall PCall KL
def ords (n : Nat) : Nat → List Nat → List (List Nat)
  | 0, p => [p]
  | d + 1, p => ((List.range n).map fun q => if q ∈ p then [] else ords n d (p ++ [q])).flatten
def ordN (n d : Nat) (p : List Nat) (x : Nat) : List (List Nat) := ((List.range x).map fun q => if q ∈ p then [] else ords n d (p ++ [q])).flatten
theorem ordN_succ (n d : Nat) (p : List Nat) (x : Nat) : ordN n d p (x + 1) = ordN n d p x ++ if x ∈ p then [] else ords n d (p ++ [x]) := by
  simp [ordN, List.range_succ, List.flatten_append]
theorem ords_le (n : Nat) : ∀ (d : Nat) (p : List Nat), (ords n d p).length ≤ n ^ d ∧ ∀ x, (ordN n d p x).length ≤ x * n ^ d
  | 0, p => by
    refine ⟨by simp [ords], fun x => ?_⟩
    induction x with
    | zero => simp [ordN]
    | succ x ih =>
      rw [ordN_succ, List.length_append, Nat.succ_mul]
      have : (if x ∈ p then [] else ords n 0 (p ++ [x])).length ≤ n ^ 0 := by split <;> simp [ords]
      omega
  | d + 1, p => by
    have h1 : ∀ q, (ords n (d + 1) q).length ≤ n ^ (d + 1) := fun q => by
      have := (ords_le n d q).2 n
      rw [Nat.pow_succ, Nat.mul_comm]; exact this
    refine ⟨h1 p, fun x => ?_⟩
    induction x with
    | zero => simp [ordN]
    | succ x ih =>
      rw [ordN_succ, List.length_append, Nat.succ_mul]
      have : (if x ∈ p then [] else ords n (d + 1) (p ++ [x])).length ≤ n ^ (d + 1) := by
        split
        · simp
        · exact h1 _
      omega
theorem pow5 {n d : Nat} (hn : n ≤ 5) (hd : d ≤ 5) : n ^ d ≤ 3125 := by
  have h1 : n ^ d ≤ 5 ^ d := Nat.pow_le_pow_left hn d
  have h2 : 5 ^ d ≤ 5 ^ 5 := Nat.pow_le_pow_right (by omega) hd
  omega
theorem ords_mem (n : Nat) : ∀ (d : Nat) (p : List Nat), (∀ x ∈ p, x < n) → ∀ f ∈ ords n d p, f.length = p.length + d ∧ ∀ x ∈ f, x < n
  | 0, p, hp, f, hf => by
    simp only [ords, List.mem_singleton] at hf
    subst hf; exact ⟨rfl, hp⟩
  | d + 1, p, hp, f, hf => by
    simp only [ords, List.mem_flatten, List.mem_map, List.mem_range] at hf
    obtain ⟨l, ⟨q, hq, rfl⟩, hf⟩ := hf
    split at hf
    · simp at hf
    · obtain ⟨h1, h2⟩ := ords_mem n d (p ++ [q]) (fun x hx => by
        rcases List.mem_append.1 hx with hx | hx
        · exact hp x hx
        · simp at hx; omega) f hf
      exact ⟨by simp at h1; omega, h2⟩
/-- All lists of d numbers below n, in order. -/
def wds (n : Nat) : Nat → List (List Nat)
  | 0 => [[]]
  | d + 1 => ((List.range n).map fun q => (wds n d).map (q :: ·)).flatten
theorem dg_mod (n : Nat) (hn : 1 ≤ n) : ∀ (d k q : Nat), dg n d (q * n ^ d + k) = dg n d k
  | 0, k, q => rfl
  | d + 1, k, q => by
    have hp : 0 < n ^ d := Nat.pow_pos hn
    have e : q * n ^ (d + 1) + k = (q * n) * n ^ d + k := by rw [Nat.pow_succ, Nat.mul_assoc, Nat.mul_comm n]
    simp only [dg]
    rw [e, dg_mod n hn d k (q * n)]
    congr 1
    rw [Nat.add_comm, Nat.add_mul_div_right _ _ hp, Nat.add_mul_mod_self_right]
theorem range_mul (a b : Nat) : List.range (a * b) = ((List.range a).map fun q => (List.range b).map fun k => q * b + k).flatten := by
  induction a with
  | zero => simp
  | succ a ih =>
    rw [Nat.succ_mul, List.range_add, ih, List.range_succ, List.map_append, List.flatten_append]
    simp
theorem wds_dg (n : Nat) (hn : 1 ≤ n) : ∀ d, (List.range (n ^ d)).map (dg n d) = wds n d
  | 0 => rfl
  | d + 1 => by
    have hp : 0 < n ^ d := Nat.pow_pos hn
    rw [Nat.pow_succ, Nat.mul_comm, range_mul, wds, ← wds_dg n hn d, List.map_flatten, List.map_map]
    congr 1
    refine List.map_congr_left fun q hq => ?_
    rw [List.mem_range] at hq
    simp only [Function.comp_def, List.map_map]
    refine List.map_congr_left fun k hk => ?_
    rw [List.mem_range] at hk
    show dg n (d + 1) (q * n ^ d + k) = q :: dg n d k
    simp only [dg]
    rw [dg_mod n hn d k q, Nat.add_comm, Nat.add_mul_div_right _ _ hp, Nat.div_eq_of_lt hk, Nat.zero_add, Nat.mod_eq_of_lt hq]
theorem ords_wds (n : Nat) : ∀ (d : Nat) (p : List Nat), p.Nodup → ords n d p = ((wds n d).map (p ++ ·)).filter fun f => decide f.Nodup
  | 0, p, hp => by simp [ords, wds, hp]
  | d + 1, p, hp => by
    simp only [ords, wds]
    rw [List.map_flatten, List.filter_flatten, List.map_map, List.map_map]
    congr 1
    refine List.map_congr_left fun q _ => ?_
    have e : List.map (fun x => p ++ x) (List.map (fun x => q :: x) (wds n d)) = (wds n d).map ((p ++ [q]) ++ ·) := by
      rw [List.map_map]
      exact List.map_congr_left fun x _ => by simp
    simp only [Function.comp_def]
    rw [e]
    split
    · rename_i hq
      symm
      rw [List.filter_eq_nil_iff]
      intro f hf
      obtain ⟨x, _, rfl⟩ := List.mem_map.1 hf
      simp only [decide_eq_true_eq]
      intro hnd
      rw [List.append_assoc, List.nodup_append] at hnd
      exact hnd.2.2 q hq q (by simp) rfl
    · rename_i hq
      exact ords_wds n d _ (by
        rw [List.nodup_append]
        refine ⟨hp, by simp, fun x hx y hy => ?_⟩
        simp only [List.mem_singleton] at hy
        subst hy
        exact fun e => hq (e ▸ hx))
/-- The permutations of n points, in order. -/
def prm (n : Nat) : List (List Nat) := (allM n).filter fun f => decide f.Nodup
theorem ords_all (n : Nat) (hn : 1 ≤ n) : ords n n [] = prm n := by
  rw [ords_wds n n [] .nil, ← wds_dg n hn n]
  simp [prm, allM, Function.comp_def]
theorem known_take {p : List Nat} {q x : Nat} (h : x < p.length) : (decide (q ∈ p.take x) || decide (p.getD x 0 = q)) = decide (q ∈ p.take (x + 1)) := by
  rw [List.take_succ_eq_append_getElem h, List.getD_eq_getElem?_getD, List.getElem?_eq_getElem h]
  rw [Bool.eq_iff_iff]
  simp only [Bool.or_eq_true, decide_eq_true_eq, List.mem_append, List.mem_singleton, Option.getD_some]
  exact ⟨fun h => h.imp id Eq.symm, fun h => h.imp id Eq.symm⟩
theorem Imm.refa' {σ : Heap} {id ver k : Nat} {e : TypeId} {n : Nat} {l : List (List Int)} (h : σ[id]? = some (.arr ver e n (aggs l))) (hk : k = l.length) : Imm σ (.ref id ver 0 k) (.list (aggs l)) := hk ▸ Imm.refa h
theorem wds_mem (n : Nat) : ∀ f : List Nat, (∀ x ∈ f, x < n) → f ∈ wds n f.length
  | [], _ => by simp [wds]
  | a :: f, h => by
    simp only [List.length_cons, wds, List.mem_flatten, List.mem_map, List.mem_range]
    exact ⟨_, ⟨a, h a (by simp), rfl⟩, List.mem_map.2 ⟨f, wds_mem n f fun x hx => h x (by simp [hx]), rfl⟩⟩
theorem allM_mem {n : Nat} (hn : 1 ≤ n) {f : List Nat} (hl : f.length = n) (h : ∀ x ∈ f, x < n) : f ∈ allM n := by
  have := wds_mem n f h
  rw [hl, ← wds_dg n hn n] at this
  exact this
theorem range_prm {n : Nat} (hn : 1 ≤ n) : List.range n ∈ prm n := by
  rw [prm, List.mem_filter]
  exact ⟨allM_mem hn (by simp) (by simp), by simpa using List.nodup_range⟩
theorem prm_ok {n : Nat} (h1 : 1 ≤ n) (h5 : n ≤ 5) {g : List Nat} (h : g ∈ prm n) : Ok g n := by
  have h := (List.mem_filter.1 h).1
  simp only [allM, List.mem_map] at h
  obtain ⟨k, _, rfl⟩ := h
  exact dg_ok h1 h5 k
theorem prm_len {n : Nat} (h1 : 1 ≤ n) (h5 : n ≤ 5) : (prm n).length ≤ 3125 := by
  have h := List.length_filter_le (fun f : List Nat => decide f.Nodup) (allM n)
  have h2 : (allM n).length = n ^ n := by simp [allM]
  have h3 := nn_le n (by omega)
  simp only [prm]; omega
end Go.Proofs.Ytpepbomifjbgnaa
