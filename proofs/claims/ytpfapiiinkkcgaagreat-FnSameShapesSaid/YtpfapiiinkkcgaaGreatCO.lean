/- The classes of maps: plain laws. -/
import Derived.Test.YtpfapiiinkkcgaaGreatCb
import Derived.Test.YtpfapiiinkkcgaaGreatLF
namespace Go.Proofs.YtpfapiiinkkcgaaGreat
open Go.Kv
set_option maxRecDepth 100000
end Go.Proofs.YtpfapiiinkkcgaaGreat
namespace Go.Proofs.YtpfapiiinkkcgaaGreat
open Go.Kv
set_option linter.unusedVariables false
set_option linter.unusedSimpArgs false
attribute [local irreducible] ACall PCall KL
theorem prm_mem {n : Nat} (h1 : 1 ≤ n) {p : List Nat} (hp : Ok p n) (hn : p.Nodup) : p ∈ prm n := by
  rw [prm, List.mem_filter]
  exact ⟨allM_mem h1 hp.len hp.lt, by simpa using hn⟩
theorem inv_get {p : List Nat} {n : Nat} (hp : Ok p n) {y : Nat} (hy : y < n) : (inv p).getD y 0 = p.idxOf y := by
  simp [inv, List.getD_eq_getElem?_getD, hp.len, hy]
theorem inv_left {p : List Nat} {n : Nat} (hp : Ok p n) (hn : p.Nodup) : mul (inv p) p = List.range n := by
  have hi := inv_ok hp hn
  refine ext_getD (by simp [hi.len]) fun i h => ?_
  rw [mul_length, hi.len] at h
  rw [mul_get (by rw [hi.len]; exact h), inv_get hp h, range_getD h]
  have hlt := List.idxOf_lt_length_iff.2 (perm_mem hp hn h)
  rw [List.getD_eq_getElem?_getD, List.getElem?_eq_getElem hlt, List.getElem_idxOf]
  rfl
theorem inv_right {p : List Nat} {n : Nat} (hp : Ok p n) (hn : p.Nodup) : mul p (inv p) = List.range n := by
  refine ext_getD (by simp [hp.len]) fun i h => ?_
  rw [mul_length, hp.len] at h
  have hil : i < p.length := by rw [hp.len]; exact h
  rw [mul_get hil, inv_get hp (hp.get h), range_getD h]
  have e : p.getD i 0 = p[i] := by simp [List.getD_eq_getElem?_getD, hil]
  rw [e]
  exact hn.idxOf_getElem i hil
theorem nodup_of_left {p q : List Nat} {n : Nat} (hp : Ok p n) (h : mul p q = List.range n) : p.Nodup := by
  have : (p.map fun x => q.getD x 0).Nodup := by
    have e : p.map (fun x => q.getD x 0) = List.range n := h
    rw [e]; exact List.nodup_range
  rw [List.Nodup, List.pairwise_map] at this
  exact this.imp fun h e => h (by rw [e])
theorem inv_nodup {p : List Nat} {n : Nat} (hp : Ok p n) (hn : p.Nodup) : (inv p).Nodup := nodup_of_left (inv_ok hp hn) (inv_left hp hn)
theorem mul_nodup {p q : List Nat} {n : Nat} (hp : Ok p n) (hn : p.Nodup) (hq : Ok q n) (hm : q.Nodup) : (mul p q).Nodup := by
  refine nodup_of_left (q := mul (inv q) (inv p)) (hp.mul hq) ?_
  have hi := inv_ok hp hn
  have hj := inv_ok hq hm
  rw [mul_assoc hp hq (hj.mul hi), ← mul_assoc hq hj hi, inv_right hq hm, one_mul hi, inv_right hp hn]
/-- g is f renumbered. -/
def orbC (n : Nat) (f g : List Nat) : Prop := ∃ p ∈ prm n, rnm f p = g
theorem rnm_iff {f g p : List Nat} {n : Nat} (hf : Ok f n) (hg : Ok g n) (hp : Ok p n) (hn : p.Nodup) : rnm f p = g ↔ mul p g = mul f p := by
  have hi := inv_ok hp hn
  constructor
  · intro h
    rw [← h, rnm, mul_assoc hi hf hp, ← mul_assoc hp hi (hf.mul hp), inv_right hp hn, one_mul (hf.mul hp)]
  · intro h
    rw [rnm, mul_assoc hi hf hp, ← h, ← mul_assoc hi hp hg, inv_left hp hn, one_mul hg]
theorem orb_iff {f g : List Nat} {n : Nat} (hf : Ok f n) (hg : Ok g n) : orbC n f g ↔ ∃ p, (Ok p n ∧ p.Nodup) ∧ mul p g = mul f p := by
  constructor
  · rintro ⟨p, hp, h⟩
    have h1 := prm_ok hf.pos hf.le hp
    exact ⟨p, ⟨h1, prm_nd hp⟩, (rnm_iff hf hg h1 (prm_nd hp)).1 h⟩
  · rintro ⟨p, ⟨h1, h2⟩, h⟩
    exact ⟨p, prm_mem hf.pos h1 h2, (rnm_iff hf hg h1 h2).2 h⟩
theorem orbC_symm {f g : List Nat} {n : Nat} (hf : Ok f n) (hg : Ok g n) (h : orbC n f g) : orbC n g f := by
  obtain ⟨p, ⟨h1, h2⟩, h⟩ := (orb_iff hf hg).1 h
  have hi := inv_ok h1 h2
  refine (orb_iff hg hf).2 ⟨inv p, ⟨hi, inv_nodup h1 h2⟩, ?_⟩
  have e : mul (mul (inv p) (mul f p)) (inv p) = mul (inv p) f := by
    rw [mul_assoc hi (hf.mul h1) hi, mul_assoc hf h1 hi, inv_right h1 h2, mul_one hf]
  rw [← e, ← h, ← mul_assoc hi h1 hg, inv_left h1 h2, one_mul hg]
theorem orbC_trans {f g k : List Nat} {n : Nat} (hf : Ok f n) (hg : Ok g n) (hk : Ok k n) (h : orbC n f g) (h' : orbC n g k) : orbC n f k := by
  obtain ⟨p, ⟨p1, p2⟩, h⟩ := (orb_iff hf hg).1 h
  obtain ⟨q, ⟨q1, q2⟩, h'⟩ := (orb_iff hg hk).1 h'
  refine (orb_iff hf hk).2 ⟨mul p q, ⟨p1.mul q1, mul_nodup p1 p2 q1 q2⟩, ?_⟩
  rw [mul_assoc p1 q1 hk, h', ← mul_assoc p1 hg q1, h, mul_assoc hf p1 q1]
/-- The number of a map. -/
def nbl (n : Nat) : List Nat → Nat
  | [] => 0
  | a :: r => a * n ^ r.length + nbl n r
theorem nbl_lt {n : Nat} : ∀ {l : List Nat}, (∀ x ∈ l, x < n) → nbl n l < n ^ l.length
  | [], _ => by simp [nbl]
  | a :: r, h => by
    have h1 := nbl_lt (l := r) fun x hx => h x (by simp [hx])
    have h2 := h a (by simp)
    simp only [nbl, List.length_cons, Nat.pow_succ]
    have h3 : (a + 1) * n ^ r.length ≤ n * n ^ r.length := Nat.mul_le_mul_right _ h2
    rw [Nat.succ_mul] at h3
    rw [Nat.mul_comm (n ^ r.length) n]
    omega
theorem cmp_nbl {n : Nat} : ∀ (f g : List Nat), f.length = g.length → (∀ x ∈ f, x < n) → (∀ x ∈ g, x < n) → (cmpL (f.map fun x : Nat => (x : Int)) (g.map fun x : Nat => (x : Int)) < 0 ↔ nbl n f < nbl n g)
  | [], [], _, _, _ => by simp [cmpL]
  | [], _ :: _, h, _, _ => by simp at h
  | _ :: _, [], h, _, _ => by simp at h
  | a :: r, b :: s, h, hf, hg => by
    have hl : r.length = s.length := by simpa using h
    have ih := cmp_nbl r s hl (fun x hx => hf x (by simp [hx])) (fun x hx => hg x (by simp [hx]))
    have h1 := nbl_lt (l := r) fun x hx => hf x (by simp [hx])
    have h2 := nbl_lt (l := s) fun x hx => hg x (by simp [hx])
    simp only [List.map_cons, cmpL, nbl]
    rw [hl] at h1 ⊢
    by_cases e1 : a < b
    · have h3 : (a + 1) * n ^ s.length ≤ b * n ^ s.length := Nat.mul_le_mul_right _ e1
      rw [Nat.succ_mul] at h3
      rw [if_pos (by omega)]
      constructor
      · intro _; omega
      · intro _; omega
    · by_cases e2 : b < a
      · have h3 : (b + 1) * n ^ s.length ≤ a * n ^ s.length := Nat.mul_le_mul_right _ e2
        rw [Nat.succ_mul] at h3
        rw [if_neg (by omega), if_pos (by omega)]
        constructor
        · intro h; omega
        · intro _; omega
      · obtain rfl : a = b := by omega
        rw [if_neg (by omega), if_neg (by omega), ih]
        omega
theorem ltM_nbl {f g : List Nat} {n : Nat} (hf : Ok f n) (hg : Ok g n) : ltM f g = true ↔ nbl n f < nbl n g := by
  unfold ltM
  rw [decide_eq_true_iff]
  exact cmp_nbl f g (by rw [hf.len, hg.len]) hf.lt hg.lt
theorem nbl_dg {n : Nat} (hn : 1 ≤ n) : ∀ j k, nbl n (dg n j k) = k % n ^ j
  | 0, k => by simp [dg, nbl, Nat.mod_one]
  | j + 1, k => by
    simp only [dg, nbl, dg_length, nbl_dg hn j k]
    rw [Nat.pow_succ, Nat.mod_mul, Nat.mul_comm, Nat.add_comm]
theorem nbl_at {n k : Nat} (hn : 1 ≤ n) (hk : k < n ^ n) : nbl n (dg n n k) = k := by rw [nbl_dg hn, Nat.mod_eq_of_lt hk]
theorem dg_nbl {n : Nat} {f : List Nat} (hf : Ok f n) : nbl n f < n ^ n ∧ dg n n (nbl n f) = f := by
  have h := allM_mem hf.pos hf.len hf.lt
  simp only [allM, List.mem_map, List.mem_range] at h
  obtain ⟨k, hk, rfl⟩ := h
  rw [nbl_at hf.pos hk]
  exact ⟨hk, rfl⟩
theorem nbl_inj {n : Nat} {f g : List Nat} (hf : Ok f n) (hg : Ok g n) (h : nbl n f = nbl n g) : f = g := by
  rw [← (dg_nbl hf).2, h, (dg_nbl hg).2]
theorem fold_min {f : List Nat} {n : Nat} (hf : Ok f n) : ∀ (L : List (List Nat)) (b : List Nat), Ok b n → (∀ p ∈ L, p ∈ prm n) →
    let r := L.foldl (fun b p => if ltM (rnm f p) b = true then rnm f p else b) b
    Ok r n ∧ nbl n r ≤ nbl n b ∧ (∀ p ∈ L, nbl n r ≤ nbl n (rnm f p)) ∧ (r = b ∨ ∃ p ∈ L, r = rnm f p)
  | [], b, hb, _ => ⟨hb, Nat.le_refl _, by simp, .inl rfl⟩
  | q :: L, b, hb, hL => by
    have hq := hL q (by simp)
    have hr := rnm_ok hf (prm_ok hf.pos hf.le hq) (prm_nd hq)
    simp only [List.foldl_cons]
    by_cases h : ltM (rnm f q) b = true
    · rw [if_pos h]
      obtain ⟨h1, h2, h3, h4⟩ := fold_min hf L (rnm f q) hr fun p hp => hL p (by simp [hp])
      have := (ltM_nbl hr hb).1 h
      refine ⟨h1, by omega, fun p hp => ?_, ?_⟩
      · rcases List.mem_cons.1 hp with rfl | hp
        · exact h2
        · exact h3 p hp
      · rcases h4 with h4 | ⟨p, hp, h4⟩
        · exact .inr ⟨q, by simp, h4⟩
        · exact .inr ⟨p, by simp [hp], h4⟩
    · rw [if_neg h]
      obtain ⟨h1, h2, h3, h4⟩ := fold_min hf L b hb fun p hp => hL p (by simp [hp])
      have : ¬ nbl n (rnm f q) < nbl n b := fun hh => h ((ltM_nbl hr hb).2 hh)
      refine ⟨h1, h2, fun p hp => ?_, ?_⟩
      · rcases List.mem_cons.1 hp with rfl | hp
        · omega
        · exact h3 p hp
      · rcases h4 with h4 | ⟨p, hp, h4⟩
        · exact .inl h4
        · exact .inr ⟨p, by simp [hp], h4⟩
/-- The map with number k is the least of its class. -/
def rep (n k : Nat) : Bool := decide (lsf (dg n n k) (prm n) = dg n n k)
theorem rep_iff {n k : Nat} (h1 : 1 ≤ n) (h5 : n ≤ 5) (hk : k < n ^ n) : rep n k = true ↔ ¬ ∃ j, j < k ∧ orbC n (dg n n j) (dg n n k) := by
  have hf := dg_ok h1 h5 k
  obtain ⟨a1, a2, a3, a4⟩ := fold_min hf (prm n) _ hf fun p hp => hp
  have a2 : nbl n (lsf (dg n n k) (prm n)) ≤ nbl n (dg n n k) := a2
  have a3 : ∀ p ∈ prm n, nbl n (lsf (dg n n k) (prm n)) ≤ nbl n (rnm (dg n n k) p) := a3
  have a4 : lsf (dg n n k) (prm n) = dg n n k ∨ ∃ p ∈ prm n, lsf (dg n n k) (prm n) = rnm (dg n n k) p := a4
  rw [nbl_at h1 hk] at a2
  unfold rep
  rw [decide_eq_true_iff]
  constructor
  · rintro h ⟨j, hj, ho⟩
    obtain ⟨p, hp, e⟩ := orbC_symm (dg_ok h1 h5 j) hf ho
    have := a3 p hp
    rw [h, e, nbl_at h1 hk, nbl_at h1 (by omega)] at this
    omega
  · intro h
    rcases a4 with e | ⟨p, hp, e⟩
    · exact e
    · have hr : Ok (rnm (dg n n k) p) n := rnm_ok hf (prm_ok h1 h5 hp) (prm_nd hp)
      have h2 := dg_nbl hr
      by_cases hlt : nbl n (rnm (dg n n k) p) < k
      · refine absurd ⟨_, hlt, ?_⟩ h
        rw [h2.2]
        exact orbC_symm hf hr ⟨p, hp, rfl⟩
      · rw [e]
        rw [e] at a2
        exact nbl_inj hr hf (by rw [nbl_at h1 hk]; omega)
/-- How many maps with numbers below x are the least of their classes. -/
def reps (n x : Nat) : Nat := ((List.range x).filter (rep n)).length
theorem reps_succ (n x : Nat) : reps n (x + 1) = reps n x + if rep n x = true then 1 else 0 := by
  unfold reps
  rw [List.range_succ, List.filter_append, List.length_append]
  by_cases h : rep n x = true <;> simp [h]
theorem reps_le (n x : Nat) : reps n x ≤ x := by
  have := List.length_filter_le (rep n) (List.range x)
  simpa [reps] using this
/-- Horner's way. -/
theorem nbl_take {n : Nat} {l : List Nat} {x : Nat} (h : x < l.length) : nbl n (l.take (x + 1)) = nbl n (l.take x) * n + l.getD x 0 := by
  have key : ∀ (a : List Nat) (b : Nat), nbl n (a ++ [b]) = nbl n a * n + b := fun a b => by
    induction a with
    | nil => simp [nbl]
    | cons c a ih =>
      simp only [List.cons_append, nbl, ih, List.length_append, List.length_cons, List.length_nil, Nat.pow_succ]
      rw [Nat.add_mul, Nat.mul_assoc]
      omega
  rw [List.take_succ_eq_append_getElem h, key]
  simp [List.getD_eq_getElem?_getD, h]
end Go.Proofs.YtpfapiiinkkcgaaGreat
