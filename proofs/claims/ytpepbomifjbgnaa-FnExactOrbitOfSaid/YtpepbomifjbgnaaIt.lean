/- Iterates of a map, powers, cyclic points, heights, least points of orbits: plain laws. -/
import Derived.Test.YtpepbomifjbgnaaMp
namespace Go.Kv
set_option linter.unusedVariables false
set_option linter.unusedSimpArgs false
/-- Where k steps lead a point. -/
def it (f : List Nat) : Nat → Nat → Nat
  | 0, p => p
  | k + 1, p => f.getD (it f k p) 0
theorem it_add (f : List Nat) (p : Nat) (a : Nat) : ∀ b, it f (a + b) p = it f b (it f a p)
  | 0 => rfl
  | b + 1 => by
    show f.getD (it f (a + b) p) 0 = _
    rw [it_add f p a b]; rfl
theorem it_lt {f : List Nat} {n p : Nat} (hf : Ok f n) (hp : p < n) : ∀ k, it f k p < n
  | 0 => hp
  | k + 1 => hf.get' _
theorem it_mul {f : List Nat} {p d : Nat} (h : it f d p = p) : ∀ k, it f (d * k) p = p
  | 0 => rfl
  | k + 1 => by rw [Nat.mul_succ, it_add, it_mul h k, h]
/-- The k-th power. -/
def itM (f : List Nat) (n k : Nat) : List Nat := (List.range n).map (it f k)
theorem itM_get {f : List Nat} {n k p : Nat} (hp : p < n) : (itM f n k).getD p 0 = it f k p := by simp [itM, List.getD_eq_getElem?_getD, hp]
theorem itM_ok {f : List Nat} {n : Nat} (hf : Ok f n) (k : Nat) : Ok (itM f n k) n := ⟨by simp [itM], hf.pos, hf.le, fun x hx => by
  simp only [itM, List.mem_map, List.mem_range] at hx
  obtain ⟨p, hp, rfl⟩ := hx
  exact it_lt hf hp k⟩
theorem itM_zero {f : List Nat} {n : Nat} : itM f n 0 = List.range n := by
  unfold itM
  conv => rhs; rw [← List.map_id (List.range n)]
  exact List.map_congr_left fun x _ => rfl
theorem itM_one {f : List Nat} {n : Nat} (hf : Ok f n) : itM f n 1 = f := by
  refine ext_getD (by simp [itM, hf.len]) fun i hi => ?_
  simp only [itM, List.length_map, List.length_range] at hi
  rw [itM_get hi]; rfl
theorem itM_mul {f : List Nat} {n : Nat} (hf : Ok f n) (a b : Nat) : mul (itM f n a) (itM f n b) = itM f n (a + b) := by
  refine ext_getD (by simp [itM]) fun i hi => ?_
  simp only [itM, mul_length, List.length_map, List.length_range] at hi
  rw [mul_get (by simpa [itM] using hi), itM_get hi, itM_get (it_lt hf hi a), itM_get hi, it_add]
/-- Whether a point comes back to itself. -/
def cyc (f : List Nat) (n p : Nat) : Bool := (List.range n).any fun k => decide (it f (k + 1) p = p)
theorem cyc_iff {f : List Nat} {n p : Nat} : cyc f n p = true ↔ ∃ d, 1 ≤ d ∧ d ≤ n ∧ it f d p = p := by
  simp only [cyc, List.any_eq_true, List.mem_range, decide_eq_true_eq]
  constructor
  · rintro ⟨k, hk, h⟩; exact ⟨k + 1, by omega, by omega, h⟩
  · rintro ⟨d, h1, h2, h⟩; exact ⟨d - 1, by omega, by rw [Nat.sub_add_cancel h1]; exact h⟩
theorem nodup_len : ∀ (n : Nat) (l : List Nat), l.Nodup → (∀ x ∈ l, x < n) → l.length ≤ n
  | 0, l, _, h => by
    cases l with
    | nil => simp
    | cons a l => exact absurd (h a (by simp)) (by omega)
  | n + 1, l, hd, h => by
    by_cases hn : n ∈ l
    · have h1 := nodup_len n (l.erase n) (hd.erase n) fun x hx => by
        have := (List.Nodup.mem_erase_iff hd).1 hx
        have := h x this.2
        omega
      rw [List.length_erase_of_mem hn] at h1
      omega
    · have := nodup_len n l hd fun x hx => by
        have := h x hx
        have : x ≠ n := fun e => hn (e ▸ hx)
        omega
      omega
/-- Two of the first n + 1 iterates are the same. -/
theorem it_twice {f : List Nat} {n p : Nat} (hf : Ok f n) (hp : p < n) : ∃ i j, i < j ∧ j ≤ n ∧ it f i p = it f j p := by
  refine Classical.byContradiction fun hno => ?_
  have hnd : ((List.range (n + 1)).map fun k => it f k p).Nodup := by
    rw [List.Nodup, List.pairwise_map, List.pairwise_iff_getElem]
    intro i j hi hj hij he
    simp only [List.length_range] at hi hj
    simp only [List.getElem_range] at he
    exact hno ⟨i, j, hij, by omega, he⟩
  have := nodup_len n _ hnd fun x hx => by
    simp only [List.mem_map, List.mem_range] at hx
    obtain ⟨k, _, rfl⟩ := hx
    exact it_lt hf hp k
  simp at this
  omega
theorem cyc_late {f : List Nat} {n p : Nat} (hf : Ok f n) (hp : p < n) {k : Nat} (hk : n ≤ k + 1) : cyc f n (it f k p) = true := by
  obtain ⟨i, j, hij, hj, he⟩ := it_twice hf hp
  refine cyc_iff.2 ⟨j - i, by omega, by omega, ?_⟩
  obtain ⟨r, rfl⟩ : ∃ r, k = i + r := ⟨k - i, by omega⟩
  rw [it_add f p i r, ← it_add f _ r (j - i), Nat.add_comm r, it_add f _ (j - i) r, ← it_add f p i (j - i), show i + (j - i) = j by omega, ← he]
theorem cyc_step {f : List Nat} {n p : Nat} (h : cyc f n p = true) (k : Nat) : cyc f n (it f k p) = true := by
  obtain ⟨d, h1, h2, h3⟩ := cyc_iff.1 h
  refine cyc_iff.2 ⟨d, h1, h2, ?_⟩
  rw [← it_add, Nat.add_comm, it_add, h3]
theorem dvd60 : ∀ d, 1 ≤ d → d ≤ 5 → ∃ k, 60 = d * k := by
  intro d h1 h2
  have : d = 1 ∨ d = 2 ∨ d = 3 ∨ d = 4 ∨ d = 5 := by omega
  rcases this with rfl | rfl | rfl | rfl | rfl
  · exact ⟨60, rfl⟩
  · exact ⟨30, rfl⟩
  · exact ⟨20, rfl⟩
  · exact ⟨15, rfl⟩
  · exact ⟨12, rfl⟩
theorem cyc_60 {f : List Nat} {n p : Nat} (hf : Ok f n) (h : cyc f n p = true) : it f 60 p = p := by
  obtain ⟨d, h1, h2, h3⟩ := cyc_iff.1 h
  obtain ⟨k, hk⟩ := dvd60 d h1 (by have := hf.le; omega)
  rw [hk]; exact it_mul h3 k
/-- The points of the image of the sixtieth power are the cyclic ones. -/
theorem cyc_image {f : List Nat} {n p : Nat} (hf : Ok f n) (hp : p < n) : cyc f n p = true ↔ p ∈ itM f n 60 := by
  simp only [itM, List.mem_map, List.mem_range]
  constructor
  · exact fun h => ⟨p, hp, cyc_60 hf h⟩
  · rintro ⟨x, hx, rfl⟩
    exact cyc_late hf hx (by have := hf.le; omega)
/-- How many steps lead to a cyclic point. -/
def hgt (f : List Nat) (n p : Nat) : Nat := (List.range 61).findIdx fun k => cyc f n (it f k p)
theorem hgt_eq {f : List Nat} {n p x : Nat} (hx : x ≤ 60) (h : cyc f n (it f x p) = true) (hm : ∀ j, j < x → cyc f n (it f j p) = false) : hgt f n p = x := by
  rw [hgt, List.findIdx_eq (by simp; omega)]
  refine ⟨by simpa using h, fun j hj => ?_⟩
  simpa using hm j hj
/-- v is the least point that the steps from p meet. -/
def IsMin (f : List Nat) (p v : Nat) : Prop := (∃ k, v = it f k p) ∧ ∀ k, v ≤ it f k p
theorem IsMin.uniq {f : List Nat} {p v w : Nat} (h : IsMin f p v) (h' : IsMin f p w) : v = w := by
  obtain ⟨⟨a, ha⟩, hb⟩ := h
  obtain ⟨⟨c, hc⟩, hd⟩ := h'
  have := hb c
  have := hd a
  omega
theorem IsMin.move {f : List Nat} {n p j v : Nat} (hc : cyc f n p = true) (h : IsMin f (it f j p) v) : IsMin f p v := by
  obtain ⟨d, h1, h2, h3⟩ := cyc_iff.1 hc
  obtain ⟨⟨a, ha⟩, hb⟩ := h
  refine ⟨⟨j + a, by rw [it_add]; exact ha⟩, fun k => ?_⟩
  have e : it f k p = it f (d * j - j + k) (it f j p) := by
    have hj : j ≤ d * j := by
      have := Nat.mul_le_mul_right j h1
      omega
    rw [← it_add, ← Nat.add_assoc, show j + (d * j - j) = d * j by omega, it_add, it_mul h3]
  rw [e]; exact hb _
/-- The least of the first m iterates. -/
def lo (f : List Nat) (p : Nat) : Nat → Nat
  | 0 => p
  | m + 1 => min (lo f p m) (it f (m + 1) p)
theorem lo_mem (f : List Nat) (p : Nat) : ∀ m, ∃ k, k ≤ m ∧ lo f p m = it f k p
  | 0 => ⟨0, Nat.le_refl _, rfl⟩
  | m + 1 => by
    obtain ⟨k, hk, h⟩ := lo_mem f p m
    simp only [lo]
    by_cases hle : lo f p m ≤ it f (m + 1) p
    · exact ⟨k, by omega, by rw [Nat.min_eq_left hle]; exact h⟩
    · exact ⟨m + 1, Nat.le_refl _, by rw [Nat.min_eq_right (by omega)]⟩
theorem lo_le (f : List Nat) (p : Nat) : ∀ m k, k ≤ m → lo f p m ≤ it f k p
  | 0, k, h => by
    obtain rfl : k = 0 := by omega
    exact Nat.le_refl _
  | m + 1, k, h => by
    simp only [lo]
    by_cases e : k = m + 1
    · subst e; exact Nat.min_le_right _ _
    · exact Nat.le_trans (Nat.min_le_left _ _) (lo_le f p m k (by omega))
/-- A whole round is enough. -/
theorem lo_round {f : List Nat} {p m : Nat} (h : it f (m + 1) p = p) : IsMin f p (lo f p m) := by
  refine ⟨?_, fun k => ?_⟩
  · obtain ⟨k, _, h⟩ := lo_mem f p m
    exact ⟨k, h⟩
  · have e : it f k p = it f (k % (m + 1)) p := by
      have : k = (m + 1) * (k / (m + 1)) + k % (m + 1) := (Nat.div_add_mod k (m + 1)).symm
      conv => lhs; rw [this, it_add, it_mul h]
    rw [e]
    exact lo_le f p m _ (by have := Nat.mod_lt k (show 0 < m + 1 by omega); omega)
/-- The least point of the orbit of a cyclic point. -/
def mino (f : List Nat) (p : Nat) : Nat := lo f p 59
theorem mino_eq {f : List Nat} {n p v : Nat} (hf : Ok f n) (hc : cyc f n p = true) (h : IsMin f p v) : v = mino f p := h.uniq (lo_round (cyc_60 hf hc))
/-! ### Sets as bits -/
/-- The points of a list, as the bits of a number. -/
def sb : List Nat → Nat
  | [] => 0
  | p :: l => sb l ||| 2 ^ p
theorem sb_snoc : ∀ (l : List Nat) (p : Nat), sb (l ++ [p]) = sb l ||| 2 ^ p
  | [], p => by simp [sb]
  | a :: l, p => by simp only [List.cons_append, sb, sb_snoc l p, Nat.or_assoc, Nat.or_comm (2 ^ p)]
theorem sb_test : ∀ (l : List Nat) (q : Nat), (sb l).testBit q = decide (q ∈ l)
  | [], q => by simp [sb]
  | a :: l, q => by
    simp only [sb, Nat.testBit_or, sb_test l q, Nat.testBit_two_pow, List.mem_cons]
    by_cases h : a = q
    · simp [h]
    · have : ¬ q = a := fun e => h e.symm
      simp [h, this]
theorem sb_lt {n : Nat} : ∀ {l : List Nat}, (∀ x ∈ l, x < n) → sb l < 2 ^ n
  | [], _ => by simp [sb]; exact Nat.pow_pos (by omega)
  | a :: l, h => Nat.or_lt_two_pow (sb_lt fun x hx => h x (by simp [hx])) (Nat.pow_lt_pow_right (by omega) (h a (by simp)))
end Go.Kv
