/- Several texts of this session as one. -/
import Derived.Test.YtpepbomifjbgnaaG1
import Derived.Test.YtpepbomifjbgnaaCb
import Derived.Test.YtpepbomifjbgnaaFC
import Derived.Test.YtpepbomifjbgnaaG3
import Derived.Test.YtpepbomifjbgnaaG2
section
/- Iterates of a map, powers, cyclic points, heights, least points of orbits: plain laws. -/
namespace Go.Kv
set_option linter.unusedVariables false
set_option linter.unusedSimpArgs false
/-- Where k steps lead a point. -/
def it (f : List Nat) : Nat → Nat → Nat
  | 0, p => p
  | k + 1, p => f.getD (it f k p) 0
theorem it_add (f : List Nat) (p : Nat) (a : Nat) : ∀ b, it f (a + b) p = it f b (it f a p)
  | 0 => rfl
  | b + 1 => by
    show f.getD (it f (a + b) p) 0 = _
    rw [it_add f p a b]; rfl
theorem it_lt {f : List Nat} {n p : Nat} (hf : Ok f n) (hp : p < n) : ∀ k, it f k p < n
  | 0 => hp
  | k + 1 => hf.get' _
theorem it_mul {f : List Nat} {p d : Nat} (h : it f d p = p) : ∀ k, it f (d * k) p = p
  | 0 => rfl
  | k + 1 => by rw [Nat.mul_succ, it_add, it_mul h k, h]
/-- The k-th power. -/
def itM (f : List Nat) (n k : Nat) : List Nat := (List.range n).map (it f k)
theorem itM_get {f : List Nat} {n k p : Nat} (hp : p < n) : (itM f n k).getD p 0 = it f k p := by simp [itM, List.getD_eq_getElem?_getD, hp]
theorem itM_ok {f : List Nat} {n : Nat} (hf : Ok f n) (k : Nat) : Ok (itM f n k) n := ⟨by simp [itM], hf.pos, hf.le, fun x hx => by
  simp only [itM, List.mem_map, List.mem_range] at hx
  obtain ⟨p, hp, rfl⟩ := hx
  exact it_lt hf hp k⟩
theorem itM_zero {f : List Nat} {n : Nat} : itM f n 0 = List.range n := by
  unfold itM
  conv => rhs; rw [← List.map_id (List.range n)]
  exact List.map_congr_left fun x _ => rfl
theorem itM_one {f : List Nat} {n : Nat} (hf : Ok f n) : itM f n 1 = f := by
  refine ext_getD (by simp [itM, hf.len]) fun i hi => ?_
  simp only [itM, List.length_map, List.length_range] at hi
  rw [itM_get hi]; rfl
theorem itM_mul {f : List Nat} {n : Nat} (hf : Ok f n) (a b : Nat) : mul (itM f n a) (itM f n b) = itM f n (a + b) := by
  refine ext_getD (by simp [itM]) fun i hi => ?_
  simp only [itM, mul_length, List.length_map, List.length_range] at hi
  rw [mul_get (by simpa [itM] using hi), itM_get hi, itM_get (it_lt hf hi a), itM_get hi, it_add]
/-- Whether a point comes back to itself. -/
def cyc (f : List Nat) (n p : Nat) : Bool := (List.range n).any fun k => decide (it f (k + 1) p = p)
theorem cyc_iff {f : List Nat} {n p : Nat} : cyc f n p = true ↔ ∃ d, 1 ≤ d ∧ d ≤ n ∧ it f d p = p := by
  simp only [cyc, List.any_eq_true, List.mem_range, decide_eq_true_eq]
  constructor
  · rintro ⟨k, hk, h⟩; exact ⟨k + 1, by omega, by omega, h⟩
  · rintro ⟨d, h1, h2, h⟩; exact ⟨d - 1, by omega, by rw [Nat.sub_add_cancel h1]; exact h⟩
theorem nodup_len : ∀ (n : Nat) (l : List Nat), l.Nodup → (∀ x ∈ l, x < n) → l.length ≤ n
  | 0, l, _, h => by
    cases l with
    | nil => simp
    | cons a l => exact absurd (h a (by simp)) (by omega)
  | n + 1, l, hd, h => by
    by_cases hn : n ∈ l
    · have h1 := nodup_len n (l.erase n) (hd.erase n) fun x hx => by
        have := (List.Nodup.mem_erase_iff hd).1 hx
        have := h x this.2
        omega
      rw [List.length_erase_of_mem hn] at h1
      omega
    · have := nodup_len n l hd fun x hx => by
        have := h x hx
        have : x ≠ n := fun e => hn (e ▸ hx)
        omega
      omega
/-- Two of the first n + 1 iterates are the same. -/
theorem it_twice {f : List Nat} {n p : Nat} (hf : Ok f n) (hp : p < n) : ∃ i j, i < j ∧ j ≤ n ∧ it f i p = it f j p := by
  refine Classical.byContradiction fun hno => ?_
  have hnd : ((List.range (n + 1)).map fun k => it f k p).Nodup := by
    rw [List.Nodup, List.pairwise_map, List.pairwise_iff_getElem]
    intro i j hi hj hij he
    simp only [List.length_range] at hi hj
    simp only [List.getElem_range] at he
    exact hno ⟨i, j, hij, by omega, he⟩
  have := nodup_len n _ hnd fun x hx => by
    simp only [List.mem_map, List.mem_range] at hx
    obtain ⟨k, _, rfl⟩ := hx
    exact it_lt hf hp k
  simp at this
  omega
theorem cyc_late {f : List Nat} {n p : Nat} (hf : Ok f n) (hp : p < n) {k : Nat} (hk : n ≤ k + 1) : cyc f n (it f k p) = true := by
  obtain ⟨i, j, hij, hj, he⟩ := it_twice hf hp
  refine cyc_iff.2 ⟨j - i, by omega, by omega, ?_⟩
  obtain ⟨r, rfl⟩ : ∃ r, k = i + r := ⟨k - i, by omega⟩
  rw [it_add f p i r, ← it_add f _ r (j - i), Nat.add_comm r, it_add f _ (j - i) r, ← it_add f p i (j - i), show i + (j - i) = j by omega, ← he]
theorem cyc_step {f : List Nat} {n p : Nat} (h : cyc f n p = true) (k : Nat) : cyc f n (it f k p) = true := by
  obtain ⟨d, h1, h2, h3⟩ := cyc_iff.1 h
  refine cyc_iff.2 ⟨d, h1, h2, ?_⟩
  rw [← it_add, Nat.add_comm, it_add, h3]
theorem dvd60 : ∀ d, 1 ≤ d → d ≤ 5 → ∃ k, 60 = d * k := by
  intro d h1 h2
  have : d = 1 ∨ d = 2 ∨ d = 3 ∨ d = 4 ∨ d = 5 := by omega
  rcases this with rfl | rfl | rfl | rfl | rfl
  · exact ⟨60, rfl⟩
  · exact ⟨30, rfl⟩
  · exact ⟨20, rfl⟩
  · exact ⟨15, rfl⟩
  · exact ⟨12, rfl⟩
theorem cyc_60 {f : List Nat} {n p : Nat} (hf : Ok f n) (h : cyc f n p = true) : it f 60 p = p := by
  obtain ⟨d, h1, h2, h3⟩ := cyc_iff.1 h
  obtain ⟨k, hk⟩ := dvd60 d h1 (by have := hf.le; omega)
  rw [hk]; exact it_mul h3 k
/-- The points of the image of the sixtieth power are the cyclic ones. -/
theorem cyc_image {f : List Nat} {n p : Nat} (hf : Ok f n) (hp : p < n) : cyc f n p = true ↔ p ∈ itM f n 60 := by
  simp only [itM, List.mem_map, List.mem_range]
  constructor
  · exact fun h => ⟨p, hp, cyc_60 hf h⟩
  · rintro ⟨x, hx, rfl⟩
    exact cyc_late hf hx (by have := hf.le; omega)
/-- How many steps lead to a cyclic point. -/
def hgt (f : List Nat) (n p : Nat) : Nat := (List.range 61).findIdx fun k => cyc f n (it f k p)
theorem hgt_eq {f : List Nat} {n p x : Nat} (hx : x ≤ 60) (h : cyc f n (it f x p) = true) (hm : ∀ j, j < x → cyc f n (it f j p) = false) : hgt f n p = x := by
  rw [hgt, List.findIdx_eq (by simp; omega)]
  refine ⟨by simpa using h, fun j hj => ?_⟩
  simpa using hm j hj
/-- v is the least point that the steps from p meet. -/
def IsMin (f : List Nat) (p v : Nat) : Prop := (∃ k, v = it f k p) ∧ ∀ k, v ≤ it f k p
theorem IsMin.uniq {f : List Nat} {p v w : Nat} (h : IsMin f p v) (h' : IsMin f p w) : v = w := by
  obtain ⟨⟨a, ha⟩, hb⟩ := h
  obtain ⟨⟨c, hc⟩, hd⟩ := h'
  have := hb c
  have := hd a
  omega
theorem IsMin.move {f : List Nat} {n p j v : Nat} (hc : cyc f n p = true) (h : IsMin f (it f j p) v) : IsMin f p v := by
  obtain ⟨d, h1, h2, h3⟩ := cyc_iff.1 hc
  obtain ⟨⟨a, ha⟩, hb⟩ := h
  refine ⟨⟨j + a, by rw [it_add]; exact ha⟩, fun k => ?_⟩
  have e : it f k p = it f (d * j - j + k) (it f j p) := by
    have hj : j ≤ d * j := by
      have := Nat.mul_le_mul_right j h1
      omega
    rw [← it_add, ← Nat.add_assoc, show j + (d * j - j) = d * j by omega, it_add, it_mul h3]
  rw [e]; exact hb _
/-- The least of the first m iterates. -/
def lo (f : List Nat) (p : Nat) : Nat → Nat
  | 0 => p
  | m + 1 => min (lo f p m) (it f (m + 1) p)
theorem lo_mem (f : List Nat) (p : Nat) : ∀ m, ∃ k, k ≤ m ∧ lo f p m = it f k p
  | 0 => ⟨0, Nat.le_refl _, rfl⟩
  | m + 1 => by
    obtain ⟨k, hk, h⟩ := lo_mem f p m
    simp only [lo]
    by_cases hle : lo f p m ≤ it f (m + 1) p
    · exact ⟨k, by omega, by rw [Nat.min_eq_left hle]; exact h⟩
    · exact ⟨m + 1, Nat.le_refl _, by rw [Nat.min_eq_right (by omega)]⟩
theorem lo_le (f : List Nat) (p : Nat) : ∀ m k, k ≤ m → lo f p m ≤ it f k p
  | 0, k, h => by
    obtain rfl : k = 0 := by omega
    exact Nat.le_refl _
  | m + 1, k, h => by
    simp only [lo]
    by_cases e : k = m + 1
    · subst e; exact Nat.min_le_right _ _
    · exact Nat.le_trans (Nat.min_le_left _ _) (lo_le f p m k (by omega))
/-- A whole round is enough. -/
theorem lo_round {f : List Nat} {p m : Nat} (h : it f (m + 1) p = p) : IsMin f p (lo f p m) := by
  refine ⟨?_, fun k => ?_⟩
  · obtain ⟨k, _, h⟩ := lo_mem f p m
    exact ⟨k, h⟩
  · have e : it f k p = it f (k % (m + 1)) p := by
      have : k = (m + 1) * (k / (m + 1)) + k % (m + 1) := (Nat.div_add_mod k (m + 1)).symm
      conv => lhs; rw [this, it_add, it_mul h]
    rw [e]
    exact lo_le f p m _ (by have := Nat.mod_lt k (show 0 < m + 1 by omega); omega)
/-- The least point of the orbit of a cyclic point. -/
def mino (f : List Nat) (p : Nat) : Nat := lo f p 59
theorem mino_eq {f : List Nat} {n p v : Nat} (hf : Ok f n) (hc : cyc f n p = true) (h : IsMin f p v) : v = mino f p := h.uniq (lo_round (cyc_60 hf hc))
/-! ### Sets as bits -/
/-- The points of a list, as the bits of a number. -/
def sb : List Nat → Nat
  | [] => 0
  | p :: l => sb l ||| 2 ^ p
theorem sb_snoc : ∀ (l : List Nat) (p : Nat), sb (l ++ [p]) = sb l ||| 2 ^ p
  | [], p => by simp [sb]
  | a :: l, p => by simp only [List.cons_append, sb, sb_snoc l p, Nat.or_assoc, Nat.or_comm (2 ^ p)]
theorem sb_test : ∀ (l : List Nat) (q : Nat), (sb l).testBit q = decide (q ∈ l)
  | [], q => by simp [sb]
  | a :: l, q => by
    simp only [sb, Nat.testBit_or, sb_test l q, Nat.testBit_two_pow, List.mem_cons]
    by_cases h : a = q
    · simp [h]
    · have : ¬ q = a := fun e => h e.symm
      simp [h, this]
theorem sb_lt {n : Nat} : ∀ {l : List Nat}, (∀ x ∈ l, x < n) → sb l < 2 ^ n
  | [], _ => by simp [sb]; exact Nat.pow_pos (by omega)
  | a :: l, h => Nat.or_lt_two_pow (sb_lt fun x hx => h x (by simp [hx])) (Nat.pow_lt_pow_right (by omega) (h a (by simp)))
end Go.Kv
end
section
/- Maps: cyclic points, ends, cycles, powers, images. -/
namespace Go.Proofs.Ytpepbomifjbgnaa
open Go.Kv
set_option maxRecDepth 100000
end Go.Proofs.Ytpepbomifjbgnaa
namespace Go.Proofs.Ytpepbomifjbgnaa
open Go.Kv
set_option linter.unusedVariables false
set_option linter.unusedSimpArgs false
attribute [local irreducible] ACall PCall KL
/-- The first steps from p. -/
def its (f : List Nat) (p m : Nat) : List Int := (List.range m).map fun k => (it f k p : Int)
@[simp] theorem its_length (f : List Nat) (p m : Nat) : (its f p m).length = m := by simp [its]
theorem its_succ (f : List Nat) (p m : Nat) : its f p m ++ [(it f m p : Int)] = its f p (m + 1) := by simp [its, List.range_succ]
/-- The least of the first ones. -/
def mnl (l : List Int) : Nat → Int
  | 0 => l.getD 0 0
  | x + 1 => min (mnl l x) (l.getD (x + 1) 0)
theorem mnl_its (f : List Nat) (p m : Nat) : ∀ x, x < m → mnl (its f p m) x = (lo f p x : Int)
  | 0, h => by simp [mnl, its, lo, h, it]
  | x + 1, h => by
    have e : (its f p m).getD (x + 1) 0 = (it f (x + 1) p : Int) := by simp [its, h]
    simp only [mnl, lo, mnl_its f p m x (by omega), e]
    omega
end Go.Proofs.Ytpepbomifjbgnaa
end
section
/- Sorting of at most twelve numbers; what is left when neighbours that are equal are one. -/
namespace Go.Proofs.Ytpepbomifjbgnaa
open Go.Kv
set_option maxRecDepth 100000
/- cmp.isNaN[int64] -/
def k180 : KC := (.seq (.ops [⟨(some 2), none, .mv (.c (.bool false))⟩])
  (.seq (.ops [⟨(some 3), none, .mv (.t 0)⟩, ⟨(some 4), none, .mv (.t 0)⟩, ⟨(some 5), none, .bin .neq (.t 3) (.t 4)⟩, ⟨(some 2), none, .mv (.t 5)⟩])
  .ret))
theorem e180 {args : List PV} {σ : Heap} {K : PV → Heap → Prop} (hl : args.length ≤ 6) (h : Wf σ → (∀ a ∈ args, PV.upto σ.length a) → vc (mkCfg Try.prog mixed [] 6 σ.length) k180 (FinK σ.length [.t 2] K) (argEnv 0 args) σ) : ACall Try.prog 180 args σ K :=
  ACall_enter (C := mkCfg Try.prog mixed [] 6 σ.length) (c := Try.f180.body.getD .skip) Try.func180 (by kernel_rfl) (by kernel_rfl) (by kernel_rfl) rfl hl (by kernel_rfl) (by kernel_rfl) h
/- cmp.Less[int64] -/
def k169 : KC := (.seq (.ops [⟨(some 4), none, .mv (.c (.bool false))⟩])
  (.seq (.ops [⟨(some 5), none, .mv (.t 0)⟩, ⟨(some 6), none, .call (.c (.fn (.func 180) [] [])) [(.t 5)]⟩, ⟨(some 7), none, .mv (.t 6)⟩, ⟨(some 8), some (7, true), .mv (.t 1)⟩, ⟨(some 9), some (7, true), .call (.c (.fn (.func 180) [] [])) [(.t 8)]⟩, ⟨(some 10), some (7, true), .not (.t 9)⟩, ⟨(some 11), none, .pick (.t 7) (.t 10) (.c (.bool false))⟩, ⟨(some 12), none, .mv (.t 11)⟩, ⟨(some 13), some (12, false), .mv (.t 0)⟩, ⟨(some 14), some (12, false), .mv (.t 1)⟩, ⟨(some 15), some (12, false), .bin .lss (.t 13) (.t 14)⟩, ⟨(some 16), none, .pick (.t 12) (.c (.bool true)) (.t 15)⟩, ⟨(some 4), none, .mv (.t 16)⟩])
  .ret))
theorem e169 {args : List PV} {σ : Heap} {K : PV → Heap → Prop} (hl : args.length ≤ 17) (h : Wf σ → (∀ a ∈ args, PV.upto σ.length a) → vc (mkCfg Try.prog mixed [] 17 σ.length) k169 (FinK σ.length [.t 4] K) (argEnv 0 args) σ) : ACall Try.prog 169 args σ K :=
  ACall_enter (C := mkCfg Try.prog mixed [] 17 σ.length) (c := Try.f169.body.getD .skip) Try.func169 (by kernel_rfl) (by kernel_rfl) (by kernel_rfl) rfl hl (by kernel_rfl) (by kernel_rfl) h
/- slices.insertionSortOrdered[int64] -/
/- live [0, 1, 2, 6, 7, 20, 21, 22, 23, 24, 25, 26, 27, 28, 29] -/
def k163_b0 : KC := (.seq (.seq (.draw [⟨(some 16), none, .mv (.t 7)⟩, ⟨(some 17), none, .mv (.t 1)⟩, ⟨(some 18), none, .bin .gtr (.t 16) (.t 17)⟩, ⟨(some 19), none, .mv (.t 18)⟩, ⟨(some 20), some (19, true), .mv (.t 0)⟩, ⟨(some 21), some (19, true), .mv (.t 7)⟩, ⟨(some 22), some (19, true), .idxS 1 (.t 20) (.t 21)⟩, ⟨(some 23), some (19, true), .load false 1 (.t 22)⟩, ⟨(some 24), some (19, true), .mv (.t 0)⟩, ⟨(some 25), some (19, true), .mv (.t 7)⟩, ⟨(some 26), some (19, true), .bin .sub (.t 25) (.c (.int .i64 1))⟩, ⟨(some 27), some (19, true), .idxS 1 (.t 24) (.t 26)⟩, ⟨(some 28), some (19, true), .load false 1 (.t 27)⟩, ⟨(some 29), some (19, true), .pcall (.c (.fn (.func 169) [] [])) [(.t 23), (.t 28)]⟩, ⟨(some 30), none, .pick (.t 19) (.t 29) (.c (.bool false))⟩])
  (.cond (.t 30) .skip (.exit 2)))
  (.seq (.block 3 (.draw [⟨(some 33), none, .mv (.t 0)⟩, ⟨(some 34), none, .mv (.t 7)⟩, ⟨(some 35), none, .mv (.t 0)⟩, ⟨(some 36), none, .mv (.t 7)⟩, ⟨(some 37), none, .bin .sub (.t 36) (.c (.int .i64 1))⟩, ⟨(some 38), none, .mv (.t 0)⟩, ⟨(some 39), none, .mv (.t 7)⟩, ⟨(some 40), none, .bin .sub (.t 39) (.c (.int .i64 1))⟩, ⟨(some 41), none, .idxS 1 (.t 38) (.t 40)⟩, ⟨(some 42), none, .load false 1 (.t 41)⟩, ⟨(some 43), none, .mv (.t 0)⟩, ⟨(some 44), none, .mv (.t 7)⟩, ⟨(some 45), none, .idxS 1 (.t 43) (.t 44)⟩, ⟨(some 46), none, .load false 1 (.t 45)⟩, ⟨(some 47), none, .idxS 1 (.t 33) (.t 34)⟩, ⟨none, none, .store 1 (.t 47) (.t 42)⟩, ⟨(some 48), none, .idxS 1 (.t 35) (.t 37)⟩, ⟨none, none, .store 1 (.t 48) (.t 46)⟩]))
  (.ops [⟨(some 31), none, .mv (.t 7)⟩, ⟨(some 32), none, .bin .sub (.t 31) (.c (.int .i64 1))⟩, ⟨(some 7), none, .mv (.t 32)⟩])))
/- live [0, 1, 2, 6, 20, 21, 22, 23, 24, 25, 26, 27, 28, 29] -/
def k163_b1 : KC := (.seq (.seq (.ops [⟨(some 10), none, .mv (.t 6)⟩, ⟨(some 11), none, .mv (.t 2)⟩, ⟨(some 12), none, .bin .lss (.t 10) (.t 11)⟩])
  (.cond (.t 12) .skip (.exit 0)))
  (.seq (.block 1 (.seq (.ops [⟨(some 15), none, .mv (.t 6)⟩, ⟨(some 7), none, .mv (.t 15)⟩])
  (.block 2 (.loop k163_b0))))
  (.ops [⟨(some 13), none, .mv (.t 6)⟩, ⟨(some 14), none, .bin .add (.t 13) (.c (.int .i64 1))⟩, ⟨(some 6), none, .mv (.t 14)⟩])))
def k163 : KC := (.seq (.ops [⟨(some 8), none, .mv (.t 1)⟩, ⟨(some 9), none, .bin .add (.t 8) (.c (.int .i64 1))⟩, ⟨(some 6), none, .mv (.t 9)⟩])
  (.block 0 (.loop k163_b1)))
theorem e163 {args : List PV} {σ : Heap} {K : PV → Heap → Prop} (hl : args.length ≤ 49) (h : Wf σ → (∀ a ∈ args, PV.upto σ.length a) → vc (mkCfg Try.prog mixed [] 49 σ.length) k163 (FinK σ.length [] K) (argEnv 0 args) σ) : ACall Try.prog 163 args σ K :=
  ACall_enter (C := mkCfg Try.prog mixed [] 49 σ.length) (c := Try.f163.body.getD .skip) Try.func163 (by kernel_rfl) (by kernel_rfl) (by kernel_rfl) rfl hl (by kernel_rfl) (by kernel_rfl) h
/- slices.pdqsortOrdered[int64] -/
/- live [0, 1, 2, 3, 8, 9, 63, 66, 67, 76, 77, 78, 79, 80, 81, 82, 83, 84, 85, 86] -/
def k136_b0 : KC := (.block 1 (.seq (.ops [⟨(some 19), none, .mv (.t 2)⟩, ⟨(some 20), none, .mv (.t 1)⟩, ⟨(some 21), none, .bin .sub (.t 19) (.t 20)⟩, ⟨(some 10), none, .mv (.t 21)⟩])
  (.seq (.seq (.ops [⟨(some 22), none, .mv (.t 10)⟩, ⟨(some 23), none, .bin .leq (.t 22) (.c (.int .i64 12))⟩])
  (.cond (.t 23) (.seq (.ops [⟨(some 24), none, .mv (.t 0)⟩, ⟨(some 25), none, .mv (.t 1)⟩, ⟨(some 26), none, .mv (.t 2)⟩, ⟨(some 27), none, .call (.c (.fn (.func 163) [] [])) [(.t 24), (.t 25), (.t 26)]⟩])
  .ret) .skip))
  (.seq (.seq (.ops [⟨(some 28), none, .mv (.t 3)⟩, ⟨(some 29), none, .bin .eql (.t 28) (.c (.int .i64 0))⟩])
  (.cond (.t 29) (.seq (.ops [⟨(some 30), none, .mv (.t 0)⟩, ⟨(some 31), none, .mv (.t 1)⟩, ⟨(some 32), none, .mv (.t 2)⟩, ⟨(some 33), none, .call (.c (.fn (.func 164) [] [])) [(.t 30), (.t 31), (.t 32)]⟩])
  .ret) .skip))
  (.seq (.seq (.ops [⟨(some 34), none, .mv (.t 8)⟩, ⟨(some 35), none, .not (.t 34)⟩])
  (.cond (.t 35) (.seq (.ops [⟨(some 36), none, .mv (.t 0)⟩, ⟨(some 37), none, .mv (.t 1)⟩, ⟨(some 38), none, .mv (.t 2)⟩, ⟨(some 39), none, .call (.c (.fn (.func 165) [] [])) [(.t 36), (.t 37), (.t 38)]⟩])
  (.ops [⟨(some 40), none, .mv (.t 3)⟩, ⟨(some 41), none, .bin .sub (.t 40) (.c (.int .i64 1))⟩, ⟨(some 3), none, .mv (.t 41)⟩])) .skip))
  (.seq (.ops [⟨(some 43), none, .mv (.t 0)⟩, ⟨(some 44), none, .mv (.t 1)⟩, ⟨(some 45), none, .mv (.t 2)⟩, ⟨(some 46), none, .call (.c (.fn (.func 166) [] [])) [(.t 43), (.t 44), (.t 45)]⟩, ⟨(some 42), none, .mv (.t 46)⟩, ⟨(some 47), none, .extr 0 (.t 42)⟩, ⟨(some 48), none, .extr 1 (.t 42)⟩, ⟨(some 11), none, .mv (.t 47)⟩, ⟨(some 12), none, .mv (.t 48)⟩])
  (.seq (.seq (.ops [⟨(some 49), none, .mv (.t 12)⟩, ⟨(some 50), none, .bin .eql (.t 49) (.c (.int .i64 2))⟩])
  (.cond (.t 50) (.seq (.ops [⟨(some 51), none, .mv (.t 0)⟩, ⟨(some 52), none, .mv (.t 1)⟩, ⟨(some 53), none, .mv (.t 2)⟩, ⟨(some 54), none, .call (.c (.fn (.func 167) [] [])) [(.t 51), (.t 52), (.t 53)]⟩])
  (.seq (.ops [⟨(some 55), none, .mv (.t 2)⟩, ⟨(some 56), none, .bin .sub (.t 55) (.c (.int .i64 1))⟩, ⟨(some 57), none, .mv (.t 11)⟩, ⟨(some 58), none, .mv (.t 1)⟩, ⟨(some 59), none, .bin .sub (.t 57) (.t 58)⟩, ⟨(some 60), none, .bin .sub (.t 56) (.t 59)⟩, ⟨(some 11), none, .mv (.t 60)⟩])
  (.ops [⟨(some 12), none, .mv (.c (.int .i64 1))⟩]))) .skip))
  (.seq (.seq (.ops [⟨(some 61), none, .mv (.t 8)⟩, ⟨(some 62), none, .mv (.t 61)⟩, ⟨(some 63), some (62, true), .mv (.t 9)⟩, ⟨(some 64), none, .pick (.t 62) (.t 63) (.c (.bool false))⟩, ⟨(some 65), none, .mv (.t 64)⟩, ⟨(some 66), some (65, true), .mv (.t 12)⟩, ⟨(some 67), some (65, true), .bin .eql (.t 66) (.c (.int .i64 1))⟩, ⟨(some 68), none, .pick (.t 65) (.t 67) (.c (.bool false))⟩])
  (.cond (.t 68) (.seq (.ops [⟨(some 69), none, .mv (.t 0)⟩, ⟨(some 70), none, .mv (.t 1)⟩, ⟨(some 71), none, .mv (.t 2)⟩, ⟨(some 72), none, .call (.c (.fn (.func 168) [] [])) [(.t 69), (.t 70), (.t 71)]⟩])
  (.cond (.t 72) .ret .skip)) .skip))
  (.seq (.seq (.draw [⟨(some 73), none, .mv (.t 1)⟩, ⟨(some 74), none, .bin .gtr (.t 73) (.c (.int .i64 0))⟩, ⟨(some 75), none, .mv (.t 74)⟩, ⟨(some 76), some (75, true), .mv (.t 0)⟩, ⟨(some 77), some (75, true), .mv (.t 1)⟩, ⟨(some 78), some (75, true), .bin .sub (.t 77) (.c (.int .i64 1))⟩, ⟨(some 79), some (75, true), .idxS 1 (.t 76) (.t 78)⟩, ⟨(some 80), some (75, true), .load false 1 (.t 79)⟩, ⟨(some 81), some (75, true), .mv (.t 0)⟩, ⟨(some 82), some (75, true), .mv (.t 11)⟩, ⟨(some 83), some (75, true), .idxS 1 (.t 81) (.t 82)⟩, ⟨(some 84), some (75, true), .load false 1 (.t 83)⟩, ⟨(some 85), some (75, true), .pcall (.c (.fn (.func 169) [] [])) [(.t 80), (.t 84)]⟩, ⟨(some 86), some (75, true), .not (.t 85)⟩, ⟨(some 87), none, .pick (.t 75) (.t 86) (.c (.bool false))⟩])
  (.cond (.t 87) (.seq (.ops [⟨(some 88), none, .mv (.t 0)⟩, ⟨(some 89), none, .mv (.t 1)⟩, ⟨(some 90), none, .mv (.t 2)⟩, ⟨(some 91), none, .mv (.t 11)⟩, ⟨(some 92), none, .call (.c (.fn (.func 170) [] [])) [(.t 88), (.t 89), (.t 90), (.t 91)]⟩, ⟨(some 13), none, .mv (.t 92)⟩])
  (.seq (.ops [⟨(some 93), none, .mv (.t 13)⟩, ⟨(some 1), none, .mv (.t 93)⟩])
  (.exit 1))) .skip))
  (.seq (.ops [⟨(some 95), none, .mv (.t 0)⟩, ⟨(some 96), none, .mv (.t 1)⟩, ⟨(some 97), none, .mv (.t 2)⟩, ⟨(some 98), none, .mv (.t 11)⟩, ⟨(some 99), none, .call (.c (.fn (.func 171) [] [])) [(.t 95), (.t 96), (.t 97), (.t 98)]⟩, ⟨(some 94), none, .mv (.t 99)⟩, ⟨(some 100), none, .extr 0 (.t 94)⟩, ⟨(some 101), none, .extr 1 (.t 94)⟩, ⟨(some 14), none, .mv (.t 100)⟩, ⟨(some 15), none, .mv (.t 101)⟩])
  (.seq (.ops [⟨(some 102), none, .mv (.t 15)⟩, ⟨(some 9), none, .mv (.t 102)⟩])
  (.seq (.ops [⟨(some 103), none, .mv (.t 14)⟩, ⟨(some 104), none, .mv (.t 1)⟩, ⟨(some 105), none, .bin .sub (.t 103) (.t 104)⟩, ⟨(some 106), none, .mv (.t 2)⟩, ⟨(some 107), none, .mv (.t 14)⟩, ⟨(some 108), none, .bin .sub (.t 106) (.t 107)⟩, ⟨(some 16), none, .mv (.t 105)⟩, ⟨(some 17), none, .mv (.t 108)⟩])
  (.seq (.ops [⟨(some 109), none, .mv (.t 10)⟩, ⟨(some 110), none, .bin .quo (.t 109) (.c (.int .i64 8))⟩, ⟨(some 18), none, .mv (.t 110)⟩])
  (.seq (.ops [⟨(some 111), none, .mv (.t 16)⟩, ⟨(some 112), none, .mv (.t 17)⟩, ⟨(some 113), none, .bin .lss (.t 111) (.t 112)⟩])
  (.cond (.t 113) (.seq (.ops [⟨(some 114), none, .mv (.t 16)⟩, ⟨(some 115), none, .mv (.t 18)⟩, ⟨(some 116), none, .bin .geq (.t 114) (.t 115)⟩, ⟨(some 8), none, .mv (.t 116)⟩])
  (.seq (.ops [⟨(some 117), none, .mv (.t 0)⟩, ⟨(some 118), none, .mv (.t 1)⟩, ⟨(some 119), none, .mv (.t 14)⟩, ⟨(some 120), none, .mv (.t 3)⟩, ⟨(some 121), none, .call (.c (.fn (.func 136) [] [])) [(.t 117), (.t 118), (.t 119), (.t 120)]⟩])
  (.ops [⟨(some 122), none, .mv (.t 14)⟩, ⟨(some 123), none, .bin .add (.t 122) (.c (.int .i64 1))⟩, ⟨(some 1), none, .mv (.t 123)⟩]))) (.seq (.ops [⟨(some 124), none, .mv (.t 17)⟩, ⟨(some 125), none, .mv (.t 18)⟩, ⟨(some 126), none, .bin .geq (.t 124) (.t 125)⟩, ⟨(some 8), none, .mv (.t 126)⟩])
  (.seq (.ops [⟨(some 127), none, .mv (.t 0)⟩, ⟨(some 128), none, .mv (.t 14)⟩, ⟨(some 129), none, .bin .add (.t 128) (.c (.int .i64 1))⟩, ⟨(some 130), none, .mv (.t 2)⟩, ⟨(some 131), none, .mv (.t 3)⟩, ⟨(some 132), none, .call (.c (.fn (.func 136) [] [])) [(.t 127), (.t 129), (.t 130), (.t 131)]⟩])
  (.ops [⟨(some 133), none, .mv (.t 14)⟩, ⟨(some 2), none, .mv (.t 133)⟩]))))))))))))))))))
def k136 : KC := (.seq (.ops [⟨(some 8), none, .mv (.c (.bool true))⟩])
  (.seq (.ops [⟨(some 9), none, .mv (.c (.bool true))⟩])
  (.block 0 (.loop k136_b0))))
theorem e136 {args : List PV} {σ : Heap} {K : PV → Heap → Prop} (hl : args.length ≤ 134) (h : Wf σ → (∀ a ∈ args, PV.upto σ.length a) → vc (mkCfg Try.prog mixed [] 134 σ.length) k136 (FinK σ.length [] K) (argEnv 0 args) σ) : ACall Try.prog 136 args σ K :=
  ACall_enter (C := mkCfg Try.prog mixed [] 134 σ.length) (c := Try.f136.body.getD .skip) Try.func136 (by kernel_rfl) (by kernel_rfl) (by kernel_rfl) rfl hl (by kernel_rfl) (by kernel_rfl) h
/- slices.Sort[[]int64,int64] -/
def k96 : KC := (.seq (.ops [⟨(some 3), none, .mv (.t 0)⟩, ⟨(some 4), none, .len false (.t 3)⟩, ⟨(some 2), none, .mv (.t 4)⟩])
  (.ops [⟨(some 5), none, .mv (.t 0)⟩, ⟨(some 6), none, .mv (.t 2)⟩, ⟨(some 7), none, .mv (.t 2)⟩, ⟨(some 8), none, .conv .u64 (.t 7)⟩, ⟨(some 9), none, .call (.c (.fn (.func 127) [] [])) [(.t 8)]⟩, ⟨(some 10), none, .call (.c (.fn (.func 136) [] [])) [(.t 5), (.c (.int .i64 0)), (.t 6), (.t 9)]⟩]))
theorem e96 {args : List PV} {σ : Heap} {K : PV → Heap → Prop} (hl : args.length ≤ 11) (h : Wf σ → (∀ a ∈ args, PV.upto σ.length a) → vc (mkCfg Try.prog mixed [] 11 σ.length) k96 (FinK σ.length [] K) (argEnv 0 args) σ) : ACall Try.prog 96 args σ K :=
  ACall_enter (C := mkCfg Try.prog mixed [] 11 σ.length) (c := Try.f96.body.getD .skip) Try.func96 (by kernel_rfl) (by kernel_rfl) (by kernel_rfl) rfl hl (by kernel_rfl) (by kernel_rfl) h
/- math/bits.Len -/
def k127 : KC := (.seq (.ops [⟨(some 2), none, .mv (.c (.int .i64 0))⟩])
  (.seq (.cond (.c (.bool false)) (.seq (.ops [⟨(some 3), none, .mv (.t 0)⟩, ⟨(some 4), none, .conv .u32 (.t 3)⟩, ⟨(some 5), none, .call (.c (.fn (.func 158) [] [])) [(.t 4)]⟩, ⟨(some 2), none, .mv (.t 5)⟩])
  .ret) .skip)
  (.seq (.ops [⟨(some 6), none, .mv (.t 0)⟩, ⟨(some 7), none, .call (.c (.fn (.func 159) [] [])) [(.t 6)]⟩, ⟨(some 2), none, .mv (.t 7)⟩])
  .ret)))
theorem e127 {args : List PV} {σ : Heap} {K : PV → Heap → Prop} (hl : args.length ≤ 8) (h : Wf σ → (∀ a ∈ args, PV.upto σ.length a) → vc (mkCfg Try.prog mixed [] 8 σ.length) k127 (FinK σ.length [.t 2] K) (argEnv 0 args) σ) : ACall Try.prog 127 args σ K :=
  ACall_enter (C := mkCfg Try.prog mixed [] 8 σ.length) (c := Try.f127.body.getD .skip) Try.func127 (by kernel_rfl) (by kernel_rfl) (by kernel_rfl) rfl hl (by kernel_rfl) (by kernel_rfl) h
/- math/bits.Len64 -/
def k159 : KC := (.seq (.ops [⟨(some 2), none, .mv (.c (.int .i64 0))⟩])
  (.seq (.seq (.ops [⟨(some 3), none, .mv (.t 0)⟩, ⟨(some 4), none, .bin .geq (.t 3) (.c (.int .u64 4294967296))⟩])
  (.cond (.t 4) (.seq (.ops [⟨(some 5), none, .mv (.t 0)⟩, ⟨(some 6), none, .bin .shr (.t 5) (.c (.int .u64 32))⟩, ⟨(some 0), none, .mv (.t 6)⟩])
  (.ops [⟨(some 2), none, .mv (.c (.int .i64 32))⟩])) .skip))
  (.seq (.seq (.ops [⟨(some 7), none, .mv (.t 0)⟩, ⟨(some 8), none, .bin .geq (.t 7) (.c (.int .u64 65536))⟩])
  (.cond (.t 8) (.seq (.ops [⟨(some 9), none, .mv (.t 0)⟩, ⟨(some 10), none, .bin .shr (.t 9) (.c (.int .u64 16))⟩, ⟨(some 0), none, .mv (.t 10)⟩])
  (.ops [⟨(some 11), none, .mv (.t 2)⟩, ⟨(some 12), none, .bin .add (.t 11) (.c (.int .i64 16))⟩, ⟨(some 2), none, .mv (.t 12)⟩])) .skip))
  (.seq (.seq (.ops [⟨(some 13), none, .mv (.t 0)⟩, ⟨(some 14), none, .bin .geq (.t 13) (.c (.int .u64 256))⟩])
  (.cond (.t 14) (.seq (.ops [⟨(some 15), none, .mv (.t 0)⟩, ⟨(some 16), none, .bin .shr (.t 15) (.c (.int .u64 8))⟩, ⟨(some 0), none, .mv (.t 16)⟩])
  (.ops [⟨(some 17), none, .mv (.t 2)⟩, ⟨(some 18), none, .bin .add (.t 17) (.c (.int .i64 8))⟩, ⟨(some 2), none, .mv (.t 18)⟩])) .skip))
  (.seq (.ops [⟨(some 19), none, .mv (.t 2)⟩, ⟨(some 20), none, .mv (.t 0)⟩, ⟨(some 21), none, .conv .u8 (.t 20)⟩, ⟨(some 22), none, .idxStr (.c (.str ([0, 1, 2, 2, 3, 3, 3, 3, 4, 4, 4, 4, 4, 4, 4, 4, 5, 5, 5, 5, 5, 5, 5, 5, 5, 5, 5, 5, 5, 5, 5, 5] ++ List.replicate 32 (6) ++ List.replicate 64 (7) ++ List.replicate 128 (8)))) (.t 21)⟩, ⟨(some 23), none, .conv .i64 (.t 22)⟩, ⟨(some 24), none, .bin .add (.t 19) (.t 23)⟩, ⟨(some 2), none, .mv (.t 24)⟩])
  .ret)))))
theorem e159 {args : List PV} {σ : Heap} {K : PV → Heap → Prop} (hl : args.length ≤ 25) (h : Wf σ → (∀ a ∈ args, PV.upto σ.length a) → vc (mkCfg Try.prog mixed [] 25 σ.length) k159 (FinK σ.length [.t 2] K) (argEnv 0 args) σ) : ACall Try.prog 159 args σ K :=
  ACall_enter (C := mkCfg Try.prog mixed [] 25 σ.length) (c := Try.f159.body.getD .skip) Try.func159 (by kernel_rfl) (by kernel_rfl) (by kernel_rfl) rfl hl (by kernel_rfl) (by kernel_rfl) h
end Go.Proofs.Ytpepbomifjbgnaa
namespace Go.Proofs.Ytpepbomifjbgnaa
open Go.Kv
set_option linter.unusedVariables false
set_option linter.unusedSimpArgs false
attribute [local irreducible] ACall PCall KL
theorem p180 (a : Int) : Pure Try.prog 180 [.int .i64 a] (.bool false) := by
  refine e180 (by simp) fun _ _ => ?_
  simp only [k180, argEnv, take6, List.drop_zero, Int.cast_ofNat_Int, go_sem, ↓reduceIte, Nat.reduceEqDiff, Nat.reduceAdd, Nat.reduceMul, Nat.reduceLeDiff, Nat.reduceLT, Int.reduceLE, Int.reduceLT, reduceCtorEq]
  exact Kv.Fin.still ⟨by simp, rfl⟩
theorem p169 (a b : Int) : Pure Try.prog 169 [.int .i64 a, .int .i64 b] (.bool (decide (a < b))) := by
  refine e169 (by simp) fun _ _ => ?_
  simp only [k169, argEnv, take6, List.drop_zero, Int.cast_ofNat_Int, go_sem, ↓reduceIte, Nat.reduceEqDiff, Nat.reduceAdd, Nat.reduceMul, Nat.reduceLeDiff, Nat.reduceLT, Int.reduceLE, Int.reduceLT, reduceCtorEq]
  refine (p180 a).go ?_
  try simp only [take6, List.drop_zero, Int.cast_ofNat_Int, go_sem, ↓reduceIte, Nat.reduceEqDiff, Nat.reduceAdd, Nat.reduceMul, Nat.reduceLeDiff, Nat.reduceLT, Int.reduceLE, Int.reduceLT, reduceCtorEq]
  exact Kv.Fin.still ⟨rfl, rfl⟩
/-- The numbers up to place i are in order, but for the one at place j, which is ahead of all behind it. -/
def Jn (m : List Int) (i j : Nat) : Prop := (∀ x y, x < y → y ≤ i → x ≠ j → y ≠ j → m.getD x 0 ≤ m.getD y 0) ∧ ∀ y, j < y → y ≤ i → m.getD j 0 ≤ m.getD y 0
def Sn (m : List Int) (i : Nat) : Prop := ∀ x y, x < y → y < i → m.getD x 0 ≤ m.getD y 0
theorem getD_setI (m : List Int) (i : Nat) (v : Int) (k : Nat) (h : i < m.length) : (m.set i v).getD k 0 = if k = i then v else m.getD k 0 := by
  rw [List.getD_eq_getElem?_getD]
  by_cases e : k = i
  · subst e; rw [List.getElem?_set_self h]; simp
  · rw [List.getElem?_set_ne (Ne.symm e), if_neg e, List.getD_eq_getElem?_getD]
theorem Jn.zero {m : List Int} {i : Nat} (h : Sn m i) : Jn m i i := ⟨fun x y h1 h2 h3 h4 => h x y h1 (by omega), fun y h1 h2 => by omega⟩
theorem Jn.done {m : List Int} {i j : Nat} (h : Jn m i j) (hj : j ≤ i) (hs : j = 0 ∨ m.getD (j - 1) 0 ≤ m.getD j 0) : Sn m (i + 1) := fun x y h1 h2 => by
  by_cases ex : x = j
  · subst ex; exact h.2 y h1 (by omega)
  · by_cases ey : y = j
    · subst ey
      rcases hs with hs | hs
      · omega
      · by_cases e : x = y - 1
        · rw [e]; exact hs
        · exact Int.le_trans (h.1 x (y - 1) (by omega) (by omega) ex (by omega)) hs
    · exact h.1 x y h1 (by omega) ex ey
def swap1 (m : List Int) (j : Nat) : List Int := (m.set j (m.getD (j - 1) 0)).set (j - 1) (m.getD j 0)
@[simp] theorem swap1_length (m : List Int) (j : Nat) : (swap1 m j).length = m.length := by simp [swap1]
theorem swap1_getD {m : List Int} {j : Nat} (h : j < m.length) (k : Nat) : (swap1 m j).getD k 0 = if k = j - 1 then m.getD j 0 else if k = j then m.getD (j - 1) 0 else m.getD k 0 := by
  rw [swap1, getD_setI _ _ _ _ (by simp; omega), getD_setI _ _ _ _ h]
theorem swap1_perm {m : List Int} {j : Nat} (h : j < m.length) : (swap1 m j).Perm m := by
  have h1 : j - 1 < m.length := by omega
  have := @List.set_set_perm Int m j (j - 1) h h1
  have e1 : m.getD (j - 1) 0 = m[j - 1] := by simp [List.getD_eq_getElem?_getD, h1]
  have e2 : m.getD j 0 = m[j] := by simp [List.getD_eq_getElem?_getD, h]
  rw [swap1, e1, e2]; exact this
theorem Jn.step {m : List Int} {i j : Nat} (h : Jn m i j) (hi : i < m.length) (hj : j ≤ i) (h0 : 0 < j) (hl : m.getD j 0 < m.getD (j - 1) 0) : Jn (swap1 m j) i (j - 1) := by
  have hg := swap1_getD (m := m) (j := j) (by omega)
  refine ⟨fun x y h1 h2 h3 h4 => ?_, fun y h1 h2 => ?_⟩
  · rw [hg, hg, if_neg h3, if_neg h4]
    by_cases ex : x = j
    · rw [if_pos ex, if_neg (by omega)]
      exact h.1 (j - 1) y (by omega) h2 (by omega) (by omega)
    · rw [if_neg ex]
      by_cases ey : y = j
      · rw [if_pos ey]
        exact h.1 x (j - 1) (by omega) (by omega) ex (by omega)
      · rw [if_neg ey]; exact h.1 x y h1 h2 ex ey
  · rw [hg, hg, if_pos rfl, if_neg (by omega)]
    by_cases ey : y = j
    · rw [if_pos ey]; omega
    · rw [if_neg ey]; exact h.2 y (by omega) h2
theorem Sn.pairwise {m : List Int} (h : Sn m m.length) : m.Pairwise (· ≤ ·) := by
  rw [List.pairwise_iff_getElem]
  intro i j hi hj hij
  have := h i j hij hj
  simpa [List.getD_eq_getElem?_getD, hi, hj] using this
theorem p163 (σ : Heap) (id ver : Nat) (e : TypeId) (l : List Int) (hid : σ[id]? = some (.arr ver e 1 (ints l))) (hn : l.length ≤ 4294967296) {K : PV → Heap → Prop} (hK : ∀ r : List Int, r.Perm l → r.Pairwise (· ≤ ·) → K (.tup []) (σ.set id (.arr ver e 1 (ints r)))) :
    ACall Try.prog 163 [.ref id ver 0 l.length, .int .i64 0, .int .i64 l.length] σ K := by
  have hlt := (List.getElem?_eq_some_iff.1 hid).1
  have hself : ∀ o, (σ.set id o)[id]? = some o := fun o => List.getElem?_set_self hlt
  have hset : ∀ o o', (σ.set id o).set id o' = σ.set id o' := fun o o' => List.set_set ..
  have h00 : σ.set id (.arr ver e 1 (ints l)) = σ := List.ext_getElem? fun i => by
    by_cases h : id = i
    · subst h; rw [hself, hid]
    · rw [List.getElem?_set_ne h]
  refine e163 (by simp) fun _ _ => ?_
  simp only [k163, argEnv, take6, List.drop_zero, Int.cast_ofNat_Int, go_sem, ↓reduceIte, Nat.reduceEqDiff, Nat.reduceAdd, Nat.reduceMul, Nat.reduceLeDiff, Nat.reduceLT, Int.reduceLE, Int.reduceLT, reduceCtorEq]
  refine ⟨by omega, ?_⟩
  refine KL_ind k163_b1.eq_1 (fun x : Nat × List Int => [(0, .ref id ver 0 l.length), (1, .int .i64 0), (2, .int .i64 l.length), (6, .int .i64 x.1)]) (fun x => σ.set id (.arr ver e 1 (ints x.2))) (fun x => 1 ≤ x.1 ∧ x.1 ≤ l.length + 1 ∧ x.2.Perm l ∧ Sn x.2 x.1) (fun x => l.length + 1 - x.1) [0, 1, 2, 6] (1, l) (by simp [keep]) h00.symm ⟨Nat.le_refl _, by omega, .refl _, fun x y h1 h2 => by omega⟩ fun ⟨i, m⟩ ⟨hi1, hi2, hp, hS⟩ ih => ?_
  simp only at hi1 hi2 hp hS
  have hml := hp.length_eq
  try simp only [take6, List.drop_zero, Int.cast_ofNat_Int, go_sem, ↓reduceIte, Nat.reduceEqDiff, Nat.reduceAdd, Nat.reduceMul, Nat.reduceLeDiff, Nat.reduceLT, Int.reduceLE, Int.reduceLT, reduceCtorEq]
  refine ⟨fun h1 => ?_, fun h1 => ?_⟩
  · have hil : i < l.length := by omega
    refine KL_ind k163_b0.eq_1 (fun x : Nat × List Int => [(0, .ref id ver 0 l.length), (1, .int .i64 0), (2, .int .i64 l.length), (6, .int .i64 i), (7, .int .i64 x.1)]) (fun x => σ.set id (.arr ver e 1 (ints x.2))) (fun x => x.1 ≤ i ∧ x.2.Perm l ∧ Jn x.2 i x.1) (fun x => x.1) [0, 1, 2, 6, 7] (i, m) (by simp [keep]) rfl ⟨Nat.le_refl _, hp, .zero hS⟩ fun ⟨j, m⟩ ⟨hj, hp, hJ⟩ ihj => ?_
    simp only at hj hp hJ
    clear hml hS
    have hml := hp.length_eq
    have hj1 : ((j : Int) - 1).toNat = j - 1 := by omega
    try simp only [hself, hset, hml, hj1, take6, List.drop_zero, Int.cast_ofNat_Int, go_sem, ↓reduceIte, Nat.reduceEqDiff, Nat.reduceAdd, Nat.reduceMul, Nat.reduceLeDiff, Nat.reduceLT, Int.reduceLE, Int.reduceLT, reduceCtorEq]
    refine ⟨fun h2 => ⟨by omega, by omega, fun _ => ⟨by omega, by omega, by omega, fun _ => ?_⟩⟩, fun h2 => ⟨by omega, ?_⟩⟩
    · refine (p169 _ _).pgo ?_
      try simp only [hself, hset, hml, hj1, take6, List.drop_zero, Int.cast_ofNat_Int, go_sem, ↓reduceIte, Nat.reduceEqDiff, Nat.reduceAdd, Nat.reduceMul, Nat.reduceLeDiff, Nat.reduceLT, Int.reduceLE, Int.reduceLT, reduceCtorEq]
      refine ⟨fun h3 => ⟨by omega, by omega, by omega, by omega, fun _ => ⟨by omega, by omega, fun _ => ⟨by omega, by omega, fun _ => ⟨by omega, by omega, fun _ => ⟨by omega, ?_⟩⟩⟩⟩⟩, fun h3 => ⟨by omega, ?_⟩⟩
      · refine ihj (j - 1, swap1 m j) ⟨by show j - 1 ≤ i; omega, (swap1_perm (by omega)).trans hp, hJ.step (by omega) hj (by omega) h3⟩ (by show j - 1 < j; omega) _ _ (by simp [keep]; omega) rfl
      · refine ih (i + 1, m) ⟨by show 1 ≤ i + 1; omega, by show i + 1 ≤ l.length + 1; omega, hp, hJ.done hj (.inr (by omega))⟩ (by show l.length + 1 - (i + 1) < l.length + 1 - i; omega) _ _ (by simp [keep]) rfl
    · refine ih (i + 1, m) ⟨by show 1 ≤ i + 1; omega, by show i + 1 ≤ l.length + 1; omega, hp, hJ.done hj (.inl (by omega))⟩ (by show l.length + 1 - (i + 1) < l.length + 1 - i; omega) _ _ (by simp [keep]) rfl
  · have hS' : Sn m m.length := fun x y h3 h4 => hS x y h3 (by omega)
    exact Kv.Fin.now (hK m hp hS'.pairwise)
theorem p136 (σ : Heap) (id ver : Nat) (e : TypeId) (l : List Int) (hid : σ[id]? = some (.arr ver e 1 (ints l))) (hn : l.length ≤ 12) (lim : Int) {K : PV → Heap → Prop} (hK : ∀ r : List Int, r.Perm l → r.Pairwise (· ≤ ·) → K (.tup []) (σ.set id (.arr ver e 1 (ints r)))) :
    ACall Try.prog 136 [.ref id ver 0 l.length, .int .i64 0, .int .i64 l.length, .int .i64 lim] σ K := by
  refine e136 (by simp) fun _ _ => ?_
  simp only [k136, argEnv, take6, List.drop_zero, Int.cast_ofNat_Int, go_sem, ↓reduceIte, Nat.reduceEqDiff, Nat.reduceAdd, Nat.reduceMul, Nat.reduceLeDiff, Nat.reduceLT, Int.reduceLE, Int.reduceLT, reduceCtorEq]
  refine KL_round ?_
  rw [k136_b0]
  try simp only [take6, List.drop_zero, Int.cast_ofNat_Int, go_sem, ↓reduceIte, Nat.reduceEqDiff, Nat.reduceAdd, Nat.reduceMul, Nat.reduceLeDiff, Nat.reduceLT, Int.reduceLE, Int.reduceLT, reduceCtorEq]
  refine ⟨by omega, fun _ => ?_, fun h => absurd h (by omega)⟩
  refine p163 σ id ver e l hid (by omega) fun r hp hS => ?_
  try simp only [take6, List.drop_zero, Int.cast_ofNat_Int, go_sem, ↓reduceIte, Nat.reduceEqDiff, Nat.reduceAdd, Nat.reduceMul, Nat.reduceLeDiff, Nat.reduceLT, Int.reduceLE, Int.reduceLT, reduceCtorEq]
  exact Kv.Fin.now (hK r hp hS)
theorem aWrap_u8 {n : Nat} (h : n < 256) {K : PV → Prop} : aWrap .u8 (n : Int) K = K (.int .u8 n) := by
  have e : IntKind.u8.wrap (n : Int) = n := by
    simp only [IntKind.wrap, IntKind.signed, IntKind.bits, Bool.false_and, Bool.false_eq_true, if_false]
    omega
  show K _ = _
  rw [e]
theorem aWrap_u64 {n : Nat} (h : n < 9223372036854775808) {K : PV → Prop} : aWrap .u64 (n : Int) K = K (.int .u64 n) := by
  have e : IntKind.u64.wrap (n : Int) = n := by
    simp only [IntKind.wrap, IntKind.signed, IntKind.bits, Bool.false_and, Bool.false_eq_true, if_false]
    omega
  show K _ = _
  rw [e]
theorem aOp_idxStr {P : Program} {env : Env} {σ : Heap} {K : PV → Heap → Prop} (s : List UInt8) (t : Nat) {k : IntKind} {n : Int} (h : Kv.look env t = .int k n) : aOp P (.idxStr (.c (.str s)) (.t t)) env σ K = ((0 ≤ n ∧ n < s.length) ∧ K (.int .u8 (s.getD n.toNat 0).toNat) σ) := by
  simp only [aOp, kx, h, intOf?]
set_option maxRecDepth 100000 in
theorem p159 (n : Nat) (hn : n ≤ 12) : ACall Try.prog 159 [.int .u64 n] [] (fun v s => (∃ k : Int, v = .int .i64 k) ∧ s = []) := by
  refine e159 (by simp) fun _ _ => ?_
  simp only [k159, argEnv, take6, List.drop_zero, Int.cast_ofNat_Int, go_sem, ↓reduceIte, Nat.reduceEqDiff, Nat.reduceAdd, Nat.reduceMul, Nat.reduceLeDiff, Nat.reduceLT, Int.reduceLE, Int.reduceLT, reduceCtorEq]
  refine ⟨fun h => absurd h (by omega), fun _ => ⟨fun h => absurd h (by omega), fun _ => ⟨fun h => absurd h (by omega), fun _ => ?_⟩⟩⟩
  rw [aWrap_u8 (by omega)]
  try simp only [take6, List.drop_zero, Int.cast_ofNat_Int, go_sem, ↓reduceIte, Nat.reduceEqDiff, Nat.reduceAdd, Nat.reduceMul, Nat.reduceLeDiff, Nat.reduceLT, Int.reduceLE, Int.reduceLT, reduceCtorEq]
  rw [aOp_idxStr _ 21 (k := .u8) (n := n) rfl]
  generalize hg : (List.getD _ (Int.toNat (n : Int)) (0 : UInt8)) = g
  have hlt := g.toNat_lt
  try simp only [take6, List.drop_zero, Int.cast_ofNat_Int, go_sem, ↓reduceIte, Nat.reduceEqDiff, Nat.reduceAdd, Nat.reduceMul, Nat.reduceLeDiff, Nat.reduceLT, Int.reduceLE, Int.reduceLT, reduceCtorEq]
  exact ⟨by omega, by omega, by omega, Kv.Fin.still ⟨⟨_, rfl⟩, rfl⟩⟩
theorem p127 (n : Nat) (hn : n ≤ 12) : ACall Try.prog 127 [.int .u64 n] [] (fun v s => (∃ k : Int, v = .int .i64 k) ∧ s = []) := by
  refine e127 (by simp) fun _ _ => ?_
  simp only [k127, argEnv, take6, List.drop_zero, Int.cast_ofNat_Int, go_sem, ↓reduceIte, Nat.reduceEqDiff, Nat.reduceAdd, Nat.reduceMul, Nat.reduceLeDiff, Nat.reduceLT, Int.reduceLE, Int.reduceLT, reduceCtorEq]
  refine (p159 n hn).go fun v s ⟨⟨k, hv⟩, hs⟩ => ?_
  subst hv; subst hs
  try simp only [take6, List.drop_zero, Int.cast_ofNat_Int, go_sem, ↓reduceIte, Nat.reduceEqDiff, Nat.reduceAdd, Nat.reduceMul, Nat.reduceLeDiff, Nat.reduceLT, Int.reduceLE, Int.reduceLT, reduceCtorEq]
  exact Kv.Fin.still ⟨⟨_, rfl⟩, rfl⟩
/-- At most twelve numbers are sorted. -/
theorem p96 (σ : Heap) (id ver : Nat) (e : TypeId) (l : List Int) (hid : σ[id]? = some (.arr ver e 1 (ints l))) (hn : l.length ≤ 12) {K : PV → Heap → Prop} (hK : ∀ r : List Int, r.Perm l → r.Pairwise (· ≤ ·) → K (.tup []) (σ.set id (.arr ver e 1 (ints r)))) :
    ACall Try.prog 96 [.ref id ver 0 l.length] σ K := by
  refine e96 (by simp) fun _ _ => ?_
  simp only [k96, argEnv, hid, take6, List.drop_zero, Int.cast_ofNat_Int, go_sem, ↓reduceIte, Nat.reduceEqDiff, Nat.reduceAdd, Nat.reduceMul, Nat.reduceLeDiff, Nat.reduceLT, Int.reduceLE, Int.reduceLT, reduceCtorEq]
  rw [aWrap_u64 (by omega)]
  try simp only [take6, List.drop_zero, Int.cast_ofNat_Int, go_sem, ↓reduceIte, Nat.reduceEqDiff, Nat.reduceAdd, Nat.reduceMul, Nat.reduceLeDiff, Nat.reduceLT, Int.reduceLE, Int.reduceLT, reduceCtorEq]
  refine (p127 l.length hn).go fun v s ⟨⟨k, hv⟩, hs⟩ => ?_
  subst hv; subst hs
  try simp only [take6, List.drop_zero, Int.cast_ofNat_Int, go_sem, ↓reduceIte, Nat.reduceEqDiff, Nat.reduceAdd, Nat.reduceMul, Nat.reduceLeDiff, Nat.reduceLT, Int.reduceLE, Int.reduceLT, reduceCtorEq]
  refine p136 σ id ver e l hid hn k fun r hp hS => ?_
  try simp only [take6, List.drop_zero, Int.cast_ofNat_Int, go_sem, ↓reduceIte, Nat.reduceEqDiff, Nat.reduceAdd, Nat.reduceMul, Nat.reduceLeDiff, Nat.reduceLT, Int.reduceLE, Int.reduceLT, reduceCtorEq]
  exact Kv.Fin.now (hK r hp hS)
end Go.Proofs.Ytpepbomifjbgnaa
end
section
/- Neighbours that are equal become one. -/
namespace Go.Proofs.Ytpepbomifjbgnaa
open Go.Kv
set_option maxRecDepth 100000
/- slices.Compact[[]int64,int64] -/
/- live [0, 3, 4, 5] -/
def k125_b0 : KC := (.seq (.seq (.ops [⟨(some 29), none, .mv (.t 5)⟩, ⟨(some 30), none, .mv (.t 4)⟩, ⟨(some 31), none, .len false (.t 30)⟩, ⟨(some 32), none, .bin .lss (.t 29) (.t 31)⟩])
  (.cond (.t 32) .skip (.exit 2)))
  (.seq (.block 3 (.seq (.draw [⟨(some 35), none, .mv (.t 4)⟩, ⟨(some 36), none, .mv (.t 5)⟩, ⟨(some 37), none, .idxS 1 (.t 35) (.t 36)⟩, ⟨(some 38), none, .load false 1 (.t 37)⟩, ⟨(some 39), none, .mv (.t 4)⟩, ⟨(some 40), none, .mv (.t 5)⟩, ⟨(some 41), none, .bin .sub (.t 40) (.c (.int .i64 1))⟩, ⟨(some 42), none, .idxS 1 (.t 39) (.t 41)⟩, ⟨(some 43), none, .load false 1 (.t 42)⟩, ⟨(some 44), none, .bin .neq (.t 38) (.t 43)⟩])
  (.cond (.t 44) (.seq (.ops [⟨(some 45), none, .mv (.t 0)⟩, ⟨(some 46), none, .mv (.t 3)⟩, ⟨(some 47), none, .mv (.t 4)⟩, ⟨(some 48), none, .mv (.t 5)⟩, ⟨(some 49), none, .idxS 1 (.t 47) (.t 48)⟩, ⟨(some 50), none, .load false 1 (.t 49)⟩, ⟨(some 51), none, .idxS 1 (.t 45) (.t 46)⟩, ⟨none, none, .store 1 (.t 51) (.t 50)⟩])
  (.ops [⟨(some 52), none, .mv (.t 3)⟩, ⟨(some 53), none, .bin .add (.t 52) (.c (.int .i64 1))⟩, ⟨(some 3), none, .mv (.t 53)⟩])) .skip)))
  (.ops [⟨(some 33), none, .mv (.t 5)⟩, ⟨(some 34), none, .bin .add (.t 33) (.c (.int .i64 1))⟩, ⟨(some 5), none, .mv (.t 34)⟩])))
/- live [0, 3] -/
def k125_b1 : KC := (.seq (.seq (.ops [⟨(some 10), none, .mv (.t 3)⟩, ⟨(some 11), none, .mv (.t 0)⟩, ⟨(some 12), none, .len false (.t 11)⟩, ⟨(some 13), none, .bin .lss (.t 10) (.t 12)⟩])
  (.cond (.t 13) .skip (.exit 0)))
  (.seq (.block 1 (.seq (.draw [⟨(some 16), none, .mv (.t 0)⟩, ⟨(some 17), none, .mv (.t 3)⟩, ⟨(some 18), none, .idxS 1 (.t 16) (.t 17)⟩, ⟨(some 19), none, .load false 1 (.t 18)⟩, ⟨(some 20), none, .mv (.t 0)⟩, ⟨(some 21), none, .mv (.t 3)⟩, ⟨(some 22), none, .bin .sub (.t 21) (.c (.int .i64 1))⟩, ⟨(some 23), none, .idxS 1 (.t 20) (.t 22)⟩, ⟨(some 24), none, .load false 1 (.t 23)⟩, ⟨(some 25), none, .bin .eql (.t 19) (.t 24)⟩])
  (.cond (.t 25) (.seq (.ops [⟨(some 26), none, .mv (.t 0)⟩, ⟨(some 27), none, .mv (.t 3)⟩, ⟨(some 28), none, .sls 1 (.t 26) (some (.t 27)) none⟩, ⟨(some 4), none, .mv (.t 28)⟩])
  (.seq (.seq (.ops [⟨(some 5), none, .mv (.c (.int .i64 1))⟩])
  (.block 2 (.loop k125_b0)))
  (.seq (.ops [⟨(some 54), none, .mv (.t 0)⟩, ⟨(some 55), none, .mv (.t 3)⟩, ⟨(some 56), none, .sls 1 (.t 54) (some (.t 55)) none⟩, ⟨none, none, .clr 1 (.int .i64 0) (.t 56)⟩])
  (.seq (.ops [⟨(some 57), none, .mv (.t 0)⟩, ⟨(some 58), none, .mv (.t 3)⟩, ⟨(some 59), none, .sls 1 (.t 57) none (some (.t 58))⟩, ⟨(some 2), none, .mv (.t 59)⟩])
  .ret)))) .skip)))
  (.ops [⟨(some 14), none, .mv (.t 3)⟩, ⟨(some 15), none, .bin .add (.t 14) (.c (.int .i64 1))⟩, ⟨(some 3), none, .mv (.t 15)⟩])))
def k125 : KC := (.seq (.ops [⟨(some 2), none, .mv (.c (.nils))⟩])
  (.seq (.seq (.ops [⟨(some 6), none, .mv (.t 0)⟩, ⟨(some 7), none, .len false (.t 6)⟩, ⟨(some 8), none, .bin .lss (.t 7) (.c (.int .i64 2))⟩])
  (.cond (.t 8) (.seq (.ops [⟨(some 9), none, .mv (.t 0)⟩, ⟨(some 2), none, .mv (.t 9)⟩])
  .ret) .skip))
  (.seq (.seq (.ops [⟨(some 3), none, .mv (.c (.int .i64 1))⟩])
  (.block 0 (.loop k125_b1)))
  (.seq (.ops [⟨(some 60), none, .mv (.t 0)⟩, ⟨(some 2), none, .mv (.t 60)⟩])
  .ret))))
theorem e125 {args : List PV} {σ : Heap} {K : PV → Heap → Prop} (hl : args.length ≤ 61) (h : Wf σ → (∀ a ∈ args, PV.upto σ.length a) → vc (mkCfg Try.prog mixed [] 61 σ.length) k125 (FinK σ.length [.t 2] K) (argEnv 0 args) σ) : ACall Try.prog 125 args σ K :=
  ACall_enter (C := mkCfg Try.prog mixed [] 61 σ.length) (c := Try.f125.body.getD .skip) Try.func125 (by kernel_rfl) (by kernel_rfl) (by kernel_rfl) rfl hl (by kernel_rfl) (by kernel_rfl) h
end Go.Proofs.Ytpepbomifjbgnaa
namespace Go.Proofs.Ytpepbomifjbgnaa
open Go.Kv
set_option linter.unusedVariables false
set_option linter.unusedSimpArgs false
attribute [local irreducible] ACall PCall KL
/-- The list with one of each run. -/
def cpt : List Int → List Int
  | [] => []
  | a :: l => match l with
    | [] => [a]
    | b :: _ => if a = b then cpt l else a :: cpt l
theorem cpt_one (a : Int) : cpt [a] = [a] := rfl
theorem cpt_two (a b : Int) (l : List Int) : cpt (a :: b :: l) = if a = b then cpt (b :: l) else a :: cpt (b :: l) := rfl
theorem cpt_snoc : ∀ (l : List Int) (a b : Int), cpt (l ++ [a, b]) = cpt (l ++ [a]) ++ if a = b then [] else [b]
  | [], a, b => by
    show cpt [a, b] = cpt [a] ++ _
    rw [cpt_two, cpt_one, cpt_one]
    split
    · rename_i h; subst h; rfl
    · rfl
  | [c], a, b => by
    show cpt (c :: a :: [b]) = cpt (c :: a :: []) ++ _
    rw [cpt_two c a, cpt_two c a, cpt_two a b, cpt_one, cpt_one]
    split <;> split <;> rename_i h1 h2
    · subst h2; rfl
    · rfl
    · subst h2; rfl
    · rfl
  | c :: d :: l, a, b => by
    show cpt (c :: d :: (l ++ [a, b])) = cpt (c :: d :: (l ++ [a])) ++ _
    have := cpt_snoc (d :: l) a b
    simp only [List.cons_append] at this
    rw [cpt_two, cpt_two, this]
    split <;> simp
theorem cpt_take {r : List Int} {k : Nat} (h0 : 0 < k) (h : k < r.length) : cpt (r.take (k + 1)) = cpt (r.take k) ++ if r.getD (k - 1) 0 = r.getD k 0 then [] else [r.getD k 0] := by
  obtain ⟨j, rfl⟩ : ∃ j, k = j + 1 := ⟨k - 1, by omega⟩
  have e1 : r.take (j + 1 + 1) = r.take j ++ [r.getD j 0, r.getD (j + 1) 0] := by
    rw [List.take_succ_eq_append_getElem h, List.take_succ_eq_append_getElem (by omega : j < r.length), List.append_assoc]
    simp [List.getD_eq_getElem?_getD, h, (by omega : j < r.length)]
  have e2 : r.take (j + 1) = r.take j ++ [r.getD j 0] := by
    rw [List.take_succ_eq_append_getElem (by omega : j < r.length)]
    simp [List.getD_eq_getElem?_getD, (by omega : j < r.length)]
  rw [e1, e2, cpt_snoc, Nat.add_sub_cancel]
theorem cpt_short {r : List Int} (h : r.length < 2) : cpt r = r := by
  rcases r with _ | ⟨a, _ | ⟨b, r⟩⟩
  · rfl
  · rfl
  · simp at h; omega
theorem cpt_len_take (r : List Int) : ∀ k, k ≤ r.length → (cpt (r.take k)).length ≤ k
  | 0, _ => by simp [cpt]
  | k + 1, h => by
    rcases Nat.eq_zero_or_pos k with e | h0
    · subst e
      rw [cpt_short (by simp; omega)]; simp; omega
    · rw [cpt_take h0 (by omega), List.length_append]
      have := cpt_len_take r k (by omega)
      split <;> simp <;> omega
theorem p125 (σ : Heap) (id ver : Nat) (e : TypeId) (r : List Int) (hid : σ[id]? = some (.arr ver e 1 (ints r))) (hn : r.length ≤ 4294967296) {K : PV → Heap → Prop} (hK : ∀ post : List Int, K (.ref id ver 0 (cpt r).length) (σ.set id (.arr ver e 1 (ints (cpt r ++ post))))) :
    ACall Try.prog 125 [.ref id ver 0 r.length] σ K := by
  have hlt := (List.getElem?_eq_some_iff.1 hid).1
  have hself : ∀ o, (σ.set id o)[id]? = some o := fun o => List.getElem?_set_self hlt
  have hset : ∀ o o', (σ.set id o).set id o' = σ.set id o' := fun o o' => List.set_set ..
  have h00 : σ.set id (.arr ver e 1 (ints r)) = σ := List.ext_getElem? fun i => by
    by_cases h : id = i
    · subst h; rw [hself, hid]
    · rw [List.getElem?_set_ne h]
  have hKs : cpt r = r → K (.ref id ver 0 r.length) σ := fun h => by
    have := hK []
    rwa [h, List.append_nil, h00] at this
  refine e125 (by simp) fun _ _ => ?_
  simp only [k125, argEnv, hid, take6, List.drop_zero, Int.cast_ofNat_Int, go_sem, ↓reduceIte, Nat.reduceEqDiff, Nat.reduceAdd, Nat.reduceMul, Nat.reduceLeDiff, Nat.reduceLT, Int.reduceLE, Int.reduceLT, reduceCtorEq]
  refine ⟨fun h => Kv.Fin.now (hKs (cpt_short (by omega))), fun h => ?_⟩
  refine KL_ind k125_b1.eq_1 (fun k : Nat => [(0, .ref id ver 0 r.length), (3, .int .i64 k)]) (fun _ => σ) (fun k => 1 ≤ k ∧ k ≤ r.length ∧ cpt (r.take k) = r.take k) (fun k => r.length - k) [0, 3] 1 (by simp [keep]) rfl ⟨Nat.le_refl _, by omega, cpt_short (by simp; omega)⟩ fun k ⟨hk1, hk2, hc⟩ ih => ?_
  have hk1' : ((k : Int) - 1).toNat = k - 1 := by omega
  try simp only [hid, hk1', take6, List.drop_zero, Int.cast_ofNat_Int, go_sem, ↓reduceIte, Nat.reduceEqDiff, Nat.reduceAdd, Nat.reduceMul, Nat.reduceLeDiff, Nat.reduceLT, Int.reduceLE, Int.reduceLT, reduceCtorEq]
  refine ⟨fun h1 => ?_, fun h1 => ?_⟩
  · have hkl : k < r.length := by omega
    have hct := cpt_take hk1 hkl
    refine ⟨by omega, by omega, fun _ => ⟨by omega, by omega, by omega, fun _ => ⟨fun h2 => ⟨by omega, ?_⟩, fun h2 => ⟨by omega, ?_⟩⟩⟩⟩
    · rw [if_pos h2.symm, List.append_nil, hc] at hct
      clear ih
      refine KL_ind k125_b0.eq_1 (fun x : Nat × Nat × List Int => [(0, .ref id ver 0 r.length), (3, .int .i64 x.2.1), (4, .ref id ver k (r.length - k)), (5, .int .i64 x.1)]) (fun x => σ.set id (.arr ver e 1 (ints x.2.2))) (fun x => 1 ≤ x.1 ∧ x.1 ≤ r.length - k ∧ x.2.1 ≤ k + x.1 - 1 ∧ x.2.2.length = r.length ∧ x.2.1 = (cpt (r.take (k + x.1))).length ∧ x.2.2.take x.2.1 = cpt (r.take (k + x.1)) ∧ ∀ i, k + x.1 - 1 ≤ i → x.2.2.getD i 0 = r.getD i 0) (fun x => r.length - k - x.1) [0, 3, 4, 5] (1, k, r) (by simp [keep]) h00.symm ⟨Nat.le_refl _, by show 1 ≤ r.length - k; omega, by show k ≤ k + 1 - 1; omega, rfl, by show k = (cpt (r.take (k + 1))).length; rw [hct]; simp; omega, hct.symm, fun _ _ => rfl⟩ fun ⟨j, q, m⟩ ⟨hj1, hj2, hq, hml, hql, hmt, hmr⟩ ih => ?_
      simp only at hj1 hj2 hq hml hql hmt hmr
      have hj' : ((j : Int) - 1).toNat = j - 1 := by omega
      try simp only [hself, hset, hml, hj', take6, List.drop_zero, Int.cast_ofNat_Int, go_sem, ↓reduceIte, Nat.reduceEqDiff, Nat.reduceAdd, Nat.reduceMul, Nat.reduceLeDiff, Nat.reduceLT, Int.reduceLE, Int.reduceLT, reduceCtorEq]
      refine ⟨fun h3 => ?_, fun h3 => ?_⟩
      · have hjl : k + j < r.length := by omega
        have hct2 := cpt_take (r := r) (k := k + j) (by omega) hjl
        have g1 := hmr (j + k) (by omega)
        have g2 := hmr (j - 1 + k) (by omega)
        have e1 : j + k = k + j := by omega
        have e2 : j - 1 + k = k + j - 1 := by omega
        rw [g1, g2, e1, e2]
        refine ⟨by omega, by omega, fun _ => ⟨by omega, by omega, by omega, fun _ => ⟨fun h4 => ⟨by omega, by omega, fun _ => ⟨by omega, by omega, fun _ => ⟨by omega, by omega, ?_⟩⟩⟩, fun h4 => ⟨by omega, ?_⟩⟩⟩⟩
        · rw [if_neg (fun h => h4 h.symm)] at hct2
          have hqm : q < m.length := by omega
          refine ih (j + 1, q + 1, m.set q (r.getD (k + j) 0)) ⟨by show 1 ≤ j + 1; omega, by show j + 1 ≤ r.length - k; omega, by show q + 1 ≤ k + (j + 1) - 1; omega, by show (m.set q _).length = r.length; simp [hml], ?_, ?_, fun i hi => ?_⟩ (by show r.length - k - (j + 1) < r.length - k - j; omega) _ _ (by simp [keep]) rfl
          · show q + 1 = (cpt (r.take (k + (j + 1)))).length
            rw [← Nat.add_assoc, hct2, List.length_append, ← hql]; rfl
          · show (m.set q _).take (q + 1) = cpt (r.take (k + (j + 1)))
            rw [← Nat.add_assoc, hct2, ← hmt, List.take_set, List.take_succ_eq_append_getElem hqm]
            rw [List.set_append_right _ _ (by simp; omega)]
            simp [Nat.min_eq_left (Nat.le_of_lt hqm)]
          · show (m.set q _).getD i 0 = r.getD i 0
            have hi' : k + (j + 1) - 1 ≤ i := hi
            rw [getD_setI _ _ _ _ hqm, if_neg (by omega)]
            exact hmr i (by omega)
        · rw [if_pos h4.symm, List.append_nil] at hct2
          refine ih (j + 1, q, m) ⟨by show 1 ≤ j + 1; omega, by show j + 1 ≤ r.length - k; omega, by show q ≤ k + (j + 1) - 1; omega, hml, ?_, ?_, fun i hi => hmr i (by have : k + (j + 1) - 1 ≤ i := hi; omega)⟩ (by show r.length - k - (j + 1) < r.length - k - j; omega) _ _ (by simp [keep]) rfl
          · show q = (cpt (r.take (k + (j + 1)))).length
            rw [← Nat.add_assoc, hct2]; exact hql
          · show m.take q = cpt (r.take (k + (j + 1)))
            rw [← Nat.add_assoc, hct2]; exact hmt
      · have e : k + j = r.length := by omega
        rw [e, List.take_length] at hql hmt
        refine ⟨by omega, by omega, by omega, Kv.Fin.now ?_⟩
        rw [Nat.sub_zero, hmt, hql, List.append_assoc]
        exact hK _
    · refine ih (k + 1) ⟨by omega, by omega, ?_⟩ (by omega) _ _ (by simp [keep]) rfl
      rw [hct, if_neg (fun h => h2 h.symm), hc, List.take_succ_eq_append_getElem hkl]
      simp [List.getD_eq_getElem?_getD, hkl]
  · obtain rfl : k = r.length := by omega
    rw [List.take_length] at hc
    exact Kv.Fin.now (hKs hc)
end Go.Proofs.Ytpepbomifjbgnaa
end
section
/- The idempotents of a table: points, deletion, both sides. -/
namespace Go.Proofs.Ytpepbomifjbgnaa
open Go.Kv
set_option maxRecDepth 100000
/- slices.DeleteFunc[[]int64,int64] -/
/- live [0, 1, 5, 6] -/
def k74_b0 : KC := (.seq (.seq (.ops [⟨(some 16), none, .mv (.t 6)⟩, ⟨(some 17), none, .mv (.t 0)⟩, ⟨(some 18), none, .len false (.t 17)⟩, ⟨(some 19), none, .bin .lss (.t 16) (.t 18)⟩])
  (.cond (.t 19) .skip (.exit 0)))
  (.seq (.block 1 (.seq (.ops [⟨(some 22), none, .mv (.t 0)⟩, ⟨(some 23), none, .mv (.t 6)⟩, ⟨(some 24), none, .idxS 1 (.t 22) (.t 23)⟩, ⟨(some 25), none, .load false 1 (.t 24)⟩, ⟨(some 7), none, .mv (.t 25)⟩])
  (.seq (.ops [⟨(some 26), none, .mv (.t 1)⟩, ⟨(some 27), none, .mv (.t 7)⟩, ⟨(some 28), none, .call (.t 26) [(.t 27)]⟩, ⟨(some 29), none, .not (.t 28)⟩])
  (.cond (.t 29) (.seq (.ops [⟨(some 30), none, .mv (.t 0)⟩, ⟨(some 31), none, .mv (.t 5)⟩, ⟨(some 32), none, .mv (.t 7)⟩, ⟨(some 33), none, .idxS 1 (.t 30) (.t 31)⟩, ⟨none, none, .store 1 (.t 33) (.t 32)⟩])
  (.ops [⟨(some 34), none, .mv (.t 5)⟩, ⟨(some 35), none, .bin .add (.t 34) (.c (.int .i64 1))⟩, ⟨(some 5), none, .mv (.t 35)⟩])) .skip))))
  (.ops [⟨(some 20), none, .mv (.t 6)⟩, ⟨(some 21), none, .bin .add (.t 20) (.c (.int .i64 1))⟩, ⟨(some 6), none, .mv (.t 21)⟩])))
def k74 : KC := (.seq (.ops [⟨(some 4), none, .mv (.c (.nils))⟩])
  (.seq (.ops [⟨(some 8), none, .mv (.t 0)⟩, ⟨(some 9), none, .mv (.t 1)⟩, ⟨(some 10), none, .call (.c (.fn (.func 123) [] [])) [(.t 8), (.t 9)]⟩, ⟨(some 5), none, .mv (.t 10)⟩])
  (.seq (.seq (.ops [⟨(some 11), none, .mv (.t 5)⟩, ⟨(some 12), none, .bin .eql (.t 11) (.c (.int .i64 (-1)))⟩])
  (.cond (.t 12) (.seq (.ops [⟨(some 13), none, .mv (.t 0)⟩, ⟨(some 4), none, .mv (.t 13)⟩])
  .ret) .skip))
  (.seq (.seq (.ops [⟨(some 14), none, .mv (.t 5)⟩, ⟨(some 15), none, .bin .add (.t 14) (.c (.int .i64 1))⟩, ⟨(some 6), none, .mv (.t 15)⟩])
  (.block 0 (.loop k74_b0)))
  (.seq (.ops [⟨(some 36), none, .mv (.t 0)⟩, ⟨(some 37), none, .mv (.t 5)⟩, ⟨(some 38), none, .sls 1 (.t 36) (some (.t 37)) none⟩, ⟨none, none, .clr 1 (.int .i64 0) (.t 38)⟩])
  (.seq (.ops [⟨(some 39), none, .mv (.t 0)⟩, ⟨(some 40), none, .mv (.t 5)⟩, ⟨(some 41), none, .sls 1 (.t 39) none (some (.t 40))⟩, ⟨(some 4), none, .mv (.t 41)⟩])
  .ret))))))
theorem e74 {args : List PV} {σ : Heap} {K : PV → Heap → Prop} (hl : args.length ≤ 42) (h : Wf σ → (∀ a ∈ args, PV.upto σ.length a) → vc (mkCfg Try.prog mixed [] 42 σ.length) k74 (FinK σ.length [.t 4] K) (argEnv 0 args) σ) : ACall Try.prog 74 args σ K :=
  ACall_enter (C := mkCfg Try.prog mixed [] 42 σ.length) (c := Try.f74.body.getD .skip) Try.func74 (by kernel_rfl) (by kernel_rfl) (by kernel_rfl) rfl hl (by kernel_rfl) (by kernel_rfl) h
/- impl.points -/
/- live [3, 5, 6] -/
def k50_b0 : KC := (.seq (.ops [⟨(some 7), none, .bin .lss (.t 6) (.t 5)⟩])
  (.seq (.cond (.t 7) .skip (.exit 0))
  (.seq (.block 1 (.seq (.ops [⟨(some 8), none, .mv (.t 6)⟩, ⟨(some 4), none, .mv (.t 8)⟩])
  (.ops [⟨(some 9), none, .mv (.t 3)⟩, ⟨(some 10), none, .mv (.t 4)⟩, ⟨(some 11), none, .bsl true 2 1 [(.t 10)]⟩, ⟨(some 12), none, .app (.t 9) (.t 11) 2 1⟩, ⟨(some 3), none, .mv (.t 12)⟩])))
  (.ops [⟨(some 13), none, .bin .add (.t 6) (.c (.int .i64 1))⟩, ⟨(some 6), none, .mv (.t 13)⟩]))))
def k50 : KC := (.seq (.ops [⟨(some 2), none, .mv (.c (.nils))⟩])
  (.seq (.ops [⟨(some 3), none, .mv (.c (.nils))⟩])
  (.seq (.seq (.ops [⟨(some 5), none, .mv (.t 0)⟩, ⟨(some 6), none, .mv (.c (.int .i64 0))⟩])
  (.block 0 (.loop k50_b0)))
  (.seq (.ops [⟨(some 14), none, .mv (.t 3)⟩, ⟨(some 2), none, .mv (.t 14)⟩])
  .ret))))
theorem e50 {args : List PV} {σ : Heap} {K : PV → Heap → Prop} (hl : args.length ≤ 15) (h : Wf σ → (∀ a ∈ args, PV.upto σ.length a) → vc (mkCfg Try.prog mixed [11] 15 σ.length) k50 (FinK σ.length [.t 2] K) (argEnv 0 args) σ) : ACall Try.prog 50 args σ K :=
  ACall_enter (C := mkCfg Try.prog mixed [11] 15 σ.length) (c := Try.f50.body.getD .skip) Try.func50 (by kernel_rfl) (by kernel_rfl) (by kernel_rfl) rfl hl (by kernel_rfl) (by kernel_rfl) h
end Go.Proofs.Ytpepbomifjbgnaa
namespace Go.Proofs.Ytpepbomifjbgnaa
open Go.Kv
set_option linter.unusedVariables false
set_option linter.unusedSimpArgs false
attribute [local irreducible] ACall PCall KL
/-- The numbers below n. -/
def pts (n : Nat) : List Int := mk n fun i => (i : Int)
theorem p50 (n : Nat) (hn : 1 ≤ n ∧ n ≤ 4294967296) : ACall Try.prog 50 [.int .i64 n] [] (fun v s => v = .ref 0 (n - 1) 0 (pts n).length ∧ s = [.arr (n - 1) 2 1 (ints (pts n))]) := by
  refine e50 (by simp) fun _ _ => ?_
  simp only [k50, argEnv, go_sem, ↓reduceIte, Nat.reduceEqDiff, Nat.reduceAdd, reduceCtorEq]
  refine KL_ind k50_b0.eq_1 (fun x : Nat => [(6, .int .i64 x), (5, .int .i64 n), (3, if x = 0 then .nils else .ref 0 (x - 1) 0 x)]) (fun x => if x = 0 then [] else [.arr (x - 1) 2 1 (ints (pts x))]) (fun x => x ≤ n) (fun x => n - x) [6, 5, 3] 0 rfl (by simp) (Nat.zero_le _) fun x hi ih => ?_
  simp only [go_sem, ↓reduceIte, Nat.reduceEqDiff, Nat.reduceAdd, reduceCtorEq]
  refine ⟨fun hx => ?_, fun hx => ?_⟩
  · rcases x with _ | x
    · simp only [go_sem, ↓reduceIte, Nat.reduceEqDiff, Nat.reduceAdd, reduceCtorEq]
      repeat' (first | refine And.intro ?_ ?_ | intro _)
      all_goals (try omega)
      refine ih 1 (by omega) (by omega) _ _ ?_ ?_
      · simp [keep]
      · simp [pts, mk, ints]
    · have hne : ¬ (x + 1 = 0) := by omega
      simp only [hne, if_false, Nat.add_sub_cancel]
      simp only [go_sem, ↓reduceIte, Nat.reduceEqDiff, Nat.reduceAdd, reduceCtorEq]
      have hl : (pts (x + 1)).length = x + 1 := by simp [pts]
      repeat' (first | refine And.intro ?_ ?_ | intro _)
      all_goals (try omega)
      refine ih (x + 1 + 1) (by omega) (by omega) _ _ ?_ ?_
      · simp [keep]
      · rw [List.take_of_length_le (by omega)]
        have := mk_succ (x + 1) fun i => (i : Int)
        simp only [pts] at this ⊢
        rw [this]
        rfl
  · obtain rfl : x = n := by omega
    have hne : ¬ (x = 0) := by omega
    simp only [hne, if_false]
    simp only [go_sem, ↓reduceIte, Nat.reduceEqDiff, Nat.reduceAdd, reduceCtorEq]
    refine Kv.Fin.now ⟨?_, rfl⟩
    simp [pts]
theorem p74 (ver : Nat) (l : List Int) (hl : l.length ≤ 4294967296) (fid : FuncId) (caps : List PV) (hc : ∀ c ∈ caps, PV.upto 0 c) (p : Int → Bool) (hp : ∀ x ∈ l, Pure Try.prog fid (.int .i64 x :: caps) (.bool (p x))) :
    ACall Try.prog 74 [.ref 0 ver 0 l.length, .fn (.func fid) [] caps] [.arr ver 2 1 (ints l)] (fun v s => v = .ref 0 ver 0 (l.filter fun x => !p x).length ∧ ∃ post, s = [.arr ver 2 1 (ints ((l.filter fun x => !p x) ++ post))]) := by
  refine e74 (by simp) fun _ _ => ?_
  simp only [k74, argEnv, go_sem, ↓reduceIte, Nat.reduceEqDiff, Nat.reduceAdd, reduceCtorEq]
  refine (p123 l hl fid caps hc p hp).use (.int _ _) (.cons (.refi rfl) (.cons (Imm.fnc _ (up_self hc)) (.nil _))) ?_
  simp only [go_sem, ↓reduceIte, Nat.reduceEqDiff, Nat.reduceAdd, reduceCtorEq]
  cases hany : l.any p with
  | false =>
    rw [idx_none hany]
    repeat' (first | refine And.intro ?_ ?_ | intro _)
    all_goals (try omega)
    refine Kv.Fin.now ⟨by rw [filter_none hany], [], by rw [filter_none hany, List.append_nil]⟩
  | true =>
    obtain ⟨i0, hi0, hno, hyes⟩ := any_split hany
    rw [idx_some hi0 hno hyes]
    refine ⟨fun h => by omega, fun h => ⟨by omega, ?_⟩⟩
    refine KL_ind k74_b0.eq_1 (fun x : Nat × List Int => [(6, .int .i64 x.1), (5, .int .i64 ((l.take x.1).filter fun x => !p x).length), (0, .ref 0 ver 0 l.length), (1, .fn (.func fid) [] caps)])
      (fun x => [.arr ver 2 1 (ints (((l.take x.1).filter fun x => !p x) ++ x.2 ++ l.drop x.1))])
      (fun x => x.1 ≤ l.length ∧ ((l.take x.1).filter fun x => !p x).length + x.2.length = x.1 ∧ 1 ≤ x.2.length) (fun x => l.length - x.1) [6, 5, 0, 1] (i0 + 1, [l[i0]]) ?_ ?_ ?_ fun ⟨x, J⟩ ⟨hx, hJ, hJ1⟩ ih => ?_
    · simp [keep, filter_take_succ hi0, hyes, filter_none hno]; omega
    · simp only [filter_take_succ hi0, hyes, filter_none hno]
      simp
    · refine ⟨by show i0 + 1 ≤ l.length; omega, ?_, by simp⟩
      simp [filter_take_succ hi0, hyes, filter_none hno]; omega
    · simp only at hx hJ hJ1
      generalize hF : (l.take x).filter (fun x => !p x) = F at *
      have hdl : (l.drop x).length = l.length - x := by simp
      have hJe : J = J.headD 0 :: J.tail := by
        cases J with
        | nil => simp at hJ1
        | cons a J => rfl
      simp only [go_sem, hdl, ↓reduceIte, Nat.reduceEqDiff, Nat.reduceAdd, reduceCtorEq]
      refine ⟨fun h1 => ?_, fun h1 => ?_⟩
      · have hxl : x < l.length := by omega
        have hg : (F ++ J ++ l.drop x).getD x 0 = l[x] := by
          rw [List.getD_eq_getElem?_getD, List.getElem?_append_right (by simp; omega)]
          have : x - (F ++ J).length = 0 := by simp; omega
          rw [this, List.getElem?_drop, Nat.add_zero, List.getElem?_eq_getElem hxl]; rfl
        rw [hg]
        refine ⟨by omega, by omega, fun h2 => ?_⟩
        refine (hp _ (List.getElem_mem hxl)).use (.bool _) (.cons (.int _ _ _) (up_self hc)) ?_
        simp only [go_sem, hdl, ↓reduceIte, Nat.reduceEqDiff, Nat.reduceAdd, reduceCtorEq]
        refine ⟨fun h3 => ?_, fun h3 => ⟨by omega, ?_⟩⟩
        · have hset : (F ++ J ++ l.drop x).set F.length l[x] = (F ++ [l[x]]) ++ J.tail ++ l.drop x := by
            rw [List.append_assoc, List.set_append_right _ _ (Nat.le_refl _), Nat.sub_self, hJe]
            simp
          have hf1 : ((l.take (x + 1)).filter fun x => !p x) = F ++ [l[x]] := by rw [filter_take_succ hxl, hF, if_pos (by simp [h3])]
          rw [hset]
          repeat' (first | refine And.intro ?_ ?_ | intro _)
          all_goals (try omega)
          refine ih (x + 1, J.tail ++ [l[x]]) ⟨by show x + 1 ≤ l.length; omega, ?_, by simp⟩ (by show l.length - (x + 1) < l.length - x; omega) _ _ ?_ ?_
          · show ((l.take (x + 1)).filter fun x => !p x).length + (J.tail ++ [l[x]]).length = x + 1
            rw [hf1]
            simp only [List.length_append, List.length_tail, List.length_cons, List.length_nil]; omega
          · simp only [keep, hf1, List.map_cons, List.map_nil, look_cons, ↓reduceIte, Nat.reduceEqDiff, reduceCtorEq, List.length_append, List.length_cons, List.length_nil]
            rfl
          · rw [hf1, List.drop_eq_getElem_cons hxl]; simp
        · have hf1 : ((l.take (x + 1)).filter fun x => !p x) = F := by rw [filter_take_succ hxl, hF, if_neg (by simp [h3]), List.append_nil]
          refine ih (x + 1, J ++ [l[x]]) ⟨by show x + 1 ≤ l.length; omega, ?_, by simp⟩ (by show l.length - (x + 1) < l.length - x; omega) _ _ ?_ ?_
          · show ((l.take (x + 1)).filter fun x => !p x).length + (J ++ [l[x]]).length = x + 1
            rw [hf1]
            simp only [List.length_append, List.length_cons, List.length_nil]; omega
          · simp only [keep, hf1, List.map_cons, List.map_nil, look_cons, ↓reduceIte, Nat.reduceEqDiff, reduceCtorEq]
            rfl
          · rw [hf1, List.drop_eq_getElem_cons hxl]; simp
      · obtain rfl : x = l.length := by omega
        rw [List.take_length] at hF
        rw [hF]
        repeat' (first | refine And.intro ?_ ?_ | intro _)
        all_goals (try omega)
        have e : (F ++ J ++ l.drop l.length).take F.length = F := by rw [List.append_assoc, List.take_left]
        rw [e]
        exact Kv.Fin.now ⟨rfl, _, by rw [List.append_assoc]⟩
def isI (t : List (List Int)) (v : Int) : Bool := decide (tat t v.toNat v.toNat = v)
def idl (t : List (List Int)) (x : Nat) : List Int := (pts x).filter (isI t)
theorem idl_succ (t : List (List Int)) (x : Nat) : idl t (x + 1) = idl t x ++ (if tat t x x = x then [(x : Int)] else []) := by
  simp only [idl, pts, mk_succ, List.filter_append]
  congr 1
  by_cases h : tat t x x = x <;> simp [isI, h]
theorem idl_len (t : List (List Int)) (x : Nat) : (idl t x).length ≤ x := by
  have := List.length_filter_le (isI t) (pts x)
  simpa [idl, pts] using this
theorem upto_fptr' {cs : List PV} (o : Nat) (h : ∀ c ∈ cs, PV.upto 0 c) : PV.upto 0 (.fptr cs o) := fun φ ι v hr => by
  cases hr with
  | fptr _ _ b o' C hb hok g hg hh => exact .fptr cs o b o' C hb hok g hg fun j c hc => h c (List.mem_of_getElem? hc) _ _ _ (hh j c hc)
theorem up_rows (t : List (List Int)) : ∀ c ∈ [PV.fptr [.list (rows t)] 0], PV.upto 0 c := up1 (upto_fptr' 0 (up1 (upto_rows 0 t)))
end Go.Proofs.Ytpepbomifjbgnaa
end
section
/- All maps of n points. -/
namespace Go.Proofs.Ytpepbomifjbgnaa
open Go.Kv
set_option maxRecDepth 100000
end Go.Proofs.Ytpepbomifjbgnaa
namespace Go.Proofs.Ytpepbomifjbgnaa
open Go.Kv
set_option linter.unusedVariables false
set_option linter.unusedSimpArgs false
attribute [local irreducible] ACall PCall KL
/-- The last j digits of k in base n, the greatest first. -/
def dg (n : Nat) : Nat → Nat → List Nat
  | 0, _ => []
  | j + 1, k => (k / n ^ j % n) :: dg n j k
@[simp] theorem dg_length (n : Nat) : ∀ j k, (dg n j k).length = j
  | 0, k => rfl
  | j + 1, k => by simp [dg, dg_length n j k]
theorem dg_lt {n : Nat} (hn : 1 ≤ n) : ∀ j k, ∀ x ∈ dg n j k, x < n
  | 0, k, x, h => by simp [dg] at h
  | j + 1, k, x, h => by
    simp only [dg, List.mem_cons] at h
    rcases h with rfl | h
    · exact Nat.mod_lt _ hn
    · exact dg_lt hn j k x h
theorem dg_ok {n : Nat} (h : 1 ≤ n) (h' : n ≤ 5) (k : Nat) : Ok (dg n n k) n := ⟨dg_length _ _ _, h, h', dg_lt h n k⟩
/-- All maps of n points, in order. -/
def allM (n : Nat) : List (List Nat) := (List.range (n ^ n)).map (dg n n)
def fstM (n x : Nat) : List (List Int) := (List.range x).map fun k => mp (dg n n k)
@[simp] theorem fstM_length (n x : Nat) : (fstM n x).length = x := by simp [fstM]
theorem fstM_succ (n x : Nat) : fstM n x ++ [mp (dg n n x)] = fstM n (x + 1) := by simp [fstM, List.range_succ]
theorem fstM_all (n : Nat) : fstM n (n ^ n) = (allM n).map mp := by simp [fstM, allM, Function.comp_def]
theorem nn_le : ∀ n < 6, n ^ n ≤ 3125 := by decide
theorem dg_step {n j k : Nat} (hj : j < n) : (List.replicate (n - j) 0 ++ dg n j k).set (n - j - 1) (k / n ^ j % n) = List.replicate (n - (j + 1)) 0 ++ dg n (j + 1) k := by
  have e : n - j = (n - (j + 1)) + 1 := by omega
  rw [e, List.replicate_succ', List.append_assoc, List.set_append_right _ _ (by simp)]
  simp [dg]
theorem pw_le {n : Nat} (h1 : 1 ≤ n) (h5 : n ≤ 5) {x : Nat} (hx : x ≤ n) : n ^ x ≤ 3125 := Nat.le_trans (Nat.pow_le_pow_right h1 hx) (nn_le n (by omega))
end Go.Proofs.Ytpepbomifjbgnaa
end
section
/- Images of sets of points, ranks, permutations. -/
namespace Go.Proofs.Ytpepbomifjbgnaa
open Go.Kv
set_option maxRecDepth 100000
/- (impl.Map).image -/
/- live [2, 5, 8, 9, 10] -/
def k79_b0 : KC := (.seq (.ops [⟨(some 11), none, .bin .lss (.t 10) (.t 9)⟩])
  (.seq (.cond (.t 11) .skip (.exit 0))
  (.seq (.block 1 (.seq (.ops [⟨(some 12), none, .idxS 1 (.t 8) (.t 10)⟩, ⟨(some 13), none, .load false 1 (.t 12)⟩, ⟨(some 7), none, .mv (.t 13)⟩])
  (.ops [⟨(some 14), none, .mv (.t 5)⟩, ⟨(some 15), none, .mv (.t 7)⟩, ⟨(some 16), none, .fieldA 1 (.t 2)⟩, ⟨(some 17), none, .idxA 5 1 (.t 16) (.t 15)⟩, ⟨(some 18), none, .load false 1 (.t 17)⟩, ⟨(some 19), none, .bsl true 2 1 [(.t 18)]⟩, ⟨(some 20), none, .app (.t 14) (.t 19) 2 1⟩, ⟨(some 5), none, .mv (.t 20)⟩])))
  (.ops [⟨(some 21), none, .bin .add (.t 10) (.c (.int .i64 1))⟩, ⟨(some 10), none, .mv (.t 21)⟩]))))
def k79 : KC := (.seq (.ops [⟨(some 2), none, .box true (.t 0)⟩, ⟨(some 4), none, .mv (.c (.nils))⟩])
  (.seq (.ops [⟨(some 5), none, .mv (.c (.nils))⟩])
  (.seq (.seq (.ops [⟨(some 8), none, .mv (.t 1)⟩, ⟨(some 9), none, .len false (.t 8)⟩, ⟨(some 10), none, .mv (.c (.int .i64 0))⟩])
  (.block 0 (.loop k79_b0)))
  (.seq (.ops [⟨(some 22), none, .mv (.t 5)⟩, ⟨(some 23), none, .call (.c (.fn (.func 96) [] [])) [(.t 22)]⟩])
  (.seq (.ops [⟨(some 24), none, .mv (.t 5)⟩, ⟨(some 25), none, .call (.c (.fn (.func 125) [] [])) [(.t 24)]⟩, ⟨(some 4), none, .mv (.t 25)⟩])
  .ret)))))
theorem e79 {args : List PV} {σ : Heap} {K : PV → Heap → Prop} (hl : args.length ≤ 26) (h : Wf σ → (∀ a ∈ args, PV.upto σ.length a) → vc (mkCfg Try.prog mixed [2, 19] 26 σ.length) k79 (FinK σ.length [.t 4] K) (argEnv 0 args) σ) : ACall Try.prog 79 args σ K :=
  ACall_enter (C := mkCfg Try.prog mixed [2, 19] 26 σ.length) (c := Try.f79.body.getD .skip) Try.func79 (by kernel_rfl) (by kernel_rfl) (by kernel_rfl) rfl hl (by kernel_rfl) (by kernel_rfl) h
end Go.Proofs.Ytpepbomifjbgnaa
namespace Go.Proofs.Ytpepbomifjbgnaa
open Go.Kv
set_option linter.unusedVariables false
set_option linter.unusedSimpArgs false
attribute [local irreducible] ACall PCall KL
def insI (x : Int) : List Int → List Int
  | [] => [x]
  | y :: l => if x ≤ y then x :: y :: l else y :: insI x l
/-- The list in order. -/
def srt : List Int → List Int
  | [] => []
  | x :: l => insI x (srt l)
theorem insI_perm (x : Int) : ∀ l, (insI x l).Perm (x :: l)
  | [] => .refl _
  | y :: l => by
    unfold insI
    split
    · exact .refl _
    · exact ((insI_perm x l).cons y).trans (.swap x y l)
theorem srt_perm : ∀ l, (srt l).Perm l
  | [] => .refl _
  | x :: l => (insI_perm x _).trans ((srt_perm l).cons x)
theorem insI_sorted (x : Int) : ∀ l : List Int, l.Pairwise (· ≤ ·) → (insI x l).Pairwise (· ≤ ·)
  | [], _ => by simp [insI]
  | y :: l, h => by
    rw [List.pairwise_cons] at h
    unfold insI
    split
    · rename_i hx
      refine List.pairwise_cons.2 ⟨fun z hz => ?_, List.pairwise_cons.2 h⟩
      rcases List.mem_cons.1 hz with rfl | hz
      · exact hx
      · exact Int.le_trans hx (h.1 z hz)
    · rename_i hx
      refine List.pairwise_cons.2 ⟨fun z hz => ?_, insI_sorted x l h.2⟩
      rcases List.mem_cons.1 ((insI_perm x l).mem_iff.1 hz) with rfl | hz
      · omega
      · exact h.1 z hz
theorem srt_sorted : ∀ l, (srt l).Pairwise (· ≤ ·)
  | [] => .nil
  | x :: l => insI_sorted x _ (srt_sorted l)
theorem sorted_uniq : ∀ {r s : List Int}, r.Perm s → r.Pairwise (· ≤ ·) → s.Pairwise (· ≤ ·) → r = s
  | [], s, h, _, _ => (h.nil_eq)
  | x :: r, [], h, _, _ => by have := h.length_eq; simp at this
  | x :: r, y :: s, h, hr, hs => by
    rw [List.pairwise_cons] at hr hs
    have e : x = y := by
      have h1 : x ∈ y :: s := h.mem_iff.1 (by simp)
      have h2 : y ∈ x :: r := h.mem_iff.2 (by simp)
      rcases List.mem_cons.1 h1 with h1 | h1
      · exact h1
      · rcases List.mem_cons.1 h2 with h2 | h2
        · exact h2.symm
        · have := hs.1 x h1; have := hr.1 y h2; omega
    subst e
    rw [sorted_uniq (List.Perm.cons_inv h) hr.2 hs.2]
theorem srt_eq {r l : List Int} (h : r.Perm l) (hr : r.Pairwise (· ≤ ·)) : r = srt l := sorted_uniq (h.trans (srt_perm l).symm) hr (srt_sorted l)
@[simp] theorem srt_length (l : List Int) : (srt l).length = l.length := (srt_perm l).length_eq
/-- Nothing is left out just where nothing stands twice. -/
theorem cpt_nodup : ∀ r : List Int, r.Pairwise (· ≤ ·) → (cpt r).length ≤ r.length ∧ ((cpt r).length = r.length ↔ r.Nodup)
  | [], _ => by simp [cpt]
  | [a], _ => by simp [cpt]
  | a :: b :: l, h => by
    rw [List.pairwise_cons] at h
    obtain ⟨h1, h2⟩ := cpt_nodup (b :: l) h.2
    rw [cpt_two]
    by_cases e : a = b
    · rw [if_pos e]
      refine ⟨by simp at h1 ⊢; omega, ⟨fun h3 => by simp at h1 h3; omega, fun h3 => ?_⟩⟩
      rw [List.nodup_cons] at h3
      exact absurd (by rw [e]; simp) h3.1
    · rw [if_neg e]
      refine ⟨by simp at h1 ⊢; omega, ?_⟩
      have hna : a ∉ b :: l := fun hm => by
        rcases List.mem_cons.1 hm with hm | hm
        · exact e hm
        · have g1 := h.1 b (by simp)
          have g2 := (List.pairwise_cons.1 h.2).1 a hm
          omega
      rw [List.nodup_cons, ← h2]
      simp [hna]
theorem sortN (σ : Heap) (id ver : Nat) (e : TypeId) (l : List Int) (k : Nat) (hk : k = l.length) (hid : σ[id]? = some (.arr ver e 1 (ints l))) (hn : l.length ≤ 12) {K : PV → Heap → Prop} (hK : ∀ r : List Int, r.Perm l → r.Pairwise (· ≤ ·) → K (.tup []) (σ.set id (.arr ver e 1 (ints r)))) :
    ACall Try.prog 96 [.ref id ver 0 k] σ K := by
  subst hk; exact p96 σ id ver e l hid hn hK
theorem compactN (σ : Heap) (id ver : Nat) (e : TypeId) (r : List Int) (k : Nat) (hk : k = r.length) (hid : σ[id]? = some (.arr ver e 1 (ints r))) (hn : r.length ≤ 4294967296) {K : PV → Heap → Prop} (hK : ∀ post : List Int, K (.ref id ver 0 (cpt r).length) (σ.set id (.arr ver e 1 (ints (cpt r ++ post))))) :
    ACall Try.prog 125 [.ref id ver 0 k] σ K := by
  subst hk; exact p125 σ id ver e r hid hn hK
/-- The images of points, in order. -/
def imgs (f : List Nat) (l : List Nat) : List Int := cpt (srt (l.map fun p => (f.getD p 0 : Int)))
theorem p79 (f : List Nat) (n : Nat) (hf : Ok f n) (l : List Nat) (hl : ∀ x ∈ l, x < n) (h1 : 1 ≤ l.length) (h12 : l.length ≤ 12) : Pure Try.prog 79 [.agg (ints (mp f)), .list (ints (l.map fun x : Nat => (x : Int)))] (.list (ints (imgs f l))) := by
  have hlf := hf.mp_len
  have h5 := hf.le
  refine e79 (by simp) fun _ _ => ?_
  simp only [k79, argEnv, hlf, List.length_map, take6, List.drop_zero, Int.cast_ofNat_Int, go_sem, ↓reduceIte, Nat.reduceEqDiff, Nat.reduceAdd, Nat.reduceMul, Nat.reduceLeDiff, Nat.reduceLT, Int.reduceLE, Int.reduceLT, reduceCtorEq]
  refine KL_ind k79_b0.eq_1 (fun x : Nat => [(2, .fptr (ints (mp f)) 0), (5, nref 0 x), (8, .list (ints (l.map fun x : Nat => (x : Int)))), (9, .int .i64 l.length), (10, .int .i64 x)]) (fun x => nhp [.arr (x - 1) 2 1 (ints ((l.take x).map fun p => (f.getD p 0 : Int)))] x) (fun x => x ≤ l.length) (fun x => l.length - x) [2, 5, 8, 9, 10] 0 (by rfl) (by rfl) (Nat.zero_le _) fun x hx ih => ?_
  have hgl : ∀ x, x < l.length → l.getD x 0 < n := fun x hx => by
    rw [List.getD_eq_getElem?_getD, List.getElem?_eq_getElem hx]
    exact hl _ (List.getElem_mem hx)
  have hsn : ∀ x, x < l.length → (l.take (x + 1)).map (fun p => (f.getD p 0 : Int)) = (l.take x).map (fun p => (f.getD p 0 : Int)) ++ [(f.getD (l.getD x 0) 0 : Int)] := fun x hx => by
    rw [List.take_succ_eq_append_getElem hx, List.map_append]
    simp [List.getD_eq_getElem?_getD, hx]
  have hn0 : ∀ k : Nat, (k : Int).toNat = k := fun k => by omega
  try simp only [hlf, natD, List.length_map, hn0, take6, List.drop_zero, Int.cast_ofNat_Int, go_sem, ↓reduceIte, Nat.reduceEqDiff, Nat.reduceAdd, Nat.reduceMul, Nat.reduceLeDiff, Nat.reduceLT, Int.reduceLE, Int.reduceLT, reduceCtorEq]
  refine ⟨fun h2 => ?_, fun h2 => ?_⟩
  · have hxl : x < l.length := by omega
    have hgx := hgl x hxl
    rcases x with _ | x
    · try simp only [hlf, natD, List.length_map, hn0, take6, List.drop_zero, Int.cast_ofNat_Int, go_sem, ↓reduceIte, Nat.reduceEqDiff, Nat.reduceAdd, Nat.reduceMul, Nat.reduceLeDiff, Nat.reduceLT, Int.reduceLE, Int.reduceLT, reduceCtorEq]
      refine ⟨by omega, fun _ => ⟨by omega, by omega, fun _ => ⟨by omega, ih 1 (by omega) (by omega) _ _ (by rfl) ?_⟩⟩⟩
      show _ = [AObj.arr 0 2 1 (ints ((l.take (0 + 1)).map fun p => (f.getD p 0 : Int)))]
      rw [hsn 0 hxl]; rfl
    · have hlt : (l.take (x + 1)).length = x + 1 := by simp; omega
      try simp only [hlf, natD, List.length_map, hn0, hlt, take6, List.drop_zero, Int.cast_ofNat_Int, go_sem, ↓reduceIte, Nat.reduceEqDiff, Nat.reduceAdd, Nat.reduceMul, Nat.reduceLeDiff, Nat.reduceLT, Int.reduceLE, Int.reduceLT, reduceCtorEq]
      refine ⟨by omega, fun _ => ⟨by omega, by omega, fun _ => ⟨by omega, by omega, ih (x + 1 + 1) (by omega) (by omega) _ _ (by rfl) ?_⟩⟩⟩
      show _ = [AObj.arr (x + 1) 2 1 (ints ((l.take (x + 1 + 1)).map fun p => (f.getD p 0 : Int)))]
      rw [hsn (x + 1) hxl, List.take_of_length_le (by simp; omega)]
  · obtain rfl : x = l.length := by omega
    rw [nref_pos (by omega), nhp_pos (by omega), List.take_length]
    try simp only [take6, List.drop_zero, Int.cast_ofNat_Int, go_sem, ↓reduceIte, Nat.reduceEqDiff, Nat.reduceAdd, Nat.reduceMul, Nat.reduceLeDiff, Nat.reduceLT, Int.reduceLE, Int.reduceLT, reduceCtorEq]
    refine sortN _ 0 (l.length - 1) 2 (l.map fun p => (f.getD p 0 : Int)) l.length (by simp) rfl (by simp; omega) fun r hp hS => ?_
    have hrl : l.length = r.length := by have := hp.length_eq; simpa using this.symm
    try simp only [take6, List.drop_zero, Int.cast_ofNat_Int, go_sem, ↓reduceIte, Nat.reduceEqDiff, Nat.reduceAdd, Nat.reduceMul, Nat.reduceLeDiff, Nat.reduceLT, Int.reduceLE, Int.reduceLT, reduceCtorEq]
    refine compactN _ 0 (l.length - 1) 2 r l.length hrl rfl (by omega) fun post => ?_
    try simp only [take6, List.drop_zero, Int.cast_ofNat_Int, go_sem, ↓reduceIte, Nat.reduceEqDiff, Nat.reduceAdd, Nat.reduceMul, Nat.reduceLeDiff, Nat.reduceLT, Int.reduceLE, Int.reduceLT, reduceCtorEq]
    have hr := srt_eq hp hS
    subst hr
    exact Kv.Fin.freeze (Imm.refp (pre := []) (l := imgs f l) (post := post) rfl rfl rfl) ⟨rfl, rfl⟩
theorem points_pure (n : Nat) (hn : 1 ≤ n ∧ n ≤ 4294967296) : Pure Try.prog 50 [.int .i64 n] (.list (ints ((List.range n).map fun x : Nat => (x : Int)))) :=
  ACall.ret (p50 n hn) fun v s ⟨hv, hs⟩ => by
    subst hv; subst hs
    have e : pts n = (List.range n).map fun x : Nat => (x : Int) := rfl
    rw [← e]
    exact Kv.Fin.freeze (Imm.refi rfl) ⟨rfl, rfl⟩
theorem map_getD_range (f : List Nat) : (List.range f.length).map (fun p => (f.getD p 0 : Int)) = f.map fun x : Nat => (x : Int) := by
  apply List.ext_getElem (by simp)
  intro i h1 h2
  simp at h1 h2
  simp [List.getD_eq_getElem?_getD, h1]
/-- A map has as many images as points just where no image stands twice. -/
theorem rank_nodup {f : List Nat} {n : Nat} (hf : Ok f n) : (imgs f (List.range n)).length = n ↔ f.Nodup := by
  have h := (cpt_nodup _ (srt_sorted (f.map fun x : Nat => (x : Int)))).2
  rw [srt_length, List.length_map, hf.len, (srt_perm _).nodup_iff] at h
  unfold imgs
  rw [← hf.len, map_getD_range, hf.len, h]
  rw [List.nodup_iff_pairwise_ne, List.nodup_iff_pairwise_ne, List.pairwise_map]
  constructor
  · intro h; exact h.imp fun h' e => h' (by rw [e])
  · intro h; exact h.imp fun h' e => h' (by omega)
end Go.Proofs.Ytpepbomifjbgnaa
end
section
/- Sets of points: as ascending lists, as bits. -/
namespace Go.Proofs.Ytpepbomifjbgnaa
open Go.Kv
set_option maxRecDepth 100000
/- impl.isSet -/
/- live [0, 1, 7, 8, 9, 20, 21, 22, 23, 24, 25, 26, 27, 28, 29, 30] -/
def k134_b0 : KC := (.seq (.ops [⟨(some 10), none, .bin .lss (.t 9) (.t 8)⟩])
  (.seq (.cond (.t 10) .skip (.exit 0))
  (.seq (.block 1 (.seq (.ops [⟨(some 11), none, .mv (.t 9)⟩, ⟨(some 12), none, .idxS 1 (.t 7) (.t 9)⟩, ⟨(some 13), none, .load false 1 (.t 12)⟩, ⟨(some 5), none, .mv (.t 11)⟩, ⟨(some 6), none, .mv (.t 13)⟩])
  (.seq (.ops [⟨(some 14), none, .mv (.t 6)⟩, ⟨(some 15), none, .mv (.t 1)⟩, ⟨(some 16), none, .bin .sub (.t 15) (.c (.int .i64 1))⟩, ⟨(some 17), none, .call (.c (.fn (.func 91) [] [])) [(.t 14), (.c (.int .i64 0)), (.t 16)]⟩, ⟨(some 18), none, .not (.t 17)⟩, ⟨(some 19), none, .mv (.t 18)⟩, ⟨(some 20), some (19, false), .mv (.t 5)⟩, ⟨(some 21), some (19, false), .bin .gtr (.t 20) (.c (.int .i64 0))⟩, ⟨(some 22), some (19, false), .mv (.t 21)⟩, ⟨(some 23), some (22, true), .mv (.t 0)⟩, ⟨(some 24), some (22, true), .mv (.t 5)⟩, ⟨(some 25), some (22, true), .bin .sub (.t 24) (.c (.int .i64 1))⟩, ⟨(some 26), some (22, true), .idxS 1 (.t 23) (.t 25)⟩, ⟨(some 27), some (22, true), .load false 1 (.t 26)⟩, ⟨(some 28), some (22, true), .mv (.t 6)⟩, ⟨(some 29), some (22, true), .bin .geq (.t 27) (.t 28)⟩, ⟨(some 30), some (19, false), .pick (.t 22) (.t 29) (.c (.bool false))⟩, ⟨(some 31), none, .pick (.t 19) (.c (.bool true)) (.t 30)⟩])
  (.cond (.t 31) (.seq (.ops [⟨(some 4), none, .mv (.c (.bool false))⟩])
  .ret) .skip))))
  (.ops [⟨(some 32), none, .bin .add (.t 9) (.c (.int .i64 1))⟩, ⟨(some 9), none, .mv (.t 32)⟩]))))
def k134 : KC := (.seq (.ops [⟨(some 4), none, .mv (.c (.bool false))⟩])
  (.seq (.seq (.ops [⟨(some 7), none, .mv (.t 0)⟩, ⟨(some 8), none, .len false (.t 7)⟩, ⟨(some 9), none, .mv (.c (.int .i64 0))⟩])
  (.block 0 (.loop k134_b0)))
  (.seq (.ops [⟨(some 4), none, .mv (.c (.bool true))⟩])
  .ret)))
theorem e134 {args : List PV} {σ : Heap} {K : PV → Heap → Prop} (hl : args.length ≤ 33) (h : Wf σ → (∀ a ∈ args, PV.upto σ.length a) → vc (mkCfg Try.prog mixed [] 33 σ.length) k134 (FinK σ.length [.t 4] K) (argEnv 0 args) σ) : ACall Try.prog 134 args σ K :=
  ACall_enter (C := mkCfg Try.prog mixed [] 33 σ.length) (c := Try.f134.body.getD .skip) Try.func134 (by kernel_rfl) (by kernel_rfl) (by kernel_rfl) rfl hl (by kernel_rfl) (by kernel_rfl) h
/- spec.l01Set -/
/- live [1, 2, 5, 25, 26, 27, 28, 29, 30, 31, 32, 33, 34, 35, 36, 37, 38] -/
def k133_b0 : KC := (.seq (.seq (.ops [⟨(some 9), none, .mv (.t 5)⟩, ⟨(some 10), none, .mv (.t 1)⟩, ⟨(some 11), none, .len false (.t 10)⟩, ⟨(some 12), none, .bin .lss (.t 9) (.t 11)⟩])
  (.cond (.t 12) .skip (.exit 0)))
  (.seq (.block 1 (.seq (.draw [⟨(some 15), none, .mv (.t 1)⟩, ⟨(some 16), none, .mv (.t 5)⟩, ⟨(some 17), none, .idxS 1 (.t 15) (.t 16)⟩, ⟨(some 18), none, .load false 1 (.t 17)⟩, ⟨(some 19), none, .fieldA 0 (.t 2)⟩, ⟨(some 20), none, .load false 1 (.t 19)⟩, ⟨(some 21), none, .bin .sub (.t 20) (.c (.int .i64 1))⟩, ⟨(some 22), none, .pcall (.c (.fn (.func 90) [] [])) [(.t 18), (.c (.int .i64 0)), (.t 21)]⟩, ⟨(some 23), none, .not (.t 22)⟩, ⟨(some 24), none, .mv (.t 23)⟩, ⟨(some 25), some (24, false), .mv (.t 5)⟩, ⟨(some 26), some (24, false), .bin .gtr (.t 25) (.c (.int .i64 0))⟩, ⟨(some 27), some (24, false), .mv (.t 26)⟩, ⟨(some 28), some (27, true), .mv (.t 1)⟩, ⟨(some 29), some (27, true), .mv (.t 5)⟩, ⟨(some 30), some (27, true), .idxS 1 (.t 28) (.t 29)⟩, ⟨(some 31), some (27, true), .load false 1 (.t 30)⟩, ⟨(some 32), some (27, true), .mv (.t 1)⟩, ⟨(some 33), some (27, true), .mv (.t 5)⟩, ⟨(some 34), some (27, true), .bin .sub (.t 33) (.c (.int .i64 1))⟩, ⟨(some 35), some (27, true), .idxS 1 (.t 32) (.t 34)⟩, ⟨(some 36), some (27, true), .load false 1 (.t 35)⟩, ⟨(some 37), some (27, true), .bin .leq (.t 31) (.t 36)⟩, ⟨(some 38), some (24, false), .pick (.t 27) (.t 37) (.c (.bool false))⟩, ⟨(some 39), none, .pick (.t 24) (.c (.bool true)) (.t 38)⟩])
  (.cond (.t 39) (.seq (.ops [⟨(some 4), none, .mv (.c (.int .i64 2))⟩])
  .ret) .skip)))
  (.ops [⟨(some 13), none, .mv (.t 5)⟩, ⟨(some 14), none, .bin .add (.t 13) (.c (.int .i64 1))⟩, ⟨(some 5), none, .mv (.t 14)⟩])))
def k133 : KC := (.seq (.ops [⟨(some 2), none, .box true (.t 0)⟩, ⟨(some 4), none, .mv (.c (.int .i64 0))⟩])
  (.seq (.seq (.ops [⟨(some 6), none, .load true 6 (.t 2)⟩, ⟨(some 7), none, .call (.c (.fn (.func 98) [] [])) [(.t 6)]⟩, ⟨(some 8), none, .not (.t 7)⟩])
  (.cond (.t 8) (.seq (.ops [⟨(some 4), none, .mv (.c (.int .i64 1))⟩])
  .ret) .skip))
  (.seq (.seq (.ops [⟨(some 5), none, .mv (.c (.int .i64 0))⟩])
  (.block 0 (.loop k133_b0)))
  (.seq (.ops [⟨(some 4), none, .mv (.c (.int .i64 0))⟩])
  .ret))))
theorem e133 {args : List PV} {σ : Heap} {K : PV → Heap → Prop} (hl : args.length ≤ 40) (h : Wf σ → (∀ a ∈ args, PV.upto σ.length a) → vc (mkCfg Try.prog mixed [2] 40 σ.length) k133 (FinK σ.length [.t 4] K) (argEnv 0 args) σ) : ACall Try.prog 133 args σ K :=
  ACall_enter (C := mkCfg Try.prog mixed [2] 40 σ.length) (c := Try.f133.body.getD .skip) Try.func133 (by kernel_rfl) (by kernel_rfl) (by kernel_rfl) rfl hl (by kernel_rfl) (by kernel_rfl) h
/- spec.l01Moved -/
/- live [1, 2, 5, 6] -/
def k71_b0 : KC := (.seq (.seq (.ops [⟨(some 7), none, .mv (.t 6)⟩, ⟨(some 8), none, .fieldA 0 (.t 2)⟩, ⟨(some 9), none, .load false 1 (.t 8)⟩, ⟨(some 10), none, .bin .lss (.t 7) (.t 9)⟩])
  (.cond (.t 10) .skip (.exit 0)))
  (.seq (.block 1 (.seq (.ops [⟨(some 13), none, .mv (.t 1)⟩, ⟨(some 14), none, .mv (.t 6)⟩, ⟨(some 15), none, .conv .u64 (.t 14)⟩, ⟨(some 16), none, .bin .shr (.t 13) (.t 15)⟩, ⟨(some 17), none, .bin .and (.t 16) (.c (.int .i64 1))⟩, ⟨(some 18), none, .bin .eql (.t 17) (.c (.int .i64 1))⟩])
  (.cond (.t 18) (.ops [⟨(some 19), none, .mv (.t 5)⟩, ⟨(some 20), none, .mv (.t 6)⟩, ⟨(some 21), none, .fieldA 1 (.t 2)⟩, ⟨(some 22), none, .idxA 5 1 (.t 21) (.t 20)⟩, ⟨(some 23), none, .load false 1 (.t 22)⟩, ⟨(some 24), none, .conv .u64 (.t 23)⟩, ⟨(some 25), none, .bin .shl (.c (.int .i64 1)) (.t 24)⟩, ⟨(some 26), none, .bin .or (.t 19) (.t 25)⟩, ⟨(some 5), none, .mv (.t 26)⟩]) .skip)))
  (.ops [⟨(some 11), none, .mv (.t 6)⟩, ⟨(some 12), none, .bin .add (.t 11) (.c (.int .i64 1))⟩, ⟨(some 6), none, .mv (.t 12)⟩])))
def k71 : KC := (.seq (.ops [⟨(some 2), none, .box true (.t 0)⟩, ⟨(some 4), none, .mv (.c (.int .i64 0))⟩])
  (.seq (.ops [⟨(some 5), none, .mv (.c (.int .i64 0))⟩])
  (.seq (.seq (.ops [⟨(some 6), none, .mv (.c (.int .i64 0))⟩])
  (.block 0 (.loop k71_b0)))
  (.seq (.ops [⟨(some 27), none, .mv (.t 5)⟩, ⟨(some 4), none, .mv (.t 27)⟩])
  .ret))))
theorem e71 {args : List PV} {σ : Heap} {K : PV → Heap → Prop} (hl : args.length ≤ 28) (h : Wf σ → (∀ a ∈ args, PV.upto σ.length a) → vc (mkCfg Try.prog mixed [2] 28 σ.length) k71 (FinK σ.length [.t 4] K) (argEnv 0 args) σ) : ACall Try.prog 71 args σ K :=
  ACall_enter (C := mkCfg Try.prog mixed [2] 28 σ.length) (c := Try.f71.body.getD .skip) Try.func71 (by kernel_rfl) (by kernel_rfl) (by kernel_rfl) rfl hl (by kernel_rfl) (by kernel_rfl) h
/- spec.l01Bits -/
/- live [0, 3, 4] -/
def k88_b0 : KC := (.seq (.seq (.ops [⟨(some 5), none, .mv (.t 4)⟩, ⟨(some 6), none, .mv (.t 0)⟩, ⟨(some 7), none, .len false (.t 6)⟩, ⟨(some 8), none, .bin .lss (.t 5) (.t 7)⟩])
  (.cond (.t 8) .skip (.exit 0)))
  (.seq (.block 1 (.ops [⟨(some 11), none, .mv (.t 3)⟩, ⟨(some 12), none, .mv (.t 0)⟩, ⟨(some 13), none, .mv (.t 4)⟩, ⟨(some 14), none, .idxS 1 (.t 12) (.t 13)⟩, ⟨(some 15), none, .load false 1 (.t 14)⟩, ⟨(some 16), none, .conv .u64 (.t 15)⟩, ⟨(some 17), none, .bin .shl (.c (.int .i64 1)) (.t 16)⟩, ⟨(some 18), none, .bin .or (.t 11) (.t 17)⟩, ⟨(some 3), none, .mv (.t 18)⟩]))
  (.ops [⟨(some 9), none, .mv (.t 4)⟩, ⟨(some 10), none, .bin .add (.t 9) (.c (.int .i64 1))⟩, ⟨(some 4), none, .mv (.t 10)⟩])))
def k88 : KC := (.seq (.ops [⟨(some 2), none, .mv (.c (.int .i64 0))⟩])
  (.seq (.ops [⟨(some 3), none, .mv (.c (.int .i64 0))⟩])
  (.seq (.seq (.ops [⟨(some 4), none, .mv (.c (.int .i64 0))⟩])
  (.block 0 (.loop k88_b0)))
  (.seq (.ops [⟨(some 19), none, .mv (.t 3)⟩, ⟨(some 2), none, .mv (.t 19)⟩])
  .ret))))
theorem e88 {args : List PV} {σ : Heap} {K : PV → Heap → Prop} (hl : args.length ≤ 20) (h : Wf σ → (∀ a ∈ args, PV.upto σ.length a) → vc (mkCfg Try.prog mixed [] 20 σ.length) k88 (FinK σ.length [.t 2] K) (argEnv 0 args) σ) : ACall Try.prog 88 args σ K :=
  ACall_enter (C := mkCfg Try.prog mixed [] 20 σ.length) (c := Try.f88.body.getD .skip) Try.func88 (by kernel_rfl) (by kernel_rfl) (by kernel_rfl) rfl hl (by kernel_rfl) (by kernel_rfl) h
end Go.Proofs.Ytpepbomifjbgnaa
namespace Go.Proofs.Ytpepbomifjbgnaa
open Go.Kv
set_option linter.unusedVariables false
set_option linter.unusedSimpArgs false
attribute [local irreducible] ACall PCall KL
/-- An ascending list of points below n. -/
def stp (l : List Int) (n : Int) (i : Nat) : Bool := decide (0 ≤ l.getD i 0 ∧ l.getD i 0 ≤ n - 1) && (decide (i = 0) || decide (l.getD (i - 1) 0 < l.getD i 0))
def stB (l : List Int) (n : Int) : Bool := (List.range l.length).all (stp l n)
theorem range_all_succ (p : Nat → Bool) (x : Nat) : (List.range (x + 1)).all p = ((List.range x).all p && p x) := by
  rw [List.range_succ, List.all_append]; simp
theorem range_all_false {p : Nat → Bool} {x n : Nat} (h : x < n) (hp : p x = false) : (List.range n).all p = false := by
  rw [List.all_eq_false]
  exact ⟨x, by simpa using h, by simp [hp]⟩
theorem p134 (l : List Int) (n : Int) (hl : l.length ≤ 1048576) (hn : 1 ≤ n ∧ n ≤ 5) : Pure Try.prog 134 [.list (ints l), .int .i64 n] (.bool (stB l n)) := by
  refine e134 (by simp) fun _ _ => ?_
  simp only [k134, argEnv, take6, List.drop_zero, Int.cast_ofNat_Int, go_sem, ↓reduceIte, Nat.reduceEqDiff, Nat.reduceAdd, Nat.reduceMul, Nat.reduceLeDiff, Nat.reduceLT, Int.reduceLE, Int.reduceLT, reduceCtorEq]
  refine KL_ind k134_b0.eq_1 (fun x : Nat => [(0, .list (ints l)), (1, .int .i64 n), (7, .list (ints l)), (8, .int .i64 l.length), (9, .int .i64 x)]) (fun _ => []) (fun x => x ≤ l.length ∧ (List.range x).all (stp l n) = true) (fun x => l.length - x) [0, 1, 7, 8, 9] 0 (by rfl) rfl ⟨Nat.zero_le _, rfl⟩ fun x ⟨hx, hall⟩ ih => ?_
  have hx1 : ((x : Int) - 1).toNat = x - 1 := by omega
  have hra := range_all_succ (stp l n) x
  rw [hall, Bool.true_and] at hra
  try simp only [OpK_eq, take6, List.drop_zero, Int.cast_ofNat_Int, go_sem, ↓reduceIte, Nat.reduceEqDiff, Nat.reduceAdd, Nat.reduceMul, Nat.reduceLeDiff, Nat.reduceLT, Int.reduceLE, Int.reduceLT, reduceCtorEq]
  refine ⟨fun h1 => ?_, fun h1 => ?_⟩
  · have hxl : x < l.length := by omega
    refine ⟨h1, fun _ => ⟨by omega, ?_⟩⟩
    refine (p91 _ _ _).go ?_
    have hst : stp l n x = (decide (0 ≤ l.getD x 0 ∧ l.getD x 0 ≤ n - 1) && (decide (x = 0) || decide (l.getD (x - 1) 0 < l.getD x 0))) := rfl
    generalize decide (0 ≤ l.getD x 0 ∧ l.getD x 0 ≤ n - 1) = b1 at *
    cases b1 with
    | false =>
      try simp only [OpK_eq, hx1, take6, List.drop_zero, Int.cast_ofNat_Int, go_sem, ↓reduceIte, Nat.reduceEqDiff, Nat.reduceAdd, Nat.reduceMul, Nat.reduceLeDiff, Nat.reduceLT, Int.reduceLE, Int.reduceLT, reduceCtorEq]
      exact Kv.Fin.still ⟨by rw [stB, range_all_false hxl (by rw [hst]; rfl)], rfl⟩
    | true =>
      rw [Bool.true_and] at hst
      try simp only [OpK_eq, hx1, take6, List.drop_zero, Int.cast_ofNat_Int, go_sem, ↓reduceIte, Nat.reduceEqDiff, Nat.reduceAdd, Nat.reduceMul, Nat.reduceLeDiff, Nat.reduceLT, Int.reduceLE, Int.reduceLT, reduceCtorEq]
      refine ⟨fun h2 => ⟨by omega, by omega, fun _ => ⟨fun h3 => ?_, fun h3 => ⟨by omega, ?_⟩⟩⟩, fun h2 => ⟨by omega, ?_⟩⟩
      · refine Kv.Fin.still ⟨by rw [stB, range_all_false hxl]; rw [hst, decide_eq_false (by omega : ¬ x = 0), decide_eq_false (by omega)]; rfl, rfl⟩
      · refine ih (x + 1) ⟨by omega, ?_⟩ (by omega) _ _ (by rfl) rfl
        rw [hra, hst, decide_eq_true (by omega : l.getD (x - 1) 0 < l.getD x 0), Bool.or_true]
      · refine ih (x + 1) ⟨by omega, ?_⟩ (by omega) _ _ (by rfl) rfl
        rw [hra, hst, decide_eq_true (by omega : x = 0), Bool.true_or]
  · obtain rfl : x = l.length := by omega
    exact Kv.Fin.still ⟨by rw [stB, hall], rfl⟩
theorem sb_ext {l m : List Nat} (h : ∀ x, x ∈ l ↔ x ∈ m) : sb l = sb m := by
  apply Nat.eq_of_testBit_eq
  intro i
  rw [sb_test, sb_test]
  simp only [h i]
theorem p88 (l : List Nat) (hl : ∀ x ∈ l, x < 5) (hn : l.length ≤ 1048576) : Pure Try.prog 88 [.list (ints (l.map fun x : Nat => (x : Int)))] (.int .i64 (sb l)) := by
  refine e88 (by simp) fun _ _ => ?_
  simp only [k88, argEnv, List.length_map, take6, List.drop_zero, Int.cast_ofNat_Int, go_sem, ↓reduceIte, Nat.reduceEqDiff, Nat.reduceAdd, Nat.reduceMul, Nat.reduceLeDiff, Nat.reduceLT, Int.reduceLE, Int.reduceLT, reduceCtorEq]
  refine KL_ind k88_b0.eq_1 (fun x : Nat => [(0, .list (ints (l.map fun x : Nat => (x : Int)))), (3, .int .i64 (sb (l.take x))), (4, .int .i64 x)]) (fun _ => []) (fun x => x ≤ l.length) (fun x => l.length - x) [0, 3, 4] 0 (by rfl) rfl (Nat.zero_le _) fun x hx ih => ?_
  have hb : sb (l.take x) < 2 ^ 62 := Nat.lt_trans (sb_lt (n := 5) fun y hy => hl y (List.mem_of_mem_take hy)) (by decide)
  have hp : l.getD x 0 < 5 := by
    rw [List.getD_eq_getElem?_getD]
    by_cases h : x < l.length
    · rw [List.getElem?_eq_getElem h]; exact hl _ (List.getElem_mem h)
    · rw [List.getElem?_eq_none (by omega)]; decide
  have hb2 : 2 ^ l.getD x 0 < 2 ^ 62 := Nat.pow_lt_pow_right (by omega) (by omega)
  have hp61 : l.getD x 0 ≤ 61 := by omega
  have hnat : (l.map fun x : Nat => (x : Int)).getD x 0 = (l.getD x 0 : Int) := by
    simp only [List.getD_eq_getElem?_getD, List.getElem?_map]; cases l[x]? <;> rfl
  try simp only [List.length_map, hnat, aConv_u64 hp61, aBin_shl1 hp61, aBin_or hb hb2, take6, List.drop_zero, Int.cast_ofNat_Int, go_sem, ↓reduceIte, Nat.reduceEqDiff, Nat.reduceAdd, Nat.reduceMul, Nat.reduceLeDiff, Nat.reduceLT, Int.reduceLE, Int.reduceLT, reduceCtorEq]
  refine ⟨fun h1 => ?_, fun h1 => ?_⟩
  · repeat' (first | refine And.intro ?_ ?_ | intro _)
    all_goals (try omega)
    refine ih (x + 1) (by omega) (by omega) _ _ ?_ rfl
    have hxl : x < l.length := by omega
    rw [List.take_succ_eq_append_getElem hxl, sb_snoc, List.getD_eq_getElem?_getD, List.getElem?_eq_getElem hxl]
    rfl
  · obtain rfl : x = l.length := by omega
    rw [List.take_length]
    exact Kv.Fin.still ⟨rfl, rfl⟩
/-- The points of a list that are images of points of a set, as far as point x. -/
def mvd (f : List Nat) (l : List Nat) (x : Nat) : List Nat := ((List.range x).filter fun p => decide (p ∈ l)).map fun p => f.getD p 0
theorem mvd_succ (f l : List Nat) (x : Nat) : mvd f l (x + 1) = mvd f l x ++ if x ∈ l then [f.getD x 0] else [] := by
  unfold mvd
  rw [List.range_succ, List.filter_append, List.map_append]
  congr 1
  by_cases h : x ∈ l <;> simp [h]
theorem mvd_all {f l : List Nat} {n : Nat} (hl : ∀ x ∈ l, x < n) : sb (mvd f l n) = sb (l.map fun p => f.getD p 0) := sb_ext fun y => by
  simp only [mvd, List.mem_map, List.mem_filter, List.mem_range, decide_eq_true_eq]
  exact ⟨fun ⟨p, ⟨_, h⟩, e⟩ => ⟨p, h, e⟩, fun ⟨p, h, e⟩ => ⟨p, ⟨hl p h, h⟩, e⟩⟩
theorem p71 (f : List Nat) (n : Nat) (hf : Ok f n) (l : List Nat) (hl : ∀ x ∈ l, x < n) : Pure Try.prog 71 [.agg (ints (mp f)), .int .i64 (sb l)] (.int .i64 (sb (l.map fun p => f.getD p 0))) := by
  have hlf := hf.mp_len
  have h5 := hf.le
  rw [← mvd_all hl]
  have hbl : sb l < 2 ^ 62 := Nat.lt_trans (sb_lt (n := 5) fun y hy => by have := hl y hy; omega) (by decide)
  refine e71 (by simp) fun _ _ => ?_
  simp only [k71, argEnv, hlf, take6, List.drop_zero, Int.cast_ofNat_Int, go_sem, ↓reduceIte, Nat.reduceEqDiff, Nat.reduceAdd, Nat.reduceMul, Nat.reduceLeDiff, Nat.reduceLT, Int.reduceLE, Int.reduceLT, reduceCtorEq]
  refine KL_ind k71_b0.eq_1 (fun x : Nat => [(1, .int .i64 (sb l)), (2, .fptr (ints (mp f)) 0), (5, .int .i64 (sb (mvd f l x))), (6, .int .i64 x)]) (fun _ => []) (fun x => x ≤ n) (fun x => n - x) [1, 2, 5, 6] 0 (by rfl) rfl (Nat.zero_le _) fun x hx ih => ?_
  have hp := hf.get' x
  have hb : sb (mvd f l x) < 2 ^ 62 := Nat.lt_trans (sb_lt (n := 5) fun y hy => by
    obtain ⟨p, _, rfl⟩ := List.mem_map.1 hy
    have := hf.get' p; omega) (by decide)
  have hb2 : 2 ^ f.getD x 0 < 2 ^ 62 := Nat.pow_lt_pow_right (by omega) (by omega)
  have hp61 : f.getD x 0 ≤ 61 := by omega
  have hx61 : x ≤ 61 := by omega
  have hs := mvd_succ f l x
  try simp only [OpK_eq, hlf, hf.len, aConv_u64 hp61, aConv_u64 hx61, aBin_shl1 hp61, aBin_or hb hb2, aBin_shr (show x ≤ 63 by omega), aBin_and1 (shr_le hbl), take6, List.drop_zero, Int.cast_ofNat_Int, go_sem, ↓reduceIte, Nat.reduceEqDiff, Nat.reduceAdd, Nat.reduceMul, Nat.reduceLeDiff, Nat.reduceLT, Int.reduceLE, Int.reduceLT, reduceCtorEq]
  refine ⟨fun h1 => ⟨fun h2 => ⟨by omega, by omega, fun _ => ⟨by omega, ?_⟩⟩, fun h2 => ⟨by omega, ?_⟩⟩, fun h1 => ?_⟩
  · rw [bit_one, sb_test, decide_eq_true_iff] at h2
    rw [if_pos h2] at hs
    refine ih (x + 1) (by omega) (by omega) _ _ ?_ rfl
    rw [hs, sb_snoc]; rfl
  · rw [bit_one, sb_test, decide_eq_true_iff] at h2
    rw [if_neg h2, List.append_nil] at hs
    refine ih (x + 1) (by omega) (by omega) _ _ ?_ rfl
    rw [hs]; rfl
  · obtain rfl : x = n := by omega
    exact Kv.Fin.still ⟨rfl, rfl⟩
/-- The code of a map and a set. -/
theorem p133 (f : List Nat) (n : Nat) (hf : Ok f n) (l : List Int) (hl : l.length ≤ 1048576) : Pure Try.prog 133 [.agg (ints (mp f)), .list (ints l)] (.int .i64 (if stB l n = true then 0 else 2)) := by
  have hlf := hf.mp_len
  have h5 := hf.le
  have hn1 := hf.pos
  refine e133 (by simp) fun _ _ => ?_
  simp only [k133, argEnv, hlf, take6, List.drop_zero, Int.cast_ofNat_Int, go_sem, ↓reduceIte, Nat.reduceEqDiff, Nat.reduceAdd, Nat.reduceMul, Nat.reduceLeDiff, Nat.reduceLT, Int.reduceLE, Int.reduceLT, reduceCtorEq]
  refine (p98 (mp f) hlf).go ?_
  rw [isM_mp hf]
  try simp only [hlf, hf.len, take6, List.drop_zero, Int.cast_ofNat_Int, go_sem, ↓reduceIte, Nat.reduceEqDiff, Nat.reduceAdd, Nat.reduceMul, Nat.reduceLeDiff, Nat.reduceLT, Int.reduceLE, Int.reduceLT, reduceCtorEq]
  refine KL_ind k133_b0.eq_1 (fun x : Nat => [(1, .list (ints l)), (2, .fptr (ints (mp f)) 0), (5, .int .i64 x)]) (fun _ => []) (fun x => x ≤ l.length ∧ (List.range x).all (stp l n) = true) (fun x => l.length - x) [1, 2, 5] 0 (by rfl) rfl ⟨Nat.zero_le _, rfl⟩ fun x ⟨hx, hall⟩ ih => ?_
  have hx1 : ((x : Int) - 1).toNat = x - 1 := by omega
  have hra := range_all_succ (stp l n) x
  rw [hall, Bool.true_and] at hra
  try simp only [OpK_eq, hlf, hf.len, take6, List.drop_zero, Int.cast_ofNat_Int, go_sem, ↓reduceIte, Nat.reduceEqDiff, Nat.reduceAdd, Nat.reduceMul, Nat.reduceLeDiff, Nat.reduceLT, Int.reduceLE, Int.reduceLT, reduceCtorEq]
  refine ⟨fun h1 => ?_, fun h1 => ?_⟩
  · have hxl : x < l.length := by omega
    refine ⟨h1, fun _ => ⟨by omega, ?_⟩⟩
    refine (p90 _ _ _).pgo ?_
    have hst : stp l n x = (decide (0 ≤ l.getD x 0 ∧ l.getD x 0 ≤ (n : Int) - 1) && (decide (x = 0) || decide (l.getD (x - 1) 0 < l.getD x 0))) := rfl
    generalize decide (0 ≤ l.getD x 0 ∧ l.getD x 0 ≤ (n : Int) - 1) = b1 at *
    cases b1 with
    | false =>
      try simp only [OpK_eq, hx1, take6, List.drop_zero, Int.cast_ofNat_Int, go_sem, ↓reduceIte, Nat.reduceEqDiff, Nat.reduceAdd, Nat.reduceMul, Nat.reduceLeDiff, Nat.reduceLT, Int.reduceLE, Int.reduceLT, reduceCtorEq]
      exact Kv.Fin.still ⟨by rw [stB, range_all_false hxl (by rw [hst]; rfl)]; rfl, rfl⟩
    | true =>
      rw [Bool.true_and] at hst
      try simp only [OpK_eq, hx1, take6, List.drop_zero, Int.cast_ofNat_Int, go_sem, ↓reduceIte, Nat.reduceEqDiff, Nat.reduceAdd, Nat.reduceMul, Nat.reduceLeDiff, Nat.reduceLT, Int.reduceLE, Int.reduceLT, reduceCtorEq]
      refine ⟨fun h2 => ⟨h1, fun _ => ⟨by omega, by omega, fun _ => ⟨fun h3 => ?_, fun h3 => ⟨by omega, ?_⟩⟩⟩⟩, fun h2 => ⟨by omega, ?_⟩⟩
      · refine Kv.Fin.still ⟨by rw [stB, range_all_false hxl]; rfl; rw [hst, decide_eq_false (by omega : ¬ x = 0), decide_eq_false (by omega)]; rfl, rfl⟩
      · refine ih (x + 1) ⟨by omega, ?_⟩ (by omega) _ _ (by rfl) rfl
        rw [hra, hst, decide_eq_true (by omega : l.getD (x - 1) 0 < l.getD x 0), Bool.or_true]
      · refine ih (x + 1) ⟨by omega, ?_⟩ (by omega) _ _ (by rfl) rfl
        rw [hra, hst, decide_eq_true (by omega : x = 0), Bool.true_or]
  · obtain rfl : x = l.length := by omega
    exact Kv.Fin.still ⟨by rw [stB, hall]; rfl, rfl⟩
/-! ### Ascending lists -/
theorem nodup_len : ∀ (n : Nat) (l : List Nat), l.Nodup → (∀ x ∈ l, x < n) → l.length ≤ n
  | 0, l, _, h => by
    cases l with
    | nil => simp
    | cons a l => exact absurd (h a (by simp)) (by omega)
  | n + 1, l, hn, h => by
    have h1 := nodup_len n (l.filter fun x => decide (x ≠ n)) (hn.filter _) fun x hx => by
      simp only [List.mem_filter, decide_eq_true_eq] at hx
      have := h x hx.1
      omega
    have h2 : l.length ≤ (l.filter fun x => decide (x ≠ n)).length + 1 := by
      clear h h1
      induction l with
      | nil => simp
      | cons a l ih =>
        rw [List.nodup_cons] at hn
        by_cases e : a = n
        · subst e
          have : l.filter (fun x => decide (x ≠ a)) = l := List.filter_eq_self.2 fun x hx => by
            simp only [decide_eq_true_eq]; rintro rfl; exact hn.1 hx
          rw [List.filter_cons_of_neg (by simp), this]; simp
        · rw [List.filter_cons_of_pos (by simpa using e)]
          have := ih hn.2
          simp only [List.length_cons]; omega
    omega
theorem cpt_mem : ∀ (r : List Int) (x : Int), x ∈ cpt r ↔ x ∈ r
  | [], x => by simp [cpt]
  | [a], x => by simp [cpt]
  | a :: b :: l, x => by
    have ih := cpt_mem (b :: l) x
    rw [cpt_two]
    by_cases e : a = b
    · rw [if_pos e, ih, e]; simp
    · rw [if_neg e, List.mem_cons, ih, List.mem_cons (a := x) (b := a)]
theorem cpt_asc : ∀ r : List Int, r.Pairwise (· ≤ ·) → (cpt r).Pairwise (· < ·)
  | [], _ => by simp [cpt]
  | [a], _ => by simp [cpt]
  | a :: b :: l, h => by
    rw [List.pairwise_cons] at h
    have ih := cpt_asc (b :: l) h.2
    rw [cpt_two]
    by_cases e : a = b
    · rw [if_pos e]; exact ih
    · rw [if_neg e, List.pairwise_cons]
      refine ⟨fun y hy => ?_, ih⟩
      rw [cpt_mem] at hy
      have h1 := h.1 b (by simp)
      rcases List.mem_cons.1 hy with rfl | hy
      · omega
      · have := (List.pairwise_cons.1 h.2).1 y hy
        omega
/-- A set of points, as an ascending list that is not empty. -/
def asc (n : Nat) (p : List Int) : Prop := ∃ l : List Nat, p = l.map (fun x : Nat => (x : Int)) ∧ l ≠ [] ∧ (∀ x ∈ l, x < n) ∧ l.Pairwise (· < ·)
theorem asc_len {n : Nat} {p : List Int} (h : asc n p) : 1 ≤ p.length ∧ p.length ≤ n := by
  obtain ⟨l, rfl, h0, hl, hp⟩ := h
  rw [List.length_map]
  have : l.Nodup := hp.imp fun h => by omega
  have h2 := nodup_len n l this hl
  refine ⟨?_, h2⟩
  cases l with
  | nil => exact absurd rfl h0
  | cons => simp
theorem toNat_map (l : List Nat) : (l.map fun x : Nat => (x : Int)).map Int.toNat = l := by
  rw [List.map_map]
  conv => rhs; rw [← List.map_id l]
  exact List.map_congr_left fun x _ => by simp
/-- The image of a set. -/
noncomputable def img (f : List Nat) (p : List Int) : List Int := imgs f (p.map Int.toNat)
theorem img_mem {f l : List Nat} {x : Int} : x ∈ imgs f l ↔ ∃ p ∈ l, x = (f.getD p 0 : Int) := by
  unfold imgs
  rw [cpt_mem, (srt_perm _).mem_iff, List.mem_map]
  exact ⟨fun ⟨p, h, e⟩ => ⟨p, h, e.symm⟩, fun ⟨p, h, e⟩ => ⟨p, h, e.symm⟩⟩
theorem img_asc {f : List Nat} {n : Nat} (hf : Ok f n) {p : List Int} (h : asc n p) : asc n (img f p) := by
  obtain ⟨l, rfl, h0, hl, hp⟩ := h
  unfold img
  rw [toNat_map]
  refine ⟨(imgs f l).map Int.toNat, ?_, ?_, fun x hx => ?_, ?_⟩
  · rw [List.map_map]
    conv => lhs; rw [← List.map_id (imgs f l)]
    refine List.map_congr_left fun x hx => ?_
    obtain ⟨p, _, rfl⟩ := img_mem.1 hx
    simp
  · intro h
    cases l with
    | nil => exact h0 rfl
    | cons a l =>
      have hm : ((f.getD a 0 : Nat) : Int) ∈ imgs f (a :: l) := img_mem.2 ⟨a, by simp, rfl⟩
      rw [List.map_eq_nil_iff] at h
      rw [h] at hm; cases hm
  · obtain ⟨y, hy, rfl⟩ := List.mem_map.1 hx
    obtain ⟨p, _, rfl⟩ := img_mem.1 hy
    simpa using hf.get' p
  · rw [List.pairwise_map]
    refine List.Pairwise.imp_of_mem ?_ (cpt_asc _ (srt_sorted _))
    intro a b ha hb h
    obtain ⟨p, _, rfl⟩ := img_mem.1 (show a ∈ imgs f l from ha)
    obtain ⟨q, _, rfl⟩ := img_mem.1 (show b ∈ imgs f l from hb)
    simpa using h
/-- The bits of a set, and of its image. -/
def bits (p : List Int) : Nat := sb (p.map Int.toNat)
theorem bits_img {f : List Nat} {n : Nat} {p : List Int} (h : asc n p) : bits (img f p) = sb ((p.map Int.toNat).map fun q => f.getD q 0) := by
  obtain ⟨l, rfl, _, _, _⟩ := h
  unfold bits img
  rw [toNat_map]
  refine sb_ext fun x => ?_
  simp only [List.mem_map]
  constructor
  · rintro ⟨y, hy, rfl⟩
    obtain ⟨p, hp, rfl⟩ := img_mem.1 hy
    exact ⟨p, hp, by simp⟩
  · rintro ⟨p, hp, rfl⟩
    exact ⟨_, img_mem.2 ⟨p, hp, rfl⟩, by simp⟩
theorem bits_inj {n : Nat} {p q : List Int} (hp : asc n p) (hq : asc n q) : bits p = bits q ↔ p = q := by
  refine ⟨fun h => ?_, fun h => by rw [h]⟩
  obtain ⟨l, rfl, _, _, hl⟩ := hp
  obtain ⟨m, rfl, _, _, hm⟩ := hq
  unfold bits at h
  rw [toNat_map, toNat_map] at h
  have hmem : ∀ x, x ∈ l ↔ x ∈ m := fun x => by
    have h1 := sb_test l x
    have h2 := sb_test m x
    rw [h, h2] at h1
    simpa using h1.symm
  have : l = m := by
    have hs := sorted_uniq (r := l.map fun x : Nat => (x : Int)) (s := m.map fun x : Nat => (x : Int)) (List.Perm.map _ ((List.perm_ext_iff_of_nodup (hl.imp fun h => by omega) (hm.imp fun h => by omega)).2 hmem))
      (by rw [List.pairwise_map]; exact hl.imp fun h => by omega) (by rw [List.pairwise_map]; exact hm.imp fun h => by omega)
    have := congrArg (List.map Int.toNat) hs
    rwa [toNat_map, toNat_map] at this
  rw [this]
/-- What a list that is a set is. -/
theorem stB_asc {l : List Int} {n : Nat} (h : stB l n = true) (h0 : l ≠ []) : asc n l := by
  have hall : ∀ i, i < l.length → stp l n i = true := fun i hi => by
    unfold stB at h
    exact List.all_eq_true.1 h i (by simpa using hi)
  have hb : ∀ i, (hi : i < l.length) → 0 ≤ l[i] ∧ l[i] ≤ (n : Int) - 1 ∧ (0 < i → ∀ h' : i - 1 < l.length, l[i - 1] < l[i]) := fun i hi => by
    have := hall i hi
    simp only [stp, Bool.and_eq_true, Bool.or_eq_true, decide_eq_true_eq] at this
    obtain ⟨h1, h2⟩ := this
    have e : l.getD i 0 = l[i] := by simp [List.getD_eq_getElem?_getD, hi]
    rw [e] at h1 h2
    refine ⟨h1.1, h1.2, fun hp h' => ?_⟩
    rcases h2 with h2 | h2
    · omega
    · have e2 : l.getD (i - 1) 0 = l[i - 1] := by simp [List.getD_eq_getElem?_getD, h']
      rwa [e2] at h2
  refine ⟨l.map Int.toNat, ?_, by simpa using h0, fun x hx => ?_, ?_⟩
  · rw [List.map_map]
    conv => lhs; rw [← List.map_id l]
    refine List.map_congr_left fun x hx => ?_
    obtain ⟨i, hi, rfl⟩ := List.getElem_of_mem hx
    have := hb i hi
    simp only [id_eq, Function.comp_def]; omega
  · obtain ⟨y, hy, rfl⟩ := List.mem_map.1 hx
    obtain ⟨i, hi, rfl⟩ := List.getElem_of_mem hy
    have := hb i hi
    omega
  · rw [List.pairwise_map]
    have key : ∀ d i, (hi : i + 1 + d < l.length) → l[i]'(by omega) < l[i + 1 + d] := fun d => by
      induction d with
      | zero =>
        intro i hi
        have := (hb (i + 1) hi).2.2 (by omega) (by omega)
        simpa using this
      | succ d ih =>
        intro i hi
        have h1 := ih i (by omega)
        have h2 := (hb (i + 1 + (d + 1)) hi).2.2 (by omega) (by omega)
        have e : i + 1 + (d + 1) - 1 = i + 1 + d := by omega
        simp only [e] at h2
        omega
    rw [List.pairwise_iff_getElem]
    intro i j hi hj hij
    have h1 := key (j - i - 1) i (by omega)
    have e : i + 1 + (j - i - 1) = j := by omega
    simp only [e] at h1
    have := (hb i hi).1
    omega
end Go.Proofs.Ytpepbomifjbgnaa
end
