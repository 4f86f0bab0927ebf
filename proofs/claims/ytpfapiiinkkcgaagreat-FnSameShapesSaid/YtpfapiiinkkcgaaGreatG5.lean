/- Several texts of this session as one. -/
import Derived.Test.YtpfapiiinkkcgaaGreatG1
import Derived.Test.YtpfapiiinkkcgaaGreatCb
import Derived.Test.YtpfapiiinkkcgaaGreatFC
import Derived.Test.YtpfapiiinkkcgaaGreatG3
import Derived.Test.YtpfapiiinkkcgaaGreatG2
section
/- Iterates of a map, powers, cyclic points, heights, least points of orbits: plain laws. -/
namespace Go.Kv
set_option linter.unusedVariables false
set_option linter.unusedSimpArgs false
/-- Where k steps lead a point. -/
def it (f : List Nat) : Nat → Nat → Nat
  | 0, p => p
  | k + 1, p => f.getD (it f k p) 0
theorem it_add (f : List Nat) (p : Nat) (a : Nat) : ∀ b, it f (a + b) p = it f b (it f a p)
  | 0 => rfl
  | b + 1 => by
    show f.getD (it f (a + b) p) 0 = _
    rw [it_add f p a b]; rfl
theorem it_lt {f : List Nat} {n p : Nat} (hf : Ok f n) (hp : p < n) : ∀ k, it f k p < n
  | 0 => hp
  | k + 1 => hf.get' _
theorem it_mul {f : List Nat} {p d : Nat} (h : it f d p = p) : ∀ k, it f (d * k) p = p
  | 0 => rfl
  | k + 1 => by rw [Nat.mul_succ, it_add, it_mul h k, h]
/-- The k-th power. -/
def itM (f : List Nat) (n k : Nat) : List Nat := (List.range n).map (it f k)
theorem itM_get {f : List Nat} {n k p : Nat} (hp : p < n) : (itM f n k).getD p 0 = it f k p := by simp [itM, List.getD_eq_getElem?_getD, hp]
theorem itM_ok {f : List Nat} {n : Nat} (hf : Ok f n) (k : Nat) : Ok (itM f n k) n := ⟨by simp [itM], hf.pos, hf.le, fun x hx => by
  simp only [itM, List.mem_map, List.mem_range] at hx
  obtain ⟨p, hp, rfl⟩ := hx
  exact it_lt hf hp k⟩
theorem itM_zero {f : List Nat} {n : Nat} : itM f n 0 = List.range n := by
  unfold itM
  conv => rhs; rw [← List.map_id (List.range n)]
  exact List.map_congr_left fun x _ => rfl
theorem itM_one {f : List Nat} {n : Nat} (hf : Ok f n) : itM f n 1 = f := by
  refine ext_getD (by simp [itM, hf.len]) fun i hi => ?_
  simp only [itM, List.length_map, List.length_range] at hi
  rw [itM_get hi]; rfl
theorem itM_mul {f : List Nat} {n : Nat} (hf : Ok f n) (a b : Nat) : mul (itM f n a) (itM f n b) = itM f n (a + b) := by
  refine ext_getD (by simp [itM]) fun i hi => ?_
  simp only [itM, mul_length, List.length_map, List.length_range] at hi
  rw [mul_get (by simpa [itM] using hi), itM_get hi, itM_get (it_lt hf hi a), itM_get hi, it_add]
/-- Whether a point comes back to itself. -/
def cyc (f : List Nat) (n p : Nat) : Bool := (List.range n).any fun k => decide (it f (k + 1) p = p)
theorem cyc_iff {f : List Nat} {n p : Nat} : cyc f n p = true ↔ ∃ d, 1 ≤ d ∧ d ≤ n ∧ it f d p = p := by
  simp only [cyc, List.any_eq_true, List.mem_range, decide_eq_true_eq]
  constructor
  · rintro ⟨k, hk, h⟩; exact ⟨k + 1, by omega, by omega, h⟩
  · rintro ⟨d, h1, h2, h⟩; exact ⟨d - 1, by omega, by rw [Nat.sub_add_cancel h1]; exact h⟩
theorem nodup_len : ∀ (n : Nat) (l : List Nat), l.Nodup → (∀ x ∈ l, x < n) → l.length ≤ n
  | 0, l, _, h => by
    cases l with
    | nil => simp
    | cons a l => exact absurd (h a (by simp)) (by omega)
  | n + 1, l, hd, h => by
    by_cases hn : n ∈ l
    · have h1 := nodup_len n (l.erase n) (hd.erase n) fun x hx => by
        have := (List.Nodup.mem_erase_iff hd).1 hx
        have := h x this.2
        omega
      rw [List.length_erase_of_mem hn] at h1
      omega
    · have := nodup_len n l hd fun x hx => by
        have := h x hx
        have : x ≠ n := fun e => hn (e ▸ hx)
        omega
      omega
/-- Two of the first n + 1 iterates are the same. -/
theorem it_twice {f : List Nat} {n p : Nat} (hf : Ok f n) (hp : p < n) : ∃ i j, i < j ∧ j ≤ n ∧ it f i p = it f j p := by
  refine Classical.byContradiction fun hno => ?_
  have hnd : ((List.range (n + 1)).map fun k => it f k p).Nodup := by
    rw [List.Nodup, List.pairwise_map, List.pairwise_iff_getElem]
    intro i j hi hj hij he
    simp only [List.length_range] at hi hj
    simp only [List.getElem_range] at he
    exact hno ⟨i, j, hij, by omega, he⟩
  have := nodup_len n _ hnd fun x hx => by
    simp only [List.mem_map, List.mem_range] at hx
    obtain ⟨k, _, rfl⟩ := hx
    exact it_lt hf hp k
  simp at this
  omega
theorem cyc_late {f : List Nat} {n p : Nat} (hf : Ok f n) (hp : p < n) {k : Nat} (hk : n ≤ k + 1) : cyc f n (it f k p) = true := by
  obtain ⟨i, j, hij, hj, he⟩ := it_twice hf hp
  refine cyc_iff.2 ⟨j - i, by omega, by omega, ?_⟩
  obtain ⟨r, rfl⟩ : ∃ r, k = i + r := ⟨k - i, by omega⟩
  rw [it_add f p i r, ← it_add f _ r (j - i), Nat.add_comm r, it_add f _ (j - i) r, ← it_add f p i (j - i), show i + (j - i) = j by omega, ← he]
theorem cyc_step {f : List Nat} {n p : Nat} (h : cyc f n p = true) (k : Nat) : cyc f n (it f k p) = true := by
  obtain ⟨d, h1, h2, h3⟩ := cyc_iff.1 h
  refine cyc_iff.2 ⟨d, h1, h2, ?_⟩
  rw [← it_add, Nat.add_comm, it_add, h3]
theorem dvd60 : ∀ d, 1 ≤ d → d ≤ 5 → ∃ k, 60 = d * k := by
  intro d h1 h2
  have : d = 1 ∨ d = 2 ∨ d = 3 ∨ d = 4 ∨ d = 5 := by omega
  rcases this with rfl | rfl | rfl | rfl | rfl
  · exact ⟨60, rfl⟩
  · exact ⟨30, rfl⟩
  · exact ⟨20, rfl⟩
  · exact ⟨15, rfl⟩
  · exact ⟨12, rfl⟩
theorem cyc_60 {f : List Nat} {n p : Nat} (hf : Ok f n) (h : cyc f n p = true) : it f 60 p = p := by
  obtain ⟨d, h1, h2, h3⟩ := cyc_iff.1 h
  obtain ⟨k, hk⟩ := dvd60 d h1 (by have := hf.le; omega)
  rw [hk]; exact it_mul h3 k
/-- The points of the image of the sixtieth power are the cyclic ones. -/
theorem cyc_image {f : List Nat} {n p : Nat} (hf : Ok f n) (hp : p < n) : cyc f n p = true ↔ p ∈ itM f n 60 := by
  simp only [itM, List.mem_map, List.mem_range]
  constructor
  · exact fun h => ⟨p, hp, cyc_60 hf h⟩
  · rintro ⟨x, hx, rfl⟩
    exact cyc_late hf hx (by have := hf.le; omega)
/-- How many steps lead to a cyclic point. -/
def hgt (f : List Nat) (n p : Nat) : Nat := (List.range 61).findIdx fun k => cyc f n (it f k p)
theorem hgt_eq {f : List Nat} {n p x : Nat} (hx : x ≤ 60) (h : cyc f n (it f x p) = true) (hm : ∀ j, j < x → cyc f n (it f j p) = false) : hgt f n p = x := by
  rw [hgt, List.findIdx_eq (by simp; omega)]
  refine ⟨by simpa using h, fun j hj => ?_⟩
  simpa using hm j hj
/-- v is the least point that the steps from p meet. -/
def IsMin (f : List Nat) (p v : Nat) : Prop := (∃ k, v = it f k p) ∧ ∀ k, v ≤ it f k p
theorem IsMin.uniq {f : List Nat} {p v w : Nat} (h : IsMin f p v) (h' : IsMin f p w) : v = w := by
  obtain ⟨⟨a, ha⟩, hb⟩ := h
  obtain ⟨⟨c, hc⟩, hd⟩ := h'
  have := hb c
  have := hd a
  omega
theorem IsMin.move {f : List Nat} {n p j v : Nat} (hc : cyc f n p = true) (h : IsMin f (it f j p) v) : IsMin f p v := by
  obtain ⟨d, h1, h2, h3⟩ := cyc_iff.1 hc
  obtain ⟨⟨a, ha⟩, hb⟩ := h
  refine ⟨⟨j + a, by rw [it_add]; exact ha⟩, fun k => ?_⟩
  have e : it f k p = it f (d * j - j + k) (it f j p) := by
    have hj : j ≤ d * j := by
      have := Nat.mul_le_mul_right j h1
      omega
    rw [← it_add, ← Nat.add_assoc, show j + (d * j - j) = d * j by omega, it_add, it_mul h3]
  rw [e]; exact hb _
/-- The least of the first m iterates. -/
def lo (f : List Nat) (p : Nat) : Nat → Nat
  | 0 => p
  | m + 1 => min (lo f p m) (it f (m + 1) p)
theorem lo_mem (f : List Nat) (p : Nat) : ∀ m, ∃ k, k ≤ m ∧ lo f p m = it f k p
  | 0 => ⟨0, Nat.le_refl _, rfl⟩
  | m + 1 => by
    obtain ⟨k, hk, h⟩ := lo_mem f p m
    simp only [lo]
    by_cases hle : lo f p m ≤ it f (m + 1) p
    · exact ⟨k, by omega, by rw [Nat.min_eq_left hle]; exact h⟩
    · exact ⟨m + 1, Nat.le_refl _, by rw [Nat.min_eq_right (by omega)]⟩
theorem lo_le (f : List Nat) (p : Nat) : ∀ m k, k ≤ m → lo f p m ≤ it f k p
  | 0, k, h => by
    obtain rfl : k = 0 := by omega
    exact Nat.le_refl _
  | m + 1, k, h => by
    simp only [lo]
    by_cases e : k = m + 1
    · subst e; exact Nat.min_le_right _ _
    · exact Nat.le_trans (Nat.min_le_left _ _) (lo_le f p m k (by omega))
/-- A whole round is enough. -/
theorem lo_round {f : List Nat} {p m : Nat} (h : it f (m + 1) p = p) : IsMin f p (lo f p m) := by
  refine ⟨?_, fun k => ?_⟩
  · obtain ⟨k, _, h⟩ := lo_mem f p m
    exact ⟨k, h⟩
  · have e : it f k p = it f (k % (m + 1)) p := by
      have : k = (m + 1) * (k / (m + 1)) + k % (m + 1) := (Nat.div_add_mod k (m + 1)).symm
      conv => lhs; rw [this, it_add, it_mul h]
    rw [e]
    exact lo_le f p m _ (by have := Nat.mod_lt k (show 0 < m + 1 by omega); omega)
/-- The least point of the orbit of a cyclic point. -/
def mino (f : List Nat) (p : Nat) : Nat := lo f p 59
theorem mino_eq {f : List Nat} {n p v : Nat} (hf : Ok f n) (hc : cyc f n p = true) (h : IsMin f p v) : v = mino f p := h.uniq (lo_round (cyc_60 hf hc))
/-! ### Sets as bits -/
/-- The points of a list, as the bits of a number. -/
def sb : List Nat → Nat
  | [] => 0
  | p :: l => sb l ||| 2 ^ p
theorem sb_snoc : ∀ (l : List Nat) (p : Nat), sb (l ++ [p]) = sb l ||| 2 ^ p
  | [], p => by simp [sb]
  | a :: l, p => by simp only [List.cons_append, sb, sb_snoc l p, Nat.or_assoc, Nat.or_comm (2 ^ p)]
theorem sb_test : ∀ (l : List Nat) (q : Nat), (sb l).testBit q = decide (q ∈ l)
  | [], q => by simp [sb]
  | a :: l, q => by
    simp only [sb, Nat.testBit_or, sb_test l q, Nat.testBit_two_pow, List.mem_cons]
    by_cases h : a = q
    · simp [h]
    · have : ¬ q = a := fun e => h e.symm
      simp [h, this]
theorem sb_lt {n : Nat} : ∀ {l : List Nat}, (∀ x ∈ l, x < n) → sb l < 2 ^ n
  | [], _ => by simp [sb]; exact Nat.pow_pos (by omega)
  | a :: l, h => Nat.or_lt_two_pow (sb_lt fun x hx => h x (by simp [hx])) (Nat.pow_lt_pow_right (by omega) (h a (by simp)))
end Go.Kv
end
section
/- Maps: cyclic points, ends, cycles, powers, images. -/
namespace Go.Proofs.YtpfapiiinkkcgaaGreat
open Go.Kv
set_option maxRecDepth 100000
/- (impl.Map).isCyclic -/
/- live [1, 2, 5, 11, 12] -/
def k94_b0 : KC := (.seq (.ops [⟨(some 13), none, .bin .lss (.t 12) (.t 11)⟩])
  (.seq (.cond (.t 13) .skip (.exit 0))
  (.seq (.block 1 (.seq (.seq (.ops [⟨(some 14), none, .mv (.t 5)⟩, ⟨(some 15), none, .mv (.t 1)⟩, ⟨(some 16), none, .bin .eql (.t 14) (.t 15)⟩])
  (.cond (.t 16) (.seq (.ops [⟨(some 4), none, .mv (.c (.bool true))⟩])
  .ret) .skip))
  (.ops [⟨(some 17), none, .mv (.t 5)⟩, ⟨(some 18), none, .fieldA 1 (.t 2)⟩, ⟨(some 19), none, .idxA 5 1 (.t 18) (.t 17)⟩, ⟨(some 20), none, .load false 1 (.t 19)⟩, ⟨(some 5), none, .mv (.t 20)⟩])))
  (.ops [⟨(some 21), none, .bin .add (.t 12) (.c (.int .i64 1))⟩, ⟨(some 12), none, .mv (.t 21)⟩]))))
def k94 : KC := (.seq (.ops [⟨(some 2), none, .box true (.t 0)⟩, ⟨(some 4), none, .mv (.c (.bool false))⟩])
  (.seq (.ops [⟨(some 6), none, .mv (.t 1)⟩, ⟨(some 7), none, .fieldA 1 (.t 2)⟩, ⟨(some 8), none, .idxA 5 1 (.t 7) (.t 6)⟩, ⟨(some 9), none, .load false 1 (.t 8)⟩, ⟨(some 5), none, .mv (.t 9)⟩])
  (.seq (.seq (.ops [⟨(some 10), none, .fieldA 0 (.t 2)⟩, ⟨(some 11), none, .load false 1 (.t 10)⟩, ⟨(some 12), none, .mv (.c (.int .i64 0))⟩])
  (.block 0 (.loop k94_b0)))
  (.seq (.ops [⟨(some 4), none, .mv (.c (.bool false))⟩])
  .ret))))
theorem e94 {args : List PV} {σ : Heap} {K : PV → Heap → Prop} (hl : args.length ≤ 22) (h : Wf σ → (∀ a ∈ args, PV.upto σ.length a) → vc (mkCfg Tryz.prog mixed [2] 22 σ.length) k94 (FinK σ.length [.t 4] K) (argEnv 0 args) σ) : ACall Tryz.prog 94 args σ K :=
  ACall_enter (C := mkCfg Tryz.prog mixed [2] 22 σ.length) (c := Tryz.f94.body.getD .skip) Tryz.func94 (by kernel_rfl) (by kernel_rfl) (by kernel_rfl) rfl hl (by kernel_rfl) (by kernel_rfl) h
/- (impl.Map).end -/
/- live [1, 2, 6] -/
def k86_b0 : KC := (.seq (.seq (.ops [⟨(some 7), none, .load true 6 (.t 2)⟩, ⟨(some 8), none, .mv (.t 1)⟩, ⟨(some 9), none, .call (.c (.fn (.func 94) [] [])) [(.t 7), (.t 8)]⟩, ⟨(some 10), none, .not (.t 9)⟩])
  (.cond (.t 10) .skip (.exit 0)))
  (.block 1 (.seq (.ops [⟨(some 11), none, .mv (.t 1)⟩, ⟨(some 12), none, .fieldA 1 (.t 2)⟩, ⟨(some 13), none, .idxA 5 1 (.t 12) (.t 11)⟩, ⟨(some 14), none, .load false 1 (.t 13)⟩, ⟨(some 1), none, .mv (.t 14)⟩])
  (.ops [⟨(some 15), none, .mv (.t 6)⟩, ⟨(some 16), none, .bin .add (.t 15) (.c (.int .i64 1))⟩, ⟨(some 6), none, .mv (.t 16)⟩]))))
def k86 : KC := (.seq (.ops [⟨(some 2), none, .box true (.t 0)⟩, ⟨(some 4), none, .mv (.c (.int .i64 0))⟩, ⟨(some 5), none, .mv (.c (.int .i64 0))⟩])
  (.seq (.ops [⟨(some 6), none, .mv (.c (.int .i64 0))⟩])
  (.seq (.block 0 (.loop k86_b0))
  (.seq (.ops [⟨(some 17), none, .mv (.t 1)⟩, ⟨(some 18), none, .mv (.t 6)⟩, ⟨(some 4), none, .mv (.t 17)⟩, ⟨(some 5), none, .mv (.t 18)⟩])
  .ret))))
theorem e86 {args : List PV} {σ : Heap} {K : PV → Heap → Prop} (hl : args.length ≤ 19) (h : Wf σ → (∀ a ∈ args, PV.upto σ.length a) → vc (mkCfg Tryz.prog mixed [2] 19 σ.length) k86 (FinK σ.length [.t 4, .t 5] K) (argEnv 0 args) σ) : ACall Tryz.prog 86 args σ K :=
  ACall_enter (C := mkCfg Tryz.prog mixed [2] 19 σ.length) (c := Tryz.f86.body.getD .skip) Tryz.func86 (by kernel_rfl) (by kernel_rfl) (by kernel_rfl) rfl hl (by kernel_rfl) (by kernel_rfl) h
/- (impl.Map).cycleOf -/
/- live [1, 2, 5, 6] -/
def k88_b0 : KC := (.seq (.seq (.ops [⟨(some 13), none, .mv (.t 6)⟩, ⟨(some 14), none, .mv (.t 1)⟩, ⟨(some 15), none, .bin .neq (.t 13) (.t 14)⟩])
  (.cond (.t 15) .skip (.exit 0)))
  (.seq (.block 1 (.ops [⟨(some 20), none, .mv (.t 5)⟩, ⟨(some 21), none, .mv (.t 6)⟩, ⟨(some 22), none, .bsl true 2 1 [(.t 21)]⟩, ⟨(some 23), none, .app (.t 20) (.t 22) 2 1⟩, ⟨(some 5), none, .mv (.t 23)⟩]))
  (.ops [⟨(some 16), none, .mv (.t 6)⟩, ⟨(some 17), none, .fieldA 1 (.t 2)⟩, ⟨(some 18), none, .idxA 5 1 (.t 17) (.t 16)⟩, ⟨(some 19), none, .load false 1 (.t 18)⟩, ⟨(some 6), none, .mv (.t 19)⟩])))
def k88 : KC := (.seq (.ops [⟨(some 2), none, .box true (.t 0)⟩, ⟨(some 4), none, .mv (.c (.nils))⟩])
  (.seq (.ops [⟨(some 7), none, .mv (.t 1)⟩, ⟨(some 8), none, .bsl false 2 1 [(.t 7)]⟩, ⟨(some 5), none, .mv (.t 8)⟩])
  (.seq (.seq (.ops [⟨(some 9), none, .mv (.t 1)⟩, ⟨(some 10), none, .fieldA 1 (.t 2)⟩, ⟨(some 11), none, .idxA 5 1 (.t 10) (.t 9)⟩, ⟨(some 12), none, .load false 1 (.t 11)⟩, ⟨(some 6), none, .mv (.t 12)⟩])
  (.block 0 (.loop k88_b0)))
  (.seq (.ops [⟨(some 24), none, .mv (.t 5)⟩, ⟨(some 4), none, .mv (.t 24)⟩])
  .ret))))
theorem e88 {args : List PV} {σ : Heap} {K : PV → Heap → Prop} (hl : args.length ≤ 25) (h : Wf σ → (∀ a ∈ args, PV.upto σ.length a) → vc (mkCfg Tryz.prog mixed [2, 22] 25 σ.length) k88 (FinK σ.length [.t 4] K) (argEnv 0 args) σ) : ACall Tryz.prog 88 args σ K :=
  ACall_enter (C := mkCfg Tryz.prog mixed [2, 22] 25 σ.length) (c := Tryz.f88.body.getD .skip) Tryz.func88 (by kernel_rfl) (by kernel_rfl) (by kernel_rfl) rfl hl (by kernel_rfl) (by kernel_rfl) h
/- slices.Min[[]int64,int64] -/
/- live [0, 3, 4] -/
def k87_b0 : KC := (.seq (.seq (.ops [⟨(some 12), none, .mv (.t 4)⟩, ⟨(some 13), none, .mv (.t 0)⟩, ⟨(some 14), none, .len false (.t 13)⟩, ⟨(some 15), none, .bin .lss (.t 12) (.t 14)⟩])
  (.cond (.t 15) .skip (.exit 0)))
  (.seq (.block 1 (.ops [⟨(some 18), none, .mv (.t 3)⟩, ⟨(some 19), none, .mv (.t 0)⟩, ⟨(some 20), none, .mv (.t 4)⟩, ⟨(some 21), none, .idxS 1 (.t 19) (.t 20)⟩, ⟨(some 22), none, .load false 1 (.t 21)⟩, ⟨(some 23), none, .mnmx false (.t 18) [(.t 22)]⟩, ⟨(some 3), none, .mv (.t 23)⟩]))
  (.ops [⟨(some 16), none, .mv (.t 4)⟩, ⟨(some 17), none, .bin .add (.t 16) (.c (.int .i64 1))⟩, ⟨(some 4), none, .mv (.t 17)⟩])))
def k87 : KC := (.seq (.ops [⟨(some 2), none, .mv (.c (.int .i64 0))⟩])
  (.seq (.seq (.ops [⟨(some 5), none, .mv (.t 0)⟩, ⟨(some 6), none, .len false (.t 5)⟩, ⟨(some 7), none, .bin .lss (.t 6) (.c (.int .i64 1))⟩])
  (.cond (.t 7) (.ops [⟨(some 8), none, .bad⟩, ⟨none, none, .bad⟩]) .skip))
  (.seq (.ops [⟨(some 9), none, .mv (.t 0)⟩, ⟨(some 10), none, .idxS 1 (.t 9) (.c (.int .i64 0))⟩, ⟨(some 11), none, .load false 1 (.t 10)⟩, ⟨(some 3), none, .mv (.t 11)⟩])
  (.seq (.seq (.ops [⟨(some 4), none, .mv (.c (.int .i64 1))⟩])
  (.block 0 (.loop k87_b0)))
  (.seq (.ops [⟨(some 24), none, .mv (.t 3)⟩, ⟨(some 2), none, .mv (.t 24)⟩])
  .ret)))))
theorem e87 {args : List PV} {σ : Heap} {K : PV → Heap → Prop} (hl : args.length ≤ 25) (h : Wf σ → (∀ a ∈ args, PV.upto σ.length a) → vc (mkCfg Tryz.prog mixed [] 25 σ.length) k87 (FinK σ.length [.t 2] K) (argEnv 0 args) σ) : ACall Tryz.prog 87 args σ K :=
  ACall_enter (C := mkCfg Tryz.prog mixed [] 25 σ.length) (c := Tryz.f87.body.getD .skip) Tryz.func87 (by kernel_rfl) (by kernel_rfl) (by kernel_rfl) rfl hl (by kernel_rfl) (by kernel_rfl) h
/- spec.l01Power -/
/- live [1, 2, 4, 5] -/
def k92_b0 : KC := (.seq (.seq (.ops [⟨(some 9), none, .mv (.t 1)⟩, ⟨(some 10), none, .bin .gtr (.t 9) (.c (.int .i64 0))⟩])
  (.cond (.t 10) .skip (.exit 0)))
  (.seq (.block 1 (.seq (.seq (.ops [⟨(some 13), none, .mv (.t 1)⟩, ⟨(some 14), none, .bin .rem (.t 13) (.c (.int .i64 2))⟩, ⟨(some 15), none, .bin .eql (.t 14) (.c (.int .i64 1))⟩])
  (.cond (.t 15) (.ops [⟨(some 16), none, .load true 6 (.t 5)⟩, ⟨(some 17), none, .load true 6 (.t 2)⟩, ⟨(some 18), none, .call (.c (.fn (.func 131) [] [])) [(.t 16), (.t 17)]⟩, ⟨none, none, .store 6 (.t 5) (.t 18)⟩]) .skip))
  (.ops [⟨(some 19), none, .load true 6 (.t 2)⟩, ⟨(some 20), none, .load true 6 (.t 2)⟩, ⟨(some 21), none, .call (.c (.fn (.func 131) [] [])) [(.t 19), (.t 20)]⟩, ⟨none, none, .store 6 (.t 2) (.t 21)⟩])))
  (.ops [⟨(some 11), none, .mv (.t 1)⟩, ⟨(some 12), none, .bin .quo (.t 11) (.c (.int .i64 2))⟩, ⟨(some 1), none, .mv (.t 12)⟩])))
def k92 : KC := (.seq (.ops [⟨(some 2), none, .box false (.t 0)⟩, ⟨(some 4), none, .alloc [.int .i64 0, .int .i64 0, .int .i64 0, .int .i64 0, .int .i64 0, .int .i64 0]⟩])
  (.seq (.ops [⟨(some 6), none, .fieldA 0 (.t 2)⟩, ⟨(some 7), none, .load false 1 (.t 6)⟩, ⟨(some 8), none, .call (.c (.fn (.func 143) [] [])) [(.t 7)]⟩, ⟨(some 5), none, .alloc [.int .i64 0, .int .i64 0, .int .i64 0, .int .i64 0, .int .i64 0, .int .i64 0]⟩, ⟨none, none, .store 6 (.t 5) (.t 8)⟩])
  (.seq (.block 0 (.loop k92_b0))
  (.seq (.ops [⟨(some 22), none, .load true 6 (.t 5)⟩, ⟨none, none, .store 6 (.t 4) (.t 22)⟩])
  .ret))))
theorem e92 {args : List PV} {σ : Heap} {K : PV → Heap → Prop} (hl : args.length ≤ 23) (h : Wf σ → (∀ a ∈ args, PV.upto σ.length a) → vc (mkCfg Tryz.prog mixed [] 23 σ.length) k92 (FinK σ.length [.cell 4 true 6] K) (argEnv 0 args) σ) : ACall Tryz.prog 92 args σ K :=
  ACall_enter (C := mkCfg Tryz.prog mixed [] 23 σ.length) (c := Tryz.f92.body.getD .skip) Tryz.func92 (by kernel_rfl) (by kernel_rfl) (by kernel_rfl) rfl hl (by kernel_rfl) (by kernel_rfl) h
/- spec.l01Image -/
/- live [1, 3, 4] -/
def k91_b0 : KC := (.seq (.seq (.ops [⟨(some 5), none, .mv (.t 4)⟩, ⟨(some 6), none, .fieldA 0 (.t 1)⟩, ⟨(some 7), none, .load false 1 (.t 6)⟩, ⟨(some 8), none, .bin .lss (.t 5) (.t 7)⟩])
  (.cond (.t 8) .skip (.exit 0)))
  (.seq (.block 1 (.ops [⟨(some 11), none, .mv (.t 3)⟩, ⟨(some 12), none, .mv (.t 4)⟩, ⟨(some 13), none, .fieldA 1 (.t 1)⟩, ⟨(some 14), none, .idxA 5 1 (.t 13) (.t 12)⟩, ⟨(some 15), none, .load false 1 (.t 14)⟩, ⟨(some 16), none, .conv .u64 (.t 15)⟩, ⟨(some 17), none, .bin .shl (.c (.int .i64 1)) (.t 16)⟩, ⟨(some 18), none, .bin .or (.t 11) (.t 17)⟩, ⟨(some 3), none, .mv (.t 18)⟩]))
  (.ops [⟨(some 9), none, .mv (.t 4)⟩, ⟨(some 10), none, .bin .add (.t 9) (.c (.int .i64 1))⟩, ⟨(some 4), none, .mv (.t 10)⟩])))
def k91 : KC := (.seq (.ops [⟨(some 1), none, .box true (.t 0)⟩, ⟨(some 2), none, .mv (.c (.int .i64 0))⟩])
  (.seq (.ops [⟨(some 3), none, .mv (.c (.int .i64 0))⟩])
  (.seq (.seq (.ops [⟨(some 4), none, .mv (.c (.int .i64 0))⟩])
  (.block 0 (.loop k91_b0)))
  (.seq (.ops [⟨(some 19), none, .mv (.t 3)⟩, ⟨(some 2), none, .mv (.t 19)⟩])
  .ret))))
theorem e91 {args : List PV} {σ : Heap} {K : PV → Heap → Prop} (hl : args.length ≤ 20) (h : Wf σ → (∀ a ∈ args, PV.upto σ.length a) → vc (mkCfg Tryz.prog mixed [1] 20 σ.length) k91 (FinK σ.length [.t 2] K) (argEnv 0 args) σ) : ACall Tryz.prog 91 args σ K :=
  ACall_enter (C := mkCfg Tryz.prog mixed [1] 20 σ.length) (c := Tryz.f91.body.getD .skip) Tryz.func91 (by kernel_rfl) (by kernel_rfl) (by kernel_rfl) rfl hl (by kernel_rfl) (by kernel_rfl) h
end Go.Proofs.YtpfapiiinkkcgaaGreat
namespace Go.Proofs.YtpfapiiinkkcgaaGreat
open Go.Kv
set_option linter.unusedVariables false
set_option linter.unusedSimpArgs false
attribute [local irreducible] ACall PCall KL
theorem p94 (f : List Nat) (n p : Nat) (hf : Ok f n) (hp : p < n) : Pure Tryz.prog 94 [.agg (ints (mp f)), .int .i64 p] (.bool (cyc f n p)) := by
  have hlf := hf.mp_len
  have h5 := hf.le
  refine e94 (by simp) fun _ _ => ?_
  simp only [k94, argEnv, hlf, hf.len, take6, List.drop_zero, Int.cast_ofNat_Int, go_sem, ↓reduceIte, Nat.reduceEqDiff, Nat.reduceAdd, Nat.reduceMul, Nat.reduceLeDiff, Nat.reduceLT, Int.reduceLE, Int.reduceLT, reduceCtorEq]
  refine ⟨by omega, by omega, fun _ => ?_⟩
  refine KL_ind k94_b0.eq_1 (fun x : Nat => [(1, .int .i64 p), (2, .fptr (ints (mp f)) 0), (5, .int .i64 (it f (x + 1) p)), (11, .int .i64 n), (12, .int .i64 x)]) (fun _ => []) (fun x => x ≤ n ∧ ((List.range n).take x).any (fun k => decide (it f (k + 1) p = p)) = false) (fun x => n - x) [1, 2, 5, 11, 12] 0 (by rfl) rfl ⟨Nat.zero_le _, rfl⟩ fun x ⟨hx, hno⟩ ih => ?_
  have hq := it_lt hf hp (x + 1)
  try simp only [hlf, take6, List.drop_zero, Int.cast_ofNat_Int, go_sem, ↓reduceIte, Nat.reduceEqDiff, Nat.reduceAdd, Nat.reduceMul, Nat.reduceLeDiff, Nat.reduceLT, Int.reduceLE, Int.reduceLT, reduceCtorEq]
  refine ⟨fun h1 => ⟨fun h2 => ?_, fun h2 => ?_⟩, fun h1 => ?_⟩
  · refine Kv.Fin.now ⟨?_, rfl⟩
    have : cyc f n p = true := cyc_iff.2 ⟨x + 1, by omega, by omega, by omega⟩
    rw [this]
  · repeat' (first | refine And.intro ?_ ?_ | intro _)
    all_goals (try omega)
    refine ih (x + 1) ⟨by omega, ?_⟩ (by omega) _ _ (by rfl) rfl
    rw [any_take_succ _ (by simp; omega), hno]
    simp; omega
  · obtain rfl : x = n := by omega
    rw [List.take_of_length_le (by simp)] at hno
    exact Kv.Fin.now ⟨by rw [cyc, hno], rfl⟩
theorem p86 (f : List Nat) (n p : Nat) (hf : Ok f n) (hp : p < n) : Pure Tryz.prog 86 [.agg (ints (mp f)), .int .i64 p] (.tup [.int .i64 (it f (hgt f n p) p), .int .i64 (hgt f n p)]) := by
  have hlf := hf.mp_len
  have h5 := hf.le
  refine e86 (by simp) fun _ _ => ?_
  simp only [k86, argEnv, hlf, hf.len, take6, List.drop_zero, Int.cast_ofNat_Int, go_sem, ↓reduceIte, Nat.reduceEqDiff, Nat.reduceAdd, Nat.reduceMul, Nat.reduceLeDiff, Nat.reduceLT, Int.reduceLE, Int.reduceLT, reduceCtorEq]
  refine KL_ind k86_b0.eq_1 (fun x : Nat => [(1, .int .i64 (it f x p)), (2, .fptr (ints (mp f)) 0), (6, .int .i64 x)]) (fun _ => []) (fun x => x ≤ 60 ∧ ∀ j, j < x → cyc f n (it f j p) = false) (fun x => 60 - x) [1, 2, 6] 0 (by rfl) rfl ⟨Nat.zero_le _, fun j h => by omega⟩ fun x ⟨hx, hno⟩ ih => ?_
  have hq := it_lt hf hp x
  try simp only [hlf, take6, List.drop_zero, Int.cast_ofNat_Int, go_sem, ↓reduceIte, Nat.reduceEqDiff, Nat.reduceAdd, Nat.reduceMul, Nat.reduceLeDiff, Nat.reduceLT, Int.reduceLE, Int.reduceLT, reduceCtorEq]
  refine (p94 f n _ hf hq).go ?_
  try simp only [hlf, take6, List.drop_zero, Int.cast_ofNat_Int, go_sem, ↓reduceIte, Nat.reduceEqDiff, Nat.reduceAdd, Nat.reduceMul, Nat.reduceLeDiff, Nat.reduceLT, Int.reduceLE, Int.reduceLT, reduceCtorEq]
  refine ⟨fun h1 => ?_, fun h1 => ?_⟩
  · have hx2 : x + 1 < n := by
      refine Decidable.byContradiction fun hn => ?_
      have := cyc_late hf hp (k := x) (by omega)
      rw [this] at h1; cases h1
    repeat' (first | refine And.intro ?_ ?_ | intro _)
    all_goals (try omega)
    refine ih (x + 1) ⟨by omega, fun j hj => ?_⟩ (by omega) _ _ (by rfl) rfl
    by_cases e : j = x
    · subst e; simpa using h1
    · exact hno j (by omega)
  · have e := hgt_eq hx (by simpa using h1) hno
    exact Kv.Fin.now ⟨by rw [e], rfl⟩
/-- The first steps from p. -/
def its (f : List Nat) (p m : Nat) : List Int := (List.range m).map fun k => (it f k p : Int)
@[simp] theorem its_length (f : List Nat) (p m : Nat) : (its f p m).length = m := by simp [its]
theorem its_succ (f : List Nat) (p m : Nat) : its f p m ++ [(it f m p : Int)] = its f p (m + 1) := by simp [its, List.range_succ]
theorem p88 (f : List Nat) (n p : Nat) (hf : Ok f n) (hp : p < n) (hc : cyc f n p = true) : ACall Tryz.prog 88 [.agg (ints (mp f)), .int .i64 p] [] (fun v s => (∃ m, m ≤ 59 ∧ it f (m + 1) p = p ∧ v = .list (ints (its f p (m + 1)))) ∧ s = []) := by
  have hlf := hf.mp_len
  have h5 := hf.le
  refine e88 (by simp) fun _ _ => ?_
  simp only [k88, argEnv, hlf, hf.len, take6, List.drop_zero, Int.cast_ofNat_Int, go_sem, ↓reduceIte, Nat.reduceEqDiff, Nat.reduceAdd, Nat.reduceMul, Nat.reduceLeDiff, Nat.reduceLT, Int.reduceLE, Int.reduceLT, reduceCtorEq]
  refine ⟨by omega, by omega, fun _ => ?_⟩
  refine KL_ind k88_b0.eq_1 (fun x : Nat => [(1, .int .i64 p), (2, .fptr (ints (mp f)) 0), (5, .ref 0 x 0 (x + 1)), (6, .int .i64 (it f (x + 1) p))]) (fun x => [.arr x 2 1 (ints (its f p (x + 1)))]) (fun x => x ≤ 59) (fun x => 60 - x) [1, 2, 5, 6] 0 (by rfl) (by rfl) (Nat.zero_le _) fun x hx ih => ?_
  have hq := it_lt hf hp (x + 1)
  try simp only [hlf, take6, List.drop_zero, Int.cast_ofNat_Int, go_sem, ↓reduceIte, Nat.reduceEqDiff, Nat.reduceAdd, Nat.reduceMul, Nat.reduceLeDiff, Nat.reduceLT, Int.reduceLE, Int.reduceLT, reduceCtorEq]
  refine ⟨fun h1 => ?_, fun h1 => ?_⟩
  · have hx2 : x < 59 := by
      refine Decidable.byContradiction fun hn => h1 ?_
      obtain rfl : x = 59 := by omega
      rw [cyc_60 hf hc]
    have hl := its_length f p (x + 1)
    try simp only [hl, take6, List.drop_zero, Int.cast_ofNat_Int, go_sem, ↓reduceIte, Nat.reduceEqDiff, Nat.reduceAdd, Nat.reduceMul, Nat.reduceLeDiff, Nat.reduceLT, Int.reduceLE, Int.reduceLT, reduceCtorEq]
    repeat' (first | refine And.intro ?_ ?_ | intro _)
    all_goals (try omega)
    refine ih (x + 1) (by omega) (by omega) _ _ (by rfl) ?_
    rw [List.take_of_length_le (by omega), its_succ]
  · refine Kv.Fin.freeze (.refn (l := its f p (x + 1)) rfl (by simp)) ⟨⟨x, hx, by omega, rfl⟩, rfl⟩
/-- The least of the first ones. -/
def mnl (l : List Int) : Nat → Int
  | 0 => l.getD 0 0
  | x + 1 => min (mnl l x) (l.getD (x + 1) 0)
theorem p87 (l : List Int) (hl : 1 ≤ l.length) (hl2 : l.length ≤ 4294967296) : Pure Tryz.prog 87 [.list (ints l)] (.int .i64 (mnl l (l.length - 1))) := by
  refine e87 (by simp) fun _ _ => ?_
  simp only [k87, argEnv, take6, List.drop_zero, Int.cast_ofNat_Int, go_sem, ↓reduceIte, Nat.reduceEqDiff, Nat.reduceAdd, Nat.reduceMul, Nat.reduceLeDiff, Nat.reduceLT, Int.reduceLE, Int.reduceLT, reduceCtorEq]
  refine ⟨fun h => by omega, fun _ => ⟨by omega, fun _ => ?_⟩⟩
  refine KL_ind k87_b0.eq_1 (fun x : Nat => [(0, .list (ints l)), (3, .int .i64 (mnl l x)), (4, .int .i64 (x + 1))]) (fun _ => []) (fun x => x < l.length) (fun x => l.length - x) [0, 3, 4] 0 (by rfl) rfl (by omega) fun x hx ih => ?_
  try simp only [take6, List.drop_zero, Int.cast_ofNat_Int, go_sem, ↓reduceIte, Nat.reduceEqDiff, Nat.reduceAdd, Nat.reduceMul, Nat.reduceLeDiff, Nat.reduceLT, Int.reduceLE, Int.reduceLT, reduceCtorEq]
  refine ⟨fun h1 => ⟨by omega, fun h2 => ?_⟩, fun h1 => ?_⟩
  · repeat' (first | refine And.intro ?_ ?_ | intro _)
    all_goals (try omega)
    exact ih (x + 1) (by omega) (by omega) _ _ (by rfl) rfl
  · obtain rfl : x = l.length - 1 := by omega
    exact Kv.Fin.now ⟨rfl, rfl⟩
theorem mnl_its (f : List Nat) (p m : Nat) : ∀ x, x < m → mnl (its f p m) x = (lo f p x : Int)
  | 0, h => by simp [mnl, its, lo, h, it]
  | x + 1, h => by
    have e : (its f p m).getD (x + 1) 0 = (it f (x + 1) p : Int) := by simp [its, h]
    simp only [mnl, lo, mnl_its f p m x (by omega), e]
    omega
theorem p92 (f : List Nat) (n k : Nat) (hf : Ok f n) (hk : k ≤ 1000000000000) : Pure Tryz.prog 92 [.agg (ints (mp f)), .int .i64 k] (.agg (ints (mp (itM f n k)))) := by
  have hlf := hf.mp_len
  have hli := (Ok.idn hf.pos hf.le).mp_len
  refine e92 (by simp) fun _ _ => ?_
  simp only [k92, argEnv, hlf, hf.len, take6, List.drop_zero, Int.cast_ofNat_Int, go_sem, ↓reduceIte, Nat.reduceEqDiff, Nat.reduceAdd, Nat.reduceMul, Nat.reduceLeDiff, Nat.reduceLT, Int.reduceLE, Int.reduceLT, reduceCtorEq]
  refine (p143 n hf.pos hf.le).go ?_
  try simp only [hli, take6, List.drop_zero, Int.cast_ofNat_Int, go_sem, ↓reduceIte, Nat.reduceEqDiff, Nat.reduceAdd, Nat.reduceMul, Nat.reduceLeDiff, Nat.reduceLT, Int.reduceLE, Int.reduceLT, reduceCtorEq]
  refine KL_ind k92_b0.eq_1 (fun x : Nat × Nat × Nat => [(1, .int .i64 x.1), (2, .ptr 0 0), (4, .ptr 1 0), (5, .ptr 2 0)]) (fun x => [.box (ints (mp (itM f n x.2.2))), .box (ints [0, 0, 0, 0, 0, 0]), .box (ints (mp (itM f n x.2.1)))]) (fun x => x.1 ≤ 1000000000000 ∧ x.2.1 + x.2.2 * x.1 = k) (fun x => x.1) [1, 2, 4, 5] (k, 0, 1) (by rfl) (by rw [itM_zero, itM_one hf]; rfl) ⟨hk, by simp⟩ fun ⟨x, a, b⟩ ⟨hx, hab⟩ ih => ?_
  simp only at hx hab
  have hla := (itM_ok hf a).mp_len
  have hlb := (itM_ok hf b).mp_len
  have hlbb := (itM_ok hf (b + b)).mp_len
  have hlab := (itM_ok hf (a + b)).mp_len
  have h1 := p131 _ _ n (itM_ok hf b) (itM_ok hf b)
  have h2 := p131 _ _ n (itM_ok hf a) (itM_ok hf b)
  rw [itM_mul hf] at h1 h2
  try simp only [hla, hlb, take6, List.drop_zero, Int.cast_ofNat_Int, go_sem, ↓reduceIte, Nat.reduceEqDiff, Nat.reduceAdd, Nat.reduceMul, Nat.reduceLeDiff, Nat.reduceLT, Int.reduceLE, Int.reduceLT, reduceCtorEq]
  refine ⟨fun h3 => ⟨fun h4 => ?_, fun h4 => ?_⟩, fun h3 => ?_⟩
  · refine h2.go ?_
    try simp only [hla, hlb, hlab, take6, List.drop_zero, Int.cast_ofNat_Int, go_sem, ↓reduceIte, Nat.reduceEqDiff, Nat.reduceAdd, Nat.reduceMul, Nat.reduceLeDiff, Nat.reduceLT, Int.reduceLE, Int.reduceLT, reduceCtorEq]
    refine h1.go ?_
    try simp only [hlb, hlbb, take6, List.drop_zero, Int.cast_ofNat_Int, go_sem, ↓reduceIte, Nat.reduceEqDiff, Nat.reduceAdd, Nat.reduceMul, Nat.reduceLeDiff, Nat.reduceLT, Int.reduceLE, Int.reduceLT, reduceCtorEq]
    repeat' (first | refine And.intro ?_ ?_ | intro _)
    all_goals (try omega)
    refine ih (x / 2, a + b, b + b) ⟨by show x / 2 ≤ _; omega, ?_⟩ (by show x / 2 < x; omega) _ _ (by rfl) (by rfl)
    show a + b + (b + b) * (x / 2) = k
    have : x = 2 * (x / 2) + 1 := by omega
    rw [← hab]
    conv => rhs; rw [this]
    rw [Nat.mul_add, ← Nat.mul_assoc, Nat.mul_two, Nat.mul_one]
    generalize (b + b) * (x / 2) = z
    omega
  · refine h1.go ?_
    try simp only [hlb, hlbb, take6, List.drop_zero, Int.cast_ofNat_Int, go_sem, ↓reduceIte, Nat.reduceEqDiff, Nat.reduceAdd, Nat.reduceMul, Nat.reduceLeDiff, Nat.reduceLT, Int.reduceLE, Int.reduceLT, reduceCtorEq]
    repeat' (first | refine And.intro ?_ ?_ | intro _)
    all_goals (try omega)
    refine ih (x / 2, a, b + b) ⟨by show x / 2 ≤ _; omega, ?_⟩ (by show x / 2 < x; omega) _ _ (by rfl) (by rfl)
    show a + (b + b) * (x / 2) = k
    have : x = 2 * (x / 2) := by omega
    rw [← hab]
    conv => rhs; rw [this]
    rw [← Nat.mul_assoc, Nat.mul_two]
  · obtain rfl : x = 0 := by omega
    simp only [Nat.mul_zero, Nat.add_zero] at hab
    subst hab
    exact Kv.Fin.still ⟨rfl, rfl⟩
theorem p91 (f : List Nat) (n : Nat) (hf : Ok f n) : Pure Tryz.prog 91 [.agg (ints (mp f))] (.int .i64 (sb f)) := by
  have hlf := hf.mp_len
  have h5 := hf.le
  refine e91 (by simp) fun _ _ => ?_
  simp only [k91, argEnv, hlf, take6, List.drop_zero, Int.cast_ofNat_Int, go_sem, ↓reduceIte, Nat.reduceEqDiff, Nat.reduceAdd, Nat.reduceMul, Nat.reduceLeDiff, Nat.reduceLT, Int.reduceLE, Int.reduceLT, reduceCtorEq]
  refine KL_ind k91_b0.eq_1 (fun x : Nat => [(1, .fptr (ints (mp f)) 0), (3, .int .i64 (sb (f.take x))), (4, .int .i64 x)]) (fun _ => []) (fun x => x ≤ n) (fun x => n - x) [1, 3, 4] 0 (by rfl) rfl (Nat.zero_le _) fun x hx ih => ?_
  have hp := hf.get' x
  have hb : sb (f.take x) < 2 ^ 62 := Nat.lt_trans (sb_lt (n := 5) fun y hy => by have := hf.lt y (List.mem_of_mem_take hy); omega) (by decide)
  have hb2 : 2 ^ f.getD x 0 < 2 ^ 62 := Nat.pow_lt_pow_right (by omega) (by omega)
  have hp61 : f.getD x 0 ≤ 61 := by omega
  try simp only [hlf, hf.len, aConv_u64 hp61, aBin_shl1 hp61, aBin_or hb hb2, take6, List.drop_zero, Int.cast_ofNat_Int, go_sem, ↓reduceIte, Nat.reduceEqDiff, Nat.reduceAdd, Nat.reduceMul, Nat.reduceLeDiff, Nat.reduceLT, Int.reduceLE, Int.reduceLT, reduceCtorEq]
  refine ⟨fun h1 => ?_, fun h1 => ?_⟩
  · repeat' (first | refine And.intro ?_ ?_ | intro _)
    all_goals (try omega)
    refine ih (x + 1) (by omega) (by omega) _ _ ?_ rfl
    have hxl : x < f.length := by rw [hf.len]; omega
    rw [List.take_succ_eq_append_getElem hxl, sb_snoc, List.getD_eq_getElem?_getD, List.getElem?_eq_getElem hxl]
    rfl
  · obtain rfl : x = n := by omega
    rw [List.take_of_length_le (by rw [hf.len]; omega)]
    exact Kv.Fin.now ⟨rfl, rfl⟩
end Go.Proofs.YtpfapiiinkkcgaaGreat
end
section
/- Sorting of at most twelve numbers; what is left when neighbours that are equal are one. -/
namespace Go.Proofs.YtpfapiiinkkcgaaGreat
open Go.Kv
set_option maxRecDepth 100000
/- cmp.isNaN[int64] -/
def k147 : KC := (.seq (.ops [⟨(some 2), none, .mv (.c (.bool false))⟩])
  (.seq (.ops [⟨(some 3), none, .mv (.t 0)⟩, ⟨(some 4), none, .mv (.t 0)⟩, ⟨(some 5), none, .bin .neq (.t 3) (.t 4)⟩, ⟨(some 2), none, .mv (.t 5)⟩])
  .ret))
theorem e147 {args : List PV} {σ : Heap} {K : PV → Heap → Prop} (hl : args.length ≤ 6) (h : Wf σ → (∀ a ∈ args, PV.upto σ.length a) → vc (mkCfg Tryz.prog mixed [] 6 σ.length) k147 (FinK σ.length [.t 2] K) (argEnv 0 args) σ) : ACall Tryz.prog 147 args σ K :=
  ACall_enter (C := mkCfg Tryz.prog mixed [] 6 σ.length) (c := Tryz.f147.body.getD .skip) Tryz.func147 (by kernel_rfl) (by kernel_rfl) (by kernel_rfl) rfl hl (by kernel_rfl) (by kernel_rfl) h
/- cmp.Less[int64] -/
def k225 : KC := (.seq (.ops [⟨(some 4), none, .mv (.c (.bool false))⟩])
  (.seq (.ops [⟨(some 5), none, .mv (.t 0)⟩, ⟨(some 6), none, .call (.c (.fn (.func 147) [] [])) [(.t 5)]⟩, ⟨(some 7), none, .mv (.t 6)⟩, ⟨(some 8), some (7, true), .mv (.t 1)⟩, ⟨(some 9), some (7, true), .call (.c (.fn (.func 147) [] [])) [(.t 8)]⟩, ⟨(some 10), some (7, true), .not (.t 9)⟩, ⟨(some 11), none, .pick (.t 7) (.t 10) (.c (.bool false))⟩, ⟨(some 12), none, .mv (.t 11)⟩, ⟨(some 13), some (12, false), .mv (.t 0)⟩, ⟨(some 14), some (12, false), .mv (.t 1)⟩, ⟨(some 15), some (12, false), .bin .lss (.t 13) (.t 14)⟩, ⟨(some 16), none, .pick (.t 12) (.c (.bool true)) (.t 15)⟩, ⟨(some 4), none, .mv (.t 16)⟩])
  .ret))
theorem e225 {args : List PV} {σ : Heap} {K : PV → Heap → Prop} (hl : args.length ≤ 17) (h : Wf σ → (∀ a ∈ args, PV.upto σ.length a) → vc (mkCfg Tryz.prog mixed [] 17 σ.length) k225 (FinK σ.length [.t 4] K) (argEnv 0 args) σ) : ACall Tryz.prog 225 args σ K :=
  ACall_enter (C := mkCfg Tryz.prog mixed [] 17 σ.length) (c := Tryz.f225.body.getD .skip) Tryz.func225 (by kernel_rfl) (by kernel_rfl) (by kernel_rfl) rfl hl (by kernel_rfl) (by kernel_rfl) h
/- slices.insertionSortOrdered[int64] -/
/- live [0, 1, 2, 6, 7, 20, 21, 22, 23, 24, 25, 26, 27, 28, 29] -/
def k219_b0 : KC := (.seq (.seq (.draw [⟨(some 16), none, .mv (.t 7)⟩, ⟨(some 17), none, .mv (.t 1)⟩, ⟨(some 18), none, .bin .gtr (.t 16) (.t 17)⟩, ⟨(some 19), none, .mv (.t 18)⟩, ⟨(some 20), some (19, true), .mv (.t 0)⟩, ⟨(some 21), some (19, true), .mv (.t 7)⟩, ⟨(some 22), some (19, true), .idxS 1 (.t 20) (.t 21)⟩, ⟨(some 23), some (19, true), .load false 1 (.t 22)⟩, ⟨(some 24), some (19, true), .mv (.t 0)⟩, ⟨(some 25), some (19, true), .mv (.t 7)⟩, ⟨(some 26), some (19, true), .bin .sub (.t 25) (.c (.int .i64 1))⟩, ⟨(some 27), some (19, true), .idxS 1 (.t 24) (.t 26)⟩, ⟨(some 28), some (19, true), .load false 1 (.t 27)⟩, ⟨(some 29), some (19, true), .pcall (.c (.fn (.func 225) [] [])) [(.t 23), (.t 28)]⟩, ⟨(some 30), none, .pick (.t 19) (.t 29) (.c (.bool false))⟩])
  (.cond (.t 30) .skip (.exit 2)))
  (.seq (.block 3 (.draw [⟨(some 33), none, .mv (.t 0)⟩, ⟨(some 34), none, .mv (.t 7)⟩, ⟨(some 35), none, .mv (.t 0)⟩, ⟨(some 36), none, .mv (.t 7)⟩, ⟨(some 37), none, .bin .sub (.t 36) (.c (.int .i64 1))⟩, ⟨(some 38), none, .mv (.t 0)⟩, ⟨(some 39), none, .mv (.t 7)⟩, ⟨(some 40), none, .bin .sub (.t 39) (.c (.int .i64 1))⟩, ⟨(some 41), none, .idxS 1 (.t 38) (.t 40)⟩, ⟨(some 42), none, .load false 1 (.t 41)⟩, ⟨(some 43), none, .mv (.t 0)⟩, ⟨(some 44), none, .mv (.t 7)⟩, ⟨(some 45), none, .idxS 1 (.t 43) (.t 44)⟩, ⟨(some 46), none, .load false 1 (.t 45)⟩, ⟨(some 47), none, .idxS 1 (.t 33) (.t 34)⟩, ⟨none, none, .store 1 (.t 47) (.t 42)⟩, ⟨(some 48), none, .idxS 1 (.t 35) (.t 37)⟩, ⟨none, none, .store 1 (.t 48) (.t 46)⟩]))
  (.ops [⟨(some 31), none, .mv (.t 7)⟩, ⟨(some 32), none, .bin .sub (.t 31) (.c (.int .i64 1))⟩, ⟨(some 7), none, .mv (.t 32)⟩])))
/- live [0, 1, 2, 6, 20, 21, 22, 23, 24, 25, 26, 27, 28, 29] -/
def k219_b1 : KC := (.seq (.seq (.ops [⟨(some 10), none, .mv (.t 6)⟩, ⟨(some 11), none, .mv (.t 2)⟩, ⟨(some 12), none, .bin .lss (.t 10) (.t 11)⟩])
  (.cond (.t 12) .skip (.exit 0)))
  (.seq (.block 1 (.seq (.ops [⟨(some 15), none, .mv (.t 6)⟩, ⟨(some 7), none, .mv (.t 15)⟩])
  (.block 2 (.loop k219_b0))))
  (.ops [⟨(some 13), none, .mv (.t 6)⟩, ⟨(some 14), none, .bin .add (.t 13) (.c (.int .i64 1))⟩, ⟨(some 6), none, .mv (.t 14)⟩])))
def k219 : KC := (.seq (.ops [⟨(some 8), none, .mv (.t 1)⟩, ⟨(some 9), none, .bin .add (.t 8) (.c (.int .i64 1))⟩, ⟨(some 6), none, .mv (.t 9)⟩])
  (.block 0 (.loop k219_b1)))
theorem e219 {args : List PV} {σ : Heap} {K : PV → Heap → Prop} (hl : args.length ≤ 49) (h : Wf σ → (∀ a ∈ args, PV.upto σ.length a) → vc (mkCfg Tryz.prog mixed [] 49 σ.length) k219 (FinK σ.length [] K) (argEnv 0 args) σ) : ACall Tryz.prog 219 args σ K :=
  ACall_enter (C := mkCfg Tryz.prog mixed [] 49 σ.length) (c := Tryz.f219.body.getD .skip) Tryz.func219 (by kernel_rfl) (by kernel_rfl) (by kernel_rfl) rfl hl (by kernel_rfl) (by kernel_rfl) h
/- slices.pdqsortOrdered[int64] -/
/- live [0, 1, 2, 3, 8, 9, 63, 66, 67, 76, 77, 78, 79, 80, 81, 82, 83, 84, 85, 86] -/
def k215_b0 : KC := (.block 1 (.seq (.ops [⟨(some 19), none, .mv (.t 2)⟩, ⟨(some 20), none, .mv (.t 1)⟩, ⟨(some 21), none, .bin .sub (.t 19) (.t 20)⟩, ⟨(some 10), none, .mv (.t 21)⟩])
  (.seq (.seq (.ops [⟨(some 22), none, .mv (.t 10)⟩, ⟨(some 23), none, .bin .leq (.t 22) (.c (.int .i64 12))⟩])
  (.cond (.t 23) (.seq (.ops [⟨(some 24), none, .mv (.t 0)⟩, ⟨(some 25), none, .mv (.t 1)⟩, ⟨(some 26), none, .mv (.t 2)⟩, ⟨(some 27), none, .call (.c (.fn (.func 219) [] [])) [(.t 24), (.t 25), (.t 26)]⟩])
  .ret) .skip))
  (.seq (.seq (.ops [⟨(some 28), none, .mv (.t 3)⟩, ⟨(some 29), none, .bin .eql (.t 28) (.c (.int .i64 0))⟩])
  (.cond (.t 29) (.seq (.ops [⟨(some 30), none, .mv (.t 0)⟩, ⟨(some 31), none, .mv (.t 1)⟩, ⟨(some 32), none, .mv (.t 2)⟩, ⟨(some 33), none, .call (.c (.fn (.func 220) [] [])) [(.t 30), (.t 31), (.t 32)]⟩])
  .ret) .skip))
  (.seq (.seq (.ops [⟨(some 34), none, .mv (.t 8)⟩, ⟨(some 35), none, .not (.t 34)⟩])
  (.cond (.t 35) (.seq (.ops [⟨(some 36), none, .mv (.t 0)⟩, ⟨(some 37), none, .mv (.t 1)⟩, ⟨(some 38), none, .mv (.t 2)⟩, ⟨(some 39), none, .call (.c (.fn (.func 221) [] [])) [(.t 36), (.t 37), (.t 38)]⟩])
  (.ops [⟨(some 40), none, .mv (.t 3)⟩, ⟨(some 41), none, .bin .sub (.t 40) (.c (.int .i64 1))⟩, ⟨(some 3), none, .mv (.t 41)⟩])) .skip))
  (.seq (.ops [⟨(some 43), none, .mv (.t 0)⟩, ⟨(some 44), none, .mv (.t 1)⟩, ⟨(some 45), none, .mv (.t 2)⟩, ⟨(some 46), none, .call (.c (.fn (.func 222) [] [])) [(.t 43), (.t 44), (.t 45)]⟩, ⟨(some 42), none, .mv (.t 46)⟩, ⟨(some 47), none, .extr 0 (.t 42)⟩, ⟨(some 48), none, .extr 1 (.t 42)⟩, ⟨(some 11), none, .mv (.t 47)⟩, ⟨(some 12), none, .mv (.t 48)⟩])
  (.seq (.seq (.ops [⟨(some 49), none, .mv (.t 12)⟩, ⟨(some 50), none, .bin .eql (.t 49) (.c (.int .i64 2))⟩])
  (.cond (.t 50) (.seq (.ops [⟨(some 51), none, .mv (.t 0)⟩, ⟨(some 52), none, .mv (.t 1)⟩, ⟨(some 53), none, .mv (.t 2)⟩, ⟨(some 54), none, .call (.c (.fn (.func 223) [] [])) [(.t 51), (.t 52), (.t 53)]⟩])
  (.seq (.ops [⟨(some 55), none, .mv (.t 2)⟩, ⟨(some 56), none, .bin .sub (.t 55) (.c (.int .i64 1))⟩, ⟨(some 57), none, .mv (.t 11)⟩, ⟨(some 58), none, .mv (.t 1)⟩, ⟨(some 59), none, .bin .sub (.t 57) (.t 58)⟩, ⟨(some 60), none, .bin .sub (.t 56) (.t 59)⟩, ⟨(some 11), none, .mv (.t 60)⟩])
  (.ops [⟨(some 12), none, .mv (.c (.int .i64 1))⟩]))) .skip))
  (.seq (.seq (.ops [⟨(some 61), none, .mv (.t 8)⟩, ⟨(some 62), none, .mv (.t 61)⟩, ⟨(some 63), some (62, true), .mv (.t 9)⟩, ⟨(some 64), none, .pick (.t 62) (.t 63) (.c (.bool false))⟩, ⟨(some 65), none, .mv (.t 64)⟩, ⟨(some 66), some (65, true), .mv (.t 12)⟩, ⟨(some 67), some (65, true), .bin .eql (.t 66) (.c (.int .i64 1))⟩, ⟨(some 68), none, .pick (.t 65) (.t 67) (.c (.bool false))⟩])
  (.cond (.t 68) (.seq (.ops [⟨(some 69), none, .mv (.t 0)⟩, ⟨(some 70), none, .mv (.t 1)⟩, ⟨(some 71), none, .mv (.t 2)⟩, ⟨(some 72), none, .call (.c (.fn (.func 224) [] [])) [(.t 69), (.t 70), (.t 71)]⟩])
  (.cond (.t 72) .ret .skip)) .skip))
  (.seq (.seq (.draw [⟨(some 73), none, .mv (.t 1)⟩, ⟨(some 74), none, .bin .gtr (.t 73) (.c (.int .i64 0))⟩, ⟨(some 75), none, .mv (.t 74)⟩, ⟨(some 76), some (75, true), .mv (.t 0)⟩, ⟨(some 77), some (75, true), .mv (.t 1)⟩, ⟨(some 78), some (75, true), .bin .sub (.t 77) (.c (.int .i64 1))⟩, ⟨(some 79), some (75, true), .idxS 1 (.t 76) (.t 78)⟩, ⟨(some 80), some (75, true), .load false 1 (.t 79)⟩, ⟨(some 81), some (75, true), .mv (.t 0)⟩, ⟨(some 82), some (75, true), .mv (.t 11)⟩, ⟨(some 83), some (75, true), .idxS 1 (.t 81) (.t 82)⟩, ⟨(some 84), some (75, true), .load false 1 (.t 83)⟩, ⟨(some 85), some (75, true), .pcall (.c (.fn (.func 225) [] [])) [(.t 80), (.t 84)]⟩, ⟨(some 86), some (75, true), .not (.t 85)⟩, ⟨(some 87), none, .pick (.t 75) (.t 86) (.c (.bool false))⟩])
  (.cond (.t 87) (.seq (.ops [⟨(some 88), none, .mv (.t 0)⟩, ⟨(some 89), none, .mv (.t 1)⟩, ⟨(some 90), none, .mv (.t 2)⟩, ⟨(some 91), none, .mv (.t 11)⟩, ⟨(some 92), none, .call (.c (.fn (.func 226) [] [])) [(.t 88), (.t 89), (.t 90), (.t 91)]⟩, ⟨(some 13), none, .mv (.t 92)⟩])
  (.seq (.ops [⟨(some 93), none, .mv (.t 13)⟩, ⟨(some 1), none, .mv (.t 93)⟩])
  (.exit 1))) .skip))
  (.seq (.ops [⟨(some 95), none, .mv (.t 0)⟩, ⟨(some 96), none, .mv (.t 1)⟩, ⟨(some 97), none, .mv (.t 2)⟩, ⟨(some 98), none, .mv (.t 11)⟩, ⟨(some 99), none, .call (.c (.fn (.func 227) [] [])) [(.t 95), (.t 96), (.t 97), (.t 98)]⟩, ⟨(some 94), none, .mv (.t 99)⟩, ⟨(some 100), none, .extr 0 (.t 94)⟩, ⟨(some 101), none, .extr 1 (.t 94)⟩, ⟨(some 14), none, .mv (.t 100)⟩, ⟨(some 15), none, .mv (.t 101)⟩])
  (.seq (.ops [⟨(some 102), none, .mv (.t 15)⟩, ⟨(some 9), none, .mv (.t 102)⟩])
  (.seq (.ops [⟨(some 103), none, .mv (.t 14)⟩, ⟨(some 104), none, .mv (.t 1)⟩, ⟨(some 105), none, .bin .sub (.t 103) (.t 104)⟩, ⟨(some 106), none, .mv (.t 2)⟩, ⟨(some 107), none, .mv (.t 14)⟩, ⟨(some 108), none, .bin .sub (.t 106) (.t 107)⟩, ⟨(some 16), none, .mv (.t 105)⟩, ⟨(some 17), none, .mv (.t 108)⟩])
  (.seq (.ops [⟨(some 109), none, .mv (.t 10)⟩, ⟨(some 110), none, .bin .quo (.t 109) (.c (.int .i64 8))⟩, ⟨(some 18), none, .mv (.t 110)⟩])
  (.seq (.ops [⟨(some 111), none, .mv (.t 16)⟩, ⟨(some 112), none, .mv (.t 17)⟩, ⟨(some 113), none, .bin .lss (.t 111) (.t 112)⟩])
  (.cond (.t 113) (.seq (.ops [⟨(some 114), none, .mv (.t 16)⟩, ⟨(some 115), none, .mv (.t 18)⟩, ⟨(some 116), none, .bin .geq (.t 114) (.t 115)⟩, ⟨(some 8), none, .mv (.t 116)⟩])
  (.seq (.ops [⟨(some 117), none, .mv (.t 0)⟩, ⟨(some 118), none, .mv (.t 1)⟩, ⟨(some 119), none, .mv (.t 14)⟩, ⟨(some 120), none, .mv (.t 3)⟩, ⟨(some 121), none, .call (.c (.fn (.func 215) [] [])) [(.t 117), (.t 118), (.t 119), (.t 120)]⟩])
  (.ops [⟨(some 122), none, .mv (.t 14)⟩, ⟨(some 123), none, .bin .add (.t 122) (.c (.int .i64 1))⟩, ⟨(some 1), none, .mv (.t 123)⟩]))) (.seq (.ops [⟨(some 124), none, .mv (.t 17)⟩, ⟨(some 125), none, .mv (.t 18)⟩, ⟨(some 126), none, .bin .geq (.t 124) (.t 125)⟩, ⟨(some 8), none, .mv (.t 126)⟩])
  (.seq (.ops [⟨(some 127), none, .mv (.t 0)⟩, ⟨(some 128), none, .mv (.t 14)⟩, ⟨(some 129), none, .bin .add (.t 128) (.c (.int .i64 1))⟩, ⟨(some 130), none, .mv (.t 2)⟩, ⟨(some 131), none, .mv (.t 3)⟩, ⟨(some 132), none, .call (.c (.fn (.func 215) [] [])) [(.t 127), (.t 129), (.t 130), (.t 131)]⟩])
  (.ops [⟨(some 133), none, .mv (.t 14)⟩, ⟨(some 2), none, .mv (.t 133)⟩]))))))))))))))))))
def k215 : KC := (.seq (.ops [⟨(some 8), none, .mv (.c (.bool true))⟩])
  (.seq (.ops [⟨(some 9), none, .mv (.c (.bool true))⟩])
  (.block 0 (.loop k215_b0))))
theorem e215 {args : List PV} {σ : Heap} {K : PV → Heap → Prop} (hl : args.length ≤ 134) (h : Wf σ → (∀ a ∈ args, PV.upto σ.length a) → vc (mkCfg Tryz.prog mixed [] 134 σ.length) k215 (FinK σ.length [] K) (argEnv 0 args) σ) : ACall Tryz.prog 215 args σ K :=
  ACall_enter (C := mkCfg Tryz.prog mixed [] 134 σ.length) (c := Tryz.f215.body.getD .skip) Tryz.func215 (by kernel_rfl) (by kernel_rfl) (by kernel_rfl) rfl hl (by kernel_rfl) (by kernel_rfl) h
/- slices.Sort[[]int64,int64] -/
def k204 : KC := (.seq (.ops [⟨(some 3), none, .mv (.t 0)⟩, ⟨(some 4), none, .len false (.t 3)⟩, ⟨(some 2), none, .mv (.t 4)⟩])
  (.ops [⟨(some 5), none, .mv (.t 0)⟩, ⟨(some 6), none, .mv (.t 2)⟩, ⟨(some 7), none, .mv (.t 2)⟩, ⟨(some 8), none, .conv .u64 (.t 7)⟩, ⟨(some 9), none, .call (.c (.fn (.func 146) [] [])) [(.t 8)]⟩, ⟨(some 10), none, .call (.c (.fn (.func 215) [] [])) [(.t 5), (.c (.int .i64 0)), (.t 6), (.t 9)]⟩]))
theorem e204 {args : List PV} {σ : Heap} {K : PV → Heap → Prop} (hl : args.length ≤ 11) (h : Wf σ → (∀ a ∈ args, PV.upto σ.length a) → vc (mkCfg Tryz.prog mixed [] 11 σ.length) k204 (FinK σ.length [] K) (argEnv 0 args) σ) : ACall Tryz.prog 204 args σ K :=
  ACall_enter (C := mkCfg Tryz.prog mixed [] 11 σ.length) (c := Tryz.f204.body.getD .skip) Tryz.func204 (by kernel_rfl) (by kernel_rfl) (by kernel_rfl) rfl hl (by kernel_rfl) (by kernel_rfl) h
/- math/bits.Len -/
def k146 : KC := (.seq (.ops [⟨(some 2), none, .mv (.c (.int .i64 0))⟩])
  (.seq (.cond (.c (.bool false)) (.seq (.ops [⟨(some 3), none, .mv (.t 0)⟩, ⟨(some 4), none, .conv .u32 (.t 3)⟩, ⟨(some 5), none, .call (.c (.fn (.func 185) [] [])) [(.t 4)]⟩, ⟨(some 2), none, .mv (.t 5)⟩])
  .ret) .skip)
  (.seq (.ops [⟨(some 6), none, .mv (.t 0)⟩, ⟨(some 7), none, .call (.c (.fn (.func 186) [] [])) [(.t 6)]⟩, ⟨(some 2), none, .mv (.t 7)⟩])
  .ret)))
theorem e146 {args : List PV} {σ : Heap} {K : PV → Heap → Prop} (hl : args.length ≤ 8) (h : Wf σ → (∀ a ∈ args, PV.upto σ.length a) → vc (mkCfg Tryz.prog mixed [] 8 σ.length) k146 (FinK σ.length [.t 2] K) (argEnv 0 args) σ) : ACall Tryz.prog 146 args σ K :=
  ACall_enter (C := mkCfg Tryz.prog mixed [] 8 σ.length) (c := Tryz.f146.body.getD .skip) Tryz.func146 (by kernel_rfl) (by kernel_rfl) (by kernel_rfl) rfl hl (by kernel_rfl) (by kernel_rfl) h
/- math/bits.Len64 -/
def k186 : KC := (.seq (.ops [⟨(some 2), none, .mv (.c (.int .i64 0))⟩])
  (.seq (.seq (.ops [⟨(some 3), none, .mv (.t 0)⟩, ⟨(some 4), none, .bin .geq (.t 3) (.c (.int .u64 4294967296))⟩])
  (.cond (.t 4) (.seq (.ops [⟨(some 5), none, .mv (.t 0)⟩, ⟨(some 6), none, .bin .shr (.t 5) (.c (.int .u64 32))⟩, ⟨(some 0), none, .mv (.t 6)⟩])
  (.ops [⟨(some 2), none, .mv (.c (.int .i64 32))⟩])) .skip))
  (.seq (.seq (.ops [⟨(some 7), none, .mv (.t 0)⟩, ⟨(some 8), none, .bin .geq (.t 7) (.c (.int .u64 65536))⟩])
  (.cond (.t 8) (.seq (.ops [⟨(some 9), none, .mv (.t 0)⟩, ⟨(some 10), none, .bin .shr (.t 9) (.c (.int .u64 16))⟩, ⟨(some 0), none, .mv (.t 10)⟩])
  (.ops [⟨(some 11), none, .mv (.t 2)⟩, ⟨(some 12), none, .bin .add (.t 11) (.c (.int .i64 16))⟩, ⟨(some 2), none, .mv (.t 12)⟩])) .skip))
  (.seq (.seq (.ops [⟨(some 13), none, .mv (.t 0)⟩, ⟨(some 14), none, .bin .geq (.t 13) (.c (.int .u64 256))⟩])
  (.cond (.t 14) (.seq (.ops [⟨(some 15), none, .mv (.t 0)⟩, ⟨(some 16), none, .bin .shr (.t 15) (.c (.int .u64 8))⟩, ⟨(some 0), none, .mv (.t 16)⟩])
  (.ops [⟨(some 17), none, .mv (.t 2)⟩, ⟨(some 18), none, .bin .add (.t 17) (.c (.int .i64 8))⟩, ⟨(some 2), none, .mv (.t 18)⟩])) .skip))
  (.seq (.ops [⟨(some 19), none, .mv (.t 2)⟩, ⟨(some 20), none, .mv (.t 0)⟩, ⟨(some 21), none, .conv .u8 (.t 20)⟩, ⟨(some 22), none, .idxStr (.c (.str ([0, 1, 2, 2, 3, 3, 3, 3, 4, 4, 4, 4, 4, 4, 4, 4, 5, 5, 5, 5, 5, 5, 5, 5, 5, 5, 5, 5, 5, 5, 5, 5] ++ List.replicate 32 (6) ++ List.replicate 64 (7) ++ List.replicate 128 (8)))) (.t 21)⟩, ⟨(some 23), none, .conv .i64 (.t 22)⟩, ⟨(some 24), none, .bin .add (.t 19) (.t 23)⟩, ⟨(some 2), none, .mv (.t 24)⟩])
  .ret)))))
theorem e186 {args : List PV} {σ : Heap} {K : PV → Heap → Prop} (hl : args.length ≤ 25) (h : Wf σ → (∀ a ∈ args, PV.upto σ.length a) → vc (mkCfg Tryz.prog mixed [] 25 σ.length) k186 (FinK σ.length [.t 2] K) (argEnv 0 args) σ) : ACall Tryz.prog 186 args σ K :=
  ACall_enter (C := mkCfg Tryz.prog mixed [] 25 σ.length) (c := Tryz.f186.body.getD .skip) Tryz.func186 (by kernel_rfl) (by kernel_rfl) (by kernel_rfl) rfl hl (by kernel_rfl) (by kernel_rfl) h
end Go.Proofs.YtpfapiiinkkcgaaGreat
namespace Go.Proofs.YtpfapiiinkkcgaaGreat
open Go.Kv
set_option linter.unusedVariables false
set_option linter.unusedSimpArgs false
attribute [local irreducible] ACall PCall KL
theorem p147 (a : Int) : Pure Tryz.prog 147 [.int .i64 a] (.bool false) := by
  refine e147 (by simp) fun _ _ => ?_
  simp only [k147, argEnv, take6, List.drop_zero, Int.cast_ofNat_Int, go_sem, ↓reduceIte, Nat.reduceEqDiff, Nat.reduceAdd, Nat.reduceMul, Nat.reduceLeDiff, Nat.reduceLT, Int.reduceLE, Int.reduceLT, reduceCtorEq]
  exact Kv.Fin.still ⟨by simp, rfl⟩
theorem p225 (a b : Int) : Pure Tryz.prog 225 [.int .i64 a, .int .i64 b] (.bool (decide (a < b))) := by
  refine e225 (by simp) fun _ _ => ?_
  simp only [k225, argEnv, take6, List.drop_zero, Int.cast_ofNat_Int, go_sem, ↓reduceIte, Nat.reduceEqDiff, Nat.reduceAdd, Nat.reduceMul, Nat.reduceLeDiff, Nat.reduceLT, Int.reduceLE, Int.reduceLT, reduceCtorEq]
  refine (p147 a).go ?_
  try simp only [take6, List.drop_zero, Int.cast_ofNat_Int, go_sem, ↓reduceIte, Nat.reduceEqDiff, Nat.reduceAdd, Nat.reduceMul, Nat.reduceLeDiff, Nat.reduceLT, Int.reduceLE, Int.reduceLT, reduceCtorEq]
  exact Kv.Fin.still ⟨rfl, rfl⟩
/-- The numbers up to place i are in order, but for the one at place j, which is ahead of all behind it. -/
def Jn (m : List Int) (i j : Nat) : Prop := (∀ x y, x < y → y ≤ i → x ≠ j → y ≠ j → m.getD x 0 ≤ m.getD y 0) ∧ ∀ y, j < y → y ≤ i → m.getD j 0 ≤ m.getD y 0
def Sn (m : List Int) (i : Nat) : Prop := ∀ x y, x < y → y < i → m.getD x 0 ≤ m.getD y 0
theorem getD_setI (m : List Int) (i : Nat) (v : Int) (k : Nat) (h : i < m.length) : (m.set i v).getD k 0 = if k = i then v else m.getD k 0 := by
  rw [List.getD_eq_getElem?_getD]
  by_cases e : k = i
  · subst e; rw [List.getElem?_set_self h]; simp
  · rw [List.getElem?_set_ne (Ne.symm e), if_neg e, List.getD_eq_getElem?_getD]
theorem Jn.zero {m : List Int} {i : Nat} (h : Sn m i) : Jn m i i := ⟨fun x y h1 h2 h3 h4 => h x y h1 (by omega), fun y h1 h2 => by omega⟩
theorem Jn.done {m : List Int} {i j : Nat} (h : Jn m i j) (hj : j ≤ i) (hs : j = 0 ∨ m.getD (j - 1) 0 ≤ m.getD j 0) : Sn m (i + 1) := fun x y h1 h2 => by
  by_cases ex : x = j
  · subst ex; exact h.2 y h1 (by omega)
  · by_cases ey : y = j
    · subst ey
      rcases hs with hs | hs
      · omega
      · by_cases e : x = y - 1
        · rw [e]; exact hs
        · exact Int.le_trans (h.1 x (y - 1) (by omega) (by omega) ex (by omega)) hs
    · exact h.1 x y h1 (by omega) ex ey
def swap1 (m : List Int) (j : Nat) : List Int := (m.set j (m.getD (j - 1) 0)).set (j - 1) (m.getD j 0)
@[simp] theorem swap1_length (m : List Int) (j : Nat) : (swap1 m j).length = m.length := by simp [swap1]
theorem swap1_getD {m : List Int} {j : Nat} (h : j < m.length) (k : Nat) : (swap1 m j).getD k 0 = if k = j - 1 then m.getD j 0 else if k = j then m.getD (j - 1) 0 else m.getD k 0 := by
  rw [swap1, getD_setI _ _ _ _ (by simp; omega), getD_setI _ _ _ _ h]
theorem swap1_perm {m : List Int} {j : Nat} (h : j < m.length) : (swap1 m j).Perm m := by
  have h1 : j - 1 < m.length := by omega
  have := @List.set_set_perm Int m j (j - 1) h h1
  have e1 : m.getD (j - 1) 0 = m[j - 1] := by simp [List.getD_eq_getElem?_getD, h1]
  have e2 : m.getD j 0 = m[j] := by simp [List.getD_eq_getElem?_getD, h]
  rw [swap1, e1, e2]; exact this
theorem Jn.step {m : List Int} {i j : Nat} (h : Jn m i j) (hi : i < m.length) (hj : j ≤ i) (h0 : 0 < j) (hl : m.getD j 0 < m.getD (j - 1) 0) : Jn (swap1 m j) i (j - 1) := by
  have hg := swap1_getD (m := m) (j := j) (by omega)
  refine ⟨fun x y h1 h2 h3 h4 => ?_, fun y h1 h2 => ?_⟩
  · rw [hg, hg, if_neg h3, if_neg h4]
    by_cases ex : x = j
    · rw [if_pos ex, if_neg (by omega)]
      exact h.1 (j - 1) y (by omega) h2 (by omega) (by omega)
    · rw [if_neg ex]
      by_cases ey : y = j
      · rw [if_pos ey]
        exact h.1 x (j - 1) (by omega) (by omega) ex (by omega)
      · rw [if_neg ey]; exact h.1 x y h1 h2 ex ey
  · rw [hg, hg, if_pos rfl, if_neg (by omega)]
    by_cases ey : y = j
    · rw [if_pos ey]; omega
    · rw [if_neg ey]; exact h.2 y (by omega) h2
theorem Sn.pairwise {m : List Int} (h : Sn m m.length) : m.Pairwise (· ≤ ·) := by
  rw [List.pairwise_iff_getElem]
  intro i j hi hj hij
  have := h i j hij hj
  simpa [List.getD_eq_getElem?_getD, hi, hj] using this
theorem p219 (σ : Heap) (id ver : Nat) (e : TypeId) (l : List Int) (hid : σ[id]? = some (.arr ver e 1 (ints l))) (hn : l.length ≤ 4294967296) {K : PV → Heap → Prop} (hK : ∀ r : List Int, r.Perm l → r.Pairwise (· ≤ ·) → K (.tup []) (σ.set id (.arr ver e 1 (ints r)))) :
    ACall Tryz.prog 219 [.ref id ver 0 l.length, .int .i64 0, .int .i64 l.length] σ K := by
  have hlt := (List.getElem?_eq_some_iff.1 hid).1
  have hself : ∀ o, (σ.set id o)[id]? = some o := fun o => List.getElem?_set_self hlt
  have hset : ∀ o o', (σ.set id o).set id o' = σ.set id o' := fun o o' => List.set_set ..
  have h00 : σ.set id (.arr ver e 1 (ints l)) = σ := List.ext_getElem? fun i => by
    by_cases h : id = i
    · subst h; rw [hself, hid]
    · rw [List.getElem?_set_ne h]
  refine e219 (by simp) fun _ _ => ?_
  simp only [k219, argEnv, take6, List.drop_zero, Int.cast_ofNat_Int, go_sem, ↓reduceIte, Nat.reduceEqDiff, Nat.reduceAdd, Nat.reduceMul, Nat.reduceLeDiff, Nat.reduceLT, Int.reduceLE, Int.reduceLT, reduceCtorEq]
  refine ⟨by omega, ?_⟩
  refine KL_ind k219_b1.eq_1 (fun x : Nat × List Int => [(0, .ref id ver 0 l.length), (1, .int .i64 0), (2, .int .i64 l.length), (6, .int .i64 x.1)]) (fun x => σ.set id (.arr ver e 1 (ints x.2))) (fun x => 1 ≤ x.1 ∧ x.1 ≤ l.length + 1 ∧ x.2.Perm l ∧ Sn x.2 x.1) (fun x => l.length + 1 - x.1) [0, 1, 2, 6] (1, l) (by simp [keep]) h00.symm ⟨Nat.le_refl _, by omega, .refl _, fun x y h1 h2 => by omega⟩ fun ⟨i, m⟩ ⟨hi1, hi2, hp, hS⟩ ih => ?_
  simp only at hi1 hi2 hp hS
  have hml := hp.length_eq
  try simp only [take6, List.drop_zero, Int.cast_ofNat_Int, go_sem, ↓reduceIte, Nat.reduceEqDiff, Nat.reduceAdd, Nat.reduceMul, Nat.reduceLeDiff, Nat.reduceLT, Int.reduceLE, Int.reduceLT, reduceCtorEq]
  refine ⟨fun h1 => ?_, fun h1 => ?_⟩
  · have hil : i < l.length := by omega
    refine KL_ind k219_b0.eq_1 (fun x : Nat × List Int => [(0, .ref id ver 0 l.length), (1, .int .i64 0), (2, .int .i64 l.length), (6, .int .i64 i), (7, .int .i64 x.1)]) (fun x => σ.set id (.arr ver e 1 (ints x.2))) (fun x => x.1 ≤ i ∧ x.2.Perm l ∧ Jn x.2 i x.1) (fun x => x.1) [0, 1, 2, 6, 7] (i, m) (by simp [keep]) rfl ⟨Nat.le_refl _, hp, .zero hS⟩ fun ⟨j, m⟩ ⟨hj, hp, hJ⟩ ihj => ?_
    simp only at hj hp hJ
    clear hml hS
    have hml := hp.length_eq
    have hj1 : ((j : Int) - 1).toNat = j - 1 := by omega
    try simp only [hself, hset, hml, hj1, take6, List.drop_zero, Int.cast_ofNat_Int, go_sem, ↓reduceIte, Nat.reduceEqDiff, Nat.reduceAdd, Nat.reduceMul, Nat.reduceLeDiff, Nat.reduceLT, Int.reduceLE, Int.reduceLT, reduceCtorEq]
    refine ⟨fun h2 => ⟨by omega, by omega, fun _ => ⟨by omega, by omega, by omega, fun _ => ?_⟩⟩, fun h2 => ⟨by omega, ?_⟩⟩
    · refine (p225 _ _).pgo ?_
      try simp only [hself, hset, hml, hj1, take6, List.drop_zero, Int.cast_ofNat_Int, go_sem, ↓reduceIte, Nat.reduceEqDiff, Nat.reduceAdd, Nat.reduceMul, Nat.reduceLeDiff, Nat.reduceLT, Int.reduceLE, Int.reduceLT, reduceCtorEq]
      refine ⟨fun h3 => ⟨by omega, by omega, by omega, by omega, fun _ => ⟨by omega, by omega, fun _ => ⟨by omega, by omega, fun _ => ⟨by omega, by omega, fun _ => ⟨by omega, ?_⟩⟩⟩⟩⟩, fun h3 => ⟨by omega, ?_⟩⟩
      · refine ihj (j - 1, swap1 m j) ⟨by show j - 1 ≤ i; omega, (swap1_perm (by omega)).trans hp, hJ.step (by omega) hj (by omega) h3⟩ (by show j - 1 < j; omega) _ _ (by simp [keep]; omega) rfl
      · refine ih (i + 1, m) ⟨by show 1 ≤ i + 1; omega, by show i + 1 ≤ l.length + 1; omega, hp, hJ.done hj (.inr (by omega))⟩ (by show l.length + 1 - (i + 1) < l.length + 1 - i; omega) _ _ (by simp [keep]) rfl
    · refine ih (i + 1, m) ⟨by show 1 ≤ i + 1; omega, by show i + 1 ≤ l.length + 1; omega, hp, hJ.done hj (.inl (by omega))⟩ (by show l.length + 1 - (i + 1) < l.length + 1 - i; omega) _ _ (by simp [keep]) rfl
  · have hS' : Sn m m.length := fun x y h3 h4 => hS x y h3 (by omega)
    exact Kv.Fin.now (hK m hp hS'.pairwise)
theorem p215 (σ : Heap) (id ver : Nat) (e : TypeId) (l : List Int) (hid : σ[id]? = some (.arr ver e 1 (ints l))) (hn : l.length ≤ 12) (lim : Int) {K : PV → Heap → Prop} (hK : ∀ r : List Int, r.Perm l → r.Pairwise (· ≤ ·) → K (.tup []) (σ.set id (.arr ver e 1 (ints r)))) :
    ACall Tryz.prog 215 [.ref id ver 0 l.length, .int .i64 0, .int .i64 l.length, .int .i64 lim] σ K := by
  refine e215 (by simp) fun _ _ => ?_
  simp only [k215, argEnv, take6, List.drop_zero, Int.cast_ofNat_Int, go_sem, ↓reduceIte, Nat.reduceEqDiff, Nat.reduceAdd, Nat.reduceMul, Nat.reduceLeDiff, Nat.reduceLT, Int.reduceLE, Int.reduceLT, reduceCtorEq]
  refine KL_round ?_
  rw [k215_b0]
  try simp only [take6, List.drop_zero, Int.cast_ofNat_Int, go_sem, ↓reduceIte, Nat.reduceEqDiff, Nat.reduceAdd, Nat.reduceMul, Nat.reduceLeDiff, Nat.reduceLT, Int.reduceLE, Int.reduceLT, reduceCtorEq]
  refine ⟨by omega, fun _ => ?_, fun h => absurd h (by omega)⟩
  refine p219 σ id ver e l hid (by omega) fun r hp hS => ?_
  try simp only [take6, List.drop_zero, Int.cast_ofNat_Int, go_sem, ↓reduceIte, Nat.reduceEqDiff, Nat.reduceAdd, Nat.reduceMul, Nat.reduceLeDiff, Nat.reduceLT, Int.reduceLE, Int.reduceLT, reduceCtorEq]
  exact Kv.Fin.now (hK r hp hS)
theorem aWrap_u8 {n : Nat} (h : n < 256) {K : PV → Prop} : aWrap .u8 (n : Int) K = K (.int .u8 n) := by
  have e : IntKind.u8.wrap (n : Int) = n := by
    simp only [IntKind.wrap, IntKind.signed, IntKind.bits, Bool.false_and, Bool.false_eq_true, if_false]
    omega
  show K _ = _
  rw [e]
theorem aWrap_u64 {n : Nat} (h : n < 9223372036854775808) {K : PV → Prop} : aWrap .u64 (n : Int) K = K (.int .u64 n) := by
  have e : IntKind.u64.wrap (n : Int) = n := by
    simp only [IntKind.wrap, IntKind.signed, IntKind.bits, Bool.false_and, Bool.false_eq_true, if_false]
    omega
  show K _ = _
  rw [e]
theorem aOp_idxStr {P : Program} {env : Env} {σ : Heap} {K : PV → Heap → Prop} (s : List UInt8) (t : Nat) {k : IntKind} {n : Int} (h : Kv.look env t = .int k n) : aOp P (.idxStr (.c (.str s)) (.t t)) env σ K = ((0 ≤ n ∧ n < s.length) ∧ K (.int .u8 (s.getD n.toNat 0).toNat) σ) := by
  simp only [aOp, kx, h, intOf?]
set_option maxRecDepth 100000 in
theorem p186 (n : Nat) (hn : n ≤ 12) : ACall Tryz.prog 186 [.int .u64 n] [] (fun v s => (∃ k : Int, v = .int .i64 k) ∧ s = []) := by
  refine e186 (by simp) fun _ _ => ?_
  simp only [k186, argEnv, take6, List.drop_zero, Int.cast_ofNat_Int, go_sem, ↓reduceIte, Nat.reduceEqDiff, Nat.reduceAdd, Nat.reduceMul, Nat.reduceLeDiff, Nat.reduceLT, Int.reduceLE, Int.reduceLT, reduceCtorEq]
  refine ⟨fun h => absurd h (by omega), fun _ => ⟨fun h => absurd h (by omega), fun _ => ⟨fun h => absurd h (by omega), fun _ => ?_⟩⟩⟩
  rw [aWrap_u8 (by omega)]
  try simp only [take6, List.drop_zero, Int.cast_ofNat_Int, go_sem, ↓reduceIte, Nat.reduceEqDiff, Nat.reduceAdd, Nat.reduceMul, Nat.reduceLeDiff, Nat.reduceLT, Int.reduceLE, Int.reduceLT, reduceCtorEq]
  rw [aOp_idxStr _ 21 (k := .u8) (n := n) rfl]
  generalize hg : (List.getD _ (Int.toNat (n : Int)) (0 : UInt8)) = g
  have hlt := g.toNat_lt
  try simp only [take6, List.drop_zero, Int.cast_ofNat_Int, go_sem, ↓reduceIte, Nat.reduceEqDiff, Nat.reduceAdd, Nat.reduceMul, Nat.reduceLeDiff, Nat.reduceLT, Int.reduceLE, Int.reduceLT, reduceCtorEq]
  exact ⟨by omega, by omega, by omega, Kv.Fin.still ⟨⟨_, rfl⟩, rfl⟩⟩
theorem p146 (n : Nat) (hn : n ≤ 12) : ACall Tryz.prog 146 [.int .u64 n] [] (fun v s => (∃ k : Int, v = .int .i64 k) ∧ s = []) := by
  refine e146 (by simp) fun _ _ => ?_
  simp only [k146, argEnv, take6, List.drop_zero, Int.cast_ofNat_Int, go_sem, ↓reduceIte, Nat.reduceEqDiff, Nat.reduceAdd, Nat.reduceMul, Nat.reduceLeDiff, Nat.reduceLT, Int.reduceLE, Int.reduceLT, reduceCtorEq]
  refine (p186 n hn).go fun v s ⟨⟨k, hv⟩, hs⟩ => ?_
  subst hv; subst hs
  try simp only [take6, List.drop_zero, Int.cast_ofNat_Int, go_sem, ↓reduceIte, Nat.reduceEqDiff, Nat.reduceAdd, Nat.reduceMul, Nat.reduceLeDiff, Nat.reduceLT, Int.reduceLE, Int.reduceLT, reduceCtorEq]
  exact Kv.Fin.still ⟨⟨_, rfl⟩, rfl⟩
/-- At most twelve numbers are sorted. -/
theorem p204 (σ : Heap) (id ver : Nat) (e : TypeId) (l : List Int) (hid : σ[id]? = some (.arr ver e 1 (ints l))) (hn : l.length ≤ 12) {K : PV → Heap → Prop} (hK : ∀ r : List Int, r.Perm l → r.Pairwise (· ≤ ·) → K (.tup []) (σ.set id (.arr ver e 1 (ints r)))) :
    ACall Tryz.prog 204 [.ref id ver 0 l.length] σ K := by
  refine e204 (by simp) fun _ _ => ?_
  simp only [k204, argEnv, hid, take6, List.drop_zero, Int.cast_ofNat_Int, go_sem, ↓reduceIte, Nat.reduceEqDiff, Nat.reduceAdd, Nat.reduceMul, Nat.reduceLeDiff, Nat.reduceLT, Int.reduceLE, Int.reduceLT, reduceCtorEq]
  rw [aWrap_u64 (by omega)]
  try simp only [take6, List.drop_zero, Int.cast_ofNat_Int, go_sem, ↓reduceIte, Nat.reduceEqDiff, Nat.reduceAdd, Nat.reduceMul, Nat.reduceLeDiff, Nat.reduceLT, Int.reduceLE, Int.reduceLT, reduceCtorEq]
  refine (p146 l.length hn).go fun v s ⟨⟨k, hv⟩, hs⟩ => ?_
  subst hv; subst hs
  try simp only [take6, List.drop_zero, Int.cast_ofNat_Int, go_sem, ↓reduceIte, Nat.reduceEqDiff, Nat.reduceAdd, Nat.reduceMul, Nat.reduceLeDiff, Nat.reduceLT, Int.reduceLE, Int.reduceLT, reduceCtorEq]
  refine p215 σ id ver e l hid hn k fun r hp hS => ?_
  try simp only [take6, List.drop_zero, Int.cast_ofNat_Int, go_sem, ↓reduceIte, Nat.reduceEqDiff, Nat.reduceAdd, Nat.reduceMul, Nat.reduceLeDiff, Nat.reduceLT, Int.reduceLE, Int.reduceLT, reduceCtorEq]
  exact Kv.Fin.now (hK r hp hS)
end Go.Proofs.YtpfapiiinkkcgaaGreat
end
section
/- Neighbours that are equal become one. -/
namespace Go.Proofs.YtpfapiiinkkcgaaGreat
open Go.Kv
set_option maxRecDepth 100000
/- slices.Compact[[]int64,int64] -/
/- live [0, 3, 4, 5] -/
def k205_b0 : KC := (.seq (.seq (.ops [⟨(some 29), none, .mv (.t 5)⟩, ⟨(some 30), none, .mv (.t 4)⟩, ⟨(some 31), none, .len false (.t 30)⟩, ⟨(some 32), none, .bin .lss (.t 29) (.t 31)⟩])
  (.cond (.t 32) .skip (.exit 2)))
  (.seq (.block 3 (.seq (.draw [⟨(some 35), none, .mv (.t 4)⟩, ⟨(some 36), none, .mv (.t 5)⟩, ⟨(some 37), none, .idxS 1 (.t 35) (.t 36)⟩, ⟨(some 38), none, .load false 1 (.t 37)⟩, ⟨(some 39), none, .mv (.t 4)⟩, ⟨(some 40), none, .mv (.t 5)⟩, ⟨(some 41), none, .bin .sub (.t 40) (.c (.int .i64 1))⟩, ⟨(some 42), none, .idxS 1 (.t 39) (.t 41)⟩, ⟨(some 43), none, .load false 1 (.t 42)⟩, ⟨(some 44), none, .bin .neq (.t 38) (.t 43)⟩])
  (.cond (.t 44) (.seq (.ops [⟨(some 45), none, .mv (.t 0)⟩, ⟨(some 46), none, .mv (.t 3)⟩, ⟨(some 47), none, .mv (.t 4)⟩, ⟨(some 48), none, .mv (.t 5)⟩, ⟨(some 49), none, .idxS 1 (.t 47) (.t 48)⟩, ⟨(some 50), none, .load false 1 (.t 49)⟩, ⟨(some 51), none, .idxS 1 (.t 45) (.t 46)⟩, ⟨none, none, .store 1 (.t 51) (.t 50)⟩])
  (.ops [⟨(some 52), none, .mv (.t 3)⟩, ⟨(some 53), none, .bin .add (.t 52) (.c (.int .i64 1))⟩, ⟨(some 3), none, .mv (.t 53)⟩])) .skip)))
  (.ops [⟨(some 33), none, .mv (.t 5)⟩, ⟨(some 34), none, .bin .add (.t 33) (.c (.int .i64 1))⟩, ⟨(some 5), none, .mv (.t 34)⟩])))
/- live [0, 3] -/
def k205_b1 : KC := (.seq (.seq (.ops [⟨(some 10), none, .mv (.t 3)⟩, ⟨(some 11), none, .mv (.t 0)⟩, ⟨(some 12), none, .len false (.t 11)⟩, ⟨(some 13), none, .bin .lss (.t 10) (.t 12)⟩])
  (.cond (.t 13) .skip (.exit 0)))
  (.seq (.block 1 (.seq (.draw [⟨(some 16), none, .mv (.t 0)⟩, ⟨(some 17), none, .mv (.t 3)⟩, ⟨(some 18), none, .idxS 1 (.t 16) (.t 17)⟩, ⟨(some 19), none, .load false 1 (.t 18)⟩, ⟨(some 20), none, .mv (.t 0)⟩, ⟨(some 21), none, .mv (.t 3)⟩, ⟨(some 22), none, .bin .sub (.t 21) (.c (.int .i64 1))⟩, ⟨(some 23), none, .idxS 1 (.t 20) (.t 22)⟩, ⟨(some 24), none, .load false 1 (.t 23)⟩, ⟨(some 25), none, .bin .eql (.t 19) (.t 24)⟩])
  (.cond (.t 25) (.seq (.ops [⟨(some 26), none, .mv (.t 0)⟩, ⟨(some 27), none, .mv (.t 3)⟩, ⟨(some 28), none, .sls 1 (.t 26) (some (.t 27)) none⟩, ⟨(some 4), none, .mv (.t 28)⟩])
  (.seq (.seq (.ops [⟨(some 5), none, .mv (.c (.int .i64 1))⟩])
  (.block 2 (.loop k205_b0)))
  (.seq (.ops [⟨(some 54), none, .mv (.t 0)⟩, ⟨(some 55), none, .mv (.t 3)⟩, ⟨(some 56), none, .sls 1 (.t 54) (some (.t 55)) none⟩, ⟨none, none, .clr 1 (.int .i64 0) (.t 56)⟩])
  (.seq (.ops [⟨(some 57), none, .mv (.t 0)⟩, ⟨(some 58), none, .mv (.t 3)⟩, ⟨(some 59), none, .sls 1 (.t 57) none (some (.t 58))⟩, ⟨(some 2), none, .mv (.t 59)⟩])
  .ret)))) .skip)))
  (.ops [⟨(some 14), none, .mv (.t 3)⟩, ⟨(some 15), none, .bin .add (.t 14) (.c (.int .i64 1))⟩, ⟨(some 3), none, .mv (.t 15)⟩])))
def k205 : KC := (.seq (.ops [⟨(some 2), none, .mv (.c (.nils))⟩])
  (.seq (.seq (.ops [⟨(some 6), none, .mv (.t 0)⟩, ⟨(some 7), none, .len false (.t 6)⟩, ⟨(some 8), none, .bin .lss (.t 7) (.c (.int .i64 2))⟩])
  (.cond (.t 8) (.seq (.ops [⟨(some 9), none, .mv (.t 0)⟩, ⟨(some 2), none, .mv (.t 9)⟩])
  .ret) .skip))
  (.seq (.seq (.ops [⟨(some 3), none, .mv (.c (.int .i64 1))⟩])
  (.block 0 (.loop k205_b1)))
  (.seq (.ops [⟨(some 60), none, .mv (.t 0)⟩, ⟨(some 2), none, .mv (.t 60)⟩])
  .ret))))
theorem e205 {args : List PV} {σ : Heap} {K : PV → Heap → Prop} (hl : args.length ≤ 61) (h : Wf σ → (∀ a ∈ args, PV.upto σ.length a) → vc (mkCfg Tryz.prog mixed [] 61 σ.length) k205 (FinK σ.length [.t 2] K) (argEnv 0 args) σ) : ACall Tryz.prog 205 args σ K :=
  ACall_enter (C := mkCfg Tryz.prog mixed [] 61 σ.length) (c := Tryz.f205.body.getD .skip) Tryz.func205 (by kernel_rfl) (by kernel_rfl) (by kernel_rfl) rfl hl (by kernel_rfl) (by kernel_rfl) h
end Go.Proofs.YtpfapiiinkkcgaaGreat
namespace Go.Proofs.YtpfapiiinkkcgaaGreat
open Go.Kv
set_option linter.unusedVariables false
set_option linter.unusedSimpArgs false
attribute [local irreducible] ACall PCall KL
/-- The list with one of each run. -/
def cpt : List Int → List Int
  | [] => []
  | a :: l => match l with
    | [] => [a]
    | b :: _ => if a = b then cpt l else a :: cpt l
theorem cpt_one (a : Int) : cpt [a] = [a] := rfl
theorem cpt_two (a b : Int) (l : List Int) : cpt (a :: b :: l) = if a = b then cpt (b :: l) else a :: cpt (b :: l) := rfl
theorem cpt_snoc : ∀ (l : List Int) (a b : Int), cpt (l ++ [a, b]) = cpt (l ++ [a]) ++ if a = b then [] else [b]
  | [], a, b => by
    show cpt [a, b] = cpt [a] ++ _
    rw [cpt_two, cpt_one, cpt_one]
    split
    · rename_i h; subst h; rfl
    · rfl
  | [c], a, b => by
    show cpt (c :: a :: [b]) = cpt (c :: a :: []) ++ _
    rw [cpt_two c a, cpt_two c a, cpt_two a b, cpt_one, cpt_one]
    split <;> split <;> rename_i h1 h2
    · subst h2; rfl
    · rfl
    · subst h2; rfl
    · rfl
  | c :: d :: l, a, b => by
    show cpt (c :: d :: (l ++ [a, b])) = cpt (c :: d :: (l ++ [a])) ++ _
    have := cpt_snoc (d :: l) a b
    simp only [List.cons_append] at this
    rw [cpt_two, cpt_two, this]
    split <;> simp
theorem cpt_take {r : List Int} {k : Nat} (h0 : 0 < k) (h : k < r.length) : cpt (r.take (k + 1)) = cpt (r.take k) ++ if r.getD (k - 1) 0 = r.getD k 0 then [] else [r.getD k 0] := by
  obtain ⟨j, rfl⟩ : ∃ j, k = j + 1 := ⟨k - 1, by omega⟩
  have e1 : r.take (j + 1 + 1) = r.take j ++ [r.getD j 0, r.getD (j + 1) 0] := by
    rw [List.take_succ_eq_append_getElem h, List.take_succ_eq_append_getElem (by omega : j < r.length), List.append_assoc]
    simp [List.getD_eq_getElem?_getD, h, (by omega : j < r.length)]
  have e2 : r.take (j + 1) = r.take j ++ [r.getD j 0] := by
    rw [List.take_succ_eq_append_getElem (by omega : j < r.length)]
    simp [List.getD_eq_getElem?_getD, (by omega : j < r.length)]
  rw [e1, e2, cpt_snoc, Nat.add_sub_cancel]
theorem cpt_short {r : List Int} (h : r.length < 2) : cpt r = r := by
  rcases r with _ | ⟨a, _ | ⟨b, r⟩⟩
  · rfl
  · rfl
  · simp at h; omega
theorem cpt_len_take (r : List Int) : ∀ k, k ≤ r.length → (cpt (r.take k)).length ≤ k
  | 0, _ => by simp [cpt]
  | k + 1, h => by
    rcases Nat.eq_zero_or_pos k with e | h0
    · subst e
      rw [cpt_short (by simp; omega)]; simp; omega
    · rw [cpt_take h0 (by omega), List.length_append]
      have := cpt_len_take r k (by omega)
      split <;> simp <;> omega
theorem p205 (σ : Heap) (id ver : Nat) (e : TypeId) (r : List Int) (hid : σ[id]? = some (.arr ver e 1 (ints r))) (hn : r.length ≤ 4294967296) {K : PV → Heap → Prop} (hK : ∀ post : List Int, K (.ref id ver 0 (cpt r).length) (σ.set id (.arr ver e 1 (ints (cpt r ++ post))))) :
    ACall Tryz.prog 205 [.ref id ver 0 r.length] σ K := by
  have hlt := (List.getElem?_eq_some_iff.1 hid).1
  have hself : ∀ o, (σ.set id o)[id]? = some o := fun o => List.getElem?_set_self hlt
  have hset : ∀ o o', (σ.set id o).set id o' = σ.set id o' := fun o o' => List.set_set ..
  have h00 : σ.set id (.arr ver e 1 (ints r)) = σ := List.ext_getElem? fun i => by
    by_cases h : id = i
    · subst h; rw [hself, hid]
    · rw [List.getElem?_set_ne h]
  have hKs : cpt r = r → K (.ref id ver 0 r.length) σ := fun h => by
    have := hK []
    rwa [h, List.append_nil, h00] at this
  refine e205 (by simp) fun _ _ => ?_
  simp only [k205, argEnv, hid, take6, List.drop_zero, Int.cast_ofNat_Int, go_sem, ↓reduceIte, Nat.reduceEqDiff, Nat.reduceAdd, Nat.reduceMul, Nat.reduceLeDiff, Nat.reduceLT, Int.reduceLE, Int.reduceLT, reduceCtorEq]
  refine ⟨fun h => Kv.Fin.now (hKs (cpt_short (by omega))), fun h => ?_⟩
  refine KL_ind k205_b1.eq_1 (fun k : Nat => [(0, .ref id ver 0 r.length), (3, .int .i64 k)]) (fun _ => σ) (fun k => 1 ≤ k ∧ k ≤ r.length ∧ cpt (r.take k) = r.take k) (fun k => r.length - k) [0, 3] 1 (by simp [keep]) rfl ⟨Nat.le_refl _, by omega, cpt_short (by simp; omega)⟩ fun k ⟨hk1, hk2, hc⟩ ih => ?_
  have hk1' : ((k : Int) - 1).toNat = k - 1 := by omega
  try simp only [hid, hk1', take6, List.drop_zero, Int.cast_ofNat_Int, go_sem, ↓reduceIte, Nat.reduceEqDiff, Nat.reduceAdd, Nat.reduceMul, Nat.reduceLeDiff, Nat.reduceLT, Int.reduceLE, Int.reduceLT, reduceCtorEq]
  refine ⟨fun h1 => ?_, fun h1 => ?_⟩
  · have hkl : k < r.length := by omega
    have hct := cpt_take hk1 hkl
    refine ⟨by omega, by omega, fun _ => ⟨by omega, by omega, by omega, fun _ => ⟨fun h2 => ⟨by omega, ?_⟩, fun h2 => ⟨by omega, ?_⟩⟩⟩⟩
    · rw [if_pos h2.symm, List.append_nil, hc] at hct
      clear ih
      refine KL_ind k205_b0.eq_1 (fun x : Nat × Nat × List Int => [(0, .ref id ver 0 r.length), (3, .int .i64 x.2.1), (4, .ref id ver k (r.length - k)), (5, .int .i64 x.1)]) (fun x => σ.set id (.arr ver e 1 (ints x.2.2))) (fun x => 1 ≤ x.1 ∧ x.1 ≤ r.length - k ∧ x.2.1 ≤ k + x.1 - 1 ∧ x.2.2.length = r.length ∧ x.2.1 = (cpt (r.take (k + x.1))).length ∧ x.2.2.take x.2.1 = cpt (r.take (k + x.1)) ∧ ∀ i, k + x.1 - 1 ≤ i → x.2.2.getD i 0 = r.getD i 0) (fun x => r.length - k - x.1) [0, 3, 4, 5] (1, k, r) (by simp [keep]) h00.symm ⟨Nat.le_refl _, by show 1 ≤ r.length - k; omega, by show k ≤ k + 1 - 1; omega, rfl, by show k = (cpt (r.take (k + 1))).length; rw [hct]; simp; omega, hct.symm, fun _ _ => rfl⟩ fun ⟨j, q, m⟩ ⟨hj1, hj2, hq, hml, hql, hmt, hmr⟩ ih => ?_
      simp only at hj1 hj2 hq hml hql hmt hmr
      have hj' : ((j : Int) - 1).toNat = j - 1 := by omega
      try simp only [hself, hset, hml, hj', take6, List.drop_zero, Int.cast_ofNat_Int, go_sem, ↓reduceIte, Nat.reduceEqDiff, Nat.reduceAdd, Nat.reduceMul, Nat.reduceLeDiff, Nat.reduceLT, Int.reduceLE, Int.reduceLT, reduceCtorEq]
      refine ⟨fun h3 => ?_, fun h3 => ?_⟩
      · have hjl : k + j < r.length := by omega
        have hct2 := cpt_take (r := r) (k := k + j) (by omega) hjl
        have g1 := hmr (j + k) (by omega)
        have g2 := hmr (j - 1 + k) (by omega)
        have e1 : j + k = k + j := by omega
        have e2 : j - 1 + k = k + j - 1 := by omega
        rw [g1, g2, e1, e2]
        refine ⟨by omega, by omega, fun _ => ⟨by omega, by omega, by omega, fun _ => ⟨fun h4 => ⟨by omega, by omega, fun _ => ⟨by omega, by omega, fun _ => ⟨by omega, by omega, ?_⟩⟩⟩, fun h4 => ⟨by omega, ?_⟩⟩⟩⟩
        · rw [if_neg (fun h => h4 h.symm)] at hct2
          have hqm : q < m.length := by omega
          refine ih (j + 1, q + 1, m.set q (r.getD (k + j) 0)) ⟨by show 1 ≤ j + 1; omega, by show j + 1 ≤ r.length - k; omega, by show q + 1 ≤ k + (j + 1) - 1; omega, by show (m.set q _).length = r.length; simp [hml], ?_, ?_, fun i hi => ?_⟩ (by show r.length - k - (j + 1) < r.length - k - j; omega) _ _ (by simp [keep]) rfl
          · show q + 1 = (cpt (r.take (k + (j + 1)))).length
            rw [← Nat.add_assoc, hct2, List.length_append, ← hql]; rfl
          · show (m.set q _).take (q + 1) = cpt (r.take (k + (j + 1)))
            rw [← Nat.add_assoc, hct2, ← hmt, List.take_set, List.take_succ_eq_append_getElem hqm]
            rw [List.set_append_right _ _ (by simp; omega)]
            simp [Nat.min_eq_left (Nat.le_of_lt hqm)]
          · show (m.set q _).getD i 0 = r.getD i 0
            have hi' : k + (j + 1) - 1 ≤ i := hi
            rw [getD_setI _ _ _ _ hqm, if_neg (by omega)]
            exact hmr i (by omega)
        · rw [if_pos h4.symm, List.append_nil] at hct2
          refine ih (j + 1, q, m) ⟨by show 1 ≤ j + 1; omega, by show j + 1 ≤ r.length - k; omega, by show q ≤ k + (j + 1) - 1; omega, hml, ?_, ?_, fun i hi => hmr i (by have : k + (j + 1) - 1 ≤ i := hi; omega)⟩ (by show r.length - k - (j + 1) < r.length - k - j; omega) _ _ (by simp [keep]) rfl
          · show q = (cpt (r.take (k + (j + 1)))).length
            rw [← Nat.add_assoc, hct2]; exact hql
          · show m.take q = cpt (r.take (k + (j + 1)))
            rw [← Nat.add_assoc, hct2]; exact hmt
      · have e : k + j = r.length := by omega
        rw [e, List.take_length] at hql hmt
        refine ⟨by omega, by omega, by omega, Kv.Fin.now ?_⟩
        rw [Nat.sub_zero, hmt, hql, List.append_assoc]
        exact hK _
    · refine ih (k + 1) ⟨by omega, by omega, ?_⟩ (by omega) _ _ (by simp [keep]) rfl
      rw [hct, if_neg (fun h => h2 h.symm), hc, List.take_succ_eq_append_getElem hkl]
      simp [List.getD_eq_getElem?_getD, hkl]
  · obtain rfl : k = r.length := by omega
    rw [List.take_length] at hc
    exact Kv.Fin.now (hKs hc)
end Go.Proofs.YtpfapiiinkkcgaaGreat
end
section
/- The idempotents of a table: points, deletion, both sides. -/
namespace Go.Proofs.YtpfapiiinkkcgaaGreat
open Go.Kv
set_option maxRecDepth 100000
/- spec.IdempotentNumbers -/
/- live [0, 4, 5] -/
def k38_b0 : KC := (.seq (.seq (.ops [⟨(some 10), none, .mv (.t 5)⟩, ⟨(some 11), none, .mv (.t 0)⟩, ⟨(some 12), none, .len false (.t 11)⟩, ⟨(some 13), none, .bin .lss (.t 10) (.t 12)⟩])
  (.cond (.t 13) .skip (.exit 0)))
  (.seq (.block 1 (.seq (.ops [⟨(some 16), none, .mv (.t 0)⟩, ⟨(some 17), none, .mv (.t 5)⟩, ⟨(some 18), none, .idxS 1 (.t 16) (.t 17)⟩, ⟨(some 19), none, .load false 1 (.t 18)⟩, ⟨(some 20), none, .mv (.t 5)⟩, ⟨(some 21), none, .idxS 1 (.t 19) (.t 20)⟩, ⟨(some 22), none, .load false 1 (.t 21)⟩, ⟨(some 23), none, .mv (.t 5)⟩, ⟨(some 24), none, .bin .eql (.t 22) (.t 23)⟩])
  (.cond (.t 24) (.ops [⟨(some 25), none, .mv (.t 4)⟩, ⟨(some 26), none, .mv (.t 5)⟩, ⟨(some 27), none, .bsl true 2 1 [(.t 26)]⟩, ⟨(some 28), none, .app (.t 25) (.t 27) 2 1⟩, ⟨(some 4), none, .mv (.t 28)⟩]) .skip)))
  (.ops [⟨(some 14), none, .mv (.t 5)⟩, ⟨(some 15), none, .bin .add (.t 14) (.c (.int .i64 1))⟩, ⟨(some 5), none, .mv (.t 15)⟩])))
def k38 : KC := (.seq (.ops [⟨(some 2), none, .mv (.c (.nils))⟩, ⟨(some 3), none, .mv (.c (.int .i64 0))⟩])
  (.seq (.seq (.ops [⟨(some 6), none, .mv (.t 0)⟩, ⟨(some 7), none, .call (.c (.fn (.func 107) [] [])) [(.t 6)]⟩, ⟨(some 8), none, .not (.t 7)⟩])
  (.cond (.t 8) (.seq (.ops [⟨(some 2), none, .mv (.c (.nils))⟩, ⟨(some 3), none, .mv (.c (.int .i64 2))⟩])
  .ret) .skip))
  (.seq (.ops [⟨(some 9), none, .bsl false 2 1 []⟩, ⟨(some 4), none, .mv (.t 9)⟩])
  (.seq (.seq (.ops [⟨(some 5), none, .mv (.c (.int .i64 0))⟩])
  (.block 0 (.loop k38_b0)))
  (.seq (.ops [⟨(some 29), none, .mv (.t 4)⟩, ⟨(some 2), none, .mv (.t 29)⟩, ⟨(some 3), none, .mv (.c (.int .i64 0))⟩])
  .ret)))))
theorem e38 {args : List PV} {σ : Heap} {K : PV → Heap → Prop} (hl : args.length ≤ 30) (h : Wf σ → (∀ a ∈ args, PV.upto σ.length a) → vc (mkCfg Tryz.prog mixed [27] 30 σ.length) k38 (FinK σ.length [.t 2, .t 3] K) (argEnv 0 args) σ) : ACall Tryz.prog 38 args σ K :=
  ACall_enter (C := mkCfg Tryz.prog mixed [27] 30 σ.length) (c := Tryz.f38.body.getD .skip) Tryz.func38 (by kernel_rfl) (by kernel_rfl) (by kernel_rfl) rfl hl (by kernel_rfl) (by kernel_rfl) h
/- impl.IdempotentNumbers -/
def k37 : KC := (.seq (.ops [⟨(some 1), none, .box true (.t 0)⟩, ⟨(some 2), none, .mv (.c (.nils))⟩, ⟨(some 3), none, .mv (.c (.int .i64 0))⟩])
  (.seq (.seq (.ops [⟨(some 4), none, .load false 1 (.t 1)⟩, ⟨(some 5), none, .call (.c (.fn (.func 105) [] [])) [(.t 4)]⟩, ⟨(some 6), none, .not (.t 5)⟩])
  (.cond (.t 6) (.seq (.ops [⟨(some 2), none, .mv (.c (.nils))⟩, ⟨(some 3), none, .mv (.c (.int .i64 2))⟩])
  .ret) .skip))
  (.seq (.ops [⟨(some 7), none, .load false 1 (.t 1)⟩, ⟨(some 8), none, .len false (.t 7)⟩, ⟨(some 9), none, .call (.c (.fn (.func 112) [] [])) [(.t 8)]⟩, ⟨(some 10), none, .mkfn (.func 113) [] [(.t 1)]⟩, ⟨(some 11), none, .call (.c (.fn (.func 111) [] [])) [(.t 9), (.t 10)]⟩, ⟨(some 2), none, .mv (.t 11)⟩, ⟨(some 3), none, .mv (.c (.int .i64 0))⟩])
  .ret)))
theorem e37 {args : List PV} {σ : Heap} {K : PV → Heap → Prop} (hl : args.length ≤ 12) (h : Wf σ → (∀ a ∈ args, PV.upto σ.length a) → vc (mkCfg Tryz.prog mixed [1] 12 σ.length) k37 (FinK σ.length [.t 2, .t 3] K) (argEnv 0 args) σ) : ACall Tryz.prog 37 args σ K :=
  ACall_enter (C := mkCfg Tryz.prog mixed [1] 12 σ.length) (c := Tryz.f37.body.getD .skip) Tryz.func37 (by kernel_rfl) (by kernel_rfl) (by kernel_rfl) rfl hl (by kernel_rfl) (by kernel_rfl) h
/- slices.DeleteFunc[[]int64,int64] -/
/- live [0, 1, 5, 6] -/
def k111_b0 : KC := (.seq (.seq (.ops [⟨(some 16), none, .mv (.t 6)⟩, ⟨(some 17), none, .mv (.t 0)⟩, ⟨(some 18), none, .len false (.t 17)⟩, ⟨(some 19), none, .bin .lss (.t 16) (.t 18)⟩])
  (.cond (.t 19) .skip (.exit 0)))
  (.seq (.block 1 (.seq (.ops [⟨(some 22), none, .mv (.t 0)⟩, ⟨(some 23), none, .mv (.t 6)⟩, ⟨(some 24), none, .idxS 1 (.t 22) (.t 23)⟩, ⟨(some 25), none, .load false 1 (.t 24)⟩, ⟨(some 7), none, .mv (.t 25)⟩])
  (.seq (.ops [⟨(some 26), none, .mv (.t 1)⟩, ⟨(some 27), none, .mv (.t 7)⟩, ⟨(some 28), none, .call (.t 26) [(.t 27)]⟩, ⟨(some 29), none, .not (.t 28)⟩])
  (.cond (.t 29) (.seq (.ops [⟨(some 30), none, .mv (.t 0)⟩, ⟨(some 31), none, .mv (.t 5)⟩, ⟨(some 32), none, .mv (.t 7)⟩, ⟨(some 33), none, .idxS 1 (.t 30) (.t 31)⟩, ⟨none, none, .store 1 (.t 33) (.t 32)⟩])
  (.ops [⟨(some 34), none, .mv (.t 5)⟩, ⟨(some 35), none, .bin .add (.t 34) (.c (.int .i64 1))⟩, ⟨(some 5), none, .mv (.t 35)⟩])) .skip))))
  (.ops [⟨(some 20), none, .mv (.t 6)⟩, ⟨(some 21), none, .bin .add (.t 20) (.c (.int .i64 1))⟩, ⟨(some 6), none, .mv (.t 21)⟩])))
def k111 : KC := (.seq (.ops [⟨(some 4), none, .mv (.c (.nils))⟩])
  (.seq (.ops [⟨(some 8), none, .mv (.t 0)⟩, ⟨(some 9), none, .mv (.t 1)⟩, ⟨(some 10), none, .call (.c (.fn (.func 167) [] [])) [(.t 8), (.t 9)]⟩, ⟨(some 5), none, .mv (.t 10)⟩])
  (.seq (.seq (.ops [⟨(some 11), none, .mv (.t 5)⟩, ⟨(some 12), none, .bin .eql (.t 11) (.c (.int .i64 (-1)))⟩])
  (.cond (.t 12) (.seq (.ops [⟨(some 13), none, .mv (.t 0)⟩, ⟨(some 4), none, .mv (.t 13)⟩])
  .ret) .skip))
  (.seq (.seq (.ops [⟨(some 14), none, .mv (.t 5)⟩, ⟨(some 15), none, .bin .add (.t 14) (.c (.int .i64 1))⟩, ⟨(some 6), none, .mv (.t 15)⟩])
  (.block 0 (.loop k111_b0)))
  (.seq (.ops [⟨(some 36), none, .mv (.t 0)⟩, ⟨(some 37), none, .mv (.t 5)⟩, ⟨(some 38), none, .sls 1 (.t 36) (some (.t 37)) none⟩, ⟨none, none, .clr 1 (.int .i64 0) (.t 38)⟩])
  (.seq (.ops [⟨(some 39), none, .mv (.t 0)⟩, ⟨(some 40), none, .mv (.t 5)⟩, ⟨(some 41), none, .sls 1 (.t 39) none (some (.t 40))⟩, ⟨(some 4), none, .mv (.t 41)⟩])
  .ret))))))
theorem e111 {args : List PV} {σ : Heap} {K : PV → Heap → Prop} (hl : args.length ≤ 42) (h : Wf σ → (∀ a ∈ args, PV.upto σ.length a) → vc (mkCfg Tryz.prog mixed [] 42 σ.length) k111 (FinK σ.length [.t 4] K) (argEnv 0 args) σ) : ACall Tryz.prog 111 args σ K :=
  ACall_enter (C := mkCfg Tryz.prog mixed [] 42 σ.length) (c := Tryz.f111.body.getD .skip) Tryz.func111 (by kernel_rfl) (by kernel_rfl) (by kernel_rfl) rfl hl (by kernel_rfl) (by kernel_rfl) h
/- impl.points -/
/- live [3, 5, 6] -/
def k112_b0 : KC := (.seq (.ops [⟨(some 7), none, .bin .lss (.t 6) (.t 5)⟩])
  (.seq (.cond (.t 7) .skip (.exit 0))
  (.seq (.block 1 (.seq (.ops [⟨(some 8), none, .mv (.t 6)⟩, ⟨(some 4), none, .mv (.t 8)⟩])
  (.ops [⟨(some 9), none, .mv (.t 3)⟩, ⟨(some 10), none, .mv (.t 4)⟩, ⟨(some 11), none, .bsl true 2 1 [(.t 10)]⟩, ⟨(some 12), none, .app (.t 9) (.t 11) 2 1⟩, ⟨(some 3), none, .mv (.t 12)⟩])))
  (.ops [⟨(some 13), none, .bin .add (.t 6) (.c (.int .i64 1))⟩, ⟨(some 6), none, .mv (.t 13)⟩]))))
def k112 : KC := (.seq (.ops [⟨(some 2), none, .mv (.c (.nils))⟩])
  (.seq (.ops [⟨(some 3), none, .mv (.c (.nils))⟩])
  (.seq (.seq (.ops [⟨(some 5), none, .mv (.t 0)⟩, ⟨(some 6), none, .mv (.c (.int .i64 0))⟩])
  (.block 0 (.loop k112_b0)))
  (.seq (.ops [⟨(some 14), none, .mv (.t 3)⟩, ⟨(some 2), none, .mv (.t 14)⟩])
  .ret))))
theorem e112 {args : List PV} {σ : Heap} {K : PV → Heap → Prop} (hl : args.length ≤ 15) (h : Wf σ → (∀ a ∈ args, PV.upto σ.length a) → vc (mkCfg Tryz.prog mixed [11] 15 σ.length) k112 (FinK σ.length [.t 2] K) (argEnv 0 args) σ) : ACall Tryz.prog 112 args σ K :=
  ACall_enter (C := mkCfg Tryz.prog mixed [11] 15 σ.length) (c := Tryz.f112.body.getD .skip) Tryz.func112 (by kernel_rfl) (by kernel_rfl) (by kernel_rfl) rfl hl (by kernel_rfl) (by kernel_rfl) h
/- impl.IdempotentNumbers$1 -/
def k113 : KC := (.seq (.ops [⟨(some 3), none, .mv (.c (.bool false))⟩])
  (.seq (.ops [⟨(some 4), none, .load false 1 (.t 1)⟩, ⟨(some 5), none, .mv (.t 0)⟩, ⟨(some 6), none, .idxS 1 (.t 4) (.t 5)⟩, ⟨(some 7), none, .load false 1 (.t 6)⟩, ⟨(some 8), none, .mv (.t 0)⟩, ⟨(some 9), none, .idxS 1 (.t 7) (.t 8)⟩, ⟨(some 10), none, .load false 1 (.t 9)⟩, ⟨(some 11), none, .mv (.t 0)⟩, ⟨(some 12), none, .bin .neq (.t 10) (.t 11)⟩, ⟨(some 3), none, .mv (.t 12)⟩])
  .ret))
theorem e113 {args : List PV} {σ : Heap} {K : PV → Heap → Prop} (hl : args.length ≤ 13) (h : Wf σ → (∀ a ∈ args, PV.upto σ.length a) → vc (mkCfg Tryz.prog mixed [] 13 σ.length) k113 (FinK σ.length [.t 3] K) (argEnv 0 args) σ) : ACall Tryz.prog 113 args σ K :=
  ACall_enter (C := mkCfg Tryz.prog mixed [] 13 σ.length) (c := Tryz.f113.body.getD .skip) Tryz.func113 (by kernel_rfl) (by kernel_rfl) (by kernel_rfl) rfl hl (by kernel_rfl) (by kernel_rfl) h
end Go.Proofs.YtpfapiiinkkcgaaGreat
namespace Go.Proofs.YtpfapiiinkkcgaaGreat
open Go.Kv
set_option linter.unusedVariables false
set_option linter.unusedSimpArgs false
attribute [local irreducible] ACall PCall KL
/-- The numbers below n. -/
def pts (n : Nat) : List Int := mk n fun i => (i : Int)
theorem p112 (n : Nat) (hn : 1 ≤ n ∧ n ≤ 4294967296) : ACall Tryz.prog 112 [.int .i64 n] [] (fun v s => v = .ref 0 (n - 1) 0 (pts n).length ∧ s = [.arr (n - 1) 2 1 (ints (pts n))]) := by
  refine e112 (by simp) fun _ _ => ?_
  simp only [k112, argEnv, go_sem, ↓reduceIte, Nat.reduceEqDiff, Nat.reduceAdd, reduceCtorEq]
  refine KL_ind k112_b0.eq_1 (fun x : Nat => [(6, .int .i64 x), (5, .int .i64 n), (3, if x = 0 then .nils else .ref 0 (x - 1) 0 x)]) (fun x => if x = 0 then [] else [.arr (x - 1) 2 1 (ints (pts x))]) (fun x => x ≤ n) (fun x => n - x) [6, 5, 3] 0 rfl (by simp) (Nat.zero_le _) fun x hi ih => ?_
  simp only [go_sem, ↓reduceIte, Nat.reduceEqDiff, Nat.reduceAdd, reduceCtorEq]
  refine ⟨fun hx => ?_, fun hx => ?_⟩
  · rcases x with _ | x
    · simp only [go_sem, ↓reduceIte, Nat.reduceEqDiff, Nat.reduceAdd, reduceCtorEq]
      repeat' (first | refine And.intro ?_ ?_ | intro _)
      all_goals (try omega)
      refine ih 1 (by omega) (by omega) _ _ ?_ ?_
      · simp [keep]
      · simp [pts, mk, ints]
    · have hne : ¬ (x + 1 = 0) := by omega
      simp only [hne, if_false, Nat.add_sub_cancel]
      simp only [go_sem, ↓reduceIte, Nat.reduceEqDiff, Nat.reduceAdd, reduceCtorEq]
      have hl : (pts (x + 1)).length = x + 1 := by simp [pts]
      repeat' (first | refine And.intro ?_ ?_ | intro _)
      all_goals (try omega)
      refine ih (x + 1 + 1) (by omega) (by omega) _ _ ?_ ?_
      · simp [keep]
      · rw [List.take_of_length_le (by omega)]
        have := mk_succ (x + 1) fun i => (i : Int)
        simp only [pts] at this ⊢
        rw [this]
        rfl
  · obtain rfl : x = n := by omega
    have hne : ¬ (x = 0) := by omega
    simp only [hne, if_false]
    simp only [go_sem, ↓reduceIte, Nat.reduceEqDiff, Nat.reduceAdd, reduceCtorEq]
    refine Kv.Fin.now ⟨?_, rfl⟩
    simp [pts]
theorem p111 (ver : Nat) (l : List Int) (hl : l.length ≤ 4294967296) (fid : FuncId) (caps : List PV) (hc : ∀ c ∈ caps, PV.upto 0 c) (p : Int → Bool) (hp : ∀ x ∈ l, Pure Tryz.prog fid (.int .i64 x :: caps) (.bool (p x))) :
    ACall Tryz.prog 111 [.ref 0 ver 0 l.length, .fn (.func fid) [] caps] [.arr ver 2 1 (ints l)] (fun v s => v = .ref 0 ver 0 (l.filter fun x => !p x).length ∧ ∃ post, s = [.arr ver 2 1 (ints ((l.filter fun x => !p x) ++ post))]) := by
  refine e111 (by simp) fun _ _ => ?_
  simp only [k111, argEnv, go_sem, ↓reduceIte, Nat.reduceEqDiff, Nat.reduceAdd, reduceCtorEq]
  refine (p167 l hl fid caps hc p hp).use (.int _ _) (.cons (.refi rfl) (.cons (Imm.fnc _ (up_self hc)) (.nil _))) ?_
  simp only [go_sem, ↓reduceIte, Nat.reduceEqDiff, Nat.reduceAdd, reduceCtorEq]
  cases hany : l.any p with
  | false =>
    rw [idx_none hany]
    repeat' (first | refine And.intro ?_ ?_ | intro _)
    all_goals (try omega)
    refine Kv.Fin.now ⟨by rw [filter_none hany], [], by rw [filter_none hany, List.append_nil]⟩
  | true =>
    obtain ⟨i0, hi0, hno, hyes⟩ := any_split hany
    rw [idx_some hi0 hno hyes]
    refine ⟨fun h => by omega, fun h => ⟨by omega, ?_⟩⟩
    refine KL_ind k111_b0.eq_1 (fun x : Nat × List Int => [(6, .int .i64 x.1), (5, .int .i64 ((l.take x.1).filter fun x => !p x).length), (0, .ref 0 ver 0 l.length), (1, .fn (.func fid) [] caps)])
      (fun x => [.arr ver 2 1 (ints (((l.take x.1).filter fun x => !p x) ++ x.2 ++ l.drop x.1))])
      (fun x => x.1 ≤ l.length ∧ ((l.take x.1).filter fun x => !p x).length + x.2.length = x.1 ∧ 1 ≤ x.2.length) (fun x => l.length - x.1) [6, 5, 0, 1] (i0 + 1, [l[i0]]) ?_ ?_ ?_ fun ⟨x, J⟩ ⟨hx, hJ, hJ1⟩ ih => ?_
    · simp [keep, filter_take_succ hi0, hyes, filter_none hno]; omega
    · simp only [filter_take_succ hi0, hyes, filter_none hno]
      simp
    · refine ⟨by show i0 + 1 ≤ l.length; omega, ?_, by simp⟩
      simp [filter_take_succ hi0, hyes, filter_none hno]; omega
    · simp only at hx hJ hJ1
      generalize hF : (l.take x).filter (fun x => !p x) = F at *
      have hdl : (l.drop x).length = l.length - x := by simp
      have hJe : J = J.headD 0 :: J.tail := by
        cases J with
        | nil => simp at hJ1
        | cons a J => rfl
      simp only [go_sem, hdl, ↓reduceIte, Nat.reduceEqDiff, Nat.reduceAdd, reduceCtorEq]
      refine ⟨fun h1 => ?_, fun h1 => ?_⟩
      · have hxl : x < l.length := by omega
        have hg : (F ++ J ++ l.drop x).getD x 0 = l[x] := by
          rw [List.getD_eq_getElem?_getD, List.getElem?_append_right (by simp; omega)]
          have : x - (F ++ J).length = 0 := by simp; omega
          rw [this, List.getElem?_drop, Nat.add_zero, List.getElem?_eq_getElem hxl]; rfl
        rw [hg]
        refine ⟨by omega, by omega, fun h2 => ?_⟩
        refine (hp _ (List.getElem_mem hxl)).use (.bool _) (.cons (.int _ _ _) (up_self hc)) ?_
        simp only [go_sem, hdl, ↓reduceIte, Nat.reduceEqDiff, Nat.reduceAdd, reduceCtorEq]
        refine ⟨fun h3 => ?_, fun h3 => ⟨by omega, ?_⟩⟩
        · have hset : (F ++ J ++ l.drop x).set F.length l[x] = (F ++ [l[x]]) ++ J.tail ++ l.drop x := by
            rw [List.append_assoc, List.set_append_right _ _ (Nat.le_refl _), Nat.sub_self, hJe]
            simp
          have hf1 : ((l.take (x + 1)).filter fun x => !p x) = F ++ [l[x]] := by rw [filter_take_succ hxl, hF, if_pos (by simp [h3])]
          rw [hset]
          repeat' (first | refine And.intro ?_ ?_ | intro _)
          all_goals (try omega)
          refine ih (x + 1, J.tail ++ [l[x]]) ⟨by show x + 1 ≤ l.length; omega, ?_, by simp⟩ (by show l.length - (x + 1) < l.length - x; omega) _ _ ?_ ?_
          · show ((l.take (x + 1)).filter fun x => !p x).length + (J.tail ++ [l[x]]).length = x + 1
            rw [hf1]
            simp only [List.length_append, List.length_tail, List.length_cons, List.length_nil]; omega
          · simp only [keep, hf1, List.map_cons, List.map_nil, look_cons, ↓reduceIte, Nat.reduceEqDiff, reduceCtorEq, List.length_append, List.length_cons, List.length_nil]
            rfl
          · rw [hf1, List.drop_eq_getElem_cons hxl]; simp
        · have hf1 : ((l.take (x + 1)).filter fun x => !p x) = F := by rw [filter_take_succ hxl, hF, if_neg (by simp [h3]), List.append_nil]
          refine ih (x + 1, J ++ [l[x]]) ⟨by show x + 1 ≤ l.length; omega, ?_, by simp⟩ (by show l.length - (x + 1) < l.length - x; omega) _ _ ?_ ?_
          · show ((l.take (x + 1)).filter fun x => !p x).length + (J ++ [l[x]]).length = x + 1
            rw [hf1]
            simp only [List.length_append, List.length_cons, List.length_nil]; omega
          · simp only [keep, hf1, List.map_cons, List.map_nil, look_cons, ↓reduceIte, Nat.reduceEqDiff, reduceCtorEq]
            rfl
          · rw [hf1, List.drop_eq_getElem_cons hxl]; simp
      · obtain rfl : x = l.length := by omega
        rw [List.take_length] at hF
        rw [hF]
        repeat' (first | refine And.intro ?_ ?_ | intro _)
        all_goals (try omega)
        have e : (F ++ J ++ l.drop l.length).take F.length = F := by rw [List.append_assoc, List.take_left]
        rw [e]
        exact Kv.Fin.now ⟨rfl, _, by rw [List.append_assoc]⟩
def isI (t : List (List Int)) (v : Int) : Bool := decide (tat t v.toNat v.toNat = v)
def idl (t : List (List Int)) (x : Nat) : List Int := (pts x).filter (isI t)
theorem idl_succ (t : List (List Int)) (x : Nat) : idl t (x + 1) = idl t x ++ (if tat t x x = x then [(x : Int)] else []) := by
  simp only [idl, pts, mk_succ, List.filter_append]
  congr 1
  by_cases h : tat t x x = x <;> simp [isI, h]
theorem idl_len (t : List (List Int)) (x : Nat) : (idl t x).length ≤ x := by
  have := List.length_filter_le (isI t) (pts x)
  simpa [idl, pts] using this
theorem upto_fptr' {cs : List PV} (o : Nat) (h : ∀ c ∈ cs, PV.upto 0 c) : PV.upto 0 (.fptr cs o) := fun φ ι v hr => by
  cases hr with
  | fptr _ _ b o' C hb hok g hg hh => exact .fptr cs o b o' C hb hok g hg fun j c hc => h c (List.mem_of_getElem? hc) _ _ _ (hh j c hc)
theorem up_rows (t : List (List Int)) : ∀ c ∈ [PV.fptr [.list (rows t)] 0], PV.upto 0 c := up1 (upto_fptr' 0 (up1 (upto_rows 0 t)))
theorem p113 (t : List (List Int)) (h : isTab t = true) (x : Nat) (hx : x < t.length) : Pure Tryz.prog 113 [.int .i64 x, .fptr [.list (rows t)] 0] (.bool (!isI t x)) := by
  obtain ⟨hn, hsq⟩ := tab_sq h
  have hs := hsq x hx
  refine e113 (by simp) fun _ _ => ?_
  simp only [k113, argEnv, go_sem, ↓reduceIte, Nat.reduceEqDiff, Nat.reduceAdd, reduceCtorEq]
  repeat' (first | refine And.intro ?_ ?_ | intro _)
  all_goals (try omega)
  exact Kv.Fin.now ⟨rfl, rfl⟩
theorem p38_out (t : List (List Int)) (ht : t.length ≤ 1048576) (hl : ∀ r ∈ t, r.length ≤ 1048576) (h : ¬ isTab t = true) : Pure Tryz.prog 38 [.list (rows t)] (.tup [.nils, .int .i64 2]) := by
  refine e38 (by simp) fun _ _ => ?_
  simp only [k38, argEnv, go_sem, ↓reduceIte, Nat.reduceEqDiff, Nat.reduceAdd, reduceCtorEq]
  refine (p107 t ht hl).use (.bool _) (.cons (.listr _ _) (.nil _)) ?_
  simp only [go_sem, ↓reduceIte, Nat.reduceEqDiff, Nat.reduceAdd, reduceCtorEq]
  simp only [h, not_false_eq_true, true_implies, not_true_eq_false, false_implies, and_true]
  exact ⟨Kv.Fin.now ⟨rfl, rfl⟩, fun h2 => by cases h2⟩
theorem p37_out (t : List (List Int)) (ht : t.length ≤ 1048576) (hl : ∀ r ∈ t, r.length ≤ 1048576) (h : ¬ isTab t = true) : Pure Tryz.prog 37 [.list (rows t)] (.tup [.nils, .int .i64 2]) := by
  refine e37 (by simp) fun _ _ => ?_
  simp only [k37, argEnv, go_sem, ↓reduceIte, Nat.reduceEqDiff, Nat.reduceAdd, reduceCtorEq]
  refine (p105 t ht hl).use (.bool _) (.cons (.listr _ _) (.nil _)) ?_
  simp only [go_sem, ↓reduceIte, Nat.reduceEqDiff, Nat.reduceAdd, reduceCtorEq]
  simp only [h, not_false_eq_true, true_implies, not_true_eq_false, false_implies, and_true]
  exact ⟨Kv.Fin.now ⟨rfl, rfl⟩, fun h2 => by cases h2⟩
theorem p38_in (t : List (List Int)) (ht : t.length ≤ 1048576) (hl : ∀ r ∈ t, r.length ≤ 1048576) (h : isTab t = true) : NewI Tryz.prog 38 [.list (rows t)] 2 (idl t t.length) 0 := by
  obtain ⟨hn, hsq⟩ := tab_sq h
  refine NewI.mk (idl t t.length).length [] [] ?_
  refine e38 (by simp) fun _ _ => ?_
  simp only [k38, argEnv, go_sem, ↓reduceIte, Nat.reduceEqDiff, Nat.reduceAdd, reduceCtorEq]
  refine (p107 t ht hl).use (.bool _) (.cons (.listr _ _) (.nil _)) ?_
  simp only [go_sem, ↓reduceIte, Nat.reduceEqDiff, Nat.reduceAdd, reduceCtorEq]
  refine ⟨fun h2 => absurd h (by simp [h2]), fun _ => ?_⟩
  refine KL_ind k38_b0.eq_1 (fun x : Nat => [(5, .int .i64 x), (4, .ref 0 (idl t x).length 0 (idl t x).length), (0, .list (rows t))]) (fun x => [.arr (idl t x).length 2 1 (ints (idl t x))]) (fun x => x ≤ t.length) (fun x => t.length - x) [5, 4, 0] 0 rfl (by simp [idl, pts, mk, ints]) (Nat.zero_le _) fun x hi ih => ?_
  have hle := idl_len t x
  simp only [go_sem, ↓reduceIte, Nat.reduceEqDiff, Nat.reduceAdd, reduceCtorEq]
  refine ⟨fun h1 => ⟨by omega, fun h2 => ?_⟩, fun h1 => ?_⟩
  · have hs := hsq x h2
    have hsuc := idl_succ t x
    unfold tat at hsuc
    repeat' (first | refine And.intro ?_ ?_ | intro _)
    all_goals (try omega)
    · rename_i h3
      rw [if_pos h3] at hsuc
      refine ih (x + 1) (by omega) (by omega) _ _ ?_ ?_
      · rw [hsuc]; simp [keep]
      · rw [hsuc]; simp
    · rename_i h3
      rw [if_neg h3, List.append_nil] at hsuc
      refine ih (x + 1) (by omega) (by omega) _ _ ?_ ?_
      · rw [hsuc]; simp [keep]
      · rw [hsuc]
  · obtain rfl : x = t.length := by omega
    exact Kv.Fin.now ⟨rfl, rfl⟩
theorem p37_in (t : List (List Int)) (ht : t.length ≤ 1048576) (hl : ∀ r ∈ t, r.length ≤ 1048576) (h : isTab t = true) : NewI Tryz.prog 37 [.list (rows t)] 2 (idl t t.length) 0 := by
  obtain ⟨hn, hsq⟩ := tab_sq h
  have hq : (pts t.length).filter (fun x => !(!isI t x)) = idl t t.length := by simp [idl]
  unfold NewI
  refine e37 (by simp) fun _ _ => ?_
  simp only [k37, argEnv, go_sem, ↓reduceIte, Nat.reduceEqDiff, Nat.reduceAdd, reduceCtorEq]
  refine (p105 t ht hl).use (.bool _) (.cons (.listr _ _) (.nil _)) ?_
  simp only [go_sem, ↓reduceIte, Nat.reduceEqDiff, Nat.reduceAdd, reduceCtorEq]
  refine ⟨fun h2 => absurd h (by simp [h2]), fun _ => ?_⟩
  refine (p112 t.length (by omega)).mono fun v s ⟨hv, hs⟩ => ?_
  subst hv; subst hs
  simp only [go_sem, ↓reduceIte, Nat.reduceEqDiff, Nat.reduceAdd, reduceCtorEq]
  refine (p111 (t.length - 1) (pts t.length) (by simp [pts]; omega) 113 [.fptr [.list (rows t)] 0] (up_rows t) (fun x => !isI t x) (fun x hx => ?_)).mono fun v s ⟨hv, post, hs⟩ => ?_
  · obtain ⟨i, hi, rfl⟩ : ∃ i, i < t.length ∧ x = (i : Int) := by
      simp only [pts, mk, List.mem_map, List.mem_range] at hx
      obtain ⟨i, hi, rfl⟩ := hx
      exact ⟨i, hi, rfl⟩
    exact p113 t h i hi
  subst hv; subst hs
  simp only [go_sem, ↓reduceIte, Nat.reduceEqDiff, Nat.reduceAdd, reduceCtorEq]
  rw [hq]
  exact Kv.Fin.now ⟨t.length - 1, [], post, rfl, rfl⟩
end Go.Proofs.YtpfapiiinkkcgaaGreat
end
section
/- All maps of n points. -/
namespace Go.Proofs.YtpfapiiinkkcgaaGreat
open Go.Kv
set_option maxRecDepth 100000
/- spec.l01All -/
/- live [0, 3, 4, 5] -/
def k82_b0 : KC := (.seq (.seq (.ops [⟨(some 11), none, .mv (.t 5)⟩, ⟨(some 12), none, .mv (.t 0)⟩, ⟨(some 13), none, .bin .lss (.t 11) (.t 12)⟩])
  (.cond (.t 13) .skip (.exit 0)))
  (.seq (.block 1 (.ops [⟨(some 16), none, .mv (.t 3)⟩, ⟨(some 17), none, .mv (.t 0)⟩, ⟨(some 18), none, .bin .mul (.t 16) (.t 17)⟩, ⟨(some 3), none, .mv (.t 18)⟩]))
  (.ops [⟨(some 14), none, .mv (.t 5)⟩, ⟨(some 15), none, .bin .add (.t 14) (.c (.int .i64 1))⟩, ⟨(some 5), none, .mv (.t 15)⟩])))
/- live [0, 3, 4, 6, 7, 8, 9] -/
def k82_b1 : KC := (.seq (.seq (.ops [⟨(some 29), none, .mv (.t 9)⟩, ⟨(some 30), none, .bin .geq (.t 29) (.c (.int .i64 0))⟩])
  (.cond (.t 30) .skip (.exit 4)))
  (.seq (.block 5 (.seq (.ops [⟨(some 33), none, .mv (.t 9)⟩, ⟨(some 34), none, .mv (.t 8)⟩, ⟨(some 35), none, .mv (.t 0)⟩, ⟨(some 36), none, .bin .rem (.t 34) (.t 35)⟩, ⟨(some 37), none, .fieldA 1 (.t 7)⟩, ⟨(some 38), none, .idxA 5 1 (.t 37) (.t 33)⟩, ⟨none, none, .store 1 (.t 38) (.t 36)⟩])
  (.ops [⟨(some 39), none, .mv (.t 8)⟩, ⟨(some 40), none, .mv (.t 0)⟩, ⟨(some 41), none, .bin .quo (.t 39) (.t 40)⟩, ⟨(some 8), none, .mv (.t 41)⟩])))
  (.ops [⟨(some 31), none, .mv (.t 9)⟩, ⟨(some 32), none, .bin .sub (.t 31) (.c (.int .i64 1))⟩, ⟨(some 9), none, .mv (.t 32)⟩])))
/- live [0, 3, 4, 6] -/
def k82_b2 : KC := (.seq (.seq (.ops [⟨(some 19), none, .mv (.t 6)⟩, ⟨(some 20), none, .mv (.t 3)⟩, ⟨(some 21), none, .bin .lss (.t 19) (.t 20)⟩])
  (.cond (.t 21) .skip (.exit 2)))
  (.seq (.block 3 (.seq (.ops [⟨(some 24), none, .mv (.t 0)⟩, ⟨(some 25), none, .build [.int .i64 0, .int .i64 0, .int .i64 0, .int .i64 0, .int .i64 0, .int .i64 0] [(0, 1, (.t 24))]⟩, ⟨(some 26), none, .mv (.t 6)⟩, ⟨(some 7), none, .alloc [.int .i64 0, .int .i64 0, .int .i64 0, .int .i64 0, .int .i64 0, .int .i64 0]⟩, ⟨none, none, .store 6 (.t 7) (.t 25)⟩, ⟨(some 8), none, .mv (.t 26)⟩])
  (.seq (.seq (.ops [⟨(some 27), none, .mv (.t 0)⟩, ⟨(some 28), none, .bin .sub (.t 27) (.c (.int .i64 1))⟩, ⟨(some 9), none, .mv (.t 28)⟩])
  (.block 4 (.loop k82_b1)))
  (.ops [⟨(some 42), none, .mv (.t 4)⟩, ⟨(some 43), none, .load true 6 (.t 7)⟩, ⟨(some 44), none, .bsl true 34 6 [(.t 43)]⟩, ⟨(some 45), none, .app (.t 42) (.t 44) 34 6⟩, ⟨(some 4), none, .mv (.t 45)⟩]))))
  (.ops [⟨(some 22), none, .mv (.t 6)⟩, ⟨(some 23), none, .bin .add (.t 22) (.c (.int .i64 1))⟩, ⟨(some 6), none, .mv (.t 23)⟩])))
def k82 : KC := (.seq (.ops [⟨(some 2), none, .mv (.c (.nils))⟩])
  (.seq (.ops [⟨(some 10), none, .bsl false 34 6 []⟩, ⟨(some 3), none, .mv (.c (.int .i64 1))⟩, ⟨(some 4), none, .mv (.t 10)⟩])
  (.seq (.seq (.ops [⟨(some 5), none, .mv (.c (.int .i64 0))⟩])
  (.block 0 (.loop k82_b0)))
  (.seq (.seq (.ops [⟨(some 6), none, .mv (.c (.int .i64 0))⟩])
  (.block 2 (.loop k82_b2)))
  (.seq (.ops [⟨(some 46), none, .mv (.t 4)⟩, ⟨(some 2), none, .mv (.t 46)⟩])
  .ret)))))
theorem e82 {args : List PV} {σ : Heap} {K : PV → Heap → Prop} (hl : args.length ≤ 47) (h : Wf σ → (∀ a ∈ args, PV.upto σ.length a) → vc (mkCfg Tryz.prog mixed [44] 47 σ.length) k82 (FinK σ.length [.t 2] K) (argEnv 0 args) σ) : ACall Tryz.prog 82 args σ K :=
  ACall_enter (C := mkCfg Tryz.prog mixed [44] 47 σ.length) (c := Tryz.f82.body.getD .skip) Tryz.func82 (by kernel_rfl) (by kernel_rfl) (by kernel_rfl) rfl hl (by kernel_rfl) (by kernel_rfl) h
/- impl.maps -/
/- live [0, 3, 4, 5, 6, 9, 10] -/
def k79_b0 : KC := (.seq (.seq (.ops [⟨(some 17), none, .mv (.t 6)⟩, ⟨(some 18), none, .bin .geq (.t 17) (.c (.int .i64 0))⟩])
  (.cond (.t 18) .skip (.exit 2)))
  (.seq (.block 3 (.seq (.ops [⟨(some 21), none, .mv (.t 6)⟩, ⟨(some 22), none, .mv (.t 4)⟩, ⟨(some 23), none, .mv (.t 0)⟩, ⟨(some 24), none, .bin .rem (.t 22) (.t 23)⟩, ⟨(some 25), none, .fieldA 1 (.t 5)⟩, ⟨(some 26), none, .idxA 5 1 (.t 25) (.t 21)⟩, ⟨none, none, .store 1 (.t 26) (.t 24)⟩])
  (.ops [⟨(some 27), none, .mv (.t 4)⟩, ⟨(some 28), none, .mv (.t 0)⟩, ⟨(some 29), none, .bin .quo (.t 27) (.t 28)⟩, ⟨(some 4), none, .mv (.t 29)⟩])))
  (.ops [⟨(some 19), none, .mv (.t 6)⟩, ⟨(some 20), none, .bin .sub (.t 19) (.c (.int .i64 1))⟩, ⟨(some 6), none, .mv (.t 20)⟩])))
/- live [0, 3, 9, 10] -/
def k79_b1 : KC := (.seq (.ops [⟨(some 11), none, .bin .lss (.t 10) (.t 9)⟩])
  (.seq (.cond (.t 11) .skip (.exit 0))
  (.seq (.block 1 (.seq (.ops [⟨(some 12), none, .mv (.t 10)⟩, ⟨(some 4), none, .mv (.t 12)⟩])
  (.seq (.ops [⟨(some 13), none, .mv (.t 0)⟩, ⟨(some 14), none, .build [.int .i64 0, .int .i64 0, .int .i64 0, .int .i64 0, .int .i64 0, .int .i64 0] [(0, 1, (.t 13))]⟩, ⟨(some 5), none, .alloc [.int .i64 0, .int .i64 0, .int .i64 0, .int .i64 0, .int .i64 0, .int .i64 0]⟩, ⟨none, none, .store 6 (.t 5) (.t 14)⟩])
  (.seq (.seq (.ops [⟨(some 15), none, .mv (.t 0)⟩, ⟨(some 16), none, .bin .sub (.t 15) (.c (.int .i64 1))⟩, ⟨(some 6), none, .mv (.t 16)⟩])
  (.block 2 (.loop k79_b0)))
  (.ops [⟨(some 30), none, .mv (.t 3)⟩, ⟨(some 31), none, .load true 6 (.t 5)⟩, ⟨(some 32), none, .bsl true 34 6 [(.t 31)]⟩, ⟨(some 33), none, .app (.t 30) (.t 32) 34 6⟩, ⟨(some 3), none, .mv (.t 33)⟩])))))
  (.ops [⟨(some 34), none, .bin .add (.t 10) (.c (.int .i64 1))⟩, ⟨(some 10), none, .mv (.t 34)⟩]))))
def k79 : KC := (.seq (.ops [⟨(some 2), none, .mv (.c (.nils))⟩])
  (.seq (.ops [⟨(some 3), none, .mv (.c (.nils))⟩])
  (.seq (.seq (.ops [⟨(some 7), none, .mv (.t 0)⟩, ⟨(some 8), none, .mv (.t 0)⟩, ⟨(some 9), none, .call (.c (.fn (.func 73) [] [])) [(.t 7), (.t 8)]⟩, ⟨(some 10), none, .mv (.c (.int .i64 0))⟩])
  (.block 0 (.loop k79_b1)))
  (.seq (.ops [⟨(some 35), none, .mv (.t 3)⟩, ⟨(some 2), none, .mv (.t 35)⟩])
  .ret))))
theorem e79 {args : List PV} {σ : Heap} {K : PV → Heap → Prop} (hl : args.length ≤ 36) (h : Wf σ → (∀ a ∈ args, PV.upto σ.length a) → vc (mkCfg Tryz.prog mixed [32] 36 σ.length) k79 (FinK σ.length [.t 2] K) (argEnv 0 args) σ) : ACall Tryz.prog 79 args σ K :=
  ACall_enter (C := mkCfg Tryz.prog mixed [32] 36 σ.length) (c := Tryz.f79.body.getD .skip) Tryz.func79 (by kernel_rfl) (by kernel_rfl) (by kernel_rfl) rfl hl (by kernel_rfl) (by kernel_rfl) h
end Go.Proofs.YtpfapiiinkkcgaaGreat
namespace Go.Proofs.YtpfapiiinkkcgaaGreat
open Go.Kv
set_option linter.unusedVariables false
set_option linter.unusedSimpArgs false
attribute [local irreducible] ACall PCall KL
/-- The last j digits of k in base n, the greatest first. -/
def dg (n : Nat) : Nat → Nat → List Nat
  | 0, _ => []
  | j + 1, k => (k / n ^ j % n) :: dg n j k
@[simp] theorem dg_length (n : Nat) : ∀ j k, (dg n j k).length = j
  | 0, k => rfl
  | j + 1, k => by simp [dg, dg_length n j k]
theorem dg_lt {n : Nat} (hn : 1 ≤ n) : ∀ j k, ∀ x ∈ dg n j k, x < n
  | 0, k, x, h => by simp [dg] at h
  | j + 1, k, x, h => by
    simp only [dg, List.mem_cons] at h
    rcases h with rfl | h
    · exact Nat.mod_lt _ hn
    · exact dg_lt hn j k x h
theorem dg_ok {n : Nat} (h : 1 ≤ n) (h' : n ≤ 5) (k : Nat) : Ok (dg n n k) n := ⟨dg_length _ _ _, h, h', dg_lt h n k⟩
/-- All maps of n points, in order. -/
def allM (n : Nat) : List (List Nat) := (List.range (n ^ n)).map (dg n n)
def fstM (n x : Nat) : List (List Int) := (List.range x).map fun k => mp (dg n n k)
@[simp] theorem fstM_length (n x : Nat) : (fstM n x).length = x := by simp [fstM]
theorem fstM_succ (n x : Nat) : fstM n x ++ [mp (dg n n x)] = fstM n (x + 1) := by simp [fstM, List.range_succ]
theorem fstM_all (n : Nat) : fstM n (n ^ n) = (allM n).map mp := by simp [fstM, allM, Function.comp_def]
theorem nn_le : ∀ n < 6, n ^ n ≤ 3125 := by decide
theorem dg_step {n j k : Nat} (hj : j < n) : (List.replicate (n - j) 0 ++ dg n j k).set (n - j - 1) (k / n ^ j % n) = List.replicate (n - (j + 1)) 0 ++ dg n (j + 1) k := by
  have e : n - j = (n - (j + 1)) + 1 := by omega
  rw [e, List.replicate_succ', List.append_assoc, List.set_append_right _ _ (by simp)]
  simp [dg]
/-- The digits of k, written from the last one on. -/
theorem lp79 {fz : List Nat} {N n0 : Nat} {Q : Exit → Env → Heap → Prop} {env : Env} {σ : Heap} {id n k : Nat} {v3 v9 v10 : PV} (h1 : 1 ≤ n) (h5 : n ≤ 5) (hid : σ[id]? = some (.box (ints (mpN n (List.replicate n 0)))))
    (hE : keep [0, 3, 4, 5, 6, 9, 10] env = [(0, .int .i64 n), (3, v3), (4, .int .i64 k), (5, .ptr id 0), (6, .int .i64 (n - 1)), (9, v9), (10, v10)]) (hk : k < 3125)
    (hQ : ∀ a b c d, Q (.exit 2) [(18, a), (17, b), (0, .int .i64 n), (3, v3), (4, c), (5, .ptr id 0), (6, d), (9, v9), (10, v10)] (σ.set id (.box (ints (mp (dg n n k)))))) :
    KL (mkCfg Tryz.prog mixed fz N n0) k79_b0 Q env σ := by
  have hlt := (List.getElem?_eq_some_iff.1 hid).1
  have hself : ∀ o, (σ.set id o)[id]? = some o := fun o => List.getElem?_set_self hlt
  have hset : ∀ o o', (σ.set id o).set id o' = σ.set id o' := fun o o' => List.set_set ..
  refine KL_ind k79_b0.eq_1 (fun j : Nat => [(0, .int .i64 n), (3, v3), (4, .int .i64 (k / n ^ j : Nat)), (5, .ptr id 0), (6, .int .i64 ((n : Int) - 1 - j)), (9, v9), (10, v10)]) (fun j => σ.set id (.box (ints (mpN n (List.replicate (n - j) 0 ++ dg n j k))))) (fun j => j ≤ n) (fun j => n - j) [0, 3, 4, 5, 6, 9, 10] 0 ?_ ?_ (Nat.zero_le _) fun j hj ih => ?_
  · rw [hE]; simp
  · simp [dg, hp_same hid]
  · have hl : (mpN n (List.replicate (n - j) 0 ++ dg n j k)).length = 6 := mpN_length (by simp; omega)
    try simp only [hself, hset, hl, take6, List.drop_zero, Int.cast_ofNat_Int, go_sem, ↓reduceIte, Nat.reduceEqDiff, Nat.reduceAdd, Nat.reduceMul, Nat.reduceLeDiff, Nat.reduceLT, Int.reduceLE, Int.reduceLT, reduceCtorEq]
    refine ⟨fun h => ?_, fun h => ?_⟩
    · have e1 : ((n : Int) - 1 - j).toNat = n - j - 1 := by omega
      rw [e1]
      have hd : k / n ^ j ≤ k := Nat.div_le_self _ _
      have e2 : (((k / n ^ j : Nat) : Int) % n) = ((k / n ^ j % n : Nat) : Int) := by simp
      have e3 : (((k / n ^ j : Nat) : Int) / n) = ((k / n ^ (j + 1) : Nat) : Int) := by rw [Nat.pow_succ, ← Nat.div_div_eq_div_mul]; simp
      have hd2 : k / n ^ (j + 1) ≤ k := Nat.div_le_self _ _
      have hz : (0 : Int) ≤ ((k / n ^ j : Nat) : Int) := Int.natCast_nonneg _
      have hz2 : (0 : Int) ≤ ((k / n ^ (j + 1) : Nat) : Int) := Int.natCast_nonneg _
      rw [e2, e3]
      repeat' (first | refine And.intro ?_ ?_ | intro _)
      all_goals (try omega)
      refine ih (j + 1) (by omega) (by omega) _ _ ?_ ?_
      · simp [keep]; omega
      · rw [mpN_set (by simp; omega), dg_step (by omega)]
    · obtain rfl : j = n := by omega
      simp only [Nat.sub_self, List.replicate_zero, List.nil_append]
      rw [← (dg_ok h1 h5 k).mp_eq]
      exact hQ _ _ _ _
theorem p79 (n : Nat) (h1 : 1 ≤ n) (h5 : n ≤ 5) : ACall Tryz.prog 79 [.int .i64 n] [] (fun v s => v = .ref 0 (n ^ n - 1) 0 (n ^ n) ∧ s = [.arr (n ^ n - 1) 34 6 (aggs ((allM n).map mp))]) := by
  have hnn := nn_le n (by omega)
  have hn1 : 0 < n ^ n := Nat.pow_pos (by omega)
  refine e79 (by simp) fun _ _ => ?_
  simp only [k79, argEnv, take6, List.drop_zero, Int.cast_ofNat_Int, go_sem, ↓reduceIte, Nat.reduceEqDiff, Nat.reduceAdd, Nat.reduceMul, Nat.reduceLeDiff, Nat.reduceLT, Int.reduceLE, Int.reduceLT, reduceCtorEq]
  refine (p73 n n (by omega) (by omega)).go ?_
  try simp only [take6, List.drop_zero, Int.cast_ofNat_Int, go_sem, ↓reduceIte, Nat.reduceEqDiff, Nat.reduceAdd, Nat.reduceMul, Nat.reduceLeDiff, Nat.reduceLT, Int.reduceLE, Int.reduceLT, reduceCtorEq]
  rw [← Int.natCast_pow]
  have hall := fstM_all n
  generalize hN : n ^ n = M at *
  refine KL_indD k79_b1.eq_1 (fun x : Nat => [(0, .int .i64 n), (3, nref 1 x), (9, .int .i64 M), (10, .int .i64 x)]) (fun x => nhp [.box (ints (mp (dg n n 0))), .arr (x - 1) 34 6 (aggs (fstM n x))] x) (fun x => x ≤ M) (fun x => M - x) [0, 3, 9, 10] 0 (by simp [keep, nref]) ⟨[], rfl⟩ (Nat.zero_le _) (fun x hx => ?_) fun x hx ih => ?_
  · refine ⟨Nat.zero_le _, ?_, ?_⟩
    · rcases x with _ | x
      · exact Env.undr_upto (by rfl)
      · exact Env.undr_upto (by simp [Env.undr, PV.undr, nref, nhp])
    · rcases x with _ | x
      · exact Hb.nil _
      · exact .cons (by simp [AObj.undr, undrL_ints]) (.cons (by simp [AObj.undr, undrX_aggs]) (.nil _))
  · try simp only [take6, List.drop_zero, Int.cast_ofNat_Int, go_sem, ↓reduceIte, Nat.reduceEqDiff, Nat.reduceAdd, Nat.reduceMul, Nat.reduceLeDiff, Nat.reduceLT, Int.reduceLE, Int.reduceLT, reduceCtorEq]
    refine ⟨fun h => ?_, fun h => ?_⟩
    · have hm : (mp (dg n n x)).length = 6 := (dg_ok h1 h5 x).mp_len
      rcases x with _ | x
      · try simp only [take6, List.drop_zero, Int.cast_ofNat_Int, go_sem, ↓reduceIte, Nat.reduceEqDiff, Nat.reduceAdd, Nat.reduceMul, Nat.reduceLeDiff, Nat.reduceLT, Int.reduceLE, Int.reduceLT, reduceCtorEq]
        refine ⟨by omega, ?_⟩
        refine lp79 (id := 0) (k := 0) h1 h5 ?_ (by rfl) (by omega) fun a b c d => ?_
        · rw [mpN_rep h5]; rfl
        try simp only [hm, take6, List.drop_zero, Int.cast_ofNat_Int, go_sem, ↓reduceIte, Nat.reduceEqDiff, Nat.reduceAdd, Nat.reduceMul, Nat.reduceLeDiff, Nat.reduceLT, Int.reduceLE, Int.reduceLT, reduceCtorEq]
        refine ⟨by omega, ?_⟩
        exact ih 1 (by omega) (by omega) _ _ (by rfl) ⟨[], by rfl⟩
      · try simp only [take6, List.drop_zero, Int.cast_ofNat_Int, go_sem, ↓reduceIte, Nat.reduceEqDiff, Nat.reduceAdd, Nat.reduceMul, Nat.reduceLeDiff, Nat.reduceLT, Int.reduceLE, Int.reduceLT, reduceCtorEq]
        refine ⟨by omega, ?_⟩
        refine lp79 (id := 2) (k := x + 1) h1 h5 ?_ (by rfl) (by omega) fun a b c d => ?_
        · rw [mpN_rep h5]; rfl
        try simp only [hm, fstM_length, take6, List.drop_zero, Int.cast_ofNat_Int, go_sem, ↓reduceIte, Nat.reduceEqDiff, Nat.reduceAdd, Nat.reduceMul, Nat.reduceLeDiff, Nat.reduceLT, Int.reduceLE, Int.reduceLT, reduceCtorEq]
        repeat' (first | refine And.intro ?_ ?_ | intro _)
        all_goals (try omega)
        refine ih (x + 1 + 1) (by omega) (by omega) _ _ (by rfl) ⟨[.box (ints (mp (dg n n (x + 1))))], ?_⟩
        rw [nhp_succ, List.take_of_length_le (by simp), fstM_succ]
        rfl
    · obtain rfl : x = M := by omega
      rw [nref_pos hn1, nhp_pos hn1, hall]
      try simp only [take6, List.drop_zero, Int.cast_ofNat_Int, go_sem, ↓reduceIte, Nat.reduceEqDiff, Nat.reduceAdd, Nat.reduceMul, Nat.reduceLeDiff, Nat.reduceLT, Int.reduceLE, Int.reduceLT, reduceCtorEq]
      exact Kv.Fin.one (i := 1) rfl flat_aggs 0 ⟨rfl, rfl⟩
/-- The digits of k, as the specification writes them. -/
theorem lp82 {fz : List Nat} {N n0 : Nat} {Q : Exit → Env → Heap → Prop} {env : Env} {σ : Heap} {id n k : Nat} {v3 v4 v6 : PV} (h1 : 1 ≤ n) (h5 : n ≤ 5) (hid : σ[id]? = some (.box (ints (mpN n (List.replicate n 0)))))
    (hE : keep [0, 3, 4, 6, 7, 8, 9] env = [(0, .int .i64 n), (3, v3), (4, v4), (6, v6), (7, .ptr id 0), (8, .int .i64 k), (9, .int .i64 (n - 1))]) (hk : k < 3125)
    (hQ : ∀ a b c d, Q (.exit 4) [(30, a), (29, b), (0, .int .i64 n), (3, v3), (4, v4), (6, v6), (7, .ptr id 0), (8, c), (9, d)] (σ.set id (.box (ints (mp (dg n n k)))))) :
    KL (mkCfg Tryz.prog mixed fz N n0) k82_b1 Q env σ := by
  have hlt := (List.getElem?_eq_some_iff.1 hid).1
  have hself : ∀ o, (σ.set id o)[id]? = some o := fun o => List.getElem?_set_self hlt
  have hset : ∀ o o', (σ.set id o).set id o' = σ.set id o' := fun o o' => List.set_set ..
  refine KL_ind k82_b1.eq_1 (fun j : Nat => [(0, .int .i64 n), (3, v3), (4, v4), (6, v6), (7, .ptr id 0), (8, .int .i64 (k / n ^ j : Nat)), (9, .int .i64 ((n : Int) - 1 - j))]) (fun j => σ.set id (.box (ints (mpN n (List.replicate (n - j) 0 ++ dg n j k))))) (fun j => j ≤ n) (fun j => n - j) [0, 3, 4, 6, 7, 8, 9] 0 ?_ ?_ (Nat.zero_le _) fun j hj ih => ?_
  · rw [hE]; simp
  · simp [dg, hp_same hid]
  · have hl : (mpN n (List.replicate (n - j) 0 ++ dg n j k)).length = 6 := mpN_length (by simp; omega)
    try simp only [hself, hset, hl, take6, List.drop_zero, Int.cast_ofNat_Int, go_sem, ↓reduceIte, Nat.reduceEqDiff, Nat.reduceAdd, Nat.reduceMul, Nat.reduceLeDiff, Nat.reduceLT, Int.reduceLE, Int.reduceLT, reduceCtorEq]
    refine ⟨fun h => ?_, fun h => ?_⟩
    · have e1 : ((n : Int) - 1 - j).toNat = n - j - 1 := by omega
      rw [e1]
      have hd : k / n ^ j ≤ k := Nat.div_le_self _ _
      have e2 : (((k / n ^ j : Nat) : Int) % n) = ((k / n ^ j % n : Nat) : Int) := by simp
      have e3 : (((k / n ^ j : Nat) : Int) / n) = ((k / n ^ (j + 1) : Nat) : Int) := by rw [Nat.pow_succ, ← Nat.div_div_eq_div_mul]; simp
      have hd2 : k / n ^ (j + 1) ≤ k := Nat.div_le_self _ _
      have hz : (0 : Int) ≤ ((k / n ^ j : Nat) : Int) := Int.natCast_nonneg _
      have hz2 : (0 : Int) ≤ ((k / n ^ (j + 1) : Nat) : Int) := Int.natCast_nonneg _
      rw [e2, e3]
      repeat' (first | refine And.intro ?_ ?_ | intro _)
      all_goals (try omega)
      refine ih (j + 1) (by omega) (by omega) _ _ ?_ ?_
      · simp [keep]; omega
      · rw [mpN_set (by simp; omega), dg_step (by omega)]
    · obtain rfl : j = n := by omega
      simp only [Nat.sub_self, List.replicate_zero, List.nil_append]
      rw [← (dg_ok h1 h5 k).mp_eq]
      exact hQ _ _ _ _
theorem pw_le {n : Nat} (h1 : 1 ≤ n) (h5 : n ≤ 5) {x : Nat} (hx : x ≤ n) : n ^ x ≤ 3125 := Nat.le_trans (Nat.pow_le_pow_right h1 hx) (nn_le n (by omega))
theorem p82 (n : Nat) (h1 : 1 ≤ n) (h5 : n ≤ 5) : Pure Tryz.prog 82 [.int .i64 n] (.list (aggs ((allM n).map mp))) := by
  refine e82 (by simp) fun _ _ => ?_
  simp only [k82, argEnv, take6, List.drop_zero, Int.cast_ofNat_Int, go_sem, ↓reduceIte, Nat.reduceEqDiff, Nat.reduceAdd, Nat.reduceMul, Nat.reduceLeDiff, Nat.reduceLT, Int.reduceLE, Int.reduceLT, reduceCtorEq]
  refine KL_ind k82_b0.eq_1 (fun x : Nat => [(0, .int .i64 n), (3, .int .i64 (n ^ x : Nat)), (4, .ref 0 0 0 0), (5, .int .i64 x)]) (fun x => [.arr 0 34 6 (aggs [])]) (fun x => x ≤ n) (fun x => n - x) [0, 3, 4, 5] 0 (by simp [keep]) (by rfl) (Nat.zero_le _) fun x hx ih => ?_
  try simp only [take6, List.drop_zero, Int.cast_ofNat_Int, go_sem, ↓reduceIte, Nat.reduceEqDiff, Nat.reduceAdd, Nat.reduceMul, Nat.reduceLeDiff, Nat.reduceLT, Int.reduceLE, Int.reduceLT, reduceCtorEq]
  have hpw := pw_le h1 h5 hx
  refine ⟨fun h => ?_, fun h => ?_⟩
  · have hpw2 := pw_le h1 h5 (x := x + 1) (by omega)
    have hz2 : (0 : Int) ≤ ((n ^ (x + 1) : Nat) : Int) := Int.natCast_nonneg _
    have e : ((n ^ x : Nat) : Int) * n = ((n ^ (x + 1) : Nat) : Int) := by rw [Nat.pow_succ]; simp
    rw [e]
    repeat' (first | refine And.intro ?_ ?_ | intro _)
    all_goals (try omega)
    exact ih (x + 1) (by omega) (by omega) _ _ (by rfl) rfl
  · obtain rfl : x = n := by omega
    have hall := fstM_all x
    generalize hN : x ^ x = M at *
    refine KL_indD k82_b2.eq_1 (fun k : Nat => [(0, .int .i64 x), (3, .int .i64 M), (4, .ref 0 k 0 k), (6, .int .i64 k)]) (fun k => [.arr k 34 6 (aggs (fstM x k))]) (fun k => k ≤ M) (fun k => M - k) [0, 3, 4, 6] 0 (by rfl) ⟨[], rfl⟩ (Nat.zero_le _) (fun k hx => ?_) fun k hx ih => ?_
    · exact ⟨Nat.zero_le _, Env.undr_upto (by rfl), .cons (by simp [AObj.undr, undrX_aggs]) (.nil _)⟩
    · try simp only [take6, List.drop_zero, Int.cast_ofNat_Int, go_sem, ↓reduceIte, Nat.reduceEqDiff, Nat.reduceAdd, Nat.reduceMul, Nat.reduceLeDiff, Nat.reduceLT, Int.reduceLE, Int.reduceLT, reduceCtorEq]
      refine ⟨fun h => ?_, fun h => ?_⟩
      · have hm : (mp (dg x x k)).length = 6 := (dg_ok h1 h5 k).mp_len
        refine ⟨by omega, ?_⟩
        refine lp82 (id := 1) (k := k) h1 h5 ?_ (by rfl) (by omega) fun a b c d => ?_
        · rw [mpN_rep h5]; rfl
        try simp only [hm, fstM_length, take6, List.drop_zero, Int.cast_ofNat_Int, go_sem, ↓reduceIte, Nat.reduceEqDiff, Nat.reduceAdd, Nat.reduceMul, Nat.reduceLeDiff, Nat.reduceLT, Int.reduceLE, Int.reduceLT, reduceCtorEq]
        repeat' (first | refine And.intro ?_ ?_ | intro _)
        all_goals (try omega)
        refine ih (k + 1) (by omega) (by omega) _ _ (by rfl) ⟨[.box (ints (mp (dg x x k)))], ?_⟩
        rw [List.take_of_length_le (by simp), fstM_succ]
        rfl
      · obtain rfl : k = M := by omega
        rw [hall]
        refine Kv.Fin.freeze ?_ ⟨rfl, rfl⟩
        have := Imm.refa (σ := [.arr k 34 6 (aggs ((allM x).map mp))]) (id := 0) rfl
        rw [← hall, fstM_length] at this
        rw [← hall]; exact this
end Go.Proofs.YtpfapiiinkkcgaaGreat
end
section
/- Images of sets of points, ranks, permutations. -/
namespace Go.Proofs.YtpfapiiinkkcgaaGreat
open Go.Kv
set_option maxRecDepth 100000
/- (impl.Map).image -/
/- live [2, 5, 8, 9, 10] -/
def k196_b0 : KC := (.seq (.ops [⟨(some 11), none, .bin .lss (.t 10) (.t 9)⟩])
  (.seq (.cond (.t 11) .skip (.exit 0))
  (.seq (.block 1 (.seq (.ops [⟨(some 12), none, .idxS 1 (.t 8) (.t 10)⟩, ⟨(some 13), none, .load false 1 (.t 12)⟩, ⟨(some 7), none, .mv (.t 13)⟩])
  (.ops [⟨(some 14), none, .mv (.t 5)⟩, ⟨(some 15), none, .mv (.t 7)⟩, ⟨(some 16), none, .fieldA 1 (.t 2)⟩, ⟨(some 17), none, .idxA 5 1 (.t 16) (.t 15)⟩, ⟨(some 18), none, .load false 1 (.t 17)⟩, ⟨(some 19), none, .bsl true 2 1 [(.t 18)]⟩, ⟨(some 20), none, .app (.t 14) (.t 19) 2 1⟩, ⟨(some 5), none, .mv (.t 20)⟩])))
  (.ops [⟨(some 21), none, .bin .add (.t 10) (.c (.int .i64 1))⟩, ⟨(some 10), none, .mv (.t 21)⟩]))))
def k196 : KC := (.seq (.ops [⟨(some 2), none, .box true (.t 0)⟩, ⟨(some 4), none, .mv (.c (.nils))⟩])
  (.seq (.ops [⟨(some 5), none, .mv (.c (.nils))⟩])
  (.seq (.seq (.ops [⟨(some 8), none, .mv (.t 1)⟩, ⟨(some 9), none, .len false (.t 8)⟩, ⟨(some 10), none, .mv (.c (.int .i64 0))⟩])
  (.block 0 (.loop k196_b0)))
  (.seq (.ops [⟨(some 22), none, .mv (.t 5)⟩, ⟨(some 23), none, .call (.c (.fn (.func 204) [] [])) [(.t 22)]⟩])
  (.seq (.ops [⟨(some 24), none, .mv (.t 5)⟩, ⟨(some 25), none, .call (.c (.fn (.func 205) [] [])) [(.t 24)]⟩, ⟨(some 4), none, .mv (.t 25)⟩])
  .ret)))))
theorem e196 {args : List PV} {σ : Heap} {K : PV → Heap → Prop} (hl : args.length ≤ 26) (h : Wf σ → (∀ a ∈ args, PV.upto σ.length a) → vc (mkCfg Tryz.prog mixed [2, 19] 26 σ.length) k196 (FinK σ.length [.t 4] K) (argEnv 0 args) σ) : ACall Tryz.prog 196 args σ K :=
  ACall_enter (C := mkCfg Tryz.prog mixed [2, 19] 26 σ.length) (c := Tryz.f196.body.getD .skip) Tryz.func196 (by kernel_rfl) (by kernel_rfl) (by kernel_rfl) rfl hl (by kernel_rfl) (by kernel_rfl) h
/- (impl.Map).rank -/
def k173 : KC := (.seq (.ops [⟨(some 1), none, .box true (.t 0)⟩, ⟨(some 2), none, .mv (.c (.int .i64 0))⟩])
  (.seq (.draw [⟨(some 3), none, .load true 6 (.t 1)⟩, ⟨(some 4), none, .fieldA 0 (.t 1)⟩, ⟨(some 5), none, .load false 1 (.t 4)⟩, ⟨(some 6), none, .pcall (.c (.fn (.func 112) [] [])) [(.t 5)]⟩, ⟨(some 7), none, .pcall (.c (.fn (.func 196) [] [])) [(.t 3), (.t 6)]⟩, ⟨(some 8), none, .len false (.t 7)⟩, ⟨(some 2), none, .mv (.t 8)⟩])
  .ret))
theorem e173 {args : List PV} {σ : Heap} {K : PV → Heap → Prop} (hl : args.length ≤ 9) (h : Wf σ → (∀ a ∈ args, PV.upto σ.length a) → vc (mkCfg Tryz.prog mixed [1] 9 σ.length) k173 (FinK σ.length [.t 2] K) (argEnv 0 args) σ) : ACall Tryz.prog 173 args σ K :=
  ACall_enter (C := mkCfg Tryz.prog mixed [1] 9 σ.length) (c := Tryz.f173.body.getD .skip) Tryz.func173 (by kernel_rfl) (by kernel_rfl) (by kernel_rfl) rfl hl (by kernel_rfl) (by kernel_rfl) h
/- (impl.Map).isPermutation -/
def k138 : KC := (.seq (.ops [⟨(some 1), none, .box true (.t 0)⟩, ⟨(some 2), none, .mv (.c (.bool false))⟩])
  (.seq (.draw [⟨(some 3), none, .load true 6 (.t 1)⟩, ⟨(some 5), none, .fieldA 0 (.t 1)⟩, ⟨(some 6), none, .load false 1 (.t 5)⟩, ⟨(some 4), none, .pcall (.c (.fn (.func 173) [] [])) [(.t 3)]⟩, ⟨(some 7), none, .bin .eql (.t 4) (.t 6)⟩, ⟨(some 2), none, .mv (.t 7)⟩])
  .ret))
theorem e138 {args : List PV} {σ : Heap} {K : PV → Heap → Prop} (hl : args.length ≤ 8) (h : Wf σ → (∀ a ∈ args, PV.upto σ.length a) → vc (mkCfg Tryz.prog mixed [1] 8 σ.length) k138 (FinK σ.length [.t 2] K) (argEnv 0 args) σ) : ACall Tryz.prog 138 args σ K :=
  ACall_enter (C := mkCfg Tryz.prog mixed [1] 8 σ.length) (c := Tryz.f138.body.getD .skip) Tryz.func138 (by kernel_rfl) (by kernel_rfl) (by kernel_rfl) rfl hl (by kernel_rfl) (by kernel_rfl) h
/- impl.permutations -/
def k78 : KC := (.seq (.ops [⟨(some 2), none, .mv (.c (.nils))⟩])
  (.seq (.ops [⟨(some 3), none, .mv (.t 0)⟩, ⟨(some 4), none, .call (.c (.fn (.func 79) [] [])) [(.t 3)]⟩, ⟨(some 5), none, .call (.c (.fn (.func 132) [] [])) [(.t 4), (.c (.fn (.func 137) [] []))]⟩, ⟨(some 2), none, .mv (.t 5)⟩])
  .ret))
theorem e78 {args : List PV} {σ : Heap} {K : PV → Heap → Prop} (hl : args.length ≤ 6) (h : Wf σ → (∀ a ∈ args, PV.upto σ.length a) → vc (mkCfg Tryz.prog mixed [] 6 σ.length) k78 (FinK σ.length [.t 2] K) (argEnv 0 args) σ) : ACall Tryz.prog 78 args σ K :=
  ACall_enter (C := mkCfg Tryz.prog mixed [] 6 σ.length) (c := Tryz.f78.body.getD .skip) Tryz.func78 (by kernel_rfl) (by kernel_rfl) (by kernel_rfl) rfl hl (by kernel_rfl) (by kernel_rfl) h
/- impl.permutations$1 -/
def k137 : KC := (.seq (.ops [⟨(some 1), none, .box true (.t 0)⟩, ⟨(some 2), none, .mv (.c (.bool false))⟩])
  (.seq (.ops [⟨(some 3), none, .load true 6 (.t 1)⟩, ⟨(some 4), none, .call (.c (.fn (.func 138) [] [])) [(.t 3)]⟩, ⟨(some 5), none, .not (.t 4)⟩, ⟨(some 2), none, .mv (.t 5)⟩])
  .ret))
theorem e137 {args : List PV} {σ : Heap} {K : PV → Heap → Prop} (hl : args.length ≤ 6) (h : Wf σ → (∀ a ∈ args, PV.upto σ.length a) → vc (mkCfg Tryz.prog mixed [1] 6 σ.length) k137 (FinK σ.length [.t 2] K) (argEnv 0 args) σ) : ACall Tryz.prog 137 args σ K :=
  ACall_enter (C := mkCfg Tryz.prog mixed [1] 6 σ.length) (c := Tryz.f137.body.getD .skip) Tryz.func137 (by kernel_rfl) (by kernel_rfl) (by kernel_rfl) rfl hl (by kernel_rfl) (by kernel_rfl) h
end Go.Proofs.YtpfapiiinkkcgaaGreat
namespace Go.Proofs.YtpfapiiinkkcgaaGreat
open Go.Kv
set_option linter.unusedVariables false
set_option linter.unusedSimpArgs false
attribute [local irreducible] ACall PCall KL
def insI (x : Int) : List Int → List Int
  | [] => [x]
  | y :: l => if x ≤ y then x :: y :: l else y :: insI x l
/-- The list in order. -/
def srt : List Int → List Int
  | [] => []
  | x :: l => insI x (srt l)
theorem insI_perm (x : Int) : ∀ l, (insI x l).Perm (x :: l)
  | [] => .refl _
  | y :: l => by
    unfold insI
    split
    · exact .refl _
    · exact ((insI_perm x l).cons y).trans (.swap x y l)
theorem srt_perm : ∀ l, (srt l).Perm l
  | [] => .refl _
  | x :: l => (insI_perm x _).trans ((srt_perm l).cons x)
theorem insI_sorted (x : Int) : ∀ l : List Int, l.Pairwise (· ≤ ·) → (insI x l).Pairwise (· ≤ ·)
  | [], _ => by simp [insI]
  | y :: l, h => by
    rw [List.pairwise_cons] at h
    unfold insI
    split
    · rename_i hx
      refine List.pairwise_cons.2 ⟨fun z hz => ?_, List.pairwise_cons.2 h⟩
      rcases List.mem_cons.1 hz with rfl | hz
      · exact hx
      · exact Int.le_trans hx (h.1 z hz)
    · rename_i hx
      refine List.pairwise_cons.2 ⟨fun z hz => ?_, insI_sorted x l h.2⟩
      rcases List.mem_cons.1 ((insI_perm x l).mem_iff.1 hz) with rfl | hz
      · omega
      · exact h.1 z hz
theorem srt_sorted : ∀ l, (srt l).Pairwise (· ≤ ·)
  | [] => .nil
  | x :: l => insI_sorted x _ (srt_sorted l)
theorem sorted_uniq : ∀ {r s : List Int}, r.Perm s → r.Pairwise (· ≤ ·) → s.Pairwise (· ≤ ·) → r = s
  | [], s, h, _, _ => (h.nil_eq)
  | x :: r, [], h, _, _ => by have := h.length_eq; simp at this
  | x :: r, y :: s, h, hr, hs => by
    rw [List.pairwise_cons] at hr hs
    have e : x = y := by
      have h1 : x ∈ y :: s := h.mem_iff.1 (by simp)
      have h2 : y ∈ x :: r := h.mem_iff.2 (by simp)
      rcases List.mem_cons.1 h1 with h1 | h1
      · exact h1
      · rcases List.mem_cons.1 h2 with h2 | h2
        · exact h2.symm
        · have := hs.1 x h1; have := hr.1 y h2; omega
    subst e
    rw [sorted_uniq (List.Perm.cons_inv h) hr.2 hs.2]
theorem srt_eq {r l : List Int} (h : r.Perm l) (hr : r.Pairwise (· ≤ ·)) : r = srt l := sorted_uniq (h.trans (srt_perm l).symm) hr (srt_sorted l)
@[simp] theorem srt_length (l : List Int) : (srt l).length = l.length := (srt_perm l).length_eq
/-- Nothing is left out just where nothing stands twice. -/
theorem cpt_nodup : ∀ r : List Int, r.Pairwise (· ≤ ·) → (cpt r).length ≤ r.length ∧ ((cpt r).length = r.length ↔ r.Nodup)
  | [], _ => by simp [cpt]
  | [a], _ => by simp [cpt]
  | a :: b :: l, h => by
    rw [List.pairwise_cons] at h
    obtain ⟨h1, h2⟩ := cpt_nodup (b :: l) h.2
    rw [cpt_two]
    by_cases e : a = b
    · rw [if_pos e]
      refine ⟨by simp at h1 ⊢; omega, ⟨fun h3 => by simp at h1 h3; omega, fun h3 => ?_⟩⟩
      rw [List.nodup_cons] at h3
      exact absurd (by rw [e]; simp) h3.1
    · rw [if_neg e]
      refine ⟨by simp at h1 ⊢; omega, ?_⟩
      have hna : a ∉ b :: l := fun hm => by
        rcases List.mem_cons.1 hm with hm | hm
        · exact e hm
        · have g1 := h.1 b (by simp)
          have g2 := (List.pairwise_cons.1 h.2).1 a hm
          omega
      rw [List.nodup_cons, ← h2]
      simp [hna]
theorem sortN (σ : Heap) (id ver : Nat) (e : TypeId) (l : List Int) (k : Nat) (hk : k = l.length) (hid : σ[id]? = some (.arr ver e 1 (ints l))) (hn : l.length ≤ 12) {K : PV → Heap → Prop} (hK : ∀ r : List Int, r.Perm l → r.Pairwise (· ≤ ·) → K (.tup []) (σ.set id (.arr ver e 1 (ints r)))) :
    ACall Tryz.prog 204 [.ref id ver 0 k] σ K := by
  subst hk; exact p204 σ id ver e l hid hn hK
theorem compactN (σ : Heap) (id ver : Nat) (e : TypeId) (r : List Int) (k : Nat) (hk : k = r.length) (hid : σ[id]? = some (.arr ver e 1 (ints r))) (hn : r.length ≤ 4294967296) {K : PV → Heap → Prop} (hK : ∀ post : List Int, K (.ref id ver 0 (cpt r).length) (σ.set id (.arr ver e 1 (ints (cpt r ++ post))))) :
    ACall Tryz.prog 205 [.ref id ver 0 k] σ K := by
  subst hk; exact p205 σ id ver e r hid hn hK
/-- The images of points, in order. -/
def imgs (f : List Nat) (l : List Nat) : List Int := cpt (srt (l.map fun p => (f.getD p 0 : Int)))
theorem p196 (f : List Nat) (n : Nat) (hf : Ok f n) (l : List Nat) (hl : ∀ x ∈ l, x < n) (h1 : 1 ≤ l.length) (h12 : l.length ≤ 12) : Pure Tryz.prog 196 [.agg (ints (mp f)), .list (ints (l.map fun x : Nat => (x : Int)))] (.list (ints (imgs f l))) := by
  have hlf := hf.mp_len
  have h5 := hf.le
  refine e196 (by simp) fun _ _ => ?_
  simp only [k196, argEnv, hlf, List.length_map, take6, List.drop_zero, Int.cast_ofNat_Int, go_sem, ↓reduceIte, Nat.reduceEqDiff, Nat.reduceAdd, Nat.reduceMul, Nat.reduceLeDiff, Nat.reduceLT, Int.reduceLE, Int.reduceLT, reduceCtorEq]
  refine KL_ind k196_b0.eq_1 (fun x : Nat => [(2, .fptr (ints (mp f)) 0), (5, nref 0 x), (8, .list (ints (l.map fun x : Nat => (x : Int)))), (9, .int .i64 l.length), (10, .int .i64 x)]) (fun x => nhp [.arr (x - 1) 2 1 (ints ((l.take x).map fun p => (f.getD p 0 : Int)))] x) (fun x => x ≤ l.length) (fun x => l.length - x) [2, 5, 8, 9, 10] 0 (by rfl) (by rfl) (Nat.zero_le _) fun x hx ih => ?_
  have hgl : ∀ x, x < l.length → l.getD x 0 < n := fun x hx => by
    rw [List.getD_eq_getElem?_getD, List.getElem?_eq_getElem hx]
    exact hl _ (List.getElem_mem hx)
  have hsn : ∀ x, x < l.length → (l.take (x + 1)).map (fun p => (f.getD p 0 : Int)) = (l.take x).map (fun p => (f.getD p 0 : Int)) ++ [(f.getD (l.getD x 0) 0 : Int)] := fun x hx => by
    rw [List.take_succ_eq_append_getElem hx, List.map_append]
    simp [List.getD_eq_getElem?_getD, hx]
  have hn0 : ∀ k : Nat, (k : Int).toNat = k := fun k => by omega
  try simp only [hlf, natD, List.length_map, hn0, take6, List.drop_zero, Int.cast_ofNat_Int, go_sem, ↓reduceIte, Nat.reduceEqDiff, Nat.reduceAdd, Nat.reduceMul, Nat.reduceLeDiff, Nat.reduceLT, Int.reduceLE, Int.reduceLT, reduceCtorEq]
  refine ⟨fun h2 => ?_, fun h2 => ?_⟩
  · have hxl : x < l.length := by omega
    have hgx := hgl x hxl
    rcases x with _ | x
    · try simp only [hlf, natD, List.length_map, hn0, take6, List.drop_zero, Int.cast_ofNat_Int, go_sem, ↓reduceIte, Nat.reduceEqDiff, Nat.reduceAdd, Nat.reduceMul, Nat.reduceLeDiff, Nat.reduceLT, Int.reduceLE, Int.reduceLT, reduceCtorEq]
      refine ⟨by omega, fun _ => ⟨by omega, by omega, fun _ => ⟨by omega, ih 1 (by omega) (by omega) _ _ (by rfl) ?_⟩⟩⟩
      show _ = [AObj.arr 0 2 1 (ints ((l.take (0 + 1)).map fun p => (f.getD p 0 : Int)))]
      rw [hsn 0 hxl]; rfl
    · have hlt : (l.take (x + 1)).length = x + 1 := by simp; omega
      try simp only [hlf, natD, List.length_map, hn0, hlt, take6, List.drop_zero, Int.cast_ofNat_Int, go_sem, ↓reduceIte, Nat.reduceEqDiff, Nat.reduceAdd, Nat.reduceMul, Nat.reduceLeDiff, Nat.reduceLT, Int.reduceLE, Int.reduceLT, reduceCtorEq]
      refine ⟨by omega, fun _ => ⟨by omega, by omega, fun _ => ⟨by omega, by omega, ih (x + 1 + 1) (by omega) (by omega) _ _ (by rfl) ?_⟩⟩⟩
      show _ = [AObj.arr (x + 1) 2 1 (ints ((l.take (x + 1 + 1)).map fun p => (f.getD p 0 : Int)))]
      rw [hsn (x + 1) hxl, List.take_of_length_le (by simp; omega)]
  · obtain rfl : x = l.length := by omega
    rw [nref_pos (by omega), nhp_pos (by omega), List.take_length]
    try simp only [take6, List.drop_zero, Int.cast_ofNat_Int, go_sem, ↓reduceIte, Nat.reduceEqDiff, Nat.reduceAdd, Nat.reduceMul, Nat.reduceLeDiff, Nat.reduceLT, Int.reduceLE, Int.reduceLT, reduceCtorEq]
    refine sortN _ 0 (l.length - 1) 2 (l.map fun p => (f.getD p 0 : Int)) l.length (by simp) rfl (by simp; omega) fun r hp hS => ?_
    have hrl : l.length = r.length := by have := hp.length_eq; simpa using this.symm
    try simp only [take6, List.drop_zero, Int.cast_ofNat_Int, go_sem, ↓reduceIte, Nat.reduceEqDiff, Nat.reduceAdd, Nat.reduceMul, Nat.reduceLeDiff, Nat.reduceLT, Int.reduceLE, Int.reduceLT, reduceCtorEq]
    refine compactN _ 0 (l.length - 1) 2 r l.length hrl rfl (by omega) fun post => ?_
    try simp only [take6, List.drop_zero, Int.cast_ofNat_Int, go_sem, ↓reduceIte, Nat.reduceEqDiff, Nat.reduceAdd, Nat.reduceMul, Nat.reduceLeDiff, Nat.reduceLT, Int.reduceLE, Int.reduceLT, reduceCtorEq]
    have hr := srt_eq hp hS
    subst hr
    exact Kv.Fin.freeze (Imm.refp (pre := []) (l := imgs f l) (post := post) rfl rfl rfl) ⟨rfl, rfl⟩
theorem points_pure (n : Nat) (hn : 1 ≤ n ∧ n ≤ 4294967296) : Pure Tryz.prog 112 [.int .i64 n] (.list (ints ((List.range n).map fun x : Nat => (x : Int)))) :=
  ACall.ret (p112 n hn) fun v s ⟨hv, hs⟩ => by
    subst hv; subst hs
    have e : pts n = (List.range n).map fun x : Nat => (x : Int) := rfl
    rw [← e]
    exact Kv.Fin.freeze (Imm.refi rfl) ⟨rfl, rfl⟩
theorem p173 (f : List Nat) (n : Nat) (hf : Ok f n) : Pure Tryz.prog 173 [.agg (ints (mp f))] (.int .i64 (imgs f (List.range n)).length) := by
  have hlf := hf.mp_len
  have h1 := hf.pos
  have h5 := hf.le
  refine e173 (by simp) fun _ _ => ?_
  simp only [k173, argEnv, hlf, hf.len, take6, List.drop_zero, Int.cast_ofNat_Int, go_sem, ↓reduceIte, Nat.reduceEqDiff, Nat.reduceAdd, Nat.reduceMul, Nat.reduceLeDiff, Nat.reduceLT, Int.reduceLE, Int.reduceLT, reduceCtorEq]
  refine (points_pure n (by omega)).fgo ?_
  try simp only [hlf, hf.len, take6, List.drop_zero, Int.cast_ofNat_Int, go_sem, ↓reduceIte, Nat.reduceEqDiff, Nat.reduceAdd, Nat.reduceMul, Nat.reduceLeDiff, Nat.reduceLT, Int.reduceLE, Int.reduceLT, reduceCtorEq]
  refine (p196 f n hf (List.range n) (by simp) (by simp; omega) (by simp; omega)).fgo ?_
  try simp only [take6, List.drop_zero, Int.cast_ofNat_Int, go_sem, ↓reduceIte, Nat.reduceEqDiff, Nat.reduceAdd, Nat.reduceMul, Nat.reduceLeDiff, Nat.reduceLT, Int.reduceLE, Int.reduceLT, reduceCtorEq]
  exact Kv.Fin.still ⟨rfl, rfl⟩
theorem map_getD_range (f : List Nat) : (List.range f.length).map (fun p => (f.getD p 0 : Int)) = f.map fun x : Nat => (x : Int) := by
  apply List.ext_getElem (by simp)
  intro i h1 h2
  simp at h1 h2
  simp [List.getD_eq_getElem?_getD, h1]
/-- A map has as many images as points just where no image stands twice. -/
theorem rank_nodup {f : List Nat} {n : Nat} (hf : Ok f n) : (imgs f (List.range n)).length = n ↔ f.Nodup := by
  have h := (cpt_nodup _ (srt_sorted (f.map fun x : Nat => (x : Int)))).2
  rw [srt_length, List.length_map, hf.len, (srt_perm _).nodup_iff] at h
  unfold imgs
  rw [← hf.len, map_getD_range, hf.len, h]
  rw [List.nodup_iff_pairwise_ne, List.nodup_iff_pairwise_ne, List.pairwise_map]
  constructor
  · intro h; exact h.imp fun h' e => h' (by rw [e])
  · intro h; exact h.imp fun h' e => h' (by omega)
theorem p138 (f : List Nat) (n : Nat) (hf : Ok f n) : Pure Tryz.prog 138 [.agg (ints (mp f))] (.bool (decide f.Nodup)) := by
  have hlf := hf.mp_len
  refine e138 (by simp) fun _ _ => ?_
  simp only [k138, argEnv, hlf, hf.len, take6, List.drop_zero, Int.cast_ofNat_Int, go_sem, ↓reduceIte, Nat.reduceEqDiff, Nat.reduceAdd, Nat.reduceMul, Nat.reduceLeDiff, Nat.reduceLT, Int.reduceLE, Int.reduceLT, reduceCtorEq]
  refine (p173 f n hf).pgo ?_
  try simp only [take6, List.drop_zero, Int.cast_ofNat_Int, go_sem, ↓reduceIte, Nat.reduceEqDiff, Nat.reduceAdd, Nat.reduceMul, Nat.reduceLeDiff, Nat.reduceLT, Int.reduceLE, Int.reduceLT, reduceCtorEq]
  refine Kv.Fin.still ⟨?_, rfl⟩
  congr 1
  exact decide_eq_decide.2 (by rw [← rank_nodup hf]; omega)
theorem p137 (f : List Nat) (n : Nat) (hf : Ok f n) : Pure Tryz.prog 137 [.agg (ints (mp f))] (.bool (!decide f.Nodup)) := by
  have hlf := hf.mp_len
  refine e137 (by simp) fun _ _ => ?_
  simp only [k137, argEnv, hlf, take6, List.drop_zero, Int.cast_ofNat_Int, go_sem, ↓reduceIte, Nat.reduceEqDiff, Nat.reduceAdd, Nat.reduceMul, Nat.reduceLeDiff, Nat.reduceLT, Int.reduceLE, Int.reduceLT, reduceCtorEq]
  refine (p138 f n hf).go ?_
  try simp only [take6, List.drop_zero, Int.cast_ofNat_Int, go_sem, ↓reduceIte, Nat.reduceEqDiff, Nat.reduceAdd, Nat.reduceMul, Nat.reduceLeDiff, Nat.reduceLT, Int.reduceLE, Int.reduceLT, reduceCtorEq]
  exact Kv.Fin.still ⟨rfl, rfl⟩
end Go.Proofs.YtpfapiiinkkcgaaGreat
end
