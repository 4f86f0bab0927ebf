/- Several texts of this session as one, less what the claim does not need. -/
import Derived.Test.YthbbjbfbeaiphaaGreatZ5
import Derived.Test.YthbbjbfbeaiphaaGreatCb
import Derived.Test.YthbbjbfbeaiphaaGreatFC
import Derived.Test.YthbbjbfbeaiphaaGreatZ6
section
section
namespace Go.Kv
set_option linter.unusedVariables false
set_option linter.unusedSimpArgs false
def it (f : List Nat) : Nat → Nat → Nat
 | 0, p => p
 | k + 1, p => f.getD (it f k p) 0
theorem it_add (f : List Nat) (p : Nat) (a : Nat) : ∀ b, it f (a + b) p = it f b (it f a p)
 | 0 => rfl
 | b + 1 => by
  show f.getD (it f (a + b) p) 0 = _
  rw [it_add f p a b]; rfl
theorem it_lt {f : List Nat} {n p : Nat} (hf : Ok f n) (hp : p < n) : ∀ k, it f k p < n
 | 0 => hp
 | k + 1 => hf.get' _
theorem it_mul {f : List Nat} {p d : Nat} (h : it f d p = p) : ∀ k, it f (d * k) p = p
 | 0 => rfl
 | k + 1 => by rw [Nat.mul_succ, it_add, it_mul h k, h]
def itM (f : List Nat) (n k : Nat) : List Nat := (List.range n).map (it f k)
theorem itM_ok {f : List Nat} {n : Nat} (hf : Ok f n) (k : Nat) : Ok (itM f n k) n := ⟨by simp [itM], hf.pos, hf.le, fun x hx => by
 simp only [itM, List.mem_map, List.mem_range] at hx
 obtain ⟨p, hp, rfl⟩ := hx
 exact it_lt hf hp k⟩
def cyc (f : List Nat) (n p : Nat) : Bool := (List.range n).any fun k => decide (it f (k + 1) p = p)
theorem cyc_iff {f : List Nat} {n p : Nat} : cyc f n p = true ↔ ∃ d, 1 ≤ d ∧ d ≤ n ∧ it f d p = p := by
 simp only [cyc, List.any_eq_true, List.mem_range, decide_eq_true_eq]
 constructor
 ·rintro ⟨k, hk, h⟩; exact ⟨k + 1, by omega, by omega, h⟩
 ·rintro ⟨d, h1, h2, h⟩; exact ⟨d - 1, by omega, by rw [Nat.sub_add_cancel h1]; exact h⟩
theorem nodup_len : ∀ (n : Nat) (l : List Nat), l.Nodup → (∀ x ∈ l, x < n) → l.length ≤ n
 | 0, l, _, h => by
  cases l with
  | nil => simp
  | cons a l => exact absurd (h a (by simp)) (by omega)
 | n + 1, l, hd, h => by
  by_cases hn : n ∈ l
  ·have h1 := nodup_len n (l.erase n) (hd.erase n) fun x hx => by
    have := (List.Nodup.mem_erase_iff hd).1 hx
    have := h x this.2
    omega
   rw [List.length_erase_of_mem hn] at h1
   omega
  ·have := nodup_len n l hd fun x hx => by
    have := h x hx
    have : x ≠ n := fun e => hn (e ▸ hx)
    omega
   omega
def hgt (f : List Nat) (n p : Nat) : Nat := (List.range 61).findIdx fun k => cyc f n (it f k p)
def IsMin (f : List Nat) (p v : Nat) : Prop := (∃ k, v = it f k p) ∧ ∀ k, v ≤ it f k p
theorem IsMin.move {f : List Nat} {n p j v : Nat} (hc : cyc f n p = true) (h : IsMin f (it f j p) v) : IsMin f p v := by
 obtain ⟨d, h1, h2, h3⟩ := cyc_iff.1 hc
 obtain ⟨⟨a, ha⟩, hb⟩ := h
 refine ⟨⟨j + a, by rw [it_add]; exact ha⟩, fun k => ?_⟩
 have e : it f k p = it f (d * j - j + k) (it f j p) := by
  have hj : j ≤ d * j := by
   have := Nat.mul_le_mul_right j h1
   omega
  rw [← it_add, ← Nat.add_assoc, show j + (d * j - j) = d * j by omega, it_add, it_mul h3]
 rw [e]; exact hb _
def lo (f : List Nat) (p : Nat) : Nat → Nat
 | 0 => p
 | m + 1 => min (lo f p m) (it f (m + 1) p)
theorem lo_mem (f : List Nat) (p : Nat) : ∀ m, ∃ k, k ≤ m ∧ lo f p m = it f k p
 | 0 => ⟨0, Nat.le_refl _, rfl⟩
 | m + 1 => by
  obtain ⟨k, hk, h⟩ := lo_mem f p m
  simp only [lo]
  by_cases hle : lo f p m ≤ it f (m + 1) p
  ·exact ⟨k, by omega, by rw [Nat.min_eq_left hle]; exact h⟩
  ·exact ⟨m + 1, Nat.le_refl _, by rw [Nat.min_eq_right (by omega)]⟩
def sb : List Nat → Nat
 | [] => 0
 | p :: l => sb l ||| 2 ^ p
theorem sb_snoc : ∀ (l : List Nat) (p : Nat), sb (l ++ [p]) = sb l ||| 2 ^ p
 | [], p => by simp [sb]
 | a :: l, p => by simp only [List.cons_append, sb, sb_snoc l p, Nat.or_assoc, Nat.or_comm (2 ^ p)]
theorem sb_test : ∀ (l : List Nat) (q : Nat), (sb l).testBit q = decide (q ∈ l)
 | [], q => by simp [sb]
 | a :: l, q => by
  simp only [sb, Nat.testBit_or, sb_test l q, Nat.testBit_two_pow, List.mem_cons]
  by_cases h : a = q
  ·simp [h]
  ·have : ¬ q = a := fun e => h e.symm
   simp [h, this]
theorem sb_lt {n : Nat} : ∀ {l : List Nat}, (∀ x ∈ l, x < n) → sb l < 2 ^ n
 | [], _ => by simp [sb]; exact Nat.pow_pos (by omega)
 | a :: l, h => Nat.or_lt_two_pow (sb_lt fun x hx => h x (by simp [hx])) (Nat.pow_lt_pow_right (by omega) (h a (by simp)))
end Go.Kv
end
section
namespace Go.Proofs.YthbbjbfbeaiphaaGreat
open Go.Kv
set_option linter.unusedVariables false
set_option linter.unusedSimpArgs false
attribute [local irreducible] ACall PCall KL
def its (f : List Nat) (p m : Nat) : List Int := (List.range m).map fun k => (it f k p : Int)
end Go.Proofs.YthbbjbfbeaiphaaGreat
end
section
namespace Go.Proofs.YthbbjbfbeaiphaaGreat
open Go.Kv
set_option maxRecDepth 100000
def k208 : KC := (.seq (.ops [oP 2 (.mv (.c (.bool false)))])
 (.seq (.ops [mV 3 0, mV 4 0, oP 5 (.bin .neq (.t 3) (.t 4)), mV 2 5])
 .ret))
theorem e208 : Ent 208 6 [] [.t 2] k208 := ent Tryz.func208 (by kernel_rfl) (by kernel_rfl) (by kernel_rfl) (fun _ => by kernel_rfl) (by kernel_rfl)
def k198 : KC := (.seq (.ops [oP 4 (.mv (.c (.bool false)))])
 (.seq (.ops [mV 5 0, oP 6 (.call (fC 208) [(.t 5)]), mV 7 6, ⟨(some 8), some (7, true), .mv (.t 1)⟩, ⟨(some 9), some (7, true), .call (fC 208) [(.t 8)]⟩, ⟨(some 10), some (7, true), .not (.t 9)⟩, oP 11 (.pick (.t 7) (.t 10) (.c (.bool false))), mV 12 11, ⟨(some 13), some (12, false), .mv (.t 0)⟩, ⟨(some 14), some (12, false), .mv (.t 1)⟩, ⟨(some 15), some (12, false), .bin .lss (.t 13) (.t 14)⟩, oP 16 (.pick (.t 12) (.c (.bool true)) (.t 15)), mV 4 16])
 .ret))
theorem e198 : Ent 198 17 [] [.t 4] k198 := ent Tryz.func198 (by kernel_rfl) (by kernel_rfl) (by kernel_rfl) (fun _ => by kernel_rfl) (by kernel_rfl)
def k192_b0 : KC := (.seq (.seq (.draw [mV 16 7, mV 17 1, oP 18 (.bin .gtr (.t 16) (.t 17)), mV 19 18, ⟨(some 20), some (19, true), .mv (.t 0)⟩, ⟨(some 21), some (19, true), .mv (.t 7)⟩, ⟨(some 22), some (19, true), .idxS 1 (.t 20) (.t 21)⟩, ⟨(some 23), some (19, true), .load false 1 (.t 22)⟩, ⟨(some 24), some (19, true), .mv (.t 0)⟩, ⟨(some 25), some (19, true), .mv (.t 7)⟩, ⟨(some 26), some (19, true), .bin .sub (.t 25) (iC 1)⟩, ⟨(some 27), some (19, true), .idxS 1 (.t 24) (.t 26)⟩, ⟨(some 28), some (19, true), .load false 1 (.t 27)⟩, ⟨(some 29), some (19, true), .pcall (fC 198) [(.t 23), (.t 28)]⟩, oP 30 (.pick (.t 19) (.t 29) (.c (.bool false)))])
 (.cond (.t 30) .skip (.exit 2)))
 (.seq (.block 3 (.draw [mV 33 0, mV 34 7, mV 35 0, mV 36 7, oP 37 (.bin .sub (.t 36) (iC 1)), mV 38 0, mV 39 7, oP 40 (.bin .sub (.t 39) (iC 1)), oP 41 (.idxS 1 (.t 38) (.t 40)), oP 42 (.load false 1 (.t 41)), mV 43 0, mV 44 7, oP 45 (.idxS 1 (.t 43) (.t 44)), oP 46 (.load false 1 (.t 45)), oP 47 (.idxS 1 (.t 33) (.t 34)), ⟨none, none, .store 1 (.t 47) (.t 42)⟩, oP 48 (.idxS 1 (.t 35) (.t 37)), ⟨none, none, .store 1 (.t 48) (.t 46)⟩]))
 (.ops [mV 31 7, oP 32 (.bin .sub (.t 31) (iC 1)), mV 7 32])))
def k192_b1 : KC := (.seq (.seq (.ops [mV 10 6, mV 11 2, oP 12 (.bin .lss (.t 10) (.t 11))])
 (.cond (.t 12) .skip (.exit 0)))
 (.seq (.block 1 (.seq (.ops [mV 15 6, mV 7 15])
 (.block 2 (.loop k192_b0))))
 (.ops [mV 13 6, oP 14 (.bin .add (.t 13) (iC 1)), mV 6 14])))
def k192 : KC := (.seq (.ops [mV 8 1, oP 9 (.bin .add (.t 8) (iC 1)), mV 6 9])
 (.block 0 (.loop k192_b1)))
theorem e192 : Ent 192 49 [] [] k192 := ent Tryz.func192 (by kernel_rfl) (by kernel_rfl) (by kernel_rfl) (fun _ => by kernel_rfl) (by kernel_rfl)
def k166_b0 : KC := (.block 1 (.seq (.ops [mV 19 2, mV 20 1, oP 21 (.bin .sub (.t 19) (.t 20)), mV 10 21])
 (.seq (.seq (.ops [mV 22 10, oP 23 (.bin .leq (.t 22) (iC 12))])
 (.cond (.t 23) (.seq (.ops [mV 24 0, mV 25 1, mV 26 2, oP 27 (.call (fC 192) [(.t 24), (.t 25), (.t 26)])])
 .ret) .skip))
 (.seq (.seq (.ops [mV 28 3, oP 29 (.bin .eql (.t 28) (iC 0))])
 (.cond (.t 29) (.seq (.ops [mV 30 0, mV 31 1, mV 32 2, oP 33 (.call (fC 193) [(.t 30), (.t 31), (.t 32)])])
 .ret) .skip))
 (.seq (.seq (.ops [mV 34 8, oP 35 (.not (.t 34))])
 (.cond (.t 35) (.seq (.ops [mV 36 0, mV 37 1, mV 38 2, oP 39 (.call (fC 194) [(.t 36), (.t 37), (.t 38)])])
 (.ops [mV 40 3, oP 41 (.bin .sub (.t 40) (iC 1)), mV 3 41])) .skip))
 (.seq (.ops [mV 43 0, mV 44 1, mV 45 2, oP 46 (.call (fC 195) [(.t 43), (.t 44), (.t 45)]), mV 42 46, oP 47 (.extr 0 (.t 42)), oP 48 (.extr 1 (.t 42)), mV 11 47, mV 12 48])
 (.seq (.seq (.ops [mV 49 12, oP 50 (.bin .eql (.t 49) (iC 2))])
 (.cond (.t 50) (.seq (.ops [mV 51 0, mV 52 1, mV 53 2, oP 54 (.call (fC 196) [(.t 51), (.t 52), (.t 53)])])
 (.seq (.ops [mV 55 2, oP 56 (.bin .sub (.t 55) (iC 1)), mV 57 11, mV 58 1, oP 59 (.bin .sub (.t 57) (.t 58)), oP 60 (.bin .sub (.t 56) (.t 59)), mV 11 60])
 (.ops [oP 12 (.mv (iC 1))]))) .skip))
 (.seq (.seq (.ops [mV 61 8, mV 62 61, ⟨(some 63), some (62, true), .mv (.t 9)⟩, oP 64 (.pick (.t 62) (.t 63) (.c (.bool false))), mV 65 64, ⟨(some 66), some (65, true), .mv (.t 12)⟩, ⟨(some 67), some (65, true), .bin .eql (.t 66) (iC 1)⟩, oP 68 (.pick (.t 65) (.t 67) (.c (.bool false)))])
 (.cond (.t 68) (.seq (.ops [mV 69 0, mV 70 1, mV 71 2, oP 72 (.call (fC 197) [(.t 69), (.t 70), (.t 71)])])
 (.cond (.t 72) .ret .skip)) .skip))
 (.seq (.seq (.draw [mV 73 1, oP 74 (.bin .gtr (.t 73) (iC 0)), mV 75 74, ⟨(some 76), some (75, true), .mv (.t 0)⟩, ⟨(some 77), some (75, true), .mv (.t 1)⟩, ⟨(some 78), some (75, true), .bin .sub (.t 77) (iC 1)⟩, ⟨(some 79), some (75, true), .idxS 1 (.t 76) (.t 78)⟩, ⟨(some 80), some (75, true), .load false 1 (.t 79)⟩, ⟨(some 81), some (75, true), .mv (.t 0)⟩, ⟨(some 82), some (75, true), .mv (.t 11)⟩, ⟨(some 83), some (75, true), .idxS 1 (.t 81) (.t 82)⟩, ⟨(some 84), some (75, true), .load false 1 (.t 83)⟩, ⟨(some 85), some (75, true), .pcall (fC 198) [(.t 80), (.t 84)]⟩, ⟨(some 86), some (75, true), .not (.t 85)⟩, oP 87 (.pick (.t 75) (.t 86) (.c (.bool false)))])
 (.cond (.t 87) (.seq (.ops [mV 88 0, mV 89 1, mV 90 2, mV 91 11, oP 92 (.call (fC 199) [(.t 88), (.t 89), (.t 90), (.t 91)]), mV 13 92])
 (.seq (.ops [mV 93 13, mV 1 93])
 (.exit 1))) .skip))
 (.seq (.ops [mV 95 0, mV 96 1, mV 97 2, mV 98 11, oP 99 (.call (fC 200) [(.t 95), (.t 96), (.t 97), (.t 98)]), mV 94 99, oP 100 (.extr 0 (.t 94)), oP 101 (.extr 1 (.t 94)), mV 14 100, mV 15 101])
 (.seq (.ops [mV 102 15, mV 9 102])
 (.seq (.ops [mV 103 14, mV 104 1, oP 105 (.bin .sub (.t 103) (.t 104)), mV 106 2, mV 107 14, oP 108 (.bin .sub (.t 106) (.t 107)), mV 16 105, mV 17 108])
 (.seq (.ops [mV 109 10, oP 110 (.bin .quo (.t 109) (iC 8)), mV 18 110])
 (.seq (.ops [mV 111 16, mV 112 17, oP 113 (.bin .lss (.t 111) (.t 112))])
 (.cond (.t 113) (.seq (.ops [mV 114 16, mV 115 18, oP 116 (.bin .geq (.t 114) (.t 115)), mV 8 116])
 (.seq (.ops [mV 117 0, mV 118 1, mV 119 14, mV 120 3, oP 121 (.call (fC 166) [(.t 117), (.t 118), (.t 119), (.t 120)])])
 (.ops [mV 122 14, oP 123 (.bin .add (.t 122) (iC 1)), mV 1 123]))) (.seq (.ops [mV 124 17, mV 125 18, oP 126 (.bin .geq (.t 124) (.t 125)), mV 8 126])
 (.seq (.ops [mV 127 0, mV 128 14, oP 129 (.bin .add (.t 128) (iC 1)), mV 130 2, mV 131 3, oP 132 (.call (fC 166) [(.t 127), (.t 129), (.t 130), (.t 131)])])
 (.ops [mV 133 14, mV 2 133]))))))))))))))))))
def k166 : KC := (.seq (.ops [oP 8 (.mv (.c (.bool true)))])
 (.seq (.ops [oP 9 (.mv (.c (.bool true)))])
 (.block 0 (.loop k166_b0))))
theorem e166 : Ent 166 134 [] [] k166 := ent Tryz.func166 (by kernel_rfl) (by kernel_rfl) (by kernel_rfl) (fun _ => by kernel_rfl) (by kernel_rfl)
def k129 : KC := (.seq (.ops [mV 3 0, oP 4 (.len false (.t 3)), mV 2 4])
 (.ops [mV 5 0, mV 6 2, mV 7 2, oP 8 (.conv .u64 (.t 7)), oP 9 (.call (fC 146) [(.t 8)]), oP 10 (.call (fC 166) [(.t 5), (iC 0), (.t 6), (.t 9)])]))
theorem e129 : Ent 129 11 [] [] k129 := ent Tryz.func129 (by kernel_rfl) (by kernel_rfl) (by kernel_rfl) (fun _ => by kernel_rfl) (by kernel_rfl)
def k146 : KC := (.seq (.ops [oP 2 (.mv (iC 0))])
 (.seq (.cond (.c (.bool false)) (.seq (.ops [mV 3 0, oP 4 (.conv .u32 (.t 3)), oP 5 (.call (fC 181) [(.t 4)]), mV 2 5])
 .ret) .skip)
 (.seq (.ops [mV 6 0, oP 7 (.call (fC 182) [(.t 6)]), mV 2 7])
 .ret)))
theorem e146 : Ent 146 8 [] [.t 2] k146 := ent Tryz.func146 (by kernel_rfl) (by kernel_rfl) (by kernel_rfl) (fun _ => by kernel_rfl) (by kernel_rfl)
def k182 : KC := (.seq (.ops [oP 2 (.mv (iC 0))])
 (.seq (.seq (.ops [mV 3 0, oP 4 (.bin .geq (.t 3) (.c (.int .u64 4294967296)))])
 (.cond (.t 4) (.seq (.ops [mV 5 0, oP 6 (.bin .shr (.t 5) (.c (.int .u64 32))), mV 0 6])
 (.ops [oP 2 (.mv (iC 32))])) .skip))
 (.seq (.seq (.ops [mV 7 0, oP 8 (.bin .geq (.t 7) (.c (.int .u64 65536)))])
 (.cond (.t 8) (.seq (.ops [mV 9 0, oP 10 (.bin .shr (.t 9) (.c (.int .u64 16))), mV 0 10])
 (.ops [mV 11 2, oP 12 (.bin .add (.t 11) (iC 16)), mV 2 12])) .skip))
 (.seq (.seq (.ops [mV 13 0, oP 14 (.bin .geq (.t 13) (.c (.int .u64 256)))])
 (.cond (.t 14) (.seq (.ops [mV 15 0, oP 16 (.bin .shr (.t 15) (.c (.int .u64 8))), mV 0 16])
 (.ops [mV 17 2, oP 18 (.bin .add (.t 17) (iC 8)), mV 2 18])) .skip))
 (.seq (.ops [mV 19 2, mV 20 0, oP 21 (.conv .u8 (.t 20)), oP 22 (.idxStr (.c (.str ([0, 1, 2, 2, 3, 3, 3, 3, 4, 4, 4, 4, 4, 4, 4, 4, 5, 5, 5, 5, 5, 5, 5, 5, 5, 5, 5, 5, 5, 5, 5, 5] ++ List.replicate 32 (6) ++ List.replicate 64 (7) ++ List.replicate 128 (8)))) (.t 21)), oP 23 (.conv .i64 (.t 22)), oP 24 (.bin .add (.t 19) (.t 23)), mV 2 24])
 .ret)))))
theorem e182 : Ent 182 25 [] [.t 2] k182 := ent Tryz.func182 (by kernel_rfl) (by kernel_rfl) (by kernel_rfl) (fun _ => by kernel_rfl) (by kernel_rfl)
end Go.Proofs.YthbbjbfbeaiphaaGreat
namespace Go.Proofs.YthbbjbfbeaiphaaGreat
open Go.Kv
set_option linter.unusedVariables false
set_option linter.unusedSimpArgs false
attribute [local irreducible] ACall PCall KL
theorem p208 (a : Int) : Pure Tryz.prog 208 [.int .i64 a] (.bool false) := by
 refine e208 (by simp) fun _ _ => ?_
 simp only [k208, argEnv, go_sem]
 exact Kv.Fin.still ⟨by simp, rfl⟩
theorem p198 (a b : Int) : Pure Tryz.prog 198 [.int .i64 a, .int .i64 b] (.bool (decide (a < b))) := by
 refine e198 (by simp) fun _ _ => ?_
 simp only [k198, argEnv, go_sem]
 refine (p208 a).go ?_
 try simp only [go_sem]
 exact Kv.Fin.still ⟨rfl, rfl⟩
def Jn (m : List Int) (i j : Nat) : Prop := (∀ x y, x < y → y ≤ i → x ≠ j → y ≠ j → m.getD x 0 ≤ m.getD y 0) ∧ ∀ y, j < y → y ≤ i → m.getD j 0 ≤ m.getD y 0
def Sn (m : List Int) (i : Nat) : Prop := ∀ x y, x < y → y < i → m.getD x 0 ≤ m.getD y 0
theorem getD_setI (m : List Int) (i : Nat) (v : Int) (k : Nat) (h : i < m.length) : (m.set i v).getD k 0 = if k = i then v else m.getD k 0 := by
 rw [List.getD_eq_getElem?_getD]
 by_cases e : k = i
 ·subst e; rw [List.getElem?_set_self h]; simp
 ·rw [List.getElem?_set_ne (Ne.symm e), if_neg e, List.getD_eq_getElem?_getD]
theorem Jn.zero {m : List Int} {i : Nat} (h : Sn m i) : Jn m i i := ⟨fun x y h1 h2 h3 h4 => h x y h1 (by omega), fun y h1 h2 => by omega⟩
theorem Jn.done {m : List Int} {i j : Nat} (h : Jn m i j) (hj : j ≤ i) (hs : j = 0 ∨ m.getD (j - 1) 0 ≤ m.getD j 0) : Sn m (i + 1) := fun x y h1 h2 => by
 by_cases ex : x = j
 ·subst ex; exact h.2 y h1 (by omega)
 ·by_cases ey : y = j
  ·subst ey
   rcases hs with hs | hs
   ·omega
   ·by_cases e : x = y - 1
    ·rw [e]; exact hs
    ·exact Int.le_trans (h.1 x (y - 1) (by omega) (by omega) ex (by omega)) hs
  ·exact h.1 x y h1 (by omega) ex ey
def swap1 (m : List Int) (j : Nat) : List Int := (m.set j (m.getD (j - 1) 0)).set (j - 1) (m.getD j 0)
theorem swap1_getD {m : List Int} {j : Nat} (h : j < m.length) (k : Nat) : (swap1 m j).getD k 0 = if k = j - 1 then m.getD j 0 else if k = j then m.getD (j - 1) 0 else m.getD k 0 := by
 rw [swap1, getD_setI _ _ _ _ (by simp; omega), getD_setI _ _ _ _ h]
theorem swap1_perm {m : List Int} {j : Nat} (h : j < m.length) : (swap1 m j).Perm m := by
 have h1 : j - 1 < m.length := by omega
 have := @List.set_set_perm Int m j (j - 1) h h1
 have e1 : m.getD (j - 1) 0 = m[j - 1] := by simp [List.getD_eq_getElem?_getD, h1]
 have e2 : m.getD j 0 = m[j] := by simp [List.getD_eq_getElem?_getD, h]
 rw [swap1, e1, e2]; exact this
theorem Jn.step {m : List Int} {i j : Nat} (h : Jn m i j) (hi : i < m.length) (hj : j ≤ i) (h0 : 0 < j) (hl : m.getD j 0 < m.getD (j - 1) 0) : Jn (swap1 m j) i (j - 1) := by
 have hg := swap1_getD (m := m) (j := j) (by omega)
 refine ⟨fun x y h1 h2 h3 h4 => ?_, fun y h1 h2 => ?_⟩
 ·rw [hg, hg, if_neg h3, if_neg h4]
  by_cases ex : x = j
  ·rw [if_pos ex, if_neg (by omega)]
   exact h.1 (j - 1) y (by omega) h2 (by omega) (by omega)
  ·rw [if_neg ex]
   by_cases ey : y = j
   ·rw [if_pos ey]
    exact h.1 x (j - 1) (by omega) (by omega) ex (by omega)
   ·rw [if_neg ey]; exact h.1 x y h1 h2 ex ey
 ·rw [hg, hg, if_pos rfl, if_neg (by omega)]
  by_cases ey : y = j
  ·rw [if_pos ey]; omega
  ·rw [if_neg ey]; exact h.2 y (by omega) h2
theorem Sn.pairwise {m : List Int} (h : Sn m m.length) : m.Pairwise (· ≤ ·) := by
 rw [List.pairwise_iff_getElem]
 intro i j hi hj hij
 have := h i j hij hj
 simpa [List.getD_eq_getElem?_getD, hi, hj] using this
theorem p192 (σ : Heap) (id ver : Nat) (e : TypeId) (l : List Int) (hid : σ[id]? = some (.arr ver e 1 (ints l))) (hn : l.length ≤ 4294967296) {K : PV → Heap → Prop} (hK : ∀ r : List Int, r.Perm l → r.Pairwise (· ≤ ·) → K (.tup []) (σ.set id (.arr ver e 1 (ints r)))) :
  ACall Tryz.prog 192 [.ref id ver 0 l.length, .int .i64 0, .int .i64 l.length] σ K := by
 have hlt := (List.getElem?_eq_some_iff.1 hid).1
 have hself : ∀ o, (σ.set id o)[id]? = some o := fun o => List.getElem?_set_self hlt
 have hset : ∀ o o', (σ.set id o).set id o' = σ.set id o' := fun o o' => List.set_set ..
 have h00 : σ.set id (.arr ver e 1 (ints l)) = σ := List.ext_getElem? fun i => by
  by_cases h : id = i
  ·subst h; rw [hself, hid]
  ·rw [List.getElem?_set_ne h]
 refine e192 (by simp) fun _ _ => ?_
 simp only [k192, argEnv, go_sem]
 refine ⟨by omega, ?_⟩
 refine KL_ind k192_b1.eq_1 (fun x : Nat × List Int => [(0, .ref id ver 0 l.length), (1, .int .i64 0), (2, .int .i64 l.length), (6, .int .i64 x.1)]) (fun x => σ.set id (.arr ver e 1 (ints x.2))) (fun x => 1 ≤ x.1 ∧ x.1 ≤ l.length + 1 ∧ x.2.Perm l ∧ Sn x.2 x.1) (fun x => l.length + 1 - x.1) [0, 1, 2, 6] (1, l) (by simp [keep]) h00.symm ⟨Nat.le_refl _, by omega, .refl _, fun x y h1 h2 => by omega⟩ fun ⟨i, m⟩ ⟨hi1, hi2, hp, hS⟩ ih => ?_
 simp only at hi1 hi2 hp hS
 have hml := hp.length_eq
 try simp only [go_sem]
 refine ⟨fun h1 => ?_, fun h1 => ?_⟩
 ·have hil : i < l.length := by omega
  refine KL_ind k192_b0.eq_1 (fun x : Nat × List Int => [(0, .ref id ver 0 l.length), (1, .int .i64 0), (2, .int .i64 l.length), (6, .int .i64 i), (7, .int .i64 x.1)]) (fun x => σ.set id (.arr ver e 1 (ints x.2))) (fun x => x.1 ≤ i ∧ x.2.Perm l ∧ Jn x.2 i x.1) (fun x => x.1) [0, 1, 2, 6, 7] (i, m) (by simp [keep]) rfl ⟨Nat.le_refl _, hp, .zero hS⟩ fun ⟨j, m⟩ ⟨hj, hp, hJ⟩ ihj => ?_
  simp only at hj hp hJ
  clear hml hS
  have hml := hp.length_eq
  have hj1 : ((j : Int) - 1).toNat = j - 1 := by omega
  try simp only [hself, hset, hml, hj1, go_sem]
  refine ⟨fun h2 => ⟨by omega, by omega, fun _ => ⟨by omega, by omega, by omega, fun _ => ?_⟩⟩, fun h2 => ⟨by omega, ?_⟩⟩
  ·refine (p198 _ _).pgo ?_
   try simp only [hself, hset, hml, hj1, go_sem]
   refine ⟨fun h3 => ⟨by omega, by omega, by omega, by omega, fun _ => ⟨by omega, by omega, fun _ => ⟨by omega, by omega, fun _ => ⟨by omega, by omega, fun _ => ⟨by omega, ?_⟩⟩⟩⟩⟩, fun h3 => ⟨by omega, ?_⟩⟩
   ·refine ihj (j - 1, swap1 m j) ⟨by show j - 1 ≤ i; omega, (swap1_perm (by omega)).trans hp, hJ.step (by omega) hj (by omega) h3⟩ (by show j - 1 < j; omega) _ _ (by simp [keep]; omega) rfl
   ·refine ih (i + 1, m) ⟨by show 1 ≤ i + 1; omega, by show i + 1 ≤ l.length + 1; omega, hp, hJ.done hj (.inr (by omega))⟩ (by show l.length + 1 - (i + 1) < l.length + 1 - i; omega) _ _ (by simp [keep]) rfl
  ·refine ih (i + 1, m) ⟨by show 1 ≤ i + 1; omega, by show i + 1 ≤ l.length + 1; omega, hp, hJ.done hj (.inl (by omega))⟩ (by show l.length + 1 - (i + 1) < l.length + 1 - i; omega) _ _ (by simp [keep]) rfl
 ·have hS' : Sn m m.length := fun x y h3 h4 => hS x y h3 (by omega)
  exact Kv.Fin.now (hK m hp hS'.pairwise)
theorem p166 (σ : Heap) (id ver : Nat) (e : TypeId) (l : List Int) (hid : σ[id]? = some (.arr ver e 1 (ints l))) (hn : l.length ≤ 12) (lim : Int) {K : PV → Heap → Prop} (hK : ∀ r : List Int, r.Perm l → r.Pairwise (· ≤ ·) → K (.tup []) (σ.set id (.arr ver e 1 (ints r)))) :
  ACall Tryz.prog 166 [.ref id ver 0 l.length, .int .i64 0, .int .i64 l.length, .int .i64 lim] σ K := by
 refine e166 (by simp) fun _ _ => ?_
 simp only [k166, argEnv, go_sem]
 refine KL_round ?_
 rw [k166_b0]
 try simp only [go_sem]
 refine ⟨by omega, fun _ => ?_, fun h => absurd h (by omega)⟩
 refine p192 σ id ver e l hid (by omega) fun r hp hS => ?_
 try simp only [go_sem]
 exact Kv.Fin.now (hK r hp hS)
theorem aWrap_u8 {n : Nat} (h : n < 256) {K : PV → Prop} : aWrap .u8 (n : Int) K = K (.int .u8 n) := by
 have e : IntKind.u8.wrap (n : Int) = n := by
  simp only [IntKind.wrap, IntKind.signed, IntKind.bits, Bool.false_and, Bool.false_eq_true, if_false]
  omega
 show K _ = _
 rw [e]
theorem aWrap_u64 {n : Nat} (h : n < 9223372036854775808) {K : PV → Prop} : aWrap .u64 (n : Int) K = K (.int .u64 n) := by
 have e : IntKind.u64.wrap (n : Int) = n := by
  simp only [IntKind.wrap, IntKind.signed, IntKind.bits, Bool.false_and, Bool.false_eq_true, if_false]
  omega
 show K _ = _
 rw [e]
theorem aOp_idxStr {P : Program} {env : Env} {σ : Heap} {K : PV → Heap → Prop} (s : List UInt8) (t : Nat) {k : IntKind} {n : Int} (h : Kv.look env t = .int k n) : aOp P (.idxStr (.c (.str s)) (.t t)) env σ K = ((0 ≤ n ∧ n < s.length) ∧ K (.int .u8 (s.getD n.toNat 0).toNat) σ) := by
 simp only [aOp, kx, h, intOf?]
set_option maxRecDepth 100000 in
theorem p182 (n : Nat) (hn : n ≤ 12) : ACall Tryz.prog 182 [.int .u64 n] [] (fun v s => (∃ k : Int, v = .int .i64 k) ∧ s = []) := by
 refine e182 (by simp) fun _ _ => ?_
 simp only [k182, argEnv, go_sem]
 refine ⟨fun h => absurd h (by omega), fun _ => ⟨fun h => absurd h (by omega), fun _ => ⟨fun h => absurd h (by omega), fun _ => ?_⟩⟩⟩
 rw [aWrap_u8 (by omega)]
 try simp only [go_sem]
 rw [aOp_idxStr _ 21 (k := .u8) (n := n) rfl]
 generalize hg : (List.getD _ (Int.toNat (n : Int)) (0 : UInt8)) = g
 have hlt := g.toNat_lt
 try simp only [go_sem]
 exact ⟨by omega, by omega, by omega, Kv.Fin.still ⟨⟨_, rfl⟩, rfl⟩⟩
theorem p146 (n : Nat) (hn : n ≤ 12) : ACall Tryz.prog 146 [.int .u64 n] [] (fun v s => (∃ k : Int, v = .int .i64 k) ∧ s = []) := by
 refine e146 (by simp) fun _ _ => ?_
 simp only [k146, argEnv, go_sem]
 refine (p182 n hn).go fun v s ⟨⟨k, hv⟩, hs⟩ => ?_
 subst hv; subst hs
 try simp only [go_sem]
 exact Kv.Fin.still ⟨⟨_, rfl⟩, rfl⟩
theorem p129 (σ : Heap) (id ver : Nat) (e : TypeId) (l : List Int) (hid : σ[id]? = some (.arr ver e 1 (ints l))) (hn : l.length ≤ 12) {K : PV → Heap → Prop} (hK : ∀ r : List Int, r.Perm l → r.Pairwise (· ≤ ·) → K (.tup []) (σ.set id (.arr ver e 1 (ints r)))) :
  ACall Tryz.prog 129 [.ref id ver 0 l.length] σ K := by
 refine e129 (by simp) fun _ _ => ?_
 simp only [k129, argEnv, hid, go_sem]
 rw [aWrap_u64 (by omega)]
 try simp only [go_sem]
 refine (p146 l.length hn).go fun v s ⟨⟨k, hv⟩, hs⟩ => ?_
 subst hv; subst hs
 try simp only [go_sem]
 refine p166 σ id ver e l hid hn k fun r hp hS => ?_
 try simp only [go_sem]
 exact Kv.Fin.now (hK r hp hS)
end Go.Proofs.YthbbjbfbeaiphaaGreat
end
section
namespace Go.Proofs.YthbbjbfbeaiphaaGreat
open Go.Kv
set_option maxRecDepth 100000
def k144_b0 : KC := (.seq (.seq (.ops [mV 29 5, mV 30 4, oP 31 (.len false (.t 30)), oP 32 (.bin .lss (.t 29) (.t 31))])
 (.cond (.t 32) .skip (.exit 2)))
 (.seq (.block 3 (.seq (.draw [mV 35 4, mV 36 5, oP 37 (.idxS 1 (.t 35) (.t 36)), oP 38 (.load false 1 (.t 37)), mV 39 4, mV 40 5, oP 41 (.bin .sub (.t 40) (iC 1)), oP 42 (.idxS 1 (.t 39) (.t 41)), oP 43 (.load false 1 (.t 42)), oP 44 (.bin .neq (.t 38) (.t 43))])
 (.cond (.t 44) (.seq (.ops [mV 45 0, mV 46 3, mV 47 4, mV 48 5, oP 49 (.idxS 1 (.t 47) (.t 48)), oP 50 (.load false 1 (.t 49)), oP 51 (.idxS 1 (.t 45) (.t 46)), ⟨none, none, .store 1 (.t 51) (.t 50)⟩])
 (.ops [mV 52 3, oP 53 (.bin .add (.t 52) (iC 1)), mV 3 53])) .skip)))
 (.ops [mV 33 5, oP 34 (.bin .add (.t 33) (iC 1)), mV 5 34])))
def k144_b1 : KC := (.seq (.seq (.ops [mV 10 3, mV 11 0, oP 12 (.len false (.t 11)), oP 13 (.bin .lss (.t 10) (.t 12))])
 (.cond (.t 13) .skip (.exit 0)))
 (.seq (.block 1 (.seq (.draw [mV 16 0, mV 17 3, oP 18 (.idxS 1 (.t 16) (.t 17)), oP 19 (.load false 1 (.t 18)), mV 20 0, mV 21 3, oP 22 (.bin .sub (.t 21) (iC 1)), oP 23 (.idxS 1 (.t 20) (.t 22)), oP 24 (.load false 1 (.t 23)), oP 25 (.bin .eql (.t 19) (.t 24))])
 (.cond (.t 25) (.seq (.ops [mV 26 0, mV 27 3, oP 28 (.sls 1 (.t 26) (some (.t 27)) none), mV 4 28])
 (.seq (.seq (.ops [oP 5 (.mv (iC 1))])
 (.block 2 (.loop k144_b0)))
 (.seq (.ops [mV 54 0, mV 55 3, oP 56 (.sls 1 (.t 54) (some (.t 55)) none), ⟨none, none, .clr 1 (.int .i64 0) (.t 56)⟩])
 (.seq (.ops [mV 57 0, mV 58 3, oP 59 (.sls 1 (.t 57) none (some (.t 58))), mV 2 59])
 .ret)))) .skip)))
 (.ops [mV 14 3, oP 15 (.bin .add (.t 14) (iC 1)), mV 3 15])))
def k144 : KC := (.seq (.ops [oP 2 (.mv (.c (.nils)))])
 (.seq (.seq (.ops [mV 6 0, oP 7 (.len false (.t 6)), oP 8 (.bin .lss (.t 7) (iC 2))])
 (.cond (.t 8) (.seq (.ops [mV 9 0, mV 2 9])
 .ret) .skip))
 (.seq (.seq (.ops [oP 3 (.mv (iC 1))])
 (.block 0 (.loop k144_b1)))
 (.seq (.ops [mV 60 0, mV 2 60])
 .ret))))
theorem e144 : Ent 144 61 [] [.t 2] k144 := ent Tryz.func144 (by kernel_rfl) (by kernel_rfl) (by kernel_rfl) (fun _ => by kernel_rfl) (by kernel_rfl)
end Go.Proofs.YthbbjbfbeaiphaaGreat
namespace Go.Proofs.YthbbjbfbeaiphaaGreat
open Go.Kv
set_option linter.unusedVariables false
set_option linter.unusedSimpArgs false
attribute [local irreducible] ACall PCall KL
def cpt : List Int → List Int
 | [] => []
 | a :: l => match l with
  | [] => [a]
  | b :: _ => if a = b then cpt l else a :: cpt l
theorem cpt_one (a : Int) : cpt [a] = [a] := rfl
theorem cpt_two (a b : Int) (l : List Int) : cpt (a :: b :: l) = if a = b then cpt (b :: l) else a :: cpt (b :: l) := rfl
theorem cpt_snoc : ∀ (l : List Int) (a b : Int), cpt (l ++ [a, b]) = cpt (l ++ [a]) ++ if a = b then [] else [b]
 | [], a, b => by
  show cpt [a, b] = cpt [a] ++ _
  rw [cpt_two, cpt_one, cpt_one]
  split
  ·rename_i h; subst h; rfl
  ·rfl
 | [c], a, b => by
  show cpt (c :: a :: [b]) = cpt (c :: a :: []) ++ _
  rw [cpt_two c a, cpt_two c a, cpt_two a b, cpt_one, cpt_one]
  split <;> split <;> rename_i h1 h2
  ·subst h2; rfl
  ·rfl
  ·subst h2; rfl
  ·rfl
 | c :: d :: l, a, b => by
  show cpt (c :: d :: (l ++ [a, b])) = cpt (c :: d :: (l ++ [a])) ++ _
  have := cpt_snoc (d :: l) a b
  simp only [List.cons_append] at this
  rw [cpt_two, cpt_two, this]
  split <;> simp
theorem cpt_take {r : List Int} {k : Nat} (h0 : 0 < k) (h : k < r.length) : cpt (r.take (k + 1)) = cpt (r.take k) ++ if r.getD (k - 1) 0 = r.getD k 0 then [] else [r.getD k 0] := by
 obtain ⟨j, rfl⟩ : ∃ j, k = j + 1 := ⟨k - 1, by omega⟩
 have e1 : r.take (j + 1 + 1) = r.take j ++ [r.getD j 0, r.getD (j + 1) 0] := by
  rw [List.take_succ_eq_append_getElem h, List.take_succ_eq_append_getElem (by omega : j < r.length), List.append_assoc]
  simp [List.getD_eq_getElem?_getD, h, (by omega : j < r.length)]
 have e2 : r.take (j + 1) = r.take j ++ [r.getD j 0] := by
  rw [List.take_succ_eq_append_getElem (by omega : j < r.length)]
  simp [List.getD_eq_getElem?_getD, (by omega : j < r.length)]
 rw [e1, e2, cpt_snoc, Nat.add_sub_cancel]
theorem cpt_short {r : List Int} (h : r.length < 2) : cpt r = r := by
 rcases r with _ | ⟨a, _ | ⟨b, r⟩⟩
 ·rfl
 ·rfl
 ·simp at h; omega
theorem p144 (σ : Heap) (id ver : Nat) (e : TypeId) (r : List Int) (hid : σ[id]? = some (.arr ver e 1 (ints r))) (hn : r.length ≤ 4294967296) {K : PV → Heap → Prop} (hK : ∀ post : List Int, K (.ref id ver 0 (cpt r).length) (σ.set id (.arr ver e 1 (ints (cpt r ++ post))))) :
  ACall Tryz.prog 144 [.ref id ver 0 r.length] σ K := by
 have hlt := (List.getElem?_eq_some_iff.1 hid).1
 have hself : ∀ o, (σ.set id o)[id]? = some o := fun o => List.getElem?_set_self hlt
 have hset : ∀ o o', (σ.set id o).set id o' = σ.set id o' := fun o o' => List.set_set ..
 have h00 : σ.set id (.arr ver e 1 (ints r)) = σ := List.ext_getElem? fun i => by
  by_cases h : id = i
  ·subst h; rw [hself, hid]
  ·rw [List.getElem?_set_ne h]
 have hKs : cpt r = r → K (.ref id ver 0 r.length) σ := fun h => by
  have := hK []
  rwa [h, List.append_nil, h00] at this
 refine e144 (by simp) fun _ _ => ?_
 simp only [k144, argEnv, hid, go_sem]
 refine ⟨fun h => Kv.Fin.now (hKs (cpt_short (by omega))), fun h => ?_⟩
 refine KL_ind k144_b1.eq_1 (fun k : Nat => [(0, .ref id ver 0 r.length), (3, .int .i64 k)]) (fun _ => σ) (fun k => 1 ≤ k ∧ k ≤ r.length ∧ cpt (r.take k) = r.take k) (fun k => r.length - k) [0, 3] 1 (by simp [keep]) rfl ⟨Nat.le_refl _, by omega, cpt_short (by simp; omega)⟩ fun k ⟨hk1, hk2, hc⟩ ih => ?_
 have hk1' : ((k : Int) - 1).toNat = k - 1 := by omega
 try simp only [hid, hk1', go_sem]
 refine ⟨fun h1 => ?_, fun h1 => ?_⟩
 ·have hkl : k < r.length := by omega
  have hct := cpt_take hk1 hkl
  refine ⟨by omega, by omega, fun _ => ⟨by omega, by omega, by omega, fun _ => ⟨fun h2 => ⟨by omega, ?_⟩, fun h2 => ⟨by omega, ?_⟩⟩⟩⟩
  ·rw [if_pos h2.symm, List.append_nil, hc] at hct
   clear ih
   refine KL_ind k144_b0.eq_1 (fun x : Nat × Nat × List Int => [(0, .ref id ver 0 r.length), (3, .int .i64 x.2.1), (4, .ref id ver k (r.length - k)), (5, .int .i64 x.1)]) (fun x => σ.set id (.arr ver e 1 (ints x.2.2))) (fun x => 1 ≤ x.1 ∧ x.1 ≤ r.length - k ∧ x.2.1 ≤ k + x.1 - 1 ∧ x.2.2.length = r.length ∧ x.2.1 = (cpt (r.take (k + x.1))).length ∧ x.2.2.take x.2.1 = cpt (r.take (k + x.1)) ∧ ∀ i, k + x.1 - 1 ≤ i → x.2.2.getD i 0 = r.getD i 0) (fun x => r.length - k - x.1) [0, 3, 4, 5] (1, k, r) (by simp [keep]) h00.symm ⟨Nat.le_refl _, by show 1 ≤ r.length - k; omega, by show k ≤ k + 1 - 1; omega, rfl, by show k = (cpt (r.take (k + 1))).length; rw [hct]; simp; omega, hct.symm, fun _ _ => rfl⟩ fun ⟨j, q, m⟩ ⟨hj1, hj2, hq, hml, hql, hmt, hmr⟩ ih => ?_
   simp only at hj1 hj2 hq hml hql hmt hmr
   have hj' : ((j : Int) - 1).toNat = j - 1 := by omega
   try simp only [hself, hset, hml, hj', go_sem]
   refine ⟨fun h3 => ?_, fun h3 => ?_⟩
   ·have hjl : k + j < r.length := by omega
    have hct2 := cpt_take (r := r) (k := k + j) (by omega) hjl
    have g1 := hmr (j + k) (by omega)
    have g2 := hmr (j - 1 + k) (by omega)
    have e1 : j + k = k + j := by omega
    have e2 : j - 1 + k = k + j - 1 := by omega
    rw [g1, g2, e1, e2]
    refine ⟨by omega, by omega, fun _ => ⟨by omega, by omega, by omega, fun _ => ⟨fun h4 => ⟨by omega, by omega, fun _ => ⟨by omega, by omega, fun _ => ⟨by omega, by omega, ?_⟩⟩⟩, fun h4 => ⟨by omega, ?_⟩⟩⟩⟩
    ·rw [if_neg (fun h => h4 h.symm)] at hct2
     have hqm : q < m.length := by omega
     refine ih (j + 1, q + 1, m.set q (r.getD (k + j) 0)) ⟨by show 1 ≤ j + 1; omega, by show j + 1 ≤ r.length - k; omega, by show q + 1 ≤ k + (j + 1) - 1; omega, by show (m.set q _).length = r.length; simp [hml], ?_, ?_, fun i hi => ?_⟩ (by show r.length - k - (j + 1) < r.length - k - j; omega) _ _ (by simp [keep]) rfl
     ·show q + 1 = (cpt (r.take (k + (j + 1)))).length
      rw [← Nat.add_assoc, hct2, List.length_append, ← hql]; rfl
     ·show (m.set q _).take (q + 1) = cpt (r.take (k + (j + 1)))
      rw [← Nat.add_assoc, hct2, ← hmt, List.take_set, List.take_succ_eq_append_getElem hqm]
      rw [List.set_append_right _ _ (by simp; omega)]
      simp [Nat.min_eq_left (Nat.le_of_lt hqm)]
     ·show (m.set q _).getD i 0 = r.getD i 0
      have hi' : k + (j + 1) - 1 ≤ i := hi
      rw [getD_setI _ _ _ _ hqm, if_neg (by omega)]
      exact hmr i (by omega)
    ·rw [if_pos h4.symm, List.append_nil] at hct2
     refine ih (j + 1, q, m) ⟨by show 1 ≤ j + 1; omega, by show j + 1 ≤ r.length - k; omega, by show q ≤ k + (j + 1) - 1; omega, hml, ?_, ?_, fun i hi => hmr i (by have : k + (j + 1) - 1 ≤ i := hi; omega)⟩ (by show r.length - k - (j + 1) < r.length - k - j; omega) _ _ (by simp [keep]) rfl
     ·show q = (cpt (r.take (k + (j + 1)))).length
      rw [← Nat.add_assoc, hct2]; exact hql
     ·show m.take q = cpt (r.take (k + (j + 1)))
      rw [← Nat.add_assoc, hct2]; exact hmt
   ·have e : k + j = r.length := by omega
    rw [e, List.take_length] at hql hmt
    refine ⟨by omega, by omega, by omega, Kv.Fin.now ?_⟩
    rw [Nat.sub_zero, hmt, hql, List.append_assoc]
    exact hK _
  ·refine ih (k + 1) ⟨by omega, by omega, ?_⟩ (by omega) _ _ (by simp [keep]) rfl
   rw [hct, if_neg (fun h => h2 h.symm), hc, List.take_succ_eq_append_getElem hkl]
   simp [List.getD_eq_getElem?_getD, hkl]
 ·obtain rfl : k = r.length := by omega
  rw [List.take_length] at hc
  exact Kv.Fin.now (hKs hc)
end Go.Proofs.YthbbjbfbeaiphaaGreat
end
section
namespace Go.Proofs.YthbbjbfbeaiphaaGreat
open Go.Kv
set_option maxRecDepth 100000
def k87_b0 : KC := (.seq (.seq (.ops [mV 16 6, mV 17 0, oP 18 (.len false (.t 17)), oP 19 (.bin .lss (.t 16) (.t 18))])
 (.cond (.t 19) .skip (.exit 0)))
 (.seq (.block 1 (.seq (.ops [mV 22 0, mV 23 6, oP 24 (.idxS 1 (.t 22) (.t 23)), oP 25 (.load false 1 (.t 24)), mV 7 25])
 (.seq (.ops [mV 26 1, mV 27 7, oP 28 (.call (.t 26) [(.t 27)]), oP 29 (.not (.t 28))])
 (.cond (.t 29) (.seq (.ops [mV 30 0, mV 31 5, mV 32 7, oP 33 (.idxS 1 (.t 30) (.t 31)), ⟨none, none, .store 1 (.t 33) (.t 32)⟩])
 (.ops [mV 34 5, oP 35 (.bin .add (.t 34) (iC 1)), mV 5 35])) .skip))))
 (.ops [mV 20 6, oP 21 (.bin .add (.t 20) (iC 1)), mV 6 21])))
def k87 : KC := (.seq (.ops [oP 4 (.mv (.c (.nils)))])
 (.seq (.ops [mV 8 0, mV 9 1, oP 10 (.call (fC 142) [(.t 8), (.t 9)]), mV 5 10])
 (.seq (.seq (.ops [mV 11 5, oP 12 (.bin .eql (.t 11) (iC (-1)))])
 (.cond (.t 12) (.seq (.ops [mV 13 0, mV 4 13])
 .ret) .skip))
 (.seq (.seq (.ops [mV 14 5, oP 15 (.bin .add (.t 14) (iC 1)), mV 6 15])
 (.block 0 (.loop k87_b0)))
 (.seq (.ops [mV 36 0, mV 37 5, oP 38 (.sls 1 (.t 36) (some (.t 37)) none), ⟨none, none, .clr 1 (.int .i64 0) (.t 38)⟩])
 (.seq (.ops [mV 39 0, mV 40 5, oP 41 (.sls 1 (.t 39) none (some (.t 40))), mV 4 41])
 .ret))))))
theorem e87 : Ent 87 42 [] [.t 4] k87 := ent Tryz.func87 (by kernel_rfl) (by kernel_rfl) (by kernel_rfl) (fun _ => by kernel_rfl) (by kernel_rfl)
def k62_b0 : KC := (.seq (.ops [oP 7 (.bin .lss (.t 6) (.t 5))])
 (.seq (.cond (.t 7) .skip (.exit 0))
 (.seq (.block 1 (.seq (.ops [mV 8 6, mV 4 8])
 (.ops [mV 9 3, mV 10 4, oP 11 (.bsl true 2 1 [(.t 10)]), oP 12 (.app (.t 9) (.t 11) 2 1), mV 3 12])))
 (.ops [oP 13 (.bin .add (.t 6) (iC 1)), mV 6 13]))))
def k62 : KC := (.seq (.ops [oP 2 (.mv (.c (.nils)))])
 (.seq (.ops [oP 3 (.mv (.c (.nils)))])
 (.seq (.seq (.ops [mV 5 0, oP 6 (.mv (iC 0))])
 (.block 0 (.loop k62_b0)))
 (.seq (.ops [mV 14 3, mV 2 14])
 .ret))))
theorem e62 : Ent 62 15 [11] [.t 2] k62 := ent Tryz.func62 (by kernel_rfl) (by kernel_rfl) (by kernel_rfl) (fun _ => by kernel_rfl) (by kernel_rfl)
end Go.Proofs.YthbbjbfbeaiphaaGreat
namespace Go.Proofs.YthbbjbfbeaiphaaGreat
open Go.Kv
set_option linter.unusedVariables false
set_option linter.unusedSimpArgs false
attribute [local irreducible] ACall PCall KL
def pts (n : Nat) : List Int := mk n fun i => (i : Int)
theorem p62 (n : Nat) (hn : 1 ≤ n ∧ n ≤ 4294967296) : ACall Tryz.prog 62 [.int .i64 n] [] (fun v s => v = .ref 0 (n - 1) 0 (pts n).length ∧ s = [.arr (n - 1) 2 1 (ints (pts n))]) := by
 refine e62 (by simp) fun _ _ => ?_
 simp only [k62, argEnv, go_sem, ↓reduceIte, Nat.reduceEqDiff, Nat.reduceAdd, reduceCtorEq]
 refine KL_ind k62_b0.eq_1 (fun x : Nat => [(6, .int .i64 x), (5, .int .i64 n), (3, if x = 0 then .nils else .ref 0 (x - 1) 0 x)]) (fun x => if x = 0 then [] else [.arr (x - 1) 2 1 (ints (pts x))]) (fun x => x ≤ n) (fun x => n - x) [6, 5, 3] 0 rfl (by simp) (Nat.zero_le _) fun x hi ih => ?_
 simp only [go_sem, ↓reduceIte, Nat.reduceEqDiff, Nat.reduceAdd, reduceCtorEq]
 refine ⟨fun hx => ?_, fun hx => ?_⟩
 ·rcases x with _ | x
  ·simp only [go_sem, ↓reduceIte, Nat.reduceEqDiff, Nat.reduceAdd, reduceCtorEq]
   repeat' (first | refine And.intro ?_ ?_ | intro _)
   all_goals (try omega)
   refine ih 1 (by omega) (by omega) _ _ ?_ ?_
   ·simp [keep]
   ·simp [pts, mk, ints]
  ·have hne : ¬ (x + 1 = 0) := by omega
   simp only [hne, if_false, Nat.add_sub_cancel]
   simp only [go_sem, ↓reduceIte, Nat.reduceEqDiff, Nat.reduceAdd, reduceCtorEq]
   have hl : (pts (x + 1)).length = x + 1 := by simp [pts]
   repeat' (first | refine And.intro ?_ ?_ | intro _)
   all_goals (try omega)
   refine ih (x + 1 + 1) (by omega) (by omega) _ _ ?_ ?_
   ·simp [keep]
   ·rw [List.take_of_length_le (by omega)]
    have := mk_succ (x + 1) fun i => (i : Int)
    simp only [pts] at this ⊢
    rw [this]
    rfl
 ·obtain rfl : x = n := by omega
  have hne : ¬ (x = 0) := by omega
  simp only [hne, if_false]
  simp only [go_sem, ↓reduceIte, Nat.reduceEqDiff, Nat.reduceAdd, reduceCtorEq]
  refine Kv.Fin.now ⟨?_, rfl⟩
  simp [pts]
theorem p87 (ver : Nat) (l : List Int) (hl : l.length ≤ 4294967296) (fid : FuncId) (caps : List PV) (hc : ∀ c ∈ caps, PV.upto 0 c) (p : Int → Bool) (hp : ∀ x ∈ l, Pure Tryz.prog fid (.int .i64 x :: caps) (.bool (p x))) :
  ACall Tryz.prog 87 [.ref 0 ver 0 l.length, .fn (.func fid) [] caps] [.arr ver 2 1 (ints l)] (fun v s => v = .ref 0 ver 0 (l.filter fun x => !p x).length ∧ ∃ post, s = [.arr ver 2 1 (ints ((l.filter fun x => !p x) ++ post))]) := by
 refine e87 (by simp) fun _ _ => ?_
 simp only [k87, argEnv, go_sem, ↓reduceIte, Nat.reduceEqDiff, Nat.reduceAdd, reduceCtorEq]
 refine (p142 l hl fid caps hc p hp).use (.int _ _) (.cons (.refi rfl) (.cons (Imm.fnc _ (up_self hc)) (.nil _))) ?_
 simp only [go_sem, ↓reduceIte, Nat.reduceEqDiff, Nat.reduceAdd, reduceCtorEq]
 cases hany : l.any p with
 | false =>
  rw [idx_none hany]
  repeat' (first | refine And.intro ?_ ?_ | intro _)
  all_goals (try omega)
  refine Kv.Fin.now ⟨by rw [filter_none hany], [], by rw [filter_none hany, List.append_nil]⟩
 | true =>
  obtain ⟨i0, hi0, hno, hyes⟩ := any_split hany
  rw [idx_some hi0 hno hyes]
  refine ⟨fun h => by omega, fun h => ⟨by omega, ?_⟩⟩
  refine KL_ind k87_b0.eq_1 (fun x : Nat × List Int => [(6, .int .i64 x.1), (5, .int .i64 ((l.take x.1).filter fun x => !p x).length), (0, .ref 0 ver 0 l.length), (1, .fn (.func fid) [] caps)])
   (fun x => [.arr ver 2 1 (ints (((l.take x.1).filter fun x => !p x) ++ x.2 ++ l.drop x.1))])
   (fun x => x.1 ≤ l.length ∧ ((l.take x.1).filter fun x => !p x).length + x.2.length = x.1 ∧ 1 ≤ x.2.length) (fun x => l.length - x.1) [6, 5, 0, 1] (i0 + 1, [l[i0]]) ?_ ?_ ?_ fun ⟨x, J⟩ ⟨hx, hJ, hJ1⟩ ih => ?_
  ·simp [keep, filter_take_succ hi0, hyes, filter_none hno]; omega
  ·simp only [filter_take_succ hi0, hyes, filter_none hno]
   simp
  ·refine ⟨by show i0 + 1 ≤ l.length; omega, ?_, by simp⟩
   simp [filter_take_succ hi0, hyes, filter_none hno]; omega
  ·simp only at hx hJ hJ1
   generalize hF : (l.take x).filter (fun x => !p x) = F at *
   have hdl : (l.drop x).length = l.length - x := by simp
   have hJe : J = J.headD 0 :: J.tail := by
    cases J with
    | nil => simp at hJ1
    | cons a J => rfl
   simp only [go_sem, hdl, ↓reduceIte, Nat.reduceEqDiff, Nat.reduceAdd, reduceCtorEq]
   refine ⟨fun h1 => ?_, fun h1 => ?_⟩
   ·have hxl : x < l.length := by omega
    have hg : (F ++ J ++ l.drop x).getD x 0 = l[x] := by
     rw [List.getD_eq_getElem?_getD, List.getElem?_append_right (by simp; omega)]
     have : x - (F ++ J).length = 0 := by simp; omega
     rw [this, List.getElem?_drop, Nat.add_zero, List.getElem?_eq_getElem hxl]; rfl
    rw [hg]
    refine ⟨by omega, by omega, fun h2 => ?_⟩
    refine (hp _ (List.getElem_mem hxl)).use (.bool _) (.cons (.int _ _ _) (up_self hc)) ?_
    simp only [go_sem, hdl, ↓reduceIte, Nat.reduceEqDiff, Nat.reduceAdd, reduceCtorEq]
    refine ⟨fun h3 => ?_, fun h3 => ⟨by omega, ?_⟩⟩
    ·have hset : (F ++ J ++ l.drop x).set F.length l[x] = (F ++ [l[x]]) ++ J.tail ++ l.drop x := by
      rw [List.append_assoc, List.set_append_right _ _ (Nat.le_refl _), Nat.sub_self, hJe]
      simp
     have hf1 : ((l.take (x + 1)).filter fun x => !p x) = F ++ [l[x]] := by rw [filter_take_succ hxl, hF, if_pos (by simp [h3])]
     rw [hset]
     repeat' (first | refine And.intro ?_ ?_ | intro _)
     all_goals (try omega)
     refine ih (x + 1, J.tail ++ [l[x]]) ⟨by show x + 1 ≤ l.length; omega, ?_, by simp⟩ (by show l.length - (x + 1) < l.length - x; omega) _ _ ?_ ?_
     ·show ((l.take (x + 1)).filter fun x => !p x).length + (J.tail ++ [l[x]]).length = x + 1
      rw [hf1]
      simp only [List.length_append, List.length_tail, List.length_cons, List.length_nil]; omega
     ·simp only [keep, hf1, List.map_cons, List.map_nil, look_cons, ↓reduceIte, Nat.reduceEqDiff, reduceCtorEq, List.length_append, List.length_cons, List.length_nil]
      rfl
     ·rw [hf1, List.drop_eq_getElem_cons hxl]; simp
    ·have hf1 : ((l.take (x + 1)).filter fun x => !p x) = F := by rw [filter_take_succ hxl, hF, if_neg (by simp [h3]), List.append_nil]
     refine ih (x + 1, J ++ [l[x]]) ⟨by show x + 1 ≤ l.length; omega, ?_, by simp⟩ (by show l.length - (x + 1) < l.length - x; omega) _ _ ?_ ?_
     ·show ((l.take (x + 1)).filter fun x => !p x).length + (J ++ [l[x]]).length = x + 1
      rw [hf1]
      simp only [List.length_append, List.length_cons, List.length_nil]; omega
     ·simp only [keep, hf1, List.map_cons, List.map_nil, look_cons, ↓reduceIte, Nat.reduceEqDiff, reduceCtorEq]
      rfl
     ·rw [hf1, List.drop_eq_getElem_cons hxl]; simp
   ·obtain rfl : x = l.length := by omega
    rw [List.take_length] at hF
    rw [hF]
    repeat' (first | refine And.intro ?_ ?_ | intro _)
    all_goals (try omega)
    have e : (F ++ J ++ l.drop l.length).take F.length = F := by rw [List.append_assoc, List.take_left]
    rw [e]
    exact Kv.Fin.now ⟨rfl, _, by rw [List.append_assoc]⟩
end Go.Proofs.YthbbjbfbeaiphaaGreat
end
section
namespace Go.Proofs.YthbbjbfbeaiphaaGreat
open Go.Kv
set_option linter.unusedVariables false
set_option linter.unusedSimpArgs false
attribute [local irreducible] ACall PCall KL
def dg (n : Nat) : Nat → Nat → List Nat
 | 0, _ => []
 | j + 1, k => (k / n ^ j % n) :: dg n j k
@[simp] theorem dg_length (n : Nat) : ∀ j k, (dg n j k).length = j
 | 0, k => rfl
 | j + 1, k => by simp [dg, dg_length n j k]
def allM (n : Nat) : List (List Nat) := (List.range (n ^ n)).map (dg n n)
end Go.Proofs.YthbbjbfbeaiphaaGreat
end
section
namespace Go.Proofs.YthbbjbfbeaiphaaGreat
open Go.Kv
set_option maxRecDepth 100000
def k92_b0 : KC := (.seq (.ops [oP 11 (.bin .lss (.t 10) (.t 9))])
 (.seq (.cond (.t 11) .skip (.exit 0))
 (.seq (.block 1 (.seq (.ops [oP 12 (.idxS 1 (.t 8) (.t 10)), oP 13 (.load false 1 (.t 12)), mV 7 13])
 (.ops [mV 14 5, mV 15 7, oP 16 (.fieldA 1 (.t 2)), oP 17 (.idxA 5 1 (.t 16) (.t 15)), oP 18 (.load false 1 (.t 17)), oP 19 (.bsl true 2 1 [(.t 18)]), oP 20 (.app (.t 14) (.t 19) 2 1), mV 5 20])))
 (.ops [oP 21 (.bin .add (.t 10) (iC 1)), mV 10 21]))))
def k92 : KC := (.seq (.ops [oP 2 (.box true (.t 0)), oP 4 (.mv (.c (.nils)))])
 (.seq (.ops [oP 5 (.mv (.c (.nils)))])
 (.seq (.seq (.ops [mV 8 1, oP 9 (.len false (.t 8)), oP 10 (.mv (iC 0))])
 (.block 0 (.loop k92_b0)))
 (.seq (.ops [mV 22 5, oP 23 (.call (fC 129) [(.t 22)])])
 (.seq (.ops [mV 24 5, oP 25 (.call (fC 144) [(.t 24)]), mV 4 25])
 .ret)))))
theorem e92 : Ent 92 26 [2, 19] [.t 4] k92 := ent Tryz.func92 (by kernel_rfl) (by kernel_rfl) (by kernel_rfl) (fun _ => by kernel_rfl) (by kernel_rfl)
def k118 : KC := (.seq (.ops [oP 1 (.box true (.t 0)), oP 2 (.mv (iC 0))])
 (.seq (.draw [oP 3 (.load true 6 (.t 1)), oP 4 (.fieldA 0 (.t 1)), oP 5 (.load false 1 (.t 4)), oP 6 (.pcall (fC 62) [(.t 5)]), oP 7 (.pcall (fC 92) [(.t 3), (.t 6)]), oP 8 (.len false (.t 7)), mV 2 8])
 .ret))
theorem e118 : Ent 118 9 [1] [.t 2] k118 := ent Tryz.func118 (by kernel_rfl) (by kernel_rfl) (by kernel_rfl) (fun _ => by kernel_rfl) (by kernel_rfl)
end Go.Proofs.YthbbjbfbeaiphaaGreat
namespace Go.Proofs.YthbbjbfbeaiphaaGreat
open Go.Kv
set_option linter.unusedVariables false
set_option linter.unusedSimpArgs false
attribute [local irreducible] ACall PCall KL
def insI (x : Int) : List Int → List Int
 | [] => [x]
 | y :: l => if x ≤ y then x :: y :: l else y :: insI x l
def srt : List Int → List Int
 | [] => []
 | x :: l => insI x (srt l)
theorem insI_perm (x : Int) : ∀ l, (insI x l).Perm (x :: l)
 | [] => .refl _
 | y :: l => by
  unfold insI
  split
  ·exact .refl _
  ·exact ((insI_perm x l).cons y).trans (.swap x y l)
theorem srt_perm : ∀ l, (srt l).Perm l
 | [] => .refl _
 | x :: l => (insI_perm x _).trans ((srt_perm l).cons x)
theorem insI_sorted (x : Int) : ∀ l : List Int, l.Pairwise (· ≤ ·) → (insI x l).Pairwise (· ≤ ·)
 | [], _ => by simp [insI]
 | y :: l, h => by
  rw [List.pairwise_cons] at h
  unfold insI
  split
  ·rename_i hx
   refine List.pairwise_cons.2 ⟨fun z hz => ?_, List.pairwise_cons.2 h⟩
   rcases List.mem_cons.1 hz with rfl | hz
   ·exact hx
   ·exact Int.le_trans hx (h.1 z hz)
  ·rename_i hx
   refine List.pairwise_cons.2 ⟨fun z hz => ?_, insI_sorted x l h.2⟩
   rcases List.mem_cons.1 ((insI_perm x l).mem_iff.1 hz) with rfl | hz
   ·omega
   ·exact h.1 z hz
theorem srt_sorted : ∀ l, (srt l).Pairwise (· ≤ ·)
 | [] => .nil
 | x :: l => insI_sorted x _ (srt_sorted l)
theorem sorted_uniq : ∀ {r s : List Int}, r.Perm s → r.Pairwise (· ≤ ·) → s.Pairwise (· ≤ ·) → r = s
 | [], s, h, _, _ => (h.nil_eq)
 | x :: r, [], h, _, _ => by have := h.length_eq; simp at this
 | x :: r, y :: s, h, hr, hs => by
  rw [List.pairwise_cons] at hr hs
  have e : x = y := by
   have h1 : x ∈ y :: s := h.mem_iff.1 (by simp)
   have h2 : y ∈ x :: r := h.mem_iff.2 (by simp)
   rcases List.mem_cons.1 h1 with h1 | h1
   ·exact h1
   ·rcases List.mem_cons.1 h2 with h2 | h2
    ·exact h2.symm
    ·have := hs.1 x h1; have := hr.1 y h2; omega
  subst e
  rw [sorted_uniq (List.Perm.cons_inv h) hr.2 hs.2]
theorem srt_eq {r l : List Int} (h : r.Perm l) (hr : r.Pairwise (· ≤ ·)) : r = srt l := sorted_uniq (h.trans (srt_perm l).symm) hr (srt_sorted l)
theorem sortN (σ : Heap) (id ver : Nat) (e : TypeId) (l : List Int) (k : Nat) (hk : k = l.length) (hid : σ[id]? = some (.arr ver e 1 (ints l))) (hn : l.length ≤ 12) {K : PV → Heap → Prop} (hK : ∀ r : List Int, r.Perm l → r.Pairwise (· ≤ ·) → K (.tup []) (σ.set id (.arr ver e 1 (ints r)))) :
  ACall Tryz.prog 129 [.ref id ver 0 k] σ K := by
 subst hk; exact p129 σ id ver e l hid hn hK
theorem compactN (σ : Heap) (id ver : Nat) (e : TypeId) (r : List Int) (k : Nat) (hk : k = r.length) (hid : σ[id]? = some (.arr ver e 1 (ints r))) (hn : r.length ≤ 4294967296) {K : PV → Heap → Prop} (hK : ∀ post : List Int, K (.ref id ver 0 (cpt r).length) (σ.set id (.arr ver e 1 (ints (cpt r ++ post))))) :
  ACall Tryz.prog 144 [.ref id ver 0 k] σ K := by
 subst hk; exact p144 σ id ver e r hid hn hK
def imgs (f : List Nat) (l : List Nat) : List Int := cpt (srt (l.map fun p => (f.getD p 0 : Int)))
theorem p92 (f : List Nat) (n : Nat) (hf : Ok f n) (l : List Nat) (hl : ∀ x ∈ l, x < n) (h1 : 1 ≤ l.length) (h12 : l.length ≤ 12) : Pure Tryz.prog 92 [.agg (ints (mp f)), .list (ints (l.map fun x : Nat => (x : Int)))] (.list (ints (imgs f l))) := by
 have hlf := hf.mp_len
 have h5 := hf.le
 refine e92 (by simp) fun _ _ => ?_
 simp only [k92, argEnv, hlf, List.length_map, go_sem]
 refine KL_ind k92_b0.eq_1 (fun x : Nat => [(2, .fptr (ints (mp f)) 0), (5, nref 0 x), (8, .list (ints (l.map fun x : Nat => (x : Int)))), (9, .int .i64 l.length), (10, .int .i64 x)]) (fun x => nhp [.arr (x - 1) 2 1 (ints ((l.take x).map fun p => (f.getD p 0 : Int)))] x) (fun x => x ≤ l.length) (fun x => l.length - x) [2, 5, 8, 9, 10] 0 (by rfl) (by rfl) (Nat.zero_le _) fun x hx ih => ?_
 have hgl : ∀ x, x < l.length → l.getD x 0 < n := fun x hx => by
  rw [List.getD_eq_getElem?_getD, List.getElem?_eq_getElem hx]
  exact hl _ (List.getElem_mem hx)
 have hsn : ∀ x, x < l.length → (l.take (x + 1)).map (fun p => (f.getD p 0 : Int)) = (l.take x).map (fun p => (f.getD p 0 : Int)) ++ [(f.getD (l.getD x 0) 0 : Int)] := fun x hx => by
  rw [List.take_succ_eq_append_getElem hx, List.map_append]
  simp [List.getD_eq_getElem?_getD, hx]
 have hn0 : ∀ k : Nat, (k : Int).toNat = k := fun k => by omega
 try simp only [hlf, natD, List.length_map, hn0, go_sem]
 refine ⟨fun h2 => ?_, fun h2 => ?_⟩
 ·have hxl : x < l.length := by omega
  have hgx := hgl x hxl
  rcases x with _ | x
  ·try simp only [hlf, natD, List.length_map, hn0, go_sem]
   refine ⟨by omega, fun _ => ⟨by omega, by omega, fun _ => ⟨by omega, ih 1 (by omega) (by omega) _ _ (by rfl) ?_⟩⟩⟩
   show _ = [AObj.arr 0 2 1 (ints ((l.take (0 + 1)).map fun p => (f.getD p 0 : Int)))]
   rw [hsn 0 hxl]; rfl
  ·have hlt : (l.take (x + 1)).length = x + 1 := by simp; omega
   try simp only [hlf, natD, List.length_map, hn0, hlt, go_sem]
   refine ⟨by omega, fun _ => ⟨by omega, by omega, fun _ => ⟨by omega, by omega, ih (x + 1 + 1) (by omega) (by omega) _ _ (by rfl) ?_⟩⟩⟩
   show _ = [AObj.arr (x + 1) 2 1 (ints ((l.take (x + 1 + 1)).map fun p => (f.getD p 0 : Int)))]
   rw [hsn (x + 1) hxl, List.take_of_length_le (by simp; omega)]
 ·obtain rfl : x = l.length := by omega
  rw [nref_pos (by omega), nhp_pos (by omega), List.take_length]
  try simp only [go_sem]
  refine sortN _ 0 (l.length - 1) 2 (l.map fun p => (f.getD p 0 : Int)) l.length (by simp) rfl (by simp; omega) fun r hp hS => ?_
  have hrl : l.length = r.length := by have := hp.length_eq; simpa using this.symm
  try simp only [go_sem]
  refine compactN _ 0 (l.length - 1) 2 r l.length hrl rfl (by omega) fun post => ?_
  try simp only [go_sem]
  have hr := srt_eq hp hS
  subst hr
  exact Kv.Fin.freeze (Imm.refp (pre := []) (l := imgs f l) (post := post) rfl rfl rfl) ⟨rfl, rfl⟩
theorem points_pure (n : Nat) (hn : 1 ≤ n ∧ n ≤ 4294967296) : Pure Tryz.prog 62 [.int .i64 n] (.list (ints ((List.range n).map fun x : Nat => (x : Int)))) :=
 ACall.ret (p62 n hn) fun v s ⟨hv, hs⟩ => by
  subst hv; subst hs
  have e : pts n = (List.range n).map fun x : Nat => (x : Int) := rfl
  rw [← e]
  exact Kv.Fin.freeze (Imm.refi rfl) ⟨rfl, rfl⟩
theorem p118 (f : List Nat) (n : Nat) (hf : Ok f n) : Pure Tryz.prog 118 [.agg (ints (mp f))] (.int .i64 (imgs f (List.range n)).length) := by
 have hlf := hf.mp_len
 have h1 := hf.pos
 have h5 := hf.le
 refine e118 (by simp) fun _ _ => ?_
 simp only [k118, argEnv, hlf, hf.len, go_sem]
 refine (points_pure n (by omega)).fgo ?_
 try simp only [hlf, hf.len, go_sem]
 refine (p92 f n hf (List.range n) (by simp) (by simp; omega) (by simp; omega)).fgo ?_
 try simp only [go_sem]
 exact Kv.Fin.still ⟨rfl, rfl⟩
end Go.Proofs.YthbbjbfbeaiphaaGreat
end
end
section
namespace Go.Proofs.YthbbjbfbeaiphaaGreat
open Go.Kv
set_option maxRecDepth 100000
def k100_b0 : KC := (.seq (.ops [oP 10 (.bin .lss (.t 9) (.t 8))])
 (.seq (.cond (.t 10) .skip (.exit 0))
 (.seq (.block 1 (.seq (.ops [mV 11 9, oP 12 (.idxS 1 (.t 7) (.t 9)), oP 13 (.load false 1 (.t 12)), mV 5 11, mV 6 13])
 (.seq (.ops [mV 14 6, mV 15 1, oP 16 (.bin .sub (.t 15) (iC 1)), oP 17 (.call (fC 120) [(.t 14), (iC 0), (.t 16)]), oP 18 (.not (.t 17)), mV 19 18, ⟨(some 20), some (19, false), .mv (.t 5)⟩, ⟨(some 21), some (19, false), .bin .gtr (.t 20) (iC 0)⟩, ⟨(some 22), some (19, false), .mv (.t 21)⟩, ⟨(some 23), some (22, true), .mv (.t 0)⟩, ⟨(some 24), some (22, true), .mv (.t 5)⟩, ⟨(some 25), some (22, true), .bin .sub (.t 24) (iC 1)⟩, ⟨(some 26), some (22, true), .idxS 1 (.t 23) (.t 25)⟩, ⟨(some 27), some (22, true), .load false 1 (.t 26)⟩, ⟨(some 28), some (22, true), .mv (.t 6)⟩, ⟨(some 29), some (22, true), .bin .geq (.t 27) (.t 28)⟩, ⟨(some 30), some (19, false), .pick (.t 22) (.t 29) (.c (.bool false))⟩, oP 31 (.pick (.t 19) (.c (.bool true)) (.t 30))])
 (.cond (.t 31) (.seq (.ops [oP 4 (.mv (.c (.bool false)))])
 .ret) .skip))))
 (.ops [oP 32 (.bin .add (.t 9) (iC 1)), mV 9 32]))))
def k100 : KC := (.seq (.ops [oP 4 (.mv (.c (.bool false)))])
 (.seq (.seq (.ops [mV 7 0, oP 8 (.len false (.t 7)), oP 9 (.mv (iC 0))])
 (.block 0 (.loop k100_b0)))
 (.seq (.ops [oP 4 (.mv (.c (.bool true)))])
 .ret)))
theorem e100 : Ent 100 33 [] [.t 4] k100 := ent Tryz.func100 (by kernel_rfl) (by kernel_rfl) (by kernel_rfl) (fun _ => by kernel_rfl) (by kernel_rfl)
def k153_b0 : KC := (.seq (.seq (.ops [mV 9 5, mV 10 1, oP 11 (.len false (.t 10)), oP 12 (.bin .lss (.t 9) (.t 11))])
 (.cond (.t 12) .skip (.exit 0)))
 (.seq (.block 1 (.seq (.draw [mV 15 1, mV 16 5, oP 17 (.idxS 1 (.t 15) (.t 16)), oP 18 (.load false 1 (.t 17)), oP 19 (.fieldA 0 (.t 2)), oP 20 (.load false 1 (.t 19)), oP 21 (.bin .sub (.t 20) (iC 1)), oP 22 (.pcall (fC 126) [(.t 18), (iC 0), (.t 21)]), oP 23 (.not (.t 22)), mV 24 23, ⟨(some 25), some (24, false), .mv (.t 5)⟩, ⟨(some 26), some (24, false), .bin .gtr (.t 25) (iC 0)⟩, ⟨(some 27), some (24, false), .mv (.t 26)⟩, ⟨(some 28), some (27, true), .mv (.t 1)⟩, ⟨(some 29), some (27, true), .mv (.t 5)⟩, ⟨(some 30), some (27, true), .idxS 1 (.t 28) (.t 29)⟩, ⟨(some 31), some (27, true), .load false 1 (.t 30)⟩, ⟨(some 32), some (27, true), .mv (.t 1)⟩, ⟨(some 33), some (27, true), .mv (.t 5)⟩, ⟨(some 34), some (27, true), .bin .sub (.t 33) (iC 1)⟩, ⟨(some 35), some (27, true), .idxS 1 (.t 32) (.t 34)⟩, ⟨(some 36), some (27, true), .load false 1 (.t 35)⟩, ⟨(some 37), some (27, true), .bin .leq (.t 31) (.t 36)⟩, ⟨(some 38), some (24, false), .pick (.t 27) (.t 37) (.c (.bool false))⟩, oP 39 (.pick (.t 24) (.c (.bool true)) (.t 38))])
 (.cond (.t 39) (.seq (.ops [oP 4 (.mv (iC 2))])
 .ret) .skip)))
 (.ops [mV 13 5, oP 14 (.bin .add (.t 13) (iC 1)), mV 5 14])))
def k153 : KC := (.seq (.ops [oP 2 (.box true (.t 0)), oP 4 (.mv (iC 0))])
 (.seq (.seq (.ops [oP 6 (.load true 6 (.t 2)), oP 7 (.call (fC 137) [(.t 6)]), oP 8 (.not (.t 7))])
 (.cond (.t 8) (.seq (.ops [oP 4 (.mv (iC 1))])
 .ret) .skip))
 (.seq (.seq (.ops [oP 5 (.mv (iC 0))])
 (.block 0 (.loop k153_b0)))
 (.seq (.ops [oP 4 (.mv (iC 0))])
 .ret))))
theorem e153 : Ent 153 40 [2] [.t 4] k153 := ent Tryz.func153 (by kernel_rfl) (by kernel_rfl) (by kernel_rfl) (fun _ => by kernel_rfl) (by kernel_rfl)
def k95_b0 : KC := (.seq (.seq (.ops [mV 7 6, oP 8 (.fieldA 0 (.t 2)), oP 9 (.load false 1 (.t 8)), oP 10 (.bin .lss (.t 7) (.t 9))])
 (.cond (.t 10) .skip (.exit 0)))
 (.seq (.block 1 (.seq (.ops [mV 13 1, mV 14 6, oP 15 (.conv .u64 (.t 14)), oP 16 (.bin .shr (.t 13) (.t 15)), oP 17 (.bin .and (.t 16) (iC 1)), oP 18 (.bin .eql (.t 17) (iC 1))])
 (.cond (.t 18) (.ops [mV 19 5, mV 20 6, oP 21 (.fieldA 1 (.t 2)), oP 22 (.idxA 5 1 (.t 21) (.t 20)), oP 23 (.load false 1 (.t 22)), oP 24 (.conv .u64 (.t 23)), oP 25 (.bin .shl (iC 1) (.t 24)), oP 26 (.bin .or (.t 19) (.t 25)), mV 5 26]) .skip)))
 (.ops [mV 11 6, oP 12 (.bin .add (.t 11) (iC 1)), mV 6 12])))
def k95 : KC := (.seq (.ops [oP 2 (.box true (.t 0)), oP 4 (.mv (iC 0))])
 (.seq (.ops [oP 5 (.mv (iC 0))])
 (.seq (.seq (.ops [oP 6 (.mv (iC 0))])
 (.block 0 (.loop k95_b0)))
 (.seq (.ops [mV 27 5, mV 4 27])
 .ret))))
theorem e95 : Ent 95 28 [2] [.t 4] k95 := ent Tryz.func95 (by kernel_rfl) (by kernel_rfl) (by kernel_rfl) (fun _ => by kernel_rfl) (by kernel_rfl)
def k104_b0 : KC := (.seq (.seq (.ops [mV 5 4, mV 6 0, oP 7 (.len false (.t 6)), oP 8 (.bin .lss (.t 5) (.t 7))])
 (.cond (.t 8) .skip (.exit 0)))
 (.seq (.block 1 (.ops [mV 11 3, mV 12 0, mV 13 4, oP 14 (.idxS 1 (.t 12) (.t 13)), oP 15 (.load false 1 (.t 14)), oP 16 (.conv .u64 (.t 15)), oP 17 (.bin .shl (iC 1) (.t 16)), oP 18 (.bin .or (.t 11) (.t 17)), mV 3 18]))
 (.ops [mV 9 4, oP 10 (.bin .add (.t 9) (iC 1)), mV 4 10])))
def k104 : KC := (.seq (.ops [oP 2 (.mv (iC 0))])
 (.seq (.ops [oP 3 (.mv (iC 0))])
 (.seq (.seq (.ops [oP 4 (.mv (iC 0))])
 (.block 0 (.loop k104_b0)))
 (.seq (.ops [mV 19 3, mV 2 19])
 .ret))))
theorem e104 : Ent 104 20 [] [.t 2] k104 := ent Tryz.func104 (by kernel_rfl) (by kernel_rfl) (by kernel_rfl) (fun _ => by kernel_rfl) (by kernel_rfl)
end Go.Proofs.YthbbjbfbeaiphaaGreat
namespace Go.Proofs.YthbbjbfbeaiphaaGreat
open Go.Kv
set_option linter.unusedVariables false
set_option linter.unusedSimpArgs false
attribute [local irreducible] ACall PCall KL
def stp (l : List Int) (n : Int) (i : Nat) : Bool := decide (0 ≤ l.getD i 0 ∧ l.getD i 0 ≤ n - 1) && (decide (i = 0) || decide (l.getD (i - 1) 0 < l.getD i 0))
def stB (l : List Int) (n : Int) : Bool := (List.range l.length).all (stp l n)
theorem range_all_succ (p : Nat → Bool) (x : Nat) : (List.range (x + 1)).all p = ((List.range x).all p && p x) := by
 rw [List.range_succ, List.all_append]; simp
theorem range_all_false {p : Nat → Bool} {x n : Nat} (h : x < n) (hp : p x = false) : (List.range n).all p = false := by
 rw [List.all_eq_false]
 exact ⟨x, by simpa using h, by simp [hp]⟩
theorem p100 (l : List Int) (n : Int) (hl : l.length ≤ 1048576) (hn : 1 ≤ n ∧ n ≤ 5) : Pure Tryz.prog 100 [.list (ints l), .int .i64 n] (.bool (stB l n)) := by
 refine e100 (by simp) fun _ _ => ?_
 simp only [k100, argEnv, go_sem]
 refine KL_ind k100_b0.eq_1 (fun x : Nat => [(0, .list (ints l)), (1, .int .i64 n), (7, .list (ints l)), (8, .int .i64 l.length), (9, .int .i64 x)]) (fun _ => []) (fun x => x ≤ l.length ∧ (List.range x).all (stp l n) = true) (fun x => l.length - x) [0, 1, 7, 8, 9] 0 (by rfl) rfl ⟨Nat.zero_le _, rfl⟩ fun x ⟨hx, hall⟩ ih => ?_
 have hx1 : ((x : Int) - 1).toNat = x - 1 := by omega
 have hra := range_all_succ (stp l n) x
 rw [hall, Bool.true_and] at hra
 try simp only [OpK_eq, go_sem]
 refine ⟨fun h1 => ?_, fun h1 => ?_⟩
 ·have hxl : x < l.length := by omega
  refine ⟨h1, fun _ => ⟨by omega, ?_⟩⟩
  refine (p120 _ _ _).go ?_
  have hst : stp l n x = (decide (0 ≤ l.getD x 0 ∧ l.getD x 0 ≤ n - 1) && (decide (x = 0) || decide (l.getD (x - 1) 0 < l.getD x 0))) := rfl
  generalize decide (0 ≤ l.getD x 0 ∧ l.getD x 0 ≤ n - 1) = b1 at *
  cases b1 with
  | false =>
   try simp only [OpK_eq, hx1, go_sem]
   exact Kv.Fin.still ⟨by rw [stB, range_all_false hxl (by rw [hst]; rfl)], rfl⟩
  | true =>
   rw [Bool.true_and] at hst
   try simp only [OpK_eq, hx1, go_sem]
   refine ⟨fun h2 => ⟨by omega, by omega, fun _ => ⟨fun h3 => ?_, fun h3 => ⟨by omega, ?_⟩⟩⟩, fun h2 => ⟨by omega, ?_⟩⟩
   ·refine Kv.Fin.still ⟨by rw [stB, range_all_false hxl]; rw [hst, decide_eq_false (by omega : ¬ x = 0), decide_eq_false (by omega)]; rfl, rfl⟩
   ·refine ih (x + 1) ⟨by omega, ?_⟩ (by omega) _ _ (by rfl) rfl
    rw [hra, hst, decide_eq_true (by omega : l.getD (x - 1) 0 < l.getD x 0), Bool.or_true]
   ·refine ih (x + 1) ⟨by omega, ?_⟩ (by omega) _ _ (by rfl) rfl
    rw [hra, hst, decide_eq_true (by omega : x = 0), Bool.true_or]
 ·obtain rfl : x = l.length := by omega
  exact Kv.Fin.still ⟨by rw [stB, hall], rfl⟩
theorem sb_ext {l m : List Nat} (h : ∀ x, x ∈ l ↔ x ∈ m) : sb l = sb m := by
 apply Nat.eq_of_testBit_eq
 intro i
 rw [sb_test, sb_test]
 simp only [h i]
theorem p104 (l : List Nat) (hl : ∀ x ∈ l, x < 5) (hn : l.length ≤ 1048576) : Pure Tryz.prog 104 [.list (ints (l.map fun x : Nat => (x : Int)))] (.int .i64 (sb l)) := by
 refine e104 (by simp) fun _ _ => ?_
 simp only [k104, argEnv, List.length_map, go_sem]
 refine KL_ind k104_b0.eq_1 (fun x : Nat => [(0, .list (ints (l.map fun x : Nat => (x : Int)))), (3, .int .i64 (sb (l.take x))), (4, .int .i64 x)]) (fun _ => []) (fun x => x ≤ l.length) (fun x => l.length - x) [0, 3, 4] 0 (by rfl) rfl (Nat.zero_le _) fun x hx ih => ?_
 have hb : sb (l.take x) < 2 ^ 62 := Nat.lt_trans (sb_lt (n := 5) fun y hy => hl y (List.mem_of_mem_take hy)) (by decide)
 have hp : l.getD x 0 < 5 := by
  rw [List.getD_eq_getElem?_getD]
  by_cases h : x < l.length
  ·rw [List.getElem?_eq_getElem h]; exact hl _ (List.getElem_mem h)
  ·rw [List.getElem?_eq_none (by omega)]; decide
 have hb2 : 2 ^ l.getD x 0 < 2 ^ 62 := Nat.pow_lt_pow_right (by omega) (by omega)
 have hp61 : l.getD x 0 ≤ 61 := by omega
 have hnat : (l.map fun x : Nat => (x : Int)).getD x 0 = (l.getD x 0 : Int) := by
  simp only [List.getD_eq_getElem?_getD, List.getElem?_map]; cases l[x]? <;> rfl
 try simp only [List.length_map, hnat, aConv_u64 hp61, aBin_shl1 hp61, aBin_or hb hb2, go_sem]
 refine ⟨fun h1 => ?_, fun h1 => ?_⟩
 ·repeat' (first | refine And.intro ?_ ?_ | intro _)
  all_goals (try omega)
  refine ih (x + 1) (by omega) (by omega) _ _ ?_ rfl
  have hxl : x < l.length := by omega
  rw [List.take_succ_eq_append_getElem hxl, sb_snoc, List.getD_eq_getElem?_getD, List.getElem?_eq_getElem hxl]
  rfl
 ·obtain rfl : x = l.length := by omega
  rw [List.take_length]
  exact Kv.Fin.still ⟨rfl, rfl⟩
def mvd (f : List Nat) (l : List Nat) (x : Nat) : List Nat := ((List.range x).filter fun p => decide (p ∈ l)).map fun p => f.getD p 0
theorem mvd_succ (f l : List Nat) (x : Nat) : mvd f l (x + 1) = mvd f l x ++ if x ∈ l then [f.getD x 0] else [] := by
 unfold mvd
 rw [List.range_succ, List.filter_append, List.map_append]
 congr 1
 by_cases h : x ∈ l <;> simp [h]
theorem mvd_all {f l : List Nat} {n : Nat} (hl : ∀ x ∈ l, x < n) : sb (mvd f l n) = sb (l.map fun p => f.getD p 0) := sb_ext fun y => by
 simp only [mvd, List.mem_map, List.mem_filter, List.mem_range, decide_eq_true_eq]
 exact ⟨fun ⟨p, ⟨_, h⟩, e⟩ => ⟨p, h, e⟩, fun ⟨p, h, e⟩ => ⟨p, ⟨hl p h, h⟩, e⟩⟩
theorem p95 (f : List Nat) (n : Nat) (hf : Ok f n) (l : List Nat) (hl : ∀ x ∈ l, x < n) : Pure Tryz.prog 95 [.agg (ints (mp f)), .int .i64 (sb l)] (.int .i64 (sb (l.map fun p => f.getD p 0))) := by
 have hlf := hf.mp_len
 have h5 := hf.le
 rw [← mvd_all hl]
 have hbl : sb l < 2 ^ 62 := Nat.lt_trans (sb_lt (n := 5) fun y hy => by have := hl y hy; omega) (by decide)
 refine e95 (by simp) fun _ _ => ?_
 simp only [k95, argEnv, hlf, go_sem]
 refine KL_ind k95_b0.eq_1 (fun x : Nat => [(1, .int .i64 (sb l)), (2, .fptr (ints (mp f)) 0), (5, .int .i64 (sb (mvd f l x))), (6, .int .i64 x)]) (fun _ => []) (fun x => x ≤ n) (fun x => n - x) [1, 2, 5, 6] 0 (by rfl) rfl (Nat.zero_le _) fun x hx ih => ?_
 have hp := hf.get' x
 have hb : sb (mvd f l x) < 2 ^ 62 := Nat.lt_trans (sb_lt (n := 5) fun y hy => by
  obtain ⟨p, _, rfl⟩ := List.mem_map.1 hy
  have := hf.get' p; omega) (by decide)
 have hb2 : 2 ^ f.getD x 0 < 2 ^ 62 := Nat.pow_lt_pow_right (by omega) (by omega)
 have hp61 : f.getD x 0 ≤ 61 := by omega
 have hx61 : x ≤ 61 := by omega
 have hs := mvd_succ f l x
 try simp only [OpK_eq, hlf, hf.len, aConv_u64 hp61, aConv_u64 hx61, aBin_shl1 hp61, aBin_or hb hb2, aBin_shr (show x ≤ 63 by omega), aBin_and1 (shr_le hbl), go_sem]
 refine ⟨fun h1 => ⟨fun h2 => ⟨by omega, by omega, fun _ => ⟨by omega, ?_⟩⟩, fun h2 => ⟨by omega, ?_⟩⟩, fun h1 => ?_⟩
 ·rw [bit_one, sb_test, decide_eq_true_iff] at h2
  rw [if_pos h2] at hs
  refine ih (x + 1) (by omega) (by omega) _ _ ?_ rfl
  rw [hs, sb_snoc]; rfl
 ·rw [bit_one, sb_test, decide_eq_true_iff] at h2
  rw [if_neg h2, List.append_nil] at hs
  refine ih (x + 1) (by omega) (by omega) _ _ ?_ rfl
  rw [hs]; rfl
 ·obtain rfl : x = n := by omega
  exact Kv.Fin.still ⟨rfl, rfl⟩
theorem p153 (f : List Nat) (n : Nat) (hf : Ok f n) (l : List Int) (hl : l.length ≤ 1048576) : Pure Tryz.prog 153 [.agg (ints (mp f)), .list (ints l)] (.int .i64 (if stB l n = true then 0 else 2)) := by
 have hlf := hf.mp_len
 have h5 := hf.le
 have hn1 := hf.pos
 refine e153 (by simp) fun _ _ => ?_
 simp only [k153, argEnv, hlf, go_sem]
 refine (p137 (mp f) hlf).go ?_
 rw [isM_mp hf]
 try simp only [hlf, hf.len, go_sem]
 refine KL_ind k153_b0.eq_1 (fun x : Nat => [(1, .list (ints l)), (2, .fptr (ints (mp f)) 0), (5, .int .i64 x)]) (fun _ => []) (fun x => x ≤ l.length ∧ (List.range x).all (stp l n) = true) (fun x => l.length - x) [1, 2, 5] 0 (by rfl) rfl ⟨Nat.zero_le _, rfl⟩ fun x ⟨hx, hall⟩ ih => ?_
 have hx1 : ((x : Int) - 1).toNat = x - 1 := by omega
 have hra := range_all_succ (stp l n) x
 rw [hall, Bool.true_and] at hra
 try simp only [OpK_eq, hlf, hf.len, go_sem]
 refine ⟨fun h1 => ?_, fun h1 => ?_⟩
 ·have hxl : x < l.length := by omega
  refine ⟨h1, fun _ => ⟨by omega, ?_⟩⟩
  refine (p126 _ _ _).pgo ?_
  have hst : stp l n x = (decide (0 ≤ l.getD x 0 ∧ l.getD x 0 ≤ (n : Int) - 1) && (decide (x = 0) || decide (l.getD (x - 1) 0 < l.getD x 0))) := rfl
  generalize decide (0 ≤ l.getD x 0 ∧ l.getD x 0 ≤ (n : Int) - 1) = b1 at *
  cases b1 with
  | false =>
   try simp only [OpK_eq, hx1, go_sem]
   exact Kv.Fin.still ⟨by rw [stB, range_all_false hxl (by rw [hst]; rfl)]; rfl, rfl⟩
  | true =>
   rw [Bool.true_and] at hst
   try simp only [OpK_eq, hx1, go_sem]
   refine ⟨fun h2 => ⟨h1, fun _ => ⟨by omega, by omega, fun _ => ⟨fun h3 => ?_, fun h3 => ⟨by omega, ?_⟩⟩⟩⟩, fun h2 => ⟨by omega, ?_⟩⟩
   ·refine Kv.Fin.still ⟨by rw [stB, range_all_false hxl]; rfl; rw [hst, decide_eq_false (by omega : ¬ x = 0), decide_eq_false (by omega)]; rfl, rfl⟩
   ·refine ih (x + 1) ⟨by omega, ?_⟩ (by omega) _ _ (by rfl) rfl
    rw [hra, hst, decide_eq_true (by omega : l.getD (x - 1) 0 < l.getD x 0), Bool.or_true]
   ·refine ih (x + 1) ⟨by omega, ?_⟩ (by omega) _ _ (by rfl) rfl
    rw [hra, hst, decide_eq_true (by omega : x = 0), Bool.true_or]
 ·obtain rfl : x = l.length := by omega
  exact Kv.Fin.still ⟨by rw [stB, hall]; rfl, rfl⟩
theorem nodup_len : ∀ (n : Nat) (l : List Nat), l.Nodup → (∀ x ∈ l, x < n) → l.length ≤ n
 | 0, l, _, h => by
  cases l with
  | nil => simp
  | cons a l => exact absurd (h a (by simp)) (by omega)
 | n + 1, l, hn, h => by
  have h1 := nodup_len n (l.filter fun x => decide (x ≠ n)) (hn.filter _) fun x hx => by
   simp only [List.mem_filter, decide_eq_true_eq] at hx
   have := h x hx.1
   omega
  have h2 : l.length ≤ (l.filter fun x => decide (x ≠ n)).length + 1 := by
   clear h h1
   induction l with
   | nil => simp
   | cons a l ih =>
    rw [List.nodup_cons] at hn
    by_cases e : a = n
    ·subst e
     have : l.filter (fun x => decide (x ≠ a)) = l := List.filter_eq_self.2 fun x hx => by
      simp only [decide_eq_true_eq]; rintro rfl; exact hn.1 hx
     rw [List.filter_cons_of_neg (by simp), this]; simp
    ·rw [List.filter_cons_of_pos (by simpa using e)]
     have := ih hn.2
     simp only [List.length_cons]; omega
  omega
theorem cpt_mem : ∀ (r : List Int) (x : Int), x ∈ cpt r ↔ x ∈ r
 | [], x => by simp [cpt]
 | [a], x => by simp [cpt]
 | a :: b :: l, x => by
  have ih := cpt_mem (b :: l) x
  rw [cpt_two]
  by_cases e : a = b
  ·rw [if_pos e, ih, e]; simp
  ·rw [if_neg e, List.mem_cons, ih, List.mem_cons (a := x) (b := a)]
theorem cpt_asc : ∀ r : List Int, r.Pairwise (· ≤ ·) → (cpt r).Pairwise (· < ·)
 | [], _ => by simp [cpt]
 | [a], _ => by simp [cpt]
 | a :: b :: l, h => by
  rw [List.pairwise_cons] at h
  have ih := cpt_asc (b :: l) h.2
  rw [cpt_two]
  by_cases e : a = b
  ·rw [if_pos e]; exact ih
  ·rw [if_neg e, List.pairwise_cons]
   refine ⟨fun y hy => ?_, ih⟩
   rw [cpt_mem] at hy
   have h1 := h.1 b (by simp)
   rcases List.mem_cons.1 hy with rfl | hy
   ·omega
   ·have := (List.pairwise_cons.1 h.2).1 y hy
    omega
def asc (n : Nat) (p : List Int) : Prop := ∃ l : List Nat, p = l.map (fun x : Nat => (x : Int)) ∧ l ≠ [] ∧ (∀ x ∈ l, x < n) ∧ l.Pairwise (· < ·)
theorem asc_len {n : Nat} {p : List Int} (h : asc n p) : 1 ≤ p.length ∧ p.length ≤ n := by
 obtain ⟨l, rfl, h0, hl, hp⟩ := h
 rw [List.length_map]
 have : l.Nodup := hp.imp fun h => by omega
 have h2 := nodup_len n l this hl
 refine ⟨?_, h2⟩
 cases l with
 | nil => exact absurd rfl h0
 | cons => simp
theorem toNat_map (l : List Nat) : (l.map fun x : Nat => (x : Int)).map Int.toNat = l := by
 rw [List.map_map]
 conv => rhs; rw [← List.map_id l]
 exact List.map_congr_left fun x _ => by simp
noncomputable def img (f : List Nat) (p : List Int) : List Int := imgs f (p.map Int.toNat)
theorem img_mem {f l : List Nat} {x : Int} : x ∈ imgs f l ↔ ∃ p ∈ l, x = (f.getD p 0 : Int) := by
 unfold imgs
 rw [cpt_mem, (srt_perm _).mem_iff, List.mem_map]
 exact ⟨fun ⟨p, h, e⟩ => ⟨p, h, e.symm⟩, fun ⟨p, h, e⟩ => ⟨p, h, e.symm⟩⟩
theorem img_asc {f : List Nat} {n : Nat} (hf : Ok f n) {p : List Int} (h : asc n p) : asc n (img f p) := by
 obtain ⟨l, rfl, h0, hl, hp⟩ := h
 unfold img
 rw [toNat_map]
 refine ⟨(imgs f l).map Int.toNat, ?_, ?_, fun x hx => ?_, ?_⟩
 ·rw [List.map_map]
  conv => lhs; rw [← List.map_id (imgs f l)]
  refine List.map_congr_left fun x hx => ?_
  obtain ⟨p, _, rfl⟩ := img_mem.1 hx
  simp
 ·intro h
  cases l with
  | nil => exact h0 rfl
  | cons a l =>
   have hm : ((f.getD a 0 : Nat) : Int) ∈ imgs f (a :: l) := img_mem.2 ⟨a, by simp, rfl⟩
   rw [List.map_eq_nil_iff] at h
   rw [h] at hm; cases hm
 ·obtain ⟨y, hy, rfl⟩ := List.mem_map.1 hx
  obtain ⟨p, _, rfl⟩ := img_mem.1 hy
  simpa using hf.get' p
 ·rw [List.pairwise_map]
  refine List.Pairwise.imp_of_mem ?_ (cpt_asc _ (srt_sorted _))
  intro a b ha hb h
  obtain ⟨p, _, rfl⟩ := img_mem.1 (show a ∈ imgs f l from ha)
  obtain ⟨q, _, rfl⟩ := img_mem.1 (show b ∈ imgs f l from hb)
  simpa using h
def bits (p : List Int) : Nat := sb (p.map Int.toNat)
theorem bits_img {f : List Nat} {n : Nat} {p : List Int} (h : asc n p) : bits (img f p) = sb ((p.map Int.toNat).map fun q => f.getD q 0) := by
 obtain ⟨l, rfl, _, _, _⟩ := h
 unfold bits img
 rw [toNat_map]
 refine sb_ext fun x => ?_
 simp only [List.mem_map]
 constructor
 ·rintro ⟨y, hy, rfl⟩
  obtain ⟨p, hp, rfl⟩ := img_mem.1 hy
  exact ⟨p, hp, by simp⟩
 ·rintro ⟨p, hp, rfl⟩
  exact ⟨_, img_mem.2 ⟨p, hp, rfl⟩, by simp⟩
theorem bits_inj {n : Nat} {p q : List Int} (hp : asc n p) (hq : asc n q) : bits p = bits q ↔ p = q := by
 refine ⟨fun h => ?_, fun h => by rw [h]⟩
 obtain ⟨l, rfl, _, _, hl⟩ := hp
 obtain ⟨m, rfl, _, _, hm⟩ := hq
 unfold bits at h
 rw [toNat_map, toNat_map] at h
 have hmem : ∀ x, x ∈ l ↔ x ∈ m := fun x => by
  have h1 := sb_test l x
  have h2 := sb_test m x
  rw [h, h2] at h1
  simpa using h1.symm
 have : l = m := by
  have hs := sorted_uniq (r := l.map fun x : Nat => (x : Int)) (s := m.map fun x : Nat => (x : Int)) (List.Perm.map _ ((List.perm_ext_iff_of_nodup (hl.imp fun h => by omega) (hm.imp fun h => by omega)).2 hmem))
   (by rw [List.pairwise_map]; exact hl.imp fun h => by omega) (by rw [List.pairwise_map]; exact hm.imp fun h => by omega)
  have := congrArg (List.map Int.toNat) hs
  rwa [toNat_map, toNat_map] at this
 rw [this]
theorem stB_asc {l : List Int} {n : Nat} (h : stB l n = true) (h0 : l ≠ []) : asc n l := by
 have hall : ∀ i, i < l.length → stp l n i = true := fun i hi => by
  unfold stB at h
  exact List.all_eq_true.1 h i (by simpa using hi)
 have hb : ∀ i, (hi : i < l.length) → 0 ≤ l[i] ∧ l[i] ≤ (n : Int) - 1 ∧ (0 < i → ∀ h' : i - 1 < l.length, l[i - 1] < l[i]) := fun i hi => by
  have := hall i hi
  simp only [stp, Bool.and_eq_true, Bool.or_eq_true, decide_eq_true_eq] at this
  obtain ⟨h1, h2⟩ := this
  have e : l.getD i 0 = l[i] := by simp [List.getD_eq_getElem?_getD, hi]
  rw [e] at h1 h2
  refine ⟨h1.1, h1.2, fun hp h' => ?_⟩
  rcases h2 with h2 | h2
  ·omega
  ·have e2 : l.getD (i - 1) 0 = l[i - 1] := by simp [List.getD_eq_getElem?_getD, h']
   rwa [e2] at h2
 refine ⟨l.map Int.toNat, ?_, by simpa using h0, fun x hx => ?_, ?_⟩
 ·rw [List.map_map]
  conv => lhs; rw [← List.map_id l]
  refine List.map_congr_left fun x hx => ?_
  obtain ⟨i, hi, rfl⟩ := List.getElem_of_mem hx
  have := hb i hi
  simp only [id_eq, Function.comp_def]; omega
 ·obtain ⟨y, hy, rfl⟩ := List.mem_map.1 hx
  obtain ⟨i, hi, rfl⟩ := List.getElem_of_mem hy
  have := hb i hi
  omega
 ·rw [List.pairwise_map]
  have key : ∀ d i, (hi : i + 1 + d < l.length) → l[i]'(by omega) < l[i + 1 + d] := fun d => by
   induction d with
   | zero =>
    intro i hi
    have := (hb (i + 1) hi).2.2 (by omega) (by omega)
    simpa using this
   | succ d ih =>
    intro i hi
    have h1 := ih i (by omega)
    have h2 := (hb (i + 1 + (d + 1)) hi).2.2 (by omega) (by omega)
    have e : i + 1 + (d + 1) - 1 = i + 1 + d := by omega
    simp only [e] at h2
    omega
  rw [List.pairwise_iff_getElem]
  intro i j hi hj hij
  have h1 := key (j - i - 1) i (by omega)
  have e : i + 1 + (j - i - 1) = j := by omega
  simp only [e] at h1
  have := (hb i hi).1
  omega
end Go.Proofs.YthbbjbfbeaiphaaGreat
end
section
namespace Go.Proofs.YthbbjbfbeaiphaaGreat
open Go.Kv
set_option maxRecDepth 100000
def k59_b0 : KC := (.seq (.ops [oP 14 (.bin .lss (.t 13) (.t 12))])
 (.seq (.cond (.t 14) .skip (.exit 0))
 (.seq (.block 1 (.seq (.ops [mV 15 13, mV 5 15])
 (.seq (.draw [mV 16 0, mV 17 5, oP 18 (.idxS 1 (.t 16) (.t 17)), oP 19 (.load false 1 (.t 18)), mV 20 1, mV 21 5, oP 22 (.idxS 1 (.t 20) (.t 21)), oP 23 (.load false 1 (.t 22)), oP 24 (.bin .neq (.t 19) (.t 23))])
 (.cond (.t 24) (.seq (.ops [oP 4 (.mv (.c (.bool false)))])
 .ret) .skip))))
 (.ops [oP 25 (.bin .add (.t 13) (iC 1)), mV 13 25]))))
def k59 : KC := (.seq (.ops [oP 4 (.mv (.c (.bool false)))])
 (.seq (.seq (.ops [mV 6 0, oP 7 (.len false (.t 6)), mV 8 1, oP 9 (.len false (.t 8)), oP 10 (.bin .neq (.t 7) (.t 9))])
 (.cond (.t 10) (.seq (.ops [oP 4 (.mv (.c (.bool false)))])
 .ret) .skip))
 (.seq (.seq (.ops [mV 11 0, oP 12 (.len false (.t 11)), oP 13 (.mv (iC 0))])
 (.block 0 (.loop k59_b0)))
 (.seq (.ops [oP 4 (.mv (.c (.bool true)))])
 .ret))))
theorem e59 : Ent 59 26 [] [.t 4] k59 := ent Tryz.func59 (by kernel_rfl) (by kernel_rfl) (by kernel_rfl) (fun _ => by kernel_rfl) (by kernel_rfl)
def k186 : KC := (.seq (.ops [oP 2 (.box true (.t 0)), oP 3 (.mv (.c (.bool false)))])
 (.seq (.ops [oP 4 (.fieldA 0 (.t 2)), oP 5 (.load false 1 (.t 4)), oP 6 (.load false 1 (.t 1)), oP 7 (.call (fC 59) [(.t 5), (.t 6)]), mV 3 7])
 .ret))
theorem e186 : Ent 186 8 [2] [.t 3] k186 := ent Tryz.func186 (by kernel_rfl) (by kernel_rfl) (by kernel_rfl) (fun _ => by kernel_rfl) (by kernel_rfl)
def k209_b0 : KC := (.seq (.ops [oP 9 (.bin .lss (.t 8) (.t 7))])
 (.seq (.cond (.t 9) .skip (.exit 0))
 (.seq (.block 1 (.seq (.ops [mV 10 8, mV 5 10])
 (.seq (.ops [mV 11 1, mV 12 0, mV 13 5, oP 14 (.idxS 2 (.t 12) (.t 13)), oP 15 (.load true 2 (.t 14)), oP 16 (.call (.t 11) [(.t 15)])])
 (.cond (.t 16) (.seq (.ops [mV 17 5, mV 4 17])
 .ret) .skip))))
 (.ops [oP 18 (.bin .add (.t 8) (iC 1)), mV 8 18]))))
def k209 : KC := (.seq (.ops [oP 4 (.mv (iC 0))])
 (.seq (.seq (.ops [mV 6 0, oP 7 (.len false (.t 6)), oP 8 (.mv (iC 0))])
 (.block 0 (.loop k209_b0)))
 (.seq (.ops [oP 4 (.mv (iC (-1)))])
 .ret)))
theorem e209 : Ent 209 19 [] [.t 4] k209 := ent Tryz.func209 (by kernel_rfl) (by kernel_rfl) (by kernel_rfl) (fun _ => by kernel_rfl) (by kernel_rfl)
def k185 : KC := (.seq (.ops [oP 4 (.mv (.c (.bool false)))])
 (.seq (.ops [mV 5 0, mV 6 1, oP 7 (.call (fC 209) [(.t 5), (.t 6)]), oP 8 (.bin .geq (.t 7) (iC 0)), mV 4 8])
 .ret))
theorem e185 : Ent 185 9 [] [.t 4] k185 := ent Tryz.func185 (by kernel_rfl) (by kernel_rfl) (by kernel_rfl) (fun _ => by kernel_rfl) (by kernel_rfl)
end Go.Proofs.YthbbjbfbeaiphaaGreat
namespace Go.Proofs.YthbbjbfbeaiphaaGreat
open Go.Kv
set_option linter.unusedVariables false
set_option linter.unusedSimpArgs false
attribute [local irreducible] ACall PCall KL
abbrev Met := List Int × List Int
def mcell (m : Met) : PV := .agg [.list (ints m.1), .list (ints m.2)]
def mets (l : List Met) : List PV := l.map mcell
theorem subC2 (a b : PV) : subC [a, b] 0 2 = [a, b] := by unfold subC; first | rfl | (split <;> rfl) | simp
theorem mcell_sub (m : Met) : PV.agg (subC (mcell m).cs 0 2) = mcell m := by
 show PV.agg (subC [_, _] 0 2) = _
 rw [subC2]; rfl
@[simp] theorem mets_length (l : List Met) : (mets l).length = l.length := by simp [mets]
theorem mets_get {l : List Met} {i : Nat} (h : i < l.length) : (mets l)[i]? = some (mcell l[i]) := by simp [mets, h]
instance (m : Met) : Still (mcell m) := by unfold mcell; infer_instance
instance (l : List Met) : Still (.list (mets l)) := Still.list fun x hx => by
 obtain ⟨m, _, rfl⟩ := List.mem_map.1 hx
 refine ⟨inferInstance, fun c hc => ?_⟩
 simp only [mcell, PV.cs, List.mem_cons, List.mem_singleton, List.not_mem_nil, or_false] at hc
 rcases hc with rfl | rfl <;> exact upto_ints 0 _
theorem p59 (xs ys : List Int) (hl : ys.length ≤ 4294967296) (hl' : xs.length ≤ 4294967296) : Pure Tryz.prog 59 [.list (ints xs), .list (ints ys)] (.bool (decide (xs = ys))) := by
 refine e59 (by simp) fun _ _ => ?_
 simp only [k59, argEnv, go_sem]
 refine ⟨fun h => ?_, fun h => ?_⟩
 ·exact Kv.Fin.still ⟨by rw [decide_eq_false (fun e => h (by rw [e]))], rfl⟩
 ·have hxy : xs.length = ys.length := by omega
  refine KL_ind k59_b0.eq_1 (fun x : Nat => [(0, .list (ints xs)), (1, .list (ints ys)), (12, .int .i64 xs.length), (13, .int .i64 x)]) (fun _ => []) (fun x => x ≤ xs.length ∧ xs.take x = ys.take x) (fun x => xs.length - x) [0, 1, 12, 13] 0 (by rfl) rfl ⟨Nat.zero_le _, by simp⟩ fun x ⟨hx, he⟩ ih => ?_
  try simp only [go_sem]
  refine ⟨fun h1 => ?_, fun h1 => ?_⟩
  ·have h2 : x < xs.length := by omega
   have h3 : x < ys.length := by omega
   refine ⟨by omega, fun _ => ⟨by omega, fun _ => ⟨fun h4 => ?_, fun h4 => ⟨by omega, ?_⟩⟩⟩⟩
   ·rw [getD_eq h2, getD_eq h3] at h4
    exact Kv.Fin.still ⟨by rw [decide_eq_false]; rintro rfl; exact h4 rfl, rfl⟩
   ·rw [getD_eq h2, getD_eq h3] at h4
    refine ih (x + 1) ⟨by omega, ?_⟩ (by omega) _ _ (by rfl) rfl
    rw [List.take_succ_eq_append_getElem h2, List.take_succ_eq_append_getElem h3, he, h4]
  ·obtain rfl : x = xs.length := by omega
   rw [List.take_length, hxy, List.take_length] at he
   exact Kv.Fin.still ⟨by rw [decide_eq_true he], rfl⟩
theorem p186 (m : Met) (nx : List Int) (hl : nx.length ≤ 4294967296) (hl' : m.1.length ≤ 4294967296) : Pure Tryz.prog 186 [mcell m, .fptr [.list (ints nx)] 0] (.bool (decide (m.1 = nx))) := by
 unfold mcell
 refine e186 (by simp) fun _ _ => ?_
 simp only [k186, argEnv, go_sem]
 refine (p59 m.1 nx hl hl').go ?_
 try simp only [go_sem]
 exact Kv.Fin.still ⟨rfl, rfl⟩
theorem p209 (l : List Met) (hl : l.length ≤ 4294967296) (fid : FuncId) (caps : List PV) [hc : StillL caps] (p : Met → Bool) (hp : ∀ x ∈ l, Pure Tryz.prog fid (mcell x :: caps) (.bool (p x))) :
  Pure Tryz.prog 209 [.list (mets l), .fn (.func fid) [] caps] (.int .i64 (idx p l)) := by
 have hlen := mets_length l
 refine e209 (by simp) fun _ _ => ?_
 simp only [k209, argEnv, hlen, go_sem]
 refine KL_ind k209_b0.eq_1 (fun x : Nat => [(0, .list (mets l)), (1, .fn (.func fid) [] caps), (7, .int .i64 l.length), (8, .int .i64 x)]) (fun _ => []) (fun x => x ≤ l.length ∧ (l.take x).any p = false) (fun x => l.length - x) [0, 1, 7, 8] 0 rfl rfl ⟨Nat.zero_le _, by simp⟩ fun x ⟨hx, hall⟩ ih => ?_
 try simp only [hlen, go_sem]
 refine ⟨fun h1 => ?_, fun h1 => ?_⟩
 ·have h2 : x < l.length := by omega
  have hg := mets_get h2
  have hpx := hp _ (List.getElem_mem h2)
  refine ⟨h1, fun y hy => ?_⟩
  rw [hg] at hy; cases hy
  refine ⟨rfl, Nat.le_refl _, ?_⟩
  rw [mcell_sub]
  refine hpx.go ?_
  try simp only [go_sem]
  refine ⟨fun h3 => ?_, fun h3 => ⟨by omega, ?_⟩⟩
  ·exact Kv.Fin.now ⟨by rw [idx_some h2 hall h3], rfl⟩
  ·refine ih (x + 1) ⟨by omega, ?_⟩ (by omega) _ _ rfl rfl
   rw [any_take_succ _ h2, hall, h3]; rfl
 ·obtain rfl : x = l.length := by omega
  rw [List.take_length] at hall
  exact Kv.Fin.now ⟨by rw [idx_none hall], rfl⟩
theorem p185 (l : List Met) (hl : l.length ≤ 4294967296) (fid : FuncId) (caps : List PV) [hc : StillL caps] (p : Met → Bool) (hp : ∀ x ∈ l, Pure Tryz.prog fid (mcell x :: caps) (.bool (p x))) :
  Pure Tryz.prog 185 [.list (mets l), .fn (.func fid) [] caps] (.bool (l.any p)) := by
 refine e185 (by simp) fun _ _ => ?_
 simp only [k185, argEnv, go_sem]
 refine (p209 l hl fid caps p hp).go ?_
 try simp only [go_sem]
 exact Kv.Fin.still ⟨by rw [idx_nonneg], rfl⟩
end Go.Proofs.YthbbjbfbeaiphaaGreat
end
section
namespace Go.Proofs.YthbbjbfbeaiphaaGreat
open Go.Kv
set_option linter.unusedVariables false
set_option linter.unusedSimpArgs false
attribute [local irreducible] ACall PCall KL
def Wd (σ : Heap) (A : Nat → Prop) (w : PV) (l : List Int) : Prop := (w = .nils ∧ l = []) ∨ ∃ id ver, w = .ref id ver 0 l.length ∧ σ[id]? = some (.arr ver 2 1 (ints l)) ∧ ¬ A id
theorem Wd.imm {σ : Heap} {A : Nat → Prop} {w : PV} {l : List Int} (h : Wd σ A w l) : Imm σ w (.list (ints l)) := by
 rcases h with ⟨rfl, rfl⟩ | ⟨id, ver, rfl, h, _⟩
 ·exact .nils
 ·exact .refi h
theorem Wd.keep {σ σ' : Heap} {A A' : Nat → Prop} {w : PV} {l : List Int} (h : Wd σ A w l) (hk : ∀ id, id < σ.length → ¬ A id → σ'[id]? = σ[id]? ∧ ¬ A' id) : Wd σ' A' w l := by
 rcases h with ⟨rfl, rfl⟩ | ⟨id, ver, rfl, h, ha⟩
 ·exact .inl ⟨rfl, rfl⟩
 ·have := hk id (List.getElem?_eq_some_iff.1 h).1 ha
  exact .inr ⟨id, ver, rfl, this.1.trans h, this.2⟩
theorem Wd.cs {σ : Heap} {A : Nat → Prop} {w : PV} {l : List Int} (h : Wd σ A w l) : w.cs = [w] ∧ w.ok = true := by
 rcases h with ⟨rfl, rfl⟩ | ⟨id, ver, rfl, h, ha⟩ <;> exact ⟨rfl, rfl⟩
end Go.Proofs.YthbbjbfbeaiphaaGreat
end
