/- Bits: shifts, or, and, of natural numbers. -/
import Derived.Test.YtkdkdkkimieieaaK18
namespace Go.Kv
set_option linter.unusedVariables false
set_option linter.unusedSimpArgs false
variable {K : PV → Prop}
theorem wrap_i64 {n : Nat} (h : n < 9223372036854775808) : IntKind.i64.wrap (n : Int) = n := by
  have h1 : (n : Int) % 2 ^ 64 = n := by omega
  have h2 : ¬ ((n : Int) % 2 ^ 64 ≥ 2 ^ (64 - 1)) := by rw [h1]; omega
  unfold IntKind.wrap
  have h3 : (IntKind.i64.signed && decide ((n : Int) % 2 ^ IntKind.i64.bits ≥ 2 ^ (IntKind.i64.bits - 1))) = false := by
    rw [Bool.and_eq_false_iff]; exact .inr (decide_eq_false h2)
  simp only [h3]
  exact h1
theorem ofInt_nat (n : Nat) : (BitVec.ofInt 64 (n : Int)).toNat = n % 2 ^ 64 := by simp
theorem p62 {n : Nat} (h : n < 2 ^ 62) : n % 2 ^ 64 = n := Nat.mod_eq_of_lt (Nat.lt_trans h (by decide))
theorem aBin_or {a b : Nat} (ha : a < 2 ^ 62) (hb : b < 2 ^ 62) : aBin .or (.int .i64 (a : Int)) (.int .i64 (b : Int)) K = K (.int .i64 ((a ||| b : Nat) : Int)) := by
  have h3 := Nat.or_lt_two_pow ha hb
  have e : IntKind.i64.wrap ((BitVec.ofInt IntKind.i64.bits (a : Int) ||| BitVec.ofInt IntKind.i64.bits (b : Int)).toNat : Int) = ((a ||| b : Nat) : Int) := by
    have : (BitVec.ofInt IntKind.i64.bits (a : Int) ||| BitVec.ofInt IntKind.i64.bits (b : Int)).toNat = a ||| b := by
      show (BitVec.ofInt 64 (a : Int) ||| BitVec.ofInt 64 (b : Int)).toNat = a ||| b
      rw [BitVec.toNat_or, ofInt_nat, ofInt_nat, p62 ha, p62 hb]
    rw [this]; exact wrap_i64 (Nat.lt_trans h3 (by decide))
  rw [aBin_int]
  show K _ = _
  rw [e]
theorem aBin_and {a b : Nat} (ha : a < 2 ^ 62) (hb : b < 2 ^ 62) : aBin .and (.int .i64 (a : Int)) (.int .i64 (b : Int)) K = K (.int .i64 ((a &&& b : Nat) : Int)) := by
  have h3 : a &&& b < 2 ^ 62 := Nat.lt_of_le_of_lt Nat.and_le_left ha
  have e : IntKind.i64.wrap ((BitVec.ofInt IntKind.i64.bits (a : Int) &&& BitVec.ofInt IntKind.i64.bits (b : Int)).toNat : Int) = ((a &&& b : Nat) : Int) := by
    have : (BitVec.ofInt IntKind.i64.bits (a : Int) &&& BitVec.ofInt IntKind.i64.bits (b : Int)).toNat = a &&& b := by
      show (BitVec.ofInt 64 (a : Int) &&& BitVec.ofInt 64 (b : Int)).toNat = a &&& b
      rw [BitVec.toNat_and, ofInt_nat, ofInt_nat, p62 ha, p62 hb]
    rw [this]; exact wrap_i64 (Nat.lt_trans h3 (by decide))
  rw [aBin_int]
  show K _ = _
  rw [e]
theorem aBin_and1 {a : Nat} (ha : a < 2 ^ 62) : aBin .and (.int .i64 (a : Int)) (.int .i64 1) K = K (.int .i64 ((a &&& 1 : Nat) : Int)) := aBin_and (b := 1) ha (by decide)
theorem aBin_shl1 {k : IntKind} {p : Nat} (h : p ≤ 61) : aBin .shl (.int .i64 1) (.int k (p : Int)) K = K (.int .i64 ((2 ^ p : Nat) : Int)) := by
  have e : IntKind.i64.wrap (1 * 2 ^ ((p : Int)).toNat) = ((2 ^ p : Nat) : Int) := by
    have : (1 : Int) * 2 ^ ((p : Int)).toNat = ((2 ^ p : Nat) : Int) := by simp
    rw [this]; exact wrap_i64 (Nat.lt_of_le_of_lt (Nat.pow_le_pow_right (by omega) h) (by decide))
  simp only [aBin, aInt]
  rw [e]
  simp only [eq_iff_iff]
  exact ⟨fun h => h.2.2, fun h' => ⟨fun h => absurd rfl h, ⟨by omega, by show (p : Int) ≤ 64; omega⟩, h'⟩⟩
theorem aBin_shr {k : IntKind} {s p : Nat} (h : p ≤ 63) : aBin .shr (.int .i64 (s : Int)) (.int k (p : Int)) K = K (.int .i64 ((s >>> p : Nat) : Int)) := by
  have e : (s : Int).fdiv (2 ^ ((p : Int)).toNat) = ((s >>> p : Nat) : Int) := by
    rw [Nat.shiftRight_eq_div_pow, Int.fdiv_eq_ediv_of_nonneg _ (Int.pow_nonneg (by omega))]
    simp
  simp only [aBin, aInt]
  rw [e]
  simp only [eq_iff_iff]
  exact ⟨fun h => h.2.2, fun h' => ⟨fun _ h => absurd rfl h, ⟨by omega, by show (p : Int) ≤ 64; omega⟩, h'⟩⟩
theorem aConv_u64 {k : IntKind} {p : Nat} (h : p ≤ 61) : aConv .u64 (.int k (p : Int)) K = K (.int .u64 (p : Int)) := by
  have e : IntKind.u64.wrap (p : Int) = p := by
    simp only [IntKind.wrap, IntKind.signed, IntKind.bits, Bool.false_and, Bool.false_eq_true, if_false]
    omega
  rw [aConv_int]
  show K _ = _
  rw [e]
theorem shr_le {s p : Nat} (h : s < 2 ^ 62) : s >>> p < 2 ^ 62 := Nat.lt_of_le_of_lt (by rw [Nat.shiftRight_eq_div_pow]; exact Nat.div_le_self _ _) h
theorem bit_one {s q : Nat} : (((s >>> q &&& 1 : Nat) : Int) = 1) = (s.testBit q = true) := by
  have h : s >>> q &&& 1 = (s.testBit q).toNat := by
    rw [Nat.and_one_is_mod, Nat.shiftRight_eq_div_pow, Nat.toNat_testBit]
  rw [h]
  cases s.testBit q <;> simp
theorem bit_zero {s q : Nat} : (((s >>> q &&& 1 : Nat) : Int) = 0) = (s.testBit q = false) := by
  have h : s >>> q &&& 1 = (s.testBit q).toNat := by
    rw [Nat.and_one_is_mod, Nat.shiftRight_eq_div_pow, Nat.toNat_testBit]
  rw [h]
  cases s.testBit q <;> simp
end Go.Kv
