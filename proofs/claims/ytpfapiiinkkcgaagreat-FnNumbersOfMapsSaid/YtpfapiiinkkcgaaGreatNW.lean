/- The answers of both sides, as the law of numbers looks at them. -/
import Derived.Test.YtpfapiiinkkcgaaGreatDQ
import Derived.Test.YtpfapiiinkkcgaaGreatNV
import Derived.Test.YtpfapiiinkkcgaaGreatRD
import Derived.Test.YtpfapiiinkkcgaaGreatCH
import Derived.Test.YtpfapiiinkkcgaaGreatDN
namespace Go.Proofs.YtpfapiiinkkcgaaGreat
open Go.Kv
set_option linter.unusedVariables false
set_option linter.unusedSimpArgs false
attribute [local irreducible] ACall PCall KL
theorem cb_len : ∀ n, n < 13 → (cbr n).length ≤ 13 ∧ (cbf n (n + 1)).length ≤ 14 := by decide +kernel
theorem rk_loc (n : Int) : ∃ (w : PV) (r : Int), Still w ∧ Pure Tryz.prog 8 [.int .i64 n] (.tup [w, .int .i64 r]) ∧ Pure Tryz.prog 9 [.int .i64 n] (.tup [w, .int .i64 r]) ∧ Pure Tryz.prog 14 [w, w] (.bool true) ∧
    ((r = 0 ∧ ∃ k : Nat, n = k ∧ 1 ≤ k ∧ k ≤ 12 ∧ w = .list (ints (cbr k))) ∨ (r = 2 ∧ w = .nils ∧ ¬ (1 ≤ n ∧ n ≤ 12))) := by
  by_cases h : 1 ≤ n ∧ n ≤ 12
  · obtain ⟨k, rfl⟩ : ∃ k : Nat, n = k := ⟨n.toNat, by omega⟩
    have hk : 1 ≤ k ∧ k ≤ 12 := ⟨by omega, by omega⟩
    have hl := (cb_len k (by omega)).1
    exact ⟨.list (ints (cbr k)), 0, inferInstance, NewIO.frozen (NewI.own (p8_in k hk)), NewIO.frozen (NewI.own (p9_in k hk)), p14 _ (by omega), .inl ⟨rfl, k, rfl, hk.1, hk.2, rfl⟩⟩
  · exact ⟨.nils, 2, inferInstance, p8_out n h, p9_out n h, p14n, .inr ⟨rfl, rfl, h⟩⟩
theorem fx_loc (n : Int) : ∃ (w : PV) (r : Int), Still w ∧ Pure Tryz.prog 10 [.int .i64 n] (.tup [w, .int .i64 r]) ∧ Pure Tryz.prog 11 [.int .i64 n] (.tup [w, .int .i64 r]) ∧ Pure Tryz.prog 14 [w, w] (.bool true) ∧
    (∀ k : Nat, n = k → 1 ≤ k → k ≤ 12 → w = .list (ints (cbf k (k + 1)))) := by
  by_cases h : 1 ≤ n ∧ n ≤ 12
  · obtain ⟨k, rfl⟩ : ∃ k : Nat, n = k := ⟨n.toNat, by omega⟩
    have hk : 1 ≤ k ∧ k ≤ 12 := ⟨by omega, by omega⟩
    have hl := (cb_len k (by omega)).2
    exact ⟨.list (ints (cbf k (k + 1))), 0, inferInstance, NewIO.frozen (NewI.own (p10_in k hk)), NewIO.frozen (NewI.own (p11_in k hk)), p14 _ (by omega), fun j hj _ _ => by
      obtain rfl : k = j := by omega
      rfl⟩
  · exact ⟨.nils, 2, inferInstance, p10_out n h, p11_out n h, p14n, fun k hk h1 h2 => absurd ⟨by omega, by omega⟩ h⟩
theorem sh_loc (k : Int) : ∃ a r : Int, Pure Tryz.prog 17 [.int .i64 k] (.tup [.int .i64 a, .int .i64 r]) ∧ Pure Tryz.prog 18 [.int .i64 k] (.tup [.int .i64 a, .int .i64 r]) := by
  by_cases h : 1 ≤ k ∧ k ≤ 5
  · obtain ⟨n, rfl⟩ : ∃ n : Nat, k = n := ⟨k.toNat, by omega⟩
    exact ⟨_, _, p17_in n (by omega) (by omega), p18_in n (by omega) (by omega)⟩
  · exact ⟨_, _, p17_out k h, p18_out k h⟩
theorem hb_loc (m : List Int) (h6 : m.length = 6) : ∃ (w v : PV) (r : Int), Still w ∧ Still v ∧ Pure Tryz.prog 20 [.agg (ints m)] (.tup [w, .int .i64 r]) ∧ Pure Tryz.prog 21 [.agg (ints m)] (.tup [w, .int .i64 r]) ∧ Pure Tryz.prog 14 [w, w] (.bool true) ∧
    Pure Tryz.prog 22 [.agg (ints m)] (.tup [v, .int .i64 r]) ∧ Pure Tryz.prog 23 [.agg (ints m)] (.tup [v, .int .i64 r]) ∧ Pure Tryz.prog 14 [v, v] (.bool true) ∧
    ((r = 0 ∧ ∃ f n, Ok f n ∧ m = mp f ∧ w = .list (ints (bsl f n n)) ∧ v = .list (ints (htl f n n))) ∨ r = 1) := by
  cases hm : isM m with
  | true =>
    obtain ⟨f, n, hf, rfl⟩ := isM_ok h6 hm
    have h5 := hf.le
    exact ⟨.list (ints (bsl f n n)), .list (ints (htl f n n)), 0, inferInstance, inferInstance, NewIO.frozen (NewI.own (p20_in f n hf)), NewIO.frozen (NewI.own (p21_in f n hf)), p14 _ (by simp; omega), NewIO.frozen (NewI.own (p22_in f n hf)), NewIO.frozen (NewI.own (p23_in f n hf)), p14 _ (by simp; omega), .inl ⟨rfl, f, n, hf, rfl, rfl, rfl⟩⟩
  | false => exact ⟨.nils, .nils, 1, inferInstance, inferInstance, p20_out m h6 hm, p21_out m h6 hm, p14n, p22_out m h6 hm, p23_out m h6 hm, p14n, .inr rfl⟩
end Go.Proofs.YtpfapiiinkkcgaaGreat
