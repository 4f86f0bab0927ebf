/- Several texts of this session as one, less what the claim does not need. -/
import Derived.Test.YthbbjbfbeaiphaaGreatCb
import Derived.Test.YthbbjbfbeaiphaaGreatZ6
import Derived.Test.YthbbjbfbeaiphaaGreatFC
import Derived.Test.YthbbjbfbeaiphaaGreatZ13
import Derived.Test.YthbbjbfbeaiphaaGreatZ11
import Derived.Test.YthbbjbfbeaiphaaGreatZ12
import Derived.Test.YthbbjbfbeaiphaaGreatZ10
section
namespace Go.Proofs.YthbbjbfbeaiphaaGreat
open Go.Kv
set_option maxRecDepth 100000
def k161 : KC := (.draw [mV 4 0, mV 5 1, oP 6 (.bin .quo (.t 5) (iC 64)), oP 7 (.nilck (.t 4)), oP 8 (.idxA 5 1 (.t 7) (.t 6)), oP 9 (.load false 1 (.t 8)), mV 10 1, oP 11 (.bin .rem (.t 10) (iC 64)), oP 12 (.bin .shl (.c (.int .u64 1)) (.t 11)), oP 13 (.bin .or (.t 9) (.t 12)), oP 14 (.nilck (.t 4)), oP 15 (.idxA 5 1 (.t 14) (.t 6)), ⟨none, none, .store 1 (.t 15) (.t 13)⟩])
theorem e161 : Ent 161 16 [] [] k161 := ent Tryz.func161 (by kernel_rfl) (by kernel_rfl) (by kernel_rfl) (fun _ => by kernel_rfl) (by kernel_rfl)
def k162 : KC := (.seq (.ops [oP 4 (.mv (.c (.bool false)))])
 (.seq (.ops [mV 5 0, mV 6 1, oP 7 (.bin .quo (.t 6) (iC 64)), oP 8 (.nilck (.t 5)), oP 9 (.idxA 5 1 (.t 8) (.t 7)), oP 10 (.load false 1 (.t 9)), mV 11 1, oP 12 (.bin .rem (.t 11) (iC 64)), oP 13 (.bin .shr (.t 10) (.t 12)), oP 14 (.bin .and (.t 13) (.c (.int .u64 1))), oP 15 (.bin .eql (.t 14) (.c (.int .u64 1))), mV 4 15])
 .ret))
theorem e162 : Ent 162 16 [] [.t 4] k162 := ent Tryz.func162 (by kernel_rfl) (by kernel_rfl) (by kernel_rfl) (fun _ => by kernel_rfl) (by kernel_rfl)
def k163_b0 : KC := (.seq (.ops [oP 6 (.bin .lss (.t 5) (iC 5))])
 (.seq (.cond (.t 6) .skip (.exit 0))
 (.seq (.block 1 (.seq (.ops [mV 7 5, mV 4 7])
 (.draw [mV 8 0, mV 9 4, oP 10 (.nilck (.t 8)), oP 11 (.idxA 5 1 (.t 10) (.t 9)), oP 12 (.load false 1 (.t 11)), mV 13 4, oP 14 (.idxA 5 1 (.t 3) (.t 13)), oP 15 (.load false 1 (.t 14)), oP 16 (.bin .or (.t 12) (.t 15)), oP 17 (.nilck (.t 8)), oP 18 (.idxA 5 1 (.t 17) (.t 9)), ⟨none, none, .store 1 (.t 18) (.t 16)⟩])))
 (.ops [oP 19 (.bin .add (.t 5) (iC 1)), mV 5 19]))))
def k163 : KC := (.seq (.ops [oP 3 (.box true (.t 1))])
 (.seq (.ops [oP 5 (.mv (iC 0))])
 (.block 0 (.loop k163_b0))))
theorem e163 : Ent 163 20 [3] [] k163 := ent Tryz.func163 (by kernel_rfl) (by kernel_rfl) (by kernel_rfl) (fun _ => by kernel_rfl) (by kernel_rfl)
def k116_b0 : KC := (.seq (.ops [oP 6 (.bin .lss (.t 5) (iC 5))])
 (.seq (.cond (.t 6) .skip (.exit 0))
 (.seq (.block 1 (.seq (.ops [mV 7 5, mV 4 7])
 (.draw [mV 8 0, mV 9 4, oP 10 (.nilck (.t 8)), oP 11 (.idxA 5 1 (.t 10) (.t 9)), oP 12 (.load false 1 (.t 11)), mV 13 4, oP 14 (.idxA 5 1 (.t 3) (.t 13)), oP 15 (.load false 1 (.t 14)), oP 16 (.bin .and (.t 12) (.t 15)), oP 17 (.nilck (.t 8)), oP 18 (.idxA 5 1 (.t 17) (.t 9)), ⟨none, none, .store 1 (.t 18) (.t 16)⟩])))
 (.ops [oP 19 (.bin .add (.t 5) (iC 1)), mV 5 19]))))
def k116 : KC := (.seq (.ops [oP 3 (.box true (.t 1))])
 (.seq (.ops [oP 5 (.mv (iC 0))])
 (.block 0 (.loop k116_b0))))
theorem e116 : Ent 116 20 [3] [] k116 := ent Tryz.func116 (by kernel_rfl) (by kernel_rfl) (by kernel_rfl) (fun _ => by kernel_rfl) (by kernel_rfl)
end Go.Proofs.YthbbjbfbeaiphaaGreat
namespace Go.Proofs.YthbbjbfbeaiphaaGreat
open Go.Kv
set_option linter.unusedVariables false
set_option linter.unusedSimpArgs false
attribute [local irreducible] ACall PCall KL
def wd (S k : Nat) : Nat := (S >>> (64 * k)) % 2 ^ 64
theorem wd_lt (S k : Nat) : wd S k < 18446744073709551616 := Nat.mod_lt _ (by decide)
theorem wd_bit (S k j : Nat) : (wd S k).testBit j = (decide (j < 64) && S.testBit (64 * k + j)) := by
 unfold wd; rw [Nat.testBit_mod_two_pow, Nat.testBit_shiftRight]
theorem wd_or (S T k : Nat) : wd (S ||| T) k = wd S k ||| wd T k := Nat.eq_of_testBit_eq fun j => by
 simp only [wd_bit, Nat.testBit_or]
 cases decide (j < 64) <;> simp
theorem wd_and (S T k : Nat) : wd (S &&& T) k = wd S k &&& wd T k := Nat.eq_of_testBit_eq fun j => by
 simp only [wd_bit, Nat.testBit_and]
 cases decide (j < 64) <;> simp
theorem wd_pow (p k : Nat) : wd (2 ^ p) k = if k = p / 64 then 2 ^ (p % 64) else 0 := Nat.eq_of_testBit_eq fun j => by
 rw [wd_bit, Nat.testBit_two_pow]
 split
 ·rw [Nat.testBit_two_pow]
  by_cases h : j = p % 64
  ·subst h
   have : p = 64 * k + p % 64 := by omega
   simp [Nat.mod_lt, ← this]
  ·have h1 : ¬ p = 64 * k + j ∨ ¬ j < 64 := by omega
   have h2 : ¬ p % 64 = j := fun e => h e.symm
   rcases h1 with h1 | h1 <;> simp [h1, h2]
 ·rw [Nat.zero_testBit]
  have h1 : ¬ p = 64 * k + j ∨ ¬ j < 64 := by omega
  rcases h1 with h1 | h1 <;> simp [h1]
def wset (S : Nat) : List PV := (List.range 5).map fun k => PV.int .u64 (wd S k)
theorem wset_len (S : Nat) : (wset S).length = 5 := by simp [wset]
theorem wset_get (S : Nat) {k : Nat} (h : k < 5) : (wset S)[k]? = some (.int .u64 (wd S k)) := by simp [wset, h]
theorem wset_zero : wset 0 = [.int .u64 0, .int .u64 0, .int .u64 0, .int .u64 0, .int .u64 0] := by simp [wset, List.range_succ, wd]
theorem wset_set {S : Nat} {F : Nat → Nat} {k : Nat} (h : k < 5) (x : Nat) : ((List.range 5).map fun i => PV.int .u64 (F i)).set k (.int .u64 x) = (List.range 5).map fun i => PV.int .u64 ((if i = k then x else F i : Nat) : Int) := by
 apply List.ext_getElem?
 intro i
 rw [List.getElem?_set]
 by_cases e : k = i
 ·subst e
  simp [h]
 ·have e' : ¬ i = k := fun x => e x.symm
  by_cases h5 : i < 5 <;> simp [e, e', h5]
theorem wset_put {S p : Nat} (hp : p < 320) : (wset S).set (p / 64) (.int .u64 ((wd S (p / 64) ||| 2 ^ (p % 64) : Nat) : Int)) = wset (S ||| 2 ^ p) := by
 unfold wset
 rw [wset_set (S := S) (by omega)]
 apply List.map_congr_left
 intro i _
 rw [wd_or, wd_pow]
 by_cases h : i = p / 64
 ·subst h; simp
 ·simp [h]
theorem aOrU {a b : Nat} (ha : a < 18446744073709551616) (hb : b < 18446744073709551616) (K : PV → Prop) : aInt .or .u64 (a : Int) (b : Int) K = K (.int .u64 ((a ||| b : Nat) : Int)) := by
 have h1 : (BitVec.ofInt 64 (a : Int) ||| BitVec.ofInt 64 (b : Int)).toNat = a ||| b := by
  rw [BitVec.toNat_or, BitVec.ofInt_natCast, BitVec.ofInt_natCast, BitVec.toNat_ofNat, BitVec.toNat_ofNat, Nat.mod_eq_of_lt ha, Nat.mod_eq_of_lt hb]
 show K (.int .u64 (IntKind.u64.wrap ((BitVec.ofInt 64 (a : Int) ||| BitVec.ofInt 64 (b : Int)).toNat : Int))) = _
 rw [h1, wrapU64 (Nat.or_lt_two_pow (n := 64) ha hb)]
theorem aAndU {a b : Nat} (ha : a < 18446744073709551616) (hb : b < 18446744073709551616) (K : PV → Prop) : aInt .and .u64 (a : Int) (b : Int) K = K (.int .u64 ((a &&& b : Nat) : Int)) := by
 have h1 : (BitVec.ofInt 64 (a : Int) &&& BitVec.ofInt 64 (b : Int)).toNat = a &&& b := by
  rw [BitVec.toNat_and, BitVec.ofInt_natCast, BitVec.ofInt_natCast, BitVec.toNat_ofNat, BitVec.toNat_ofNat, Nat.mod_eq_of_lt ha, Nat.mod_eq_of_lt hb]
 show K (.int .u64 (IntKind.u64.wrap ((BitVec.ofInt 64 (a : Int) &&& BitVec.ofInt 64 (b : Int)).toNat : Int))) = _
 rw [h1, wrapU64 (Nat.lt_of_le_of_lt Nat.and_le_left ha)]
theorem aShlU {r : Nat} (hr : r < 64) (K : PV → Prop) : aInt .shl .u64 1 (r : Int) K = K (.int .u64 ((2 ^ r : Nat) : Int)) := by
 have h1 : (2 : Nat) ^ r < 18446744073709551616 := Nat.lt_of_lt_of_le (Nat.pow_lt_pow_right (by decide) hr) (by decide)
 have h2 : (1 : Int) * 2 ^ (r : Int).toNat = ((2 ^ r : Nat) : Int) := by rw [Int.one_mul, Int.toNat_natCast]; simp
 have h3 : (0 ≤ (r : Int) ∧ (r : Int) ≤ (64 : Nat)) = True := eq_true (by omega)
 show ((0 ≤ (r : Int) ∧ (r : Int) ≤ (64 : Nat)) ∧ K (.int .u64 (IntKind.u64.wrap (1 * 2 ^ (r : Int).toNat)))) = _
 rw [h2, wrapU64 h1, h3, true_and]
theorem aShrU {a r : Nat} (hr : r < 64) (K : PV → Prop) : aInt .shr .u64 (a : Int) (r : Int) K = K (.int .u64 ((a >>> r : Nat) : Int)) := by
 have h2 : (a : Int).fdiv (2 ^ (r : Int).toNat) = ((a >>> r : Nat) : Int) := by
  rw [Int.toNat_natCast, Nat.shiftRight_eq_div_pow, Int.fdiv_eq_ediv_of_nonneg _ (by exact Int.le_of_lt (Int.pow_pos (by decide)))]
  simp
 have h3 : (0 ≤ (r : Int) ∧ (r : Int) ≤ (64 : Nat)) = True := eq_true (by omega)
 rw [aInt_shrU, h2, h3, true_and]
theorem aShlB {r : Nat} (hr : r < 64) (K : PV → Prop) : aBin .shl (.int .u64 1) (.int .i64 (r : Int)) K = K (.int .u64 ((2 ^ r : Nat) : Int)) := by
 have h : aBin .shl (.int .u64 1) (.int .i64 (r : Int)) K = ((BinOp.shl ≠ .shl → BinOp.shl ≠ .shr → IntKind.u64 = .i64) ∧ aInt .shl .u64 1 (r : Int) K) := Eq.trans rfl rfl
 rw [h, aShlU hr]
 exact propext ⟨fun h => h.2, fun h => ⟨fun h0 => absurd rfl h0, h⟩⟩
theorem aShrB {a r : Nat} (hr : r < 64) (K : PV → Prop) : aBin .shr (.int .u64 (a : Int)) (.int .i64 (r : Int)) K = K (.int .u64 ((a >>> r : Nat) : Int)) := by
 have h : aBin .shr (.int .u64 (a : Int)) (.int .i64 (r : Int)) K = ((BinOp.shr ≠ .shl → BinOp.shr ≠ .shr → IntKind.u64 = .i64) ∧ aInt .shr .u64 (a : Int) (r : Int) K) := Eq.trans rfl rfl
 rw [h, aShrU hr]
 exact propext ⟨fun h => h.2, fun h => ⟨fun _ h0 => absurd rfl h0, h⟩⟩
theorem wset_ok (S : Nat) : (wset S).all PV.ok = true := by simp [wset, PV.ok]
theorem set_self {α : Type} {l : List α} {i : Nat} {a : α} (h : l[i]? = some a) : l.set i a = l := by
 apply List.ext_getElem?
 intro j
 rw [List.getElem?_set]
 split
 ·rename_i e
  subst e
  have := (List.getElem?_eq_some_iff.1 h).1
  rw [if_pos this, h]
 ·rfl
theorem has_bit (S p : Nat) : decide (((wd S (p / 64)) >>> (p % 64) &&& 1 : Nat) = 1) = S.testBit p := by
 have h1 := wd_bit S (p / 64) (p % 64)
 rw [show 64 * (p / 64) + p % 64 = p by omega, decide_eq_true (show p % 64 < 64 by omega), Bool.true_and] at h1
 rw [← h1, Nat.testBit_eq_decide_div_mod_eq, Nat.shiftRight_eq_div_pow, Nat.and_one_is_mod]
theorem p161 {σ : Heap} {id ver i S : Nat} {e : TypeId} {xs : List PV} (hid : σ[id]? = some (.arr ver e 5 xs)) (hx : xs[i]? = some (.agg (wset S))) (p : Nat) (hp : p < 320) {K : PV → Heap → Prop} (hK : K (.tup []) (σ.set id (.arr ver e 5 (xs.set i (.agg (wset (S ||| 2 ^ p))))))) : ACall Tryz.prog 161 [.eptr id ver i 0, .int .i64 p] σ K := by
 have hil := (List.getElem?_eq_some_iff.1 hx).1
 have d1 : (p : Int) / 64 = ((p / 64 : Nat) : Int) := by omega
 have d2 : (p : Int) % 64 = ((p % 64 : Nat) : Int) := by omega
 have q1 : p / 64 < 5 := by omega
 have q2 : p % 64 < 64 := by omega
 have hpw : (2 : Nat) ^ (p % 64) < 18446744073709551616 := Nat.lt_of_lt_of_le (Nat.pow_lt_pow_right (by decide) q2) (by decide)
 refine e161 (by simp) fun _ _ => ?_
 simp only [k161, argEnv, hid, d1, d2, aShlU q2, go_sem]
 have hcs : (PV.agg (wset S)).cs = wset S := rfl
 refine ⟨by omega, by omega, hil, fun x hx' => ?_⟩
 rw [hx] at hx'; cases hx'
 refine ⟨by rw [hcs, wset_len]; exact q1, fun c hc => ?_⟩
 rw [hcs, wset_get S q1] at hc; cases hc
 try simp only [OpK_eq, HKv, hid, d2, aShlB q2, aOrU (wd_lt S (p / 64)) hpw, go_sem]
 have hput : putE (.agg (wset S)) (p / 64) (.int .u64 ((wd S (p / 64) ||| 2 ^ (p % 64) : Nat) : Int)) = .agg (wset (S ||| 2 ^ p)) := by
  rw [← wset_put hp]; rfl
 refine ⟨by omega, hil, fun y hy => ?_⟩
 rw [hx] at hy; cases hy
 exact ⟨by rw [hcs, wset_len]; omega, by rw [hput]; exact Kv.Fin.now hK⟩
theorem p162E {σ : Heap} {id ver i S : Nat} {e : TypeId} {xs : List PV} (hid : σ[id]? = some (.arr ver e 5 xs)) (hx : xs[i]? = some (.agg (wset S))) (p : Nat) (hp : p < 320) {K : PV → Heap → Prop} (hK : K (.bool (S.testBit p)) σ) : ACall Tryz.prog 162 [.eptr id ver i 0, .int .i64 p] σ K := by
 have hil := (List.getElem?_eq_some_iff.1 hx).1
 have d1 : (p : Int) / 64 = ((p / 64 : Nat) : Int) := by omega
 have d2 : (p : Int) % 64 = ((p % 64 : Nat) : Int) := by omega
 have q1 : p / 64 < 5 := by omega
 have q2 : p % 64 < 64 := by omega
 have hcs : (PV.agg (wset S)).cs = wset S := rfl
 have hsh : wd S (p / 64) >>> (p % 64) < 18446744073709551616 := Nat.lt_of_le_of_lt (Nat.shiftRight_le _ _) (wd_lt _ _)
 refine e162 (by simp) fun _ _ => ?_
 simp only [k162, argEnv, hid, d1, go_sem]
 refine ⟨by omega, by omega, hil, fun x hx' => ?_⟩
 rw [hx] at hx'; cases hx'
 refine ⟨by rw [hcs, wset_len]; exact q1, fun c hc => ?_⟩
 rw [hcs, wset_get S q1] at hc; cases hc
 have hone : ∀ K, aInt .and .u64 ((wd S (p / 64) >>> (p % 64) : Nat) : Int) 1 K = K (.int .u64 ((wd S (p / 64) >>> (p % 64) &&& 1 : Nat) : Int)) := fun K => aAndU hsh (by decide : 1 < 18446744073709551616) K
 have hfb : decide (((wd S (p / 64) >>> (p % 64) &&& 1 : Nat) : Int) = 1) = S.testBit p := by
  rw [← has_bit]; exact decide_eq_decide.2 (by omega)
 try simp only [OpK_eq, HKv, hid, d2, aShrB q2, hone, hfb, go_sem]
 exact Kv.Fin.now hK
theorem p162 (S p : Nat) (hp : p < 320) : Pure Tryz.prog 162 [.fptr (wset S) 0, .int .i64 p] (.bool (S.testBit p)) := by
 have d1 : (p : Int) / 64 = ((p / 64 : Nat) : Int) := by omega
 have d2 : (p : Int) % 64 = ((p % 64 : Nat) : Int) := by omega
 have q1 : p / 64 < 5 := by omega
 have q2 : p % 64 < 64 := by omega
 have hsh : wd S (p / 64) >>> (p % 64) < 18446744073709551616 := Nat.lt_of_le_of_lt (Nat.shiftRight_le _ _) (wd_lt _ _)
 have hone : ∀ K, aInt .and .u64 ((wd S (p / 64) >>> (p % 64) : Nat) : Int) 1 K = K (.int .u64 ((wd S (p / 64) >>> (p % 64) &&& 1 : Nat) : Int)) := fun K => aAndU hsh (by decide : 1 < 18446744073709551616) K
 have hfb : decide (((wd S (p / 64) >>> (p % 64) &&& 1 : Nat) : Int) = 1) = S.testBit p := by
  rw [← has_bit]; exact decide_eq_decide.2 (by omega)
 refine e162 (by simp) fun _ _ => ?_
 simp only [k162, argEnv, d1, wset_len, go_sem]
 refine ⟨by omega, by omega, by omega, fun c hc => ?_⟩
 rw [wset_get S q1] at hc; cases hc
 try simp only [OpK_eq, HKv, d2, aShrB q2, hone, hfb, go_sem]
 exact Kv.Fin.still ⟨rfl, rfl⟩
def mix (S T k : Nat) (op : Nat → Nat → Nat) : List PV := (List.range 5).map fun i => PV.int .u64 ((if i < k then op (wd S i) (wd T i) else wd S i : Nat) : Int)
theorem mix_len (S T k : Nat) (op : Nat → Nat → Nat) : (mix S T k op).length = 5 := by simp [mix]
theorem mix_get (S T k : Nat) (op : Nat → Nat → Nat) (h : k < 5) : (mix S T k op)[k]? = some (.int .u64 (wd S k)) := by simp [mix, h]
theorem mix_set (S T k : Nat) (op : Nat → Nat → Nat) (h : k < 5) : (mix S T k op).set k (.int .u64 ((op (wd S k) (wd T k) : Nat) : Int)) = mix S T (k + 1) op := by
 unfold mix
 rw [wset_set (S := S) h]
 apply List.map_congr_left
 intro i _
 by_cases e : i = k
 ·subst e; simp
 ·have h1 : (i < k + 1) ↔ i < k := by omega
  simp [e, h1]
theorem mix_zero (S T : Nat) (op : Nat → Nat → Nat) : mix S T 0 op = wset S := by simp [mix, wset]
theorem mix_or (S T : Nat) : mix S T 5 (· ||| ·) = wset (S ||| T) := by
 unfold mix wset
 refine List.map_congr_left fun i hi => ?_
 rw [if_pos (List.mem_range.1 hi), wd_or]
theorem mix_and (S T : Nat) : mix S T 5 (· &&& ·) = wset (S &&& T) := by
 unfold mix wset
 refine List.map_congr_left fun i hi => ?_
 rw [if_pos (List.mem_range.1 hi), wd_and]
theorem p163 {σ : Heap} {id ver i S : Nat} {e : TypeId} {xs : List PV} (T : Nat) (hid : σ[id]? = some (.arr ver e 5 xs)) (hx : xs[i]? = some (.agg (wset S))) {K : PV → Heap → Prop} (hK : K (.tup []) (σ.set id (.arr ver e 5 (xs.set i (.agg (wset (S ||| T))))))) : ACall Tryz.prog 163 [.eptr id ver i 0, .agg (wset T)] σ K := by
 have hil := (List.getElem?_eq_some_iff.1 hx).1
 have hag : PV.agg (wset S) = .agg (mix S T 0 (· ||| ·)) := by rw [mix_zero]
 have h0 : σ = σ.set id (.arr ver e 5 (xs.set i (.agg (mix S T 0 (· ||| ·))))) := by
  rw [← hag, set_self hx, set_self hid]
 refine e163 (by simp) fun _ _ => ?_
 simp only [k163, argEnv, wset_len, go_sem]
 refine ⟨wset_ok T, ?_⟩
 refine KL_ind k163_b0.eq_1 (fun k : Nat => [(0, .eptr id ver i 0), (3, .fptr (wset T) 0), (5, .int .i64 k)]) (fun k => σ.set id (.arr ver e 5 (xs.set i (.agg (mix S T k (· ||| ·)))))) (fun k => k ≤ 5) (fun k => 5 - k) [0, 3, 5] 0 (by simp [keep]) h0 (Nat.zero_le _) fun k hk ih => ?_
 have hid' : (σ.set id (.arr ver e 5 (xs.set i (.agg (mix S T k (· ||| ·))))))[id]? = some (.arr ver e 5 (xs.set i (.agg (mix S T k (· ||| ·))))) := List.getElem?_set_self (List.getElem?_eq_some_iff.1 hid).1
 have hx' : (xs.set i (.agg (mix S T k (· ||| ·))))[i]? = some (.agg (mix S T k (· ||| ·))) := List.getElem?_set_self hil
 have hcs : ∀ k, (PV.agg (mix S T k (· ||| ·))).cs = mix S T k (· ||| ·) := fun k => rfl
 have hor := fun K => aOrU (wd_lt S k) (wd_lt T k) K
 try simp only [OpK_eq, HKv, hid', wset_len, List.length_set, go_sem]
 refine ⟨fun h1 => ⟨h1, hil, fun x hx2 => ?_⟩, fun h1 => ?_⟩
 ·rw [hx'] at hx2; cases hx2
  refine ⟨by rw [hcs, mix_len]; omega, fun c hc => ?_⟩
  rw [hcs, mix_get _ _ _ _ (by omega)] at hc; cases hc
  refine ⟨h1, by omega, fun c hc => ?_⟩
  rw [wset_get T (by omega)] at hc; cases hc
  try simp only [OpK_eq, HKv, hid', hor, List.length_set, go_sem]
  have hput : ∀ z : PV, z.cs = [z] → putE (.agg (mix S T k (· ||| ·))) k z = .agg ((mix S T k (· ||| ·)).set k z) := fun z hz => by
   show PV.agg (putC (mix S T k (· ||| ·)) k z.cs) = _
   rw [hz]; rfl
  refine ⟨h1, hil, fun y hy => ?_⟩
  rw [hx'] at hy; cases hy
  refine ⟨by rw [hcs, mix_len]; omega, by omega, ih (k + 1) (by omega) (by omega) _ _ (by simp [keep]) ?_⟩
  rw [hput _ rfl, mix_set S T k (· ||| ·) (by omega), List.set_set, List.set_set]
 ·obtain rfl : k = 5 := by omega
  rw [mix_or]
  exact Kv.Fin.now hK
theorem p116 {σ : Heap} {id S : Nat} (T : Nat) (hid : σ[id]? = some (.box (wset S))) {K : PV → Heap → Prop} (hK : K (.tup []) (σ.set id (.box (wset (S &&& T))))) : ACall Tryz.prog 116 [.ptr id 0, .agg (wset T)] σ K := by
 have h0 : σ = σ.set id (.box (mix S T 0 (· &&& ·))) := by
  rw [mix_zero, set_self hid]
 refine e116 (by simp) fun _ _ => ?_
 simp only [k116, argEnv, wset_len, go_sem]
 refine ⟨wset_ok T, ?_⟩
 refine KL_ind k116_b0.eq_1 (fun k : Nat => [(0, .ptr id 0), (3, .fptr (wset T) 0), (5, .int .i64 k)]) (fun k => σ.set id (.box (mix S T k (· &&& ·)))) (fun k => k ≤ 5) (fun k => 5 - k) [0, 3, 5] 0 (by simp [keep]) h0 (Nat.zero_le _) fun k hk ih => ?_
 have hid' : (σ.set id (.box (mix S T k (· &&& ·))))[id]? = some (.box (mix S T k (· &&& ·))) := List.getElem?_set_self (List.getElem?_eq_some_iff.1 hid).1
 have hand := fun K => aAndU (wd_lt S k) (wd_lt T k) K
 try simp only [OpK_eq, HKv, hid', wset_len, mix_len, go_sem]
 refine ⟨fun h1 => ⟨h1, by omega, fun c hc => ?_⟩, fun h1 => ?_⟩
 ·rw [mix_get _ _ _ _ (by omega)] at hc; cases hc
  refine ⟨h1, by omega, fun c hc => ?_⟩
  rw [wset_get T (by omega)] at hc; cases hc
  try simp only [OpK_eq, HKv, hid', hand, mix_len, go_sem]
  refine ⟨h1, by omega, by omega, ih (k + 1) (by omega) (by omega) _ _ (by simp [keep]) ?_⟩
  rw [mix_set S T k (· &&& ·) (by omega), List.set_set]
 ·obtain rfl : k = 5 := by omega
  rw [mix_and]
  exact Kv.Fin.now hK
end Go.Proofs.YthbbjbfbeaiphaaGreat
end
section
namespace Go.Proofs.YthbbjbfbeaiphaaGreat
open Go.Kv
set_option linter.unusedVariables false
set_option linter.unusedSimpArgs false
attribute [local irreducible] ACall PCall KL
def hdK : KC → KC
 | .seq a _ => a
 | k => k
def tlK : KC → KC
 | .seq _ b => b
 | k => k
def drK : Nat → KC → KC
 | 0, k => k
 | n + 1, k => drK n (tlK k)
def upK : Nat → KC → KC → KC
 | 0, _, t => t
 | n + 1, k, t => .seq (hdK k) (upK n (tlK k) t)
end Go.Proofs.YthbbjbfbeaiphaaGreat
end
section
namespace Go.Proofs.YthbbjbfbeaiphaaGreat
open Go.Kv
set_option maxRecDepth 100000
def k188_b0 : KC := (.seq (.ops [oP 9 (.bin .lss (.t 8) (iC 5))])
 (.seq (.cond (.t 9) .skip (.exit 0))
 (.seq (.block 1 (.seq (.ops [oP 10 (.idxV 5 1 false (.t 7) (.t 8)), mV 5 10])
 (.ops [mV 11 3, oP 12 (.bin .mul (.t 11) (iC 5)), mV 13 5, oP 14 (.bin .add (.t 12) (.t 13)), mV 3 14])))
 (.ops [oP 15 (.bin .add (.t 8) (iC 1)), mV 8 15]))))
def k188 : KC := (.seq (.ops [oP 1 (.box true (.t 0)), oP 2 (.mv (iC 0))])
 (.seq (.ops [oP 3 (.mv (iC 0))])
 (.seq (.seq (.ops [oP 6 (.fieldA 1 (.t 1)), oP 7 (.load true 5 (.t 6)), oP 8 (.mv (iC 0))])
 (.block 0 (.loop k188_b0)))
 (.seq (.ops [mV 16 3, mV 2 16])
 .ret))))
theorem e188 : Ent 188 17 [1] [.t 2] k188 := ent Tryz.func188 (by kernel_rfl) (by kernel_rfl) (by kernel_rfl) (fun _ => by kernel_rfl) (by kernel_rfl)
end Go.Proofs.YthbbjbfbeaiphaaGreat
namespace Go.Proofs.YthbbjbfbeaiphaaGreat
open Go.Kv
set_option linter.unusedVariables false
set_option linter.unusedSimpArgs false
attribute [local irreducible] ACall PCall KL
def numK (f : List Nat) : Nat → Nat
 | 0 => 0
 | k + 1 => numK f k * 5 + f.getD k 0
theorem numK_lt {f : List Nat} (h : ∀ x ∈ f, x < 5) : ∀ k, numK f k < 5 ^ k
 | 0 => by simp [numK]
 | k + 1 => by
  have h1 := numK_lt h k
  have h2 : f.getD k 0 < 5 := by
   rw [List.getD_eq_getElem?_getD]
   cases e : f[k]? with
   | none => simp
   | some x => exact h x (List.mem_of_getElem? e)
  rw [numK, Nat.pow_succ]; omega
theorem numK_inj {f g : List Nat} (hf : ∀ x ∈ f, x < 5) (hg : ∀ x ∈ g, x < 5) : ∀ k, numK f k = numK g k → ∀ i, i < k → f.getD i 0 = g.getD i 0
 | 0, _, i, hi => by omega
 | k + 1, h, i, hi => by
  have h2 : ∀ {f : List Nat}, (∀ x ∈ f, x < 5) → f.getD k 0 < 5 := fun {f} hf => by
   rw [List.getD_eq_getElem?_getD]
   cases e : f[k]? with
   | none => simp
   | some x => exact hf x (List.mem_of_getElem? e)
  have a := h2 hf
  have b := h2 hg
  simp only [numK] at h
  rcases Nat.lt_succ_iff_lt_or_eq.1 hi with c | rfl
  ·exact numK_inj hf hg k (by omega) i c
  ·omega
theorem num_inj {f g : List Nat} {n : Nat} (hf : Ok f n) (hg : Ok g n) (h : numK f 5 = numK g 5) : f = g := by
 have h5 := hf.le
 have e := numK_inj (fun x hx => by have := hf.lt x hx; omega) (fun x hx => by have := hg.lt x hx; omega) 5 h
 refine List.ext_getElem (by rw [hf.len, hg.len]) fun i h1 h2 => ?_
 have := e i (by have := hf.len; omega)
 simpa [List.getD_eq_getElem?_getD, h1, h2] using this
theorem p188 (f : List Nat) (n : Nat) (hf : Ok f n) : Pure Tryz.prog 188 [.agg (ints (mp f))] (.int .i64 (numK f 5)) := by
 have hlf := hf.mp_len
 have h5 := hf.le
 refine e188 (by simp) fun _ _ => ?_
 simp only [k188, argEnv, hlf, go_sem]
 refine KL_ind k188_b0.eq_1 (fun y : Nat => [(3, .int .i64 (numK f y)), (7, .agg (ints (List.take 5 (List.drop 1 (mp f))))), (8, .int .i64 y)]) (fun _ => []) (fun y => y ≤ 5) (fun y => 5 - y) [3, 7, 8] 0 (by simp [keep, numK]) rfl (Nat.zero_le _) fun y hy ih => ?_
 have hl5 : (List.take 5 (List.drop 1 (mp f))).length = 5 := by simp [hlf]
 try simp only [hl5, go_sem]
 refine ⟨fun g1 => ?_, fun g1 => ?_⟩
 ·have hN := numK_lt (f := f) (fun x hx => by have := hf.lt x hx; omega) y
  have hN' : numK f y < 3125 := Nat.lt_of_lt_of_le hN (by
   have : (5 : Nat) ^ y ≤ 5 ^ 5 := Nat.pow_le_pow_right (by decide) hy
   omega)
  have hg : (List.take 5 (List.drop 1 (mp f))).getD y 0 = (f.getD y 0 : Int) := by
   have : (List.take 5 (List.drop 1 (mp f))).getD y 0 = (mp f).getD (y + 1) 0 := by
    rw [List.take_of_length_le (by simp [hlf])]
    simp [List.getD_eq_getElem?_getD, Nat.add_comm]
   rw [this, mp, mpN_get]
  have hb : f.getD y 0 < 5 := by
   rw [List.getD_eq_getElem?_getD]
   cases e : f[y]? with
   | none => simp
   | some x => have := hf.lt x (List.mem_of_getElem? e); simp; omega
  rw [hg]
  have g2 : y < 5 := by omega
  exact ⟨g1, g2, fun _ => ⟨by omega, by omega, by omega, ih (y + 1) (by omega) (by omega) _ _ (by simp [keep, numK]) rfl⟩⟩
 ·obtain rfl : y = 5 := by omega
  try simp only [go_sem]
  exact Kv.Fin.still ⟨rfl, rfl⟩
end Go.Proofs.YthbbjbfbeaiphaaGreat
end
section
namespace Go.Proofs.YthbbjbfbeaiphaaGreat
open Go.Kv
set_option maxRecDepth 100000
def k159 : KC := (.seq (.ops [oP 3 (.box true (.t 1)), oP 4 (.mv (iC 0))])
 (.seq (.draw [mV 5 0, oP 6 (.load true 6 (.t 3)), oP 8 (.nilck (.t 5)), oP 9 (.fieldA 2 (.t 8)), oP 7 (.pcall (fC 188) [(.t 6)]), oP 10 (.idxA 3125 1 (.t 9) (.t 7)), oP 11 (.load false 1 (.t 10)), oP 12 (.bin .sub (.t 11) (iC 1)), mV 4 12])
 .ret))
theorem e159 : Ent 159 13 [3] [.t 4] k159 := ent Tryz.func159 (by kernel_rfl) (by kernel_rfl) (by kernel_rfl) (fun _ => by kernel_rfl) (by kernel_rfl)
def k160 : KC := (.seq (.ops [oP 6 (.mv (iC 0))])
 (.seq (.draw [mV 7 0, mV 8 0, oP 9 (.nilck (.t 8)), oP 10 (.fieldA 0 (.t 9)), oP 11 (.load false 1 (.t 10)), mV 12 1, oP 13 (.idxS 6 (.t 11) (.t 12)), oP 14 (.load true 6 (.t 13)), mV 15 0, oP 16 (.nilck (.t 15)), oP 17 (.fieldA 0 (.t 16)), oP 18 (.load false 1 (.t 17)), mV 19 2, oP 20 (.idxS 6 (.t 18) (.t 19)), oP 21 (.load true 6 (.t 20)), oP 22 (.pcall (fC 157) [(.t 14), (.t 21)]), oP 23 (.pcall (fC 159) [(.t 7), (.t 22)]), mV 6 23])
 .ret))
theorem e160 : Ent 160 24 [] [.t 6] k160 := ent Tryz.func160 (by kernel_rfl) (by kernel_rfl) (by kernel_rfl) (fun _ => by kernel_rfl) (by kernel_rfl)
end Go.Proofs.YthbbjbfbeaiphaaGreat
namespace Go.Proofs.YthbbjbfbeaiphaaGreat
open Go.Kv
set_option linter.unusedVariables false
set_option linter.unusedSimpArgs false
attribute [local irreducible] ACall PCall KL
def moV (E W : PV) (P : List Int) : List PV := E :: W :: ints P
instance {E W : PV} {P : List Int} [h : Still E] [h' : Still W] : StillL (moV E W P) := inferInstanceAs (StillL (E :: W :: ints P))
theorem p159 (E W : PV) (P : List Int) (hP : P.length = 3125) (f : List Nat) (n : Nat) (hf : Ok f n) (hb : ∀ x ∈ P, 0 ≤ x ∧ x ≤ 300) : Pure Tryz.prog 159 [.fptr (moV E W P) 0, .agg (ints (mp f))] (.int .i64 (P.getD (numK f 5) 0 - 1)) := by
 have hlf := hf.mp_len
 have h5 := hf.le
 have hN : numK f 5 < 3125 := numK_lt (f := f) (fun x hx => by have := hf.lt x hx; omega) 5
 have hx : 0 ≤ P.getD (numK f 5) 0 ∧ P.getD (numK f 5) 0 ≤ 300 := by
  rw [List.getD_eq_getElem?_getD, List.getElem?_eq_getElem (by omega)]
  exact hb _ (List.getElem_mem _)
 have hml : (moV E W P).length = 3127 := by rw [moV, List.length_cons, List.length_cons, ints_length, hP]
 refine e159 (by simp) fun _ _ => ?_
 simp only [k159, argEnv, hlf, go_sem]
 refine (p188 f n hf).pgo ?_
 try simp only [hml, go_sem]
 refine ⟨by omega, by omega, fun c hc => ?_⟩
 have hc' : (ints P)[numK f 5]? = some c := hc
 have hP' : numK f 5 < P.length := by omega
 have e : c = .int .i64 (P.getD (numK f 5) 0) := by
  simp only [ints, List.getElem?_map, List.getElem?_eq_getElem hP', Option.map_some, Option.some.injEq] at hc'
  rw [← hc', List.getD_eq_getElem?_getD, List.getElem?_eq_getElem hP']; rfl
 subst e
 try simp only [OpK_eq, HKv, go_sem]
 exact ⟨by omega, Kv.Fin.still ⟨rfl, rfl⟩⟩
def plP (P : List Int) (S : List (List Nat)) (i k : Nat) : Int := P.getD (numK (mul (S.getD i []) (S.getD k [])) 5) 0 - 1
theorem p160 (W : PV) [Still W] (P : List Int) (hP : P.length = 3125) (S : List (List Nat)) (n : Nat) (hS : ∀ f ∈ S, Ok f n) (hSl : S.length ≤ 300) (hb : ∀ x ∈ P, 0 ≤ x ∧ x ≤ 300) (i k : Nat) (hi : i < S.length) (hk : k < S.length) :
  Pure Tryz.prog 160 [.fptr (moV (.list (aggs (S.map mp))) W P) 0, .int .i64 i, .int .i64 k] (.int .i64 (plP P S i k)) := by
 have oi := hS _ (List.getElem_mem hi)
 have ok := hS _ (List.getElem_mem hk)
 have li := oi.mp_len
 have lk := ok.mp_len
 have gi : (S.map mp).getD i [] = mp S[i] := by simp [List.getD_eq_getElem?_getD, hi]
 have gk : (S.map mp).getD k [] = mp S[k] := by simp [List.getD_eq_getElem?_getD, hk]
 have hml : (moV (.list (aggs (S.map mp))) W P).length = 3127 := by rw [moV, List.length_cons, List.length_cons, ints_length, hP]
 have hm0 : (moV (.list (aggs (S.map mp))) W P)[0]? = some (.list (aggs (S.map mp))) := rfl
 refine e160 (by simp) fun _ _ => ?_
 simp only [k160, argEnv, hml, go_sem]
 try simp only [hml, hm0, gi, gk, li, lk, aggs_length, List.length_map, go_sem]
 refine ⟨by omega, fun _ => ⟨by omega, fun _ => ?_⟩⟩
 refine (p157 S[i] S[k] n oi ok).pgo ?_
 try simp only [OpK_eq, HKv, go_sem]
 refine (p159 (.list (aggs (S.map mp))) W P hP (mul S[i] S[k]) n (oi.mul ok) hb).pgo ?_
 try simp only [OpK_eq, HKv, go_sem]
 refine Kv.Fin.still ⟨?_, rfl⟩
 have si : S.getD i [] = S[i] := by simp [List.getD_eq_getElem?_getD, hi]
 have sk : S.getD k [] = S[k] := by simp [List.getD_eq_getElem?_getD, hk]
 rw [plP, si, sk]
end Go.Proofs.YthbbjbfbeaiphaaGreat
end
section
namespace Go.Proofs.YthbbjbfbeaiphaaGreat
open Go.Kv
set_option linter.unusedVariables false
set_option linter.unusedSimpArgs false
attribute [local irreducible] ACall PCall KL
def PlOk (n : Nat) (P : List Int) (S : List (List Nat)) : Prop := P.length = 3125 ∧ (∀ x ∈ P, 0 ≤ x ∧ x ≤ 300) ∧ ∀ f, Ok f n → P.getD (numK f 5) 0 - 1 = plM n S f
end Go.Proofs.YthbbjbfbeaiphaaGreat
end
section
namespace Go.Proofs.YthbbjbfbeaiphaaGreat
open Go.Kv
set_option maxRecDepth 100000
def k115_b0 : KC := (.seq (.ops [oP 29 (.bin .lss (.t 28) (.t 27))])
 (.seq (.cond (.t 29) .skip (.exit 2))
 (.seq (.block 3 (.seq (.ops [mV 30 28, mV 6 30])
 (.seq (.ops [mV 31 0, mV 32 5, mV 33 6, oP 34 (.call (fC 160) [(.t 31), (.t 32), (.t 33)]), mV 7 34])
 (.seq (.ops [mV 35 4, oP 36 (.nilck (.t 35)), oP 37 (.fieldA 1 (.t 36)), oP 38 (.load false 1 (.t 37)), mV 39 5, oP 40 (.idxS 5 (.t 38) (.t 39)), mV 41 7, oP 42 (.call (fC 161) [(.t 40), (.t 41)])])
 (.ops [mV 43 4, oP 44 (.nilck (.t 43)), oP 45 (.fieldA 0 (.t 44)), oP 46 (.load false 1 (.t 45)), mV 47 6, oP 48 (.idxS 5 (.t 46) (.t 47)), mV 49 7, oP 50 (.call (fC 161) [(.t 48), (.t 49)])])))))
 (.ops [oP 51 (.bin .add (.t 28) (iC 1)), mV 28 51]))))
def k115_b1 : KC := (.seq (.ops [oP 25 (.bin .lss (.t 24) (.t 23))])
 (.seq (.cond (.t 25) .skip (.exit 0))
 (.seq (.block 1 (.seq (.ops [mV 26 24, mV 5 26])
 (.seq (.ops [mV 27 3, oP 28 (.mv (iC 0))])
 (.block 2 (.loop k115_b0)))))
 (.ops [oP 52 (.bin .add (.t 24) (iC 1)), mV 24 52]))))
abbrev k115_t0s0 : KT := (.op (oP 82 (.call (fC 163) [(.t 74), (.t 81)])) .fin)
abbrev k115_t0s1 : KT := (.op (oP 81 (.load true 5 (.t 80))) k115_t0s0)
abbrev k115_t0s2 : KT := (.op (oP 80 (.idxS 5 (.t 78) (.t 79))) k115_t0s1)
abbrev k115_t0s3 : KT := (.op (oP 78 (.load false 1 (.t 77))) k115_t0s2)
abbrev k115_t0s4 : KT := (.op (oP 77 (.fieldA 0 (.t 76))) k115_t0s3)
abbrev k115_t0s5 : KT := (.op (oP 74 (.idxS 5 (.t 72) (.t 73))) k115_t0s0)
abbrev k115_t0s6 : KT := (.alt (.op (oP 74 (.idxS 5 (.t 72) (.t 73))) k115_t0s1) (.op (oP 81 (.load true 5 (.t 80))) k115_t0s5))
abbrev k115_t0s7 : KT := (.alt (.op (oP 74 (.idxS 5 (.t 72) (.t 73))) k115_t0s2) (.op (oP 80 (.idxS 5 (.t 78) (.t 79))) k115_t0s6))
abbrev k115_t0s8 : KT := (.alt (.op (oP 74 (.idxS 5 (.t 72) (.t 73))) k115_t0s3) (.op (oP 78 (.load false 1 (.t 77))) k115_t0s7))
abbrev k115_t0s9 : KT := (.alt (.op (oP 74 (.idxS 5 (.t 72) (.t 73))) k115_t0s4) (.op (oP 77 (.fieldA 0 (.t 76))) k115_t0s8))
abbrev k115_t0s10 : KT := (.op (oP 72 (.load false 1 (.t 71))) k115_t0s5)
abbrev k115_t0s11 : KT := (.alt (.op (oP 72 (.load false 1 (.t 71))) k115_t0s6) (.op (oP 81 (.load true 5 (.t 80))) k115_t0s10))
abbrev k115_t0s12 : KT := (.alt (.op (oP 72 (.load false 1 (.t 71))) k115_t0s7) (.op (oP 80 (.idxS 5 (.t 78) (.t 79))) k115_t0s11))
abbrev k115_t0s13 : KT := (.alt (.op (oP 72 (.load false 1 (.t 71))) k115_t0s8) (.op (oP 78 (.load false 1 (.t 77))) k115_t0s12))
abbrev k115_t0s14 : KT := (.alt (.op (oP 72 (.load false 1 (.t 71))) k115_t0s9) (.op (oP 77 (.fieldA 0 (.t 76))) k115_t0s13))
abbrev k115_t0s15 : KT := (.op (oP 71 (.fieldA 2 (.t 70))) k115_t0s10)
abbrev k115_t0s16 : KT := (.alt (.op (oP 71 (.fieldA 2 (.t 70))) k115_t0s11) (.op (oP 81 (.load true 5 (.t 80))) k115_t0s15))
abbrev k115_t0s17 : KT := (.alt (.op (oP 71 (.fieldA 2 (.t 70))) k115_t0s12) (.op (oP 80 (.idxS 5 (.t 78) (.t 79))) k115_t0s16))
abbrev k115_t0s18 : KT := (.alt (.op (oP 71 (.fieldA 2 (.t 70))) k115_t0s13) (.op (oP 78 (.load false 1 (.t 77))) k115_t0s17))
abbrev k115_t0s19 : KT := (.alt (.op (oP 71 (.fieldA 2 (.t 70))) k115_t0s14) (.op (oP 77 (.fieldA 0 (.t 76))) k115_t0s18))
def k115_t0 : KT := (.op (mV 69 4) (.op (mV 73 8) (.op (mV 75 4) (.op (mV 79 9) (.alt (.op (oP 70 (.nilck (.t 69))) (.alt (.op (oP 71 (.fieldA 2 (.t 70))) (.alt (.op (oP 72 (.load false 1 (.t 71))) (.alt (.op (oP 74 (.idxS 5 (.t 72) (.t 73))) (.op (oP 76 (.nilck (.t 75))) k115_t0s4)) (.op (oP 76 (.nilck (.t 75))) k115_t0s9))) (.op (oP 76 (.nilck (.t 75))) k115_t0s14))) (.op (oP 76 (.nilck (.t 75))) k115_t0s19))) (.op (oP 76 (.nilck (.t 75))) (.alt (.op (oP 70 (.nilck (.t 69))) k115_t0s19) (.op (oP 77 (.fieldA 0 (.t 76))) (.alt (.op (oP 70 (.nilck (.t 69))) k115_t0s18) (.op (oP 78 (.load false 1 (.t 77))) (.alt (.op (oP 70 (.nilck (.t 69))) k115_t0s17) (.op (oP 80 (.idxS 5 (.t 78) (.t 79))) (.alt (.op (oP 70 (.nilck (.t 69))) k115_t0s16) (.op (oP 81 (.load true 5 (.t 80))) (.op (oP 70 (.nilck (.t 69))) k115_t0s15)))))))))))))))
def k115_b2 : KC := (.seq (.ops [oP 59 (.bin .lss (.t 58) (.t 57))])
 (.seq (.cond (.t 59) .skip (.exit 6))
 (.seq (.block 7 (.seq (.ops [mV 60 58, mV 9 60])
 (.seq (.ops [mV 61 4, oP 62 (.nilck (.t 61)), oP 63 (.fieldA 1 (.t 62)), oP 64 (.load false 1 (.t 63)), mV 65 8, oP 66 (.idxS 5 (.t 64) (.t 65)), mV 67 9, oP 68 (.call (fC 162) [(.t 66), (.t 67)])])
 (.cond (.t 68) (.tree k115_t0) .skip))))
 (.ops [oP 83 (.bin .add (.t 58) (iC 1)), mV 58 83]))))
def k115_b3 : KC := (.seq (.ops [oP 55 (.bin .lss (.t 54) (.t 53))])
 (.seq (.cond (.t 55) .skip (.exit 4))
 (.seq (.block 5 (.seq (.ops [mV 56 54, mV 8 56])
 (.seq (.ops [mV 57 3, oP 58 (.mv (iC 0))])
 (.block 6 (.loop k115_b2)))))
 (.ops [oP 84 (.bin .add (.t 54) (iC 1)), mV 54 84]))))
abbrev k115s0 : KT := (.op (oP 21 (.build [.nils, .nils, .nils] [(0, 1, (.t 16)), (1, 1, (.t 18)), (2, 1, (.t 20))])) (.op (oP 22 (.box false (.t 21))) (.op (mV 4 22) .fin)))
abbrev k115s1 : KT := (.op (oP 20 (.mks 132 5 (.agg [.int .u64 0, .int .u64 0, .int .u64 0, .int .u64 0, .int .u64 0]) (.t 19) (.t 19))) k115s0)
abbrev k115s2 : KT := (.op (oP 18 (.mks 132 5 (.agg [.int .u64 0, .int .u64 0, .int .u64 0, .int .u64 0, .int .u64 0]) (.t 17) (.t 17))) k115s0)
abbrev k115s3 : KT := (.op (oP 16 (.mks 132 5 (.agg [.int .u64 0, .int .u64 0, .int .u64 0, .int .u64 0, .int .u64 0]) (.t 15) (.t 15))) k115s0)
def k115 : KC := (.seq (.ops [oP 2 (.mv (.c (.nilptr)))])
 (.seq (.ops [mV 10 0, oP 11 (.nilck (.t 10)), oP 12 (.fieldA 0 (.t 11)), oP 13 (.load false 1 (.t 12)), oP 14 (.len false (.t 13)), mV 3 14])
 (.seq (.tree (.op (mV 15 3) (.op (mV 17 3) (.op (mV 19 3) (.alt (.op (oP 16 (.mks 132 5 (.agg [.int .u64 0, .int .u64 0, .int .u64 0, .int .u64 0, .int .u64 0]) (.t 15) (.t 15))) (.alt (.op (oP 18 (.mks 132 5 (.agg [.int .u64 0, .int .u64 0, .int .u64 0, .int .u64 0, .int .u64 0]) (.t 17) (.t 17))) k115s1) (.op (oP 20 (.mks 132 5 (.agg [.int .u64 0, .int .u64 0, .int .u64 0, .int .u64 0, .int .u64 0]) (.t 19) (.t 19))) k115s2))) (.alt (.op (oP 18 (.mks 132 5 (.agg [.int .u64 0, .int .u64 0, .int .u64 0, .int .u64 0, .int .u64 0]) (.t 17) (.t 17))) (.alt (.op (oP 16 (.mks 132 5 (.agg [.int .u64 0, .int .u64 0, .int .u64 0, .int .u64 0, .int .u64 0]) (.t 15) (.t 15))) k115s1) (.op (oP 20 (.mks 132 5 (.agg [.int .u64 0, .int .u64 0, .int .u64 0, .int .u64 0, .int .u64 0]) (.t 19) (.t 19))) k115s3))) (.op (oP 20 (.mks 132 5 (.agg [.int .u64 0, .int .u64 0, .int .u64 0, .int .u64 0, .int .u64 0]) (.t 19) (.t 19))) (.alt (.op (oP 16 (.mks 132 5 (.agg [.int .u64 0, .int .u64 0, .int .u64 0, .int .u64 0, .int .u64 0]) (.t 15) (.t 15))) k115s2) (.op (oP 18 (.mks 132 5 (.agg [.int .u64 0, .int .u64 0, .int .u64 0, .int .u64 0, .int .u64 0]) (.t 17) (.t 17))) k115s3)))))))))
 (.seq (.seq (.ops [mV 23 3, oP 24 (.mv (iC 0))])
 (.block 0 (.loop k115_b1)))
 (.seq (.seq (.ops [mV 53 3, oP 54 (.mv (iC 0))])
 (.block 4 (.loop k115_b3)))
 (.seq (.ops [mV 85 4, mV 2 85])
 .ret))))))
theorem e115 : Ent 115 86 [1000000] [.t 2] k115 := ent Tryz.func115 (by kernel_rfl) (by kernel_rfl) (by kernel_rfl) (fun _ => by kernel_rfl) (by kernel_rfl)
end Go.Proofs.YthbbjbfbeaiphaaGreat
namespace Go.Proofs.YthbbjbfbeaiphaaGreat
open Go.Kv
set_option linter.unusedVariables false
set_option linter.unusedSimpArgs false
attribute [local irreducible] ACall PCall KL
def cells (N : Nat) (F : Nat → Nat) : List PV := (List.range N).map fun a => PV.agg (wset (F a))
@[simp] theorem cells_len (N : Nat) (F : Nat → Nat) : (cells N F).length = N := by simp [cells]
theorem cells_get {N : Nat} (F : Nat → Nat) {i : Nat} (h : i < N) : (cells N F)[i]? = some (.agg (wset (F i))) := by simp [cells, h]
theorem cells_set {N : Nat} (F : Nat → Nat) (i x : Nat) : (cells N F).set i (.agg (wset x)) = cells N fun a => if a = i then x else F a := by
 apply List.ext_getElem?
 intro j
 rw [List.getElem?_set]
 by_cases hj : j < N
 ·rw [cells_get _ hj, cells_get _ hj]
  by_cases e : i = j
  ·subst e; simp [hj]
  ·have e' : ¬ j = i := fun x => e x.symm
   simp [e, e']
 ·have h1 : ∀ F, (cells N F)[j]? = none := fun F => List.getElem?_eq_none (by simp; omega)
  rw [h1, h1]
  split
  ·rw [if_neg (by simp; omega)]
  ·rfl
theorem cells_zero (N : Nat) : List.replicate N (PV.agg [.int .u64 0, .int .u64 0, .int .u64 0, .int .u64 0, .int .u64 0]) = cells N fun _ => 0 := by
 have h : (fun _ : Nat => PV.agg (wset 0)) = fun _ => PV.agg [.int .u64 0, .int .u64 0, .int .u64 0, .int .u64 0, .int .u64 0] := by rw [wset_zero]
 show _ = (List.range N).map fun _ => PV.agg (wset 0)
 rw [h, List.map_const', List.length_range]
structure IH (N : Nat) (σ : Heap) (l r b : Nat) (FL FR FB : Nat → Nat) : Prop where
 d : σ[3]? = some (.box [.ref l 0 0 N, .ref r 0 0 N, .ref b 0 0 N])
 L : σ[l]? = some (.arr 0 132 5 (cells N FL))
 R : σ[r]? = some (.arr 0 132 5 (cells N FR))
 B : σ[b]? = some (.arr 0 132 5 (cells N FB))
 ne : l ≠ r ∧ l ≠ b ∧ r ≠ b ∧ l ≠ 3 ∧ r ≠ 3 ∧ b ≠ 3
 len : σ.length = 4
theorem IH.setL {N : Nat} {σ : Heap} {l r b : Nat} {FL FR FB : Nat → Nat} (h : IH N σ l r b FL FR FB) (F : Nat → Nat) : IH N (σ.set l (.arr 0 132 5 (cells N F))) l r b F FR FB :=
 have n := h.ne
 ⟨(List.getElem?_set_ne (by omega)).trans h.d, List.getElem?_set_self (List.getElem?_eq_some_iff.1 h.L).1, (List.getElem?_set_ne (by omega)).trans h.R, (List.getElem?_set_ne (by omega)).trans h.B, n, by rw [List.length_set]; exact h.len⟩
theorem IH.setR {N : Nat} {σ : Heap} {l r b : Nat} {FL FR FB : Nat → Nat} (h : IH N σ l r b FL FR FB) (F : Nat → Nat) : IH N (σ.set r (.arr 0 132 5 (cells N F))) l r b FL F FB :=
 have n := h.ne
 ⟨(List.getElem?_set_ne (by omega)).trans h.d, (List.getElem?_set_ne (by omega)).trans h.L, List.getElem?_set_self (List.getElem?_eq_some_iff.1 h.R).1, (List.getElem?_set_ne (by omega)).trans h.B, n, by rw [List.length_set]; exact h.len⟩
theorem IH.setB {N : Nat} {σ : Heap} {l r b : Nat} {FL FR FB : Nat → Nat} (h : IH N σ l r b FL FR FB) (F : Nat → Nat) : IH N (σ.set b (.arr 0 132 5 (cells N F))) l r b FL FR F :=
 have n := h.ne
 ⟨(List.getElem?_set_ne (by omega)).trans h.d, (List.getElem?_set_ne (by omega)).trans h.L, (List.getElem?_set_ne (by omega)).trans h.R, List.getElem?_set_self (List.getElem?_eq_some_iff.1 h.B).1, n, by rw [List.length_set]; exact h.len⟩
set_option maxHeartbeats 8000000 in
theorem add_tree {N : Nat} {σ : Heap} {l r b : Nat} {FL FR FB : Nat → Nat} (hI : IH N σ l r b FL FR FB) {i k : Nat} (hi : i < N) (hk : k < N) {Q : Exit → Env → Heap → Prop} {env : Env} (u4 : Kv.look env 4 = .ptr 3 0) (u8 : Kv.look env 8 = .int .i64 i) (u9 : Kv.look env 9 = .int .i64 k)
    (hQ : ∀ env', keep [3, 4, 8, 53, 54, 57, 58] env' = keep [3, 4, 8, 53, 54, 57, 58] env → Q .normal env' (σ.set b (.arr 0 132 5 (cells N fun a => if a = i then FB i ||| FL k else FB a)))) :
    vT Tryz.prog k115_t0 Q env σ := by
  have hd := hI.d
  have hB := hI.B
  have hL := hI.L
  have hLk := cells_get FL hk
  have hiI : (i : Int) < (N : Int) := by omega
  have hkI : (k : Int) < (N : Int) := by omega
  have hi0 : (0 : Int) ≤ (i : Int) := by omega
  have hk0 : (0 : Int) ≤ (k : Int) := by omega
  have hw5 : subC (wset (FL k)) 0 5 = wset (FL k) := by unfold subC; rw [if_pos ⟨rfl, wset_len _⟩]
  have hcs : (PV.agg (wset (FL k))).cs = wset (FL k) := rfl
  unfold k115_t0
  repeat' (first
    | refine Eq.mpr (vT_alt _ _) ⟨?_, ?_⟩
    | (refine p163 (FL k) hB (cells_get FB hi) ?_
       rw [cells_set])
    | simp only [u4, u8, u9, hi, hk, hiI, hkI, hi0, hk0, hd, hB, hL, hLk, hw5, hcs, wset_len, cells_len, Option.some.injEq, forall_eq', Nat.le_refl, true_implies, true_and, OpK_eq, HKv, go_sem])
  all_goals first
    | exact hQ _ rfl
    | (refine hQ _ ?_; simp [keep]; done)
    | skip
set_option maxHeartbeats 2000000 in
theorem ideals_both {N : Nat} (hN : N ≤ 300) {σ : Heap} {l r b : Nat} {FL FR : Nat → Nat} (h : IH N σ l r b FL FR fun _ => 0) {K : PV → Heap → Prop} {env : Env} (u3 : Kv.look env 3 = .int .i64 N) (u4 : Kv.look env 4 = .ptr 3 0)
  (hK : ∀ σ FB, IH N σ l r b FL FR FB → (∀ a, a < N → ∀ j, (FB a).testBit j = true ↔ ∃ c, c < N ∧ (FR a).testBit c = true ∧ (FL c).testBit j = true) → K (.ptr 3 0) σ) : vc (mkCfg Tryz.prog mixed [1000000] 86 0) (drK 4 k115) (FinK 0 [.t 2] K) env σ := by
 simp only [drK, tlK, k115]
 try simp only [u3, u4, go_sem]
 refine KL_ind k115_b3.eq_1 (fun x : Nat × (Nat → Nat) × Heap => [(3, .int .i64 N), (4, .ptr 3 0), (53, .int .i64 N), (54, .int .i64 x.1)]) (fun x => x.2.2) (fun x => x.1 ≤ N ∧ IH N x.2.2 l r b FL FR x.2.1 ∧ ∀ a, a < N → ∀ j, (x.2.1 a).testBit j = true ↔ ∃ c, c < N ∧ a < x.1 ∧ (FR a).testBit c = true ∧ (FL c).testBit j = true) (fun x => N - x.1) [3, 4, 53, 54] (0, fun _ => 0, σ) (by simp [keep, u3, u4]) rfl ⟨Nat.zero_le _, h, fun a _ j => by simp⟩ fun ⟨i, FB, τ⟩ ⟨hi, hI, hB⟩ ih => ?_
 simp only at hi hI hB
 try simp only [OpK_eq, HKv, go_sem]
 refine ⟨fun g1 => ?_, fun g1 => ?_⟩
 ·have hiN : i < N := by omega
  refine KL_ind k115_b2.eq_1 (fun x : Nat × (Nat → Nat) × Heap => [(3, .int .i64 N), (4, .ptr 3 0), (8, .int .i64 i), (53, .int .i64 N), (54, .int .i64 i), (57, .int .i64 N), (58, .int .i64 x.1)]) (fun x => x.2.2) (fun x => x.1 ≤ N ∧ IH N x.2.2 l r b FL FR x.2.1 ∧ ∀ a, a < N → ∀ j, (x.2.1 a).testBit j = true ↔ ∃ c, c < N ∧ (a < i ∨ a = i ∧ c < x.1) ∧ (FR a).testBit c = true ∧ (FL c).testBit j = true) (fun x => N - x.1) [3, 4, 8, 53, 54, 57, 58] (0, FB, τ) (by simp [keep]) rfl ⟨Nat.zero_le _, hI, fun a ha j => by
   rw [hB a ha j]; simp⟩ fun ⟨k, FB, ρ⟩ ⟨hk, hI, hB⟩ ihk => ?_
  simp only at hk hI hB
  have hd := hI.d
  have hR := hI.R
  have hL := hI.L
  try simp only [OpK_eq, HKv, hd, hR, go_sem]
  refine ⟨fun g2 => ?_, fun g2 => ?_⟩
  ·have hkN : k < N := by omega
   have hBB := hI.B
   have hw5 : subC (wset (FL k)) 0 5 = wset (FL k) := by unfold subC; rw [if_pos ⟨rfl, wset_len _⟩]
   refine ⟨⟨by omega, by simp⟩, p162E hR (cells_get FR hiN) k (by omega) ?_⟩
   try simp only [OpK_eq, HKv, hd, hBB, hL, go_sem]
   refine ⟨fun g3 => ?_, fun g3 => ?_⟩
   ·refine add_tree hI hiN hkN (by simp) (by simp) (by simp) fun env' hk' => ?_
    have hk2 : keep [3, 4, 8, 53, 54, 57, 58] env' = [(3, .int .i64 N), (4, .ptr 3 0), (8, .int .i64 i), (53, .int .i64 N), (54, .int .i64 i), (57, .int .i64 N), (58, .int .i64 k)] := by rw [hk']; simp [keep]
    obtain ⟨e3, e4, e8, e53, e54, e57, e58⟩ : Kv.look env' 3 = .int .i64 N ∧ Kv.look env' 4 = .ptr 3 0 ∧ Kv.look env' 8 = .int .i64 i ∧ Kv.look env' 53 = .int .i64 N ∧ Kv.look env' 54 = .int .i64 i ∧ Kv.look env' 57 = .int .i64 N ∧ Kv.look env' 58 = .int .i64 k := by simpa [keep] using hk2
    try simp only [OpK_eq, HKv, e3, e4, e8, e53, e54, e57, e58, go_sem]
    refine ⟨by omega, ihk (k + 1, fun a => if a = i then FB i ||| FL k else FB a, _) ⟨by show k + 1 ≤ N; omega, hI.setB _, fun a ha j => ?_⟩ (by show N - (k + 1) < N - k; omega) _ _ (by simp [keep, e3, e4, e8, e53, e54, e57, e58]) rfl⟩
    show (if a = i then FB i ||| FL k else FB a).testBit j = true ↔ ∃ c, c < N ∧ (a < i ∨ a = i ∧ c < k + 1) ∧ (FR a).testBit c = true ∧ (FL c).testBit j = true
    by_cases e : a = i
    ·subst e
     rw [if_pos rfl, Nat.testBit_or, Bool.or_eq_true, hB a ha j]
     constructor
     ·rintro (⟨c, c1, c2, c3⟩ | c3)
      ·exact ⟨c, c1, by omega, c3⟩
      ·exact ⟨k, hkN, by omega, g3, c3⟩
     ·rintro ⟨c, c1, c2, c3, c4⟩
      by_cases ec : c = k
      ·subst ec; exact .inr c4
      ·exact .inl ⟨c, c1, by omega, c3, c4⟩
    ·rw [if_neg e, hB a ha j]
     exact ⟨fun ⟨c, c1, c2, c3⟩ => ⟨c, c1, by omega, c3⟩, fun ⟨c, c1, c2, c3⟩ => ⟨c, c1, by omega, c3⟩⟩
   ·refine ⟨by omega, ihk (k + 1, FB, ρ) ⟨by show k + 1 ≤ N; omega, hI, fun a ha j => ?_⟩ (by show N - (k + 1) < N - k; omega) _ _ (by simp [keep]) rfl⟩
    show (FB a).testBit j = true ↔ ∃ c, c < N ∧ (a < i ∨ a = i ∧ c < k + 1) ∧ (FR a).testBit c = true ∧ (FL c).testBit j = true
    rw [hB a ha j]
    refine ⟨fun ⟨c, c1, c2, c3⟩ => ⟨c, c1, by omega, c3⟩, fun ⟨c, c1, c2, c3, c4⟩ => ⟨c, c1, ?_, c3, c4⟩⟩
    rcases c2 with c2 | ⟨rfl, c2⟩
    ·exact .inl c2
    ·refine .inr ⟨rfl, ?_⟩
     apply Classical.byContradiction
     intro hne
     obtain rfl : c = k := by omega
     rw [g3] at c3; cases c3
  ·obtain rfl : k = N := by omega
   refine ⟨by omega, ih (i + 1, FB, ρ) ⟨by show i + 1 ≤ k; omega, hI, fun a ha j => ?_⟩ (by show k - (i + 1) < k - i; omega) _ _ (by simp [keep]) rfl⟩
   show (FB a).testBit j = true ↔ ∃ c, c < k ∧ a < i + 1 ∧ (FR a).testBit c = true ∧ (FL c).testBit j = true
   rw [hB a ha j]
   exact ⟨fun ⟨c, c1, c2, c3⟩ => ⟨c, c1, by omega, c3⟩, fun ⟨c, c1, c2, c3⟩ => ⟨c, c1, by omega, c3⟩⟩
 ·obtain rfl : i = N := by omega
  refine Kv.Fin.now (hK τ FB hI fun a ha j => ?_)
  rw [hB a ha j]
  exact ⟨fun ⟨c, c1, _, c3⟩ => ⟨c, c1, c3⟩, fun ⟨c, c1, c3⟩ => ⟨c, c1, ha, c3⟩⟩
def prI (S : List (List Nat)) (n i k : Nat) : Nat := loM n S (mul (S.getD i []) (S.getD k []))
theorem prI_at {n : Nat} {S : List (List Nat)} (hM : Mnd n S) {i k : Nat} (hi : i < S.length) (hk : k < S.length) : prI S n i k < S.length ∧ S.getD (prI S n i k) [] = mul (S.getD i []) (S.getD k []) ∧ plM n S (mul (S.getD i []) (S.getD k [])) = (prI S n i k : Int) := by
 have e1 : S.getD i [] = S[i] := by simp [List.getD_eq_getElem?_getD, hi]
 have e2 : S.getD k [] = S[k] := by simp [List.getD_eq_getElem?_getD, hk]
 obtain ⟨_, h2, h3⟩ := hM.at hi hk
 unfold prI
 rw [e1, e2]
 exact ⟨h2, h3, by rw [plM, if_pos ⟨h2, h3⟩]⟩
set_option maxHeartbeats 2000000 in
theorem ideals_sides {W : PV} [Still W] {P : List Int} {n : Nat} {S : List (List Nat)} (hP : PlOk n P S) (hM : Mnd n S) (hN : S.length ≤ 300) {σ : Heap} {l r b : Nat} (h : IH S.length σ l r b (fun _ => 0) (fun _ => 0) fun _ => 0) {Q : PV → Heap → Prop} {env : Env} (u0 : Kv.look env 0 = .fptr (moV (.list (aggs (S.map mp))) W P) 0) (u3 : Kv.look env 3 = .int .i64 S.length) (u4 : Kv.look env 4 = .ptr 3 0)
  (hK : ∀ (σ : Heap) FL FR (env : Env), Kv.look env 3 = .int .i64 S.length → Kv.look env 4 = .ptr 3 0 → IH S.length σ l r b FL FR (fun _ => 0) → (∀ a, a < S.length → ∀ j, (FR a).testBit j = true ↔ ∃ y, y < S.length ∧ prI S n a y = j) → (∀ a, a < S.length → ∀ j, (FL a).testBit j = true ↔ ∃ x, x < S.length ∧ prI S n x a = j) → vc (mkCfg Tryz.prog mixed [1000000] 86 0) (drK 4 k115) (FinK 0 [.t 2] Q) env σ) : vc (mkCfg Tryz.prog mixed [1000000] 86 0) (drK 3 k115) (FinK 0 [.t 2] Q) env σ := by
 rw [show drK 3 k115 = upK 1 (drK 3 k115) (drK 4 k115) from rfl]
 generalize drK 4 k115 = t at hK ⊢
 simp only [upK, hdK, drK, tlK, k115]
 try simp only [u3, go_sem]
 generalize hSn : S.length = N at *
 refine KL_ind k115_b1.eq_1 (fun x : Nat × (Nat → Nat) × (Nat → Nat) × Heap => [(0, .fptr (moV (.list (aggs (S.map mp))) W P) 0), (3, .int .i64 N), (4, .ptr 3 0), (23, .int .i64 N), (24, .int .i64 x.1)]) (fun x => x.2.2.2) (fun x => x.1 ≤ N ∧ IH N x.2.2.2 l r b x.2.1 x.2.2.1 (fun _ => 0) ∧ (∀ a, a < N → ∀ j, (x.2.2.1 a).testBit j = true ↔ ∃ y, y < N ∧ a < x.1 ∧ prI S n a y = j) ∧ ∀ a, a < N → ∀ j, (x.2.1 a).testBit j = true ↔ ∃ z, z < N ∧ z < x.1 ∧ prI S n z a = j) (fun x => N - x.1) [0, 3, 4, 23, 24] (0, fun _ => 0, fun _ => 0, σ) (by simp [keep, u0, u3, u4]) rfl ⟨Nat.zero_le _, h, fun a _ j => by simp, fun a _ j => by simp⟩ fun ⟨i, FL, FR, τ⟩ ⟨hi, hI, hR, hL⟩ ih => ?_
 simp only at hi hI hR hL
 try simp only [OpK_eq, HKv, go_sem]
 refine ⟨fun g1 => ?_, fun g1 => ?_⟩
 ·have hiN : i < N := by omega
  refine KL_ind k115_b0.eq_1 (fun x : Nat × (Nat → Nat) × (Nat → Nat) × Heap => [(0, .fptr (moV (.list (aggs (S.map mp))) W P) 0), (3, .int .i64 N), (4, .ptr 3 0), (5, .int .i64 i), (23, .int .i64 N), (24, .int .i64 i), (27, .int .i64 N), (28, .int .i64 x.1)]) (fun x => x.2.2.2) (fun x => x.1 ≤ N ∧ IH N x.2.2.2 l r b x.2.1 x.2.2.1 (fun _ => 0) ∧ (∀ a, a < N → ∀ j, (x.2.2.1 a).testBit j = true ↔ ∃ y, y < N ∧ (a < i ∨ a = i ∧ y < x.1) ∧ prI S n a y = j) ∧ ∀ a, a < N → ∀ j, (x.2.1 a).testBit j = true ↔ ∃ z, z < N ∧ (z < i ∨ z = i ∧ a < x.1) ∧ prI S n z a = j) (fun x => N - x.1) [0, 3, 4, 5, 23, 24, 27, 28] (0, FL, FR, τ) (by simp [keep]) rfl ⟨Nat.zero_le _, hI, fun a ha j => by
   rw [hR a ha j]; simp, fun a ha j => by
   rw [hL a ha j]; simp⟩ fun ⟨k, FL, FR, ρ⟩ ⟨hk, hI, hR, hL⟩ ihk => ?_
  simp only at hk hI hR hL
  try simp only [OpK_eq, HKv, go_sem]
  refine ⟨fun g2 => ?_, fun g2 => ?_⟩
  ·have hkN : k < N := by omega
   have hpr := p160 W P hP.1 S n hM.srm.1 (by omega) hP.2.1 i k (by omega) (by omega)
   obtain ⟨q1, q2, q3⟩ := prI_at hM (i := i) (k := k) (by omega) (by omega)
   have q4 : plP P S i k = (prI S n i k : Int) := by
    rw [← q3]
    refine hP.2.2 _ (hM.srm.1 _ (hM.mul _ _ ?_ ?_))
    ·rw [List.getD_eq_getElem?_getD, List.getElem?_eq_getElem (by omega)]; exact List.getElem_mem _
    ·rw [List.getD_eq_getElem?_getD, List.getElem?_eq_getElem (by omega)]; exact List.getElem_mem _
   rw [q4] at hpr
   refine hpr.go ?_
   have hd := hI.d
   have hRR := hI.R
   try simp only [OpK_eq, HKv, hd, hRR, go_sem]
   refine ⟨⟨by omega, by simp⟩, p161 hRR (cells_get FR hiN) _ (by omega) ?_⟩
   rw [cells_set]
   have hI2 := hI.setR fun a => if a = i then FR i ||| 2 ^ prI S n i k else FR a
   have hd2 := hI2.d
   have hLL := hI2.L
   try simp only [OpK_eq, HKv, hd2, hLL, go_sem]
   refine ⟨⟨by omega, by simp⟩, p161 hLL (cells_get FL hkN) _ (by omega) ?_⟩
   rw [cells_set]
   have hI3 := hI2.setL fun a => if a = k then FL k ||| 2 ^ prI S n i k else FL a
   try simp only [OpK_eq, HKv, go_sem]
   refine ⟨by omega, ihk (k + 1, _, _, _) ⟨by show k + 1 ≤ N; omega, hI3, fun a ha j => ?_, fun a ha j => ?_⟩ (by show N - (k + 1) < N - k; omega) _ _ (by simp [keep]) rfl⟩
   ·show (if a = i then FR i ||| 2 ^ prI S n i k else FR a).testBit j = true ↔ ∃ y, y < N ∧ (a < i ∨ a = i ∧ y < k + 1) ∧ prI S n a y = j
    by_cases e : a = i
    ·subst e
     rw [if_pos rfl, Nat.testBit_or, Bool.or_eq_true, hR a ha j, Nat.testBit_two_pow, decide_eq_true_iff]
     constructor
     ·rintro (⟨c, c1, c2, c3⟩ | c3)
      ·exact ⟨c, c1, by omega, c3⟩
      ·exact ⟨k, hkN, by omega, c3⟩
     ·rintro ⟨c, c1, c2, c3⟩
      by_cases ec : c = k
      ·subst ec; exact .inr c3
      ·exact .inl ⟨c, c1, by omega, c3⟩
    ·rw [if_neg e, hR a ha j]
     exact ⟨fun ⟨c, c1, c2, c3⟩ => ⟨c, c1, by omega, c3⟩, fun ⟨c, c1, c2, c3⟩ => ⟨c, c1, by omega, c3⟩⟩
   ·show (if a = k then FL k ||| 2 ^ prI S n i k else FL a).testBit j = true ↔ ∃ z, z < N ∧ (z < i ∨ z = i ∧ a < k + 1) ∧ prI S n z a = j
    by_cases e : a = k
    ·subst e
     rw [if_pos rfl, Nat.testBit_or, Bool.or_eq_true, hL a ha j, Nat.testBit_two_pow, decide_eq_true_iff]
     constructor
     ·rintro (⟨c, c1, c2, c3⟩ | c3)
      ·exact ⟨c, c1, by omega, c3⟩
      ·exact ⟨i, hiN, by omega, c3⟩
     ·rintro ⟨c, c1, c2, c3⟩
      by_cases ec : c = i
      ·subst ec; exact .inr c3
      ·exact .inl ⟨c, c1, by omega, c3⟩
    ·rw [if_neg e, hL a ha j]
     exact ⟨fun ⟨c, c1, c2, c3⟩ => ⟨c, c1, by omega, c3⟩, fun ⟨c, c1, c2, c3⟩ => ⟨c, c1, by omega, c3⟩⟩
  ·obtain rfl : k = N := by omega
   refine ⟨by omega, ih (i + 1, FL, FR, ρ) ⟨by show i + 1 ≤ k; omega, hI, fun a ha j => ?_, fun a ha j => ?_⟩ (by show k - (i + 1) < k - i; omega) _ _ (by simp [keep]) rfl⟩
   ·show (FR a).testBit j = true ↔ ∃ y, y < k ∧ a < i + 1 ∧ prI S n a y = j
    rw [hR a ha j]
    exact ⟨fun ⟨c, c1, c2, c3⟩ => ⟨c, c1, by omega, c3⟩, fun ⟨c, c1, c2, c3⟩ => ⟨c, c1, by omega, c3⟩⟩
   ·show (FL a).testBit j = true ↔ ∃ z, z < k ∧ z < i + 1 ∧ prI S n z a = j
    rw [hL a ha j]
    exact ⟨fun ⟨c, c1, c2, c3⟩ => ⟨c, c1, by omega, c3⟩, fun ⟨c, c1, c2, c3⟩ => ⟨c, c1, by omega, c3⟩⟩
 ·obtain rfl : i = N := by omega
  refine hK τ FL FR _ (by simp) (by simp) hI (fun a ha j => ?_) fun a ha j => ?_
  ·rw [hR a ha j]
   exact ⟨fun ⟨c, c1, _, c3⟩ => ⟨c, c1, c3⟩, fun ⟨c, c1, c3⟩ => ⟨c, c1, ha, c3⟩⟩
  ·rw [hL a ha j]
   exact ⟨fun ⟨c, c1, _, c3⟩ => ⟨c, c1, c3⟩, fun ⟨c, c1, c3⟩ => ⟨c, c1, c1, c3⟩⟩
end Go.Proofs.YthbbjbfbeaiphaaGreat
end
section
namespace Go.Proofs.YthbbjbfbeaiphaaGreat
open Go.Kv
set_option linter.unusedVariables false
set_option linter.unusedSimpArgs false
attribute [local irreducible] ACall PCall KL
set_option maxHeartbeats 4000000 in
theorem p115 {W : PV} [Still W] {P : List Int} {n : Nat} {S : List (List Nat)} (hP : PlOk n P S) (hM : Mnd n S) (hN : S.length ≤ 300) {K : PV → Heap → Prop}
  (hK : ∀ (σ : Heap) l r b FL FR FB, IH S.length σ l r b FL FR FB → (∀ a, a < S.length → ∀ j, (FB a).testBit j = true ↔ ∃ y x, y < S.length ∧ x < S.length ∧ prI S n x (prI S n a y) = j) → K (.ptr 3 0) σ) : ACall Tryz.prog 115 [.fptr (moV (.list (aggs (S.map mp))) W P) 0] [] K := by
 have hml : (moV (.list (aggs (S.map mp))) W P).length = 3127 := by rw [moV, List.length_cons, List.length_cons, ints_length, hP.1]
 have hm0 : (moV (.list (aggs (S.map mp))) W P)[0]? = some (.list (aggs (S.map mp))) := rfl
 have hrest : ∀ (σ : Heap) (l r b : Nat) (env : Env), IH S.length σ l r b (fun _ => 0) (fun _ => 0) (fun _ => 0) → Kv.look env 0 = .fptr (moV (.list (aggs (S.map mp))) W P) 0 → Kv.look env 3 = .int .i64 S.length → Kv.look env 4 = .ptr 3 0 → vc (mkCfg Tryz.prog mixed [1000000] 86 0) (drK 3 k115) (FinK 0 [.t 2] K) env σ := fun σ l r b env h u0 u3 u4 => by
  refine ideals_sides hP hM hN h u0 u3 u4 fun σ FL FR env v3 v4 hI hR hL => ?_
  refine ideals_both hN hI v3 v4 fun σ FB hI2 hB => hK σ l r b FL FR FB hI2 fun a ha j => ?_
  rw [hB a ha j]
  constructor
  ·rintro ⟨c, c1, c2, c3⟩
   obtain ⟨y, y1, y2⟩ := (hR a ha c).1 c2
   obtain ⟨x, x1, x2⟩ := (hL c c1 j).1 c3
   exact ⟨y, x, y1, x1, by rw [y2]; exact x2⟩
  ·rintro ⟨y, x, y1, x1, e⟩
   have hc := (prI_at hM ha y1).1
   exact ⟨_, hc, (hR a ha _).2 ⟨y, y1, rfl⟩, (hL _ hc j).2 ⟨x, x1, e⟩⟩
 refine e115 (by simp) fun _ _ => ?_
 have hk : k115 = upK 3 k115 (drK 3 k115) := by simp only [upK, hdK, drK, tlK, k115]
 rw [List.length_nil, hk]
 generalize drK 3 k115 = t at hrest ⊢
 simp only [upK, hdK, drK, tlK, k115]
 try simp only [argEnv, hml, hm0, aggs_length, List.length_map, go_sem]
 iterate 3
  all_goals (try (rw [vT_alt]; refine ⟨?_, ?_⟩))
  all_goals (try (try simp only [OpK_eq, HKv, cells_zero, go_sem] ))
 all_goals repeat' (first
  | omega
  | (with_reducible refine And.intro ?_ ?_))
 all_goals exact hrest _ _ _ _ _ ⟨rfl, rfl, rfl, rfl, by decide, rfl⟩ (by simp) (by simp) (by simp)
end Go.Proofs.YthbbjbfbeaiphaaGreat
end
section
namespace Go.Proofs.YthbbjbfbeaiphaaGreat
open Go.Kv
set_option linter.unusedVariables false
set_option linter.unusedSimpArgs false
attribute [local irreducible] ACall PCall KL
noncomputable def run (fs : List (List Nat)) (P : List Int) (w : List Int) : List Int := w.foldl (fun p k => img (fs.getD k.toNat []) p) P
def WdOk (fs : List (List Nat)) (P : List Int) (b : Nat) (x : Met) : Prop := x.1 = run fs P x.2 ∧ (∀ k ∈ x.2, 0 ≤ k ∧ k ≤ (fs.length : Int) - 1) ∧ x.2.length ≤ b
theorem advN_wd {fs : List (List Nat)} {P : List Int} {Q : List Met} {m : Met} (hQ : ∀ (j : Nat) x, Q[j]? = some x → WdOk fs P j x) (hm : WdOk fs P (Q.length - 1) m) (hpos : 1 ≤ Q.length) : ∀ k, k ≤ fs.length → ∀ (j : Nat) x, (advN fs img Q m k)[j]? = some x → WdOk fs P j x
 | 0, _, j, x, h => hQ j x h
 | k + 1, hk, j, x, h => by
  have ih := advN_wd hQ hm hpos k (by omega)
  rw [advN_succ] at h
  split at h
  ·exact ih j x h
  ·have hmono := advN_mono fs img Q m (Nat.zero_le k)
   have h0 : advN fs img Q m 0 = Q := rfl
   rw [h0] at hmono
   by_cases hj : j < (advN fs img Q m k).length
   ·rw [List.getElem?_append_left hj] at h
    exact ih j x h
   ·have hj2 := (List.getElem?_eq_some_iff.1 h).1
    simp only [List.length_append, List.length_cons, List.length_nil] at hj2
    have e : j = (advN fs img Q m k).length := by omega
    subst e
    rw [List.getElem?_append_right (Nat.le_refl _), Nat.sub_self] at h
    simp only [List.getElem?_cons_zero, Option.some.injEq] at h
    subst h
    obtain ⟨m1, m2, m3⟩ := hm
    refine ⟨?_, fun c hc => ?_, ?_⟩
    ·show img (fs.getD k []) m.1 = run fs P (m.2 ++ [(k : Int)])
     unfold run
     rw [List.foldl_append, m1]
     simp [run]
    ·rcases List.mem_append.1 hc with hc | hc
     ·exact m2 c hc
     ·rw [List.mem_singleton] at hc; subst hc; omega
    ·show (m.2 ++ [(k : Int)]).length ≤ _
     rw [List.length_append, List.length_singleton]
     omega
theorem wq_wd (fs : List (List Nat)) (P : List Int) : ∀ i (j : Nat) x, (wq fs P i)[j]? = some x → WdOk fs P j x
 | 0, j, x, h => by
  have h : ([((P, []) : Met)] : List Met)[j]? = some x := h
  have hj := (List.getElem?_eq_some_iff.1 h).1
  have e : j = 0 := by simpa using hj
  subst e
  simp only [List.getElem?_cons_zero, Option.some.injEq] at h
  subst h
  exact ⟨rfl, by simp, by simp⟩
 | i + 1, j, x, h => by
  have ih := wq_wd fs P i
  by_cases hi : i < (wq fs P i).length
  ·have e : wq fs P (i + 1) = advN fs img (wq fs P i) (wq fs P i)[i] fs.length := congrArg Prod.fst (bq_succ hi)
   rw [e] at h
   obtain ⟨a, b, c⟩ := ih i _ (List.getElem?_eq_getElem hi)
   exact advN_wd ih ⟨a, b, by omega⟩ (by omega) _ (Nat.le_refl _) j x h
  ·have e : wq fs P (i + 1) = wq fs P i := by
    show (bq fs img (fun (_ : Unit) _ => ()) ([(P, [])], ()) (i + 1)).1 = _
    rw [bq]
    have : (bq fs img (fun (_ : Unit) _ => ()) ([(P, [])], ()) i).1[i]? = none := List.getElem?_eq_none (Nat.le_of_not_lt hi)
    rw [this]
   rw [e] at h
   exact ih j x h
def mw (fs : List (List Nat)) (f0 : List Nat) (w : List Int) : List Nat := w.foldl (fun f k => mul f (fs.getD k.toNat [])) f0
theorem img_mul {f g : List Nat} {n : Nat} (hf : Ok f n) (hg : Ok g n) {P : List Int} (hP : asc n P) : img (mul f g) P = img g (img f P) := by
 have hfP := img_asc hf hP
 refine (bits_inj (img_asc (hf.mul hg) hP) (img_asc hg hfP)).1 ?_
 rw [bits_img hP, bits_img hfP]
 obtain ⟨l, rfl, _, hl, _⟩ := hP
 rw [toNat_map]
 have hgm : ∀ p, p < n → (mul f g).getD p 0 = g.getD (f.getD p 0) 0 := fun p hp => by
  have : p < f.length := by rw [hf.len]; exact hp
  simp [mul, List.getD_eq_getElem?_getD, this]
 refine sb_ext fun x => ?_
 simp only [List.mem_map]
 constructor
 ·rintro ⟨p, hp, rfl⟩
  refine ⟨f.getD p 0, ⟨(f.getD p 0 : Int), img_mem.2 ⟨p, by rw [toNat_map]; exact hp, rfl⟩, by simp⟩, (hgm p (hl p hp)).symm⟩
 ·rintro ⟨y, ⟨z, hz, rfl⟩, rfl⟩
  obtain ⟨p, hp, rfl⟩ := img_mem.1 hz
  rw [toNat_map] at hp
  exact ⟨p, hp, by rw [hgm p (hl p hp)]; simp⟩
theorem img_one {n : Nat} (h1 : 1 ≤ n) (h5 : n ≤ 5) {P : List Int} (hP : asc n P) : img (List.range n) P = P := by
 refine (bits_inj (img_asc (range_ok h1 h5) hP) hP).1 ?_
 rw [bits_img hP]
 obtain ⟨l, rfl, _, hl, _⟩ := hP
 unfold bits
 rw [toNat_map]
 congr 1
 conv => rhs; rw [← List.map_id l]
 exact List.map_congr_left fun x hx => by simp [List.getD_eq_getElem?_getD, hl x hx]
theorem mw_ok {fs : List (List Nat)} {n : Nat} (hf : ∀ f ∈ fs, Ok f n) : ∀ (w : List Int) (f0 : List Nat), Ok f0 n → (∀ k ∈ w, 0 ≤ k ∧ k ≤ (fs.length : Int) - 1) → Ok (mw fs f0 w) n
 | [], f0, h0, _ => h0
 | k :: w, f0, h0, hw => by
  have hk := hw k (by simp)
  have hm : fs.getD k.toNat [] ∈ fs := by
   have : k.toNat < fs.length := by omega
   rw [List.getD_eq_getElem?_getD, List.getElem?_eq_getElem this]; exact List.getElem_mem _
  exact mw_ok hf w _ (h0.mul (hf _ hm)) fun c hc => hw c (by simp [hc])
theorem mw_img {fs : List (List Nat)} {n : Nat} (hf : ∀ f ∈ fs, Ok f n) {P : List Int} (hP : asc n P) : ∀ (w : List Int) (f0 : List Nat), Ok f0 n → (∀ k ∈ w, 0 ≤ k ∧ k ≤ (fs.length : Int) - 1) → img (mw fs f0 w) P = run fs (img f0 P) w
 | [], f0, h0, _ => rfl
 | k :: w, f0, h0, hw => by
  have hk := hw k (by simp)
  have hm : fs.getD k.toNat [] ∈ fs := by
   have : k.toNat < fs.length := by omega
   rw [List.getD_eq_getElem?_getD, List.getElem?_eq_getElem this]; exact List.getElem_mem _
  have := mw_img hf hP w _ (h0.mul (hf _ hm)) fun c hc => hw c (by simp [hc])
  show img (mw fs (mul f0 (fs.getD k.toNat [])) w) P = run fs (img (fs.getD k.toNat []) (img f0 P)) w
  rw [this, img_mul h0 (hf _ hm) hP]
theorem word_to {fs : List (List Nat)} {n : Nat} (h1 : 1 ≤ n) (h5 : n ≤ 5) (hf : ∀ f ∈ fs, Ok f n) {P : List Int} (hP : asc n P) {i j : Nat} {x : Met} (h : (wq fs P i)[j]? = some x) : img (mw fs (List.range n) x.2) P = x.1 ∧ (∀ k ∈ x.2, 0 ≤ k ∧ k ≤ (fs.length : Int) - 1) ∧ x.2.length ≤ 32 := by
 obtain ⟨a, b, c⟩ := wq_wd fs P i j x h
 have hl := wq_len h5 hf hP i
 have hj := (List.getElem?_eq_some_iff.1 h).1
 refine ⟨?_, b, by omega⟩
 rw [mw_img hf hP _ _ (range_ok h1 h5) b, img_one h1 h5 hP, a]
end Go.Proofs.YthbbjbfbeaiphaaGreat
end
section
namespace Go.Proofs.YthbbjbfbeaiphaaGreat
open Go.Kv
set_option maxRecDepth 100000
def k41 : KC := (.seq (.ops [oP 2 (.mv (.c (.nils))), oP 3 (.mv (iC 0))])
 (.seq (.seq (.ops [mV 7 0, oP 8 (.call (fC 72) [(.t 7), (.c (.nils))]), mV 4 8])
 (.seq (.ops [mV 9 4, oP 10 (.bin .neq (.t 9) (iC 0))])
 (.cond (.t 10) (.seq (.ops [mV 11 4, oP 2 (.mv (.c (.nils))), mV 3 11])
 .ret) .skip)))
 (.seq (.ops [mV 12 0, mV 13 0, oP 14 (.idxS 6 (.t 13) (iC 0)), oP 15 (.fieldA 0 (.t 14)), oP 16 (.load false 1 (.t 15)), oP 17 (.call (fC 62) [(.t 16)]), oP 18 (.call (fC 106) [(.t 12), (.t 17)]), mV 5 18])
 (.seq (.ops [mV 19 5, oP 20 (.idxS 1 (.t 19) (iC 0)), oP 21 (.load false 1 (.t 20)), oP 22 (.len false (.t 21)), oP 6 (.alloc [.int .i64 0]), ⟨none, none, .store 1 (.t 6) (.t 22)⟩])
 (.seq (.ops [mV 23 5, oP 24 (.mkfn (.func 109) [] [(.t 6)]), oP 25 (.call (fC 108) [(.t 23), (.t 24)]), mV 2 25, oP 3 (.mv (iC 0))])
 .ret)))))
theorem e41 : Ent 41 26 [] [.t 2, .t 3] k41 := ent Tryz.func41 (by kernel_rfl) (by kernel_rfl) (by kernel_rfl) (fun _ => by kernel_rfl) (by kernel_rfl)
def k109 : KC := (.seq (.ops [oP 3 (.mv (.c (.bool false)))])
 (.seq (.ops [mV 4 0, oP 5 (.len false (.t 4)), oP 6 (.load false 1 (.t 1)), oP 7 (.bin .gtr (.t 5) (.t 6)), mV 3 7])
 .ret))
theorem e109 : Ent 109 8 [] [.t 3] k109 := ent Tryz.func109 (by kernel_rfl) (by kernel_rfl) (by kernel_rfl) (fun _ => by kernel_rfl) (by kernel_rfl)
end Go.Proofs.YthbbjbfbeaiphaaGreat
namespace Go.Proofs.YthbbjbfbeaiphaaGreat
open Go.Kv
set_option linter.unusedVariables false
set_option linter.unusedSimpArgs false
attribute [local irreducible] ACall PCall KL
section
variable {e2 e1 : TypeId} {σ : Heap} {id ver : Nat}
theorem delT {v : PV} {t : List (List Int)} (hT : TabN e2 e1 σ v t) (hf : Free σ) (hl : t.length ≤ 4294967296) (fid : FuncId) (caps caps' : List PV) (hc : ∀ c ∈ caps', PV.upto 0 c) (himc : ∀ σ' : Heap, (∀ (j : Nat) cs, σ[j]? = some (.box cs) → σ'[j]? = some (.box cs)) → ImmL σ' caps caps') (p : List Int → Bool) (hp : ∀ x ∈ t, Pure Tryz.prog fid (.list (ints x) :: caps') (.bool (p x))) :
  ACall Tryz.prog 108 [v, .fn (.func fid) [] caps] σ (fun v s => TabN e2 e1 s v (t.filter fun x => !p x) ∧ Free s) := by
 cases hT with
 | nil =>
  refine e108 (by simp) fun _ _ => ?_
  simp only [k108, argEnv, go_sem]
  refine (p155 [] hl fid caps' hc p hp).use (.int _ _) (.cons .nils (.cons (Imm.fnc _ (himc _ fun _ _ h => h)) (.nil _))) ?_
  try simp only [OpK_eq, go_sem]
  refine ⟨fun _ => Kv.Fin.now ⟨.nil, hf⟩, fun h => absurd rfl h⟩
 | tab id ver rs _ hG =>
 obtain ⟨junk, ho⟩ := hG.out
 obtain ⟨Z, rfl, rfl⟩ := tab_zip hG
 rw [pvs_unzip] at ho
 have hlt := hG.lt.1
 refine e108 (by simp) fun _ _ => ?_
 simp only [k108, argEnv, go_sem]
 refine (p155 _ hl fid caps' hc p hp).use (.int _ _) (.cons (hG.imm rfl) (.cons (Imm.fnc _ (himc _ fun _ _ h => h)) (.nil _))) ?_
 try simp only [OpK_eq, go_sem]
 have hll : (Z.map Prod.snd).length = Z.length := List.length_map ..
 have hself : ∀ o, (σ.set id o)[id]? = some o := fun o => List.getElem?_set_self hlt
 have hset : ∀ o o', (σ.set id o).set id o' = σ.set id o' := fun o o' => List.set_set ..
 have hbox : ∀ (o : AObj) (j : Nat) cs, σ[j]? = some (.box cs) → (σ.set id o)[j]? = some (.box cs) := fun o j cs hj => by rw [List.getElem?_set_ne (fun e => by subst e; rw [ho] at hj; cases hj)]; exact hj
 have h00 : σ.set id (.arr ver e2 1 (Z.map cv ++ junk)) = σ := List.ext_getElem? fun i => by
  by_cases h : id = i
  ·subst h; rw [hself, ho]
  ·rw [List.getElem?_set_ne h]
 have hfm : (Z.map Prod.snd).filter (fun x => !p x) = (Z.filter fun c => !p c.2).map Prod.snd := List.filter_map
 have ham : (Z.map Prod.snd).any p = Z.any fun c => p c.2 := List.any_map
 cases hany : Z.any (fun c => p c.2) with
 | false =>
  rw [idx_none (by rw [ham]; exact hany), hfm, filter_none hany]
  refine ⟨fun _ => Kv.Fin.now ⟨.tab _ _ _ _ hG, hf⟩, fun h => absurd rfl h⟩
 | true =>
  obtain ⟨i0, hi0, hno, hyes⟩ := any_split hany
  have hidx : idx p (Z.map Prod.snd) = i0 := idx_some (by rw [hll]; exact hi0) (by rw [← List.map_take, List.any_map]; exact hno) (by simpa using hyes)
  have hff := filter_take_succ (p := fun c : Rw × List Int => !p c.2) hi0
  rw [hyes, if_neg (by simp), filter_none hno, List.append_nil] at hff
  rw [hidx, hll]
  refine ⟨fun h => by omega, fun h => ⟨by omega, ?_⟩⟩
  refine KL_ind k108_b0.eq_1 (fun x : Nat × List (Rw × List Int) => [(0, .ref id ver 0 Z.length), (1, .fn (.func fid) [] caps), (5, .int .i64 ((Z.take x.1).filter fun c => !p c.2).length), (6, .int .i64 x.1)])
   (fun x => σ.set id (.arr ver e2 1 ((((Z.take x.1).filter fun c => !p c.2) ++ x.2 ++ Z.drop x.1).map cv ++ junk)))
   (fun x => x.1 ≤ Z.length ∧ ((Z.take x.1).filter fun c => !p c.2).length + x.2.length = x.1 ∧ 1 ≤ x.2.length) (fun x => Z.length - x.1) [0, 1, 5, 6] (i0 + 1, [Z[i0]]) ?_ ?_ ?_ fun ⟨x, J⟩ ⟨hx, hJ, hJ1⟩ ih => ?_
  ·rw [hff]
   simp [keep]; omega
  ·rw [hff]
   have e : Z.take i0 ++ [Z[i0]] ++ Z.drop (i0 + 1) = Z := by rw [← List.take_succ_eq_append_getElem hi0, List.take_append_drop]
   rw [e, h00]
  ·refine ⟨by show i0 + 1 ≤ Z.length; omega, ?_, by simp⟩
   rw [hff]; simp; omega
  ·simp only at hx hJ hJ1
   have hfx := fun h => filter_take_succ (p := fun c : Rw × List Int => !p c.2) (l := Z) (x := x) h
   generalize hF : (Z.take x).filter (fun c => !p c.2) = F at *
   have hdl : (Z.drop x).length = Z.length - x := by simp
   have hJe : J = J.headD (⟨true, 0, 0, [], []⟩, []) :: J.tail := by
    cases J with
    | nil => simp at hJ1
    | cons a J => rfl
   try simp only [OpK_eq, hself, hset, List.length_map, hdl, go_sem]
   refine ⟨fun h1 => ?_, fun h1 => ?_⟩
   ·have hxl : x < Z.length := by omega
    have hg : ((F ++ J ++ Z.drop x).map cv ++ junk)[x]? = some (cv Z[x]) := by
     rw [List.getElem?_append_left (by simp; omega), List.getElem?_map, List.getElem?_append_right (by simp; omega)]
     have : x - (F ++ J).length = 0 := by simp; omega
     rw [this, List.getElem?_drop, Nat.add_zero, List.getElem?_eq_getElem hxl]; rfl
    refine ⟨⟨h1, by omega⟩, by omega, fun q hq => ?_⟩
    rw [hg] at hq; cases hq
    rw [cv_cs]
    refine ⟨by simp, fun q hq => ?_⟩
    simp only [List.getElem?_cons_zero, Option.some.injEq] at hq; subst hq
    have hmem : Z[x].2 ∈ Z.map Prod.snd := List.mem_map.2 ⟨_, List.getElem_mem hxl, rfl⟩
    have hrow := hG.row x Z[x].1 Z[x].2 (by simp [hxl]) (by simp [hxl])
    have hne : Z[x].1.nil = false → Z[x].1.id ≠ id := fun hn => hG.ni _ (List.mem_map.2 ⟨_, List.getElem_mem hxl, rfl⟩) hn
    have himm := fun o => (hrow.keep (σ' := σ.set id o) fun hn => List.getElem?_set_ne (Ne.symm (hne hn))).imm
    try simp only [HKr, OpK_eq, go_sem]
    refine (hp _ hmem).use (.bool _) (.cons (himm _) (himc _ (hbox _))) ?_
    have hcs := cv_cs Z[x]
    have hok := cv_ok Z[x]
    have hpu := fun c y => cv_put c 0 y
    try simp only [HKr, OpK_eq, hself, hset, List.length_map, hdl, go_sem]
    have hJ0 : ((F ++ J ++ Z.drop x).map cv ++ junk)[F.length]? = some (cv (J.headD (⟨true, 0, 0, [], []⟩, []))) := by
     rw [List.getElem?_append_left (by simp; omega), List.getElem?_map, List.append_assoc, List.getElem?_append_right (Nat.le_refl _), Nat.sub_self, hJe]; rfl
    have hst : ((F ++ J ++ Z.drop x).map cv ++ junk).set F.length (cv Z[x]) = ((F ++ [Z[x]]) ++ J.tail ++ Z.drop x).map cv ++ junk := by
     rw [List.set_append_left _ _ (by simp; omega), ← List.map_set]
     congr 2
     rw [List.append_assoc, List.set_append_right _ _ (Nat.le_refl _), Nat.sub_self, hJe]
     simp
    refine ⟨fun h3 => ⟨⟨by omega, by omega⟩, ⟨by rw [hcs]; rfl, by rw [hcs]; exact hok, by omega⟩, fun q hq => ?_⟩, fun h3 => ⟨by omega, ?_⟩⟩
    ·rw [hJ0] at hq; cases hq
     rw [cv_cs, cv_put, hst]
     have hf1 := hfx hxl
     rw [if_pos (by simp [h3])] at hf1
     refine ⟨by simp, by omega, by omega, ih (x + 1, J.tail ++ [Z[x]]) ⟨by show x + 1 ≤ Z.length; omega, ?_, by simp⟩ (by show Z.length - (x + 1) < Z.length - x; omega) _ _ ?_ ?_⟩
     ·show ((Z.take (x + 1)).filter fun c => !p c.2).length + (J.tail ++ [Z[x]]).length = x + 1
      rw [hf1]
      simp only [List.length_append, List.length_tail, List.length_cons, List.length_nil]; omega
     ·simp [keep, hf1]
     ·rw [hf1, List.drop_eq_getElem_cons hxl]; simp
    ·have hf1 := hfx hxl
     rw [if_neg (by simp [h3]), List.append_nil] at hf1
     refine ih (x + 1, J ++ [Z[x]]) ⟨by show x + 1 ≤ Z.length; omega, ?_, by simp⟩ (by show Z.length - (x + 1) < Z.length - x; omega) _ _ ?_ ?_
     ·show ((Z.take (x + 1)).filter fun c => !p c.2).length + (J ++ [Z[x]]).length = x + 1
      rw [hf1]
      simp only [List.length_append, List.length_cons, List.length_nil]; omega
     ·simp [keep, hf1]
     ·rw [hf1, List.drop_eq_getElem_cons hxl]; simp
   ·obtain rfl : x = Z.length := by omega
    rw [List.take_length] at hF
    have hle : F.length ≤ Z.length := by omega
    have e1 : ((F ++ J ++ Z.drop Z.length).map cv ++ junk).take F.length = F.map cv := by
     rw [List.drop_length, List.append_nil, List.map_append, List.append_assoc, List.take_left' (by simp)]
    have e2 : ((F ++ J ++ Z.drop Z.length).map cv ++ junk).drop (F.length + (Z.length - F.length)) = junk := by
     rw [List.drop_left' (by simp; omega)]
    rw [e1, e2, hfm, hF, Nat.sub_zero]
    refine ⟨by omega, by omega, by omega, Kv.Fin.now ⟨?_, ?_⟩⟩
    ·have hs : F.Sublist Z := by rw [← hF]; exact List.filter_sublist
     have := tab_sub hG hs (List.replicate (Z.length - F.length) PV.nils ++ junk)
     rw [← List.append_assoc] at this
     have h2 := TabN.tab _ _ _ _ this
     rwa [List.length_map] at h2
    ·intro o hm
     rcases List.mem_or_eq_of_mem_set hm with hm | rfl
     ·exact hf o hm
     ·intro c hc
      have hjf := hf _ (List.mem_of_getElem? ho)
      have hjf : ∀ c ∈ flat (Z.map cv ++ junk), c.free := hjf
      simp only [flat, List.flatMap_append, List.mem_append] at hc hjf
      rcases hc with (hc | hc) | hc
      ·obtain ⟨y, hy, hcy⟩ := List.mem_flatMap.1 hc
       obtain ⟨z, _, rfl⟩ := List.mem_map.1 hy
       rw [cv_cs] at hcy
       simp only [List.mem_singleton] at hcy; subst hcy
       exact cv_free z
      ·obtain ⟨y, hy, hcy⟩ := List.mem_flatMap.1 hc
       obtain ⟨_, rfl⟩ := List.mem_replicate.1 hy
       simp only [PV.cs, List.mem_singleton] at hcy; subst hcy
       exact Plain.nils.fr
      ·exact hjf c (.inr hc)
end
theorem p1541 (fs : List (List Nat)) (n : Nat) (hn5 : n ≤ 5) (hf : ∀ f ∈ fs, Ok f n) (hfl : fs.length ≤ 1000) (o : AObj) (ho : o.free) (p : List Int) (hp : asc n p) (ver : Nat) (post : List Int) (K : PV → Heap → Prop)
  (hK : ∀ i, i = (bl fs img p i).length → ∀ v s, TabN 27 2 s v (rst fs p i) → Free s → K v s) :
  ACall Tryz.prog 154 [.list (aggs (fs.map mp)), .ref 1 ver 0 p.length] [o, .arr ver 2 1 (ints (p ++ post))] K := by
 refine e154 (by simp) fun _ _ => ?_
 simp only [k154, argEnv, go_sem]
 try simp only [OpK_eq, go_sem]
 refine search_own fs n hn5 hf hfl 2 p hp _ 32 (by omega) (fun i => by rw [bl_wq]; exact wq_len hn5 hf hp i) _ ⟨rfl, rfl⟩ ⟨1, ver, post, rfl, rfl, ?_⟩ ?_ _ fun i hi x us σ hI hlu hO hnd hF => ?_
 ·rintro (h | h) <;> cases h
 ·intro o' ho'
  simp only [List.mem_cons, List.not_mem_nil, or_false] at ho'
  rcases ho' with rfl | rfl | rfl
  ·assumption
  ·exact free_ints _
  ·exact free_box1 Plain.nils.fr
 ·have hK' := hK i hi
  clear hK
  have hlr : us.length = (rst fs p i).length := by rw [hlu, rst, List.length_map]
  obtain ⟨rs, r1, r2, r3, r4⟩ := rows_pick (σ := σ) (A := SU 2 x) (us := us) (t := rst fs p i) hlr fun j u q hu hq => by
   rw [rst, List.getElem?_map, Option.map_eq_some_iff] at hq
   obtain ⟨m, hm, rfl⟩ := hq
   exact hO j u m hu hm
  cases x with
  | none =>
   obtain ⟨h1, h2⟩ := hI
   subst h2
   try simp only [OpK_eq, HKv, h1, go_sem]
   have e : rst fs p i = [] := List.eq_nil_of_length_eq_zero (by rw [← hlr]; rfl)
   exact Kv.Fin.now (hK' _ _ (by rw [e]; exact .nil) hF)
  | some id =>
   obtain ⟨vr, h1, h2, h3⟩ := hI
   try simp only [OpK_eq, HKv, h1, go_sem]
   refine Kv.Fin.now (hK' _ _ ?_ hF)
   rw [hlr]
   refine .tab id vr rs _ ⟨⟨[], by rw [r2, List.append_nil]; exact h2⟩, r1, fun j r l hr hl => (r3 j r l hr hl).1, fun a b r q hr hq _ _ he => ?_, fun r hr hn e => ?_⟩
   ·have hnd2 := hnd
    rw [← r4] at hnd2
    have hpw := List.pairwise_iff_getElem.1 (List.nodup_iff_pairwise_ne.1 hnd2)
    obtain ⟨ha1, ha2⟩ := List.getElem?_eq_some_iff.1 hr
    obtain ⟨hb1, hb2⟩ := List.getElem?_eq_some_iff.1 hq
    have hne : ∀ (a b : Nat) (ha : a < rs.length) (hb : b < rs.length), a < b → rs[a].id ≠ rs[b].id := fun a b ha hb hab => by
     have := hpw a b (by simpa using ha) (by simpa using hb) hab
     simpa using this
    rcases Nat.lt_trichotomy a b with h | h | h
    ·exact absurd (by rw [ha2, hb2]; exact he) (hne a b ha1 hb1 h)
    ·exact h
    ·exact absurd (by rw [ha2, hb2]; exact he.symm) (hne b a hb1 ha1 h)
   ·obtain ⟨j, hj⟩ := List.getElem?_of_mem hr
    have hjt : j < (rst fs p i).length := by rw [← r1]; exact (List.getElem?_eq_some_iff.1 hj).1
    exact (r3 j r _ hj (List.getElem?_eq_getElem hjt)).2.2 (.inr (by rw [e]))
theorem p1061 (fs : List (List Nat)) (n : Nat) (h5 : n ≤ 5) (hf : ∀ f ∈ fs, Ok f n) (hfl : fs.length ≤ 1000) (x v0 k0 : Nat) (hk0 : k0 = (nz (pof x n)).length) (h1 : 1 ≤ x) (hx : x < 2 ^ n) :
  ACall Tryz.prog 106 [.list (aggs (fs.map mp)), .ref 0 v0 0 k0] [.arr v0 2 1 (ints (nz (pof x n)))] (fun v s => TabN 27 2 s v (rowsB (imS fs n x)) ∧ Free s) := by
 have hp := asc_pof h1 hx
 have hpl := asc_len hp
 have hne := pof_ne h1 hx
 refine e106 (by simp) fun _ _ => ?_
 simp only [k106, argEnv, go_sem]
 refine ACall.lend (p51P (nz (pof x n)) (by omega)) (.cons (Imm.refn (l := nz (pof x n)) rfl hk0) (.nil _)) fun v s hv => ?_
 rcases hv with ⟨rfl, rfl⟩ | ⟨hl0, rfl, rfl⟩
 ·refine ⟨⟨free_ref _ _ _ _, Free.ints _ _ _ _⟩, ?_⟩
  try simp only [OpK_eq, HKv, ren_ref, ren_arr, ren_ints, List.nil_append, List.cons_append, go_sem]
  have e0 : nz (pof x n) = nz (pof x n) ++ [] := by simp
  have hR := p1541 fs n h5 hf hfl (.arr v0 2 1 (ints (nz (pof x n)))) (free_ints _) (nz (pof x n)) hp 1 []
  rw [List.append_nil] at hR
  refine hR _ fun i hi v s hT hF => ?_
  have hra := rst_asc hf hp (i := i)
  have hlen : (rst fs (nz (pof x n)) i).length ≤ 32 := by
   rw [rst, bl_wq, List.length_map]; exact wq_len h5 hf hp i
  have hpm : nz (pof x n) ∈ rst fs (nz (pof x n)) i := (rst_mem hi _).2 .here
  try simp only [OpK_eq, HKv, go_sem]
  refine tab_sort hT hF (List.length_pos_of_mem hpm) (by omega) (fun l hl => ?_) fun t' s' q1 q2 q3 q4 _ => ?_
  ·have h := asc_len (hra.1 l hl)
   exact ⟨fun e => by rw [e] at h; simp at h, by omega⟩
  ·try simp only [OpK_eq, HKv, go_sem]
   have e : t' = rowsB (imS fs n x) := by
    refine rowsB_uniq (imS_srt h5) (q2.nodup_iff.2 hra.2) (fun r => ?_) q3
    rw [q2.mem_iff, rst_mem hi, Rb_Rc hf h1 hx, rowsB, List.mem_map]
    constructor
    ·rintro ⟨y, hy, rfl⟩
     exact ⟨y, (imS_mem h5 hf h1 hx y).2 hy, by rw [pof62 h5 (hy.bnd hf h1 hx).2]⟩
    ·rintro ⟨y, hy, rfl⟩
     have hy := (imS_mem h5 hf h1 hx y).1 hy
     exact ⟨y, hy, by rw [pof62 h5 (hy.bnd hf h1 hx).2]⟩
   rw [e] at q1
   exact Kv.Fin.now ⟨q1, q4⟩
 ·exact absurd hl0 (by unfold nz; simpa using hne)
theorem p109 (l : List Int) (k : Nat) : Pure Tryz.prog 109 [.list (ints l), .fptr [.int .i64 k] 0] (.bool (decide ((k : Int) < (l.length : Int)))) := by
 refine e109 (by simp) fun _ _ => ?_
 simp only [k109, argEnv, go_sem]
 try simp only [OpK_eq, HKv, go_sem]
 exact Kv.Fin.still ⟨rfl, rfl⟩
theorem pof_full (n : Nat) : pof (2 ^ n - 1) n = List.range n := by
 unfold pof
 refine List.filter_eq_self.2 fun i hi => ?_
 rw [Nat.testBit_two_pow_sub_one]
 simpa using hi
theorem srt_first {S : List Nat} (hS : Srt S) {b : Nat} (hb : b ∈ S) : (pof (S.getD 0 0) 62).length ≤ (pof b 62).length := by
 cases S with
 | nil => cases hb
 | cons a S =>
  show (pof a 62).length ≤ _
  rcases List.mem_cons.1 hb with rfl | hb
  ·exact Nat.le_refl _
  ·have h := (List.pairwise_cons.1 hS.1).1 b hb
   unfold bef at h
   have h := of_decide_eq_true h
   have e1 := nz_len (pof a 62)
   have e2 := nz_len (pof b 62)
   refine Classical.byContradiction fun hn => ?_
   have hcI : cI (nz (pof a 62)).length (nz (pof b 62)).length = 1 := by
    unfold cI
    (repeat' split) <;> omega
   unfold stc at h
   rw [hcI] at h
   have : orV 1 (slc (nz (pof a 62)) (nz (pof b 62))) = 1 := rfl
   omega
theorem p41_in (fs : List (List Nat)) (n : Nat) (hf : ∀ f ∈ fs, Ok f n) (h0 : 0 < fs.length) (hfl : fs.length ≤ 6) (hl : lcode (fs.map mp) [] = 0) : NewTO Tryz.prog 41 [.list (aggs (fs.map mp))] 27 2 ((rowsB (imS fs n (2 ^ n - 1))).filter fun r => !decide (((pof ((imS fs n (2 ^ n - 1)).getD 0 0) 62).length : Int) < (r.length : Int))) 0 := by
 have hk := hf _ (List.getElem_mem h0)
 have h6k := hk.mp_len
 have h5 := hk.le
 have h1 := hk.pos
 have h32 := pw5 h5
 have hn : (mp fs[0]).getD 0 0 = (n : Int) := by simp [mp, mpN, hk.len]
 have h2n : 2 ≤ 2 ^ n := by
  have := Nat.pow_le_pow_right (show 0 < 2 by omega) h1
  simpa using this
 have hS := imS_srt (fs := fs) (x := 2 ^ n - 1) h5
 have hSm := imS_mem (fs := fs) (x := 2 ^ n - 1) h5 hf (by omega) (by omega)
 have hSb := fun b hb => ((hSm b).1 hb).bnd hf (by omega) (by omega)
 have hSl := srt_len5 hS h5 fun b hb => (hSb b hb).2
 have hpos : 0 < (imS fs n (2 ^ n - 1)).length := List.length_pos_of_mem ((hSm _).2 .here)
 have hpf : pts n = nz (pof (2 ^ n - 1) n) := by rw [pof_full]; rfl
 have hpn : (nz (pof (2 ^ n - 1) n)).length = n := by rw [nz_len, pof_full, List.length_range]
 refine NewTN.own ?_
 unfold NewTN
 refine e41 (by simp) fun _ _ => ?_
 simp only [k41, argEnv, go_sem]
 refine (p72 _ (fs.map mp) [] .nil (by simp; omega) (by simp) (fun r hr => by obtain ⟨f, hf', rfl⟩ := List.mem_map.1 hr; exact (hf f hf').mp_len) (by simp)).go ?_
 rw [hl]
 try simp only [OpK_eq, HKv, map_getD h0, h6k, hn, List.length_map, go_sem]
 refine ⟨by omega, fun _ => ?_⟩
 refine (p62 n (by omega)).mono fun v1 s1 ⟨hv1, hs1⟩ => ?_
 subst hv1; subst hs1
 rw [hpf]
 try simp only [OpK_eq, HKv, go_sem]
 refine (p1061 fs n h5 hf (by omega) (2 ^ n - 1) (n - 1) _ rfl (by omega) (by omega)).mono fun v s ⟨q1, q2⟩ => ?_
 generalize imS fs n (2 ^ n - 1) = S at *
 have hrl : (rowsB S).length = S.length := List.length_map _
 have hr0 : (rowsB S)[0]? = some (nz (pof (S.getD 0 0) 62)) := by
  rw [rowsB, List.getElem?_map, getD_some hpos]; rfl
 have hS0 := hSb _ (getD_mem hpos 0)
 have hne : nz (pof (S.getD 0 0) 62) ≠ [] := by
  rw [pof62 h5 hS0.2]
  intro e
  exact pof_ne hS0.1 hS0.2 (by unfold nz at e; simpa using e)
 generalize hT : rowsB S = T at *
 cases q1 with
 | nil => simp at hr0
 | tab id ver rs _ hG =>
  obtain ⟨junk, ho⟩ := hG.out
  have hpl := pvs_length hG.len
  have hrs : 0 < rs.length := by rw [hG.len]; omega
  have hrow := hG.row 0 rs[0] _ (List.getElem?_eq_getElem hrs) hr0
  have hnn : rs[0].nil = false := by
   cases hc : rs[0].nil with
   | false => rfl
   | true => exact absurd (hrow.nl hc) hne
  have hcell : (pvs rs T ++ junk)[0]? = some (.ref rs[0].id rs[0].ver rs[0].pre.length (nz (pof (S.getD 0 0) 62)).length) := by
   rw [List.getElem?_append_left (by omega), pvs, List.getElem?_zipWith, List.getElem?_eq_getElem hrs, hr0]
   simp [Rw.pv, hnn]
  have hro := hrow.ow hnn
  try simp only [OpK_eq, HKv, ho, go_sem]
  refine ⟨⟨by omega, by omega⟩, by omega, fun c hc => ?_⟩
  rw [hcell] at hc; cases hc
  refine ⟨by simp [PV.cs], fun c hc => ?_⟩
  simp only [PV.cs, List.getElem?_cons_zero, Option.some.injEq] at hc
  subst hc
  have hput : ∀ v, putC [PV.int .i64 0] 0 [v] = [v] := fun v => by unfold putC; first | rfl | (split <;> rfl) | simp
  have hgb : ∀ (s : Heap) (a : AObj), (s ++ [a])[s.length]? = some a := fun s a => by simp
  have hsb : ∀ (s : Heap) (a b : AObj), (s ++ [a]).set s.length b = s ++ [b] := fun s a b => by simp [List.set_append_right]
  try simp only [OpK_eq, HKv, hro, hgb, hsb, hput, go_sem]
  rw [nz_len]
  generalize hk : (pof (S.getD 0 0) 62).length = k at *
  have hD := delT (σ := s ++ [.box [.int .i64 k]]) ((TabN.tab id ver rs T hG).append _) (q2.append (Free.boxI [(k : Int)])) (by omega) 109 [.ptr s.length 0] [.fptr [.int .i64 k] 0] (StillL.up inferInstance) (fun σ' hσ => .cons (Imm.ptr1 (hσ _ _ (hgb _ _)) rfl Imm.still) (.nil _)) (fun r => decide ((k : Int) < (r.length : Int))) (fun r hr => p109 r k)
  refine hD.mono fun v s2 ⟨q3, q4⟩ => ?_
  try simp only [OpK_eq, HKv, go_sem]
  exact Kv.Fin.now ⟨v, rfl, q3, q4⟩
theorem p41_out (a : List (List Int)) (ha : a.length ≤ 1048576) (h6 : ∀ r ∈ a, r.length = 6) (hc : lcode a [] ≠ 0) : Pure Tryz.prog 41 [.list (aggs a)] (.tup [.nils, .int .i64 (lcode a [])]) := by
 refine e41 (by simp) fun _ _ => ?_
 simp only [k41, argEnv, go_sem]
 refine (p72 _ a [] .nil ha (by simp) h6 (by simp)).go ?_
 try simp only [OpK_eq, HKv, go_sem]
 exact ⟨fun h1 => Kv.Fin.still ⟨rfl, rfl⟩, fun h1 => absurd h1 hc⟩
end Go.Proofs.YthbbjbfbeaiphaaGreat
end
section
namespace Go.Proofs.YthbbjbfbeaiphaaGreat
open Go.Kv
set_option linter.unusedVariables false
set_option linter.unusedSimpArgs false
attribute [local irreducible] ACall PCall KL
theorem nodup_sub {α : Type} [DecidableEq α] : ∀ (A B : List α), A.Nodup → (∀ a ∈ A, a ∈ B) → A.length ≤ B.length
 | [], _, _, _ => Nat.zero_le _
 | a :: A, B, hd, h => by
  have ha := h a (by simp)
  have hd := List.nodup_cons.1 hd
  have := nodup_sub A (B.erase a) hd.2 fun b hb => by
   have hne : b ≠ a := fun e => hd.1 (by rw [← e]; exact hb)
   exact (List.mem_erase_of_ne hne).2 (h b (by simp [hb]))
  rw [List.length_erase_of_mem ha] at this
  have hp := List.length_pos_of_mem ha
  rw [List.length_cons]; omega
def rkn (f : List Nat) (n : Nat) : Nat := (imgs f (List.range n)).length
theorem full_pos {n : Nat} (h1 : 1 ≤ n) : 1 ≤ 2 ^ n - 1 ∧ 2 ^ n - 1 < 2 ^ n := by
 have := Nat.pow_le_pow_right (by decide : 0 < 2) h1
 simp only [Nat.pow_one] at this
 omega
theorem rkn_pof {f : List Nat} {n : Nat} (hf : Ok f n) : rkn f n = (pof (mvb f n (2 ^ n - 1)) 62).length := by
 obtain ⟨p1, p2⟩ := full_pos hf.pos
 have h := img_pof hf p1 p2
 rw [pof_full, img, nz, toNat_map] at h
 have hl := congrArg List.length h
 rw [nz_len] at hl
 rw [pof62 hf.le (mvb_lt hf _)]
 exact hl
theorem rkn_mid {x g y : List Nat} {n : Nat} (hx : Ok x n) (hg : Ok g n) (hy : Ok y n) : rkn (mul x (mul g y)) n ≤ rkn g n := by
 unfold rkn
 have hgy := hg.mul hy
 have hnd : (imgs (mul x (mul g y)) (List.range n)).Nodup := by
  rw [List.nodup_iff_pairwise_ne]
  exact (cpt_asc _ (srt_sorted _)).imp fun h => by omega
 have h := nodup_sub _ ((imgs g (List.range n)).map fun b : Int => ((y.getD b.toNat 0 : Nat) : Int)) hnd fun a ha => by
  obtain ⟨p, hp, rfl⟩ := img_mem.1 ha
  have hp := List.mem_range.1 hp
  have e1 : (mul x (mul g y)).getD p 0 = (mul g y).getD (x.getD p 0) 0 := by
   have : p < x.length := by rw [hx.len]; exact hp
   simp [mul, List.getD_eq_getElem?_getD, this]
  have hxp := hx.get hp
  have e2 : (mul g y).getD (x.getD p 0) 0 = y.getD (g.getD (x.getD p 0) 0) 0 := by
   generalize x.getD p 0 = z at *
   have : z < g.length := by rw [hg.len]; exact hxp
   simp [mul, List.getD_eq_getElem?_getD, this]
  rw [e1, e2]
  exact List.mem_map.2 ⟨(g.getD (x.getD p 0) 0 : Int), img_mem.2 ⟨x.getD p 0, List.mem_range.2 hxp, rfl⟩, by simp⟩
 rwa [List.length_map] at h
theorem mvb_mul {f g : List Nat} {n x : Nat} (hf : Ok f n) : mvb (mul f g) n x = mvb g n (mvb f n x) := by
 unfold mvb
 refine sb_ext fun z => ?_
 have hgm : ∀ p, p < n → (mul f g).getD p 0 = g.getD (f.getD p 0) 0 := fun p hp => by
  have : p < f.length := by rw [hf.len]; exact hp
  simp [mul, List.getD_eq_getElem?_getD, this]
 simp only [List.mem_map]
 constructor
 ·rintro ⟨p, hp, rfl⟩
  have hpn := pof_mlt hp
  refine ⟨f.getD p 0, ?_, (hgm p hpn).symm⟩
  unfold pof
  rw [List.mem_filter, List.mem_range, sb_test]
  exact ⟨hf.get hpn, decide_eq_true (List.mem_map.2 ⟨p, hp, rfl⟩)⟩
 ·rintro ⟨y, hy, rfl⟩
  unfold pof at hy
  rw [List.mem_filter, List.mem_range, sb_test] at hy
  obtain ⟨p, hp, rfl⟩ := List.mem_map.1 (of_decide_eq_true hy.2)
  exact ⟨p, hp, hgm p (pof_mlt hp)⟩
theorem mvb_one {n : Nat} {x : Nat} (h : x < 2 ^ n) : mvb (List.range n) n x = x := by
 unfold mvb
 have : (pof x n).map (fun p => (List.range n).getD p 0) = pof x n := by
  conv => rhs; rw [← List.map_id (pof x n)]
  exact List.map_congr_left fun p hp => by have := pof_mlt hp; simp [List.getD_eq_getElem?_getD, this]
 rw [this, pof_lt h]
theorem rc_rch {fs : List (List Nat)} {n : Nat} (h1 : 1 ≤ n) (h5 : n ≤ 5) (hf : ∀ f ∈ fs, Ok f n) (y : Nat) : Rc fs n (2 ^ n - 1) y ↔ ∃ f, Rch fs n f ∧ y = mvb f n (2 ^ n - 1) := by
 obtain ⟨p1, p2⟩ := full_pos h1
 constructor
 ·intro h
  induction h with
  | here => exact ⟨_, .one, (mvb_one p2).symm⟩
  | step f z hfm _ ih =>
   obtain ⟨g, hg, rfl⟩ := ih
   exact ⟨_, .step g f hg hfm, (mvb_mul (hg.ok h1 h5 hf)).symm⟩
 ·rintro ⟨f, hr, rfl⟩
  induction hr with
  | one => rw [mvb_one p2]; exact .here
  | step g f hg hfm ih =>
   rw [mvb_mul (hg.ok h1 h5 hf)]
   exact .step f _ hfm ih
def Idl (S : List (List Nat)) (f : List Nat) : Prop := ∀ i ∈ S, ∃ x ∈ S, ∃ y ∈ S, f = mul x (mul i y)
theorem idl_some {n : Nat} {S : List (List Nat)} (hM : Mnd n S) : ∃ f ∈ S, Idl S f := by
 have hO := hM.srm.1
 have key : ∀ l : List (List Nat), (∀ i ∈ l, i ∈ S) → ∃ z ∈ S, ∀ i ∈ l, ∃ x ∈ S, ∃ y ∈ S, z = mul x (mul i y) := fun l => by
  induction l with
  | nil => exact fun _ => ⟨_, hM.one, by simp⟩
  | cons a l ih =>
   intro hl
   have ha := hl a (by simp)
   obtain ⟨z, hz, h⟩ := ih fun i hi => hl i (by simp [hi])
   refine ⟨mul a z, hM.mul _ _ ha hz, fun i hi => ?_⟩
   rcases List.mem_cons.1 hi with rfl | hi
   ·exact ⟨_, hM.one, z, hz, by rw [one_mul (hO _ (hM.mul _ _ ha hz))]⟩
   ·obtain ⟨x, hx, y, hy, rfl⟩ := h i hi
    refine ⟨mul a x, hM.mul _ _ ha hx, y, hy, ?_⟩
    have hiS := hl i (by simp [hi])
    rw [mul_assoc (hO _ ha) (hO _ hx) (hO _ (hM.mul _ _ hiS hy))]
 exact key S fun _ h => h
theorem idl_rank {fs : List (List Nat)} {n : Nat} (h1 : 1 ≤ n) (h5 : n ≤ 5) (hf : ∀ f ∈ fs, Ok f n) {S : List (List Nat)} (hS : ∀ f, f ∈ S ↔ Rch fs n f) {f : List Nat} (hfm : f ∈ S) (hI : Idl S f) : rkn f n = (pof ((imS fs n (2 ^ n - 1)).getD 0 0) 62).length := by
 obtain ⟨p1, p2⟩ := full_pos h1
 have hmem := imS_mem h5 hf p1 p2
 have hsrt := imS_srt (fs := fs) (n := n) (x := 2 ^ n - 1) h5
 have hok : ∀ g ∈ S, Ok g n := fun g hg => ((hS g).1 hg).ok h1 h5 hf
 have h0 : 0 < (imS fs n (2 ^ n - 1)).length := List.length_pos_of_mem ((hmem _).2 .here)
 have hfirst : (imS fs n (2 ^ n - 1)).getD 0 0 ∈ imS fs n (2 ^ n - 1) := by
  rw [List.getD_eq_getElem?_getD, List.getElem?_eq_getElem h0]; exact List.getElem_mem _
 obtain ⟨g, hg, e⟩ := (rc_rch h1 h5 hf _).1 ((hmem _).1 hfirst)
 have hgS := (hS g).2 hg
 have hlow : (pof ((imS fs n (2 ^ n - 1)).getD 0 0) 62).length ≤ rkn f n := by
  rw [rkn_pof (hok f hfm)]
  exact srt_first hsrt ((hmem _).2 ((rc_rch h1 h5 hf _).2 ⟨f, (hS f).1 hfm, rfl⟩))
 obtain ⟨x, hx, y, hy, ef⟩ := hI g hgS
 have hup : rkn f n ≤ rkn g n := by rw [ef]; exact rkn_mid (hok x hx) (hok g hgS) (hok y hy)
 rw [rkn_pof (hok g hgS), ← e] at hup
 omega
end Go.Proofs.YthbbjbfbeaiphaaGreat
end
