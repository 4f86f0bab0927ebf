/- Counts by rank: the implementation's rows walked. -/
import Derived.Test.YtpfapiiinkkcgaaGreatCb
import Derived.Test.YtpfapiiinkkcgaaGreatG2
import Derived.Test.YtpfapiiinkkcgaaGreatG1
namespace Go.Proofs.YtpfapiiinkkcgaaGreat
open Go.Kv
set_option maxRecDepth 100000
/- spec.CountByRank -/
/- live [0, 4, 5, 6, 7] -/
def k9_b0 : KC := (.seq (.seq (.ops [⟨(some 24), none, .mv (.t 7)⟩, ⟨(some 25), none, .mv (.t 0)⟩, ⟨(some 26), none, .bin .leq (.t 24) (.t 25)⟩])
  (.cond (.t 26) .skip (.exit 2)))
  (.seq (.block 3 (.seq (.draw [⟨(some 29), none, .mv (.t 6)⟩, ⟨(some 30), none, .mv (.t 7)⟩, ⟨(some 31), none, .mv (.t 6)⟩, ⟨(some 32), none, .mv (.t 7)⟩, ⟨(some 33), none, .idxS 1 (.t 31) (.t 32)⟩, ⟨(some 34), none, .load false 1 (.t 33)⟩, ⟨(some 35), none, .mv (.t 4)⟩, ⟨(some 36), none, .mv (.t 7)⟩, ⟨(some 37), none, .idxS 1 (.t 35) (.t 36)⟩, ⟨(some 38), none, .load false 1 (.t 37)⟩, ⟨(some 39), none, .mv (.t 7)⟩, ⟨(some 40), none, .bin .mul (.t 38) (.t 39)⟩, ⟨(some 41), none, .bin .add (.t 34) (.t 40)⟩, ⟨(some 42), none, .idxS 1 (.t 29) (.t 30)⟩, ⟨none, none, .store 1 (.t 42) (.t 41)⟩])
  (.seq (.ops [⟨(some 43), none, .mv (.t 7)⟩, ⟨(some 44), none, .mv (.t 0)⟩, ⟨(some 45), none, .bin .lss (.t 43) (.t 44)⟩])
  (.cond (.t 45) (.draw [⟨(some 46), none, .mv (.t 6)⟩, ⟨(some 47), none, .mv (.t 7)⟩, ⟨(some 48), none, .bin .add (.t 47) (.c (.int .i64 1))⟩, ⟨(some 49), none, .mv (.t 6)⟩, ⟨(some 50), none, .mv (.t 7)⟩, ⟨(some 51), none, .bin .add (.t 50) (.c (.int .i64 1))⟩, ⟨(some 52), none, .idxS 1 (.t 49) (.t 51)⟩, ⟨(some 53), none, .load false 1 (.t 52)⟩, ⟨(some 54), none, .mv (.t 4)⟩, ⟨(some 55), none, .mv (.t 7)⟩, ⟨(some 56), none, .idxS 1 (.t 54) (.t 55)⟩, ⟨(some 57), none, .load false 1 (.t 56)⟩, ⟨(some 58), none, .mv (.t 0)⟩, ⟨(some 59), none, .mv (.t 7)⟩, ⟨(some 60), none, .bin .sub (.t 58) (.t 59)⟩, ⟨(some 61), none, .bin .mul (.t 57) (.t 60)⟩, ⟨(some 62), none, .bin .add (.t 53) (.t 61)⟩, ⟨(some 63), none, .idxS 1 (.t 46) (.t 48)⟩, ⟨none, none, .store 1 (.t 63) (.t 62)⟩]) .skip))))
  (.ops [⟨(some 27), none, .mv (.t 7)⟩, ⟨(some 28), none, .bin .add (.t 27) (.c (.int .i64 1))⟩, ⟨(some 7), none, .mv (.t 28)⟩])))
/- live [0, 4, 5] -/
def k9_b1 : KC := (.seq (.seq (.ops [⟨(some 16), none, .mv (.t 5)⟩, ⟨(some 17), none, .mv (.t 0)⟩, ⟨(some 18), none, .bin .lss (.t 16) (.t 17)⟩])
  (.cond (.t 18) .skip (.exit 0)))
  (.seq (.block 1 (.seq (.ops [⟨(some 21), none, .mv (.t 0)⟩, ⟨(some 22), none, .bin .add (.t 21) (.c (.int .i64 1))⟩, ⟨(some 23), none, .mks 2 1 (.int .i64 0) (.t 22) (.t 22)⟩, ⟨(some 6), none, .mv (.t 23)⟩])
  (.seq (.seq (.ops [⟨(some 7), none, .mv (.c (.int .i64 0))⟩])
  (.block 2 (.loop k9_b0)))
  (.ops [⟨(some 64), none, .mv (.t 6)⟩, ⟨(some 4), none, .mv (.t 64)⟩]))))
  (.ops [⟨(some 19), none, .mv (.t 5)⟩, ⟨(some 20), none, .bin .add (.t 19) (.c (.int .i64 1))⟩, ⟨(some 5), none, .mv (.t 20)⟩])))
def k9 : KC := (.seq (.ops [⟨(some 2), none, .mv (.c (.nils))⟩, ⟨(some 3), none, .mv (.c (.int .i64 0))⟩])
  (.seq (.seq (.ops [⟨(some 8), none, .mv (.t 0)⟩, ⟨(some 9), none, .call (.c (.fn (.func 71) [] [])) [(.t 8), (.c (.int .i64 1)), (.c (.int .i64 12))]⟩, ⟨(some 10), none, .not (.t 9)⟩])
  (.cond (.t 10) (.seq (.ops [⟨(some 2), none, .mv (.c (.nils))⟩, ⟨(some 3), none, .mv (.c (.int .i64 2))⟩])
  .ret) .skip))
  (.seq (.ops [⟨(some 11), none, .mv (.t 0)⟩, ⟨(some 12), none, .bin .add (.t 11) (.c (.int .i64 1))⟩, ⟨(some 13), none, .mks 2 1 (.int .i64 0) (.t 12) (.t 12)⟩, ⟨(some 4), none, .mv (.t 13)⟩])
  (.seq (.ops [⟨(some 14), none, .mv (.t 4)⟩, ⟨(some 15), none, .idxS 1 (.t 14) (.c (.int .i64 0))⟩, ⟨none, none, .store 1 (.t 15) (.c (.int .i64 1))⟩])
  (.seq (.seq (.ops [⟨(some 5), none, .mv (.c (.int .i64 0))⟩])
  (.block 0 (.loop k9_b1)))
  (.seq (.ops [⟨(some 65), none, .mv (.t 4)⟩, ⟨(some 66), none, .sls 1 (.t 65) (some (.c (.int .i64 1))) none⟩, ⟨(some 2), none, .mv (.t 66)⟩, ⟨(some 3), none, .mv (.c (.int .i64 0))⟩])
  .ret))))))
theorem e9 {args : List PV} {σ : Heap} {K : PV → Heap → Prop} (hl : args.length ≤ 67) (h : Wf σ → (∀ a ∈ args, PV.upto σ.length a) → vc (mkCfg Tryz.prog mixed [] 67 σ.length) k9 (FinK σ.length [.t 2, .t 3] K) (argEnv 0 args) σ) : ACall Tryz.prog 9 args σ K :=
  ACall_enter (C := mkCfg Tryz.prog mixed [] 67 σ.length) (c := Tryz.f9.body.getD .skip) Tryz.func9 (by kernel_rfl) (by kernel_rfl) (by kernel_rfl) rfl hl (by kernel_rfl) (by kernel_rfl) h
/- impl.CountByRank -/
def k8 : KC := (.seq (.ops [⟨(some 2), none, .mv (.c (.nils))⟩, ⟨(some 3), none, .mv (.c (.int .i64 0))⟩])
  (.seq (.seq (.ops [⟨(some 4), none, .mv (.t 0)⟩, ⟨(some 5), none, .call (.c (.fn (.func 69) [] [])) [(.t 4)]⟩, ⟨(some 6), none, .not (.t 5)⟩])
  (.cond (.t 6) (.seq (.ops [⟨(some 2), none, .mv (.c (.nils))⟩, ⟨(some 3), none, .mv (.c (.int .i64 2))⟩])
  .ret) .skip))
  (.seq (.ops [⟨(some 7), none, .mv (.t 0)⟩, ⟨(some 8), none, .call (.c (.fn (.func 70) [] [])) [(.t 7)]⟩, ⟨(some 9), none, .sls 1 (.t 8) (some (.c (.int .i64 1))) none⟩, ⟨(some 2), none, .mv (.t 9)⟩, ⟨(some 3), none, .mv (.c (.int .i64 0))⟩])
  .ret)))
theorem e8 {args : List PV} {σ : Heap} {K : PV → Heap → Prop} (hl : args.length ≤ 10) (h : Wf σ → (∀ a ∈ args, PV.upto σ.length a) → vc (mkCfg Tryz.prog mixed [] 10 σ.length) k8 (FinK σ.length [.t 2, .t 3] K) (argEnv 0 args) σ) : ACall Tryz.prog 8 args σ K :=
  ACall_enter (C := mkCfg Tryz.prog mixed [] 10 σ.length) (c := Tryz.f8.body.getD .skip) Tryz.func8 (by kernel_rfl) (by kernel_rfl) (by kernel_rfl) rfl hl (by kernel_rfl) (by kernel_rfl) h
/- impl.onto -/
/- live [0, 3, 4, 5, 11, 12] -/
def k70_b0 : KC := (.seq (.seq (.ops [⟨(some 17), none, .mv (.t 5)⟩, ⟨(some 18), none, .mv (.t 0)⟩, ⟨(some 19), none, .bin .leq (.t 17) (.t 18)⟩])
  (.cond (.t 19) .skip (.exit 2)))
  (.seq (.block 3 (.draw [⟨(some 22), none, .mv (.t 4)⟩, ⟨(some 23), none, .mv (.t 5)⟩, ⟨(some 24), none, .mv (.t 5)⟩, ⟨(some 25), none, .mv (.t 3)⟩, ⟨(some 26), none, .mv (.t 5)⟩, ⟨(some 27), none, .idxS 1 (.t 25) (.t 26)⟩, ⟨(some 28), none, .load false 1 (.t 27)⟩, ⟨(some 29), none, .bin .mul (.t 24) (.t 28)⟩, ⟨(some 30), none, .mv (.t 0)⟩, ⟨(some 31), none, .mv (.t 5)⟩, ⟨(some 32), none, .bin .sub (.t 30) (.t 31)⟩, ⟨(some 33), none, .bin .add (.t 32) (.c (.int .i64 1))⟩, ⟨(some 34), none, .mv (.t 3)⟩, ⟨(some 35), none, .mv (.t 5)⟩, ⟨(some 36), none, .bin .sub (.t 35) (.c (.int .i64 1))⟩, ⟨(some 37), none, .idxS 1 (.t 34) (.t 36)⟩, ⟨(some 38), none, .load false 1 (.t 37)⟩, ⟨(some 39), none, .bin .mul (.t 33) (.t 38)⟩, ⟨(some 40), none, .bin .add (.t 29) (.t 39)⟩, ⟨(some 41), none, .idxS 1 (.t 22) (.t 23)⟩, ⟨none, none, .store 1 (.t 41) (.t 40)⟩]))
  (.ops [⟨(some 20), none, .mv (.t 5)⟩, ⟨(some 21), none, .bin .add (.t 20) (.c (.int .i64 1))⟩, ⟨(some 5), none, .mv (.t 21)⟩])))
/- live [0, 3, 11, 12] -/
def k70_b1 : KC := (.seq (.ops [⟨(some 13), none, .bin .lss (.t 12) (.t 11)⟩])
  (.seq (.cond (.t 13) .skip (.exit 0))
  (.seq (.block 1 (.seq (.ops [⟨(some 14), none, .mv (.t 0)⟩, ⟨(some 15), none, .bin .add (.t 14) (.c (.int .i64 1))⟩, ⟨(some 16), none, .mks 2 1 (.int .i64 0) (.t 15) (.t 15)⟩, ⟨(some 4), none, .mv (.t 16)⟩])
  (.seq (.seq (.ops [⟨(some 5), none, .mv (.c (.int .i64 1))⟩])
  (.block 2 (.loop k70_b0)))
  (.ops [⟨(some 42), none, .mv (.t 4)⟩, ⟨(some 3), none, .mv (.t 42)⟩]))))
  (.ops [⟨(some 43), none, .bin .add (.t 12) (.c (.int .i64 1))⟩, ⟨(some 12), none, .mv (.t 43)⟩]))))
def k70 : KC := (.seq (.ops [⟨(some 2), none, .mv (.c (.nils))⟩])
  (.seq (.ops [⟨(some 6), none, .mv (.t 0)⟩, ⟨(some 7), none, .bin .add (.t 6) (.c (.int .i64 1))⟩, ⟨(some 8), none, .mks 2 1 (.int .i64 0) (.t 7) (.t 7)⟩, ⟨(some 3), none, .mv (.t 8)⟩])
  (.seq (.ops [⟨(some 9), none, .mv (.t 3)⟩, ⟨(some 10), none, .idxS 1 (.t 9) (.c (.int .i64 0))⟩, ⟨none, none, .store 1 (.t 10) (.c (.int .i64 1))⟩])
  (.seq (.seq (.ops [⟨(some 11), none, .mv (.t 0)⟩, ⟨(some 12), none, .mv (.c (.int .i64 0))⟩])
  (.block 0 (.loop k70_b1)))
  (.seq (.ops [⟨(some 44), none, .mv (.t 3)⟩, ⟨(some 2), none, .mv (.t 44)⟩])
  .ret)))))
theorem e70 {args : List PV} {σ : Heap} {K : PV → Heap → Prop} (hl : args.length ≤ 45) (h : Wf σ → (∀ a ∈ args, PV.upto σ.length a) → vc (mkCfg Tryz.prog mixed [] 45 σ.length) k70 (FinK σ.length [.t 2] K) (argEnv 0 args) σ) : ACall Tryz.prog 70 args σ K :=
  ACall_enter (C := mkCfg Tryz.prog mixed [] 45 σ.length) (c := Tryz.f70.body.getD .skip) Tryz.func70 (by kernel_rfl) (by kernel_rfl) (by kernel_rfl) rfl hl (by kernel_rfl) (by kernel_rfl) h
end Go.Proofs.YtpfapiiinkkcgaaGreat
namespace Go.Proofs.YtpfapiiinkkcgaaGreat
open Go.Kv
set_option linter.unusedVariables false
set_option linter.unusedSimpArgs false
attribute [local irreducible] ACall PCall KL
/-- Row i of the numbers of onto maps. -/
def rk (n : Nat) : Nat → Nat → Int
  | 0, r => if r = 0 then 1 else 0
  | i + 1, r => rk n i r * r + (if r = 0 then 0 else rk n i (r - 1) * ((n : Int) - (r - 1 : Nat)))
theorem rk_bound (n : Nat) (hn : n ≤ 12) : ∀ i r : Nat, r ≤ n → 0 ≤ rk n i r ∧ rk n i r ≤ 13 ^ i
  | 0, r, _ => by simp only [rk]; split <;> simp
  | i + 1, r, hr => by
    have h1 := rk_bound n hn i r hr
    have h2 := rk_bound n hn i (r - 1) (by omega)
    simp only [rk]
    have e : (13 : Int) ^ (i + 1) = 13 ^ i * 13 := Int.pow_succ ..
    have a1 : 0 ≤ rk n i r * (r : Int) := Int.mul_nonneg h1.1 (by omega)
    have a2 : rk n i r * (r : Int) ≤ 13 ^ i * (r : Int) := Int.mul_le_mul_of_nonneg_right h1.2 (by omega)
    split
    · have : (13 : Int) ^ i * r ≤ 13 ^ i * 13 := Int.mul_le_mul_of_nonneg_left (by omega) (by omega)
      omega
    · rename_i hr0
      have a3 : 0 ≤ rk n i (r - 1) * ((n : Int) - (r - 1 : Nat)) := Int.mul_nonneg h2.1 (by omega)
      have a4 : rk n i (r - 1) * ((n : Int) - (r - 1 : Nat)) ≤ 13 ^ i * ((n : Int) - (r - 1 : Nat)) := Int.mul_le_mul_of_nonneg_right h2.2 (by omega)
      have a5 : (13 : Int) ^ i * (r : Int) + 13 ^ i * ((n : Int) - (r - 1 : Nat)) = 13 ^ i * ((n : Int) + 1) := by rw [← Int.mul_add]; congr 1; omega
      have a6 : (13 : Int) ^ i * ((n : Int) + 1) ≤ 13 ^ i * 13 := Int.mul_le_mul_of_nonneg_left (by omega) (by omega)
      omega
theorem rk_big (n : Nat) (hn : n ≤ 12) (i : Nat) (hi : i ≤ 12) (r : Nat) (hr : r ≤ n) : 0 ≤ rk n i r ∧ rk n i r ≤ 23298085122481 := by
  have h := rk_bound n hn i r hr
  have : ∀ i < 13, (13 : Int) ^ i ≤ 23298085122481 := by decide
  have := this i (by omega)
  omega
def rowH (n x : Nat) : Heap := (List.range (x + 1)).map fun j => .arr 0 2 1 (ints (mk (n + 1) (rk n j)))
theorem rowH_succ (n x : Nat) : rowH n (x + 1) = rowH n x ++ [.arr 0 2 1 (ints (mk (n + 1) (rk n (x + 1))))] := by
  simp [rowH, List.range_succ]
theorem p70 (n : Nat) (hn : 1 ≤ n ∧ n ≤ 12) : ACall Tryz.prog 70 [.int .i64 n] [] (fun v s => v = .ref 0 0 0 (n + 1) ∧ s = [.arr 0 2 1 (ints (mk (n + 1) (rk n n)))]) := by
  refine e70 (by simp) fun _ _ => ?_
  simp only [k70, argEnv, go_sem, ↓reduceIte, Nat.reduceEqDiff, Nat.reduceAdd, reduceCtorEq]
  repeat' (first | refine And.intro ?_ ?_ | intro _)
  all_goals (try simp only [List.length_replicate, ints_length])
  all_goals (try omega)
  refine KL_ind k70_b1.eq_1 (fun x : Nat => [(12, .int .i64 x), (3, .ref x 0 0 (n + 1)), (11, .int .i64 n), (0, .int .i64 n)]) (fun x => rowH n x) (fun x => x ≤ n) (fun x => n - x) [12, 3, 11, 0] 0 rfl ?_ (Nat.zero_le _) fun x hx ihx => ?_
  · simp only [rowH, mk_rep, mk_set]
    rfl
  have hcur : (rowH n x)[x]? = some (.arr 0 2 1 (ints (mk (n + 1) (rk n x)))) := by simp [rowH]
  have hlen : (rowH n x).length = x + 1 := by simp [rowH]
  have hrow : rowH n (x + 1) = rowH n x ++ [.arr 0 2 1 (ints (mk (n + 1) (rk n (x + 1))))] := rowH_succ n x
  generalize hσ : rowH n x = σ0 at *
  have hcur' : ∀ a : AObj, (σ0 ++ [a])[x]? = some (.arr 0 2 1 (ints (mk (n + 1) (rk n x)))) := fun a => get_left hcur _
  simp only [go_sem, ↓reduceIte, Nat.reduceEqDiff, Nat.reduceAdd, reduceCtorEq]
  refine ⟨fun h1 => ?_, fun h1 => ?_⟩
  · refine ⟨by omega, by omega, ?_⟩
    refine KL_ind k70_b0.eq_1 (fun y : Nat => [(5, .int .i64 (y + 1)), (4, .ref σ0.length 0 0 (n + 1)), (3, .ref x 0 0 (n + 1)), (12, .int .i64 x), (11, .int .i64 n), (0, .int .i64 n)])
      (fun y => σ0 ++ [.arr 0 2 1 (ints (mk (n + 1) fun r => if r ≤ y then rk n (x + 1) r else 0))]) (fun y => y ≤ n) (fun y => n - y) [5, 4, 3, 12, 11, 0] 0 (by simp [keep]) ?_ (Nat.zero_le _) fun y hy ihy => ?_
    · rw [mk_rep]
      congr 4
      refine mk_congr fun i hi => ?_
      by_cases e : i ≤ 0
      · obtain rfl : i = 0 := by omega
        simp [rk]
      · rw [if_neg e]
    simp only [hcur', go_sem, ↓reduceIte, Nat.reduceEqDiff, Nat.reduceAdd, reduceCtorEq]
    have hb1 := rk_big n (by omega) x (by omega)
    have hb2 := rk_big n (by omega) (x + 1) (by omega)
    refine ⟨fun h2 => ?_, fun h2 => ?_⟩
    · have hy1 : ((y : Int) + 1 - 1).toNat = y := by omega
      rw [mk_getD (by omega), hy1, mk_getD (by omega)]
      have hA : 0 ≤ ((y : Int) + 1) * rk n x (y + 1) := Int.mul_nonneg (by omega) (hb1 (y + 1) (by omega)).1
      have hB : 0 ≤ ((n : Int) - (y + 1) + 1) * rk n x y := Int.mul_nonneg (by omega) (hb1 y (by omega)).1
      have hAB : rk n (x + 1) (y + 1) = ((y : Int) + 1) * rk n x (y + 1) + ((n : Int) - (y + 1) + 1) * rk n x y := by
        simp only [rk]
        rw [if_neg (by omega), Nat.add_sub_cancel, Int.mul_comm, Int.mul_comm (rk n x y)]
        congr 2
        omega
      have hb3 := hb2 (y + 1) (by omega)
      repeat' (first | refine And.intro ?_ ?_ | intro _)
      all_goals (try omega)
      refine ihy (y + 1) (by omega) (by omega) _ _ (by simp [keep]) ?_
      rw [mk_set, ← hAB]
      congr 4
      refine mk_congr fun i hi => ?_
      by_cases e : i = y + 1
      · subst e; simp
      · rw [if_neg e]
        by_cases e2 : i ≤ y
        · rw [if_pos e2, if_pos (by omega)]
        · rw [if_neg e2, if_neg (by omega)]
    · obtain rfl : y = n := by omega
      refine ⟨by omega, ?_⟩
      refine ihx (x + 1) (by omega) (by omega) _ _ ?_ ?_
      · simp [keep, hlen]
      · rw [hrow]
        congr 4
        exact mk_congr fun i hi => by rw [if_pos (by omega)]
  · obtain rfl : x = n := by omega
    refine Kv.Fin.one hcur (by simp only [flat_ints]; exact Plain.ints _) 0 ⟨rfl, rfl⟩
def cbr (n : Nat) : List Int := mk n fun i => rk n n (i + 1)
theorem row_cut (n : Nat) : mk (n + 1) (rk n n) = [rk n n 0] ++ cbr n := mk_cons n _
theorem row_cut' (n : Nat) : mk (n + 1) (rk n n) = rk n n 0 :: cbr n := row_cut n
theorem p8_out (a : Int) (h : ¬ (1 ≤ a ∧ a ≤ 12)) : Pure Tryz.prog 8 [.int .i64 a] (.tup [.nils, .int .i64 2]) := by
  refine e8 (by simp) fun _ _ => ?_
  simp only [k8, argEnv, go_sem, ↓reduceIte, Nat.reduceEqDiff, Nat.reduceAdd, reduceCtorEq]
  refine (p69 a).use (.bool _) (.cons (.int _ _ _) (.nil _)) ?_
  simp only [go_sem, ↓reduceIte, Nat.reduceEqDiff, Nat.reduceAdd, reduceCtorEq]
  simp only [h, not_false_eq_true, true_implies, not_true_eq_false, false_implies, and_true]
  exact Kv.Fin.now ⟨rfl, rfl⟩
theorem p8_in (n : Nat) (h : 1 ≤ n ∧ n ≤ 12) : NewI Tryz.prog 8 [.int .i64 n] 2 (cbr n) 0 := by
  refine NewI.mk 0 [rk n n 0] [] ?_
  refine e8 (by simp) fun _ _ => ?_
  simp only [k8, argEnv, go_sem, ↓reduceIte, Nat.reduceEqDiff, Nat.reduceAdd, reduceCtorEq]
  refine (p69 n).use (.bool _) (.cons (.int _ _ _) (.nil _)) ?_
  simp only [go_sem, ↓reduceIte, Nat.reduceEqDiff, Nat.reduceAdd, reduceCtorEq]
  have hin : (1 : Int) ≤ n ∧ (n : Int) ≤ 12 := by omega
  simp only [hin, not_true_eq_false, true_implies, false_implies, true_and, and_self]
  refine (p70 n h).mono fun v s ⟨hv, hs⟩ => ?_
  subst hv; subst hs
  simp only [go_sem, ↓reduceIte, Nat.reduceEqDiff, Nat.reduceAdd, reduceCtorEq]
  repeat' (first | refine And.intro ?_ ?_ | intro _)
  all_goals (try omega)
  refine Kv.Fin.now ⟨?_, by rw [row_cut']⟩
  simp [cbr]
def pt (n x y r : Nat) : Int := if r < y then rk n (x + 1) r else if r = y ∧ r ≠ 0 then rk n x (r - 1) * ((n : Int) - (r - 1 : Nat)) else 0
theorem pt_full (n x y : Nat) : rk n (x + 1) y = pt n x y y + rk n x y * (y : Int) := by
  cases y with
  | zero => simp [rk, pt]
  | succ y => simp [rk, pt, Int.add_comm]
theorem pt_next (n x y : Nat) : pt n x y (y + 1) = 0 := by
  simp only [pt]; rw [if_neg (by omega), if_neg (by omega)]
theorem pt_self {n x y : Nat} (h0 : ∀ r, r ≤ n → 0 ≤ rk n x r) (hy : y ≤ n) : 0 ≤ pt n x y y := by
  simp only [pt]
  rw [if_neg (by omega)]
  split
  · exact Int.mul_nonneg (h0 (y - 1) (by omega)) (by omega)
  · omega
theorem pt_more {n x y : Nat} (h0 : ∀ r, r ≤ n → 0 ≤ rk n x r) (hy : y < n) : rk n x y * ((n : Int) - y) ≤ rk n (x + 1) (y + 1) := by
  have : 0 ≤ rk n x (y + 1) * ((y + 1 : Nat) : Int) := Int.mul_nonneg (h0 (y + 1) (by omega)) (by omega)
  simp only [rk]
  rw [if_neg (by omega), Nat.add_sub_cancel]
  omega
theorem pt_step (n x y i : Nat) : (if i = y + 1 then rk n x y * ((n : Int) - y) else if i = y then pt n x y y + rk n x y * (y : Int) else pt n x y i) = pt n x (y + 1) i := by
  by_cases h1 : i = y + 1
  · subst h1
    rw [if_pos rfl]
    simp only [pt]
    rw [if_neg (by omega), if_pos (by simp), Nat.add_sub_cancel]
  · rw [if_neg h1]
    by_cases h2 : i = y
    · subst h2
      rw [if_pos rfl, ← pt_full]
      simp only [pt]
      rw [if_pos (by omega)]
    · rw [if_neg h2]
      simp only [pt]
      by_cases h3 : i < y
      · rw [if_pos h3, if_pos (by omega)]
      · rw [if_neg h3, if_neg (by omega), if_neg (by omega), if_neg (by omega)]
theorem p9_out (a : Int) (h : ¬ (1 ≤ a ∧ a ≤ 12)) : Pure Tryz.prog 9 [.int .i64 a] (.tup [.nils, .int .i64 2]) := by
  refine e9 (by simp) fun _ _ => ?_
  simp only [k9, argEnv, go_sem, ↓reduceIte, Nat.reduceEqDiff, Nat.reduceAdd, reduceCtorEq]
  refine (p71 a 1 12).use (.bool _) (.cons (.int _ _ _) (.cons (.int _ _ _) (.cons (.int _ _ _) (.nil _)))) ?_
  simp only [go_sem, ↓reduceIte, Nat.reduceEqDiff, Nat.reduceAdd, reduceCtorEq]
  simp only [h, not_false_eq_true, true_implies, not_true_eq_false, false_implies, and_true]
  exact Kv.Fin.now ⟨rfl, rfl⟩
theorem p9_in (n : Nat) (h : 1 ≤ n ∧ n ≤ 12) : NewI Tryz.prog 9 [.int .i64 n] 2 (cbr n) 0 := by
  refine NewI.mk 0 [rk n n 0] [] ?_
  refine e9 (by simp) fun _ _ => ?_
  simp only [k9, argEnv, go_sem, ↓reduceIte, Nat.reduceEqDiff, Nat.reduceAdd, reduceCtorEq]
  refine (p71 n 1 12).use (.bool _) (.cons (.int _ _ _) (.cons (.int _ _ _) (.cons (.int _ _ _) (.nil _)))) ?_
  simp only [go_sem, ↓reduceIte, Nat.reduceEqDiff, Nat.reduceAdd, reduceCtorEq]
  have hin : (1 : Int) ≤ n ∧ (n : Int) ≤ 12 := by omega
  simp only [hin, not_true_eq_false, true_implies, false_implies, true_and, and_self]
  repeat' (first | refine And.intro ?_ ?_ | intro _)
  all_goals (try simp only [List.length_replicate, ints_length])
  all_goals (try omega)
  refine KL_ind k9_b1.eq_1 (fun x : Nat => [(5, .int .i64 x), (4, .ref x 0 0 (n + 1)), (0, .int .i64 n)]) (fun x => rowH n x) (fun x => x ≤ n) (fun x => n - x) [5, 4, 0] 0 rfl ?_ (Nat.zero_le _) fun x hx ihx => ?_
  · simp only [rowH, mk_rep, mk_set]
    rfl
  have hcur : (rowH n x)[x]? = some (.arr 0 2 1 (ints (mk (n + 1) (rk n x)))) := by simp [rowH]
  have hlen : (rowH n x).length = x + 1 := by simp [rowH]
  have hrow : rowH n (x + 1) = rowH n x ++ [.arr 0 2 1 (ints (mk (n + 1) (rk n (x + 1))))] := rowH_succ n x
  generalize hσ : rowH n x = σ0 at *
  have hcur' : ∀ a : AObj, (σ0 ++ [a])[x]? = some (.arr 0 2 1 (ints (mk (n + 1) (rk n x)))) := fun a => get_left hcur _
  simp only [go_sem, ↓reduceIte, Nat.reduceEqDiff, Nat.reduceAdd, reduceCtorEq]
  refine ⟨fun h1 => ?_, fun h1 => ?_⟩
  · refine ⟨by omega, by omega, ?_⟩
    refine KL_ind k9_b0.eq_1 (fun y : Nat => [(7, .int .i64 y), (6, .ref σ0.length 0 0 (n + 1)), (4, .ref x 0 0 (n + 1)), (5, .int .i64 x), (0, .int .i64 n)])
      (fun y => σ0 ++ [.arr 0 2 1 (ints (mk (n + 1) (pt n x y)))]) (fun y => y ≤ n + 1) (fun y => n + 1 - y) [7, 6, 4, 5, 0] 0 rfl ?_ (Nat.zero_le _) fun y hy ihy => ?_
    · rw [mk_rep]
      congr 4
      refine mk_congr fun i hi => ?_
      simp only [pt]
      rw [if_neg (by omega), if_neg (by omega)]
    simp only [hcur', go_sem, ↓reduceIte, Nat.reduceEqDiff, Nat.reduceAdd, reduceCtorEq]
    have hb1 := rk_big n (by omega) x (by omega)
    have hb2 := rk_big n (by omega) (x + 1) (by omega)
    refine ⟨fun h2 => ?_, fun h2 => ?_⟩
    · rw [mk_getD (by omega), mk_getD (by omega)]
      have hA : 0 ≤ rk n x y * (y : Int) := Int.mul_nonneg (hb1 y (by omega)).1 (by omega)
      have hB := pt_self (y := y) (fun r hr => (hb1 r hr).1) (by omega)
      have hAB := pt_full n x y
      have hb3 := hb2 y (by omega)
      have hC : 0 ≤ rk n x y * ((n : Int) - y) := Int.mul_nonneg (hb1 y (by omega)).1 (by omega)
      have hD : y < n → rk n x y * ((n : Int) - y) ≤ 23298085122481 := fun hlt => by
        have h4 := hb2 (y + 1) (by omega)
        have h5 := pt_more (fun r hr => (hb1 r hr).1) hlt
        omega
      rw [mk_set]
      repeat' (first | refine And.intro ?_ ?_ | intro _)
      all_goals (try simp only [mk_length] at *)
      all_goals (try rw [mk_getD (by omega), if_neg (by omega), pt_next, Int.zero_add])
      all_goals (try omega)
      · refine ihy (y + 1) (by omega) (by omega) _ _ rfl ?_
        rw [mk_set]
        congr 4
        exact mk_congr fun i hi => pt_step n x y i
      · refine ihy (y + 1) (by omega) (by omega) _ _ rfl ?_
        congr 4
        refine mk_congr fun i hi => ?_
        have hs := pt_step n x y i
        rw [if_neg (by omega)] at hs
        exact hs
    · obtain rfl : y = n + 1 := by omega
      refine ⟨by omega, ?_⟩
      refine ihx (x + 1) (by omega) (by omega) _ _ ?_ ?_
      · simp [keep, hlen]
      · rw [hrow]
        congr 4
        exact mk_congr fun i hi => by simp only [pt]; rw [if_pos (by omega)]
  · obtain rfl : x = n := by omega
    simp only [hcur, go_sem, ↓reduceIte, Nat.reduceEqDiff, Nat.reduceAdd, reduceCtorEq]
    repeat' (first | refine And.intro ?_ ?_ | intro _)
    all_goals (try omega)
    refine Kv.Fin.oneT hcur (by simp only [flat_ints]; exact Plain.ints _) _ ?_
    exact ⟨by simp [cbr], by rw [row_cut']⟩
end Go.Proofs.YtpfapiiinkkcgaaGreat
