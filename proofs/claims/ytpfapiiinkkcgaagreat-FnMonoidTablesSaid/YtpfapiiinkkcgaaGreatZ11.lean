/- Several texts of this session as one, less what the claim does not need. -/
import Derived.Test.YtpfapiiinkkcgaaGreatCb
import Derived.Test.YtpfapiiinkkcgaaGreatZ7
import Derived.Test.YtpfapiiinkkcgaaGreatZ10
import Derived.Test.YtpfapiiinkkcgaaGreatZ9
section
/- Monoid tables: both sides, and the law's function. -/
namespace Go.Proofs.YtpfapiiinkkcgaaGreat
open Go.Kv
set_option maxRecDepth 100000
/- spec.IsMonoidTable -/
def k34 : KC := (.seq (.ops [⟨(some 2), none, .mv (.c (.bool false))⟩, ⟨(some 3), none, .mv (.c (.int .i64 0))⟩])
  (.seq (.seq (.ops [⟨(some 4), none, .mv (.t 0)⟩, ⟨(some 5), none, .call (.c (.fn (.func 107) [] [])) [(.t 4)]⟩, ⟨(some 6), none, .not (.t 5)⟩])
  (.cond (.t 6) (.seq (.ops [⟨(some 2), none, .mv (.c (.bool false))⟩, ⟨(some 3), none, .mv (.c (.int .i64 2))⟩])
  .ret) .skip))
  (.seq (.ops [⟨(some 7), none, .mv (.t 0)⟩, ⟨(some 8), none, .call (.c (.fn (.func 108) [] [])) [(.t 7)]⟩, ⟨(some 2), none, .mv (.t 8)⟩, ⟨(some 3), none, .mv (.c (.int .i64 0))⟩])
  .ret)))
theorem e34 {args : List PV} {σ : Heap} {K : PV → Heap → Prop} (hl : args.length ≤ 9) (h : Wf σ → (∀ a ∈ args, PV.upto σ.length a) → vc (mkCfg Tryz.prog mixed [] 9 σ.length) k34 (FinK σ.length [.t 2, .t 3] K) (argEnv 0 args) σ) : ACall Tryz.prog 34 args σ K :=
  ACall_enter (C := mkCfg Tryz.prog mixed [] 9 σ.length) (c := Tryz.f34.body.getD .skip) Tryz.func34 (by kernel_rfl) (by kernel_rfl) (by kernel_rfl) rfl hl (by kernel_rfl) (by kernel_rfl) h
/- impl.IsMonoidTable -/
def k33 : KC := (.seq (.ops [⟨(some 2), none, .mv (.c (.bool false))⟩, ⟨(some 3), none, .mv (.c (.int .i64 0))⟩])
  (.seq (.seq (.ops [⟨(some 4), none, .mv (.t 0)⟩, ⟨(some 5), none, .call (.c (.fn (.func 105) [] [])) [(.t 4)]⟩, ⟨(some 6), none, .not (.t 5)⟩])
  (.cond (.t 6) (.seq (.ops [⟨(some 2), none, .mv (.c (.bool false))⟩, ⟨(some 3), none, .mv (.c (.int .i64 2))⟩])
  .ret) .skip))
  (.seq (.ops [⟨(some 7), none, .mv (.t 0)⟩, ⟨(some 8), none, .call (.c (.fn (.func 106) [] [])) [(.t 7)]⟩, ⟨(some 2), none, .mv (.t 8)⟩, ⟨(some 3), none, .mv (.c (.int .i64 0))⟩])
  .ret)))
theorem e33 {args : List PV} {σ : Heap} {K : PV → Heap → Prop} (hl : args.length ≤ 9) (h : Wf σ → (∀ a ∈ args, PV.upto σ.length a) → vc (mkCfg Tryz.prog mixed [] 9 σ.length) k33 (FinK σ.length [.t 2, .t 3] K) (argEnv 0 args) σ) : ACall Tryz.prog 33 args σ K :=
  ACall_enter (C := mkCfg Tryz.prog mixed [] 9 σ.length) (c := Tryz.f33.body.getD .skip) Tryz.func33 (by kernel_rfl) (by kernel_rfl) (by kernel_rfl) rfl hl (by kernel_rfl) (by kernel_rfl) h
/- spec.l08Monoid -/
/- live [0, 3, 4, 5] -/
def k108_b0 : KC := (.seq (.seq (.ops [⟨(some 21), none, .mv (.t 5)⟩, ⟨(some 22), none, .mv (.t 0)⟩, ⟨(some 23), none, .len false (.t 22)⟩, ⟨(some 24), none, .bin .lss (.t 21) (.t 23)⟩])
  (.cond (.t 24) .skip (.exit 4)))
  (.seq (.block 5 (.seq (.draw [⟨(some 27), none, .mv (.t 0)⟩, ⟨(some 28), none, .mv (.t 0)⟩, ⟨(some 29), none, .mv (.t 3)⟩, ⟨(some 30), none, .idxS 1 (.t 28) (.t 29)⟩, ⟨(some 31), none, .load false 1 (.t 30)⟩, ⟨(some 32), none, .mv (.t 4)⟩, ⟨(some 33), none, .idxS 1 (.t 31) (.t 32)⟩, ⟨(some 34), none, .load false 1 (.t 33)⟩, ⟨(some 35), none, .idxS 1 (.t 27) (.t 34)⟩, ⟨(some 36), none, .load false 1 (.t 35)⟩, ⟨(some 37), none, .mv (.t 5)⟩, ⟨(some 38), none, .idxS 1 (.t 36) (.t 37)⟩, ⟨(some 39), none, .load false 1 (.t 38)⟩, ⟨(some 40), none, .mv (.t 0)⟩, ⟨(some 41), none, .mv (.t 3)⟩, ⟨(some 42), none, .idxS 1 (.t 40) (.t 41)⟩, ⟨(some 43), none, .load false 1 (.t 42)⟩, ⟨(some 44), none, .mv (.t 0)⟩, ⟨(some 45), none, .mv (.t 4)⟩, ⟨(some 46), none, .idxS 1 (.t 44) (.t 45)⟩, ⟨(some 47), none, .load false 1 (.t 46)⟩, ⟨(some 48), none, .mv (.t 5)⟩, ⟨(some 49), none, .idxS 1 (.t 47) (.t 48)⟩, ⟨(some 50), none, .load false 1 (.t 49)⟩, ⟨(some 51), none, .idxS 1 (.t 43) (.t 50)⟩, ⟨(some 52), none, .load false 1 (.t 51)⟩, ⟨(some 53), none, .bin .neq (.t 39) (.t 52)⟩])
  (.cond (.t 53) (.seq (.ops [⟨(some 2), none, .mv (.c (.bool false))⟩])
  .ret) .skip)))
  (.ops [⟨(some 25), none, .mv (.t 5)⟩, ⟨(some 26), none, .bin .add (.t 25) (.c (.int .i64 1))⟩, ⟨(some 5), none, .mv (.t 26)⟩])))
/- live [0, 3, 4] -/
def k108_b1 : KC := (.seq (.seq (.ops [⟨(some 15), none, .mv (.t 4)⟩, ⟨(some 16), none, .mv (.t 0)⟩, ⟨(some 17), none, .len false (.t 16)⟩, ⟨(some 18), none, .bin .lss (.t 15) (.t 17)⟩])
  (.cond (.t 18) .skip (.exit 2)))
  (.seq (.block 3 (.seq (.ops [⟨(some 5), none, .mv (.c (.int .i64 0))⟩])
  (.block 4 (.loop k108_b0))))
  (.ops [⟨(some 19), none, .mv (.t 4)⟩, ⟨(some 20), none, .bin .add (.t 19) (.c (.int .i64 1))⟩, ⟨(some 4), none, .mv (.t 20)⟩])))
/- live [0, 3] -/
def k108_b2 : KC := (.seq (.seq (.ops [⟨(some 9), none, .mv (.t 3)⟩, ⟨(some 10), none, .mv (.t 0)⟩, ⟨(some 11), none, .len false (.t 10)⟩, ⟨(some 12), none, .bin .lss (.t 9) (.t 11)⟩])
  (.cond (.t 12) .skip (.exit 0)))
  (.seq (.block 1 (.seq (.ops [⟨(some 4), none, .mv (.c (.int .i64 0))⟩])
  (.block 2 (.loop k108_b1))))
  (.ops [⟨(some 13), none, .mv (.t 3)⟩, ⟨(some 14), none, .bin .add (.t 13) (.c (.int .i64 1))⟩, ⟨(some 3), none, .mv (.t 14)⟩])))
def k108 : KC := (.seq (.ops [⟨(some 2), none, .mv (.c (.bool false))⟩])
  (.seq (.seq (.ops [⟨(some 6), none, .mv (.t 0)⟩, ⟨(some 7), none, .call (.c (.fn (.func 110) [] [])) [(.t 6)]⟩, ⟨(some 8), none, .bin .lss (.t 7) (.c (.int .i64 0))⟩])
  (.cond (.t 8) (.seq (.ops [⟨(some 2), none, .mv (.c (.bool false))⟩])
  .ret) .skip))
  (.seq (.seq (.ops [⟨(some 3), none, .mv (.c (.int .i64 0))⟩])
  (.block 0 (.loop k108_b2)))
  (.seq (.ops [⟨(some 2), none, .mv (.c (.bool true))⟩])
  .ret))))
theorem e108 {args : List PV} {σ : Heap} {K : PV → Heap → Prop} (hl : args.length ≤ 54) (h : Wf σ → (∀ a ∈ args, PV.upto σ.length a) → vc (mkCfg Tryz.prog mixed [] 54 σ.length) k108 (FinK σ.length [.t 2] K) (argEnv 0 args) σ) : ACall Tryz.prog 108 args σ K :=
  ACall_enter (C := mkCfg Tryz.prog mixed [] 54 σ.length) (c := Tryz.f108.body.getD .skip) Tryz.func108 (by kernel_rfl) (by kernel_rfl) (by kernel_rfl) rfl hl (by kernel_rfl) (by kernel_rfl) h
/- impl.isMonoid -/
/- live [0, 3, 4, 7, 8, 12, 13, 17, 18] -/
def k106_b0 : KC := (.seq (.ops [⟨(some 19), none, .bin .lss (.t 18) (.t 17)⟩])
  (.seq (.cond (.t 19) .skip (.exit 4))
  (.seq (.block 5 (.seq (.ops [⟨(some 20), none, .mv (.t 18)⟩, ⟨(some 5), none, .mv (.t 20)⟩])
  (.seq (.draw [⟨(some 21), none, .mv (.t 0)⟩, ⟨(some 22), none, .mv (.t 3)⟩, ⟨(some 23), none, .idxS 1 (.t 21) (.t 22)⟩, ⟨(some 24), none, .load false 1 (.t 23)⟩, ⟨(some 25), none, .mv (.t 0)⟩, ⟨(some 26), none, .mv (.t 4)⟩, ⟨(some 27), none, .idxS 1 (.t 25) (.t 26)⟩, ⟨(some 28), none, .load false 1 (.t 27)⟩, ⟨(some 29), none, .mv (.t 5)⟩, ⟨(some 30), none, .idxS 1 (.t 28) (.t 29)⟩, ⟨(some 31), none, .load false 1 (.t 30)⟩, ⟨(some 32), none, .idxS 1 (.t 24) (.t 31)⟩, ⟨(some 33), none, .load false 1 (.t 32)⟩, ⟨(some 34), none, .mv (.t 0)⟩, ⟨(some 35), none, .mv (.t 0)⟩, ⟨(some 36), none, .mv (.t 3)⟩, ⟨(some 37), none, .idxS 1 (.t 35) (.t 36)⟩, ⟨(some 38), none, .load false 1 (.t 37)⟩, ⟨(some 39), none, .mv (.t 4)⟩, ⟨(some 40), none, .idxS 1 (.t 38) (.t 39)⟩, ⟨(some 41), none, .load false 1 (.t 40)⟩, ⟨(some 42), none, .idxS 1 (.t 34) (.t 41)⟩, ⟨(some 43), none, .load false 1 (.t 42)⟩, ⟨(some 44), none, .mv (.t 5)⟩, ⟨(some 45), none, .idxS 1 (.t 43) (.t 44)⟩, ⟨(some 46), none, .load false 1 (.t 45)⟩, ⟨(some 47), none, .bin .neq (.t 33) (.t 46)⟩])
  (.cond (.t 47) (.seq (.ops [⟨(some 2), none, .mv (.c (.bool false))⟩])
  .ret) .skip))))
  (.ops [⟨(some 48), none, .bin .add (.t 18) (.c (.int .i64 1))⟩, ⟨(some 18), none, .mv (.t 48)⟩]))))
/- live [0, 3, 7, 8, 12, 13] -/
def k106_b1 : KC := (.seq (.ops [⟨(some 14), none, .bin .lss (.t 13) (.t 12)⟩])
  (.seq (.cond (.t 14) .skip (.exit 2))
  (.seq (.block 3 (.seq (.ops [⟨(some 15), none, .mv (.t 13)⟩, ⟨(some 4), none, .mv (.t 15)⟩])
  (.seq (.ops [⟨(some 16), none, .mv (.t 0)⟩, ⟨(some 17), none, .len false (.t 16)⟩, ⟨(some 18), none, .mv (.c (.int .i64 0))⟩])
  (.block 4 (.loop k106_b0)))))
  (.ops [⟨(some 49), none, .bin .add (.t 13) (.c (.int .i64 1))⟩, ⟨(some 13), none, .mv (.t 49)⟩]))))
/- live [0, 7, 8] -/
def k106_b2 : KC := (.seq (.ops [⟨(some 9), none, .bin .lss (.t 8) (.t 7)⟩])
  (.seq (.cond (.t 9) .skip (.exit 0))
  (.seq (.block 1 (.seq (.ops [⟨(some 10), none, .mv (.t 8)⟩, ⟨(some 3), none, .mv (.t 10)⟩])
  (.seq (.ops [⟨(some 11), none, .mv (.t 0)⟩, ⟨(some 12), none, .len false (.t 11)⟩, ⟨(some 13), none, .mv (.c (.int .i64 0))⟩])
  (.block 2 (.loop k106_b1)))))
  (.ops [⟨(some 50), none, .bin .add (.t 8) (.c (.int .i64 1))⟩, ⟨(some 8), none, .mv (.t 50)⟩]))))
def k106 : KC := (.seq (.ops [⟨(some 2), none, .mv (.c (.bool false))⟩])
  (.seq (.seq (.ops [⟨(some 6), none, .mv (.t 0)⟩, ⟨(some 7), none, .len false (.t 6)⟩, ⟨(some 8), none, .mv (.c (.int .i64 0))⟩])
  (.block 0 (.loop k106_b2)))
  (.seq (.ops [⟨(some 51), none, .mv (.t 0)⟩, ⟨(some 52), none, .call (.c (.fn (.func 109) [] [])) [(.t 51)]⟩, ⟨(some 53), none, .bin .geq (.t 52) (.c (.int .i64 0))⟩, ⟨(some 2), none, .mv (.t 53)⟩])
  .ret)))
theorem e106 {args : List PV} {σ : Heap} {K : PV → Heap → Prop} (hl : args.length ≤ 54) (h : Wf σ → (∀ a ∈ args, PV.upto σ.length a) → vc (mkCfg Tryz.prog mixed [] 54 σ.length) k106 (FinK σ.length [.t 2] K) (argEnv 0 args) σ) : ACall Tryz.prog 106 args σ K :=
  ACall_enter (C := mkCfg Tryz.prog mixed [] 54 σ.length) (c := Tryz.f106.body.getD .skip) Tryz.func106 (by kernel_rfl) (by kernel_rfl) (by kernel_rfl) rfl hl (by kernel_rfl) (by kernel_rfl) h
end Go.Proofs.YtpfapiiinkkcgaaGreat
namespace Go.Proofs.YtpfapiiinkkcgaaGreat
open Go.Kv
set_option linter.unusedVariables false
set_option linter.unusedSimpArgs false
attribute [local irreducible] ACall PCall KL
def ascC (t : List (List Int)) (a b c : Nat) : Bool := decide (tat t (tat t a b).toNat c = tat t a (tat t b c).toNat)
def ascB (t : List (List Int)) (a b : Nat) : Bool := (List.range t.length).all (ascC t a b)
def ascA (t : List (List Int)) (a : Nat) : Bool := (List.range t.length).all (ascB t a)
def asc (t : List (List Int)) : Bool := (List.range t.length).all (ascA t)
def monB (t : List (List Int)) : Bool := decide (0 ≤ idn t) && asc t
theorem asc_bad {t : List (List Int)} {a b c : Nat} (ha : a < t.length) (hb : b < t.length) (hc : c < t.length) (h : ¬ (t.getD ((t.getD a []).getD b 0).toNat []).getD c 0 = (t.getD a []).getD ((t.getD b []).getD c 0).toNat 0) : asc t = false := by
  refine not_range ha (not_range hb (not_range hc ?_))
  simpa [ascC, tat] using h
theorem p108 (t : List (List Int)) (h : isTab t = true) : Pure Tryz.prog 108 [.list (rows t)] (.bool (monB t)) := by
  obtain ⟨hn, hsq⟩ := tab_sq h
  refine e108 (by simp) fun _ _ => ?_
  simp only [k108, argEnv, go_sem, ↓reduceIte, Nat.reduceEqDiff, Nat.reduceAdd, reduceCtorEq]
  refine (p110 t h).use (.int _ _) (.cons (.listr _ _) (.nil _)) ?_
  simp only [go_sem, ↓reduceIte, Nat.reduceEqDiff, Nat.reduceAdd, reduceCtorEq]
  refine ⟨fun h0 => Kv.Fin.now ⟨by simp [monB]; omega, rfl⟩, fun h0 => ?_⟩
  have hid : decide (0 ≤ idn t) = true := by simp; omega
  refine KL_ind k108_b2.eq_1 (fun x : Nat => [(3, .int .i64 x), (0, .list (rows t))]) (fun _ => []) (fun x => x ≤ t.length ∧ (List.range x).all (ascA t) = true) (fun x => t.length - x) [3, 0] 0 rfl rfl ⟨Nat.zero_le _, by simp⟩ fun x ⟨hx, hall⟩ ihx => ?_
  simp only [go_sem, ↓reduceIte, Nat.reduceEqDiff, Nat.reduceAdd, reduceCtorEq]
  refine ⟨fun h1 => ?_, fun h1 => ?_⟩
  · have hsx := hsq x (by omega)
    refine KL_ind k108_b1.eq_1 (fun y : Nat => [(4, .int .i64 y), (3, .int .i64 x), (0, .list (rows t))]) (fun _ => []) (fun y => y ≤ t.length ∧ (List.range y).all (ascB t x) = true) (fun y => t.length - y) [4, 3, 0] 0 rfl rfl ⟨Nat.zero_le _, by simp⟩ fun y ⟨hy, hall2⟩ ihy => ?_
    simp only [go_sem, ↓reduceIte, Nat.reduceEqDiff, Nat.reduceAdd, reduceCtorEq]
    refine ⟨fun h2 => ?_, fun h2 => ?_⟩
    · have hsy := hsq y (by omega)
      refine KL_ind k108_b0.eq_1 (fun z : Nat => [(5, .int .i64 z), (4, .int .i64 y), (3, .int .i64 x), (0, .list (rows t))]) (fun _ => []) (fun z => z ≤ t.length ∧ (List.range z).all (ascC t x y) = true) (fun z => t.length - z) [5, 4, 3, 0] 0 rfl rfl ⟨Nat.zero_le _, by simp⟩ fun z ⟨hz, hall3⟩ ihz => ?_
      simp only [go_sem, ↓reduceIte, Nat.reduceEqDiff, Nat.reduceAdd, reduceCtorEq]
      refine ⟨fun h3 => ?_, fun h3 => ?_⟩
      · have hv := tab_at h (i := x) (j := y) (by omega) (by omega)
        have hw := tab_at h (i := y) (j := z) (by omega) (by omega)
        unfold tat at hv hw
        have hsv := hsq ((t.getD x []).getD y 0).toNat (by omega)
        repeat' (first | refine And.intro ?_ ?_ | intro _)
        all_goals (try omega)
        · exact Kv.Fin.now ⟨by rw [monB, asc_bad (a := x) (b := y) (c := z) (by omega) (by omega) (by omega) (by assumption), Bool.and_false], rfl⟩
        · refine ihz (z + 1) ⟨by omega, ?_⟩ (by omega) _ _ rfl rfl
          rw [all_range_succ, hall3, Bool.true_and]
          exact decide_eq_true (by unfold tat; first | assumption | exact Eq.symm (by assumption))
      · obtain rfl : z = t.length := by omega
        refine ⟨by omega, ?_⟩
        refine ihy (y + 1) ⟨by omega, ?_⟩ (by omega) _ _ rfl rfl
        rw [all_range_succ, hall2, Bool.true_and]
        exact hall3
    · obtain rfl : y = t.length := by omega
      refine ⟨by omega, ?_⟩
      refine ihx (x + 1) ⟨by omega, ?_⟩ (by omega) _ _ rfl rfl
      rw [all_range_succ, hall, Bool.true_and]
      exact hall2
  · obtain rfl : x = t.length := by omega
    exact Kv.Fin.now ⟨by rw [monB, hid, asc, hall]; rfl, rfl⟩
theorem p106 (t : List (List Int)) (h : isTab t = true) : Pure Tryz.prog 106 [.list (rows t)] (.bool (monB t)) := by
  obtain ⟨hn, hsq⟩ := tab_sq h
  refine e106 (by simp) fun _ _ => ?_
  simp only [k106, argEnv, go_sem, ↓reduceIte, Nat.reduceEqDiff, Nat.reduceAdd, reduceCtorEq]
  refine KL_ind k106_b2.eq_1 (fun x : Nat => [(8, .int .i64 x), (7, .int .i64 t.length), (0, .list (rows t))]) (fun _ => []) (fun x => x ≤ t.length ∧ (List.range x).all (ascA t) = true) (fun x => t.length - x) [8, 7, 0] 0 rfl rfl ⟨Nat.zero_le _, by simp⟩ fun x ⟨hx, hall⟩ ihx => ?_
  simp only [go_sem, ↓reduceIte, Nat.reduceEqDiff, Nat.reduceAdd, reduceCtorEq]
  refine ⟨fun h1 => ?_, fun h1 => ?_⟩
  · have hsx := hsq x (by omega)
    refine KL_ind k106_b1.eq_1 (fun y : Nat => [(13, .int .i64 y), (12, .int .i64 t.length), (3, .int .i64 x), (8, .int .i64 x), (7, .int .i64 t.length), (0, .list (rows t))]) (fun _ => []) (fun y => y ≤ t.length ∧ (List.range y).all (ascB t x) = true) (fun y => t.length - y) [13, 12, 3, 8, 7, 0] 0 rfl rfl ⟨Nat.zero_le _, by simp⟩ fun y ⟨hy, hall2⟩ ihy => ?_
    simp only [go_sem, ↓reduceIte, Nat.reduceEqDiff, Nat.reduceAdd, reduceCtorEq]
    refine ⟨fun h2 => ?_, fun h2 => ?_⟩
    · have hsy := hsq y (by omega)
      refine KL_ind k106_b0.eq_1 (fun z : Nat => [(18, .int .i64 z), (17, .int .i64 t.length), (4, .int .i64 y), (13, .int .i64 y), (12, .int .i64 t.length), (3, .int .i64 x), (8, .int .i64 x), (7, .int .i64 t.length), (0, .list (rows t))]) (fun _ => []) (fun z => z ≤ t.length ∧ (List.range z).all (ascC t x y) = true) (fun z => t.length - z) [18, 17, 4, 13, 12, 3, 8, 7, 0] 0 rfl rfl ⟨Nat.zero_le _, by simp⟩ fun z ⟨hz, hall3⟩ ihz => ?_
      simp only [go_sem, ↓reduceIte, Nat.reduceEqDiff, Nat.reduceAdd, reduceCtorEq]
      refine ⟨fun h3 => ?_, fun h3 => ?_⟩
      · have hv := tab_at h (i := x) (j := y) (by omega) (by omega)
        have hw := tab_at h (i := y) (j := z) (by omega) (by omega)
        unfold tat at hv hw
        have hsv := hsq ((t.getD x []).getD y 0).toNat (by omega)
        repeat' (first | refine And.intro ?_ ?_ | intro _)
        all_goals (try omega)
        · exact Kv.Fin.now ⟨by rw [monB, asc_bad (a := x) (b := y) (c := z) (by omega) (by omega) (by omega) (fun e => absurd e.symm (by assumption)), Bool.and_false], rfl⟩
        · refine ihz (z + 1) ⟨by omega, ?_⟩ (by omega) _ _ rfl rfl
          rw [all_range_succ, hall3, Bool.true_and]
          exact decide_eq_true (by unfold tat; first | assumption | exact Eq.symm (by assumption))
      · obtain rfl : z = t.length := by omega
        refine ⟨by omega, ?_⟩
        refine ihy (y + 1) ⟨by omega, ?_⟩ (by omega) _ _ rfl rfl
        rw [all_range_succ, hall2, Bool.true_and]
        exact hall3
    · obtain rfl : y = t.length := by omega
      refine ⟨by omega, ?_⟩
      refine ihx (x + 1) ⟨by omega, ?_⟩ (by omega) _ _ rfl rfl
      rw [all_range_succ, hall, Bool.true_and]
      exact hall2
  · obtain rfl : x = t.length := by omega
    refine (p109 t h).use (.int _ _) (.cons (.listr _ _) (.nil _)) ?_
    simp only [go_sem, ↓reduceIte, Nat.reduceEqDiff, Nat.reduceAdd, reduceCtorEq]
    exact Kv.Fin.now ⟨by rw [monB, asc, hall, Bool.and_true], rfl⟩
theorem p34 (t : List (List Int)) (ht : t.length ≤ 1048576) (hl : ∀ r ∈ t, r.length ≤ 1048576) : Pure Tryz.prog 34 [.list (rows t)] (.tup [.bool (isTab t && monB t), .int .i64 (if isTab t = true then 0 else 2)]) := by
  refine e34 (by simp) fun _ _ => ?_
  simp only [k34, argEnv, go_sem, ↓reduceIte, Nat.reduceEqDiff, Nat.reduceAdd, reduceCtorEq]
  refine (p107 t ht hl).use (.bool _) (.cons (.listr _ _) (.nil _)) ?_
  simp only [go_sem, ↓reduceIte, Nat.reduceEqDiff, Nat.reduceAdd, reduceCtorEq]
  refine ⟨fun h => ?_, fun h => ?_⟩
  · exact Kv.Fin.now ⟨by simp [h], rfl⟩
  · refine (p108 t h).use (.bool _) (.cons (.listr _ _) (.nil _)) ?_
    simp only [go_sem, ↓reduceIte, Nat.reduceEqDiff, Nat.reduceAdd, reduceCtorEq]
    exact Kv.Fin.now ⟨by simp [h], rfl⟩
theorem p33 (t : List (List Int)) (ht : t.length ≤ 1048576) (hl : ∀ r ∈ t, r.length ≤ 1048576) : Pure Tryz.prog 33 [.list (rows t)] (.tup [.bool (isTab t && monB t), .int .i64 (if isTab t = true then 0 else 2)]) := by
  refine e33 (by simp) fun _ _ => ?_
  simp only [k33, argEnv, go_sem, ↓reduceIte, Nat.reduceEqDiff, Nat.reduceAdd, reduceCtorEq]
  refine (p105 t ht hl).use (.bool _) (.cons (.listr _ _) (.nil _)) ?_
  simp only [go_sem, ↓reduceIte, Nat.reduceEqDiff, Nat.reduceAdd, reduceCtorEq]
  refine ⟨fun h => ?_, fun h => ?_⟩
  · exact Kv.Fin.now ⟨by simp [h], rfl⟩
  · refine (p106 t h).use (.bool _) (.cons (.listr _ _) (.nil _)) ?_
    simp only [go_sem, ↓reduceIte, Nat.reduceEqDiff, Nat.reduceAdd, reduceCtorEq]
    exact Kv.Fin.now ⟨by simp [h], rfl⟩
end Go.Proofs.YtpfapiiinkkcgaaGreat
end
section
/- Opposite tables: both sides. -/
namespace Go.Proofs.YtpfapiiinkkcgaaGreat
open Go.Kv
set_option maxRecDepth 100000
/- impl.column -/
/- live [1, 5, 8, 9, 10] -/
def k114_b0 : KC := (.seq (.ops [⟨(some 11), none, .bin .lss (.t 10) (.t 9)⟩])
  (.seq (.cond (.t 11) .skip (.exit 0))
  (.seq (.block 1 (.seq (.ops [⟨(some 12), none, .idxS 1 (.t 8) (.t 10)⟩, ⟨(some 13), none, .load false 1 (.t 12)⟩, ⟨(some 7), none, .mv (.t 13)⟩])
  (.ops [⟨(some 14), none, .mv (.t 5)⟩, ⟨(some 15), none, .mv (.t 7)⟩, ⟨(some 16), none, .mv (.t 1)⟩, ⟨(some 17), none, .idxS 1 (.t 15) (.t 16)⟩, ⟨(some 18), none, .load false 1 (.t 17)⟩, ⟨(some 19), none, .bsl true 2 1 [(.t 18)]⟩, ⟨(some 20), none, .app (.t 14) (.t 19) 2 1⟩, ⟨(some 5), none, .mv (.t 20)⟩])))
  (.ops [⟨(some 21), none, .bin .add (.t 10) (.c (.int .i64 1))⟩, ⟨(some 10), none, .mv (.t 21)⟩]))))
def k114 : KC := (.seq (.ops [⟨(some 4), none, .mv (.c (.nils))⟩])
  (.seq (.ops [⟨(some 5), none, .mv (.c (.nils))⟩])
  (.seq (.seq (.ops [⟨(some 8), none, .mv (.t 0)⟩, ⟨(some 9), none, .len false (.t 8)⟩, ⟨(some 10), none, .mv (.c (.int .i64 0))⟩])
  (.block 0 (.loop k114_b0)))
  (.seq (.ops [⟨(some 22), none, .mv (.t 5)⟩, ⟨(some 4), none, .mv (.t 22)⟩])
  .ret))))
theorem e114 {args : List PV} {σ : Heap} {K : PV → Heap → Prop} (hl : args.length ≤ 23) (h : Wf σ → (∀ a ∈ args, PV.upto σ.length a) → vc (mkCfg Tryz.prog mixed [19] 23 σ.length) k114 (FinK σ.length [.t 4] K) (argEnv 0 args) σ) : ACall Tryz.prog 114 args σ K :=
  ACall_enter (C := mkCfg Tryz.prog mixed [19] 23 σ.length) (c := Tryz.f114.body.getD .skip) Tryz.func114 (by kernel_rfl) (by kernel_rfl) (by kernel_rfl) rfl hl (by kernel_rfl) (by kernel_rfl) h
/- impl.OppositeTable -/
/- live [0, 4, 10, 11] -/
def k39_b0 : KC := (.seq (.ops [⟨(some 12), none, .bin .lss (.t 11) (.t 10)⟩])
  (.seq (.cond (.t 12) .skip (.exit 0))
  (.seq (.block 1 (.seq (.ops [⟨(some 13), none, .mv (.t 11)⟩, ⟨(some 5), none, .mv (.t 13)⟩])
  (.ops [⟨(some 14), none, .mv (.t 4)⟩, ⟨(some 15), none, .mv (.t 0)⟩, ⟨(some 16), none, .mv (.t 5)⟩, ⟨(some 17), none, .call (.c (.fn (.func 114) [] [])) [(.t 15), (.t 16)]⟩, ⟨(some 18), none, .bsl true 25 1 [(.t 17)]⟩, ⟨(some 19), none, .app (.t 14) (.t 18) 25 1⟩, ⟨(some 4), none, .mv (.t 19)⟩])))
  (.ops [⟨(some 20), none, .bin .add (.t 11) (.c (.int .i64 1))⟩, ⟨(some 11), none, .mv (.t 20)⟩]))))
def k39 : KC := (.seq (.ops [⟨(some 2), none, .mv (.c (.nils))⟩, ⟨(some 3), none, .mv (.c (.int .i64 0))⟩])
  (.seq (.seq (.ops [⟨(some 6), none, .mv (.t 0)⟩, ⟨(some 7), none, .call (.c (.fn (.func 105) [] [])) [(.t 6)]⟩, ⟨(some 8), none, .not (.t 7)⟩])
  (.cond (.t 8) (.seq (.ops [⟨(some 2), none, .mv (.c (.nils))⟩, ⟨(some 3), none, .mv (.c (.int .i64 2))⟩])
  .ret) .skip))
  (.seq (.ops [⟨(some 4), none, .mv (.c (.nils))⟩])
  (.seq (.seq (.ops [⟨(some 9), none, .mv (.t 0)⟩, ⟨(some 10), none, .len false (.t 9)⟩, ⟨(some 11), none, .mv (.c (.int .i64 0))⟩])
  (.block 0 (.loop k39_b0)))
  (.seq (.ops [⟨(some 21), none, .mv (.t 4)⟩, ⟨(some 2), none, .mv (.t 21)⟩, ⟨(some 3), none, .mv (.c (.int .i64 0))⟩])
  .ret)))))
theorem e39 {args : List PV} {σ : Heap} {K : PV → Heap → Prop} (hl : args.length ≤ 22) (h : Wf σ → (∀ a ∈ args, PV.upto σ.length a) → vc (mkCfg Tryz.prog mixed [18] 22 σ.length) k39 (FinK σ.length [.t 2, .t 3] K) (argEnv 0 args) σ) : ACall Tryz.prog 39 args σ K :=
  ACall_enter (C := mkCfg Tryz.prog mixed [18] 22 σ.length) (c := Tryz.f39.body.getD .skip) Tryz.func39 (by kernel_rfl) (by kernel_rfl) (by kernel_rfl) rfl hl (by kernel_rfl) (by kernel_rfl) h
/- spec.OppositeTable -/
/- live [0, 4, 5, 6, 7] -/
def k40_b0 : KC := (.seq (.seq (.ops [⟨(some 19), none, .mv (.t 7)⟩, ⟨(some 20), none, .mv (.t 0)⟩, ⟨(some 21), none, .len false (.t 20)⟩, ⟨(some 22), none, .bin .lss (.t 19) (.t 21)⟩])
  (.cond (.t 22) .skip (.exit 2)))
  (.seq (.block 3 (.ops [⟨(some 25), none, .mv (.t 6)⟩, ⟨(some 26), none, .mv (.t 0)⟩, ⟨(some 27), none, .mv (.t 7)⟩, ⟨(some 28), none, .idxS 1 (.t 26) (.t 27)⟩, ⟨(some 29), none, .load false 1 (.t 28)⟩, ⟨(some 30), none, .mv (.t 5)⟩, ⟨(some 31), none, .idxS 1 (.t 29) (.t 30)⟩, ⟨(some 32), none, .load false 1 (.t 31)⟩, ⟨(some 33), none, .bsl true 2 1 [(.t 32)]⟩, ⟨(some 34), none, .app (.t 25) (.t 33) 2 1⟩, ⟨(some 6), none, .mv (.t 34)⟩]))
  (.ops [⟨(some 23), none, .mv (.t 7)⟩, ⟨(some 24), none, .bin .add (.t 23) (.c (.int .i64 1))⟩, ⟨(some 7), none, .mv (.t 24)⟩])))
/- live [0, 4, 5] -/
def k40_b1 : KC := (.seq (.seq (.ops [⟨(some 12), none, .mv (.t 5)⟩, ⟨(some 13), none, .mv (.t 0)⟩, ⟨(some 14), none, .len false (.t 13)⟩, ⟨(some 15), none, .bin .lss (.t 12) (.t 14)⟩])
  (.cond (.t 15) .skip (.exit 0)))
  (.seq (.block 1 (.seq (.ops [⟨(some 18), none, .bsl false 2 1 []⟩, ⟨(some 6), none, .mv (.t 18)⟩])
  (.seq (.seq (.ops [⟨(some 7), none, .mv (.c (.int .i64 0))⟩])
  (.block 2 (.loop k40_b0)))
  (.ops [⟨(some 35), none, .mv (.t 4)⟩, ⟨(some 36), none, .mv (.t 6)⟩, ⟨(some 37), none, .bsl true 25 1 [(.t 36)]⟩, ⟨(some 38), none, .app (.t 35) (.t 37) 25 1⟩, ⟨(some 4), none, .mv (.t 38)⟩]))))
  (.ops [⟨(some 16), none, .mv (.t 5)⟩, ⟨(some 17), none, .bin .add (.t 16) (.c (.int .i64 1))⟩, ⟨(some 5), none, .mv (.t 17)⟩])))
def k40 : KC := (.seq (.ops [⟨(some 2), none, .mv (.c (.nils))⟩, ⟨(some 3), none, .mv (.c (.int .i64 0))⟩])
  (.seq (.seq (.ops [⟨(some 8), none, .mv (.t 0)⟩, ⟨(some 9), none, .call (.c (.fn (.func 107) [] [])) [(.t 8)]⟩, ⟨(some 10), none, .not (.t 9)⟩])
  (.cond (.t 10) (.seq (.ops [⟨(some 2), none, .mv (.c (.nils))⟩, ⟨(some 3), none, .mv (.c (.int .i64 2))⟩])
  .ret) .skip))
  (.seq (.ops [⟨(some 11), none, .bsl false 25 1 []⟩, ⟨(some 4), none, .mv (.t 11)⟩])
  (.seq (.seq (.ops [⟨(some 5), none, .mv (.c (.int .i64 0))⟩])
  (.block 0 (.loop k40_b1)))
  (.seq (.ops [⟨(some 39), none, .mv (.t 4)⟩, ⟨(some 2), none, .mv (.t 39)⟩, ⟨(some 3), none, .mv (.c (.int .i64 0))⟩])
  .ret)))))
theorem e40 {args : List PV} {σ : Heap} {K : PV → Heap → Prop} (hl : args.length ≤ 40) (h : Wf σ → (∀ a ∈ args, PV.upto σ.length a) → vc (mkCfg Tryz.prog mixed [33, 37] 40 σ.length) k40 (FinK σ.length [.t 2, .t 3] K) (argEnv 0 args) σ) : ACall Tryz.prog 40 args σ K :=
  ACall_enter (C := mkCfg Tryz.prog mixed [33, 37] 40 σ.length) (c := Tryz.f40.body.getD .skip) Tryz.func40 (by kernel_rfl) (by kernel_rfl) (by kernel_rfl) rfl hl (by kernel_rfl) (by kernel_rfl) h
end Go.Proofs.YtpfapiiinkkcgaaGreat
namespace Go.Proofs.YtpfapiiinkkcgaaGreat
open Go.Kv
set_option linter.unusedVariables false
set_option linter.unusedSimpArgs false
attribute [local irreducible] ACall PCall KL
def colL (t : List (List Int)) (a x : Nat) : List Int := (List.range x).map fun b => tat t b a
@[simp] theorem colL_length (t : List (List Int)) (a x : Nat) : (colL t a x).length = x := by simp [colL]
theorem colL_succ (t : List (List Int)) (a x : Nat) : colL t a x ++ [tat t x a] = colL t a (x + 1) := by simp [colL, List.range_succ]
def opp (t : List (List Int)) (x : Nat) : List (List Int) := (List.range x).map fun a => colL t a t.length
@[simp] theorem opp_length (t : List (List Int)) (x : Nat) : (opp t x).length = x := by simp [opp]
theorem opp_succ (t : List (List Int)) (x : Nat) : opp t x ++ [colL t x t.length] = opp t (x + 1) := by simp [opp, List.range_succ]
theorem p114 (t : List (List Int)) (h : isTab t = true) (a : Nat) (ha : a < t.length) : ACall Tryz.prog 114 [.list (rows t), .int .i64 a] [] (fun v s => v = .ref 0 (t.length - 1) 0 t.length ∧ s = [.arr (t.length - 1) 2 1 (ints (colL t a t.length))]) := by
  obtain ⟨hn, hsq⟩ := tab_sq h
  refine e114 (by simp) fun _ _ => ?_
  simp only [k114, argEnv, take6, List.drop_zero, Int.cast_ofNat_Int, go_sem, ↓reduceIte, Nat.reduceEqDiff, Nat.reduceAdd, Nat.reduceMul, Nat.reduceLeDiff, Nat.reduceLT, Int.reduceLE, Int.reduceLT, reduceCtorEq]
  refine KL_ind k114_b0.eq_1 (fun x : Nat => [(1, .int .i64 a), (5, nref 0 x), (8, .list (rows t)), (9, .int .i64 t.length), (10, .int .i64 x)]) (fun x => nhp [.arr (x - 1) 2 1 (ints (colL t a x))] x) (fun x => x ≤ t.length) (fun x => t.length - x) [1, 5, 8, 9, 10] 0 (by rfl) (by rfl) (Nat.zero_le _) fun x hx ih => ?_
  try simp only [take6, List.drop_zero, Int.cast_ofNat_Int, go_sem, ↓reduceIte, Nat.reduceEqDiff, Nat.reduceAdd, Nat.reduceMul, Nat.reduceLeDiff, Nat.reduceLT, Int.reduceLE, Int.reduceLT, reduceCtorEq]
  refine ⟨fun h1 => ⟨by omega, fun h2 => ?_⟩, fun h1 => ?_⟩
  · have hs := hsq x h2
    have e : (t.getD x []).getD a 0 = tat t x a := rfl
    rw [hs, e]
    rcases x with _ | x
    · try simp only [take6, List.drop_zero, Int.cast_ofNat_Int, go_sem, ↓reduceIte, Nat.reduceEqDiff, Nat.reduceAdd, Nat.reduceMul, Nat.reduceLeDiff, Nat.reduceLT, Int.reduceLE, Int.reduceLT, reduceCtorEq]
      repeat' (first | refine And.intro ?_ ?_ | intro _)
      all_goals (try omega)
      exact ih 1 (by omega) (by omega) _ _ (by rfl) (by rfl)
    · have hl := colL_length t a (x + 1)
      try simp only [hl, take6, List.drop_zero, Int.cast_ofNat_Int, go_sem, ↓reduceIte, Nat.reduceEqDiff, Nat.reduceAdd, Nat.reduceMul, Nat.reduceLeDiff, Nat.reduceLT, Int.reduceLE, Int.reduceLT, reduceCtorEq]
      repeat' (first | refine And.intro ?_ ?_ | intro _)
      all_goals (try omega)
      refine ih (x + 1 + 1) (by omega) (by omega) _ _ (by rfl) ?_
      rw [List.take_of_length_le (by omega), colL_succ]
      rfl
  · obtain rfl : x = t.length := by omega
    rw [nref_pos (by omega), nhp_pos (by omega)]
    exact Kv.Fin.now ⟨rfl, rfl⟩
theorem p39_in (t : List (List Int)) (ht : t.length ≤ 1048576) (hl : ∀ r ∈ t, r.length ≤ 1048576) (h : isTab t = true) : NewTN Tryz.prog 39 [.list (rows t)] 25 2 (opp t t.length) 0 := by
  obtain ⟨hn, hsq⟩ := tab_sq h
  unfold NewTN
  refine e39 (by simp) fun _ _ => ?_
  simp only [k39, argEnv, take6, List.drop_zero, Int.cast_ofNat_Int, go_sem, ↓reduceIte, Nat.reduceEqDiff, Nat.reduceAdd, Nat.reduceMul, Nat.reduceLeDiff, Nat.reduceLT, Int.reduceLE, Int.reduceLT, reduceCtorEq]
  refine (p105 t ht hl).go ?_
  rw [h]
  try simp only [take6, List.drop_zero, Int.cast_ofNat_Int, go_sem, ↓reduceIte, Nat.reduceEqDiff, Nat.reduceAdd, Nat.reduceMul, Nat.reduceLeDiff, Nat.reduceLT, Int.reduceLE, Int.reduceLT, reduceCtorEq]
  refine KL_ind k39_b0.eq_1 (fun x : Nat × PV × Heap => [(0, .list (rows t)), (4, x.2.1), (10, .int .i64 t.length), (11, .int .i64 x.1)]) (fun x => x.2.2) (fun x => x.1 ≤ t.length ∧ TabN 25 2 x.2.2 x.2.1 (opp t x.1) ∧ Free x.2.2) (fun x => t.length - x.1) [0, 4, 10, 11] (0, .nils, []) (by rfl) (by rfl) ⟨Nat.zero_le _, .nil, .nil⟩ fun ⟨x, v, σ⟩ ⟨hx, hT, hf⟩ ih => ?_
  simp only at hx hT hf
  try simp only [take6, List.drop_zero, Int.cast_ofNat_Int, go_sem, ↓reduceIte, Nat.reduceEqDiff, Nat.reduceAdd, Nat.reduceMul, Nat.reduceLeDiff, Nat.reduceLT, Int.reduceLE, Int.reduceLT, reduceCtorEq]
  refine ⟨fun h1 => ?_, fun h1 => ?_⟩
  · try simp only [OpK_eq, take6, List.drop_zero, Int.cast_ofNat_Int, go_sem, ↓reduceIte, Nat.reduceEqDiff, Nat.reduceAdd, Nat.reduceMul, Nat.reduceLeDiff, Nat.reduceLT, Int.reduceLE, Int.reduceLT, reduceCtorEq]
    refine (p114 t h x (by omega)).go fun v' s' ⟨hv, hs⟩ => ?_
    subst hv; subst hs
    try simp only [ren_ref, take6, List.drop_zero, Int.cast_ofNat_Int, go_sem, ↓reduceIte, Nat.reduceEqDiff, Nat.reduceAdd, Nat.reduceMul, Nat.reduceLeDiff, Nat.reduceLT, Int.reduceLE, Int.reduceLT, reduceCtorEq]
    refine hT.pushRow hf (colL t x t.length) (by simp) (by simp; omega) fun v' σ' hT' hf' => ?_
    try simp only [OpK_eq, take6, List.drop_zero, Int.cast_ofNat_Int, go_sem, ↓reduceIte, Nat.reduceEqDiff, Nat.reduceAdd, Nat.reduceMul, Nat.reduceLeDiff, Nat.reduceLT, Int.reduceLE, Int.reduceLT, reduceCtorEq]
    repeat' (first | refine And.intro ?_ ?_ | intro _)
    all_goals (try omega)
    refine ih (x + 1, v', σ') ⟨by show x + 1 ≤ t.length; omega, ?_, hf'⟩ (by show t.length - (x + 1) < t.length - x; omega) _ _ (by rfl) rfl
    rw [← opp_succ]; exact hT'
  · obtain rfl : x = t.length := by omega
    try simp only [OpK_eq, take6, List.drop_zero, Int.cast_ofNat_Int, go_sem, ↓reduceIte, Nat.reduceEqDiff, Nat.reduceAdd, Nat.reduceMul, Nat.reduceLeDiff, Nat.reduceLT, Int.reduceLE, Int.reduceLT, reduceCtorEq]
    exact Kv.Fin.now ⟨v, rfl, hT, hf⟩
theorem p40_in (t : List (List Int)) (ht : t.length ≤ 1048576) (hl : ∀ r ∈ t, r.length ≤ 1048576) (h : isTab t = true) : Pure Tryz.prog 40 [.list (rows t)] (.tup [.list (rows (opp t t.length)), .int .i64 0]) := by
  obtain ⟨hn, hsq⟩ := tab_sq h
  refine e40 (by simp) fun _ _ => ?_
  simp only [k40, argEnv, take6, List.drop_zero, Int.cast_ofNat_Int, go_sem, ↓reduceIte, Nat.reduceEqDiff, Nat.reduceAdd, Nat.reduceMul, Nat.reduceLeDiff, Nat.reduceLT, Int.reduceLE, Int.reduceLT, reduceCtorEq]
  refine (p107 t ht hl).go ?_
  rw [h]
  try simp only [take6, List.drop_zero, Int.cast_ofNat_Int, go_sem, ↓reduceIte, Nat.reduceEqDiff, Nat.reduceAdd, Nat.reduceMul, Nat.reduceLeDiff, Nat.reduceLT, Int.reduceLE, Int.reduceLT, reduceCtorEq]
  refine KL_ind k40_b1.eq_1 (fun x : Nat × PV × Heap => [(0, .list (rows t)), (4, x.2.1), (5, .int .i64 x.1)]) (fun x => x.2.2) (fun x => x.1 ≤ t.length ∧ TabN 25 2 x.2.2 x.2.1 (opp t x.1) ∧ Free x.2.2) (fun x => t.length - x.1) [0, 4, 5] (0, .ref 0 0 0 0, [.arr 0 25 1 []]) (by rfl) (by rfl) ⟨Nat.zero_le _, .empty, .empty _ _ _⟩ fun ⟨x, v, σ⟩ ⟨hx, hT, hf⟩ ih => ?_
  simp only at hx hT hf
  try simp only [take6, List.drop_zero, Int.cast_ofNat_Int, go_sem, ↓reduceIte, Nat.reduceEqDiff, Nat.reduceAdd, Nat.reduceMul, Nat.reduceLeDiff, Nat.reduceLT, Int.reduceLE, Int.reduceLT, reduceCtorEq]
  refine ⟨fun h1 => ?_, fun h1 => ?_⟩
  · refine KL_ind k40_b0.eq_1 (fun y : Nat => [(0, .list (rows t)), (4, v), (5, .int .i64 x), (6, .ref σ.length y 0 y), (7, .int .i64 y)]) (fun y => σ ++ [.arr y 2 1 (ints (colL t x y))]) (fun y => y ≤ t.length) (fun y => t.length - y) [0, 4, 5, 6, 7] 0 (by rfl) (by rfl) (Nat.zero_le _) fun y hy ihy => ?_
    have hnew := hp_new (rfl : σ.length = σ.length)
    have hset := hp_setn (rfl : σ.length = σ.length)
    have hl := colL_length t x y
    try simp only [hnew, hset, hl, take6, List.drop_zero, Int.cast_ofNat_Int, go_sem, ↓reduceIte, Nat.reduceEqDiff, Nat.reduceAdd, Nat.reduceMul, Nat.reduceLeDiff, Nat.reduceLT, Int.reduceLE, Int.reduceLT, reduceCtorEq]
    refine ⟨fun h2 => ⟨by omega, fun h3 => ?_⟩, fun h2 => ?_⟩
    · have hs := hsq y h3
      have e : (t.getD y []).getD x 0 = tat t y x := rfl
      rw [hs, e]
      repeat' (first | refine And.intro ?_ ?_ | intro _)
      all_goals (try omega)
      refine ihy (y + 1) (by omega) (by omega) _ _ (by rfl) ?_
      rw [List.take_of_length_le (by omega), colL_succ]
    · obtain rfl : y = t.length := by omega
      try simp only [OpK_eq, take6, List.drop_zero, Int.cast_ofNat_Int, go_sem, ↓reduceIte, Nat.reduceEqDiff, Nat.reduceAdd, Nat.reduceMul, Nat.reduceLeDiff, Nat.reduceLT, Int.reduceLE, Int.reduceLT, reduceCtorEq]
      refine hT.pushRow hf (colL t x t.length) (by simp) (by simp; omega) fun v' σ' hT' hf' => ?_
      try simp only [OpK_eq, take6, List.drop_zero, Int.cast_ofNat_Int, go_sem, ↓reduceIte, Nat.reduceEqDiff, Nat.reduceAdd, Nat.reduceMul, Nat.reduceLeDiff, Nat.reduceLT, Int.reduceLE, Int.reduceLT, reduceCtorEq]
      repeat' (first | refine And.intro ?_ ?_ | intro _)
      all_goals (try omega)
      refine ih (x + 1, v', σ') ⟨by show x + 1 ≤ t.length; omega, ?_, hf'⟩ (by show t.length - (x + 1) < t.length - x; omega) _ _ (by rfl) rfl
      rw [← opp_succ]; exact hT'
  · obtain rfl : x = t.length := by omega
    try simp only [OpK_eq, take6, List.drop_zero, Int.cast_ofNat_Int, go_sem, ↓reduceIte, Nat.reduceEqDiff, Nat.reduceAdd, Nat.reduceMul, Nat.reduceLeDiff, Nat.reduceLT, Int.reduceLE, Int.reduceLT, reduceCtorEq]
    exact hT.freeze ⟨rfl, rfl⟩
theorem p39_out (t : List (List Int)) (ht : t.length ≤ 1048576) (hl : ∀ r ∈ t, r.length ≤ 1048576) (h : isTab t = false) : Pure Tryz.prog 39 [.list (rows t)] (.tup [.nils, .int .i64 2]) := by
  refine e39 (by simp) fun _ _ => ?_
  simp only [k39, argEnv, take6, List.drop_zero, Int.cast_ofNat_Int, go_sem, ↓reduceIte, Nat.reduceEqDiff, Nat.reduceAdd, Nat.reduceMul, Nat.reduceLeDiff, Nat.reduceLT, Int.reduceLE, Int.reduceLT, reduceCtorEq]
  refine (p105 t ht hl).go ?_
  rw [h]
  try simp only [take6, List.drop_zero, Int.cast_ofNat_Int, go_sem, ↓reduceIte, Nat.reduceEqDiff, Nat.reduceAdd, Nat.reduceMul, Nat.reduceLeDiff, Nat.reduceLT, Int.reduceLE, Int.reduceLT, reduceCtorEq]
  exact Kv.Fin.still ⟨rfl, rfl⟩
theorem p40_out (t : List (List Int)) (ht : t.length ≤ 1048576) (hl : ∀ r ∈ t, r.length ≤ 1048576) (h : isTab t = false) : Pure Tryz.prog 40 [.list (rows t)] (.tup [.nils, .int .i64 2]) := by
  refine e40 (by simp) fun _ _ => ?_
  simp only [k40, argEnv, take6, List.drop_zero, Int.cast_ofNat_Int, go_sem, ↓reduceIte, Nat.reduceEqDiff, Nat.reduceAdd, Nat.reduceMul, Nat.reduceLeDiff, Nat.reduceLT, Int.reduceLE, Int.reduceLT, reduceCtorEq]
  refine (p107 t ht hl).go ?_
  rw [h]
  try simp only [take6, List.drop_zero, Int.cast_ofNat_Int, go_sem, ↓reduceIte, Nat.reduceEqDiff, Nat.reduceAdd, Nat.reduceMul, Nat.reduceLeDiff, Nat.reduceLT, Int.reduceLE, Int.reduceLT, reduceCtorEq]
  exact Kv.Fin.still ⟨rfl, rfl⟩
end Go.Proofs.YtpfapiiinkkcgaaGreat
end
section
/- Tables of monoids: plain laws. -/
namespace Go.Proofs.YtpfapiiinkkcgaaGreat
open Go.Kv
set_option linter.unusedVariables false
set_option linter.unusedSimpArgs false
attribute [local irreducible] ACall PCall KL
/-- What is reached from the identity. -/
inductive Rch (fs : List (List Nat)) (n : Nat) : List Nat → Prop
  | one : Rch fs n (List.range n)
  | step (g f : List Nat) (hg : Rch fs n g) (hf : f ∈ fs) : Rch fs n (mul g f)
theorem Rch.ok {fs : List (List Nat)} {n : Nat} (h1 : 1 ≤ n) (h5 : n ≤ 5) (hf : ∀ f ∈ fs, Ok f n) {g : List Nat} (h : Rch fs n g) : Ok g n := by
  induction h with
  | one => exact range_ok h1 h5
  | step g f _ hm ih => exact ih.mul (hf f hm)
theorem clA_has {fs : List (List Nat)} {n : Nat} {m : List Nat} {Q : List (List Nat)} (hm : Rch fs n m) (hQ : ∀ g ∈ Q, Rch fs n g) : ∀ k R, k ≤ fs.length → clA fs m Q k = some R → (∀ t, t < k → mul m (fs.getD t []) ∈ R) ∧ ∀ g ∈ R, Rch fs n g
  | 0, R, _, h => by
    have : Q = R := by simpa [clA] using h
    subst this
    exact ⟨fun t ht => by omega, hQ⟩
  | k + 1, R, hk, h => by
    unfold clA at h
    cases hc : clA fs m Q k with
    | none => rw [hc] at h; cases h
    | some R' =>
      obtain ⟨a, b⟩ := clA_has hm hQ k R' (by omega) hc
      rw [hc] at h
      simp only at h
      have hkm : fs.getD k [] ∈ fs := by rw [List.getD_eq_getElem?_getD, List.getElem?_eq_getElem (by omega)]; exact List.getElem_mem _
      split at h
      · rename_i hin
        cases h
        refine ⟨fun t ht => ?_, b⟩
        by_cases e : t = k
        · subst e; exact hin
        · exact a t (by omega)
      · split at h
        · cases h
        · cases h
          refine ⟨fun t ht => ?_, fun g hg => ?_⟩
          · by_cases e : t = k
            · subst e; simp
            · exact List.mem_append.2 (.inl (a t (by omega)))
          · rcases List.mem_append.1 hg with hg | hg
            · exact b g hg
            · simp only [List.mem_singleton] at hg
              subst hg
              exact .step m _ hm hkm
theorem clB_has {fs : List (List Nat)} {n : Nat} : ∀ i Q, clB fs n i = some Q → List.range n ∈ Q ∧ (∀ g ∈ Q, Rch fs n g) ∧ ∀ j m, j < i → Q[j]? = some m → ∀ f ∈ fs, mul m f ∈ Q
  | 0, Q, h => by
    have : [List.range n] = Q := by simpa [clB] using h
    subst this
    refine ⟨by simp, fun g hg => ?_, fun j m hj => by omega⟩
    simp only [List.mem_singleton] at hg
    subst hg; exact .one
  | i + 1, Q, h => by
    rw [clB] at h
    cases hc : clB fs n i with
    | none => rw [hc] at h; cases h
    | some Q' =>
      obtain ⟨a, b, c⟩ := clB_has i Q' hc
      rw [hc] at h
      simp only at h
      split at h
      · rename_i m0 hm0
        obtain ⟨r, hr⟩ := clA_pre _ _ h
        obtain ⟨d, e⟩ := clA_has (b m0 (List.mem_of_getElem? hm0)) b fs.length Q (Nat.le_refl _) h
        have hlt := (List.getElem?_eq_some_iff.1 hm0).1
        refine ⟨by rw [hr]; exact List.mem_append.2 (.inl a), e, fun j m hj hjm f hf => ?_⟩
        by_cases eji : j = i
        · subst eji
          rw [hr, List.getElem?_append_left hlt, hm0] at hjm
          cases hjm
          obtain ⟨t, ht, rfl⟩ := List.getElem_of_mem hf
          have := d t ht
          rwa [List.getD_eq_getElem?_getD, List.getElem?_eq_getElem ht] at this
        · have hj2 : Q'[j]? = some m := by rw [hr, List.getElem?_append_left (by omega)] at hjm; exact hjm
          have := c j m (by omega) hj2 f hf
          rw [hr]; exact List.mem_append.2 (.inl this)
      · rename_i hm0
        cases h
        refine ⟨a, b, fun j m hj hjm f hf => ?_⟩
        have hlt := (List.getElem?_eq_some_iff.1 hjm).1
        have := List.getElem?_eq_none_iff.1 hm0
        exact c j m (by omega) hjm f hf
/-- A list of maps in order that is a monoid. -/
structure Mnd (n : Nat) (S : List (List Nat)) : Prop where
  srm : SrM n S
  one : List.range n ∈ S
  mul : ∀ f g, f ∈ S → g ∈ S → Go.Kv.mul f g ∈ S
theorem clR_mnd {fs : List (List Nat)} {n : Nat} (h1 : 1 ≤ n) (h5 : n ≤ 5) (hf : ∀ f ∈ fs, Ok f n) {Q : List (List Nat)} (hR : clB fs n 301 = some Q) : Mnd n (elS n Q) := by
  obtain ⟨c3, c4⟩ := clB_okQ h1 h5 hf _ _ hR
  obtain ⟨s1, s2, s3⟩ := elS_ok c3
  obtain ⟨a, b, c⟩ := clB_has _ _ hR
  refine ⟨s1, (s2 _).2 a, fun f g hfm hgm => (s2 _).2 ?_⟩
  have hfQ := (s2 f).1 hfm
  have hr := b g ((s2 g).1 hgm)
  clear hgm hfm
  induction hr with
  | one => rw [mul_one (c3 f hfQ)]; exact hfQ
  | step g' f' hg' hf' ih =>
    rw [← mul_assoc (c3 f hfQ) (hg'.ok h1 h5 hf) (hf f' hf')]
    obtain ⟨j, hj, e⟩ := List.getElem_of_mem ih
    exact c j _ (by omega) (by rw [List.getElem?_eq_getElem hj, e]) f' hf'
theorem Mnd.at {n : Nat} {S : List (List Nat)} (h : Mnd n S) {i j : Nat} (hi : i < S.length) (hj : j < S.length) : tat (tabM n S) i j = (loM n S (Go.Kv.mul S[i] S[j]) : Int) ∧ loM n S (Go.Kv.mul S[i] S[j]) < S.length ∧ S.getD (loM n S (Go.Kv.mul S[i] S[j])) [] = Go.Kv.mul S[i] S[j] := by
  have hm := h.mul _ _ (List.getElem_mem hi) (List.getElem_mem hj)
  have hO := h.srm.1 _ hm
  obtain ⟨h1, h2⟩ := (lo_mem h.srm hO).2 hm
  refine ⟨?_, h1, h2⟩
  have e1 : (tabM n S).getD i [] = rowM n S S[i] := by simp [tabM, List.getD_eq_getElem?_getD, hi]
  have e2 : (rowM n S S[i]).getD j 0 = plM n S (Go.Kv.mul S[i] S[j]) := by simp [rowM, List.getD_eq_getElem?_getD, hj]
  rw [tat, e1, e2, plM, if_pos ⟨h1, h2⟩]
theorem tabM_len {n : Nat} {S : List (List Nat)} : (tabM n S).length = S.length := by simp [tabM]
theorem Mnd.isTab {n : Nat} {S : List (List Nat)} (h : Mnd n S) (h40 : S.length ≤ 40) : isTab (tabM n S) = true := by
  have h0 : 0 < S.length := List.length_pos_of_mem h.one
  have hrow : ∀ r ∈ tabM n S, rowOk (tabM n S).length r = true := fun r hr => by
    obtain ⟨i, hi, rfl⟩ := List.getElem_of_mem hr
    have hiS : i < S.length := by rw [← tabM_len (n := n)]; exact hi
    have hri : (tabM n S)[i] = rowM n S S[i] := by simp [tabM]
    rw [hri, rowOk, Bool.and_eq_true, List.all_eq_true]
    refine ⟨decide_eq_true (by simp [rowM, tabM_len]), fun x hx => decide_eq_true ?_⟩
    obtain ⟨j, hj, rfl⟩ := List.getElem_of_mem hx
    have hjS : j < S.length := by simpa [rowM] using hj
    obtain ⟨x1, x2, _⟩ := h.at hiS hjS
    have e1 : (rowM n S S[i])[j] = tat (tabM n S) i j := by
      have e2 : (tabM n S).getD i [] = rowM n S S[i] := by simp [tabM, List.getD_eq_getElem?_getD, hiS]
      rw [tat, e2, List.getD_eq_getElem?_getD, List.getElem?_eq_getElem hj]; rfl
    rw [e1, x1, tabM_len]; omega
  unfold Go.Proofs.YtpfapiiinkkcgaaGreat.isTab
  rw [Bool.and_eq_true, List.all_eq_true]
  exact ⟨decide_eq_true (by rw [tabM_len]; omega), hrow⟩
theorem Mnd.asc {n : Nat} {S : List (List Nat)} (h : Mnd n S) : Go.Proofs.YtpfapiiinkkcgaaGreat.asc (tabM n S) = true := by
  have hO : ∀ i (hi : i < S.length), Ok S[i] n := fun i hi => h.srm.1 _ (List.getElem_mem hi)
  unfold Go.Proofs.YtpfapiiinkkcgaaGreat.asc ascA ascB ascC
  simp only [List.all_eq_true, List.mem_range, tabM_len, decide_eq_true_eq]
  intro a ha b hb c hc
  obtain ⟨x1, x2, x3⟩ := h.at ha hb
  obtain ⟨y1, y2, y3⟩ := h.at hb hc
  have e1 : (tat (tabM n S) a b).toNat = loM n S (Go.Kv.mul S[a] S[b]) := by rw [x1]; omega
  have e2 : (tat (tabM n S) b c).toNat = loM n S (Go.Kv.mul S[b] S[c]) := by rw [y1]; omega
  rw [e1, e2]
  have z1 := (h.at x2 hc).1
  have z2 := (h.at ha y2).1
  have g1 : S[loM n S (Go.Kv.mul S[a] S[b])] = Go.Kv.mul S[a] S[b] := by
    rw [List.getD_eq_getElem?_getD, List.getElem?_eq_getElem x2] at x3; exact x3
  have g2 : S[loM n S (Go.Kv.mul S[b] S[c])] = Go.Kv.mul S[b] S[c] := by
    rw [List.getD_eq_getElem?_getD, List.getElem?_eq_getElem y2] at y3; exact y3
  rw [z1, z2, g1, g2, mul_assoc (hO a ha) (hO b hb) (hO c hc)]
theorem Mnd.idn {n : Nat} {S : List (List Nat)} (h : Mnd n S) : 0 ≤ Go.Proofs.YtpfapiiinkkcgaaGreat.idn (tabM n S) := by
  have hO : ∀ i (hi : i < S.length), Ok S[i] n := fun i hi => h.srm.1 _ (List.getElem_mem hi)
  have hdec := idx_nonneg (fun e => okE (tabM n S) e (tabM n S).length) (List.range (tabM n S).length)
  have hone : Ok (List.range n) n := h.srm.1 _ h.one
  obtain ⟨h1, h2⟩ := (lo_mem h.srm hone).2 h.one
  have hat : ∀ i (hi : i < S.length), loM n S S[i] = i := fun i hi => by
    obtain ⟨a, b⟩ := (lo_mem h.srm (hO i hi)).2 (List.getElem_mem hi)
    apply Classical.byContradiction
    intro hne
    rw [List.getD_eq_getElem?_getD, List.getElem?_eq_getElem a] at b
    simp only [Option.getD_some] at b
    rcases Nat.lt_or_gt_of_ne hne with hlt | hlt
    · have := List.pairwise_iff_getElem.1 h.srm.2 _ _ a hi hlt
      rw [b] at this; omega
    · have := List.pairwise_iff_getElem.1 h.srm.2 _ _ hi a hlt
      rw [b] at this; omega
  have hg : S[loM n S (List.range n)] = List.range n := by
    rw [List.getD_eq_getElem?_getD, List.getElem?_eq_getElem h1] at h2; exact h2
  have hok : okE (tabM n S) (loM n S (List.range n)) (tabM n S).length = true := by
    unfold okE
    simp only [List.all_eq_true, List.mem_range, tabM_len, Bool.and_eq_true, decide_eq_true_eq]
    intro x hx
    rw [(h.at h1 hx).1, (h.at hx h1).1, hg, one_mul (hO x hx), mul_one (hO x hx), hat x hx]
    exact ⟨rfl, rfl⟩
  have hany : (List.range (tabM n S).length).any (fun e => okE (tabM n S) e (tabM n S).length) = true := by
    rw [List.any_eq_true]
    exact ⟨_, List.mem_range.2 (by rw [tabM_len]; exact h1), hok⟩
  rw [hany] at hdec
  exact of_decide_eq_true hdec
theorem Mnd.monB {n : Nat} {S : List (List Nat)} (h : Mnd n S) : Go.Proofs.YtpfapiiinkkcgaaGreat.monB (tabM n S) = true := by
  unfold Go.Proofs.YtpfapiiinkkcgaaGreat.monB
  rw [decide_eq_true h.idn, h.asc]; rfl
/-- Opposite tables. -/
theorem opp_at {t : List (List Int)} {i j : Nat} (hi : i < t.length) (hj : j < t.length) : tat (opp t t.length) i j = tat t j i := by
  unfold opp colL
  simp [tat, List.getD_eq_getElem?_getD, hi, hj]
theorem opp_back {t : List (List Int)} (h : isTab t = true) : opp (opp t t.length) (opp t t.length).length = t := by
  obtain ⟨_, hsq⟩ := tab_sq h
  have hat : ∀ i j, i < t.length → j < t.length → tat (opp t t.length) i j = tat t j i := fun i j hi hj => opp_at hi hj
  have hl : (opp t t.length).length = t.length := opp_length _ _
  generalize opp t t.length = T at hat hl
  rw [hl]
  apply List.ext_getElem?
  intro i
  by_cases hi : i < t.length
  · have e1 : (opp T t.length)[i]? = some (colL T i T.length) := by unfold opp; simp [hi]
    rw [e1, List.getElem?_eq_getElem hi]
    congr 1
    have hr : t[i].length = t.length := by
      have := hsq i hi
      rwa [List.getD_eq_getElem?_getD, List.getElem?_eq_getElem hi] at this
    apply List.ext_getElem?
    intro j
    by_cases hj : j < t.length
    · have e2 : (colL T i T.length)[j]? = some (tat T j i) := by unfold colL; simp [hj, hl]
      rw [e2, List.getElem?_eq_getElem (by omega), hat j i hj hi]
      congr 1
      simp [tat, List.getD_eq_getElem?_getD, hi, show j < t[i].length by omega]
    · rw [List.getElem?_eq_none (by unfold colL; simp; omega), List.getElem?_eq_none (by omega)]
  · rw [List.getElem?_eq_none (by unfold opp; simp; omega), List.getElem?_eq_none (by omega)]
theorem opp_isTab {t : List (List Int)} (h : isTab t = true) : isTab (opp t t.length) = true := by
  obtain ⟨hn, hsq⟩ := tab_sq h
  unfold Go.Proofs.YtpfapiiinkkcgaaGreat.isTab
  rw [Bool.and_eq_true, List.all_eq_true]
  refine ⟨decide_eq_true (by rw [opp_length]; exact hn), fun r hr => ?_⟩
  rw [opp_length]
  unfold opp at hr
  obtain ⟨a, ha, rfl⟩ := List.mem_map.1 hr
  have ha := List.mem_range.1 ha
  rw [rowOk, Bool.and_eq_true, List.all_eq_true]
  refine ⟨decide_eq_true (colL_length _ _ _), fun x hx => decide_eq_true ?_⟩
  unfold colL at hx
  obtain ⟨b, hb, rfl⟩ := List.mem_map.1 hx
  exact tab_at h (List.mem_range.1 hb) ha
theorem opp_asc {t : List (List Int)} (h : isTab t = true) (ha : Go.Proofs.YtpfapiiinkkcgaaGreat.asc t = true) : Go.Proofs.YtpfapiiinkkcgaaGreat.asc (opp t t.length) = true := by
  unfold Go.Proofs.YtpfapiiinkkcgaaGreat.asc ascA ascB ascC at ha ⊢
  simp only [List.all_eq_true, List.mem_range, decide_eq_true_eq] at ha
  simp only [List.all_eq_true, List.mem_range, decide_eq_true_eq, opp_length]
  intro a h1 b h2 c h3
  have t1 := tab_at h h2 h1
  have t2 := tab_at h h3 h2
  rw [opp_at h1 h2, opp_at h2 h3]
  rw [opp_at (i := (tat t b a).toNat) (by omega) h3, opp_at h1 (j := (tat t c b).toNat) (by omega)]
  exact (ha c h3 b h2 a h1).symm
theorem opp_okE {t : List (List Int)} {e : Nat} (he : e < t.length) : okE (opp t t.length) e t.length = okE t e t.length := by
  have hiff : okE (opp t t.length) e t.length = true ↔ okE t e t.length = true := by
    unfold okE
    simp only [List.all_eq_true, List.mem_range, Bool.and_eq_true, decide_eq_true_eq]
    constructor
    · intro h x hx
      have := h x hx
      rw [opp_at he hx, opp_at hx he] at this
      exact ⟨this.2, this.1⟩
    · intro h x hx
      have := h x hx
      rw [opp_at he hx, opp_at hx he]
      exact ⟨this.2, this.1⟩
  cases h1 : okE t e t.length with
  | true => exact hiff.2 h1
  | false =>
    cases h2 : okE (opp t t.length) e t.length with
    | false => rfl
    | true => rw [hiff.1 h2] at h1; cases h1
theorem fidx_congr {α : Type} {p q : α → Bool} : ∀ l : List α, (∀ x ∈ l, p x = q x) → l.findIdx? p = l.findIdx? q
  | [], _ => rfl
  | a :: l, h => by
    rw [List.findIdx?_cons, List.findIdx?_cons, h a (by simp), fidx_congr l fun x hx => h x (by simp [hx])]
theorem opp_monB {t : List (List Int)} (h : isTab t = true) : Go.Proofs.YtpfapiiinkkcgaaGreat.monB (opp t t.length) = Go.Proofs.YtpfapiiinkkcgaaGreat.monB t := by
  have h1 : Go.Proofs.YtpfapiiinkkcgaaGreat.asc (opp t t.length) = Go.Proofs.YtpfapiiinkkcgaaGreat.asc t := by
    cases ha : Go.Proofs.YtpfapiiinkkcgaaGreat.asc t with
    | true => exact opp_asc h ha
    | false =>
      cases hb : Go.Proofs.YtpfapiiinkkcgaaGreat.asc (opp t t.length) with
      | false => rfl
      | true =>
        have := opp_asc (opp_isTab h) hb
        rw [opp_back h, ha] at this; cases this
  have h2 : Go.Proofs.YtpfapiiinkkcgaaGreat.idn (opp t t.length) = Go.Proofs.YtpfapiiinkkcgaaGreat.idn t := by
    unfold Go.Proofs.YtpfapiiinkkcgaaGreat.idn idx
    rw [opp_length]
    have : (List.range t.length).findIdx? (fun e => okE (opp t t.length) e t.length) = (List.range t.length).findIdx? fun e => okE t e t.length := by
      exact fidx_congr _ fun e he => opp_okE (List.mem_range.1 he)
    rw [this]
  unfold Go.Proofs.YtpfapiiinkkcgaaGreat.monB
  rw [h1, h2]
/-- The identity of a monoid table is idempotent. -/
theorem id_idem {t : List (List Int)} (h : isTab t = true) (hm : Go.Proofs.YtpfapiiinkkcgaaGreat.monB t = true) : 0 ≤ Go.Proofs.YtpfapiiinkkcgaaGreat.idn t ∧ Go.Proofs.YtpfapiiinkkcgaaGreat.idn t ∈ idl t t.length := by
  unfold Go.Proofs.YtpfapiiinkkcgaaGreat.monB at hm
  rw [Bool.and_eq_true] at hm
  have h0 := of_decide_eq_true hm.1
  have hf : ∃ e : Nat, Go.Proofs.YtpfapiiinkkcgaaGreat.idn t = e ∧ e < t.length ∧ okE t e t.length = true := by
    unfold Go.Proofs.YtpfapiiinkkcgaaGreat.idn idx at h0 ⊢
    cases hc : (List.range t.length).findIdx? (fun e => okE t e t.length) with
    | none => rw [hc] at h0; simp at h0
    | some i =>
      obtain ⟨a, b, _⟩ := List.findIdx?_eq_some_iff_getElem.1 hc
      simp only [List.getElem_range, List.length_range] at a b
      exact ⟨i, rfl, a, b⟩
  obtain ⟨e, he, hel, hok⟩ := hf
  refine ⟨h0, ?_⟩
  rw [he]
  unfold okE at hok
  simp only [List.all_eq_true, List.mem_range, Bool.and_eq_true, decide_eq_true_eq] at hok
  have := (hok e hel).1
  unfold idl
  refine List.mem_filter.2 ⟨?_, decide_eq_true (by simpa using this)⟩
  unfold pts
  simp [mk]
  exact ⟨e, hel, rfl⟩
/-- Idempotents of the table are idempotent elements. -/
theorem Mnd.idl_len {n : Nat} {S : List (List Nat)} (h : Mnd n S) : (idl (tabM n S) (tabM n S).length).length = (S.filter fun f => decide (Go.Kv.mul f f = f)).length := by
  rw [tabM_len]
  have hO : ∀ i (hi : i < S.length), Ok S[i] n := fun i hi => h.srm.1 _ (List.getElem_mem hi)
  have key : ∀ x, x ≤ S.length → (idl (tabM n S) x).length = ((S.take x).filter fun f => decide (Go.Kv.mul f f = f)).length := fun x => by
    induction x with
    | zero => intro _; rfl
    | succ x ih =>
      intro hx
      have hxl : x < S.length := hx
      rw [idl_succ, List.length_append, ih (by omega), List.take_succ_eq_append_getElem hxl, List.filter_append, List.length_append]
      congr 1
      obtain ⟨a1, a2, a3⟩ := h.at hxl hxl
      have hlo : loM n S S[x] = x := by
        obtain ⟨a, b⟩ := (lo_mem h.srm (hO x hxl)).2 (List.getElem_mem hxl)
        apply Classical.byContradiction
        intro hne
        rw [List.getD_eq_getElem?_getD, List.getElem?_eq_getElem a] at b
        simp only [Option.getD_some] at b
        rcases Nat.lt_or_gt_of_ne hne with hlt | hlt
        · have := List.pairwise_iff_getElem.1 h.srm.2 _ _ a hxl hlt
          rw [b] at this; omega
        · have := List.pairwise_iff_getElem.1 h.srm.2 _ _ hxl a hlt
          rw [b] at this; omega
      have hiff : tat (tabM n S) x x = x ↔ Go.Kv.mul S[x] S[x] = S[x] := by
        constructor
        · intro e
          rw [a1] at e
          have e' : loM n S (Go.Kv.mul S[x] S[x]) = x := by omega
          rw [e', List.getD_eq_getElem?_getD, List.getElem?_eq_getElem hxl] at a3
          exact a3.symm
        · intro e
          rw [a1, e, hlo]
      by_cases hc : Go.Kv.mul S[x] S[x] = S[x]
      · rw [if_pos (hiff.2 hc)]
        simp [hc]
      · rw [if_neg fun e => hc (hiff.1 e)]
        simp [hc]
  have := key S.length (Nat.le_refl _)
  rwa [List.take_length] at this
end Go.Proofs.YtpfapiiinkkcgaaGreat
end
section
/- The specification's TableOf, its rows one's own; SizeOf. -/
namespace Go.Proofs.YtpfapiiinkkcgaaGreat
open Go.Kv
set_option maxRecDepth 100000
/- spec.SizeOf -/
def k152 : KC := (.seq (.ops [⟨(some 2), none, .mv (.c (.int .i64 0))⟩, ⟨(some 3), none, .mv (.c (.int .i64 0))⟩])
  (.seq (.ops [⟨(some 7), none, .mv (.t 0)⟩, ⟨(some 8), none, .call (.c (.fn (.func 102) [] [])) [(.t 7), (.c (.nils))]⟩, ⟨(some 6), none, .mv (.t 8)⟩, ⟨(some 9), none, .extr 0 (.t 6)⟩, ⟨(some 10), none, .extr 1 (.t 6)⟩, ⟨(some 4), none, .mv (.t 9)⟩, ⟨(some 5), none, .mv (.t 10)⟩])
  (.seq (.seq (.ops [⟨(some 11), none, .mv (.t 5)⟩, ⟨(some 12), none, .bin .neq (.t 11) (.c (.int .i64 0))⟩])
  (.cond (.t 12) (.seq (.ops [⟨(some 13), none, .mv (.t 5)⟩, ⟨(some 2), none, .mv (.c (.int .i64 0))⟩, ⟨(some 3), none, .mv (.t 13)⟩])
  .ret) .skip))
  (.seq (.ops [⟨(some 14), none, .mv (.t 4)⟩, ⟨(some 15), none, .len false (.t 14)⟩, ⟨(some 2), none, .mv (.t 15)⟩, ⟨(some 3), none, .mv (.c (.int .i64 0))⟩])
  .ret))))
theorem e152 {args : List PV} {σ : Heap} {K : PV → Heap → Prop} (hl : args.length ≤ 16) (h : Wf σ → (∀ a ∈ args, PV.upto σ.length a) → vc (mkCfg Tryz.prog mixed [] 16 σ.length) k152 (FinK σ.length [.t 2, .t 3] K) (argEnv 0 args) σ) : ACall Tryz.prog 152 args σ K :=
  ACall_enter (C := mkCfg Tryz.prog mixed [] 16 σ.length) (c := Tryz.f152.body.getD .skip) Tryz.func152 (by kernel_rfl) (by kernel_rfl) (by kernel_rfl) rfl hl (by kernel_rfl) (by kernel_rfl) h
end Go.Proofs.YtpfapiiinkkcgaaGreat
namespace Go.Proofs.YtpfapiiinkkcgaaGreat
open Go.Kv
set_option linter.unusedVariables false
set_option linter.unusedSimpArgs false
attribute [local irreducible] ACall PCall KL
theorem p30o (t : List (List Int)) (h7 : t.length ≤ 1000) (h6 : ∀ r ∈ t, r.length = 6) : ACall Tryz.prog 30 [.list (aggs t)] [] fun v s => (∃ c : Int, c ≠ 0 ∧ v = .tup [.nils, .int .i64 c] ∧ s = []) ∨ ∃ x n S, v = .tup [x, .int .i64 0] ∧ TabN 25 2 s x (tabM n S) ∧ Free s ∧ Mnd n S ∧ S.length ≤ 40 := by
  by_cases hl : lcode t [] = 0
  · obtain ⟨fs, n, e, hf, h0, hfl, hn, h1, h5⟩ := lcode_maps h6 hl
    subst e
    have hE := p102_in fs n h1 h5 hf h0 hfl hl
    have hE0 := p30_in fs n h1 h5 hf h0 hfl hl
    cases hR : clR fs n with
    | none =>
      rw [hR] at hE0
      exact hE0.mono fun v s ⟨hv, hs⟩ => .inl ⟨3, by decide, hv, hs⟩
    | some Q =>
      have hM := clR_mnd h1 h5 hf hR
      rw [hR] at hE hE0
      simp only at hE hE0
      by_cases g : 40 < (elS n Q).length
      · rw [if_pos g] at hE0
        exact hE0.mono fun v s ⟨hv, hs⟩ => .inl ⟨3, by decide, hv, hs⟩
      · clear hE0
        refine e30 (by simp) fun _ _ => ?_
        simp only [k30, argEnv, take6, List.drop_zero, Int.cast_ofNat_Int, go_sem, ↓reduceIte, Nat.reduceEqDiff, Nat.reduceAdd, Nat.reduceMul, Nat.reduceLeDiff, Nat.reduceLT, Int.reduceLE, Int.reduceLT, reduceCtorEq]
        refine hE.go ?_
        generalize elS n Q = S at *
        try simp only [OpK_eq, HKv, aggs_length, List.length_map, take6, List.drop_zero, Int.cast_ofNat_Int, go_sem, ↓reduceIte, Nat.reduceEqDiff, Nat.reduceAdd, Nat.reduceMul, Nat.reduceLeDiff, Nat.reduceLT, Int.reduceLE, Int.reduceLT, reduceCtorEq]
        refine ⟨fun g1 => by omega, fun g1 => ?_⟩
        refine (p103o n S hM.srm (by omega)).mono fun v s ⟨hT, hF⟩ => ?_
        try simp only [OpK_eq, HKv, take6, List.drop_zero, Int.cast_ofNat_Int, go_sem, ↓reduceIte, Nat.reduceEqDiff, Nat.reduceAdd, Nat.reduceMul, Nat.reduceLeDiff, Nat.reduceLT, Int.reduceLE, Int.reduceLT, reduceCtorEq]
        exact Kv.Fin.now (.inr ⟨v, n, S, rfl, hT, hF, hM, by omega⟩)
  · exact (p30_out t (by omega) h6 hl).mono fun v s ⟨hv, hs⟩ => .inl ⟨_, hl, hv, hs⟩
theorem p152 (t : List (List Int)) (h7 : t.length ≤ 1000) (h6 : ∀ r ∈ t, r.length = 6) : ∃ a c : Int, Pure Tryz.prog 152 [.list (aggs t)] (.tup [.int .i64 a, .int .i64 c]) := by
  by_cases hl : lcode t [] = 0
  · obtain ⟨fs, n, e, hf, h0, hfl, hn, h1, h5⟩ := lcode_maps h6 hl
    subst e
    have hE := p102_in fs n h1 h5 hf h0 hfl hl
    cases hR : clR fs n with
    | none =>
      rw [hR] at hE
      simp only at hE
      refine ⟨0, 3, ?_⟩
      refine e152 (by simp) fun _ _ => ?_
      simp only [k152, argEnv, take6, List.drop_zero, Int.cast_ofNat_Int, go_sem, ↓reduceIte, Nat.reduceEqDiff, Nat.reduceAdd, Nat.reduceMul, Nat.reduceLeDiff, Nat.reduceLT, Int.reduceLE, Int.reduceLT, reduceCtorEq]
      refine hE.go ?_
      try simp only [OpK_eq, HKv, take6, List.drop_zero, Int.cast_ofNat_Int, go_sem, ↓reduceIte, Nat.reduceEqDiff, Nat.reduceAdd, Nat.reduceMul, Nat.reduceLeDiff, Nat.reduceLT, Int.reduceLE, Int.reduceLT, reduceCtorEq]
      exact ⟨fun _ => Kv.Fin.still ⟨rfl, rfl⟩, fun h => absurd h (by decide)⟩
    | some Q =>
      rw [hR] at hE
      simp only at hE
      refine ⟨(elS n Q).length, 0, ?_⟩
      refine e152 (by simp) fun _ _ => ?_
      simp only [k152, argEnv, take6, List.drop_zero, Int.cast_ofNat_Int, go_sem, ↓reduceIte, Nat.reduceEqDiff, Nat.reduceAdd, Nat.reduceMul, Nat.reduceLeDiff, Nat.reduceLT, Int.reduceLE, Int.reduceLT, reduceCtorEq]
      refine hE.go ?_
      try simp only [OpK_eq, HKv, aggs_length, List.length_map, take6, List.drop_zero, Int.cast_ofNat_Int, go_sem, ↓reduceIte, Nat.reduceEqDiff, Nat.reduceAdd, Nat.reduceMul, Nat.reduceLeDiff, Nat.reduceLT, Int.reduceLE, Int.reduceLT, reduceCtorEq]
      exact Kv.Fin.still ⟨rfl, rfl⟩
  · refine ⟨0, lcode t [], ?_⟩
    refine e152 (by simp) fun _ _ => ?_
    simp only [k152, argEnv, take6, List.drop_zero, Int.cast_ofNat_Int, go_sem, ↓reduceIte, Nat.reduceEqDiff, Nat.reduceAdd, Nat.reduceMul, Nat.reduceLeDiff, Nat.reduceLT, Int.reduceLE, Int.reduceLT, reduceCtorEq]
    refine (p102_out t (by omega) h6 hl).go ?_
    try simp only [OpK_eq, HKv, take6, List.drop_zero, Int.cast_ofNat_Int, go_sem, ↓reduceIte, Nat.reduceEqDiff, Nat.reduceAdd, Nat.reduceMul, Nat.reduceLeDiff, Nat.reduceLT, Int.reduceLE, Int.reduceLT, reduceCtorEq]
    exact ⟨fun _ => Kv.Fin.still ⟨rfl, rfl⟩, fun h => absurd h hl⟩
end Go.Proofs.YtpfapiiinkkcgaaGreat
end
section
/- The draws of tables: renamed tables. -/
namespace Go.Proofs.YtpfapiiinkkcgaaGreat
open Go.Kv
set_option maxRecDepth 100000
/- spec.l08Renamed -/
/- live [0, 1, 5, 6] -/
def k162_b0 : KC := (.seq (.seq (.ops [⟨(some 11), none, .mv (.t 6)⟩, ⟨(some 12), none, .mv (.t 0)⟩, ⟨(some 13), none, .len false (.t 12)⟩, ⟨(some 14), none, .bin .lss (.t 11) (.t 13)⟩])
  (.cond (.t 14) .skip (.exit 0)))
  (.seq (.block 1 (.ops [⟨(some 17), none, .mv (.t 5)⟩, ⟨(some 18), none, .mv (.t 0)⟩, ⟨(some 19), none, .len false (.t 18)⟩, ⟨(some 20), none, .mks 2 1 (.int .i64 0) (.t 19) (.t 19)⟩, ⟨(some 21), none, .bsl true 25 1 [(.t 20)]⟩, ⟨(some 22), none, .app (.t 17) (.t 21) 25 1⟩, ⟨(some 5), none, .mv (.t 22)⟩]))
  (.ops [⟨(some 15), none, .mv (.t 6)⟩, ⟨(some 16), none, .bin .add (.t 15) (.c (.int .i64 1))⟩, ⟨(some 6), none, .mv (.t 16)⟩])))
/- live [0, 1, 5, 7, 8] -/
def k162_b1 : KC := (.seq (.seq (.ops [⟨(some 29), none, .mv (.t 8)⟩, ⟨(some 30), none, .mv (.t 0)⟩, ⟨(some 31), none, .len false (.t 30)⟩, ⟨(some 32), none, .bin .lss (.t 29) (.t 31)⟩])
  (.cond (.t 32) .skip (.exit 4)))
  (.seq (.block 5 (.seq (.ops [⟨(some 35), none, .mv (.t 5)⟩, ⟨(some 36), none, .mv (.t 1)⟩, ⟨(some 37), none, .mv (.t 7)⟩, ⟨(some 38), none, .idxS 1 (.t 36) (.t 37)⟩, ⟨(some 39), none, .load false 1 (.t 38)⟩, ⟨(some 40), none, .idxS 1 (.t 35) (.t 39)⟩, ⟨(some 41), none, .load false 1 (.t 40)⟩, ⟨(some 9), none, .mv (.t 41)⟩])
  (.draw [⟨(some 42), none, .mv (.t 9)⟩, ⟨(some 43), none, .mv (.t 1)⟩, ⟨(some 44), none, .mv (.t 8)⟩, ⟨(some 45), none, .idxS 1 (.t 43) (.t 44)⟩, ⟨(some 46), none, .load false 1 (.t 45)⟩, ⟨(some 47), none, .mv (.t 1)⟩, ⟨(some 48), none, .mv (.t 0)⟩, ⟨(some 49), none, .mv (.t 7)⟩, ⟨(some 50), none, .idxS 1 (.t 48) (.t 49)⟩, ⟨(some 51), none, .load false 1 (.t 50)⟩, ⟨(some 52), none, .mv (.t 8)⟩, ⟨(some 53), none, .idxS 1 (.t 51) (.t 52)⟩, ⟨(some 54), none, .load false 1 (.t 53)⟩, ⟨(some 55), none, .idxS 1 (.t 47) (.t 54)⟩, ⟨(some 56), none, .load false 1 (.t 55)⟩, ⟨(some 57), none, .idxS 1 (.t 42) (.t 46)⟩, ⟨none, none, .store 1 (.t 57) (.t 56)⟩])))
  (.ops [⟨(some 33), none, .mv (.t 8)⟩, ⟨(some 34), none, .bin .add (.t 33) (.c (.int .i64 1))⟩, ⟨(some 8), none, .mv (.t 34)⟩])))
/- live [0, 1, 5, 7] -/
def k162_b2 : KC := (.seq (.seq (.ops [⟨(some 23), none, .mv (.t 7)⟩, ⟨(some 24), none, .mv (.t 0)⟩, ⟨(some 25), none, .len false (.t 24)⟩, ⟨(some 26), none, .bin .lss (.t 23) (.t 25)⟩])
  (.cond (.t 26) .skip (.exit 2)))
  (.seq (.block 3 (.seq (.ops [⟨(some 8), none, .mv (.c (.int .i64 0))⟩])
  (.block 4 (.loop k162_b1))))
  (.ops [⟨(some 27), none, .mv (.t 7)⟩, ⟨(some 28), none, .bin .add (.t 27) (.c (.int .i64 1))⟩, ⟨(some 7), none, .mv (.t 28)⟩])))
def k162 : KC := (.seq (.ops [⟨(some 4), none, .mv (.c (.nils))⟩])
  (.seq (.ops [⟨(some 10), none, .bsl false 25 1 []⟩, ⟨(some 5), none, .mv (.t 10)⟩])
  (.seq (.seq (.ops [⟨(some 6), none, .mv (.c (.int .i64 0))⟩])
  (.block 0 (.loop k162_b0)))
  (.seq (.seq (.ops [⟨(some 7), none, .mv (.c (.int .i64 0))⟩])
  (.block 2 (.loop k162_b2)))
  (.seq (.ops [⟨(some 58), none, .mv (.t 5)⟩, ⟨(some 4), none, .mv (.t 58)⟩])
  .ret)))))
theorem e162 {args : List PV} {σ : Heap} {K : PV → Heap → Prop} (hl : args.length ≤ 59) (h : Wf σ → (∀ a ∈ args, PV.upto σ.length a) → vc (mkCfg Tryz.prog mixed [21] 59 σ.length) k162 (FinK σ.length [.t 4] K) (argEnv 0 args) σ) : ACall Tryz.prog 162 args σ K :=
  ACall_enter (C := mkCfg Tryz.prog mixed [21] 59 σ.length) (c := Tryz.f162.body.getD .skip) Tryz.func162 (by kernel_rfl) (by kernel_rfl) (by kernel_rfl) rfl hl (by kernel_rfl) (by kernel_rfl) h
end Go.Proofs.YtpfapiiinkkcgaaGreat
namespace Go.Proofs.YtpfapiiinkkcgaaGreat
open Go.Kv
set_option linter.unusedVariables false
set_option linter.unusedSimpArgs false
attribute [local irreducible] ACall PCall KL
/-- Square rows. -/
def Sq0 (n : Nat) (t : List (List Int)) : Prop := t.length = n ∧ ∀ r ∈ t, r.length = n
def In0 (n : Nat) (t : List (List Int)) : Prop := ∀ r ∈ t, ∀ x ∈ r, 0 ≤ x ∧ x < (n : Int)
theorem getD_in {l : List Int} {n i : Nat} (h : ∀ x ∈ l, 0 ≤ x ∧ x < (n : Int)) (hi : i < l.length) : 0 ≤ l.getD i 0 ∧ l.getD i 0 < (n : Int) := h _ (getD_memD hi)
theorem getD_memR {l : List (List Int)} {i : Nat} (h : i < l.length) : l.getD i [] ∈ l := by
  rw [List.getD_eq_getElem?_getD, List.getElem?_eq_getElem h]; exact List.getElem_mem _
theorem tabG_at {e2 e1 : TypeId} {σ : Heap} {id ver : Nat} {rs : List Rw} {t : List (List Int)} (h : TabG e2 e1 σ id ver rs t) {i : Nat} (hi : i < t.length) (hl : 1 ≤ (t.getD i []).length) :
    ∃ r, rs[i]? = some r ∧ r.nil = false ∧ (∃ junk, σ[id]? = some (.arr ver e2 1 (pvs rs t ++ junk)) ∧ (pvs rs t ++ junk)[i]? = some (.ref r.id r.ver r.pre.length (t.getD i []).length)) ∧ σ[r.id]? = some (.arr r.ver e1 1 (ints (r.pre ++ t.getD i [] ++ r.post))) := by
  have hir : i < rs.length := by rw [h.len]; exact hi
  have hr : rs[i]? = some rs[i] := List.getElem?_eq_getElem hir
  have ht : t[i]? = some (t.getD i []) := by rw [List.getD_eq_getElem?_getD, List.getElem?_eq_getElem hi]; rfl
  have hR := h.row i _ _ hr ht
  have hn : rs[i].nil = false := by
    cases hx : rs[i].nil with
    | false => rfl
    | true => rw [hR.nl hx] at hl; simp at hl
  obtain ⟨junk, ho⟩ := h.out
  refine ⟨rs[i], hr, hn, ⟨junk, ho, ?_⟩, hR.ow hn⟩
  rw [List.getElem?_append_left (by rw [pvs_length h.len]; exact hi)]
  simp only [pvs, List.getElem?_zipWith, hr, ht, Rw.pv, hn]
  rfl
theorem tabN_pos {e2 e1 : TypeId} {σ : Heap} {v : PV} {t : List (List Int)} (h : TabN e2 e1 σ v t) (h1 : 1 ≤ t.length) : ∃ id ver rs, v = .ref id ver 0 t.length ∧ TabG e2 e1 σ id ver rs t := by
  cases h with
  | nil => simp at h1
  | tab id ver rs _ hG => exact ⟨id, ver, rs, rfl, hG⟩
theorem set_mid {p l q : List Int} {k : Nat} {v : Int} (h : k < l.length) : (p ++ l ++ q).set (k + p.length) v = p ++ l.set k v ++ q := by
  rw [List.append_assoc, List.set_append_right _ _ (by omega), List.append_assoc, Nat.add_sub_cancel, List.set_append_left _ _ h]
theorem p162 (t : List (List Int)) (n : Nat) (h1 : 1 ≤ n) (hn : n ≤ 1000) (hT : Sq0 n t) (hI : In0 n t) (p : List Int) (hp : p.length = n) (hpi : ∀ x ∈ p, 0 ≤ x ∧ x < (n : Int)) :
    ACall Tryz.prog 162 [.list (rows t), .list (ints p)] [] fun v s => ∃ t', Sq0 n t' ∧ TabN 25 2 s v t' ∧ Free s := by
  obtain ⟨htl, hrl⟩ := hT
  refine e162 (by simp) fun _ _ => ?_
  simp only [k162, argEnv, take6, List.drop_zero, Int.cast_ofNat_Int, go_sem, ↓reduceIte, Nat.reduceEqDiff, Nat.reduceAdd, Nat.reduceMul, Nat.reduceLeDiff, Nat.reduceLT, Int.reduceLE, Int.reduceLT, reduceCtorEq]
  refine KL_ind k162_b0.eq_1 (fun y : Nat × PV × Heap => [(0, .list (rows t)), (1, .list (ints p)), (5, y.2.1), (6, .int .i64 y.1)]) (fun y => y.2.2) (fun y => y.1 ≤ n ∧ TabN 25 2 y.2.2 y.2.1 (List.replicate y.1 (List.replicate n 0)) ∧ Free y.2.2) (fun y => n - y.1) [0, 1, 5, 6] (0, .ref 0 0 0 0, [.arr 0 25 1 []]) (by simp [keep]) rfl ⟨Nat.zero_le _, TabN.empty, Free.empty _ _ _⟩ fun ⟨x, v, σ⟩ ⟨hx, hTx, hF⟩ ih => ?_
  simp only at hx hTx hF
  have hz : List.replicate n (PV.int .i64 0) = ints (List.replicate n 0) := by simp [ints]
  try simp only [OpK_eq, HKv, htl, take6, List.drop_zero, Int.cast_ofNat_Int, go_sem, ↓reduceIte, Nat.reduceEqDiff, Nat.reduceAdd, Nat.reduceMul, Nat.reduceLeDiff, Nat.reduceLT, Int.reduceLE, Int.reduceLT, reduceCtorEq]
  refine ⟨fun g1 => ?_, fun g1 => ?_⟩
  · refine ⟨⟨by omega, by omega⟩, hTx.pushRow hF (List.replicate n 0) (vr := 0) (n := n) (by simp) (by simp; omega) fun v' σ' q1 q2 => ?_⟩
    try simp only [OpK_eq, HKv, take6, List.drop_zero, Int.cast_ofNat_Int, go_sem, ↓reduceIte, Nat.reduceEqDiff, Nat.reduceAdd, Nat.reduceMul, Nat.reduceLeDiff, Nat.reduceLT, Int.reduceLE, Int.reduceLT, reduceCtorEq]
    refine ⟨by omega, ih (x + 1, v', σ') ⟨by show x + 1 ≤ n; omega, ?_, q2⟩ (by show n - (x + 1) < n - x; omega) _ _ (by simp [keep]) rfl⟩
    show TabN _ _ σ' v' (List.replicate (x + 1) (List.replicate n 0))
    rw [List.replicate_succ']; exact q1
  · obtain rfl : x = n := by omega
    obtain ⟨id, ver, rs, rfl, hG⟩ := tabN_pos hTx (by simp; omega)
    rw [List.length_replicate]
    have hsq : Sq0 x (List.replicate x (List.replicate x (0 : Int))) := ⟨by simp, fun r hr => by rw [List.eq_of_mem_replicate hr]; simp⟩
    refine KL_ind k162_b2.eq_1 (fun y : Nat × List (List Int) × Heap => [(0, .list (rows t)), (1, .list (ints p)), (5, .ref id ver 0 x), (7, .int .i64 y.1)]) (fun y => y.2.2) (fun y => y.1 ≤ x ∧ Sq0 x y.2.1 ∧ TabG 25 2 y.2.2 id ver rs y.2.1 ∧ Free y.2.2) (fun y => x - y.1) [0, 1, 5, 7] (0, _, σ) (by simp [keep]) rfl ⟨Nat.zero_le _, hsq, hG, hF⟩ fun ⟨a, ta, τ⟩ ⟨ha, hs, hGa, hFa⟩ iha => ?_
    clear hG hF ih hsq
    simp only at ha hs hGa hFa
    try simp only [OpK_eq, HKv, htl, take6, List.drop_zero, Int.cast_ofNat_Int, go_sem, ↓reduceIte, Nat.reduceEqDiff, Nat.reduceAdd, Nat.reduceMul, Nat.reduceLeDiff, Nat.reduceLT, Int.reduceLE, Int.reduceLT, reduceCtorEq]
    refine ⟨fun g2 => ?_, fun g2 => ?_⟩
    · refine KL_ind k162_b1.eq_1 (fun y : Nat × List (List Int) × Heap => [(0, .list (rows t)), (1, .list (ints p)), (5, .ref id ver 0 x), (7, .int .i64 a), (8, .int .i64 y.1)]) (fun y => y.2.2) (fun y => y.1 ≤ x ∧ Sq0 x y.2.1 ∧ TabG 25 2 y.2.2 id ver rs y.2.1 ∧ Free y.2.2) (fun y => x - y.1) [0, 1, 5, 7, 8] (0, ta, τ) (by simp [keep]) rfl ⟨Nat.zero_le _, hs, hGa, hFa⟩ fun ⟨b, tb, ρ⟩ ⟨hb, hsb, hGb, hFb⟩ ihb => ?_
      clear hGa hFa
      simp only at hb hsb hGb hFb
      obtain ⟨s1, s2⟩ := hsb
      have hat := fun (i : Nat) (hi : i < x) => tabG_at hGb (i := i) (by omega) (by rw [s2 _ (getD_memR (by omega))]; omega)
      try simp only [OpK_eq, HKv, htl, take6, List.drop_zero, Int.cast_ofNat_Int, go_sem, ↓reduceIte, Nat.reduceEqDiff, Nat.reduceAdd, Nat.reduceMul, Nat.reduceLeDiff, Nat.reduceLT, Int.reduceLE, Int.reduceLT, reduceCtorEq]
      refine ⟨fun g3 => ?_, fun g3 => ?_⟩
      · have hpa := getD_in hpi (i := a) (by omega)
        have hpb := getD_in hpi (i := b) (by omega)
        obtain ⟨i, hi⟩ : ∃ i : Nat, p.getD a 0 = (i : Int) := ⟨(p.getD a 0).toNat, by omega⟩
        obtain ⟨k, hk⟩ : ∃ k : Nat, p.getD b 0 = (k : Int) := ⟨(p.getD b 0).toNat, by omega⟩
        rw [hi] at hpa
        rw [hk] at hpb
        obtain ⟨r, r1, r2, ⟨junk, r3, r4⟩, r5⟩ := hat i (by omega)
        have r6 : (tb.getD i []).length = x := s2 _ (getD_memR (by omega))
        have hra : (t.getD a []).length = x := hrl _ (getD_memR (by omega))
        have hrb : 0 ≤ (t.getD a []).getD b 0 ∧ (t.getD a []).getD b 0 < (x : Int) := getD_in (hI _ (getD_memR (by omega))) (by omega)
        obtain ⟨m, hm⟩ : ∃ m : Nat, (t.getD a []).getD b 0 = (m : Int) := ⟨((t.getD a []).getD b 0).toNat, by omega⟩
        rw [hm] at hrb
        have r7 := pvs_length hGb.len
        simp only [hi, r3, r4]
        try simp only [OpK_eq, HKv, htl, hp, hk, hm, hra, r3, r4, r5, r6, take6, List.drop_zero, Int.cast_ofNat_Int, go_sem, ↓reduceIte, Nat.reduceEqDiff, Nat.reduceAdd, Nat.reduceMul, Nat.reduceLeDiff, Nat.reduceLT, Int.reduceLE, Int.reduceLT, reduceCtorEq]
        refine ⟨by omega, fun _ => ⟨⟨by omega, by omega⟩, ?_⟩⟩
        try simp only [OpK_eq, HKv, htl, hp, hk, hm, hra, r3, r4, r5, r6, take6, List.drop_zero, Int.cast_ofNat_Int, go_sem, ↓reduceIte, Nat.reduceEqDiff, Nat.reduceAdd, Nat.reduceMul, Nat.reduceLeDiff, Nat.reduceLT, Int.reduceLE, Int.reduceLT, reduceCtorEq]
        have htb : tb[i]? = some (tb.getD i []) := by rw [List.getD_eq_getElem?_getD, List.getElem?_eq_getElem (by omega)]; rfl
        have hset := hGb.set r1 r2 htb (m := (tb.getD i []).set k (p.getD m 0)) (by simp)
        rw [← set_mid (by omega)] at hset
        exact ⟨by omega, by omega, fun _ => ⟨by omega, fun _ => ⟨by omega, fun _ => ⟨by omega, fun _ => ⟨⟨by omega, by omega⟩, by omega, fun _ => ⟨by omega, ihb (b + 1, _, _) ⟨by show b + 1 ≤ x; omega, ⟨by rw [List.length_set]; exact s1, fun q hq => by
          rcases List.mem_or_eq_of_mem_set hq with hq | rfl
          · exact s2 q hq
          · rw [List.length_set]; exact r6⟩, hset, Free.set hFb _ (free_ints _)⟩ (by show x - (b + 1) < x - b; omega) _ _ (by simp [keep]) rfl⟩⟩⟩⟩⟩⟩
      · obtain rfl : b = x := by omega
        try simp only [OpK_eq, HKv, take6, List.drop_zero, Int.cast_ofNat_Int, go_sem, ↓reduceIte, Nat.reduceEqDiff, Nat.reduceAdd, Nat.reduceMul, Nat.reduceLeDiff, Nat.reduceLT, Int.reduceLE, Int.reduceLT, reduceCtorEq]
        exact ⟨by omega, iha (a + 1, tb, ρ) ⟨by show a + 1 ≤ b; omega, ⟨s1, s2⟩, hGb, hFb⟩ (by show b - (a + 1) < b - a; omega) _ _ (by simp [keep]) rfl⟩
    · try simp only [OpK_eq, HKv, take6, List.drop_zero, Int.cast_ofNat_Int, go_sem, ↓reduceIte, Nat.reduceEqDiff, Nat.reduceAdd, Nat.reduceMul, Nat.reduceLeDiff, Nat.reduceLT, Int.reduceLE, Int.reduceLT, reduceCtorEq]
      exact Kv.Fin.now ⟨ta, hs, hs.1 ▸ .tab id ver rs ta hGa, hFa⟩
end Go.Proofs.YtpfapiiinkkcgaaGreat
end
