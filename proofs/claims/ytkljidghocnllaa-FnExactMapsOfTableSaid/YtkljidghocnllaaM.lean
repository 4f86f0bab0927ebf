/- Monoid tables: both sides, and the law's function. -/
import Derived.Test.YtkljidghocnllaaMc
import Derived.Test.YtkljidghocnllaaT3
namespace Go.Proofs.Ytkljidghocnllaa
open Go.Kv
set_option linter.unusedVariables false
set_option linter.unusedSimpArgs false
attribute [local irreducible] ACall PCall KL
def ascC (t : List (List Int)) (a b c : Nat) : Bool := decide (tat t (tat t a b).toNat c = tat t a (tat t b c).toNat)
def ascB (t : List (List Int)) (a b : Nat) : Bool := (List.range t.length).all (ascC t a b)
def ascA (t : List (List Int)) (a : Nat) : Bool := (List.range t.length).all (ascB t a)
def asc (t : List (List Int)) : Bool := (List.range t.length).all (ascA t)
def monB (t : List (List Int)) : Bool := decide (0 ≤ idn t) && asc t
theorem asc_bad {t : List (List Int)} {a b c : Nat} (ha : a < t.length) (hb : b < t.length) (hc : c < t.length) (h : ¬ (t.getD ((t.getD a []).getD b 0).toNat []).getD c 0 = (t.getD a []).getD ((t.getD b []).getD c 0).toNat 0) : asc t = false := by
  refine not_range ha (not_range hb (not_range hc ?_))
  simpa [ascC, tat] using h
theorem p83 (t : List (List Int)) (h : isTab t = true) : Pure Try.prog 83 [.list (rows t)] (.bool (monB t)) := by
  obtain ⟨hn, hsq⟩ := tab_sq h
  refine e83 (by simp) fun _ _ => ?_
  simp only [k83, argEnv, go_sem, ↓reduceIte, Nat.reduceEqDiff, Nat.reduceAdd, reduceCtorEq]
  refine (p119 t h).use (.int _ _) (.cons (.listr _ _) (.nil _)) ?_
  simp only [go_sem, ↓reduceIte, Nat.reduceEqDiff, Nat.reduceAdd, reduceCtorEq]
  refine ⟨fun h0 => Kv.Fin.now ⟨by simp [monB]; omega, rfl⟩, fun h0 => ?_⟩
  have hid : decide (0 ≤ idn t) = true := by simp; omega
  refine KL_ind k83_b2.eq_1 (fun x : Nat => [(3, .int .i64 x), (0, .list (rows t))]) (fun _ => []) (fun x => x ≤ t.length ∧ (List.range x).all (ascA t) = true) (fun x => t.length - x) [3, 0] 0 rfl rfl ⟨Nat.zero_le _, by simp⟩ fun x ⟨hx, hall⟩ ihx => ?_
  simp only [go_sem, ↓reduceIte, Nat.reduceEqDiff, Nat.reduceAdd, reduceCtorEq]
  refine ⟨fun h1 => ?_, fun h1 => ?_⟩
  · have hsx := hsq x (by omega)
    refine KL_ind k83_b1.eq_1 (fun y : Nat => [(4, .int .i64 y), (3, .int .i64 x), (0, .list (rows t))]) (fun _ => []) (fun y => y ≤ t.length ∧ (List.range y).all (ascB t x) = true) (fun y => t.length - y) [4, 3, 0] 0 rfl rfl ⟨Nat.zero_le _, by simp⟩ fun y ⟨hy, hall2⟩ ihy => ?_
    simp only [go_sem, ↓reduceIte, Nat.reduceEqDiff, Nat.reduceAdd, reduceCtorEq]
    refine ⟨fun h2 => ?_, fun h2 => ?_⟩
    · have hsy := hsq y (by omega)
      refine KL_ind k83_b0.eq_1 (fun z : Nat => [(5, .int .i64 z), (4, .int .i64 y), (3, .int .i64 x), (0, .list (rows t))]) (fun _ => []) (fun z => z ≤ t.length ∧ (List.range z).all (ascC t x y) = true) (fun z => t.length - z) [5, 4, 3, 0] 0 rfl rfl ⟨Nat.zero_le _, by simp⟩ fun z ⟨hz, hall3⟩ ihz => ?_
      simp only [go_sem, ↓reduceIte, Nat.reduceEqDiff, Nat.reduceAdd, reduceCtorEq]
      refine ⟨fun h3 => ?_, fun h3 => ?_⟩
      · have hv := tab_at h (i := x) (j := y) (by omega) (by omega)
        have hw := tab_at h (i := y) (j := z) (by omega) (by omega)
        unfold tat at hv hw
        have hsv := hsq ((t.getD x []).getD y 0).toNat (by omega)
        repeat' (first | refine And.intro ?_ ?_ | intro _)
        all_goals (try omega)
        · exact Kv.Fin.now ⟨by rw [monB, asc_bad (a := x) (b := y) (c := z) (by omega) (by omega) (by omega) (by assumption), Bool.and_false], rfl⟩
        · refine ihz (z + 1) ⟨by omega, ?_⟩ (by omega) _ _ rfl rfl
          rw [all_range_succ, hall3, Bool.true_and]
          exact decide_eq_true (by unfold tat; first | assumption | exact Eq.symm (by assumption))
      · obtain rfl : z = t.length := by omega
        refine ⟨by omega, ?_⟩
        refine ihy (y + 1) ⟨by omega, ?_⟩ (by omega) _ _ rfl rfl
        rw [all_range_succ, hall2, Bool.true_and]
        exact hall3
    · obtain rfl : y = t.length := by omega
      refine ⟨by omega, ?_⟩
      refine ihx (x + 1) ⟨by omega, ?_⟩ (by omega) _ _ rfl rfl
      rw [all_range_succ, hall, Bool.true_and]
      exact hall2
  · obtain rfl : x = t.length := by omega
    exact Kv.Fin.now ⟨by rw [monB, hid, asc, hall]; rfl, rfl⟩
theorem p85 (t : List (List Int)) (h : isTab t = true) : Pure Try.prog 85 [.list (rows t)] (.bool (monB t)) := by
  obtain ⟨hn, hsq⟩ := tab_sq h
  refine e85 (by simp) fun _ _ => ?_
  simp only [k85, argEnv, go_sem, ↓reduceIte, Nat.reduceEqDiff, Nat.reduceAdd, reduceCtorEq]
  refine KL_ind k85_b2.eq_1 (fun x : Nat => [(8, .int .i64 x), (7, .int .i64 t.length), (0, .list (rows t))]) (fun _ => []) (fun x => x ≤ t.length ∧ (List.range x).all (ascA t) = true) (fun x => t.length - x) [8, 7, 0] 0 rfl rfl ⟨Nat.zero_le _, by simp⟩ fun x ⟨hx, hall⟩ ihx => ?_
  simp only [go_sem, ↓reduceIte, Nat.reduceEqDiff, Nat.reduceAdd, reduceCtorEq]
  refine ⟨fun h1 => ?_, fun h1 => ?_⟩
  · have hsx := hsq x (by omega)
    refine KL_ind k85_b1.eq_1 (fun y : Nat => [(13, .int .i64 y), (12, .int .i64 t.length), (3, .int .i64 x), (8, .int .i64 x), (7, .int .i64 t.length), (0, .list (rows t))]) (fun _ => []) (fun y => y ≤ t.length ∧ (List.range y).all (ascB t x) = true) (fun y => t.length - y) [13, 12, 3, 8, 7, 0] 0 rfl rfl ⟨Nat.zero_le _, by simp⟩ fun y ⟨hy, hall2⟩ ihy => ?_
    simp only [go_sem, ↓reduceIte, Nat.reduceEqDiff, Nat.reduceAdd, reduceCtorEq]
    refine ⟨fun h2 => ?_, fun h2 => ?_⟩
    · have hsy := hsq y (by omega)
      refine KL_ind k85_b0.eq_1 (fun z : Nat => [(18, .int .i64 z), (17, .int .i64 t.length), (4, .int .i64 y), (13, .int .i64 y), (12, .int .i64 t.length), (3, .int .i64 x), (8, .int .i64 x), (7, .int .i64 t.length), (0, .list (rows t))]) (fun _ => []) (fun z => z ≤ t.length ∧ (List.range z).all (ascC t x y) = true) (fun z => t.length - z) [18, 17, 4, 13, 12, 3, 8, 7, 0] 0 rfl rfl ⟨Nat.zero_le _, by simp⟩ fun z ⟨hz, hall3⟩ ihz => ?_
      simp only [go_sem, ↓reduceIte, Nat.reduceEqDiff, Nat.reduceAdd, reduceCtorEq]
      refine ⟨fun h3 => ?_, fun h3 => ?_⟩
      · have hv := tab_at h (i := x) (j := y) (by omega) (by omega)
        have hw := tab_at h (i := y) (j := z) (by omega) (by omega)
        unfold tat at hv hw
        have hsv := hsq ((t.getD x []).getD y 0).toNat (by omega)
        repeat' (first | refine And.intro ?_ ?_ | intro _)
        all_goals (try omega)
        · exact Kv.Fin.now ⟨by rw [monB, asc_bad (a := x) (b := y) (c := z) (by omega) (by omega) (by omega) (fun e => absurd e.symm (by assumption)), Bool.and_false], rfl⟩
        · refine ihz (z + 1) ⟨by omega, ?_⟩ (by omega) _ _ rfl rfl
          rw [all_range_succ, hall3, Bool.true_and]
          exact decide_eq_true (by unfold tat; first | assumption | exact Eq.symm (by assumption))
      · obtain rfl : z = t.length := by omega
        refine ⟨by omega, ?_⟩
        refine ihy (y + 1) ⟨by omega, ?_⟩ (by omega) _ _ rfl rfl
        rw [all_range_succ, hall2, Bool.true_and]
        exact hall3
    · obtain rfl : y = t.length := by omega
      refine ⟨by omega, ?_⟩
      refine ihx (x + 1) ⟨by omega, ?_⟩ (by omega) _ _ rfl rfl
      rw [all_range_succ, hall, Bool.true_and]
      exact hall2
  · obtain rfl : x = t.length := by omega
    refine (p120 t h).use (.int _ _) (.cons (.listr _ _) (.nil _)) ?_
    simp only [go_sem, ↓reduceIte, Nat.reduceEqDiff, Nat.reduceAdd, reduceCtorEq]
    exact Kv.Fin.now ⟨by rw [monB, asc, hall, Bool.and_true], rfl⟩
theorem plainB (b : Bool) (r : Int) : Plain (.tup [.bool b, .int .i64 r]) := .tup fun c hc => by
  simp only [List.mem_cons, List.not_mem_nil, or_false] at hc
  rcases hc with rfl | rfl
  · exact .bool _
  · exact .int _ _
end Go.Proofs.Ytkljidghocnllaa
