/- Monoid tables: both sides, and the law's function. -/
import Derived.Test.YtkdkdkkimieieaaT3
namespace Go.Proofs.Ytkdkdkkimieieaa
open Go.Kv
set_option linter.unusedVariables false
set_option linter.unusedSimpArgs false
attribute [local irreducible] ACall PCall KL
def ascC (t : List (List Int)) (a b c : Nat) : Bool := decide (tat t (tat t a b).toNat c = tat t a (tat t b c).toNat)
def ascB (t : List (List Int)) (a b : Nat) : Bool := (List.range t.length).all (ascC t a b)
def ascA (t : List (List Int)) (a : Nat) : Bool := (List.range t.length).all (ascB t a)
def asc (t : List (List Int)) : Bool := (List.range t.length).all (ascA t)
def monB (t : List (List Int)) : Bool := decide (0 ≤ idn t) && asc t
theorem all_range_succ (p : Nat → Bool) (n : Nat) : (List.range (n + 1)).all p = ((List.range n).all p && p n) := by simp [List.range_succ, List.all_append]
theorem not_range {p : Nat → Bool} {n x : Nat} (h : x < n) (hp : p x = false) : (List.range n).all p = false := by
  rw [List.all_eq_false]; exact ⟨x, by simpa using h, by simp [hp]⟩
theorem asc_bad {t : List (List Int)} {a b c : Nat} (ha : a < t.length) (hb : b < t.length) (hc : c < t.length) (h : ¬ (t.getD ((t.getD a []).getD b 0).toNat []).getD c 0 = (t.getD a []).getD ((t.getD b []).getD c 0).toNat 0) : asc t = false := by
  refine not_range ha (not_range hb (not_range hc ?_))
  simpa [ascC, tat] using h
theorem p89 (t : List (List Int)) (h : isTab t = true) : Pure Try.prog 89 [.list (rows t)] (.bool (monB t)) := by
  obtain ⟨hn, hsq⟩ := tab_sq h
  refine e89 (by simp) fun _ _ => ?_
  simp only [k89, argEnv, go_sem, ↓reduceIte, Nat.reduceEqDiff, Nat.reduceAdd, reduceCtorEq]
  refine (p75 t h).use (.int _ _) (.cons (.listr _ _) (.nil _)) ?_
  simp only [go_sem, ↓reduceIte, Nat.reduceEqDiff, Nat.reduceAdd, reduceCtorEq]
  refine ⟨fun h0 => Kv.Fin.now ⟨by simp [monB]; omega, rfl⟩, fun h0 => ?_⟩
  have hid : decide (0 ≤ idn t) = true := by simp; omega
  refine KL_ind k89_b2.eq_1 (fun x : Nat => [(3, .int .i64 x), (0, .list (rows t))]) (fun _ => []) (fun x => x ≤ t.length ∧ (List.range x).all (ascA t) = true) (fun x => t.length - x) [3, 0] 0 rfl rfl ⟨Nat.zero_le _, by simp⟩ fun x ⟨hx, hall⟩ ihx => ?_
  simp only [go_sem, ↓reduceIte, Nat.reduceEqDiff, Nat.reduceAdd, reduceCtorEq]
  refine ⟨fun h1 => ?_, fun h1 => ?_⟩
  · have hsx := hsq x (by omega)
    refine KL_ind k89_b1.eq_1 (fun y : Nat => [(4, .int .i64 y), (3, .int .i64 x), (0, .list (rows t))]) (fun _ => []) (fun y => y ≤ t.length ∧ (List.range y).all (ascB t x) = true) (fun y => t.length - y) [4, 3, 0] 0 rfl rfl ⟨Nat.zero_le _, by simp⟩ fun y ⟨hy, hall2⟩ ihy => ?_
    simp only [go_sem, ↓reduceIte, Nat.reduceEqDiff, Nat.reduceAdd, reduceCtorEq]
    refine ⟨fun h2 => ?_, fun h2 => ?_⟩
    · have hsy := hsq y (by omega)
      refine KL_ind k89_b0.eq_1 (fun z : Nat => [(5, .int .i64 z), (4, .int .i64 y), (3, .int .i64 x), (0, .list (rows t))]) (fun _ => []) (fun z => z ≤ t.length ∧ (List.range z).all (ascC t x y) = true) (fun z => t.length - z) [5, 4, 3, 0] 0 rfl rfl ⟨Nat.zero_le _, by simp⟩ fun z ⟨hz, hall3⟩ ihz => ?_
      simp only [go_sem, ↓reduceIte, Nat.reduceEqDiff, Nat.reduceAdd, reduceCtorEq]
      refine ⟨fun h3 => ?_, fun h3 => ?_⟩
      · have hv := tab_at h (i := x) (j := y) (by omega) (by omega)
        have hw := tab_at h (i := y) (j := z) (by omega) (by omega)
        unfold tat at hv hw
        have hsv := hsq ((t.getD x []).getD y 0).toNat (by omega)
        repeat' (first | refine And.intro ?_ ?_ | intro _)
        all_goals (try omega)
        · exact Kv.Fin.now ⟨by rw [monB, asc_bad (a := x) (b := y) (c := z) (by omega) (by omega) (by omega) (by assumption), Bool.and_false], rfl⟩
        · refine ihz (z + 1) ⟨by omega, ?_⟩ (by omega) _ _ rfl rfl
          rw [all_range_succ, hall3, Bool.true_and]
          exact decide_eq_true (by unfold tat; first | assumption | exact Eq.symm (by assumption))
      · obtain rfl : z = t.length := by omega
        refine ⟨by omega, ?_⟩
        refine ihy (y + 1) ⟨by omega, ?_⟩ (by omega) _ _ rfl rfl
        rw [all_range_succ, hall2, Bool.true_and]
        exact hall3
    · obtain rfl : y = t.length := by omega
      refine ⟨by omega, ?_⟩
      refine ihx (x + 1) ⟨by omega, ?_⟩ (by omega) _ _ rfl rfl
      rw [all_range_succ, hall, Bool.true_and]
      exact hall2
  · obtain rfl : x = t.length := by omega
    exact Kv.Fin.now ⟨by rw [monB, hid, asc, hall]; rfl, rfl⟩
theorem p90 (t : List (List Int)) (h : isTab t = true) : Pure Try.prog 90 [.list (rows t)] (.bool (monB t)) := by
  obtain ⟨hn, hsq⟩ := tab_sq h
  refine e90 (by simp) fun _ _ => ?_
  simp only [k90, argEnv, go_sem, ↓reduceIte, Nat.reduceEqDiff, Nat.reduceAdd, reduceCtorEq]
  refine KL_ind k90_b2.eq_1 (fun x : Nat => [(8, .int .i64 x), (7, .int .i64 t.length), (0, .list (rows t))]) (fun _ => []) (fun x => x ≤ t.length ∧ (List.range x).all (ascA t) = true) (fun x => t.length - x) [8, 7, 0] 0 rfl rfl ⟨Nat.zero_le _, by simp⟩ fun x ⟨hx, hall⟩ ihx => ?_
  simp only [go_sem, ↓reduceIte, Nat.reduceEqDiff, Nat.reduceAdd, reduceCtorEq]
  refine ⟨fun h1 => ?_, fun h1 => ?_⟩
  · have hsx := hsq x (by omega)
    refine KL_ind k90_b1.eq_1 (fun y : Nat => [(13, .int .i64 y), (12, .int .i64 t.length), (3, .int .i64 x), (8, .int .i64 x), (7, .int .i64 t.length), (0, .list (rows t))]) (fun _ => []) (fun y => y ≤ t.length ∧ (List.range y).all (ascB t x) = true) (fun y => t.length - y) [13, 12, 3, 8, 7, 0] 0 rfl rfl ⟨Nat.zero_le _, by simp⟩ fun y ⟨hy, hall2⟩ ihy => ?_
    simp only [go_sem, ↓reduceIte, Nat.reduceEqDiff, Nat.reduceAdd, reduceCtorEq]
    refine ⟨fun h2 => ?_, fun h2 => ?_⟩
    · have hsy := hsq y (by omega)
      refine KL_ind k90_b0.eq_1 (fun z : Nat => [(18, .int .i64 z), (17, .int .i64 t.length), (4, .int .i64 y), (13, .int .i64 y), (12, .int .i64 t.length), (3, .int .i64 x), (8, .int .i64 x), (7, .int .i64 t.length), (0, .list (rows t))]) (fun _ => []) (fun z => z ≤ t.length ∧ (List.range z).all (ascC t x y) = true) (fun z => t.length - z) [18, 17, 4, 13, 12, 3, 8, 7, 0] 0 rfl rfl ⟨Nat.zero_le _, by simp⟩ fun z ⟨hz, hall3⟩ ihz => ?_
      simp only [go_sem, ↓reduceIte, Nat.reduceEqDiff, Nat.reduceAdd, reduceCtorEq]
      refine ⟨fun h3 => ?_, fun h3 => ?_⟩
      · have hv := tab_at h (i := x) (j := y) (by omega) (by omega)
        have hw := tab_at h (i := y) (j := z) (by omega) (by omega)
        unfold tat at hv hw
        have hsv := hsq ((t.getD x []).getD y 0).toNat (by omega)
        repeat' (first | refine And.intro ?_ ?_ | intro _)
        all_goals (try omega)
        · exact Kv.Fin.now ⟨by rw [monB, asc_bad (a := x) (b := y) (c := z) (by omega) (by omega) (by omega) (fun e => absurd e.symm (by assumption)), Bool.and_false], rfl⟩
        · refine ihz (z + 1) ⟨by omega, ?_⟩ (by omega) _ _ rfl rfl
          rw [all_range_succ, hall3, Bool.true_and]
          exact decide_eq_true (by unfold tat; first | assumption | exact Eq.symm (by assumption))
      · obtain rfl : z = t.length := by omega
        refine ⟨by omega, ?_⟩
        refine ihy (y + 1) ⟨by omega, ?_⟩ (by omega) _ _ rfl rfl
        rw [all_range_succ, hall2, Bool.true_and]
        exact hall3
    · obtain rfl : y = t.length := by omega
      refine ⟨by omega, ?_⟩
      refine ihx (x + 1) ⟨by omega, ?_⟩ (by omega) _ _ rfl rfl
      rw [all_range_succ, hall, Bool.true_and]
      exact hall2
  · obtain rfl : x = t.length := by omega
    refine (p78 t h).use (.int _ _) (.cons (.listr _ _) (.nil _)) ?_
    simp only [go_sem, ↓reduceIte, Nat.reduceEqDiff, Nat.reduceAdd, reduceCtorEq]
    exact Kv.Fin.now ⟨by rw [monB, asc, hall, Bool.and_true], rfl⟩
theorem p47 (t : List (List Int)) (ht : t.length ≤ 1048576) (hl : ∀ r ∈ t, r.length ≤ 1048576) : Pure Try.prog 47 [.list (rows t)] (.tup [.bool (isTab t && monB t), .int .i64 (if isTab t = true then 0 else 2)]) := by
  refine e47 (by simp) fun _ _ => ?_
  simp only [k47, argEnv, go_sem, ↓reduceIte, Nat.reduceEqDiff, Nat.reduceAdd, reduceCtorEq]
  refine (p74 t ht hl).use (.bool _) (.cons (.listr _ _) (.nil _)) ?_
  simp only [go_sem, ↓reduceIte, Nat.reduceEqDiff, Nat.reduceAdd, reduceCtorEq]
  refine ⟨fun h => ?_, fun h => ?_⟩
  · exact Kv.Fin.now ⟨by simp [h], rfl⟩
  · refine (p89 t h).use (.bool _) (.cons (.listr _ _) (.nil _)) ?_
    simp only [go_sem, ↓reduceIte, Nat.reduceEqDiff, Nat.reduceAdd, reduceCtorEq]
    exact Kv.Fin.now ⟨by simp [h], rfl⟩
theorem p48 (t : List (List Int)) (ht : t.length ≤ 1048576) (hl : ∀ r ∈ t, r.length ≤ 1048576) : Pure Try.prog 48 [.list (rows t)] (.tup [.bool (isTab t && monB t), .int .i64 (if isTab t = true then 0 else 2)]) := by
  refine e48 (by simp) fun _ _ => ?_
  simp only [k48, argEnv, go_sem, ↓reduceIte, Nat.reduceEqDiff, Nat.reduceAdd, reduceCtorEq]
  refine (p77 t ht hl).use (.bool _) (.cons (.listr _ _) (.nil _)) ?_
  simp only [go_sem, ↓reduceIte, Nat.reduceEqDiff, Nat.reduceAdd, reduceCtorEq]
  refine ⟨fun h => ?_, fun h => ?_⟩
  · exact Kv.Fin.now ⟨by simp [h], rfl⟩
  · refine (p90 t h).use (.bool _) (.cons (.listr _ _) (.nil _)) ?_
    simp only [go_sem, ↓reduceIte, Nat.reduceEqDiff, Nat.reduceAdd, reduceCtorEq]
    exact Kv.Fin.now ⟨by simp [h], rfl⟩
theorem plainB (b : Bool) (r : Int) : Plain (.tup [.bool b, .int .i64 r]) := .tup fun c hc => by
  simp only [List.mem_cons, List.not_mem_nil, or_false] at hc
  rcases hc with rfl | rfl
  · exact .bool _
  · exact .int _ _
theorem p13 (t : List (List Int)) (ht : t.length ≤ 9223372036854775807) (hl : ∀ r ∈ t, r.length ≤ 9223372036854775807) : Pure Try.prog 13 [.list (rows t)] (.bool true) := by
  refine e13 (by simp) fun _ _ => ?_
  simp only [k13, argEnv, go_sem, ↓reduceIte, Nat.reduceEqDiff, Nat.reduceAdd, reduceCtorEq]
  refine (p32 t 1048576 ht hl (by omega)).use (.int _ _) (.cons (.listr _ _) (.cons (.int _ _ _) (.nil _))) ?_
  simp only [go_sem, ↓reduceIte, Nat.reduceEqDiff, Nat.reduceAdd, reduceCtorEq]
  refine ⟨fun h => Kv.Fin.now ⟨rfl, rfl⟩, fun h => ?_⟩
  obtain ⟨ht', hl'⟩ := szT_ok t h
  refine (p34 t ht' hl').mono fun v s ⟨hv, hs⟩ => ?_
  subst hv; subst hs
  simp only [go_sem, ↓reduceIte, Nat.reduceEqDiff, Nat.reduceAdd, reduceCtorEq]
  refine (p47 t ht' hl').use (plainB _ _) (.cons (.listr _ _) (.nil _)) ?_
  simp only [go_sem, ↓reduceIte, Nat.reduceEqDiff, Nat.reduceAdd, reduceCtorEq]
  refine (p34 t ht' hl').mono fun v s ⟨hv, hs⟩ => ?_
  subst hv; subst hs
  simp only [go_sem, ↓reduceIte, Nat.reduceEqDiff, Nat.reduceAdd, reduceCtorEq]
  refine (p48 t ht' hl').use (plainB _ _) (.cons (.listr _ _) (.nil _)) ?_
  simp only [go_sem, ↓reduceIte, Nat.reduceEqDiff, Nat.reduceAdd, reduceCtorEq]
  simp only [bne_self_eq_false, not_false_eq_true, decide_false, decide_true, go_sem, ↓reduceIte, Nat.reduceEqDiff, Nat.reduceAdd, reduceCtorEq]
  refine (p34 t ht' hl').mono fun v s ⟨hv, hs⟩ => ?_
  subst hv; subst hs
  simp only [go_sem, ↓reduceIte, Nat.reduceEqDiff, Nat.reduceAdd, reduceCtorEq]
  refine (p36 t t (by omega) (by omega) (fun r hr => by have := hl' r hr; omega) (fun r hr => by have := hl' r hr; omega)).use (.bool _) (.cons (.listr _ _) (.cons (.listr _ _) (.nil _))) ?_
  simp only [go_sem, ↓reduceIte, Nat.reduceEqDiff, Nat.reduceAdd, reduceCtorEq]
  exact Kv.Fin.now ⟨rfl, rfl⟩
end Go.Proofs.Ytkdkdkkimieieaa
