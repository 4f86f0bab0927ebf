/- The identity of a table: both sides, and the law's function. -/
import Derived.Test.YtkljidghocnllaaT3c
import Derived.Test.YtkljidghocnllaaT2
namespace Go.Proofs.Ytkljidghocnllaa
open Go.Kv
set_option linter.unusedVariables false
set_option linter.unusedSimpArgs false
attribute [local irreducible] ACall PCall KL
def tat (t : List (List Int)) (i j : Nat) : Int := (t.getD i []).getD j 0
def okE (t : List (List Int)) (e y : Nat) : Bool := (List.range y).all fun x => decide (tat t e x = x) && decide (tat t x e = x)
theorem okE_succ (t : List (List Int)) (e y : Nat) : okE t e (y + 1) = (okE t e y && (decide (tat t e y = y) && decide (tat t y e = y))) := by simp [okE, List.range_succ, List.all_append]
def idn (t : List (List Int)) : Int := idx (fun e => okE t e t.length) (List.range t.length)
theorem tab_sq {t : List (List Int)} (h : isTab t = true) : (1 ≤ t.length ∧ t.length ≤ 40) ∧ ∀ i, i < t.length → (t.getD i []).length = t.length := by
  simp only [isTab, Bool.and_eq_true, decide_eq_true_eq, List.all_eq_true] at h
  refine ⟨h.1, fun i hi => ?_⟩
  have := h.2 _ (rows_getD_len hi)
  simp only [rowOk, Bool.and_eq_true, decide_eq_true_eq] at this
  exact this.1
theorem tab_at {t : List (List Int)} (h : isTab t = true) {i j : Nat} (hi : i < t.length) (hj : j < t.length) : 0 ≤ tat t i j ∧ tat t i j ≤ (t.length : Int) - 1 := by
  have hs := (tab_sq h).2 i hi
  simp only [isTab, Bool.and_eq_true, decide_eq_true_eq, List.all_eq_true] at h
  have := h.2 _ (rows_getD_len hi)
  simp only [rowOk, Bool.and_eq_true, decide_eq_true_eq, List.all_eq_true] at this
  exact this.2 _ (by unfold tat; rw [getD_eq (l := t.getD i []) (by omega)]; exact List.getElem_mem _)
theorem p119 (t : List (List Int)) (h : isTab t = true) : Pure Try.prog 119 [.list (rows t)] (.int .i64 (idn t)) := by
  obtain ⟨hn, hsq⟩ := tab_sq h
  refine e119 (by simp) fun _ _ => ?_
  simp only [k119, argEnv, go_sem, ↓reduceIte, Nat.reduceEqDiff, Nat.reduceAdd, reduceCtorEq]
  refine KL_ind k119_b1.eq_1 (fun x : Nat => [(3, .int .i64 x), (0, .list (rows t))]) (fun _ => []) (fun x => x ≤ t.length ∧ ((List.range t.length).take x).any (fun e => okE t e t.length) = false) (fun x => t.length - x) [3, 0] 0 rfl rfl ⟨Nat.zero_le _, by simp⟩ fun x ⟨hx, hall⟩ ihx => ?_
  simp only [go_sem, ↓reduceIte, Nat.reduceEqDiff, Nat.reduceAdd, reduceCtorEq]
  refine ⟨fun h1 => ?_, fun h1 => ?_⟩
  · have hxl : x < (List.range t.length).length := by simp; omega
    have hsx := hsq x (by omega)
    refine KL_ind k119_b0.eq_1 (fun y : Nat => [(5, .int .i64 y), (4, .bool (okE t x y)), (3, .int .i64 x), (0, .list (rows t))]) (fun _ => []) (fun y => y ≤ t.length) (fun y => t.length - y) [5, 4, 3, 0] 0 rfl rfl (Nat.zero_le _) fun y hy ihy => ?_
    simp only [go_sem, ↓reduceIte, Nat.reduceEqDiff, Nat.reduceAdd, reduceCtorEq]
    refine ⟨fun h2 => ?_, fun h2 => ?_⟩
    · have hsy := hsq y (by omega)
      have hs := okE_succ t x y
      unfold tat at hs
      repeat' (first | refine And.intro ?_ ?_ | intro _)
      all_goals (try omega)
      all_goals (try first | exact True.intro | contradiction)
      all_goals refine ihy (y + 1) (by omega) (by omega) _ _ ?_ rfl
      all_goals clear ihx ihy hall hsq h hn hx hsx hsy hy h2 h1
      all_goals rw [hs]
      all_goals clear hs
      all_goals simp only [keep, List.map_cons, List.map_nil, look_cons, ↓reduceIte, Nat.reduceEqDiff, reduceCtorEq, *, decide_true, decide_false, Bool.true_and, Bool.false_and, Bool.and_false, Bool.and_true]
      all_goals (try rfl)
    · obtain rfl : y = t.length := by omega
      refine ⟨fun h3 => ?_, fun h3 => ⟨by omega, ?_⟩⟩
      · refine Kv.Fin.now ⟨?_, rfl⟩
        rw [idn, idx_some hxl hall (by simpa using h3)]
      · refine ihx (x + 1) ⟨by omega, ?_⟩ (by omega) _ _ rfl rfl
        rw [any_take_succ _ hxl, hall]
        simpa using h3
  · obtain rfl : x = t.length := by omega
    rw [List.take_of_length_le (by simp)] at hall
    exact Kv.Fin.now ⟨by rw [idn, idx_none hall], rfl⟩
theorem p120 (t : List (List Int)) (h : isTab t = true) : Pure Try.prog 120 [.list (rows t)] (.int .i64 (idn t)) := by
  obtain ⟨hn, hsq⟩ := tab_sq h
  refine e120 (by simp) fun _ _ => ?_
  simp only [k120, argEnv, go_sem, ↓reduceIte, Nat.reduceEqDiff, Nat.reduceAdd, reduceCtorEq]
  refine KL_ind k120_b1.eq_1 (fun x : Nat => [(9, .int .i64 x), (8, .int .i64 t.length), (7, .list (rows t)), (0, .list (rows t))]) (fun _ => []) (fun x => x ≤ t.length ∧ ((List.range t.length).take x).any (fun e => okE t e t.length) = false) (fun x => t.length - x) [9, 8, 7, 0] 0 rfl rfl ⟨Nat.zero_le _, by simp⟩ fun x ⟨hx, hall⟩ ihx => ?_
  simp only [go_sem, ↓reduceIte, Nat.reduceEqDiff, Nat.reduceAdd, reduceCtorEq]
  refine ⟨fun h1 => ⟨by omega, fun h1' => ?_⟩, fun h1 => ?_⟩
  · have hxl : x < (List.range t.length).length := by simp; omega
    have hsx := hsq x (by omega)
    refine KL_ind k120_b0.eq_1 (fun y : Nat => [(16, .int .i64 y), (15, .int .i64 t.length), (5, .bool (okE t x y)), (4, .list (ints (t.getD x []))), (3, .int .i64 x), (9, .int .i64 x), (8, .int .i64 t.length), (7, .list (rows t)), (0, .list (rows t))]) (fun _ => []) (fun y => y ≤ t.length) (fun y => t.length - y) [16, 15, 5, 4, 3, 9, 8, 7, 0] 0 rfl rfl (Nat.zero_le _) fun y hy ihy => ?_
    simp only [go_sem, ↓reduceIte, Nat.reduceEqDiff, Nat.reduceAdd, reduceCtorEq]
    refine ⟨fun h2 => ?_, fun h2 => ?_⟩
    · have hsy := hsq y (by omega)
      have hs := okE_succ t x y
      unfold tat at hs
      repeat' (first | refine And.intro ?_ ?_ | intro _)
      all_goals (try omega)
      all_goals (try first | exact True.intro | contradiction)
      all_goals refine ihy (y + 1) (by omega) (by omega) _ _ ?_ rfl
      all_goals clear ihx ihy hall hsq h hn hx hsx hsy hy h2 h1
      all_goals rw [hs]
      all_goals clear hs
      all_goals simp only [keep, List.map_cons, List.map_nil, look_cons, ↓reduceIte, Nat.reduceEqDiff, reduceCtorEq, *, decide_true, decide_false, Bool.true_and, Bool.false_and, Bool.and_false, Bool.and_true]
      all_goals (try rfl)
    · obtain rfl : y = t.length := by omega
      refine ⟨fun h3 => ?_, fun h3 => ⟨by omega, ?_⟩⟩
      · refine Kv.Fin.now ⟨?_, rfl⟩
        rw [idn, idx_some hxl hall (by simpa using h3)]
      · refine ihx (x + 1) ⟨by omega, ?_⟩ (by omega) _ _ rfl rfl
        rw [any_take_succ _ hxl, hall]
        simpa using h3
  · obtain rfl : x = t.length := by omega
    rw [List.take_of_length_le (by simp)] at hall
    exact Kv.Fin.now ⟨by rw [idn, idx_none hall], rfl⟩
def idA (t : List (List Int)) : Int := if isTab t = true then (if idn t < 0 then 0 else idn t) else 0
def idB (t : List (List Int)) : Int := if isTab t = true then (if idn t < 0 then 4 else 0) else 2
theorem szT_ok (t : List (List Int)) (h : ¬ szT t 1048576 < 0) : t.length ≤ 1048576 ∧ ∀ r ∈ t, r.length ≤ 1048576 := by
  unfold szT at h
  split at h
  · omega
  · refine ⟨by omega, fun r hr => ?_⟩
    have := szR_rows t (1048576 - t.length) (by omega) (by omega) r hr
    omega
end Go.Proofs.Ytkljidghocnllaa
