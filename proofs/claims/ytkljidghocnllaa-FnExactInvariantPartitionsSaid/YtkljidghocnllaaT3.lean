/- The identity of a table: both sides, and the law's function. -/
import Derived.Test.YtkljidghocnllaaCb
import Derived.Test.YtkljidghocnllaaT2
namespace Go.Proofs.Ytkljidghocnllaa
open Go.Kv
set_option maxRecDepth 100000
/- spec.l08Identity -/
/- live [0, 3, 4, 5, 20, 21, 22, 23, 24, 25, 26, 27, 28, 31, 32, 33, 34, 35, 36, 37, 38, 39] -/
def k119_b0 : KC := (.seq (.seq (.ops [⟨(some 12), none, .mv (.t 5)⟩, ⟨(some 13), none, .mv (.t 0)⟩, ⟨(some 14), none, .len false (.t 13)⟩, ⟨(some 15), none, .bin .lss (.t 12) (.t 14)⟩])
  (.cond (.t 15) .skip (.exit 2)))
  (.seq (.block 3 (.ops [⟨(some 18), none, .mv (.t 4)⟩, ⟨(some 19), none, .mv (.t 18)⟩, ⟨(some 20), some (19, true), .mv (.t 0)⟩, ⟨(some 21), some (19, true), .mv (.t 3)⟩, ⟨(some 22), some (19, true), .idxS 1 (.t 20) (.t 21)⟩, ⟨(some 23), some (19, true), .load false 1 (.t 22)⟩, ⟨(some 24), some (19, true), .mv (.t 5)⟩, ⟨(some 25), some (19, true), .idxS 1 (.t 23) (.t 24)⟩, ⟨(some 26), some (19, true), .load false 1 (.t 25)⟩, ⟨(some 27), some (19, true), .mv (.t 5)⟩, ⟨(some 28), some (19, true), .bin .eql (.t 26) (.t 27)⟩, ⟨(some 29), none, .pick (.t 19) (.t 28) (.c (.bool false))⟩, ⟨(some 30), none, .mv (.t 29)⟩, ⟨(some 31), some (30, true), .mv (.t 0)⟩, ⟨(some 32), some (30, true), .mv (.t 5)⟩, ⟨(some 33), some (30, true), .idxS 1 (.t 31) (.t 32)⟩, ⟨(some 34), some (30, true), .load false 1 (.t 33)⟩, ⟨(some 35), some (30, true), .mv (.t 3)⟩, ⟨(some 36), some (30, true), .idxS 1 (.t 34) (.t 35)⟩, ⟨(some 37), some (30, true), .load false 1 (.t 36)⟩, ⟨(some 38), some (30, true), .mv (.t 5)⟩, ⟨(some 39), some (30, true), .bin .eql (.t 37) (.t 38)⟩, ⟨(some 40), none, .pick (.t 30) (.t 39) (.c (.bool false))⟩, ⟨(some 4), none, .mv (.t 40)⟩]))
  (.ops [⟨(some 16), none, .mv (.t 5)⟩, ⟨(some 17), none, .bin .add (.t 16) (.c (.int .i64 1))⟩, ⟨(some 5), none, .mv (.t 17)⟩])))
/- live [0, 3, 20, 21, 22, 23, 24, 25, 26, 27, 28, 31, 32, 33, 34, 35, 36, 37, 38, 39] -/
def k119_b1 : KC := (.seq (.seq (.ops [⟨(some 6), none, .mv (.t 3)⟩, ⟨(some 7), none, .mv (.t 0)⟩, ⟨(some 8), none, .len false (.t 7)⟩, ⟨(some 9), none, .bin .lss (.t 6) (.t 8)⟩])
  (.cond (.t 9) .skip (.exit 0)))
  (.seq (.block 1 (.seq (.ops [⟨(some 4), none, .mv (.c (.bool true))⟩])
  (.seq (.seq (.ops [⟨(some 5), none, .mv (.c (.int .i64 0))⟩])
  (.block 2 (.loop k119_b0)))
  (.seq (.ops [⟨(some 41), none, .mv (.t 4)⟩])
  (.cond (.t 41) (.seq (.ops [⟨(some 42), none, .mv (.t 3)⟩, ⟨(some 2), none, .mv (.t 42)⟩])
  .ret) .skip)))))
  (.ops [⟨(some 10), none, .mv (.t 3)⟩, ⟨(some 11), none, .bin .add (.t 10) (.c (.int .i64 1))⟩, ⟨(some 3), none, .mv (.t 11)⟩])))
def k119 : KC := (.seq (.ops [⟨(some 2), none, .mv (.c (.int .i64 0))⟩])
  (.seq (.seq (.ops [⟨(some 3), none, .mv (.c (.int .i64 0))⟩])
  (.block 0 (.loop k119_b1)))
  (.seq (.ops [⟨(some 2), none, .mv (.c (.int .i64 (-1)))⟩])
  .ret)))
theorem e119 {args : List PV} {σ : Heap} {K : PV → Heap → Prop} (hl : args.length ≤ 43) (h : Wf σ → (∀ a ∈ args, PV.upto σ.length a) → vc (mkCfg Try.prog mixed [] 43 σ.length) k119 (FinK σ.length [.t 2] K) (argEnv 0 args) σ) : ACall Try.prog 119 args σ K :=
  ACall_enter (C := mkCfg Try.prog mixed [] 43 σ.length) (c := Try.f119.body.getD .skip) Try.func119 (by kernel_rfl) (by kernel_rfl) (by kernel_rfl) rfl hl (by kernel_rfl) (by kernel_rfl) h
/- impl.identityOf -/
/- live [0, 3, 4, 5, 7, 8, 9, 15, 16, 21, 22, 23, 24, 25, 26, 29, 30, 31, 32, 33, 34, 35, 36, 37] -/
def k120_b0 : KC := (.seq (.ops [⟨(some 17), none, .bin .lss (.t 16) (.t 15)⟩])
  (.seq (.cond (.t 17) .skip (.exit 2))
  (.seq (.block 3 (.seq (.ops [⟨(some 18), none, .mv (.t 16)⟩, ⟨(some 6), none, .mv (.t 18)⟩])
  (.ops [⟨(some 19), none, .mv (.t 5)⟩, ⟨(some 20), none, .mv (.t 19)⟩, ⟨(some 21), some (20, true), .mv (.t 4)⟩, ⟨(some 22), some (20, true), .mv (.t 6)⟩, ⟨(some 23), some (20, true), .idxS 1 (.t 21) (.t 22)⟩, ⟨(some 24), some (20, true), .load false 1 (.t 23)⟩, ⟨(some 25), some (20, true), .mv (.t 6)⟩, ⟨(some 26), some (20, true), .bin .eql (.t 24) (.t 25)⟩, ⟨(some 27), none, .pick (.t 20) (.t 26) (.c (.bool false))⟩, ⟨(some 28), none, .mv (.t 27)⟩, ⟨(some 29), some (28, true), .mv (.t 0)⟩, ⟨(some 30), some (28, true), .mv (.t 6)⟩, ⟨(some 31), some (28, true), .idxS 1 (.t 29) (.t 30)⟩, ⟨(some 32), some (28, true), .load false 1 (.t 31)⟩, ⟨(some 33), some (28, true), .mv (.t 3)⟩, ⟨(some 34), some (28, true), .idxS 1 (.t 32) (.t 33)⟩, ⟨(some 35), some (28, true), .load false 1 (.t 34)⟩, ⟨(some 36), some (28, true), .mv (.t 6)⟩, ⟨(some 37), some (28, true), .bin .eql (.t 35) (.t 36)⟩, ⟨(some 38), none, .pick (.t 28) (.t 37) (.c (.bool false))⟩, ⟨(some 5), none, .mv (.t 38)⟩])))
  (.ops [⟨(some 39), none, .bin .add (.t 16) (.c (.int .i64 1))⟩, ⟨(some 16), none, .mv (.t 39)⟩]))))
/- live [0, 7, 8, 9, 21, 22, 23, 24, 25, 26, 29, 30, 31, 32, 33, 34, 35, 36, 37] -/
def k120_b1 : KC := (.seq (.ops [⟨(some 10), none, .bin .lss (.t 9) (.t 8)⟩])
  (.seq (.cond (.t 10) .skip (.exit 0))
  (.seq (.block 1 (.seq (.ops [⟨(some 11), none, .mv (.t 9)⟩, ⟨(some 12), none, .idxS 1 (.t 7) (.t 9)⟩, ⟨(some 13), none, .load false 1 (.t 12)⟩, ⟨(some 3), none, .mv (.t 11)⟩, ⟨(some 4), none, .mv (.t 13)⟩])
  (.seq (.ops [⟨(some 5), none, .mv (.c (.bool true))⟩])
  (.seq (.seq (.ops [⟨(some 14), none, .mv (.t 0)⟩, ⟨(some 15), none, .len false (.t 14)⟩, ⟨(some 16), none, .mv (.c (.int .i64 0))⟩])
  (.block 2 (.loop k120_b0)))
  (.seq (.ops [⟨(some 40), none, .mv (.t 5)⟩])
  (.cond (.t 40) (.seq (.ops [⟨(some 41), none, .mv (.t 3)⟩, ⟨(some 2), none, .mv (.t 41)⟩])
  .ret) .skip))))))
  (.ops [⟨(some 42), none, .bin .add (.t 9) (.c (.int .i64 1))⟩, ⟨(some 9), none, .mv (.t 42)⟩]))))
def k120 : KC := (.seq (.ops [⟨(some 2), none, .mv (.c (.int .i64 0))⟩])
  (.seq (.seq (.ops [⟨(some 7), none, .mv (.t 0)⟩, ⟨(some 8), none, .len false (.t 7)⟩, ⟨(some 9), none, .mv (.c (.int .i64 0))⟩])
  (.block 0 (.loop k120_b1)))
  (.seq (.ops [⟨(some 2), none, .mv (.c (.int .i64 (-1)))⟩])
  .ret)))
theorem e120 {args : List PV} {σ : Heap} {K : PV → Heap → Prop} (hl : args.length ≤ 43) (h : Wf σ → (∀ a ∈ args, PV.upto σ.length a) → vc (mkCfg Try.prog mixed [] 43 σ.length) k120 (FinK σ.length [.t 2] K) (argEnv 0 args) σ) : ACall Try.prog 120 args σ K :=
  ACall_enter (C := mkCfg Try.prog mixed [] 43 σ.length) (c := Try.f120.body.getD .skip) Try.func120 (by kernel_rfl) (by kernel_rfl) (by kernel_rfl) rfl hl (by kernel_rfl) (by kernel_rfl) h
end Go.Proofs.Ytkljidghocnllaa
namespace Go.Proofs.Ytkljidghocnllaa
open Go.Kv
set_option linter.unusedVariables false
set_option linter.unusedSimpArgs false
attribute [local irreducible] ACall PCall KL
def tat (t : List (List Int)) (i j : Nat) : Int := (t.getD i []).getD j 0
def okE (t : List (List Int)) (e y : Nat) : Bool := (List.range y).all fun x => decide (tat t e x = x) && decide (tat t x e = x)
theorem okE_succ (t : List (List Int)) (e y : Nat) : okE t e (y + 1) = (okE t e y && (decide (tat t e y = y) && decide (tat t y e = y))) := by simp [okE, List.range_succ, List.all_append]
def idn (t : List (List Int)) : Int := idx (fun e => okE t e t.length) (List.range t.length)
theorem tab_sq {t : List (List Int)} (h : isTab t = true) : (1 ≤ t.length ∧ t.length ≤ 40) ∧ ∀ i, i < t.length → (t.getD i []).length = t.length := by
  simp only [isTab, Bool.and_eq_true, decide_eq_true_eq, List.all_eq_true] at h
  refine ⟨h.1, fun i hi => ?_⟩
  have := h.2 _ (rows_getD_len hi)
  simp only [rowOk, Bool.and_eq_true, decide_eq_true_eq] at this
  exact this.1
theorem tab_at {t : List (List Int)} (h : isTab t = true) {i j : Nat} (hi : i < t.length) (hj : j < t.length) : 0 ≤ tat t i j ∧ tat t i j ≤ (t.length : Int) - 1 := by
  have hs := (tab_sq h).2 i hi
  simp only [isTab, Bool.and_eq_true, decide_eq_true_eq, List.all_eq_true] at h
  have := h.2 _ (rows_getD_len hi)
  simp only [rowOk, Bool.and_eq_true, decide_eq_true_eq, List.all_eq_true] at this
  exact this.2 _ (by unfold tat; rw [getD_eq (l := t.getD i []) (by omega)]; exact List.getElem_mem _)
theorem p119 (t : List (List Int)) (h : isTab t = true) : Pure Try.prog 119 [.list (rows t)] (.int .i64 (idn t)) := by
  obtain ⟨hn, hsq⟩ := tab_sq h
  refine e119 (by simp) fun _ _ => ?_
  simp only [k119, argEnv, go_sem, ↓reduceIte, Nat.reduceEqDiff, Nat.reduceAdd, reduceCtorEq]
  refine KL_ind k119_b1.eq_1 (fun x : Nat => [(3, .int .i64 x), (0, .list (rows t))]) (fun _ => []) (fun x => x ≤ t.length ∧ ((List.range t.length).take x).any (fun e => okE t e t.length) = false) (fun x => t.length - x) [3, 0] 0 rfl rfl ⟨Nat.zero_le _, by simp⟩ fun x ⟨hx, hall⟩ ihx => ?_
  simp only [go_sem, ↓reduceIte, Nat.reduceEqDiff, Nat.reduceAdd, reduceCtorEq]
  refine ⟨fun h1 => ?_, fun h1 => ?_⟩
  · have hxl : x < (List.range t.length).length := by simp; omega
    have hsx := hsq x (by omega)
    refine KL_ind k119_b0.eq_1 (fun y : Nat => [(5, .int .i64 y), (4, .bool (okE t x y)), (3, .int .i64 x), (0, .list (rows t))]) (fun _ => []) (fun y => y ≤ t.length) (fun y => t.length - y) [5, 4, 3, 0] 0 rfl rfl (Nat.zero_le _) fun y hy ihy => ?_
    simp only [go_sem, ↓reduceIte, Nat.reduceEqDiff, Nat.reduceAdd, reduceCtorEq]
    refine ⟨fun h2 => ?_, fun h2 => ?_⟩
    · have hsy := hsq y (by omega)
      have hs := okE_succ t x y
      unfold tat at hs
      repeat' (first | refine And.intro ?_ ?_ | intro _)
      all_goals (try omega)
      all_goals (try first | exact True.intro | contradiction)
      all_goals refine ihy (y + 1) (by omega) (by omega) _ _ ?_ rfl
      all_goals clear ihx ihy hall hsq h hn hx hsx hsy hy h2 h1
      all_goals rw [hs]
      all_goals clear hs
      all_goals simp only [keep, List.map_cons, List.map_nil, look_cons, ↓reduceIte, Nat.reduceEqDiff, reduceCtorEq, *, decide_true, decide_false, Bool.true_and, Bool.false_and, Bool.and_false, Bool.and_true]
      all_goals (try rfl)
    · obtain rfl : y = t.length := by omega
      refine ⟨fun h3 => ?_, fun h3 => ⟨by omega, ?_⟩⟩
      · refine Kv.Fin.now ⟨?_, rfl⟩
        rw [idn, idx_some hxl hall (by simpa using h3)]
      · refine ihx (x + 1) ⟨by omega, ?_⟩ (by omega) _ _ rfl rfl
        rw [any_take_succ _ hxl, hall]
        simpa using h3
  · obtain rfl : x = t.length := by omega
    rw [List.take_of_length_le (by simp)] at hall
    exact Kv.Fin.now ⟨by rw [idn, idx_none hall], rfl⟩
theorem p120 (t : List (List Int)) (h : isTab t = true) : Pure Try.prog 120 [.list (rows t)] (.int .i64 (idn t)) := by
  obtain ⟨hn, hsq⟩ := tab_sq h
  refine e120 (by simp) fun _ _ => ?_
  simp only [k120, argEnv, go_sem, ↓reduceIte, Nat.reduceEqDiff, Nat.reduceAdd, reduceCtorEq]
  refine KL_ind k120_b1.eq_1 (fun x : Nat => [(9, .int .i64 x), (8, .int .i64 t.length), (7, .list (rows t)), (0, .list (rows t))]) (fun _ => []) (fun x => x ≤ t.length ∧ ((List.range t.length).take x).any (fun e => okE t e t.length) = false) (fun x => t.length - x) [9, 8, 7, 0] 0 rfl rfl ⟨Nat.zero_le _, by simp⟩ fun x ⟨hx, hall⟩ ihx => ?_
  simp only [go_sem, ↓reduceIte, Nat.reduceEqDiff, Nat.reduceAdd, reduceCtorEq]
  refine ⟨fun h1 => ⟨by omega, fun h1' => ?_⟩, fun h1 => ?_⟩
  · have hxl : x < (List.range t.length).length := by simp; omega
    have hsx := hsq x (by omega)
    refine KL_ind k120_b0.eq_1 (fun y : Nat => [(16, .int .i64 y), (15, .int .i64 t.length), (5, .bool (okE t x y)), (4, .list (ints (t.getD x []))), (3, .int .i64 x), (9, .int .i64 x), (8, .int .i64 t.length), (7, .list (rows t)), (0, .list (rows t))]) (fun _ => []) (fun y => y ≤ t.length) (fun y => t.length - y) [16, 15, 5, 4, 3, 9, 8, 7, 0] 0 rfl rfl (Nat.zero_le _) fun y hy ihy => ?_
    simp only [go_sem, ↓reduceIte, Nat.reduceEqDiff, Nat.reduceAdd, reduceCtorEq]
    refine ⟨fun h2 => ?_, fun h2 => ?_⟩
    · have hsy := hsq y (by omega)
      have hs := okE_succ t x y
      unfold tat at hs
      repeat' (first | refine And.intro ?_ ?_ | intro _)
      all_goals (try omega)
      all_goals (try first | exact True.intro | contradiction)
      all_goals refine ihy (y + 1) (by omega) (by omega) _ _ ?_ rfl
      all_goals clear ihx ihy hall hsq h hn hx hsx hsy hy h2 h1
      all_goals rw [hs]
      all_goals clear hs
      all_goals simp only [keep, List.map_cons, List.map_nil, look_cons, ↓reduceIte, Nat.reduceEqDiff, reduceCtorEq, *, decide_true, decide_false, Bool.true_and, Bool.false_and, Bool.and_false, Bool.and_true]
      all_goals (try rfl)
    · obtain rfl : y = t.length := by omega
      refine ⟨fun h3 => ?_, fun h3 => ⟨by omega, ?_⟩⟩
      · refine Kv.Fin.now ⟨?_, rfl⟩
        rw [idn, idx_some hxl hall (by simpa using h3)]
      · refine ihx (x + 1) ⟨by omega, ?_⟩ (by omega) _ _ rfl rfl
        rw [any_take_succ _ hxl, hall]
        simpa using h3
  · obtain rfl : x = t.length := by omega
    rw [List.take_of_length_le (by simp)] at hall
    exact Kv.Fin.now ⟨by rw [idn, idx_none hall], rfl⟩
def idA (t : List (List Int)) : Int := if isTab t = true then (if idn t < 0 then 0 else idn t) else 0
def idB (t : List (List Int)) : Int := if isTab t = true then (if idn t < 0 then 4 else 0) else 2
theorem szT_ok (t : List (List Int)) (h : ¬ szT t 1048576 < 0) : t.length ≤ 1048576 ∧ ∀ r ∈ t, r.length ≤ 1048576 := by
  unfold szT at h
  split at h
  · omega
  · refine ⟨by omega, fun r hr => ?_⟩
    have := szR_rows t (1048576 - t.length) (by omega) (by omega) r hr
    omega
end Go.Proofs.Ytkljidghocnllaa
