/- Maps: what is one, identities, products. -/
import Derived.Test.YtkljidghocnllaaMAc
import Derived.Test.YtkljidghocnllaaW
import Derived.Test.YtkljidghocnllaaMp
import Derived.Test.YtkljidghocnllaaMk
namespace Go.Proofs.Ytkljidghocnllaa
open Go.Kv
set_option linter.unusedVariables false
set_option linter.unusedSimpArgs false
attribute [local irreducible] ACall PCall KL
theorem p75 (n : Nat) (h1 : 1 ≤ n) (h5 : n ≤ 5) : Pure Try.prog 75 [.int .i64 n] (.agg (ints (mp (List.range n)))) := by
  refine e75 (by simp) fun _ _ => ?_
  simp only [k75, argEnv, take6, List.drop_zero, Int.cast_ofNat_Int, go_sem, ↓reduceIte, Nat.reduceEqDiff, Nat.reduceAdd, Nat.reduceMul, Nat.reduceLeDiff, Nat.reduceLT, Int.reduceLE, Int.reduceLT, reduceCtorEq]
  refine KL_ind k75_b0.eq_1 (fun x : Nat => [(0, .int .i64 n), (2, .ptr 0 0), (3, .ptr 1 0), (4, .int .i64 x)]) (fun x => [.box (ints [0, 0, 0, 0, 0, 0]), .box (ints (mpN n (List.range x)))]) (fun x => x ≤ n) (fun x => n - x) [0, 2, 3, 4] 0 (by simp [keep]) (by rfl) (Nat.zero_le _) fun x hi ih => ?_
  have hl : (mpN n (List.range x)).length = 6 := mpN_length (by simp; omega)
  try simp only [hl, take6, List.drop_zero, Int.cast_ofNat_Int, go_sem, ↓reduceIte, Nat.reduceEqDiff, Nat.reduceAdd, Nat.reduceMul, Nat.reduceLeDiff, Nat.reduceLT, Int.reduceLE, Int.reduceLT, reduceCtorEq]
  refine ⟨fun h => ?_, fun h => ?_⟩
  · repeat' (first | refine And.intro ?_ ?_ | intro _)
    all_goals (try omega)
    refine ih (x + 1) (by omega) (by omega) _ _ (by rfl) ?_
    rw [mpN_pushI (by simp) (by simp; omega), ← List.range_succ]
  · obtain rfl : x = n := by omega
    refine Kv.Fin.still ⟨?_, rfl⟩
    simp [mp]
theorem mul_step {f g : List Nat} {n x : Nat} (hf : Ok f n) (h : x < n) : ((mul f g).take x ++ f.drop x).set x (g.getD (f.getD x 0) 0) = (mul f g).take (x + 1) ++ f.drop (x + 1) := by
  have hl := hf.len
  rw [List.set_append_right _ _ (by simp; omega), List.length_take, mul_length, Nat.min_eq_left (by omega), Nat.sub_self, List.drop_eq_getElem_cons (by omega), List.set_cons_zero, List.take_succ_eq_append_getElem (by simp; omega), List.append_assoc]
  simp [mul, List.getD_eq_getElem?_getD, hl, h]
theorem mul_mid {f g : List Nat} {n x : Nat} (hf : Ok f n) (h : x < n) : ((mul f g).take x ++ f.drop x).getD x 0 = f.getD x 0 := by
  have hl := hf.len
  rw [List.getD_eq_getElem?_getD, List.getElem?_append_right (by simp; omega), List.length_take, mul_length, Nat.min_eq_left (by omega), Nat.sub_self]
  simp [List.getD_eq_getElem?_getD]
theorem p131 (f g : List Nat) (n : Nat) (hf : Ok f n) (hg : Ok g n) : Pure Try.prog 131 [.agg (ints (mp f)), .agg (ints (mp g))] (.agg (ints (mp (mul f g)))) := by
  rw [hf.mp_eq, hg.mp_eq, (hf.mul hg).mp_eq]
  have hlg := hg.mp_eq ▸ hg.mp_len
  have hlf := hf.mp_eq ▸ hf.mp_len
  have hll := hf.len
  have h5 := hf.le
  refine e131 (by simp) fun _ _ => ?_
  simp only [k131, argEnv, hlf, hlg, take6, List.drop_zero, Int.cast_ofNat_Int, go_sem, ↓reduceIte, Nat.reduceEqDiff, Nat.reduceAdd, Nat.reduceMul, Nat.reduceLeDiff, Nat.reduceLT, Int.reduceLE, Int.reduceLT, reduceCtorEq]
  refine KL_ind k131_b0.eq_1 (fun x : Nat => [(2, .ptr 0 0), (3, .fptr (ints (mpN n g)) 0), (4, .ptr 1 0), (7, .int .i64 n), (8, .int .i64 x)]) (fun x => [.box (ints (mpN n ((mul f g).take x ++ f.drop x))), .box (ints [0, 0, 0, 0, 0, 0])]) (fun x => x ≤ n) (fun x => n - x) [2, 3, 4, 7, 8] 0 (by rfl) (by simp [ints]) (Nat.zero_le _) fun x hi ih => ?_
  have hl : (mpN n ((mul f g).take x ++ f.drop x)).length = 6 := mpN_length (by simp; omega)
  try simp only [hl, hlg, take6, List.drop_zero, Int.cast_ofNat_Int, go_sem, ↓reduceIte, Nat.reduceEqDiff, Nat.reduceAdd, Nat.reduceMul, Nat.reduceLeDiff, Nat.reduceLT, Int.reduceLE, Int.reduceLT, reduceCtorEq]
  refine ⟨fun h => ?_, fun h => ?_⟩
  · have hx : x < n := by omega
    rw [mul_mid hf hx]
    have := hf.get hx
    repeat' (first | refine And.intro ?_ ?_ | intro _)
    all_goals (try omega)
    refine ih (x + 1) (by omega) (by omega) _ _ (by rfl) ?_
    rw [mpN_set (by simp; omega), mul_step hf hx]
  · obtain rfl : x = n := by omega
    refine Kv.Fin.still ⟨?_, rfl⟩
    rw [List.take_of_length_le (by simp; omega), List.drop_of_length_le (by omega), List.append_nil]
theorem p99 (f g : List Nat) (n : Nat) (hf : Ok f n) (hg : Ok g n) : Pure Try.prog 99 [.agg (ints (mp f)), .agg (ints (mp g))] (.agg (ints (mp (mul f g)))) := by
  rw [hf.mp_eq, hg.mp_eq, (hf.mul hg).mp_eq]
  have hlg := hg.mp_eq ▸ hg.mp_len
  have hlf := hf.mp_eq ▸ hf.mp_len
  have hll := hf.len
  have h5 := hf.le
  refine e99 (by simp) fun _ _ => ?_
  simp only [k99, argEnv, hlf, hlg, take6, List.drop_zero, Int.cast_ofNat_Int, go_sem, ↓reduceIte, Nat.reduceEqDiff, Nat.reduceAdd, Nat.reduceMul, Nat.reduceLeDiff, Nat.reduceLT, Int.reduceLE, Int.reduceLT, reduceCtorEq]
  refine KL_ind k99_b0.eq_1 (fun x : Nat => [(2, .fptr (ints (mpN n f)) 0), (3, .fptr (ints (mpN n g)) 0), (4, .ptr 0 0), (5, .ptr 1 0), (6, .int .i64 x)]) (fun x => [.box (ints [0, 0, 0, 0, 0, 0]), .box (ints (mpN n ((mul f g).take x)))]) (fun x => x ≤ n) (fun x => n - x) [2, 3, 4, 5, 6] 0 (by rfl) (by simp [ints, mpN]) (Nat.zero_le _) fun x hi ih => ?_
  have hl : (mpN n ((mul f g).take x)).length = 6 := mpN_length (by simp; omega)
  try simp only [hl, hlg, hlf, take6, List.drop_zero, Int.cast_ofNat_Int, go_sem, ↓reduceIte, Nat.reduceEqDiff, Nat.reduceAdd, Nat.reduceMul, Nat.reduceLeDiff, Nat.reduceLT, Int.reduceLE, Int.reduceLT, reduceCtorEq]
  refine ⟨fun h => ?_, fun h => ?_⟩
  · have hx : x < n := by omega
    have := hf.get hx
    repeat' (first | refine And.intro ?_ ?_ | intro _)
    all_goals (try omega)
    refine ih (x + 1) (by omega) (by omega) _ _ (by rfl) ?_
    rw [mpN_pushI (by simp; omega) (by simp; omega), ← mul_get (by omega), List.take_succ_eq_append_getElem (by simp; omega)]
    simp [List.getD_eq_getElem?_getD, hx, hll]
  · obtain rfl : x = n := by omega
    refine Kv.Fin.still ⟨?_, rfl⟩
    rw [List.take_of_length_le (by simp; omega)]
theorem p61 (m : List Int) (h : m.length = 5) : Pure Try.prog 61 [.agg (ints m)] (.agg (ints m)) := by
  refine e61 (by simp) fun _ _ => ?_
  simp only [k61, argEnv, h, take6, List.drop_zero, Int.cast_ofNat_Int, go_sem, ↓reduceIte, Nat.reduceEqDiff, Nat.reduceAdd, Nat.reduceMul, Nat.reduceLeDiff, Nat.reduceLT, Int.reduceLE, Int.reduceLT, reduceCtorEq]
  refine KL_ind k61_b0.eq_1 (fun x : Nat => [(1, .fptr (ints m) 0), (2, .ptr 0 0), (3, .ptr 1 0), (4, .int .i64 x)]) (fun x => [.box (ints [0, 0, 0, 0, 0]), .box (ints (m.take x ++ List.replicate (5 - x) 0))]) (fun x => x ≤ 5) (fun x => 5 - x) [1, 2, 3, 4] 0 (by rfl) (by rfl) (Nat.zero_le _) fun x hx ih => ?_
  have hl : (m.take x ++ List.replicate (5 - x) 0).length = 5 := by simp; omega
  try simp only [hl, h, take6, List.drop_zero, Int.cast_ofNat_Int, go_sem, ↓reduceIte, Nat.reduceEqDiff, Nat.reduceAdd, Nat.reduceMul, Nat.reduceLeDiff, Nat.reduceLT, Int.reduceLE, Int.reduceLT, reduceCtorEq]
  refine ⟨fun h1 => ?_, fun h1 => ?_⟩
  · repeat' (first | refine And.intro ?_ ?_ | intro _)
    all_goals (try omega)
    refine ih (x + 1) (by omega) (by omega) _ _ (by rfl) ?_
    have := copy_step (l := m) (x := x) (by omega)
    rw [h] at this
    rw [this]
  · obtain rfl : x = 5 := by omega
    have e : m.take 5 ++ List.replicate (5 - 5) 0 = m := by simp [← h]
    rw [e]
    have e1 : m.take 5 = m := by simp [← h]
    have e2 : putC (ints [0, 0, 0, 0, 0]) 0 (ints m) = ints m := put5 (by simp [ints, h]) rfl
    try simp only [e1, e2, h, take6, List.drop_zero, Int.cast_ofNat_Int, go_sem, ↓reduceIte, Nat.reduceEqDiff, Nat.reduceAdd, Nat.reduceMul, Nat.reduceLeDiff, Nat.reduceLT, Int.reduceLE, Int.reduceLT, reduceCtorEq]
    exact Kv.Fin.still ⟨rfl, rfl⟩
theorem p16 (m : List Int) (h : m.length = 6) : Pure Try.prog 16 [.agg (ints m)] (.agg (ints m)) := by
  obtain ⟨a, b, c, d, e, g, rfl⟩ : ∃ a b c d e g, m = [a, b, c, d, e, g] := by
    match m, h with
    | [a, b, c, d, e, g], _ => exact ⟨a, b, c, d, e, g, rfl⟩
  refine e16 (by simp) fun _ _ => ?_
  simp only [k16, argEnv, h, take6, List.drop_zero, Int.cast_ofNat_Int, go_sem, ↓reduceIte, Nat.reduceEqDiff, Nat.reduceAdd, Nat.reduceMul, Nat.reduceLeDiff, Nat.reduceLT, Int.reduceLE, Int.reduceLT, reduceCtorEq]
  refine (p61 [b, c, d, e, g] rfl).go ?_
  try simp only [take6, List.drop_zero, Int.cast_ofNat_Int, go_sem, ↓reduceIte, Nat.reduceEqDiff, Nat.reduceAdd, Nat.reduceMul, Nat.reduceLeDiff, Nat.reduceLT, Int.reduceLE, Int.reduceLT, reduceCtorEq]
  exact Kv.Fin.still ⟨rfl, rfl⟩
theorem p77 (m : List Int) (h : m.length = 6) : Pure Try.prog 77 [.agg (ints m)] (.bool (isM m)) := by
  refine e77 (by simp) fun _ _ => ?_
  simp only [k77, argEnv, h, take6, List.drop_zero, Int.cast_ofNat_Int, go_sem, ↓reduceIte, Nat.reduceEqDiff, Nat.reduceAdd, Nat.reduceMul, Nat.reduceLeDiff, Nat.reduceLT, Int.reduceLE, Int.reduceLT, reduceCtorEq]
  refine (p103 _ _ _).go ?_
  try simp only [take6, List.drop_zero, Int.cast_ofNat_Int, go_sem, ↓reduceIte, Nat.reduceEqDiff, Nat.reduceAdd, Nat.reduceMul, Nat.reduceLeDiff, Nat.reduceLT, Int.reduceLE, Int.reduceLT, reduceCtorEq]
  refine ⟨fun h1 => Kv.Fin.now ⟨by simp only [isM]; rw [decide_eq_false h1]; rfl, rfl⟩, fun h1 => ?_⟩
  refine ⟨by omega, ?_⟩
  have h2 : 1 ≤ m.getD 0 0 ∧ m.getD 0 0 ≤ 5 := by simpa using h1
  have hd : decide (1 ≤ m.getD 0 0 ∧ m.getD 0 0 ≤ 5) = true := by simpa using h2
  refine KL_ind k77_b0.eq_1 (fun x : Nat => [(1, .fptr (ints m) 0), (10, .agg (ints ((m.drop 1).take 5))), (11, .int .i64 x)]) (fun x => []) (fun x => x ≤ 5 ∧ (List.range x).all (okP m) = true) (fun x => 5 - x) [1, 10, 11] 0 (by rfl) (by rfl) ⟨Nat.zero_le _, rfl⟩ fun x ⟨hx, hall⟩ ih => ?_
  have ht : ((m.drop 1).take 5).length = 5 := by simp [h]
  have hg : x < 5 → ((m.drop 1).take 5).getD x 0 = m.getD (x + 1) 0 := fun hx => by
    simp [List.getD_eq_getElem?_getD, List.getElem?_take, hx, Nat.add_comm]
  have hs : okP m x = true → (List.range (x + 1)).all (okP m) = true := fun hp => by rw [all_range_succ, hall, hp]; rfl
  have hb : x < 5 → okP m x = false → isM m = false := fun hx hp => by rw [isM, not_range hx hp, Bool.and_false]
  by_cases hc : (x : Int) < m.getD 0 0
  · try simp only [h, hc, ht, take6, List.drop_zero, Int.cast_ofNat_Int, go_sem, ↓reduceIte, Nat.reduceEqDiff, Nat.reduceAdd, Nat.reduceMul, Nat.reduceLeDiff, Nat.reduceLT, Int.reduceLE, Int.reduceLT, reduceCtorEq]
    refine ⟨fun h3 => ?_, fun h3 => by omega⟩
    rw [hg (by omega)]
    refine ⟨by omega, by omega, fun _ => ⟨by omega, ?_⟩⟩
    refine (p103 _ _ _).go ?_
    try simp only [take6, List.drop_zero, Int.cast_ofNat_Int, go_sem, ↓reduceIte, Nat.reduceEqDiff, Nat.reduceAdd, Nat.reduceMul, Nat.reduceLeDiff, Nat.reduceLT, Int.reduceLE, Int.reduceLT, reduceCtorEq]
    have he : okP m x = decide (0 ≤ m.getD (x + 1) 0 ∧ m.getD (x + 1) 0 ≤ m.getD 0 0 - 1) := by rw [okP, if_pos hc]
    refine ⟨fun h4 => ?_, fun h4 => ?_⟩
    · have hc3 : ¬ m.getD 0 0 ≤ x := by omega
      try simp only [hc3, take6, List.drop_zero, Int.cast_ofNat_Int, go_sem, ↓reduceIte, Nat.reduceEqDiff, Nat.reduceAdd, Nat.reduceMul, Nat.reduceLeDiff, Nat.reduceLT, Int.reduceLE, Int.reduceLT, reduceCtorEq]
      repeat' (first | refine And.intro ?_ ?_ | intro _)
      all_goals (try omega)
      exact ih (x + 1) ⟨by omega, hs (by rw [he]; exact decide_eq_true h4)⟩ (by omega) _ _ (by rfl) rfl
    · exact Kv.Fin.now ⟨by rw [hb (by omega) (by rw [he]; exact decide_eq_false h4)], rfl⟩
  · have hc2 : m.getD 0 0 ≤ x := by omega
    have he : okP m x = decide (m.getD (x + 1) 0 = 0) := by rw [okP, if_neg hc]
    try simp only [h, hc, hc2, ht, take6, List.drop_zero, Int.cast_ofNat_Int, go_sem, ↓reduceIte, Nat.reduceEqDiff, Nat.reduceAdd, Nat.reduceMul, Nat.reduceLeDiff, Nat.reduceLT, Int.reduceLE, Int.reduceLT, reduceCtorEq]
    refine ⟨fun h3 => ?_, fun h3 => ?_⟩
    · rw [hg (by omega)]
      refine ⟨by omega, by omega, fun _ => ⟨fun h4 => ?_, fun h4 => ?_⟩⟩
      · exact Kv.Fin.now ⟨by rw [hb (by omega) (by rw [he]; exact decide_eq_false h4)], rfl⟩
      · repeat' (first | refine And.intro ?_ ?_ | intro _)
        all_goals (try omega)
        exact ih (x + 1) ⟨by omega, hs (by rw [he]; exact decide_eq_true h4)⟩ (by omega) _ _ (by rfl) rfl
    · obtain rfl : x = 5 := by omega
      exact Kv.Fin.now ⟨by rw [isM, hd, hall]; rfl, rfl⟩
theorem p97 (m : List Int) (h : m.length = 6) : Pure Try.prog 97 [.agg (ints m)] (.bool (isM m)) := by
  refine e97 (by simp) fun _ _ => ?_
  simp only [k97, argEnv, h, take6, List.drop_zero, Int.cast_ofNat_Int, go_sem, ↓reduceIte, Nat.reduceEqDiff, Nat.reduceAdd, Nat.reduceMul, Nat.reduceLeDiff, Nat.reduceLT, Int.reduceLE, Int.reduceLT, reduceCtorEq]
  refine (p102 _ _ _).go ?_
  try simp only [take6, List.drop_zero, Int.cast_ofNat_Int, go_sem, ↓reduceIte, Nat.reduceEqDiff, Nat.reduceAdd, Nat.reduceMul, Nat.reduceLeDiff, Nat.reduceLT, Int.reduceLE, Int.reduceLT, reduceCtorEq]
  refine ⟨fun h1 => Kv.Fin.now ⟨by simp only [isM]; rw [decide_eq_false h1]; rfl, rfl⟩, fun h1 => ?_⟩
  have h2 : 1 ≤ m.getD 0 0 ∧ m.getD 0 0 ≤ 5 := by simpa using h1
  have hd : decide (1 ≤ m.getD 0 0 ∧ m.getD 0 0 ≤ 5) = true := by simpa using h2
  refine KL_ind k97_b0.eq_1 (fun x : Nat => [(1, .fptr (ints m) 0), (3, .int .i64 x)]) (fun x => []) (fun x => x ≤ 5 ∧ (List.range x).all (okP m) = true) (fun x => 5 - x) [1, 3] 0 (by rfl) (by rfl) ⟨Nat.zero_le _, rfl⟩ fun x ⟨hx, hall⟩ ih => ?_
  have hs : okP m x = true → (List.range (x + 1)).all (okP m) = true := fun hp => by rw [all_range_succ, hall, hp]; rfl
  have hb : x < 5 → okP m x = false → isM m = false := fun hx hp => by rw [isM, not_range hx hp, Bool.and_false]
  by_cases hc : (x : Int) < m.getD 0 0
  · try simp only [h, hc, take6, List.drop_zero, Int.cast_ofNat_Int, go_sem, ↓reduceIte, Nat.reduceEqDiff, Nat.reduceAdd, Nat.reduceMul, Nat.reduceLeDiff, Nat.reduceLT, Int.reduceLE, Int.reduceLT, reduceCtorEq]
    refine ⟨fun h3 => ?_, fun h3 => by omega⟩
    refine ⟨by omega, by omega, fun _ => ⟨by omega, ?_⟩⟩
    refine (p102 _ _ _).pgo ?_
    try simp only [take6, List.drop_zero, Int.cast_ofNat_Int, go_sem, ↓reduceIte, Nat.reduceEqDiff, Nat.reduceAdd, Nat.reduceMul, Nat.reduceLeDiff, Nat.reduceLT, Int.reduceLE, Int.reduceLT, reduceCtorEq]
    have he : okP m x = decide (0 ≤ m.getD (x + 1) 0 ∧ m.getD (x + 1) 0 ≤ m.getD 0 0 - 1) := by rw [okP, if_pos hc]
    refine ⟨fun h4 => ?_, fun h4 => ?_⟩
    · have hc3 : ¬ m.getD 0 0 ≤ x := by omega
      try simp only [hc3, take6, List.drop_zero, Int.cast_ofNat_Int, go_sem, ↓reduceIte, Nat.reduceEqDiff, Nat.reduceAdd, Nat.reduceMul, Nat.reduceLeDiff, Nat.reduceLT, Int.reduceLE, Int.reduceLT, reduceCtorEq]
      repeat' (first | refine And.intro ?_ ?_ | intro _)
      all_goals (try omega)
      exact ih (x + 1) ⟨by omega, hs (by rw [he]; exact decide_eq_true h4)⟩ (by omega) _ _ (by rfl) rfl
    · exact Kv.Fin.now ⟨by rw [hb (by omega) (by rw [he]; exact decide_eq_false h4)], rfl⟩
  · have hc2 : m.getD 0 0 ≤ x := by omega
    have he : okP m x = decide (m.getD (x + 1) 0 = 0) := by rw [okP, if_neg hc]
    try simp only [h, hc, hc2, take6, List.drop_zero, Int.cast_ofNat_Int, go_sem, ↓reduceIte, Nat.reduceEqDiff, Nat.reduceAdd, Nat.reduceMul, Nat.reduceLeDiff, Nat.reduceLT, Int.reduceLE, Int.reduceLT, reduceCtorEq]
    refine ⟨fun h3 => ?_, fun h3 => ?_⟩
    · refine ⟨by omega, by omega, fun _ => ⟨fun h4 => ?_, fun h4 => ?_⟩⟩
      · exact Kv.Fin.now ⟨by rw [hb (by omega) (by rw [he]; exact decide_eq_false h4)], rfl⟩
      · repeat' (first | refine And.intro ?_ ?_ | intro _)
        all_goals (try omega)
        exact ih (x + 1) ⟨by omega, hs (by rw [he]; exact decide_eq_true h4)⟩ (by omega) _ _ (by rfl) rfl
    · obtain rfl : x = 5 := by omega
      exact Kv.Fin.now ⟨by rw [isM, hd, hall]; rfl, rfl⟩
end Go.Proofs.Ytkljidghocnllaa
