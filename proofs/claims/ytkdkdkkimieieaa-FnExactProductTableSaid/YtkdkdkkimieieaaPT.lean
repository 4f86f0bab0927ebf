/- Product tables: both sides. -/
import Derived.Test.YtkdkdkkimieieaaPTc
import Derived.Test.YtkdkdkkimieieaaOP
namespace Go.Proofs.Ytkdkdkkimieieaa
open Go.Kv
set_option linter.unusedVariables false
set_option linter.unusedSimpArgs false
attribute [local irreducible] ACall PCall KL
def prw (a b : List (List Int)) (i x : Nat) : List Int := (List.range x).map fun k => (b.length : Int) * tat a (i / b.length) (k / b.length) + tat b (i % b.length) (k % b.length)
@[simp] theorem prw_length (a b : List (List Int)) (i x : Nat) : (prw a b i x).length = x := by simp [prw]
theorem prw_succ (a b : List (List Int)) (i x : Nat) : prw a b i x ++ [(b.length : Int) * tat a (i / b.length) (x / b.length) + tat b (i % b.length) (x % b.length)] = prw a b i (x + 1) := by simp [prw, List.range_succ]
def ptb (a b : List (List Int)) (x : Nat) : List (List Int) := (List.range x).map fun i => prw a b i (a.length * b.length)
@[simp] theorem ptb_length (a b : List (List Int)) (x : Nat) : (ptb a b x).length = x := by simp [ptb]
theorem ptb_succ (a b : List (List Int)) (x : Nat) : ptb a b x ++ [prw a b x (a.length * b.length)] = ptb a b (x + 1) := by simp [ptb, List.range_succ]
theorem tab_bound {t : List (List Int)} (h : isTab t = true) {i j : Nat} (hi : i < t.length) (hj : j < t.length) : 0 ≤ (t.getD i []).getD j 0 ∧ (t.getD i []).getD j 0 ≤ 39 := by
  have := tab_at h hi hj
  have h2 := (tab_sq h).1
  unfold tat at this
  omega
theorem p50_in (a b : List (List Int)) (ha : a.length ≤ 1048576) (hla : ∀ r ∈ a, r.length ≤ 1048576) (hb : b.length ≤ 1048576) (hlb : ∀ r ∈ b, r.length ≤ 1048576) (h : isTab a = true) (h' : isTab b = true) (hN : a.length * b.length ≤ 40) : NewTN Try.prog 50 [.list (rows a), .list (rows b)] 25 2 (ptb a b (a.length * b.length)) 0 := by
  obtain ⟨hna, hsa⟩ := tab_sq h
  obtain ⟨hnb, hsb⟩ := tab_sq h'
  have hNi : (a.length : Int) * (b.length : Int) = ((a.length * b.length : Nat) : Int) := by simp
  have hgt : ¬ (40 : Int) < ((a.length * b.length : Nat) : Int) := by omega
  have hpos : 0 < a.length * b.length := Nat.mul_pos (by omega) (by omega)
  unfold NewTN
  refine e50 (by simp) fun _ _ => ?_
  simp only [k50, argEnv, take6, List.drop_zero, go_sem, ↓reduceIte, Nat.reduceEqDiff, Nat.reduceAdd, Nat.reduceMul, Nat.reduceLeDiff, Nat.reduceLT, Int.reduceLE, Int.reduceLT, reduceCtorEq]
  refine (p77 a ha hla).go ?_
  rw [h]
  simp only [take6, List.drop_zero, go_sem, ↓reduceIte, Nat.reduceEqDiff, Nat.reduceAdd, Nat.reduceMul, Nat.reduceLeDiff, Nat.reduceLT, Int.reduceLE, Int.reduceLT, reduceCtorEq]
  refine (p77 b hb hlb).go ?_
  rw [h']
  simp only [hNi, hgt, take6, List.drop_zero, go_sem, ↓reduceIte, Nat.reduceEqDiff, Nat.reduceAdd, Nat.reduceMul, Nat.reduceLeDiff, Nat.reduceLT, Int.reduceLE, Int.reduceLT, reduceCtorEq]
  generalize hM : a.length * b.length = M at *
  have hpb : ∀ x, ptb a b x = (List.range x).map fun i => prw a b i M := fun x => by simp [ptb, hM]
  repeat' (first | refine And.intro ?_ ?_ | intro _)
  all_goals (try omega)
  refine KL_ind k50_b1.eq_1 (fun x : Nat × PV × Heap => [(0, .list (rows a)), (1, .list (rows b)), (6, .int .i64 b.length), (7, x.2.1), (32, .int .i64 M), (33, .int .i64 x.1)]) (fun x => x.2.2) (fun x => x.1 ≤ M ∧ TabN 25 2 x.2.2 x.2.1 (ptb a b x.1) ∧ Free x.2.2) (fun x => M - x.1) [0, 1, 6, 7, 32, 33] (0, .nils, []) (by rfl) (by rfl) ⟨Nat.zero_le _, .nil, .nil⟩ fun ⟨x, v, σ⟩ ⟨hx, hT, hf⟩ ih => ?_
  simp only at hx hT hf
  simp only [hNi, take6, List.drop_zero, go_sem, ↓reduceIte, Nat.reduceEqDiff, Nat.reduceAdd, Nat.reduceMul, Nat.reduceLeDiff, Nat.reduceLT, Int.reduceLE, Int.reduceLT, reduceCtorEq]
  refine ⟨fun h1 => ?_, fun h1 => ?_⟩
  · refine ⟨by omega, ?_⟩
    refine KL_ind k50_b0.eq_1 (fun y : Nat => [(0, .list (rows a)), (1, .list (rows b)), (6, .int .i64 b.length), (7, v), (8, .int .i64 x), (9, nref σ.length y), (32, .int .i64 M), (33, .int .i64 x), (39, .int .i64 M), (40, .int .i64 y)]) (fun y => σ ++ nhp [.arr (y - 1) 2 1 (ints (prw a b x y))] y) (fun y => y ≤ M) (fun y => M - y) [0, 1, 6, 7, 8, 9, 32, 33, 39, 40] 0 (by rfl) (by simp [nhp]) (Nat.zero_le _) fun y hy ihy => ?_
    have hnew := hp_new (rfl : σ.length = σ.length)
    have hset := hp_setn (rfl : σ.length = σ.length)
    have d1 : (x : Int) / (b.length : Int) = ((x / b.length : Nat) : Int) := by simp
    have d2 : (y : Int) / (b.length : Int) = ((y / b.length : Nat) : Int) := by simp
    have d3 : (x : Int) % (b.length : Int) = ((x % b.length : Nat) : Int) := by simp
    have d4 : (y : Int) % (b.length : Int) = ((y % b.length : Nat) : Int) := by simp
    simp only [d1, d2, d3, d4, List.append_nil, take6, List.drop_zero, go_sem, ↓reduceIte, Nat.reduceEqDiff, Nat.reduceAdd, Nat.reduceMul, Nat.reduceLeDiff, Nat.reduceLT, Int.reduceLE, Int.reduceLT, reduceCtorEq]
    refine ⟨fun h2 => ?_, fun h2 => ?_⟩
    · have q1 : x / b.length < a.length := Nat.div_lt_of_lt_mul (by rw [Nat.mul_comm, hM]; omega)
      have q2 : y / b.length < a.length := Nat.div_lt_of_lt_mul (by rw [Nat.mul_comm, hM]; omega)
      have q3 : x % b.length < b.length := Nat.mod_lt _ (by omega)
      have q4 : y % b.length < b.length := Nat.mod_lt _ (by omega)
      have s1 := hsa _ q1
      have s2 := hsb _ q3
      have b1 := tab_bound h q1 q2
      have b2 := tab_bound h' q3 q4
      have b3 : 0 ≤ (b.length : Int) * (a.getD (x / b.length) []).getD (y / b.length) 0 ∧ (b.length : Int) * (a.getD (x / b.length) []).getD (y / b.length) 0 ≤ 40 * 39 := ⟨Int.mul_nonneg (by omega) b1.1, Int.mul_le_mul (by omega) b1.2 b1.1 (by omega)⟩
      have hps := prw_succ a b x y
      unfold tat at hps
      rw [s1, s2]
      clear d1 d2 d3 d4 hNi
      generalize (b.length : Int) * (a.getD (x / b.length) []).getD (y / b.length) 0 = z at *
      generalize x / b.length = xd at *
      generalize y / b.length = yd at *
      generalize x % b.length = xm at *
      generalize y % b.length = ym at *
      refine ⟨by omega, by omega, by omega, fun _ => ⟨by omega, by omega, by omega, fun _ => ⟨by omega, by omega, by omega, fun _ => ⟨by omega, by omega, fun _ => ⟨by omega, ?_⟩⟩⟩⟩⟩
      rcases y with _ | y
      · simp only [List.append_nil, take6, List.drop_zero, go_sem, ↓reduceIte, Nat.reduceEqDiff, Nat.reduceAdd, Nat.reduceMul, Nat.reduceLeDiff, Nat.reduceLT, Int.reduceLE, Int.reduceLT, reduceCtorEq]
        repeat' (first | refine And.intro ?_ ?_ | intro _)
        all_goals (try omega)
        refine ihy 1 (by omega) (by omega) _ _ (by rfl) ?_
        rw [← hps]
        rfl
      · have hl := prw_length a b x (y + 1)
        have hnw : ∀ o, (σ ++ [o])[σ.length]? = some o := hnew
        simp only [hnew, hset, hl, take6, List.drop_zero, go_sem, ↓reduceIte, Nat.reduceEqDiff, Nat.reduceAdd, Nat.reduceMul, Nat.reduceLeDiff, Nat.reduceLT, Int.reduceLE, Int.reduceLT, reduceCtorEq]
        repeat' (first | refine And.intro ?_ ?_ | intro _)
        all_goals (try omega)
        refine ihy (y + 1 + 1) (by omega) (by omega) _ _ (by rfl) ?_
        rw [List.take_of_length_le (by omega), hps]
        rfl
    · obtain rfl : y = M := by omega
      rw [nref_pos (by omega), nhp_pos (by omega)]
      simp only [OpK_eq, take6, List.drop_zero, go_sem, ↓reduceIte, Nat.reduceEqDiff, Nat.reduceAdd, Nat.reduceMul, Nat.reduceLeDiff, Nat.reduceLT, Int.reduceLE, Int.reduceLT, reduceCtorEq]
      refine hT.pushRow hf (prw a b x y) (by simp) (by simp; omega) fun v' σ' hT' hf' => ?_
      simp only [OpK_eq, take6, List.drop_zero, go_sem, ↓reduceIte, Nat.reduceEqDiff, Nat.reduceAdd, Nat.reduceMul, Nat.reduceLeDiff, Nat.reduceLT, Int.reduceLE, Int.reduceLT, reduceCtorEq]
      repeat' (first | refine And.intro ?_ ?_ | intro _)
      all_goals (try omega)
      refine ih (x + 1, v', σ') ⟨by show x + 1 ≤ y; omega, ?_, hf'⟩ (by show y - (x + 1) < y - x; omega) _ _ (by rfl) rfl
      rw [← hM] at hT'
      rw [← ptb_succ]; exact hT'
  · obtain rfl : x = M := by omega
    simp only [OpK_eq, take6, List.drop_zero, go_sem, ↓reduceIte, Nat.reduceEqDiff, Nat.reduceAdd, Nat.reduceMul, Nat.reduceLeDiff, Nat.reduceLT, Int.reduceLE, Int.reduceLT, reduceCtorEq]
    exact Kv.Fin.now ⟨v, rfl, hT, hf⟩
theorem p49_in (a b : List (List Int)) (ha : a.length ≤ 1048576) (hla : ∀ r ∈ a, r.length ≤ 1048576) (hb : b.length ≤ 1048576) (hlb : ∀ r ∈ b, r.length ≤ 1048576) (h : isTab a = true) (h' : isTab b = true) (hN : a.length * b.length ≤ 40) : Pure Try.prog 49 [.list (rows a), .list (rows b)] (.tup [.list (rows (ptb a b (a.length * b.length))), .int .i64 0]) := by
  obtain ⟨hna, hsa⟩ := tab_sq h
  obtain ⟨hnb, hsb⟩ := tab_sq h'
  have hNi : (a.length : Int) * (b.length : Int) = ((a.length * b.length : Nat) : Int) := by simp
  have hgt : ¬ (40 : Int) < ((a.length * b.length : Nat) : Int) := by omega
  have hpos : 0 < a.length * b.length := Nat.mul_pos (by omega) (by omega)
  refine e49 (by simp) fun _ _ => ?_
  simp only [k49, argEnv, take6, List.drop_zero, go_sem, ↓reduceIte, Nat.reduceEqDiff, Nat.reduceAdd, Nat.reduceMul, Nat.reduceLeDiff, Nat.reduceLT, Int.reduceLE, Int.reduceLT, reduceCtorEq]
  refine (p74 a ha hla).go ?_
  rw [h]
  simp only [take6, List.drop_zero, go_sem, ↓reduceIte, Nat.reduceEqDiff, Nat.reduceAdd, Nat.reduceMul, Nat.reduceLeDiff, Nat.reduceLT, Int.reduceLE, Int.reduceLT, reduceCtorEq]
  refine (p74 b hb hlb).go ?_
  rw [h']
  simp only [hNi, hgt, take6, List.drop_zero, go_sem, ↓reduceIte, Nat.reduceEqDiff, Nat.reduceAdd, Nat.reduceMul, Nat.reduceLeDiff, Nat.reduceLT, Int.reduceLE, Int.reduceLT, reduceCtorEq]
  generalize hM : a.length * b.length = M at *
  have hpb : ∀ x, ptb a b x = (List.range x).map fun i => prw a b i M := fun x => by simp [ptb, hM]
  repeat' (first | refine And.intro ?_ ?_ | intro _)
  all_goals (try omega)
  refine KL_ind k49_b1.eq_1 (fun x : Nat × PV × Heap => [(0, .list (rows a)), (1, .list (rows b)), (6, x.2.1), (7, .int .i64 b.length), (8, .int .i64 x.1)]) (fun x => x.2.2) (fun x => x.1 ≤ M ∧ TabN 25 2 x.2.2 x.2.1 (ptb a b x.1) ∧ Free x.2.2) (fun x => M - x.1) [0, 1, 6, 7, 8] (0, .ref 0 0 0 0, [.arr 0 25 1 []]) (by rfl) (by rfl) ⟨Nat.zero_le _, .empty, .empty _ _ _⟩ fun ⟨x, v, σ⟩ ⟨hx, hT, hf⟩ ih => ?_
  simp only at hx hT hf
  simp only [hNi, take6, List.drop_zero, go_sem, ↓reduceIte, Nat.reduceEqDiff, Nat.reduceAdd, Nat.reduceMul, Nat.reduceLeDiff, Nat.reduceLT, Int.reduceLE, Int.reduceLT, reduceCtorEq]
  refine ⟨by omega, fun h1 => ?_, fun h1 => ?_⟩
  · refine KL_ind k49_b0.eq_1 (fun y : Nat => [(0, .list (rows a)), (1, .list (rows b)), (6, v), (7, .int .i64 b.length), (8, .int .i64 x), (9, .ref σ.length y 0 y), (10, .int .i64 y)]) (fun y => σ ++ [.arr y 2 1 (ints (prw a b x y))]) (fun y => y ≤ M) (fun y => M - y) [0, 1, 6, 7, 8, 9, 10] 0 (by rfl) (by rfl) (Nat.zero_le _) fun y hy ihy => ?_
    have hnew := hp_new (rfl : σ.length = σ.length)
    have hset := hp_setn (rfl : σ.length = σ.length)
    have d1 : (x : Int) / (b.length : Int) = ((x / b.length : Nat) : Int) := by simp
    have d2 : (y : Int) / (b.length : Int) = ((y / b.length : Nat) : Int) := by simp
    have d3 : (x : Int) % (b.length : Int) = ((x % b.length : Nat) : Int) := by simp
    have d4 : (y : Int) % (b.length : Int) = ((y % b.length : Nat) : Int) := by simp
    simp only [d1, d2, d3, d4, hNi, hnew, take6, List.drop_zero, go_sem, ↓reduceIte, Nat.reduceEqDiff, Nat.reduceAdd, Nat.reduceMul, Nat.reduceLeDiff, Nat.reduceLT, Int.reduceLE, Int.reduceLT, reduceCtorEq]
    refine ⟨by omega, fun h2 => ?_, fun h2 => ?_⟩
    · have q1 : x / b.length < a.length := Nat.div_lt_of_lt_mul (by rw [Nat.mul_comm, hM]; omega)
      have q2 : y / b.length < a.length := Nat.div_lt_of_lt_mul (by rw [Nat.mul_comm, hM]; omega)
      have q3 : x % b.length < b.length := Nat.mod_lt _ (by omega)
      have q4 : y % b.length < b.length := Nat.mod_lt _ (by omega)
      have s1 := hsa _ q1
      have s2 := hsb _ q3
      have b1 := tab_bound h q1 q2
      have b2 := tab_bound h' q3 q4
      have b3 : 0 ≤ (b.length : Int) * (a.getD (x / b.length) []).getD (y / b.length) 0 ∧ (b.length : Int) * (a.getD (x / b.length) []).getD (y / b.length) 0 ≤ 40 * 39 := ⟨Int.mul_nonneg (by omega) b1.1, Int.mul_le_mul (by omega) b1.2 b1.1 (by omega)⟩
      have hps := prw_succ a b x y
      unfold tat at hps
      rw [s1, s2]
      clear d1 d2 d3 d4 hNi
      generalize (b.length : Int) * (a.getD (x / b.length) []).getD (y / b.length) 0 = z at *
      generalize x / b.length = xd at *
      generalize y / b.length = yd at *
      generalize x % b.length = xm at *
      generalize y % b.length = ym at *
      refine ⟨by omega, by omega, by omega, fun _ => ⟨by omega, by omega, by omega, fun _ => ⟨by omega, by omega, by omega, fun _ => ⟨by omega, by omega, fun _ => ⟨by omega, ?_⟩⟩⟩⟩⟩
      have hl := prw_length a b x y
      simp only [hnew, hset, hl, take6, List.drop_zero, go_sem, ↓reduceIte, Nat.reduceEqDiff, Nat.reduceAdd, Nat.reduceMul, Nat.reduceLeDiff, Nat.reduceLT, Int.reduceLE, Int.reduceLT, reduceCtorEq]
      repeat' (first | refine And.intro ?_ ?_ | intro _)
      all_goals (try omega)
      refine ihy (y + 1) (by omega) (by omega) _ _ (by rfl) ?_
      rw [List.take_of_length_le (by omega), hps]
    · obtain rfl : y = M := by omega
      simp only [OpK_eq, take6, List.drop_zero, go_sem, ↓reduceIte, Nat.reduceEqDiff, Nat.reduceAdd, Nat.reduceMul, Nat.reduceLeDiff, Nat.reduceLT, Int.reduceLE, Int.reduceLT, reduceCtorEq]
      refine hT.pushRow hf (prw a b x y) (by simp) (by simp; omega) fun v' σ' hT' hf' => ?_
      simp only [OpK_eq, take6, List.drop_zero, go_sem, ↓reduceIte, Nat.reduceEqDiff, Nat.reduceAdd, Nat.reduceMul, Nat.reduceLeDiff, Nat.reduceLT, Int.reduceLE, Int.reduceLT, reduceCtorEq]
      repeat' (first | refine And.intro ?_ ?_ | intro _)
      all_goals (try omega)
      refine ih (x + 1, v', σ') ⟨by show x + 1 ≤ y; omega, ?_, hf'⟩ (by show y - (x + 1) < y - x; omega) _ _ (by rfl) rfl
      rw [← hM] at hT'
      rw [← ptb_succ]; exact hT'
  · obtain rfl : x = M := by omega
    simp only [OpK_eq, take6, List.drop_zero, go_sem, ↓reduceIte, Nat.reduceEqDiff, Nat.reduceAdd, Nat.reduceMul, Nat.reduceLeDiff, Nat.reduceLT, Int.reduceLE, Int.reduceLT, reduceCtorEq]
    rw [← hM] at hT ⊢
    exact hT.freeze ⟨rfl, rfl⟩
theorem p50_no (a b : List (List Int)) (ha : a.length ≤ 1048576) (hla : ∀ r ∈ a, r.length ≤ 1048576) (hb : b.length ≤ 1048576) (hlb : ∀ r ∈ b, r.length ≤ 1048576) (h : isTab a = false ∨ isTab b = false) : Pure Try.prog 50 [.list (rows a), .list (rows b)] (.tup [.nils, .int .i64 2]) := by
  refine e50 (by simp) fun _ _ => ?_
  simp only [k50, argEnv, take6, List.drop_zero, go_sem, ↓reduceIte, Nat.reduceEqDiff, Nat.reduceAdd, Nat.reduceMul, Nat.reduceLeDiff, Nat.reduceLT, Int.reduceLE, Int.reduceLT, reduceCtorEq]
  refine (p77 a ha hla).go ?_
  cases ha' : isTab a with
  | false =>
    simp only [take6, List.drop_zero, go_sem, ↓reduceIte, Nat.reduceEqDiff, Nat.reduceAdd, Nat.reduceMul, Nat.reduceLeDiff, Nat.reduceLT, Int.reduceLE, Int.reduceLT, reduceCtorEq]
    exact Kv.Fin.still ⟨rfl, rfl⟩
  | true =>
    have hb' : isTab b = false := by rcases h with h | h <;> simp_all
    simp only [take6, List.drop_zero, go_sem, ↓reduceIte, Nat.reduceEqDiff, Nat.reduceAdd, Nat.reduceMul, Nat.reduceLeDiff, Nat.reduceLT, Int.reduceLE, Int.reduceLT, reduceCtorEq]
    refine (p77 b hb hlb).go ?_
    rw [hb']
    simp only [take6, List.drop_zero, go_sem, ↓reduceIte, Nat.reduceEqDiff, Nat.reduceAdd, Nat.reduceMul, Nat.reduceLeDiff, Nat.reduceLT, Int.reduceLE, Int.reduceLT, reduceCtorEq]
    exact Kv.Fin.still ⟨rfl, rfl⟩
theorem p50_big (a b : List (List Int)) (ha : a.length ≤ 1048576) (hla : ∀ r ∈ a, r.length ≤ 1048576) (hb : b.length ≤ 1048576) (hlb : ∀ r ∈ b, r.length ≤ 1048576) (h : isTab a = true) (h' : isTab b = true) (hN : ¬ a.length * b.length ≤ 40) : Pure Try.prog 50 [.list (rows a), .list (rows b)] (.tup [.nils, .int .i64 3]) := by
  obtain ⟨hna, hsa⟩ := tab_sq h
  obtain ⟨hnb, hsb⟩ := tab_sq h'
  have hNi : (a.length : Int) * (b.length : Int) = ((a.length * b.length : Nat) : Int) := by simp
  have hgt : (40 : Int) < ((a.length * b.length : Nat) : Int) := by omega
  have hle : a.length * b.length ≤ 40 * 40 := Nat.mul_le_mul hna.2 hnb.2
  refine e50 (by simp) fun _ _ => ?_
  simp only [k50, argEnv, take6, List.drop_zero, go_sem, ↓reduceIte, Nat.reduceEqDiff, Nat.reduceAdd, Nat.reduceMul, Nat.reduceLeDiff, Nat.reduceLT, Int.reduceLE, Int.reduceLT, reduceCtorEq]
  refine (p77 a ha hla).go ?_
  rw [h]
  simp only [take6, List.drop_zero, go_sem, ↓reduceIte, Nat.reduceEqDiff, Nat.reduceAdd, Nat.reduceMul, Nat.reduceLeDiff, Nat.reduceLT, Int.reduceLE, Int.reduceLT, reduceCtorEq]
  refine (p77 b hb hlb).go ?_
  rw [h']
  simp only [hNi, hgt, take6, List.drop_zero, go_sem, ↓reduceIte, Nat.reduceEqDiff, Nat.reduceAdd, Nat.reduceMul, Nat.reduceLeDiff, Nat.reduceLT, Int.reduceLE, Int.reduceLT, reduceCtorEq]
  generalize a.length * b.length = M at *
  repeat' (first | refine And.intro ?_ ?_ | intro _)
  all_goals (try omega)
  exact Kv.Fin.still ⟨rfl, rfl⟩
theorem p49_no (a b : List (List Int)) (ha : a.length ≤ 1048576) (hla : ∀ r ∈ a, r.length ≤ 1048576) (hb : b.length ≤ 1048576) (hlb : ∀ r ∈ b, r.length ≤ 1048576) (h : isTab a = false ∨ isTab b = false) : Pure Try.prog 49 [.list (rows a), .list (rows b)] (.tup [.nils, .int .i64 2]) := by
  refine e49 (by simp) fun _ _ => ?_
  simp only [k49, argEnv, take6, List.drop_zero, go_sem, ↓reduceIte, Nat.reduceEqDiff, Nat.reduceAdd, Nat.reduceMul, Nat.reduceLeDiff, Nat.reduceLT, Int.reduceLE, Int.reduceLT, reduceCtorEq]
  refine (p74 a ha hla).go ?_
  cases ha' : isTab a with
  | false =>
    simp only [take6, List.drop_zero, go_sem, ↓reduceIte, Nat.reduceEqDiff, Nat.reduceAdd, Nat.reduceMul, Nat.reduceLeDiff, Nat.reduceLT, Int.reduceLE, Int.reduceLT, reduceCtorEq]
    exact Kv.Fin.still ⟨rfl, rfl⟩
  | true =>
    have hb' : isTab b = false := by rcases h with h | h <;> simp_all
    simp only [take6, List.drop_zero, go_sem, ↓reduceIte, Nat.reduceEqDiff, Nat.reduceAdd, Nat.reduceMul, Nat.reduceLeDiff, Nat.reduceLT, Int.reduceLE, Int.reduceLT, reduceCtorEq]
    refine (p74 b hb hlb).go ?_
    rw [hb']
    simp only [take6, List.drop_zero, go_sem, ↓reduceIte, Nat.reduceEqDiff, Nat.reduceAdd, Nat.reduceMul, Nat.reduceLeDiff, Nat.reduceLT, Int.reduceLE, Int.reduceLT, reduceCtorEq]
    exact Kv.Fin.still ⟨rfl, rfl⟩
theorem p49_big (a b : List (List Int)) (ha : a.length ≤ 1048576) (hla : ∀ r ∈ a, r.length ≤ 1048576) (hb : b.length ≤ 1048576) (hlb : ∀ r ∈ b, r.length ≤ 1048576) (h : isTab a = true) (h' : isTab b = true) (hN : ¬ a.length * b.length ≤ 40) : Pure Try.prog 49 [.list (rows a), .list (rows b)] (.tup [.nils, .int .i64 3]) := by
  obtain ⟨hna, hsa⟩ := tab_sq h
  obtain ⟨hnb, hsb⟩ := tab_sq h'
  have hNi : (a.length : Int) * (b.length : Int) = ((a.length * b.length : Nat) : Int) := by simp
  have hgt : (40 : Int) < ((a.length * b.length : Nat) : Int) := by omega
  have hle : a.length * b.length ≤ 40 * 40 := Nat.mul_le_mul hna.2 hnb.2
  refine e49 (by simp) fun _ _ => ?_
  simp only [k49, argEnv, take6, List.drop_zero, go_sem, ↓reduceIte, Nat.reduceEqDiff, Nat.reduceAdd, Nat.reduceMul, Nat.reduceLeDiff, Nat.reduceLT, Int.reduceLE, Int.reduceLT, reduceCtorEq]
  refine (p74 a ha hla).go ?_
  rw [h]
  simp only [take6, List.drop_zero, go_sem, ↓reduceIte, Nat.reduceEqDiff, Nat.reduceAdd, Nat.reduceMul, Nat.reduceLeDiff, Nat.reduceLT, Int.reduceLE, Int.reduceLT, reduceCtorEq]
  refine (p74 b hb hlb).go ?_
  rw [h']
  simp only [hNi, hgt, take6, List.drop_zero, go_sem, ↓reduceIte, Nat.reduceEqDiff, Nat.reduceAdd, Nat.reduceMul, Nat.reduceLeDiff, Nat.reduceLT, Int.reduceLE, Int.reduceLT, reduceCtorEq]
  generalize a.length * b.length = M at *
  repeat' (first | refine And.intro ?_ ?_ | intro _)
  all_goals (try omega)
  exact Kv.Fin.still ⟨rfl, rfl⟩
end Go.Proofs.Ytkdkdkkimieieaa
