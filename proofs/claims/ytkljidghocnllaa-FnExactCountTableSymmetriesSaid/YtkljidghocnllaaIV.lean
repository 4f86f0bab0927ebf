/- Partitions: whether they are, whether they are invariant; both sides. -/
import Derived.Test.YtkljidghocnllaaIVc
import Derived.Test.YtkljidghocnllaaLC
namespace Go.Proofs.Ytkljidghocnllaa
open Go.Kv
set_option linter.unusedVariables false
set_option linter.unusedSimpArgs false
attribute [local irreducible] ACall PCall KL
/-- Numbers of classes, of which v is the least free one. -/
def clOk : List Int → Int → Bool
  | [], _ => true
  | k :: r, v => decide (0 ≤ k ∧ k ≤ v) && clOk r (if k = v then v + 1 else v)
theorem clOk_step {l : List Int} {x : Nat} (h : x < l.length) (v : Int) : clOk (l.drop x) v = (decide (0 ≤ l[x] ∧ l[x] ≤ v) && clOk (l.drop (x + 1)) (if l[x] = v then v + 1 else v)) := by
  rw [List.drop_eq_getElem_cons h]; rfl
theorem p81 (l : List Int) (n : Int) (hl : l.length ≤ 1048576) : Pure Try.prog 81 [.list (ints l), .int .i64 n] (.bool (clOk l 0 && decide ((l.length : Int) = n))) := by
  refine e81 (by simp) fun _ _ => ?_
  simp only [k81, argEnv, take6, List.drop_zero, Int.cast_ofNat_Int, go_sem, ↓reduceIte, Nat.reduceEqDiff, Nat.reduceAdd, Nat.reduceMul, Nat.reduceLeDiff, Nat.reduceLT, Int.reduceLE, Int.reduceLT, reduceCtorEq]
  refine KL_ind k81_b0.eq_1 (fun x : Nat × Int => [(0, .list (ints l)), (1, .int .i64 n), (5, .int .i64 x.2), (8, .list (ints l)), (9, .int .i64 l.length), (10, .int .i64 x.1)]) (fun _ => []) (fun x => x.1 ≤ l.length ∧ clOk l 0 = clOk (l.drop x.1) x.2 ∧ 0 ≤ x.2 ∧ x.2 ≤ x.1) (fun x => l.length - x.1) [0, 1, 5, 8, 9, 10] (0, 0) (by rfl) rfl ⟨Nat.zero_le _, rfl, by simp, by simp⟩ fun ⟨x, v⟩ ⟨hx, hc, h0, hv⟩ ih => ?_
  simp only at hx hc h0 hv
  try simp only [take6, List.drop_zero, Int.cast_ofNat_Int, go_sem, ↓reduceIte, Nat.reduceEqDiff, Nat.reduceAdd, Nat.reduceMul, Nat.reduceLeDiff, Nat.reduceLT, Int.reduceLE, Int.reduceLT, reduceCtorEq]
  refine ⟨fun h1 => ⟨by omega, fun h2 => ?_⟩, fun h1 => ?_⟩
  · rw [getD_eq h2]
    rw [clOk_step h2] at hc
    refine (p103 _ _ _).go ?_
    try simp only [take6, List.drop_zero, Int.cast_ofNat_Int, go_sem, ↓reduceIte, Nat.reduceEqDiff, Nat.reduceAdd, Nat.reduceMul, Nat.reduceLeDiff, Nat.reduceLT, Int.reduceLE, Int.reduceLT, reduceCtorEq]
    refine ⟨fun h3 => ?_, fun h3 => ⟨fun h4 => ⟨by omega, by omega, ?_⟩, fun h4 => ⟨by omega, ?_⟩⟩⟩
    · rw [hc, decide_eq_false h3]
      exact Kv.Fin.still ⟨rfl, rfl⟩
    · rw [decide_eq_true h3, Bool.true_and, if_pos h4] at hc
      exact ih (x + 1, v + 1) ⟨by show x + 1 ≤ _; omega, hc, by show 0 ≤ v + 1; omega, by show v + 1 ≤ ((x + 1 : Nat) : Int); omega⟩ (by show l.length - (x + 1) < l.length - x; omega) _ _ (by rfl) rfl
    · rw [decide_eq_true h3, Bool.true_and, if_neg h4] at hc
      exact ih (x + 1, v) ⟨by show x + 1 ≤ _; omega, hc, h0, by show v ≤ ((x + 1 : Nat) : Int); omega⟩ (by show l.length - (x + 1) < l.length - x; omega) _ _ (by rfl) rfl
  · obtain rfl : x = l.length := by omega
    rw [List.drop_length] at hc
    rw [hc]
    exact Kv.Fin.still ⟨by simp [clOk], rfl⟩
theorem p136 (l : List Int) (n : Int) (hl : l.length ≤ 1048576) : Pure Try.prog 136 [.list (ints l), .int .i64 n] (.bool (clOk l 0 && decide ((l.length : Int) = n))) := by
  refine e136 (by simp) fun _ _ => ?_
  simp only [k136, argEnv, take6, List.drop_zero, Int.cast_ofNat_Int, go_sem, ↓reduceIte, Nat.reduceEqDiff, Nat.reduceAdd, Nat.reduceMul, Nat.reduceLeDiff, Nat.reduceLT, Int.reduceLE, Int.reduceLT, reduceCtorEq]
  refine ⟨fun h => Kv.Fin.still ⟨by rw [decide_eq_false h, Bool.and_false], rfl⟩, fun h => ?_⟩
  subst h
  rw [decide_eq_true rfl, Bool.and_true]
  refine KL_ind k136_b0.eq_1 (fun x : Nat × Int => [(0, .list (ints l)), (1, .int .i64 l.length), (5, .int .i64 x.2), (6, .int .i64 x.1)]) (fun _ => []) (fun x => x.1 ≤ l.length ∧ clOk l 0 = clOk (l.drop x.1) x.2 ∧ 0 ≤ x.2 ∧ x.2 ≤ x.1) (fun x => l.length - x.1) [0, 1, 5, 6] (0, 0) (by rfl) rfl ⟨Nat.zero_le _, rfl, by simp, by simp⟩ fun ⟨x, v⟩ ⟨hx, hc, h0, hv⟩ ih => ?_
  simp only at hx hc h0 hv
  try simp only [take6, List.drop_zero, Int.cast_ofNat_Int, go_sem, ↓reduceIte, Nat.reduceEqDiff, Nat.reduceAdd, Nat.reduceMul, Nat.reduceLeDiff, Nat.reduceLT, Int.reduceLE, Int.reduceLT, reduceCtorEq]
  refine ⟨fun h1 => ⟨by omega, fun h2 => ?_⟩, fun h1 => ?_⟩
  · rw [getD_eq h2]
    rw [clOk_step h2] at hc
    refine (p102 _ _ _).go ?_
    try simp only [take6, List.drop_zero, Int.cast_ofNat_Int, go_sem, ↓reduceIte, Nat.reduceEqDiff, Nat.reduceAdd, Nat.reduceMul, Nat.reduceLeDiff, Nat.reduceLT, Int.reduceLE, Int.reduceLT, reduceCtorEq]
    refine ⟨fun h3 => ?_, fun h3 => ⟨by omega, fun _ => ?_⟩⟩
    · rw [hc, decide_eq_false h3]
      exact Kv.Fin.still ⟨rfl, rfl⟩
    rw [getD_eq h2]
    refine ⟨fun h4 => ⟨by omega, by omega, ?_⟩, fun h4 => ⟨by omega, ?_⟩⟩
    · rw [decide_eq_true h3, Bool.true_and, if_pos h4] at hc
      exact ih (x + 1, v + 1) ⟨by show x + 1 ≤ _; omega, hc, by show 0 ≤ v + 1; omega, by show v + 1 ≤ ((x + 1 : Nat) : Int); omega⟩ (by show l.length - (x + 1) < l.length - x; omega) _ _ (by rfl) rfl
    · rw [decide_eq_true h3, Bool.true_and, if_neg h4] at hc
      exact ih (x + 1, v) ⟨by show x + 1 ≤ _; omega, hc, h0, by show v ≤ ((x + 1 : Nat) : Int); omega⟩ (by show l.length - (x + 1) < l.length - x; omega) _ _ (by rfl) rfl
  · obtain rfl : x = l.length := by omega
    rw [List.drop_length] at hc
    rw [hc]
    exact Kv.Fin.still ⟨by simp [clOk], rfl⟩
theorem p117 (l : List Int) (n : Int) (hl : l.length ≤ 1048576) : Pure Try.prog 117 [.list (ints l), .int .i64 n] (.bool (clOk l 0 && decide ((l.length : Int) = n))) := by
  refine e117 (by simp) fun _ _ => ?_
  simp only [k117, argEnv, take6, List.drop_zero, Int.cast_ofNat_Int, go_sem, ↓reduceIte, Nat.reduceEqDiff, Nat.reduceAdd, Nat.reduceMul, Nat.reduceLeDiff, Nat.reduceLT, Int.reduceLE, Int.reduceLT, reduceCtorEq]
  refine (p136 l n hl).go ?_
  try simp only [take6, List.drop_zero, Int.cast_ofNat_Int, go_sem, ↓reduceIte, Nat.reduceEqDiff, Nat.reduceAdd, Nat.reduceMul, Nat.reduceLeDiff, Nat.reduceLT, Int.reduceLE, Int.reduceLT, reduceCtorEq]
  exact Kv.Fin.still ⟨rfl, rfl⟩
theorem p118 (l : List Int) (k : Int) (hl : l.length ≤ 1048576) : Pure Try.prog 118 [.list (ints l), .int .i64 k] (.int .i64 (idx (fun y => decide (k = y)) l)) := by
  refine e118 (by simp) fun _ _ => ?_
  simp only [k118, argEnv, take6, List.drop_zero, Int.cast_ofNat_Int, go_sem, ↓reduceIte, Nat.reduceEqDiff, Nat.reduceAdd, Nat.reduceMul, Nat.reduceLeDiff, Nat.reduceLT, Int.reduceLE, Int.reduceLT, reduceCtorEq]
  refine KL_ind k118_b0.eq_1 (fun x : Nat => [(0, .list (ints l)), (1, .int .i64 k), (7, .int .i64 l.length), (8, .int .i64 x)]) (fun _ => []) (fun x => x ≤ l.length ∧ (l.take x).any (fun y => decide (k = y)) = false) (fun x => l.length - x) [0, 1, 7, 8] 0 (by rfl) rfl ⟨Nat.zero_le _, by simp⟩ fun x ⟨hx, hall⟩ ih => ?_
  try simp only [take6, List.drop_zero, Int.cast_ofNat_Int, go_sem, ↓reduceIte, Nat.reduceEqDiff, Nat.reduceAdd, Nat.reduceMul, Nat.reduceLeDiff, Nat.reduceLT, Int.reduceLE, Int.reduceLT, reduceCtorEq]
  refine ⟨fun h1 => ⟨by omega, fun h2 => ?_⟩, fun h1 => ?_⟩
  · rw [getD_eq h2]
    refine ⟨fun h3 => ?_, fun h3 => ⟨by omega, ?_⟩⟩
    · exact Kv.Fin.still ⟨by rw [idx_some h2 hall (by simpa using h3)], rfl⟩
    · refine ih (x + 1) ⟨by omega, ?_⟩ (by omega) _ _ (by rfl) rfl
      rw [any_take_succ _ h2, hall, decide_eq_false h3]; rfl
  · obtain rfl : x = l.length := by omega
    rw [List.take_length] at hall
    exact Kv.Fin.still ⟨by rw [idx_none hall], rfl⟩
theorem idx_of {l : List Int} {p : Nat} (h : p < l.length) : ∃ q : Nat, idx (fun y => decide (l.getD p 0 = y)) l = q ∧ q < l.length ∧ l.getD q 0 = l.getD p 0 := by
  have ha : l.any (fun y => decide (l.getD p 0 = y)) = true := by
    rw [List.any_eq_true]
    exact ⟨l[p], List.getElem_mem h, by rw [getD_eq h]; simp⟩
  obtain ⟨q, hq, h1, h2⟩ := any_split ha
  refine ⟨q, idx_some hq h1 h2, hq, ?_⟩
  rw [getD_eq hq]
  exact (of_decide_eq_true h2).symm
/-- What a right list of maps is. -/
theorem lcode_maps {a : List (List Int)} (h6 : ∀ r ∈ a, r.length = 6) (h : lcode a [] = 0) : ∃ (fs : List (List Nat)) (n : Nat), a = fs.map mp ∧ (∀ f ∈ fs, Ok f n) ∧ 1 ≤ fs.length ∧ fs.length ≤ 6 ∧ (a.getD 0 []).getD 0 0 = n ∧ 1 ≤ n ∧ n ≤ 5 := by
  unfold lcode at h
  rw [List.append_nil] at h
  split at h
  · omega
  rename_i h1
  split at h
  · omega
  rename_i h2
  split at h
  · omega
  rename_i h3
  simp only [Bool.not_eq_false, List.all_eq_true, decide_eq_true_eq] at h1 h3
  have h2' : 1 ≤ a.length ∧ a.length ≤ 6 := by omega
  have h0 : 0 < a.length := by omega
  obtain ⟨f0, n, hf0, e0⟩ := isM_ok (h6 _ (List.getElem_mem h0)) (h1 _ (List.getElem_mem h0))
  have hn : (a.getD 0 []).getD 0 0 = n := by rw [getD_eq h0, e0, mp_get0, hf0.len]
  have key : ∀ r ∈ a, r = mp (um r) ∧ Ok (um r) n := fun r hr => by
    obtain ⟨f, n', hf, e⟩ := isM_ok (h6 r hr) (h1 r hr)
    have h4 := h3 r hr
    rw [hn, e, mp_get0, hf.len] at h4
    obtain rfl : n' = n := by omega
    rw [e, um_mp]
    exact ⟨rfl, hf⟩
  refine ⟨a.map um, n, ?_, ?_, by simpa using h2'.1, by simpa using h2'.2, hn, hf0.pos, hf0.le⟩
  · rw [List.map_map]
    conv => lhs; rw [← List.map_id a]
    exact List.map_congr_left fun r hr => by simpa using (key r hr).1
  · intro f hf
    obtain ⟨r, hr, rfl⟩ := List.mem_map.1 hf
    exact (key r hr).2
/-- A map keeps a partition. -/
def Iv (P : List Int) (f : List Nat) : Prop := ∀ a b, a < P.length → b < P.length → P.getD a 0 = P.getD b 0 → P.getD (f.getD a 0) 0 = P.getD (f.getD b 0) 0
noncomputable def iv (fs : List (List Nat)) (P : List Int) : Bool := @decide (∀ f ∈ fs, Iv P f) (Classical.propDecidable _)
theorem iv_true {fs : List (List Nat)} {P : List Int} (h : ∀ f ∈ fs, Iv P f) : iv fs P = true := by
  unfold iv; exact @decide_eq_true _ (Classical.propDecidable _) h
theorem iv_all {fs : List (List Nat)} {P : List Int} (h : iv fs P = true) : ∀ f ∈ fs, Iv P f := by
  unfold iv at h; exact @of_decide_eq_true _ (Classical.propDecidable _) h
theorem iv_false {fs : List (List Nat)} {P : List Int} {x : Nat} (h : x < fs.length) (h' : ¬ Iv P fs[x]) : iv fs P = false := by
  unfold iv; exact @decide_eq_false _ (Classical.propDecidable _) fun g => h' (g _ (List.getElem_mem h))
theorem take_mem_succ {fs : List (List Nat)} {x : Nat} {Q : List Nat → Prop} (h : x < fs.length) (h1 : ∀ f ∈ fs.take x, Q f) (h2 : Q fs[x]) : ∀ f ∈ fs.take (x + 1), Q f := fun f hf => by
  rw [List.take_succ_eq_append_getElem h, List.mem_append, List.mem_singleton] at hf
  rcases hf with hf | rfl
  · exact h1 f hf
  · exact h2
theorem map_getD {fs : List (List Nat)} {x : Nat} (h : x < fs.length) : (fs.map mp).getD x [] = mp fs[x] := by simp [List.getD_eq_getElem?_getD, h]
theorem p82 (fs : List (List Nat)) (n : Nat) (P : List Int) (hP : P.length = n) (h5 : n ≤ 5) (hf : ∀ f ∈ fs, Ok f n) (hl : fs.length ≤ 1048576) : Pure Try.prog 82 [.list (aggs (fs.map mp)), .list (ints P)] (.bool (iv fs P)) := by
  subst hP
  refine e82 (by simp) fun _ _ => ?_
  simp only [k82, argEnv, take6, List.drop_zero, Int.cast_ofNat_Int, go_sem, ↓reduceIte, Nat.reduceEqDiff, Nat.reduceAdd, Nat.reduceMul, Nat.reduceLeDiff, Nat.reduceLT, Int.reduceLE, Int.reduceLT, reduceCtorEq]
  refine KL_indD k82_b1.eq_1 (fun x : Nat => [(1, .list (ints P)), (10, .list (aggs (fs.map mp))), (11, .int .i64 fs.length), (12, .int .i64 x)]) (fun _ => []) (fun x => x ≤ fs.length ∧ ∀ f ∈ fs.take x, Iv P f) (fun x => fs.length - x) [1, 10, 11, 12] 0 (by simp [keep]) ⟨[], rfl⟩ ⟨Nat.zero_le _, by simp⟩ (fun x hx => ?_) fun x ⟨hx, hall⟩ ih => ?_
  · exact ⟨Nat.zero_le _, Env.undr_upto (by simp [Env.undr, PV.undr, undrX_ints, undrX_aggs]), .nil _⟩
  try simp only [List.length_map, take6, List.drop_zero, Int.cast_ofNat_Int, go_sem, ↓reduceIte, Nat.reduceEqDiff, Nat.reduceAdd, Nat.reduceMul, Nat.reduceLeDiff, Nat.reduceLT, Int.reduceLE, Int.reduceLT, reduceCtorEq]
  refine ⟨fun h1 => ⟨by omega, fun h2 => ?_⟩, fun h1 => ?_⟩
  · have hk := hf _ (List.getElem_mem h2)
    have h6 := hk.mp_len
    rw [map_getD h2]
    try simp only [h6, take6, List.drop_zero, Int.cast_ofNat_Int, go_sem, ↓reduceIte, Nat.reduceEqDiff, Nat.reduceAdd, Nat.reduceMul, Nat.reduceLeDiff, Nat.reduceLT, Int.reduceLE, Int.reduceLT, reduceCtorEq]
    refine KL_ind k82_b0.eq_1 (fun p : Nat => [(1, .list (ints P)), (6, .ptr 0 0), (10, .list (aggs (fs.map mp))), (11, .int .i64 fs.length), (12, .int .i64 x), (16, .list (ints P)), (17, .int .i64 P.length), (18, .int .i64 p)]) (fun _ => [.box (ints (mp fs[x]))]) (fun p => p ≤ P.length ∧ ∀ a, a < p → ∀ q : Nat, idx (fun y => decide (P.getD a 0 = y)) P = q → P.getD (fs[x].getD a 0) 0 = P.getD (fs[x].getD q 0) 0) (fun p => P.length - p) [1, 6, 10, 11, 12, 16, 17, 18] 0 (by rfl) rfl ⟨Nat.zero_le _, fun a ha => by omega⟩ fun p ⟨hp, hpa⟩ ihp => ?_
    try simp only [take6, List.drop_zero, Int.cast_ofNat_Int, go_sem, ↓reduceIte, Nat.reduceEqDiff, Nat.reduceAdd, Nat.reduceMul, Nat.reduceLeDiff, Nat.reduceLT, Int.reduceLE, Int.reduceLT, reduceCtorEq]
    refine ⟨fun h3 => ⟨by omega, fun h4 => ?_⟩, fun h3 => ?_⟩
    · refine (p118 P _ (by omega)).go ?_
      obtain ⟨q, hq, hql, hqe⟩ := idx_of h4
      rw [hq]
      have hg1 := hk.get' p
      have hg2 := hk.get' q
      try simp only [h6, hg1, hg2, take6, List.drop_zero, Int.cast_ofNat_Int, go_sem, ↓reduceIte, Nat.reduceEqDiff, Nat.reduceAdd, Nat.reduceMul, Nat.reduceLeDiff, Nat.reduceLT, Int.reduceLE, Int.reduceLT, reduceCtorEq]
      refine ⟨by omega, by omega, fun _ => ⟨by omega, by omega, by omega, fun _ => ⟨by omega, fun h7 => ?_, fun h7 => ⟨by omega, ?_⟩⟩⟩⟩
      · exact Kv.Fin.still ⟨by rw [iv_false h2 fun h => h7 (h p q h4 hql hqe.symm)], rfl⟩
      · refine ihp (p + 1) ⟨by omega, fun a ha q' hq' => ?_⟩ (by omega) _ _ (by rfl) rfl
        by_cases e : a = p
        · subst e
          rw [hq] at hq'
          obtain rfl : q = q' := by omega
          exact h7
        · exact hpa a (by omega) q' hq'
    · obtain rfl : p = P.length := by omega
      refine ⟨by omega, ?_⟩
      refine ih (x + 1) ⟨by omega, take_mem_succ h2 hall fun a b ha hb he => ?_⟩ (by omega) _ _ (by simp [keep]) ⟨[_], rfl⟩
      obtain ⟨q, hq, _, _⟩ := idx_of ha
      rw [hpa a ha q hq, hpa b hb q (by rw [← he]; exact hq)]
  · obtain rfl : x = fs.length := by omega
    rw [List.take_length] at hall
    exact Kv.Fin.still ⟨by rw [iv_true hall], rfl⟩
theorem p80 (fs : List (List Nat)) (n : Nat) (P : List Int) (hP : P.length = n) (h5 : n ≤ 5) (hf : ∀ f ∈ fs, Ok f n) (hl : fs.length ≤ 1048576) : Pure Try.prog 80 [.list (aggs (fs.map mp)), .list (ints P)] (.bool (iv fs P)) := by
  subst hP
  refine e80 (by simp) fun _ _ => ?_
  simp only [k80, argEnv, take6, List.drop_zero, Int.cast_ofNat_Int, go_sem, ↓reduceIte, Nat.reduceEqDiff, Nat.reduceAdd, Nat.reduceMul, Nat.reduceLeDiff, Nat.reduceLT, Int.reduceLE, Int.reduceLT, reduceCtorEq]
  refine KL_ind k80_b2.eq_1 (fun x : Nat => [(0, .list (aggs (fs.map mp))), (1, .list (ints P)), (5, .int .i64 x)]) (fun _ => []) (fun x => x ≤ fs.length ∧ ∀ f ∈ fs.take x, Iv P f) (fun x => fs.length - x) [0, 1, 5] 0 (by simp [keep]) rfl ⟨Nat.zero_le _, by simp⟩ fun x ⟨hx, hall⟩ ih => ?_
  try simp only [List.length_map, take6, List.drop_zero, Int.cast_ofNat_Int, go_sem, ↓reduceIte, Nat.reduceEqDiff, Nat.reduceAdd, Nat.reduceMul, Nat.reduceLeDiff, Nat.reduceLT, Int.reduceLE, Int.reduceLT, reduceCtorEq]
  refine ⟨fun h1 => ?_, fun h1 => ?_⟩
  · have h2 : x < fs.length := by omega
    have hk := hf _ (List.getElem_mem h2)
    have h6 := hk.mp_len
    refine KL_ind k80_b1.eq_1 (fun a : Nat => [(0, .list (aggs (fs.map mp))), (1, .list (ints P)), (5, .int .i64 x), (6, .int .i64 a)]) (fun _ => []) (fun a => a ≤ P.length ∧ ∀ c d, c < a → d < c → P.getD c 0 = P.getD d 0 → P.getD (fs[x].getD c 0) 0 = P.getD (fs[x].getD d 0) 0) (fun a => P.length - a) [0, 1, 5, 6] 0 (by simp [keep]) rfl ⟨Nat.zero_le _, fun c d hc => by omega⟩ fun a ⟨ha, hac⟩ iha => ?_
    try simp only [take6, List.drop_zero, Int.cast_ofNat_Int, go_sem, ↓reduceIte, Nat.reduceEqDiff, Nat.reduceAdd, Nat.reduceMul, Nat.reduceLeDiff, Nat.reduceLT, Int.reduceLE, Int.reduceLT, reduceCtorEq]
    refine ⟨fun h3 => ?_, fun h3 => ?_⟩
    · refine KL_ind k80_b0.eq_1 (fun b : Nat => [(0, .list (aggs (fs.map mp))), (1, .list (ints P)), (5, .int .i64 x), (6, .int .i64 a), (7, .int .i64 b)]) (fun _ => []) (fun b => b ≤ a ∧ ∀ d, d < b → P.getD a 0 = P.getD d 0 → P.getD (fs[x].getD a 0) 0 = P.getD (fs[x].getD d 0) 0) (fun b => a - b) [0, 1, 5, 6, 7] 0 (by simp [keep]) rfl ⟨Nat.zero_le _, fun d hd => by omega⟩ fun b ⟨hb, hbd⟩ ihb => ?_
      have hg1 := hk.get' a
      have hg2 := hk.get' b
      have h4 : a < P.length := by omega
      try simp only [h6, hg1, hg2, map_getD h2, List.length_map, take6, List.drop_zero, Int.cast_ofNat_Int, go_sem, ↓reduceIte, Nat.reduceEqDiff, Nat.reduceAdd, Nat.reduceMul, Nat.reduceLeDiff, Nat.reduceLT, Int.reduceLE, Int.reduceLT, reduceCtorEq]
      have hit : (P.getD a 0 = P.getD b 0 → P.getD (fs[x].getD a 0) 0 = P.getD (fs[x].getD b 0) 0) → ∀ d, d < b + 1 → P.getD a 0 = P.getD d 0 → P.getD (fs[x].getD a 0) 0 = P.getD (fs[x].getD d 0) 0 := fun h d hd => by
        by_cases e : d = b
        · rw [e]; exact h
        · exact hbd d (by omega)
      refine ⟨fun h5 => ⟨by omega, fun _ => ⟨by omega, fun h8 => ⟨fun h9 => ⟨by omega, fun _ => ⟨by omega, by omega, fun _ => ⟨by omega, by omega, fun _ => ⟨by omega, by omega, fun _ => ⟨by omega, fun h10 => ?_, fun h10 => ⟨by omega, ?_⟩⟩⟩⟩⟩⟩, fun h9 => ⟨by omega, ?_⟩⟩⟩⟩, fun h5 => ⟨by omega, ?_⟩⟩
      · exact Kv.Fin.still ⟨by rw [iv_false h2 fun h => h10 (h a b h4 h8 h9)], rfl⟩
      · exact ihb (b + 1) ⟨by omega, hit fun _ => h10⟩ (by omega) _ _ (by simp [keep]) rfl
      · exact ihb (b + 1) ⟨by omega, hit fun h => absurd h h9⟩ (by omega) _ _ (by simp [keep]) rfl
      · obtain rfl : b = a := by omega
        refine iha (b + 1) ⟨by omega, fun c d hc hd he => ?_⟩ (by omega) _ _ (by simp [keep]) rfl
        by_cases e : c = b
        · subst e; exact hbd d hd he
        · exact hac c d (by omega) hd he
    · obtain rfl : a = P.length := by omega
      refine ⟨by omega, ?_⟩
      refine ih (x + 1) ⟨by omega, take_mem_succ h2 hall fun c d hc hd he => ?_⟩ (by omega) _ _ (by simp [keep]) rfl
      rcases Nat.lt_trichotomy c d with h | h | h
      · exact (hac d c hd h he.symm).symm
      · rw [h]
      · exact hac c d hc h he
  · obtain rfl : x = fs.length := by omega
    rw [List.take_length] at hall
    exact Kv.Fin.still ⟨by rw [iv_true hall], rfl⟩
/-- What comes to pass: the code, or whether. -/
noncomputable def ivp (a : List (List Int)) (P : List Int) : Bool × Int :=
  if lcode a [] ≠ 0 then (false, lcode a []) else if (clOk P 0 && decide ((P.length : Int) = (a.getD 0 []).getD 0 0)) = false then (false, 2) else (iv (a.map um) P, 0)
theorem map_um (fs : List (List Nat)) : (fs.map mp).map um = fs := by
  rw [List.map_map]
  conv => rhs; rw [← List.map_id fs]
  exact List.map_congr_left fun f _ => um_mp f
theorem p46 (a : List (List Int)) (P : List Int) (ha : a.length ≤ 1048576) (h6 : ∀ r ∈ a, r.length = 6) (hP : P.length ≤ 1048576) : Pure Try.prog 46 [.list (aggs a), .list (ints P)] (.tup [.bool (ivp a P).1, .int .i64 (ivp a P).2]) := by
  refine e46 (by simp) fun _ _ => ?_
  simp only [k46, argEnv, take6, List.drop_zero, Int.cast_ofNat_Int, go_sem, ↓reduceIte, Nat.reduceEqDiff, Nat.reduceAdd, Nat.reduceMul, Nat.reduceLeDiff, Nat.reduceLT, Int.reduceLE, Int.reduceLT, reduceCtorEq]
  refine (p64 _ a [] .nil ha (by simp) h6 (by simp)).go ?_
  try simp only [take6, List.drop_zero, Int.cast_ofNat_Int, go_sem, ↓reduceIte, Nat.reduceEqDiff, Nat.reduceAdd, Nat.reduceMul, Nat.reduceLeDiff, Nat.reduceLT, Int.reduceLE, Int.reduceLT, reduceCtorEq]
  refine ⟨fun h1 => ?_, fun h1 => ?_⟩
  · exact Kv.Fin.still ⟨by simp [ivp, h1], rfl⟩
  · obtain ⟨fs, n, rfl, hf, hl1, hl2, hn, hn1, hn5⟩ := lcode_maps h6 h1
    have h0 : 0 < fs.length := by omega
    have hk := hf _ (List.getElem_mem h0)
    have h6k := hk.mp_len
    rw [map_getD h0] at hn
    try simp only [map_getD h0, h6k, hn, List.length_map, take6, List.drop_zero, Int.cast_ofNat_Int, go_sem, ↓reduceIte, Nat.reduceEqDiff, Nat.reduceAdd, Nat.reduceMul, Nat.reduceLeDiff, Nat.reduceLT, Int.reduceLE, Int.reduceLT, reduceCtorEq]
    refine ⟨by omega, fun _ => ?_⟩
    refine (p81 P _ hP).go ?_
    have hv : ivp (fs.map mp) P = if (clOk P 0 && decide ((P.length : Int) = n)) = false then (false, 2) else (iv fs P, 0) := by
      unfold ivp; rw [if_neg (by simp [h1]), map_um, map_getD h0, hn]
    cases hc : (clOk P 0 && decide ((P.length : Int) = n)) with
    | false =>
      try simp only [take6, List.drop_zero, Int.cast_ofNat_Int, go_sem, ↓reduceIte, Nat.reduceEqDiff, Nat.reduceAdd, Nat.reduceMul, Nat.reduceLeDiff, Nat.reduceLT, Int.reduceLE, Int.reduceLT, reduceCtorEq]
      exact Kv.Fin.still ⟨by rw [hv, hc]; rfl, rfl⟩
    | true =>
      have hPn : P.length = n := by
        simp only [Bool.and_eq_true, decide_eq_true_eq] at hc; omega
      try simp only [take6, List.drop_zero, Int.cast_ofNat_Int, go_sem, ↓reduceIte, Nat.reduceEqDiff, Nat.reduceAdd, Nat.reduceMul, Nat.reduceLeDiff, Nat.reduceLT, Int.reduceLE, Int.reduceLT, reduceCtorEq]
      refine (p82 fs n P hPn hn5 hf (by omega)).go ?_
      try simp only [take6, List.drop_zero, Int.cast_ofNat_Int, go_sem, ↓reduceIte, Nat.reduceEqDiff, Nat.reduceAdd, Nat.reduceMul, Nat.reduceLeDiff, Nat.reduceLT, Int.reduceLE, Int.reduceLT, reduceCtorEq]
      exact Kv.Fin.still ⟨by rw [hv, hc]; rfl, rfl⟩
/-- The code of a list and a partition. -/
def pgc (a : List (List Int)) (P : List Int) : Int :=
  if lcode a [] ≠ 0 then lcode a [] else if (clOk P 0 && decide ((P.length : Int) = (a.getD 0 []).getD 0 0)) = false then 2 else 0
theorem pgc_zero {a : List (List Int)} {P : List Int} (h : pgc a P = 0) : lcode a [] = 0 ∧ (clOk P 0 && decide ((P.length : Int) = (a.getD 0 []).getD 0 0)) = true := by
  unfold pgc at h
  by_cases h1 : lcode a [] = 0
  · rw [if_neg (by simp [h1])] at h
    refine ⟨h1, ?_⟩
    cases h2 : (clOk P 0 && decide ((P.length : Int) = (a.getD 0 []).getD 0 0)) with
    | true => rfl
    | false => rw [h2] at h; simp at h
  · rw [if_pos h1] at h; exact absurd h h1
theorem p79 (a : List (List Int)) (P : List Int) (ha : a.length ≤ 1048576) (h6 : ∀ r ∈ a, r.length = 6) (hP : P.length ≤ 1048576) : Pure Try.prog 79 [.list (aggs a), .list (ints P)] (.int .i64 (pgc a P)) := by
  refine e79 (by simp) fun _ _ => ?_
  simp only [k79, argEnv, take6, List.drop_zero, Int.cast_ofNat_Int, go_sem, ↓reduceIte, Nat.reduceEqDiff, Nat.reduceAdd, Nat.reduceMul, Nat.reduceLeDiff, Nat.reduceLT, Int.reduceLE, Int.reduceLT, reduceCtorEq]
  refine (p63n a ha h6).go ?_
  try simp only [take6, List.drop_zero, Int.cast_ofNat_Int, go_sem, ↓reduceIte, Nat.reduceEqDiff, Nat.reduceAdd, Nat.reduceMul, Nat.reduceLeDiff, Nat.reduceLT, Int.reduceLE, Int.reduceLT, reduceCtorEq]
  refine ⟨fun h1 => ?_, fun h1 => ?_⟩
  · obtain ⟨fs, n, rfl, hf, hl1, hl2, hn, hn1, hn5⟩ := lcode_maps h6 h1
    have h0 : 0 < fs.length := by omega
    have hk := hf _ (List.getElem_mem h0)
    have h6k := hk.mp_len
    have hv : pgc (fs.map mp) P = if (clOk P 0 && decide ((P.length : Int) = n)) = false then 2 else 0 := by
      unfold pgc; rw [if_neg (by simp [h1]), hn]
    rw [map_getD h0] at hn
    try simp only [map_getD h0, h6k, hn, List.length_map, take6, List.drop_zero, Int.cast_ofNat_Int, go_sem, ↓reduceIte, Nat.reduceEqDiff, Nat.reduceAdd, Nat.reduceMul, Nat.reduceLeDiff, Nat.reduceLT, Int.reduceLE, Int.reduceLT, reduceCtorEq]
    refine ⟨by omega, fun _ => ?_⟩
    refine (p117 P _ hP).go ?_
    cases hc : (clOk P 0 && decide ((P.length : Int) = n)) with
    | false =>
      try simp only [take6, List.drop_zero, Int.cast_ofNat_Int, go_sem, ↓reduceIte, Nat.reduceEqDiff, Nat.reduceAdd, Nat.reduceMul, Nat.reduceLeDiff, Nat.reduceLT, Int.reduceLE, Int.reduceLT, reduceCtorEq]
      exact Kv.Fin.still ⟨by rw [hv, hc]; rfl, rfl⟩
    | true =>
      try simp only [h1, take6, List.drop_zero, Int.cast_ofNat_Int, go_sem, ↓reduceIte, Nat.reduceEqDiff, Nat.reduceAdd, Nat.reduceMul, Nat.reduceLeDiff, Nat.reduceLT, Int.reduceLE, Int.reduceLT, reduceCtorEq]
      exact Kv.Fin.still ⟨by rw [hv, hc]; simp, rfl⟩
  · exact Kv.Fin.still ⟨by simp [pgc, h1], rfl⟩
theorem p44 (a : List (List Int)) (P : List Int) (ha : a.length ≤ 1048576) (h6 : ∀ r ∈ a, r.length = 6) (hP : P.length ≤ 1048576) : Pure Try.prog 44 [.list (aggs a), .list (ints P)] (.tup [.bool (ivp a P).1, .int .i64 (ivp a P).2]) := by
  refine e44 (by simp) fun _ _ => ?_
  simp only [k44, argEnv, take6, List.drop_zero, Int.cast_ofNat_Int, go_sem, ↓reduceIte, Nat.reduceEqDiff, Nat.reduceAdd, Nat.reduceMul, Nat.reduceLeDiff, Nat.reduceLT, Int.reduceLE, Int.reduceLT, reduceCtorEq]
  refine (p79 a P ha h6 hP).go ?_
  try simp only [take6, List.drop_zero, Int.cast_ofNat_Int, go_sem, ↓reduceIte, Nat.reduceEqDiff, Nat.reduceAdd, Nat.reduceMul, Nat.reduceLeDiff, Nat.reduceLT, Int.reduceLE, Int.reduceLT, reduceCtorEq]
  have hv : ivp a P = if pgc a P ≠ 0 then (false, pgc a P) else (iv (a.map um) P, 0) := by
    unfold ivp pgc
    generalize (clOk P 0 && decide ((P.length : Int) = (a.getD 0 []).getD 0 0)) = b
    by_cases h1 : lcode a [] = 0
    · simp only [h1, ne_eq, not_true_eq_false, if_false]
      cases b <;> simp
    · simp only [ne_eq, h1, not_false_eq_true, if_true]
  refine ⟨fun h1 => ?_, fun h1 => ?_⟩
  · exact Kv.Fin.still ⟨by rw [hv, if_pos h1], rfl⟩
  · obtain ⟨h2, h3⟩ := pgc_zero h1
    obtain ⟨fs, n, rfl, hf, hl1, hl2, hn, hn1, hn5⟩ := lcode_maps h6 h2
    rw [hn] at h3
    have hPn : P.length = n := by
      simp only [Bool.and_eq_true, decide_eq_true_eq] at h3; omega
    refine (p80 fs n P hPn hn5 hf (by omega)).go ?_
    try simp only [take6, List.drop_zero, Int.cast_ofNat_Int, go_sem, ↓reduceIte, Nat.reduceEqDiff, Nat.reduceAdd, Nat.reduceMul, Nat.reduceLeDiff, Nat.reduceLT, Int.reduceLE, Int.reduceLT, reduceCtorEq]
    exact Kv.Fin.still ⟨by rw [hv, if_neg (by simp [h1]), map_um], rfl⟩
end Go.Proofs.Ytkljidghocnllaa
