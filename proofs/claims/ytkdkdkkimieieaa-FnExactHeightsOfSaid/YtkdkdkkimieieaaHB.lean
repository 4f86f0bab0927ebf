/- Heights and basins: both sides, and the laws' functions. -/
import Derived.Test.YtkdkdkkimieieaaHBc
import Derived.Test.YtkdkdkkimieieaaMI
namespace Go.Proofs.Ytkdkdkkimieieaa
open Go.Kv
set_option linter.unusedVariables false
set_option linter.unusedSimpArgs false
attribute [local irreducible] ACall PCall KL
def htl (f : List Nat) (n x : Nat) : List Int := (List.range x).map fun p => (hgt f n p : Int)
@[simp] theorem htl_length (f : List Nat) (n x : Nat) : (htl f n x).length = x := by simp [htl]
theorem htl_succ (f : List Nat) (n x : Nat) : htl f n x ++ [(hgt f n x : Int)] = htl f n (x + 1) := by simp [htl, List.range_succ]
theorem p38_in (f : List Nat) (n : Nat) (hf : Ok f n) : NewI Try.prog 38 [.agg (ints (mp f))] 2 (htl f n n) 0 := by
  have hlf := hf.mp_len
  have h1 := hf.pos
  have h5 := hf.le
  refine NewI.mk (n - 1) [] [] ?_
  refine e38 (by simp) fun _ _ => ?_
  simp only [k38, argEnv, hlf, mpN_get, mpN_get0, mp_get, mp_get0, take6, List.drop_zero, go_sem, ↓reduceIte, Nat.reduceEqDiff, Nat.reduceAdd, Nat.reduceMul, Nat.reduceLeDiff, Nat.reduceLT, Int.reduceLE, Int.reduceLT, reduceCtorEq]
  refine (p68 (mp f) hlf).go ?_
  rw [isM_mp hf]
  simp only [hlf, hf.len, mpN_get, mpN_get0, mp_get, mp_get0, take6, List.drop_zero, go_sem, ↓reduceIte, Nat.reduceEqDiff, Nat.reduceAdd, Nat.reduceMul, Nat.reduceLeDiff, Nat.reduceLT, Int.reduceLE, Int.reduceLT, reduceCtorEq]
  refine KL_ind k38_b0.eq_1 (fun x : Nat => [(1, .fptr (ints (mp f)) 0), (4, nref 0 x), (12, .int .i64 n), (13, .int .i64 x)]) (fun x => nhp [.arr (x - 1) 2 1 (ints (htl f n x))] x) (fun x => x ≤ n) (fun x => n - x) [1, 4, 12, 13] 0 (by rfl) (by rfl) (Nat.zero_le _) fun x hx ih => ?_
  simp only [hlf, mpN_get, mpN_get0, mp_get, mp_get0, take6, List.drop_zero, go_sem, ↓reduceIte, Nat.reduceEqDiff, Nat.reduceAdd, Nat.reduceMul, Nat.reduceLeDiff, Nat.reduceLT, Int.reduceLE, Int.reduceLT, reduceCtorEq]
  refine ⟨fun h2 => ?_, fun h2 => ?_⟩
  · refine (p81 f n x hf (by omega)).go ?_
    rcases x with _ | x
    · simp only [mpN_get, mpN_get0, mp_get, mp_get0, take6, List.drop_zero, go_sem, ↓reduceIte, Nat.reduceEqDiff, Nat.reduceAdd, Nat.reduceMul, Nat.reduceLeDiff, Nat.reduceLT, Int.reduceLE, Int.reduceLT, reduceCtorEq]
      repeat' (first | refine And.intro ?_ ?_ | intro _)
      all_goals (try omega)
      exact ih 1 (by omega) (by omega) _ _ (by rfl) (by rfl)
    · have hl := htl_length f n (x + 1)
      simp only [hl, mpN_get, mpN_get0, mp_get, mp_get0, take6, List.drop_zero, go_sem, ↓reduceIte, Nat.reduceEqDiff, Nat.reduceAdd, Nat.reduceMul, Nat.reduceLeDiff, Nat.reduceLT, Int.reduceLE, Int.reduceLT, reduceCtorEq]
      repeat' (first | refine And.intro ?_ ?_ | intro _)
      all_goals (try omega)
      refine ih (x + 1 + 1) (by omega) (by omega) _ _ (by rfl) ?_
      rw [List.take_of_length_le (by simp), htl_succ]
      rfl
  · obtain rfl : x = n := by omega
    rw [nref_pos (by omega), nhp_pos (by omega)]
    refine Kv.Fin.now ⟨?_, ?_⟩ <;> simp
theorem p37_in (f : List Nat) (n : Nat) (hf : Ok f n) : NewI Try.prog 37 [.agg (ints (mp f))] 2 (htl f n n) 0 := by
  have hlf := hf.mp_len
  have h1 := hf.pos
  have h5 := hf.le
  have hi := itM_ok hf 60
  have hli := hi.mp_len
  have hb : sb (itM f n 60) < 2 ^ 62 := Nat.lt_trans (sb_lt (n := 5) fun y hy => by have := hi.lt y hy; omega) (by decide)
  refine NewI.mk n [] [] ?_
  refine e37 (by simp) fun _ _ => ?_
  simp only [k37, argEnv, hlf, mpN_get, mpN_get0, mp_get, mp_get0, take6, List.drop_zero, go_sem, ↓reduceIte, Nat.reduceEqDiff, Nat.reduceAdd, Nat.reduceMul, Nat.reduceLeDiff, Nat.reduceLT, Int.reduceLE, Int.reduceLT, reduceCtorEq]
  refine (p64 (mp f) hlf).go ?_
  rw [isM_mp hf]
  simp only [hlf, hf.len, mpN_get, mpN_get0, mp_get, mp_get0, take6, List.drop_zero, go_sem, ↓reduceIte, Nat.reduceEqDiff, Nat.reduceAdd, Nat.reduceMul, Nat.reduceLeDiff, Nat.reduceLT, Int.reduceLE, Int.reduceLT, reduceCtorEq]
  refine (p80 f n 60 hf (by omega)).go ?_
  simp only [hli, mpN_get, mpN_get0, mp_get, mp_get0, take6, List.drop_zero, go_sem, ↓reduceIte, Nat.reduceEqDiff, Nat.reduceAdd, Nat.reduceMul, Nat.reduceLeDiff, Nat.reduceLT, Int.reduceLE, Int.reduceLT, reduceCtorEq]
  refine (p79 _ n hi).go ?_
  simp only [mpN_get, mpN_get0, mp_get, mp_get0, take6, List.drop_zero, go_sem, ↓reduceIte, Nat.reduceEqDiff, Nat.reduceAdd, Nat.reduceMul, Nat.reduceLeDiff, Nat.reduceLT, Int.reduceLE, Int.reduceLT, reduceCtorEq]
  refine KL_ind k37_b1.eq_1 (fun x : Nat => [(1, .fptr (ints (mp f)) 0), (4, .int .i64 (sb (itM f n 60))), (5, .ref 0 x 0 x), (6, .int .i64 x)]) (fun x => [.arr x 2 1 (ints (htl f n x))]) (fun x => x ≤ n) (fun x => n - x) [1, 4, 5, 6] 0 (by rfl) (by rfl) (Nat.zero_le _) fun x hx ih => ?_
  simp only [hlf, hf.len, mpN_get, mpN_get0, mp_get, mp_get0, take6, List.drop_zero, go_sem, ↓reduceIte, Nat.reduceEqDiff, Nat.reduceAdd, Nat.reduceMul, Nat.reduceLeDiff, Nat.reduceLT, Int.reduceLE, Int.reduceLT, reduceCtorEq]
  refine ⟨fun h2 => ?_, fun h2 => ?_⟩
  · have hp : x < n := by omega
    refine KL_ind k37_b0.eq_1 (fun y : Nat => [(1, .fptr (ints (mp f)) 0), (4, .int .i64 (sb (itM f n 60))), (5, .ref 0 x 0 x), (6, .int .i64 x), (7, .int .i64 y), (8, .int .i64 (it f y x))]) (fun _ => [.arr x 2 1 (ints (htl f n x))]) (fun y => y ≤ 60 ∧ ∀ j, j < y → cyc f n (it f j x) = false) (fun y => 60 - y) [1, 4, 5, 6, 7, 8] 0 (by rfl) (by rfl) ⟨Nat.zero_le _, fun j h => by omega⟩ fun y ⟨hy, hno⟩ ihy => ?_
    have hq := it_lt hf hp y
    have ht : (sb (itM f n 60)).testBit (it f y x) = cyc f n (it f y x) := by
      rw [sb_test]
      cases hc : cyc f n (it f y x) with
      | true => exact decide_eq_true ((cyc_image hf hq).1 hc)
      | false => exact decide_eq_false fun h => by rw [(cyc_image hf hq).2 h] at hc; cases hc
    simp only [hlf, aConv_u64 (show it f y x ≤ 61 by omega), aBin_shr (show it f y x ≤ 63 by omega), aBin_and1 (shr_le hb), bit_zero, ht, mpN_get, mpN_get0, mp_get, mp_get0, take6, List.drop_zero, go_sem, ↓reduceIte, Nat.reduceEqDiff, Nat.reduceAdd, Nat.reduceMul, Nat.reduceLeDiff, Nat.reduceLT, Int.reduceLE, Int.reduceLT, reduceCtorEq]
    refine ⟨fun h3 => ?_, fun h3 => ?_⟩
    · have hx2 : y + 1 < n := by
        refine Decidable.byContradiction fun hn => ?_
        have := cyc_late hf hp (k := y) (by omega)
        rw [this] at h3; cases h3
      repeat' (first | refine And.intro ?_ ?_ | intro _)
      all_goals (try omega)
      refine ihy (y + 1) ⟨by omega, fun j hj => ?_⟩ (by omega) _ _ (by rfl) rfl
      by_cases e : j = y
      · subst e; exact h3
      · exact hno j (by omega)
    · have e := hgt_eq hy (by simpa using h3) hno
      have hl := htl_length f n x
      simp only [hl, mpN_get, mpN_get0, mp_get, mp_get0, take6, List.drop_zero, go_sem, ↓reduceIte, Nat.reduceEqDiff, Nat.reduceAdd, Nat.reduceMul, Nat.reduceLeDiff, Nat.reduceLT, Int.reduceLE, Int.reduceLT, reduceCtorEq]
      repeat' (first | refine And.intro ?_ ?_ | intro _)
      all_goals (try omega)
      refine ih (x + 1) (by omega) (by omega) _ _ (by rfl) ?_
      rw [List.take_of_length_le (by simp), ← e, htl_succ]
  · obtain rfl : x = n := by omega
    refine Kv.Fin.now ⟨?_, ?_⟩ <;> simp
def bsl (f : List Nat) (n x : Nat) : List Int := (List.range x).map fun p => (mino f (it f (hgt f n p) p) : Int)
@[simp] theorem bsl_length (f : List Nat) (n x : Nat) : (bsl f n x).length = x := by simp [bsl]
theorem bsl_succ (f : List Nat) (n x : Nat) : bsl f n x ++ [(mino f (it f (hgt f n x) x) : Int)] = bsl f n (x + 1) := by simp [bsl, List.range_succ]
theorem hgt_spec {f : List Nat} {n p : Nat} (hf : Ok f n) (hp : p < n) : hgt f n p ≤ 60 ∧ cyc f n (it f (hgt f n p) p) = true := by
  have hlt : hgt f n p < (List.range 61).length := by
    rw [hgt, List.findIdx_lt_length]
    exact ⟨60, by simp, cyc_late hf hp (by have := hf.le; omega)⟩
  refine ⟨by simp at hlt; omega, ?_⟩
  have := List.findIdx_getElem (w := hlt)
  have e : (List.range 61)[hgt f n p]'hlt = hgt f n p := List.getElem_range _
  unfold hgt at e ⊢
  rw [e] at this
  exact this
theorem p40_in (f : List Nat) (n : Nat) (hf : Ok f n) : NewI Try.prog 40 [.agg (ints (mp f))] 2 (bsl f n n) 0 := by
  have hlf := hf.mp_len
  have h1 := hf.pos
  have h5 := hf.le
  refine NewI.mk (n - 1) [] [] ?_
  refine e40 (by simp) fun _ _ => ?_
  simp only [k40, argEnv, hlf, mpN_get, mpN_get0, mp_get, mp_get0, take6, List.drop_zero, go_sem, ↓reduceIte, Nat.reduceEqDiff, Nat.reduceAdd, Nat.reduceMul, Nat.reduceLeDiff, Nat.reduceLT, Int.reduceLE, Int.reduceLT, reduceCtorEq]
  refine (p68 (mp f) hlf).go ?_
  rw [isM_mp hf]
  simp only [hlf, hf.len, mpN_get, mpN_get0, mp_get, mp_get0, take6, List.drop_zero, go_sem, ↓reduceIte, Nat.reduceEqDiff, Nat.reduceAdd, Nat.reduceMul, Nat.reduceLeDiff, Nat.reduceLT, Int.reduceLE, Int.reduceLT, reduceCtorEq]
  refine KL_ind k40_b0.eq_1 (fun x : Nat => [(1, .fptr (ints (mp f)) 0), (4, nref 0 x), (12, .int .i64 n), (13, .int .i64 x)]) (fun x => nhp [.arr (x - 1) 2 1 (ints (bsl f n x))] x) (fun x => x ≤ n) (fun x => n - x) [1, 4, 12, 13] 0 (by rfl) (by rfl) (Nat.zero_le _) fun x hx ih => ?_
  simp only [hlf, mpN_get, mpN_get0, mp_get, mp_get0, take6, List.drop_zero, go_sem, ↓reduceIte, Nat.reduceEqDiff, Nat.reduceAdd, Nat.reduceMul, Nat.reduceLeDiff, Nat.reduceLT, Int.reduceLE, Int.reduceLT, reduceCtorEq]
  refine ⟨fun h2 => ?_, fun h2 => ?_⟩
  · have hp : x < n := by omega
    obtain ⟨hh, hc⟩ := hgt_spec hf hp
    refine (p81 f n x hf (by omega)).go ?_
    simp only [hlf, mpN_get, mpN_get0, mp_get, mp_get0, take6, List.drop_zero, go_sem, ↓reduceIte, Nat.reduceEqDiff, Nat.reduceAdd, Nat.reduceMul, Nat.reduceLeDiff, Nat.reduceLT, Int.reduceLE, Int.reduceLT, reduceCtorEq]
    refine (p84 f n _ hf (it_lt hf hp _) hc).go fun v s ⟨⟨m, hm, hr, hv⟩, hs⟩ => ?_
    subst hv; subst hs
    rw [Still.rn]
    simp only [mpN_get, mpN_get0, mp_get, mp_get0, take6, List.drop_zero, go_sem, ↓reduceIte, Nat.reduceEqDiff, Nat.reduceAdd, Nat.reduceMul, Nat.reduceLeDiff, Nat.reduceLT, Int.reduceLE, Int.reduceLT, reduceCtorEq]
    refine (p83 _ (by simp) (by simp; omega)).go ?_
    have e : mnl (its f (it f (hgt f n x) x) (m + 1)) ((its f (it f (hgt f n x) x) (m + 1)).length - 1) = (mino f (it f (hgt f n x) x) : Int) := by
      rw [its_length, mnl_its f _ _ _ (by omega), Nat.add_sub_cancel, mino_eq hf hc (lo_round hr)]
    rw [e]
    rcases x with _ | x
    · simp only [mpN_get, mpN_get0, mp_get, mp_get0, take6, List.drop_zero, go_sem, ↓reduceIte, Nat.reduceEqDiff, Nat.reduceAdd, Nat.reduceMul, Nat.reduceLeDiff, Nat.reduceLT, Int.reduceLE, Int.reduceLT, reduceCtorEq]
      repeat' (first | refine And.intro ?_ ?_ | intro _)
      all_goals (try omega)
      exact ih 1 (by omega) (by omega) _ _ (by rfl) (by rfl)
    · have hl := bsl_length f n (x + 1)
      simp only [hl, mpN_get, mpN_get0, mp_get, mp_get0, take6, List.drop_zero, go_sem, ↓reduceIte, Nat.reduceEqDiff, Nat.reduceAdd, Nat.reduceMul, Nat.reduceLeDiff, Nat.reduceLT, Int.reduceLE, Int.reduceLT, reduceCtorEq]
      repeat' (first | refine And.intro ?_ ?_ | intro _)
      all_goals (try omega)
      refine ih (x + 1 + 1) (by omega) (by omega) _ _ (by rfl) ?_
      rw [List.take_of_length_le (by simp), bsl_succ]
      rfl
  · obtain rfl : x = n := by omega
    rw [nref_pos (by omega), nhp_pos (by omega)]
    refine Kv.Fin.now ⟨?_, ?_⟩ <;> simp
theorem lo_60 {f : List Nat} {n p : Nat} (hf : Ok f n) (hp : p < n) : ∀ m, it f (m + 1) (it f 60 p) = it f 60 p → lo f (it f 60 p) m = mino f (it f (hgt f n p) p) := fun m hm => by
  obtain ⟨hh, hc⟩ := hgt_spec hf hp
  obtain ⟨r, hr⟩ : ∃ r, 60 = hgt f n p + r := ⟨60 - hgt f n p, by omega⟩
  have h1 := lo_round hm
  have e : it f 60 p = it f r (it f (hgt f n p) p) := by rw [← it_add, ← hr]
  rw [e] at h1 ⊢
  exact mino_eq hf hc (h1.move hc)
theorem p82 (f : List Nat) (n : Nat) (hf : Ok f n) : ACall Try.prog 82 [.agg (ints (mp f))] [] (fun v s => v = .ref 0 n 0 n ∧ s = [.arr n 2 1 (ints (bsl f n n))]) := by
  have hlf := hf.mp_len
  have h1 := hf.pos
  have h5 := hf.le
  have hi := itM_ok hf 60
  have hli := hi.mp_len
  refine e82 (by simp) fun _ _ => ?_
  simp only [k82, argEnv, hlf, mpN_get, mpN_get0, mp_get, mp_get0, take6, List.drop_zero, go_sem, ↓reduceIte, Nat.reduceEqDiff, Nat.reduceAdd, Nat.reduceMul, Nat.reduceLeDiff, Nat.reduceLT, Int.reduceLE, Int.reduceLT, reduceCtorEq]
  refine KL_ind k82_b1.eq_1 (fun x : Nat => [(1, .fptr (ints (mp f)) 0), (3, .ref 0 x 0 x), (4, .int .i64 x)]) (fun x => [.arr x 2 1 (ints (bsl f n x))]) (fun x => x ≤ n) (fun x => n - x) [1, 3, 4] 0 (by rfl) (by rfl) (Nat.zero_le _) fun x hx ih => ?_
  simp only [hlf, hf.len, mpN_get, mpN_get0, mp_get, mp_get0, take6, List.drop_zero, go_sem, ↓reduceIte, Nat.reduceEqDiff, Nat.reduceAdd, Nat.reduceMul, Nat.reduceLeDiff, Nat.reduceLT, Int.reduceLE, Int.reduceLT, reduceCtorEq]
  refine ⟨fun h2 => ?_, fun h2 => ?_⟩
  · have hp : x < n := by omega
    refine (p80 f n 60 hf (by omega)).go ?_
    have hg : (List.take 5 (List.drop 1 (mp (itM f n 60)))).getD x 0 = (it f 60 x : Int) := by
      have : (List.take 5 (List.drop 1 (mp (itM f n 60)))).getD x 0 = (mp (itM f n 60)).getD (x + 1) 0 := by
        simp [List.getD_eq_getElem?_getD, List.getElem?_take, show x < 5 by omega, Nat.add_comm]
      rw [this, mp_get, itM_get hp]
    have hl5 : (List.take 5 (List.drop 1 (mp (itM f n 60)))).length = 5 := by simp [hli]
    have hq := it_lt hf hp 60
    have hcy : cyc f n (it f 60 x) = true := cyc_late hf hp (by omega)
    simp only [hli, hl5, hg, hlf, mpN_get, mpN_get0, mp_get, mp_get0, take6, List.drop_zero, go_sem, ↓reduceIte, Nat.reduceEqDiff, Nat.reduceAdd, Nat.reduceMul, Nat.reduceLeDiff, Nat.reduceLT, Int.reduceLE, Int.reduceLT, reduceCtorEq]
    refine ⟨by omega, by omega, fun _ => ⟨by omega, by omega, fun _ => ?_⟩⟩
    refine KL_ind k82_b0.eq_1 (fun y : Nat => [(1, .fptr (ints (mp f)) 0), (3, .ref 0 x 0 x), (4, .int .i64 x), (5, .int .i64 (it f 60 x)), (6, .int .i64 (lo f (it f 60 x) y)), (7, .int .i64 (it f (y + 1) (it f 60 x)))]) (fun _ => [.arr x 2 1 (ints (bsl f n x))]) (fun y => y ≤ 59) (fun y => 60 - y) [1, 3, 4, 5, 6, 7] 0 (by rfl) (by rfl) (Nat.zero_le _) fun y hy ihy => ?_
    have hq2 := it_lt hf hq (y + 1)
    simp only [hlf, mpN_get, mpN_get0, mp_get, mp_get0, take6, List.drop_zero, go_sem, ↓reduceIte, Nat.reduceEqDiff, Nat.reduceAdd, Nat.reduceMul, Nat.reduceLeDiff, Nat.reduceLT, Int.reduceLE, Int.reduceLT, reduceCtorEq]
    refine ⟨fun h3 => ?_, fun h3 => ?_⟩
    · have hy2 : y < 59 := by
        refine Decidable.byContradiction fun hn => h3 ?_
        obtain rfl : y = 59 := by omega
        rw [cyc_60 hf hcy]
      have em : min (lo f (it f 60 x) y : Int) (it f (y + 1) (it f 60 x) : Int) = ((lo f (it f 60 x) (y + 1) : Nat) : Int) := by
        simp only [lo]; omega
      rw [em]
      repeat' (first | refine And.intro ?_ ?_ | intro _)
      all_goals (try omega)
      exact ihy (y + 1) (by omega) (by omega) _ _ (by rfl) rfl
    · have e := lo_60 hf hp y (by omega)
      rw [e]
      have hl := bsl_length f n x
      simp only [hl, mpN_get, mpN_get0, mp_get, mp_get0, take6, List.drop_zero, go_sem, ↓reduceIte, Nat.reduceEqDiff, Nat.reduceAdd, Nat.reduceMul, Nat.reduceLeDiff, Nat.reduceLT, Int.reduceLE, Int.reduceLT, reduceCtorEq]
      repeat' (first | refine And.intro ?_ ?_ | intro _)
      all_goals (try omega)
      refine ih (x + 1) (by omega) (by omega) _ _ (by rfl) ?_
      rw [List.take_of_length_le (by simp), bsl_succ]
  · obtain rfl : x = n := by omega
    exact Kv.Fin.now ⟨rfl, rfl⟩
theorem p39_in (f : List Nat) (n : Nat) (hf : Ok f n) : NewI Try.prog 39 [.agg (ints (mp f))] 2 (bsl f n n) 0 := by
  have hlf := hf.mp_len
  refine NewI.mk n [] [] ?_
  refine e39 (by simp) fun _ _ => ?_
  simp only [k39, argEnv, hlf, mpN_get, mpN_get0, mp_get, mp_get0, take6, List.drop_zero, go_sem, ↓reduceIte, Nat.reduceEqDiff, Nat.reduceAdd, Nat.reduceMul, Nat.reduceLeDiff, Nat.reduceLT, Int.reduceLE, Int.reduceLT, reduceCtorEq]
  refine (p64 (mp f) hlf).go ?_
  rw [isM_mp hf]
  simp only [hlf, hf.len, mpN_get, mpN_get0, mp_get, mp_get0, take6, List.drop_zero, go_sem, ↓reduceIte, Nat.reduceEqDiff, Nat.reduceAdd, Nat.reduceMul, Nat.reduceLeDiff, Nat.reduceLT, Int.reduceLE, Int.reduceLT, reduceCtorEq]
  refine (p82 f n hf).go fun v s ⟨hv, hs⟩ => ?_
  subst hv; subst hs
  simp only [ren_ref, mpN_get, mpN_get0, mp_get, mp_get0, take6, List.drop_zero, go_sem, ↓reduceIte, Nat.reduceEqDiff, Nat.reduceAdd, Nat.reduceMul, Nat.reduceLeDiff, Nat.reduceLT, Int.reduceLE, Int.reduceLT, reduceCtorEq]
  refine Kv.Fin.now ⟨?_, ?_⟩ <;> simp
theorem p38_out (m : List Int) (h : m.length = 6) (hm : isM m = false) : Pure Try.prog 38 [.agg (ints m)] (.tup [.nils, .int .i64 1]) := by
  refine e38 (by simp) fun _ _ => ?_
  simp only [k38, argEnv, h, mpN_get, mpN_get0, mp_get, mp_get0, take6, List.drop_zero, go_sem, ↓reduceIte, Nat.reduceEqDiff, Nat.reduceAdd, Nat.reduceMul, Nat.reduceLeDiff, Nat.reduceLT, Int.reduceLE, Int.reduceLT, reduceCtorEq]
  refine (p68 m h).go ?_
  rw [hm]
  simp only [mpN_get, mpN_get0, mp_get, mp_get0, take6, List.drop_zero, go_sem, ↓reduceIte, Nat.reduceEqDiff, Nat.reduceAdd, Nat.reduceMul, Nat.reduceLeDiff, Nat.reduceLT, Int.reduceLE, Int.reduceLT, reduceCtorEq]
  exact Kv.Fin.still ⟨rfl, rfl⟩
theorem p37_out (m : List Int) (h : m.length = 6) (hm : isM m = false) : Pure Try.prog 37 [.agg (ints m)] (.tup [.nils, .int .i64 1]) := by
  refine e37 (by simp) fun _ _ => ?_
  simp only [k37, argEnv, h, mpN_get, mpN_get0, mp_get, mp_get0, take6, List.drop_zero, go_sem, ↓reduceIte, Nat.reduceEqDiff, Nat.reduceAdd, Nat.reduceMul, Nat.reduceLeDiff, Nat.reduceLT, Int.reduceLE, Int.reduceLT, reduceCtorEq]
  refine (p64 m h).go ?_
  rw [hm]
  simp only [mpN_get, mpN_get0, mp_get, mp_get0, take6, List.drop_zero, go_sem, ↓reduceIte, Nat.reduceEqDiff, Nat.reduceAdd, Nat.reduceMul, Nat.reduceLeDiff, Nat.reduceLT, Int.reduceLE, Int.reduceLT, reduceCtorEq]
  exact Kv.Fin.still ⟨rfl, rfl⟩
theorem p40_out (m : List Int) (h : m.length = 6) (hm : isM m = false) : Pure Try.prog 40 [.agg (ints m)] (.tup [.nils, .int .i64 1]) := by
  refine e40 (by simp) fun _ _ => ?_
  simp only [k40, argEnv, h, mpN_get, mpN_get0, mp_get, mp_get0, take6, List.drop_zero, go_sem, ↓reduceIte, Nat.reduceEqDiff, Nat.reduceAdd, Nat.reduceMul, Nat.reduceLeDiff, Nat.reduceLT, Int.reduceLE, Int.reduceLT, reduceCtorEq]
  refine (p68 m h).go ?_
  rw [hm]
  simp only [mpN_get, mpN_get0, mp_get, mp_get0, take6, List.drop_zero, go_sem, ↓reduceIte, Nat.reduceEqDiff, Nat.reduceAdd, Nat.reduceMul, Nat.reduceLeDiff, Nat.reduceLT, Int.reduceLE, Int.reduceLT, reduceCtorEq]
  exact Kv.Fin.still ⟨rfl, rfl⟩
theorem p39_out (m : List Int) (h : m.length = 6) (hm : isM m = false) : Pure Try.prog 39 [.agg (ints m)] (.tup [.nils, .int .i64 1]) := by
  refine e39 (by simp) fun _ _ => ?_
  simp only [k39, argEnv, h, mpN_get, mpN_get0, mp_get, mp_get0, take6, List.drop_zero, go_sem, ↓reduceIte, Nat.reduceEqDiff, Nat.reduceAdd, Nat.reduceMul, Nat.reduceLeDiff, Nat.reduceLT, Int.reduceLE, Int.reduceLT, reduceCtorEq]
  refine (p64 m h).go ?_
  rw [hm]
  simp only [mpN_get, mpN_get0, mp_get, mp_get0, take6, List.drop_zero, go_sem, ↓reduceIte, Nat.reduceEqDiff, Nat.reduceAdd, Nat.reduceMul, Nat.reduceLeDiff, Nat.reduceLT, Int.reduceLE, Int.reduceLT, reduceCtorEq]
  exact Kv.Fin.still ⟨rfl, rfl⟩
end Go.Proofs.Ytkdkdkkimieieaa
