/- Roots of maps: both sides. -/
import Derived.Test.YtkljidghocnllaaRTc
import Derived.Test.YtkljidghocnllaaMI
import Derived.Test.YtkljidghocnllaaMB
import Derived.Test.YtkljidghocnllaaCC
namespace Go.Proofs.Ytkljidghocnllaa
open Go.Kv
set_option linter.unusedVariables false
set_option linter.unusedSimpArgs false
attribute [local irreducible] ACall PCall KL
theorem p78 (n : Nat) (h1 : 1 ≤ n) (h5 : n ≤ 5) : Pure Try.prog 78 [.int .i64 n] (.agg (ints (mp (List.range n)))) := by
  refine e78 (by simp) fun _ _ => ?_
  simp only [k78, argEnv, take6, List.drop_zero, Int.cast_ofNat_Int, go_sem, ↓reduceIte, Nat.reduceEqDiff, Nat.reduceAdd, Nat.reduceMul, Nat.reduceLeDiff, Nat.reduceLT, Int.reduceLE, Int.reduceLT, reduceCtorEq]
  refine KL_ind k78_b0.eq_1 (fun x : Nat => [(2, .ptr 0 0), (3, .ptr 1 0), (7, .int .i64 n), (8, .int .i64 x)]) (fun x => [.box (ints [0, 0, 0, 0, 0, 0]), .box (ints (mpN n (List.range x)))]) (fun x => x ≤ n) (fun x => n - x) [2, 3, 7, 8] 0 (by rfl) (by rfl) (Nat.zero_le _) fun x hi ih => ?_
  have hl : (mpN n (List.range x)).length = 6 := mpN_length (by simp; omega)
  try simp only [hl, take6, List.drop_zero, Int.cast_ofNat_Int, go_sem, ↓reduceIte, Nat.reduceEqDiff, Nat.reduceAdd, Nat.reduceMul, Nat.reduceLeDiff, Nat.reduceLT, Int.reduceLE, Int.reduceLT, reduceCtorEq]
  refine ⟨fun h => ?_, fun h => ?_⟩
  · repeat' (first | refine And.intro ?_ ?_ | intro _)
    all_goals (try omega)
    refine ih (x + 1) (by omega) (by omega) _ _ (by rfl) ?_
    rw [mpN_pushI (by simp) (by simp; omega), ← List.range_succ]
  · obtain rfl : x = n := by omega
    refine Kv.Fin.still ⟨?_, rfl⟩
    simp [mp]
theorem p107 (f : List Nat) (n k : Nat) (hf : Ok f n) (hk : k ≤ 1000000000000) : Pure Try.prog 107 [.agg (ints (mp f)), .int .i64 k] (.agg (ints (mp (itM f n k)))) := by
  have hlf := hf.mp_len
  have hli := (Ok.idn hf.pos hf.le).mp_len
  refine e107 (by simp) fun _ _ => ?_
  simp only [k107, argEnv, hlf, hf.len, take6, List.drop_zero, Int.cast_ofNat_Int, go_sem, ↓reduceIte, Nat.reduceEqDiff, Nat.reduceAdd, Nat.reduceMul, Nat.reduceLeDiff, Nat.reduceLT, Int.reduceLE, Int.reduceLT, reduceCtorEq]
  refine (p78 n hf.pos hf.le).go ?_
  try simp only [hli, take6, List.drop_zero, Int.cast_ofNat_Int, go_sem, ↓reduceIte, Nat.reduceEqDiff, Nat.reduceAdd, Nat.reduceMul, Nat.reduceLeDiff, Nat.reduceLT, Int.reduceLE, Int.reduceLT, reduceCtorEq]
  refine KL_ind k107_b0.eq_1 (fun x : Nat × Nat × Nat => [(1, .int .i64 x.1), (2, .ptr 0 0), (4, .ptr 1 0), (5, .ptr 2 0)]) (fun x => [.box (ints (mp (itM f n x.2.2))), .box (ints [0, 0, 0, 0, 0, 0]), .box (ints (mp (itM f n x.2.1)))]) (fun x => x.1 ≤ 1000000000000 ∧ x.2.1 + x.2.2 * x.1 = k) (fun x => x.1) [1, 2, 4, 5] (k, 0, 1) (by rfl) (by rw [itM_zero, itM_one hf]; rfl) ⟨hk, by simp⟩ fun ⟨x, a, b⟩ ⟨hx, hab⟩ ih => ?_
  simp only at hx hab
  have hla := (itM_ok hf a).mp_len
  have hlb := (itM_ok hf b).mp_len
  have hlbb := (itM_ok hf (b + b)).mp_len
  have hlab := (itM_ok hf (a + b)).mp_len
  have h1 := p131 _ _ n (itM_ok hf b) (itM_ok hf b)
  have h2 := p131 _ _ n (itM_ok hf a) (itM_ok hf b)
  rw [itM_mul hf] at h1 h2
  try simp only [hla, hlb, take6, List.drop_zero, Int.cast_ofNat_Int, go_sem, ↓reduceIte, Nat.reduceEqDiff, Nat.reduceAdd, Nat.reduceMul, Nat.reduceLeDiff, Nat.reduceLT, Int.reduceLE, Int.reduceLT, reduceCtorEq]
  refine ⟨fun h3 => ⟨fun h4 => ?_, fun h4 => ?_⟩, fun h3 => ?_⟩
  · refine h2.go ?_
    try simp only [hla, hlb, hlab, take6, List.drop_zero, Int.cast_ofNat_Int, go_sem, ↓reduceIte, Nat.reduceEqDiff, Nat.reduceAdd, Nat.reduceMul, Nat.reduceLeDiff, Nat.reduceLT, Int.reduceLE, Int.reduceLT, reduceCtorEq]
    refine h1.go ?_
    try simp only [hlb, hlbb, take6, List.drop_zero, Int.cast_ofNat_Int, go_sem, ↓reduceIte, Nat.reduceEqDiff, Nat.reduceAdd, Nat.reduceMul, Nat.reduceLeDiff, Nat.reduceLT, Int.reduceLE, Int.reduceLT, reduceCtorEq]
    repeat' (first | refine And.intro ?_ ?_ | intro _)
    all_goals (try omega)
    refine ih (x / 2, a + b, b + b) ⟨by show x / 2 ≤ _; omega, ?_⟩ (by show x / 2 < x; omega) _ _ (by rfl) (by rfl)
    show a + b + (b + b) * (x / 2) = k
    have : x = 2 * (x / 2) + 1 := by omega
    rw [← hab]
    conv => rhs; rw [this]
    rw [Nat.mul_add, ← Nat.mul_assoc, Nat.mul_two, Nat.mul_one]
    generalize (b + b) * (x / 2) = z
    omega
  · refine h1.go ?_
    try simp only [hlb, hlbb, take6, List.drop_zero, Int.cast_ofNat_Int, go_sem, ↓reduceIte, Nat.reduceEqDiff, Nat.reduceAdd, Nat.reduceMul, Nat.reduceLeDiff, Nat.reduceLT, Int.reduceLE, Int.reduceLT, reduceCtorEq]
    repeat' (first | refine And.intro ?_ ?_ | intro _)
    all_goals (try omega)
    refine ih (x / 2, a, b + b) ⟨by show x / 2 ≤ _; omega, ?_⟩ (by show x / 2 < x; omega) _ _ (by rfl) (by rfl)
    show a + (b + b) * (x / 2) = k
    have : x = 2 * (x / 2) := by omega
    rw [← hab]
    conv => rhs; rw [this]
    rw [← Nat.mul_assoc, Nat.mul_two]
  · obtain rfl : x = 0 := by omega
    simp only [Nat.mul_zero, Nat.add_zero] at hab
    subst hab
    exact Kv.Fin.still ⟨rfl, rfl⟩
/-- The roots of a map. -/
def rts (f : List Nat) (n k : Nat) : List (List Nat) := (allM n).filter fun g => decide (itM g n k = f)
theorem mp_dec {f g : List Nat} : decide (mp f = mp g) = decide (f = g) := decide_eq_decide.2 ⟨mp_inj, fun h => by rw [h]⟩
theorem p106 (f g : List Nat) (n k : Nat) (hf : Ok f n) (hg : Ok g n) (hk : k ≤ 6) : Pure Try.prog 106 [.agg (ints (mp g)), .fptr [.int .i64 k] 0, .fptr (ints (mp f)) 0] (.bool (!decide (itM g n k = f))) := by
  have hlg := hg.mp_len
  have hlf := hf.mp_len
  have hli := (itM_ok hg k).mp_len
  refine e106 (by simp) fun _ _ => ?_
  simp only [k106, argEnv, hlf, hlg, take6, List.drop_zero, Int.cast_ofNat_Int, go_sem, ↓reduceIte, Nat.reduceEqDiff, Nat.reduceAdd, Nat.reduceMul, Nat.reduceLeDiff, Nat.reduceLT, Int.reduceLE, Int.reduceLT, reduceCtorEq]
  refine (p107 g n k hg (by omega)).pgo ?_
  try simp only [hlf, hli, take6, List.drop_zero, Int.cast_ofNat_Int, go_sem, ↓reduceIte, Nat.reduceEqDiff, Nat.reduceAdd, Nat.reduceMul, Nat.reduceLeDiff, Nat.reduceLT, Int.reduceLE, Int.reduceLT, reduceCtorEq]
  exact Kv.Fin.still ⟨by rw [mp_dec], rfl⟩
theorem p62 (f : List Nat) (n k : Nat) (hf : Ok f n) (h1 : 1 ≤ k) (h6 : k ≤ 6) : ACall Try.prog 62 [.agg (ints (mp f)), .int .i64 k] [] (fun v s => ∃ ver post, v = .tup [.ref 0 ver 0 (rts f n k).length, .int .i64 0] ∧ s = [.arr ver 27 6 (aggs ((rts f n k).map mp ++ post))]) := by
  have hlf := hf.mp_len
  have hnn := nn_le n (by have := hf.le; omega)
  have hin : (1 : Int) ≤ k ∧ (k : Int) ≤ 6 := by omega
  refine e62 (by simp) fun _ _ => ?_
  simp only [k62, argEnv, hlf, take6, List.drop_zero, Int.cast_ofNat_Int, go_sem, ↓reduceIte, Nat.reduceEqDiff, Nat.reduceAdd, Nat.reduceMul, Nat.reduceLeDiff, Nat.reduceLT, Int.reduceLE, Int.reduceLT, reduceCtorEq]
  refine (p77 (mp f) hlf).go ?_
  rw [isM_mp hf]
  try simp only [take6, List.drop_zero, Int.cast_ofNat_Int, go_sem, ↓reduceIte, Nat.reduceEqDiff, Nat.reduceAdd, Nat.reduceMul, Nat.reduceLeDiff, Nat.reduceLT, Int.reduceLE, Int.reduceLT, reduceCtorEq]
  refine (p103 k 1 6).go ?_
  try simp only [hin, hlf, hf.len, take6, List.drop_zero, Int.cast_ofNat_Int, go_sem, ↓reduceIte, Nat.reduceEqDiff, Nat.reduceAdd, Nat.reduceMul, Nat.reduceLeDiff, Nat.reduceLT, Int.reduceLE, Int.reduceLT, reduceCtorEq]
  refine (p105 n hf.pos hf.le).go fun v s ⟨hv, hs⟩ => ?_
  subst hv; subst hs
  try simp only [ren_ref, take6, List.drop_zero, Int.cast_ofNat_Int, go_sem, ↓reduceIte, Nat.reduceEqDiff, Nat.reduceAdd, Nat.reduceMul, Nat.reduceLeDiff, Nat.reduceLT, Int.reduceLE, Int.reduceLT, reduceCtorEq]
  have hml : (allM n).length = n ^ n := by simp [allM]
  refine delM _ 0 (n ^ n - 1) 27 (allM n) _ hml.symm rfl (fun g hg => by rw [(allM_ok hf.pos hf.le hg).len]; exact hf.le) (by omega) 106 [.fptr [.int .i64 k] 0, .fptr (ints (mp f)) 0] (fun g => !decide (itM g n k = f)) (fun g hg => p106 f g n k hf (allM_ok hf.pos hf.le hg) h6) fun post => ?_
  simp only [Bool.not_not]
  try simp only [take6, List.drop_zero, Int.cast_ofNat_Int, go_sem, ↓reduceIte, Nat.reduceEqDiff, Nat.reduceAdd, Nat.reduceMul, Nat.reduceLeDiff, Nat.reduceLT, Int.reduceLE, Int.reduceLT, reduceCtorEq]
  exact Kv.Fin.now ⟨n ^ n - 1, post, rfl, rfl⟩
theorem rts_le {f : List Nat} {n k : Nat} : (rts f n k).length ≤ n ^ n := by
  have h1 := List.length_filter_le (fun g => decide (itM g n k = f)) (allM n)
  have h2 : (allM n).length = n ^ n := by simp [allM]
  unfold rts; omega
theorem p17 (f : List Nat) (n k : Nat) (hf : Ok f n) (h1 : 1 ≤ k) (h6 : k ≤ 6) : Pure Try.prog 17 [.agg (ints (mp f)), .int .i64 k] (.tup [.int .i64 (rts f n k).length, .int .i64 0]) := by
  have hlf := hf.mp_len
  refine e17 (by simp) fun _ _ => ?_
  simp only [k17, argEnv, hlf, take6, List.drop_zero, Int.cast_ofNat_Int, go_sem, ↓reduceIte, Nat.reduceEqDiff, Nat.reduceAdd, Nat.reduceMul, Nat.reduceLeDiff, Nat.reduceLT, Int.reduceLE, Int.reduceLT, reduceCtorEq]
  refine (p62 f n k hf h1 h6).go fun v s ⟨ver, post, hv, hs⟩ => ?_
  subst hv; subst hs
  try simp only [ren_ref, take6, List.drop_zero, Int.cast_ofNat_Int, go_sem, ↓reduceIte, Nat.reduceEqDiff, Nat.reduceAdd, Nat.reduceMul, Nat.reduceLeDiff, Nat.reduceLT, Int.reduceLE, Int.reduceLT, reduceCtorEq]
  exact Kv.Fin.still ⟨rfl, rfl⟩
/-- The first root, or nothing. -/
def frt (f : List Nat) (n k : Nat) : List Int := match rts f n k with | [] => [0, 0, 0, 0, 0, 0] | g :: _ => mp g
def frtc (f : List Nat) (n k : Nat) : Int := match rts f n k with | [] => 4 | _ :: _ => 0
theorem p29 (f : List Nat) (n k : Nat) (hf : Ok f n) (h1 : 1 ≤ k) (h6 : k ≤ 6) : Pure Try.prog 29 [.agg (ints (mp f)), .int .i64 k] (.tup [.agg (ints (frt f n k)), .int .i64 (frtc f n k)]) := by
  have hlf := hf.mp_len
  refine e29 (by simp) fun _ _ => ?_
  simp only [k29, argEnv, hlf, take6, List.drop_zero, Int.cast_ofNat_Int, go_sem, ↓reduceIte, Nat.reduceEqDiff, Nat.reduceAdd, Nat.reduceMul, Nat.reduceLeDiff, Nat.reduceLT, Int.reduceLE, Int.reduceLT, reduceCtorEq]
  refine (p62 f n k hf h1 h6).go fun v s ⟨ver, post, hv, hs⟩ => ?_
  subst hv; subst hs
  try simp only [ren_ref, take6, List.drop_zero, Int.cast_ofNat_Int, go_sem, ↓reduceIte, Nat.reduceEqDiff, Nat.reduceAdd, Nat.reduceMul, Nat.reduceLeDiff, Nat.reduceLT, Int.reduceLE, Int.reduceLT, reduceCtorEq]
  cases hr : rts f n k with
  | nil =>
    try simp only [hr, take6, List.drop_zero, Int.cast_ofNat_Int, go_sem, ↓reduceIte, Nat.reduceEqDiff, Nat.reduceAdd, Nat.reduceMul, Nat.reduceLeDiff, Nat.reduceLT, Int.reduceLE, Int.reduceLT, reduceCtorEq]
    refine Kv.Fin.still ?_
    exact ⟨by simp only [frt, frtc, hr]; rfl, rfl⟩
  | cons g l =>
    have hg : g ∈ allM n := by
      have : g ∈ rts f n k := by rw [hr]; simp
      exact (List.mem_filter.1 this).1
    have hlg := (allM_ok hf.pos hf.le hg).mp_len
    have hne : ¬ ((l.length : Int) + 1 = 0) := by omega
    try simp only [hr, hlg, List.getD_cons_zero, List.length_map, take6, List.drop_zero, Int.cast_ofNat_Int, go_sem, ↓reduceIte, Nat.reduceEqDiff, Nat.reduceAdd, Nat.reduceMul, Nat.reduceLeDiff, Nat.reduceLT, Int.reduceLE, Int.reduceLT, reduceCtorEq]
    repeat' (first | refine And.intro ?_ ?_ | intro _)
    all_goals (try omega)
    exact Kv.Fin.still ⟨by simp only [frt, frtc, hr], rfl⟩
/-- What comes to pass where the map or the number is none. -/
def rtc (m : List Int) : Int := if isM m = true then 2 else 1
theorem p62_out (m : List Int) (h : m.length = 6) (k : Int) (hb : isM m = false ∨ ¬ (1 ≤ k ∧ k ≤ 6)) : Pure Try.prog 62 [.agg (ints m), .int .i64 k] (.tup [.nils, .int .i64 (rtc m)]) := by
  refine e62 (by simp) fun _ _ => ?_
  simp only [k62, argEnv, h, take6, List.drop_zero, Int.cast_ofNat_Int, go_sem, ↓reduceIte, Nat.reduceEqDiff, Nat.reduceAdd, Nat.reduceMul, Nat.reduceLeDiff, Nat.reduceLT, Int.reduceLE, Int.reduceLT, reduceCtorEq]
  refine (p77 m h).go ?_
  cases hm : isM m with
  | false =>
    try simp only [take6, List.drop_zero, Int.cast_ofNat_Int, go_sem, ↓reduceIte, Nat.reduceEqDiff, Nat.reduceAdd, Nat.reduceMul, Nat.reduceLeDiff, Nat.reduceLT, Int.reduceLE, Int.reduceLT, reduceCtorEq]
    exact Kv.Fin.still ⟨by simp [rtc, hm], rfl⟩
  | true =>
    have hk : ¬ (1 ≤ k ∧ k ≤ 6) := by simpa [hm] using hb
    try simp only [take6, List.drop_zero, Int.cast_ofNat_Int, go_sem, ↓reduceIte, Nat.reduceEqDiff, Nat.reduceAdd, Nat.reduceMul, Nat.reduceLeDiff, Nat.reduceLT, Int.reduceLE, Int.reduceLT, reduceCtorEq]
    refine (p103 k 1 6).go ?_
    try simp only [hk, take6, List.drop_zero, Int.cast_ofNat_Int, go_sem, ↓reduceIte, Nat.reduceEqDiff, Nat.reduceAdd, Nat.reduceMul, Nat.reduceLeDiff, Nat.reduceLT, Int.reduceLE, Int.reduceLT, reduceCtorEq]
    exact Kv.Fin.still ⟨by simp [rtc, hm], rfl⟩
theorem p58 (m : List Int) (h : m.length = 6) (k : Int) : Pure Try.prog 58 [.agg (ints m), .int .i64 k] (.int .i64 (if isM m = true ∧ (1 ≤ k ∧ k ≤ 6) then 0 else rtc m)) := by
  refine e58 (by simp) fun _ _ => ?_
  simp only [k58, argEnv, h, take6, List.drop_zero, Int.cast_ofNat_Int, go_sem, ↓reduceIte, Nat.reduceEqDiff, Nat.reduceAdd, Nat.reduceMul, Nat.reduceLeDiff, Nat.reduceLT, Int.reduceLE, Int.reduceLT, reduceCtorEq]
  refine (p97 m h).go ?_
  cases hm : isM m with
  | false =>
    try simp only [take6, List.drop_zero, Int.cast_ofNat_Int, go_sem, ↓reduceIte, Nat.reduceEqDiff, Nat.reduceAdd, Nat.reduceMul, Nat.reduceLeDiff, Nat.reduceLT, Int.reduceLE, Int.reduceLT, reduceCtorEq]
    exact Kv.Fin.still ⟨by simp [rtc, hm], rfl⟩
  | true =>
    try simp only [take6, List.drop_zero, Int.cast_ofNat_Int, go_sem, ↓reduceIte, Nat.reduceEqDiff, Nat.reduceAdd, Nat.reduceMul, Nat.reduceLeDiff, Nat.reduceLT, Int.reduceLE, Int.reduceLT, reduceCtorEq]
    refine (p102 k 1 6).go ?_
    try simp only [take6, List.drop_zero, Int.cast_ofNat_Int, go_sem, ↓reduceIte, Nat.reduceEqDiff, Nat.reduceAdd, Nat.reduceMul, Nat.reduceLeDiff, Nat.reduceLT, Int.reduceLE, Int.reduceLT, reduceCtorEq]
    refine ⟨fun h1 => Kv.Fin.still ⟨by simp [rtc, hm, h1], rfl⟩, fun h1 => Kv.Fin.still ⟨?_, rfl⟩⟩
    have h2 : (1 ≤ k ∧ k ≤ 6) := by simpa using h1
    simp [h2]
theorem p17_out (m : List Int) (h : m.length = 6) (k : Int) (hb : isM m = false ∨ ¬ (1 ≤ k ∧ k ≤ 6)) : Pure Try.prog 17 [.agg (ints m), .int .i64 k] (.tup [.int .i64 0, .int .i64 (rtc m)]) := by
  refine e17 (by simp) fun _ _ => ?_
  simp only [k17, argEnv, h, take6, List.drop_zero, Int.cast_ofNat_Int, go_sem, ↓reduceIte, Nat.reduceEqDiff, Nat.reduceAdd, Nat.reduceMul, Nat.reduceLeDiff, Nat.reduceLT, Int.reduceLE, Int.reduceLT, reduceCtorEq]
  refine (p62_out m h k hb).go ?_
  try simp only [take6, List.drop_zero, Int.cast_ofNat_Int, go_sem, ↓reduceIte, Nat.reduceEqDiff, Nat.reduceAdd, Nat.reduceMul, Nat.reduceLeDiff, Nat.reduceLT, Int.reduceLE, Int.reduceLT, reduceCtorEq]
  exact Kv.Fin.still ⟨rfl, rfl⟩
theorem rtc_ne (m : List Int) : ¬ rtc m = 0 := by unfold rtc; split <;> omega
theorem p29_out (m : List Int) (h : m.length = 6) (k : Int) (hb : isM m = false ∨ ¬ (1 ≤ k ∧ k ≤ 6)) : Pure Try.prog 29 [.agg (ints m), .int .i64 k] (.tup [.agg (ints [0, 0, 0, 0, 0, 0]), .int .i64 (rtc m)]) := by
  refine e29 (by simp) fun _ _ => ?_
  simp only [k29, argEnv, h, take6, List.drop_zero, Int.cast_ofNat_Int, go_sem, ↓reduceIte, Nat.reduceEqDiff, Nat.reduceAdd, Nat.reduceMul, Nat.reduceLeDiff, Nat.reduceLT, Int.reduceLE, Int.reduceLT, reduceCtorEq]
  refine (p62_out m h k hb).go ?_
  try simp only [rtc_ne m, take6, List.drop_zero, Int.cast_ofNat_Int, go_sem, ↓reduceIte, Nat.reduceEqDiff, Nat.reduceAdd, Nat.reduceMul, Nat.reduceLeDiff, Nat.reduceLT, Int.reduceLE, Int.reduceLT, reduceCtorEq]
  exact Kv.Fin.still ⟨rfl, rfl⟩
theorem not_both {m : List Int} {k : Int} (hb : isM m = false ∨ ¬ (1 ≤ k ∧ k ≤ 6)) : ¬ (isM m = true ∧ (1 ≤ k ∧ k ≤ 6)) := fun ⟨h1, h2⟩ => by
  rcases hb with hb | hb
  · rw [h1] at hb; cases hb
  · exact hb h2
theorem p15_out (m : List Int) (h : m.length = 6) (k : Int) (hb : isM m = false ∨ ¬ (1 ≤ k ∧ k ≤ 6)) : Pure Try.prog 15 [.agg (ints m), .int .i64 k] (.tup [.int .i64 0, .int .i64 (rtc m)]) := by
  refine e15 (by simp) fun _ _ => ?_
  simp only [k15, argEnv, h, take6, List.drop_zero, Int.cast_ofNat_Int, go_sem, ↓reduceIte, Nat.reduceEqDiff, Nat.reduceAdd, Nat.reduceMul, Nat.reduceLeDiff, Nat.reduceLT, Int.reduceLE, Int.reduceLT, reduceCtorEq]
  refine (p58 m h k).go ?_
  rw [if_neg (not_both hb)]
  try simp only [rtc_ne m, take6, List.drop_zero, Int.cast_ofNat_Int, go_sem, ↓reduceIte, Nat.reduceEqDiff, Nat.reduceAdd, Nat.reduceMul, Nat.reduceLeDiff, Nat.reduceLT, Int.reduceLE, Int.reduceLT, reduceCtorEq]
  exact Kv.Fin.still ⟨rfl, rfl⟩
theorem p28_out (m : List Int) (h : m.length = 6) (k : Int) (hb : isM m = false ∨ ¬ (1 ≤ k ∧ k ≤ 6)) : Pure Try.prog 28 [.agg (ints m), .int .i64 k] (.tup [.agg (ints [0, 0, 0, 0, 0, 0]), .int .i64 (rtc m)]) := by
  refine e28 (by simp) fun _ _ => ?_
  simp only [k28, argEnv, h, take6, List.drop_zero, Int.cast_ofNat_Int, go_sem, ↓reduceIte, Nat.reduceEqDiff, Nat.reduceAdd, Nat.reduceMul, Nat.reduceLeDiff, Nat.reduceLT, Int.reduceLE, Int.reduceLT, reduceCtorEq]
  refine (p58 m h k).go ?_
  rw [if_neg (not_both hb)]
  try simp only [rtc_ne m, take6, List.drop_zero, Int.cast_ofNat_Int, go_sem, ↓reduceIte, Nat.reduceEqDiff, Nat.reduceAdd, Nat.reduceMul, Nat.reduceLeDiff, Nat.reduceLT, Int.reduceLE, Int.reduceLT, reduceCtorEq]
  exact Kv.Fin.still ⟨rfl, rfl⟩
theorem p15 (f : List Nat) (n k : Nat) (hf : Ok f n) (h1 : 1 ≤ k) (h6 : k ≤ 6) : Pure Try.prog 15 [.agg (ints (mp f)), .int .i64 k] (.tup [.int .i64 (rts f n k).length, .int .i64 0]) := by
  have hlf := hf.mp_len
  have hnn := nn_le n (by have := hf.le; omega)
  have hin : isM (mp f) = true ∧ ((1 : Int) ≤ k ∧ (k : Int) ≤ 6) := ⟨isM_mp hf, by omega⟩
  refine e15 (by simp) fun _ _ => ?_
  simp only [k15, argEnv, hlf, take6, List.drop_zero, Int.cast_ofNat_Int, go_sem, ↓reduceIte, Nat.reduceEqDiff, Nat.reduceAdd, Nat.reduceMul, Nat.reduceLeDiff, Nat.reduceLT, Int.reduceLE, Int.reduceLT, reduceCtorEq]
  refine (p58 (mp f) hlf k).go ?_
  rw [if_pos hin]
  try simp only [hlf, hf.len, take6, List.drop_zero, Int.cast_ofNat_Int, go_sem, ↓reduceIte, Nat.reduceEqDiff, Nat.reduceAdd, Nat.reduceMul, Nat.reduceLeDiff, Nat.reduceLT, Int.reduceLE, Int.reduceLT, reduceCtorEq]
  refine (p59 n hf.pos hf.le).go ?_
  try simp only [take6, List.drop_zero, Int.cast_ofNat_Int, go_sem, ↓reduceIte, Nat.reduceEqDiff, Nat.reduceAdd, Nat.reduceMul, Nat.reduceLeDiff, Nat.reduceLT, Int.reduceLE, Int.reduceLT, reduceCtorEq]
  have hml : (allM n).length = n ^ n := by simp [allM]
  refine KL_ind k15_b0.eq_1 (fun x : Nat => [(1, .int .i64 k), (2, .fptr (ints (mp f)) 0), (7, .list (aggs ((allM n).map mp))), (8, .int .i64 (((allM n).take x).filter fun g => decide (itM g n k = f)).length), (9, .int .i64 x)]) (fun _ => []) (fun x => x ≤ n ^ n) (fun x => n ^ n - x) [1, 2, 7, 8, 9] 0 (by rfl) rfl (Nat.zero_le _) fun x hx ih => ?_
  try simp only [hlf, List.length_map, hml, take6, List.drop_zero, Int.cast_ofNat_Int, go_sem, ↓reduceIte, Nat.reduceEqDiff, Nat.reduceAdd, Nat.reduceMul, Nat.reduceLeDiff, Nat.reduceLT, Int.reduceLE, Int.reduceLT, reduceCtorEq]
  refine ⟨fun h1 => ⟨by omega, fun h2 => ?_⟩, fun h1 => ?_⟩
  · have hxl : x < (allM n).length := by omega
    have hg := allM_ok hf.pos hf.le (List.getElem_mem hxl)
    have e : ((allM n).map mp).getD x [] = mp (allM n)[x] := by simp [List.getD_eq_getElem?_getD, hxl]
    rw [e]
    have hlg := hg.mp_len
    try simp only [hlg, take6, List.drop_zero, Int.cast_ofNat_Int, go_sem, ↓reduceIte, Nat.reduceEqDiff, Nat.reduceAdd, Nat.reduceMul, Nat.reduceLeDiff, Nat.reduceLT, Int.reduceLE, Int.reduceLT, reduceCtorEq]
    refine (p60 _ n k hg (by omega)).pgo ?_
    have k1 := (itM_ok hg k).mp_len
    try simp only [k1, hlf, take6, List.drop_zero, Int.cast_ofNat_Int, go_sem, ↓reduceIte, Nat.reduceEqDiff, Nat.reduceAdd, Nat.reduceMul, Nat.reduceLeDiff, Nat.reduceLT, Int.reduceLE, Int.reduceLT, reduceCtorEq]
    have hs := filter_take_succ (p := fun g => decide (itM g n k = f)) hxl
    have hle : (((allM n).take x).filter fun g => decide (itM g n k = f)).length ≤ x := by
      have := List.length_filter_le (fun g => decide (itM g n k = f)) ((allM n).take x)
      simp only [List.length_take] at this; omega
    refine ⟨fun h3 => ?_, fun h3 => ?_⟩
    · rw [if_pos (decide_eq_true (mp_inj h3))] at hs
      repeat' (first | refine And.intro ?_ ?_ | intro _)
      all_goals (try omega)
      refine ih (x + 1) (by omega) (by omega) _ _ ?_ rfl
      simp [keep, hs]
    · have h4 : ¬ itM (allM n)[x] n k = f := fun h => h3 (by rw [h])
      rw [if_neg (by simpa using h4), List.append_nil] at hs
      repeat' (first | refine And.intro ?_ ?_ | intro _)
      all_goals (try omega)
      refine ih (x + 1) (by omega) (by omega) _ _ ?_ rfl
      simp [keep, hs]
  · obtain rfl : x = n ^ n := by omega
    refine Kv.Fin.still ⟨?_, rfl⟩
    rw [← hml, List.take_length]
    rfl
theorem p28 (f : List Nat) (n k : Nat) (hf : Ok f n) (h1 : 1 ≤ k) (h6 : k ≤ 6) : Pure Try.prog 28 [.agg (ints (mp f)), .int .i64 k] (.tup [.agg (ints (frt f n k)), .int .i64 (frtc f n k)]) := by
  have hlf := hf.mp_len
  have hnn := nn_le n (by have := hf.le; omega)
  have hin : isM (mp f) = true ∧ ((1 : Int) ≤ k ∧ (k : Int) ≤ 6) := ⟨isM_mp hf, by omega⟩
  refine e28 (by simp) fun _ _ => ?_
  simp only [k28, argEnv, hlf, take6, List.drop_zero, Int.cast_ofNat_Int, go_sem, ↓reduceIte, Nat.reduceEqDiff, Nat.reduceAdd, Nat.reduceMul, Nat.reduceLeDiff, Nat.reduceLT, Int.reduceLE, Int.reduceLT, reduceCtorEq]
  refine (p58 (mp f) hlf k).go ?_
  rw [if_pos hin]
  try simp only [hlf, hf.len, take6, List.drop_zero, Int.cast_ofNat_Int, go_sem, ↓reduceIte, Nat.reduceEqDiff, Nat.reduceAdd, Nat.reduceMul, Nat.reduceLeDiff, Nat.reduceLT, Int.reduceLE, Int.reduceLT, reduceCtorEq]
  refine (p59 n hf.pos hf.le).go ?_
  try simp only [take6, List.drop_zero, Int.cast_ofNat_Int, go_sem, ↓reduceIte, Nat.reduceEqDiff, Nat.reduceAdd, Nat.reduceMul, Nat.reduceLeDiff, Nat.reduceLT, Int.reduceLE, Int.reduceLT, reduceCtorEq]
  have hml : (allM n).length = n ^ n := by simp [allM]
  refine KL_ind k28_b0.eq_1 (fun x : Nat => [(1, .int .i64 k), (2, .fptr (ints (mp f)) 0), (4, .ptr 0 0), (7, .list (aggs ((allM n).map mp))), (8, .int .i64 x)]) (fun _ => [.box (ints [0, 0, 0, 0, 0, 0])]) (fun x => x ≤ n ^ n ∧ ((allM n).take x).filter (fun g => decide (itM g n k = f)) = []) (fun x => n ^ n - x) [1, 2, 4, 7, 8] 0 (by rfl) rfl ⟨Nat.zero_le _, rfl⟩ fun x ⟨hx, hno⟩ ih => ?_
  try simp only [hlf, List.length_map, hml, take6, List.drop_zero, Int.cast_ofNat_Int, go_sem, ↓reduceIte, Nat.reduceEqDiff, Nat.reduceAdd, Nat.reduceMul, Nat.reduceLeDiff, Nat.reduceLT, Int.reduceLE, Int.reduceLT, reduceCtorEq]
  refine ⟨fun h1 => ⟨by omega, fun h2 => ?_⟩, fun h1 => ?_⟩
  · have hxl : x < (allM n).length := by omega
    have hg := allM_ok hf.pos hf.le (List.getElem_mem hxl)
    have e : ((allM n).map mp).getD x [] = mp (allM n)[x] := by simp [List.getD_eq_getElem?_getD, hxl]
    rw [e]
    have hlg := hg.mp_len
    try simp only [hlg, take6, List.drop_zero, Int.cast_ofNat_Int, go_sem, ↓reduceIte, Nat.reduceEqDiff, Nat.reduceAdd, Nat.reduceMul, Nat.reduceLeDiff, Nat.reduceLT, Int.reduceLE, Int.reduceLT, reduceCtorEq]
    refine (p60 _ n k hg (by omega)).pgo ?_
    have k1 := (itM_ok hg k).mp_len
    try simp only [k1, hlf, hml, take6, List.drop_zero, Int.cast_ofNat_Int, go_sem, ↓reduceIte, Nat.reduceEqDiff, Nat.reduceAdd, Nat.reduceMul, Nat.reduceLeDiff, Nat.reduceLT, Int.reduceLE, Int.reduceLT, reduceCtorEq]
    have hs := filter_take_succ (p := fun g => decide (itM g n k = f)) hxl
    refine ⟨fun h3 => ?_, fun h3 => ?_⟩
    · rw [hno, if_pos (decide_eq_true (mp_inj h3)), List.nil_append] at hs
      have hr : rts f n k = (allM n)[x] :: ((allM n).drop (x + 1)).filter fun g => decide (itM g n k = f) := by
        unfold rts
        conv => lhs; rw [← List.take_append_drop (x + 1) (allM n), List.filter_append, hs]
        rfl
      rw [e]
      try simp only [hlg, take6, List.drop_zero, Int.cast_ofNat_Int, go_sem, ↓reduceIte, Nat.reduceEqDiff, Nat.reduceAdd, Nat.reduceMul, Nat.reduceLeDiff, Nat.reduceLT, Int.reduceLE, Int.reduceLT, reduceCtorEq]
      simp only [List.length_map, hml]
      repeat' (first | refine And.intro ?_ ?_ | intro _)
      all_goals (try omega)
      exact Kv.Fin.still ⟨by simp only [frt, frtc, hr], rfl⟩
    · have h4 : ¬ itM (allM n)[x] n k = f := fun h => h3 (by rw [h])
      rw [hno, if_neg (by simpa using h4), List.append_nil] at hs
      repeat' (first | refine And.intro ?_ ?_ | intro _)
      all_goals (try omega)
      exact ih (x + 1) ⟨by omega, hs⟩ (by omega) _ _ (by rfl) rfl
  · obtain rfl : x = n ^ n := by omega
    rw [← hml, List.take_length] at hno
    have hr : rts f n k = [] := hno
    have e : frt f n k = [0, 0, 0, 0, 0, 0] := by simp only [frt, hr]
    have e2 : frtc f n k = 4 := by simp only [frtc, hr]
    rw [e, e2]
    refine Kv.Fin.still ?_
    exact ⟨rfl, rfl⟩
end Go.Proofs.Ytkljidghocnllaa
