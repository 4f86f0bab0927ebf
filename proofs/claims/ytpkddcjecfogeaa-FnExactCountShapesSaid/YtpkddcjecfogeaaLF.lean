/- Least forms of maps: both sides of LeastForm and AreSameShape. -/
import Derived.Test.YtpkddcjecfogeaaLFc
import Derived.Test.YtpkddcjecfogeaaIN
namespace Go.Proofs.Ytpkddcjecfogeaa
open Go.Kv
set_option linter.unusedVariables false
set_option linter.unusedSimpArgs false
attribute [local irreducible] ACall PCall KL
/-- The least one of f and the renumbered ones. -/
def lsf (f : List Nat) (L : List (List Nat)) : List Nat := L.foldl (fun b p => if ltM (rnm f p) b = true then rnm f p else b) f
theorem lsf_succ (f : List Nat) (L : List (List Nat)) {x : Nat} (h : x < L.length) : lsf f (L.take (x + 1)) = if ltM (rnm f L[x]) (lsf f (L.take x)) = true then rnm f L[x] else lsf f (L.take x) := by
  unfold lsf
  rw [List.take_succ_eq_append_getElem h, List.foldl_append]
  rfl
theorem lsf_ok {f : List Nat} {n : Nat} (hf : Ok f n) : ∀ (x : Nat), x ≤ (prm n).length → Ok (lsf f ((prm n).take x)) n
  | 0, _ => by simpa [lsf] using hf
  | x + 1, h => by
    rw [lsf_succ f _ (by omega)]
    split
    · have hm : (prm n)[x] ∈ prm n := List.getElem_mem _
      exact rnm_ok hf (prm_ok hf.pos hf.le hm) (by have := (List.mem_filter.1 hm).2; simpa using this)
    · exact lsf_ok hf x (by omega)
theorem prm_nd {n : Nat} {p : List Nat} (h : p ∈ prm n) : p.Nodup := by
  have := (List.mem_filter.1 h).2; simpa using this
theorem p67 (f : List Nat) (n : Nat) (hf : Ok f n) : Pure Try.prog 67 [.agg (ints (mp f)), .list (aggs ((prm n).map mp))] (.agg (ints (mp (lsf f (prm n))))) := by
  have hlf := hf.mp_len
  have hpl := prm_len hf.pos hf.le
  refine e67 (by simp) fun _ _ => ?_
  simp only [k67, argEnv, hlf, List.length_map, take6, List.drop_zero, Int.cast_ofNat_Int, go_sem, ↓reduceIte, Nat.reduceEqDiff, Nat.reduceAdd, Nat.reduceMul, Nat.reduceLeDiff, Nat.reduceLT, Int.reduceLE, Int.reduceLT, reduceCtorEq]
  refine KL_indD k67_b0.eq_1 (fun x : Nat => [(2, .fptr (ints (mp f)) 0), (4, .ptr 0 0), (5, .ptr 1 0), (10, .list (aggs ((prm n).map mp))), (11, .int .i64 (prm n).length), (12, .int .i64 x)]) (fun x => [.box [.int .i64 0, .int .i64 0, .int .i64 0, .int .i64 0, .int .i64 0, .int .i64 0], .box (ints (mp (lsf f ((prm n).take x))))]) (fun x => x ≤ (prm n).length) (fun x => (prm n).length - x) [2, 4, 5, 10, 11, 12] 0 (by simp [keep]) ⟨[], by simp [lsf]⟩ (Nat.zero_le _) (fun x hx => ?_) fun x hx ih => ?_
  · exact ⟨Nat.zero_le _, Env.undr_upto (by simp [Env.undr, PV.undr, undrX_ints, undrX_aggs, undrL_ints]), .cons (by simp [AObj.undr, PV.undrL, PV.undr]) (.cons (by simp [AObj.undr, undrL_ints]) (.nil _))⟩
  have h6 := (lsf_ok hf x hx).mp_len
  try simp only [h6, List.length_map, take6, List.drop_zero, Int.cast_ofNat_Int, go_sem, ↓reduceIte, Nat.reduceEqDiff, Nat.reduceAdd, Nat.reduceMul, Nat.reduceLeDiff, Nat.reduceLT, Int.reduceLE, Int.reduceLT, reduceCtorEq]
  refine ⟨fun h1 => ?_, fun h1 => ?_⟩
  · have hxl : x < (prm n).length := by omega
    have hm : (prm n)[x] ∈ prm n := List.getElem_mem _
    have hp := prm_ok hf.pos hf.le hm
    have hlp := hp.mp_len
    have hr := rnm_ok hf hp (prm_nd hm)
    have hlr := hr.mp_len
    have e : ((prm n).map mp).getD x [] = mp (prm n)[x] := by simp [List.getD_eq_getElem?_getD, hxl]
    have hs := lsf_succ f (prm n) hxl
    rw [e]
    try simp only [hlf, hlp, h6, take6, List.drop_zero, Int.cast_ofNat_Int, go_sem, ↓reduceIte, Nat.reduceEqDiff, Nat.reduceAdd, Nat.reduceMul, Nat.reduceLeDiff, Nat.reduceLT, Int.reduceLE, Int.reduceLT, reduceCtorEq]
    refine ⟨by omega, fun _ => ?_⟩
    refine (p122 f _ n hf hp (prm_nd hm)).go ?_
    try simp only [hlr, h6, take6, List.drop_zero, Int.cast_ofNat_Int, go_sem, ↓reduceIte, Nat.reduceEqDiff, Nat.reduceAdd, Nat.reduceMul, Nat.reduceLeDiff, Nat.reduceLT, Int.reduceLE, Int.reduceLT, reduceCtorEq]
    refine (p123 _ _ n hr (lsf_ok hf x hx)).go ?_
    try simp only [hlr, h6, take6, List.drop_zero, Int.cast_ofNat_Int, go_sem, ↓reduceIte, Nat.reduceEqDiff, Nat.reduceAdd, Nat.reduceMul, Nat.reduceLeDiff, Nat.reduceLT, Int.reduceLE, Int.reduceLT, reduceCtorEq]
    refine ⟨fun h3 => ⟨by omega, ?_⟩, fun h3 => ⟨by omega, ?_⟩⟩
    · have hlt : ltM (rnm f (prm n)[x]) (lsf f ((prm n).take x)) = true := decide_eq_true h3
      rw [if_pos hlt] at hs
      exact ih (x + 1) (by omega) (by omega) _ _ (by simp [keep]) ⟨[_, _], by rw [hs]; rfl⟩
    · have hlt : ¬ ltM (rnm f (prm n)[x]) (lsf f ((prm n).take x)) = true := fun h => h3 (of_decide_eq_true h)
      rw [if_neg hlt] at hs
      exact ih (x + 1) (by omega) (by omega) _ _ (by simp [keep]) ⟨[_, _], by rw [hs]; rfl⟩
  · obtain rfl : x = (prm n).length := by omega
    rw [List.take_length] at h6 ⊢
    try simp only [h6, take6, List.drop_zero, Int.cast_ofNat_Int, go_sem, ↓reduceIte, Nat.reduceEqDiff, Nat.reduceAdd, Nat.reduceMul, Nat.reduceLeDiff, Nat.reduceLT, Int.reduceLE, Int.reduceLT, reduceCtorEq]
    exact Kv.Fin.still ⟨rfl, rfl⟩
theorem p68 (f : List Nat) (n : Nat) (hf : Ok f n) : Pure Try.prog 68 [.agg (ints (mp f)), .list (aggs ((prm n).map mp))] (.agg (ints (mp (lsf f (prm n))))) := by
  have hlf := hf.mp_len
  have hpl := prm_len hf.pos hf.le
  refine e68 (by simp) fun _ _ => ?_
  simp only [k68, argEnv, hlf, List.length_map, take6, List.drop_zero, Int.cast_ofNat_Int, go_sem, ↓reduceIte, Nat.reduceEqDiff, Nat.reduceAdd, Nat.reduceMul, Nat.reduceLeDiff, Nat.reduceLT, Int.reduceLE, Int.reduceLT, reduceCtorEq]
  refine KL_indD k68_b0.eq_1 (fun x : Nat => [(1, .list (aggs ((prm n).map mp))), (2, .fptr (ints (mp f)) 0), (4, .ptr 0 0), (5, .ptr 1 0), (6, .int .i64 x)]) (fun x => [.box [.int .i64 0, .int .i64 0, .int .i64 0, .int .i64 0, .int .i64 0, .int .i64 0], .box (ints (mp (lsf f ((prm n).take x))))]) (fun x => x ≤ (prm n).length) (fun x => (prm n).length - x) [1, 2, 4, 5, 6] 0 (by simp [keep]) ⟨[], by simp [lsf]⟩ (Nat.zero_le _) (fun x hx => ?_) fun x hx ih => ?_
  · exact ⟨Nat.zero_le _, Env.undr_upto (by simp [Env.undr, PV.undr, undrX_ints, undrX_aggs, undrL_ints]), .cons (by simp [AObj.undr, PV.undrL, PV.undr]) (.cons (by simp [AObj.undr, undrL_ints]) (.nil _))⟩
  have h6 := (lsf_ok hf x hx).mp_len
  try simp only [h6, List.length_map, take6, List.drop_zero, Int.cast_ofNat_Int, go_sem, ↓reduceIte, Nat.reduceEqDiff, Nat.reduceAdd, Nat.reduceMul, Nat.reduceLeDiff, Nat.reduceLT, Int.reduceLE, Int.reduceLT, reduceCtorEq]
  refine ⟨fun h1 => ?_, fun h1 => ?_⟩
  · have hxl : x < (prm n).length := by omega
    have hm : (prm n)[x] ∈ prm n := List.getElem_mem _
    have hp := prm_ok hf.pos hf.le hm
    have hlp := hp.mp_len
    have hr := rnm_ok hf hp (prm_nd hm)
    have hlr := hr.mp_len
    have e : ((prm n).map mp).getD x [] = mp (prm n)[x] := by simp [List.getD_eq_getElem?_getD, hxl]
    have hs := lsf_succ f (prm n) hxl
    rw [e]
    try simp only [hlf, hlp, h6, take6, List.drop_zero, Int.cast_ofNat_Int, go_sem, ↓reduceIte, Nat.reduceEqDiff, Nat.reduceAdd, Nat.reduceMul, Nat.reduceLeDiff, Nat.reduceLT, Int.reduceLE, Int.reduceLT, reduceCtorEq]
    refine ⟨by omega, fun _ => ?_⟩
    refine (p63 f _ n hf hp (prm_nd hm)).pgo ?_
    try simp only [hlr, h6, take6, List.drop_zero, Int.cast_ofNat_Int, go_sem, ↓reduceIte, Nat.reduceEqDiff, Nat.reduceAdd, Nat.reduceMul, Nat.reduceLeDiff, Nat.reduceLT, Int.reduceLE, Int.reduceLT, reduceCtorEq]
    refine (p124 _ _ n hr (lsf_ok hf x hx)).go ?_
    try simp only [hlr, h6, take6, List.drop_zero, Int.cast_ofNat_Int, go_sem, ↓reduceIte, Nat.reduceEqDiff, Nat.reduceAdd, Nat.reduceMul, Nat.reduceLeDiff, Nat.reduceLT, Int.reduceLE, Int.reduceLT, reduceCtorEq]
    refine ⟨fun h3 => ⟨by omega, ?_⟩, fun h3 => ⟨by omega, ?_⟩⟩
    · rw [if_pos h3] at hs
      exact ih (x + 1) (by omega) (by omega) _ _ (by simp [keep]) ⟨[_], by rw [hs]; rfl⟩
    · rw [if_neg (by simp [h3])] at hs
      exact ih (x + 1) (by omega) (by omega) _ _ (by simp [keep]) ⟨[_], by rw [hs]; rfl⟩
  · obtain rfl : x = (prm n).length := by omega
    rw [List.take_length] at h6 ⊢
    try simp only [h6, take6, List.drop_zero, Int.cast_ofNat_Int, go_sem, ↓reduceIte, Nat.reduceEqDiff, Nat.reduceAdd, Nat.reduceMul, Nat.reduceLeDiff, Nat.reduceLT, Int.reduceLE, Int.reduceLT, reduceCtorEq]
    exact Kv.Fin.still ⟨rfl, rfl⟩
theorem p23 (f : List Nat) (n : Nat) (hf : Ok f n) : Pure Try.prog 23 [.agg (ints (mp f))] (.tup [.agg (ints (mp (lsf f (prm n)))), .int .i64 0]) := by
  have hlf := hf.mp_len
  have h6 : (mp (lsf f (prm n))).length = 6 := by have := (lsf_ok hf _ (Nat.le_refl _)).mp_len; rwa [List.take_length] at this
  refine e23 (by simp) fun _ _ => ?_
  simp only [k23, argEnv, hlf, take6, List.drop_zero, Int.cast_ofNat_Int, go_sem, ↓reduceIte, Nat.reduceEqDiff, Nat.reduceAdd, Nat.reduceMul, Nat.reduceLeDiff, Nat.reduceLT, Int.reduceLE, Int.reduceLT, reduceCtorEq]
  refine (p52 (mp f) hlf).go ?_
  rw [isM_mp hf]
  try simp only [hlf, hf.len, take6, List.drop_zero, Int.cast_ofNat_Int, go_sem, ↓reduceIte, Nat.reduceEqDiff, Nat.reduceAdd, Nat.reduceMul, Nat.reduceLeDiff, Nat.reduceLT, Int.reduceLE, Int.reduceLT, reduceCtorEq]
  refine (p65 n hf.pos hf.le).fgo ?_
  try simp only [take6, List.drop_zero, Int.cast_ofNat_Int, go_sem, ↓reduceIte, Nat.reduceEqDiff, Nat.reduceAdd, Nat.reduceMul, Nat.reduceLeDiff, Nat.reduceLT, Int.reduceLE, Int.reduceLT, reduceCtorEq]
  refine (p67 f n hf).pgo ?_
  try simp only [h6, take6, List.drop_zero, Int.cast_ofNat_Int, go_sem, ↓reduceIte, Nat.reduceEqDiff, Nat.reduceAdd, Nat.reduceMul, Nat.reduceLeDiff, Nat.reduceLT, Int.reduceLE, Int.reduceLT, reduceCtorEq]
  exact Kv.Fin.still ⟨rfl, rfl⟩
theorem p22 (f : List Nat) (n : Nat) (hf : Ok f n) : Pure Try.prog 22 [.agg (ints (mp f))] (.tup [.agg (ints (mp (lsf f (prm n)))), .int .i64 0]) := by
  have hlf := hf.mp_len
  have h6 : (mp (lsf f (prm n))).length = 6 := by have := (lsf_ok hf _ (Nat.le_refl _)).mp_len; rwa [List.take_length] at this
  have ho := p61 n hf.pos hf.le n [] (by simp) (by simp)
  rw [ords_all n hf.pos] at ho
  refine e22 (by simp) fun _ _ => ?_
  simp only [k22, argEnv, hlf, take6, List.drop_zero, Int.cast_ofNat_Int, go_sem, ↓reduceIte, Nat.reduceEqDiff, Nat.reduceAdd, Nat.reduceMul, Nat.reduceLeDiff, Nat.reduceLT, Int.reduceLE, Int.reduceLT, reduceCtorEq]
  refine (p49 (mp f) hlf).go ?_
  rw [isM_mp hf]
  try simp only [hlf, hf.len, take6, List.drop_zero, Int.cast_ofNat_Int, go_sem, ↓reduceIte, Nat.reduceEqDiff, Nat.reduceAdd, Nat.reduceMul, Nat.reduceLeDiff, Nat.reduceLT, Int.reduceLE, Int.reduceLT, reduceCtorEq]
  refine ho.fgo ?_
  try simp only [take6, List.drop_zero, Int.cast_ofNat_Int, go_sem, ↓reduceIte, Nat.reduceEqDiff, Nat.reduceAdd, Nat.reduceMul, Nat.reduceLeDiff, Nat.reduceLT, Int.reduceLE, Int.reduceLT, reduceCtorEq]
  refine (p68 f n hf).pgo ?_
  try simp only [h6, take6, List.drop_zero, Int.cast_ofNat_Int, go_sem, ↓reduceIte, Nat.reduceEqDiff, Nat.reduceAdd, Nat.reduceMul, Nat.reduceLeDiff, Nat.reduceLT, Int.reduceLE, Int.reduceLT, reduceCtorEq]
  exact Kv.Fin.still ⟨rfl, rfl⟩
theorem p23_out (m : List Int) (h6 : m.length = 6) (hm : isM m = false) : Pure Try.prog 23 [.agg (ints m)] (.tup [.agg (ints [0, 0, 0, 0, 0, 0]), .int .i64 1]) := by
  refine e23 (by simp) fun _ _ => ?_
  simp only [k23, argEnv, h6, take6, List.drop_zero, Int.cast_ofNat_Int, go_sem, ↓reduceIte, Nat.reduceEqDiff, Nat.reduceAdd, Nat.reduceMul, Nat.reduceLeDiff, Nat.reduceLT, Int.reduceLE, Int.reduceLT, reduceCtorEq]
  refine (p52 m h6).go ?_
  rw [hm]
  try simp only [h6, take6, List.drop_zero, Int.cast_ofNat_Int, go_sem, ↓reduceIte, Nat.reduceEqDiff, Nat.reduceAdd, Nat.reduceMul, Nat.reduceLeDiff, Nat.reduceLT, Int.reduceLE, Int.reduceLT, reduceCtorEq]
  exact Kv.Fin.still ⟨rfl, rfl⟩
theorem p22_out (m : List Int) (h6 : m.length = 6) (hm : isM m = false) : Pure Try.prog 22 [.agg (ints m)] (.tup [.agg (ints [0, 0, 0, 0, 0, 0]), .int .i64 1]) := by
  refine e22 (by simp) fun _ _ => ?_
  simp only [k22, argEnv, h6, take6, List.drop_zero, Int.cast_ofNat_Int, go_sem, ↓reduceIte, Nat.reduceEqDiff, Nat.reduceAdd, Nat.reduceMul, Nat.reduceLeDiff, Nat.reduceLT, Int.reduceLE, Int.reduceLT, reduceCtorEq]
  refine (p49 m h6).go ?_
  rw [hm]
  try simp only [h6, take6, List.drop_zero, Int.cast_ofNat_Int, go_sem, ↓reduceIte, Nat.reduceEqDiff, Nat.reduceAdd, Nat.reduceMul, Nat.reduceLeDiff, Nat.reduceLT, Int.reduceLE, Int.reduceLT, reduceCtorEq]
  exact Kv.Fin.still ⟨rfl, rfl⟩
def pcd (m k : List Int) : Int := if isM m = false ∨ isM k = false then 1 else if m.getD 0 0 = k.getD 0 0 then 0 else 2
theorem p71 (m k : List Int) (h6 : m.length = 6) (h6' : k.length = 6) : Pure Try.prog 71 [.agg (ints m), .agg (ints k)] (.int .i64 (pcd m k)) := by
  refine e71 (by simp) fun _ _ => ?_
  simp only [k71, argEnv, h6, h6', take6, List.drop_zero, Int.cast_ofNat_Int, go_sem, ↓reduceIte, Nat.reduceEqDiff, Nat.reduceAdd, Nat.reduceMul, Nat.reduceLeDiff, Nat.reduceLT, Int.reduceLE, Int.reduceLT, reduceCtorEq]
  refine (p52 m h6).go ?_
  cases hm : isM m with
  | false =>
    try simp only [take6, List.drop_zero, Int.cast_ofNat_Int, go_sem, ↓reduceIte, Nat.reduceEqDiff, Nat.reduceAdd, Nat.reduceMul, Nat.reduceLeDiff, Nat.reduceLT, Int.reduceLE, Int.reduceLT, reduceCtorEq]
    exact Kv.Fin.still ⟨by simp [pcd, hm], rfl⟩
  | true =>
    try simp only [h6, h6', take6, List.drop_zero, Int.cast_ofNat_Int, go_sem, ↓reduceIte, Nat.reduceEqDiff, Nat.reduceAdd, Nat.reduceMul, Nat.reduceLeDiff, Nat.reduceLT, Int.reduceLE, Int.reduceLT, reduceCtorEq]
    refine (p52 k h6').go ?_
    cases hk : isM k with
    | false =>
      try simp only [take6, List.drop_zero, Int.cast_ofNat_Int, go_sem, ↓reduceIte, Nat.reduceEqDiff, Nat.reduceAdd, Nat.reduceMul, Nat.reduceLeDiff, Nat.reduceLT, Int.reduceLE, Int.reduceLT, reduceCtorEq]
      exact Kv.Fin.still ⟨by simp [pcd, hk], rfl⟩
    | true =>
      try simp only [h6, h6', take6, List.drop_zero, Int.cast_ofNat_Int, go_sem, ↓reduceIte, Nat.reduceEqDiff, Nat.reduceAdd, Nat.reduceMul, Nat.reduceLeDiff, Nat.reduceLT, Int.reduceLE, Int.reduceLT, reduceCtorEq]
      have e : pcd m k = if m.getD 0 0 = k.getD 0 0 then 0 else 2 := by unfold pcd; rw [if_neg (by simp [hm, hk])]
      exact ⟨fun h => Kv.Fin.still ⟨by rw [e, if_neg h], rfl⟩, fun h => Kv.Fin.still ⟨by rw [e, if_pos h], rfl⟩⟩
theorem p70 (m k : List Int) (h6 : m.length = 6) (h6' : k.length = 6) : Pure Try.prog 70 [.agg (ints m), .agg (ints k)] (.int .i64 (pcd m k)) := by
  refine e70 (by simp) fun _ _ => ?_
  simp only [k70, argEnv, h6, h6', take6, List.drop_zero, Int.cast_ofNat_Int, go_sem, ↓reduceIte, Nat.reduceEqDiff, Nat.reduceAdd, Nat.reduceMul, Nat.reduceLeDiff, Nat.reduceLT, Int.reduceLE, Int.reduceLT, reduceCtorEq]
  refine (p49 m h6).go ?_
  cases hm : isM m with
  | false =>
    try simp only [take6, List.drop_zero, Int.cast_ofNat_Int, go_sem, ↓reduceIte, Nat.reduceEqDiff, Nat.reduceAdd, Nat.reduceMul, Nat.reduceLeDiff, Nat.reduceLT, Int.reduceLE, Int.reduceLT, reduceCtorEq]
    exact Kv.Fin.still ⟨by simp [pcd, hm], rfl⟩
  | true =>
    try simp only [h6, h6', take6, List.drop_zero, Int.cast_ofNat_Int, go_sem, ↓reduceIte, Nat.reduceEqDiff, Nat.reduceAdd, Nat.reduceMul, Nat.reduceLeDiff, Nat.reduceLT, Int.reduceLE, Int.reduceLT, reduceCtorEq]
    refine (p49 k h6').go ?_
    cases hk : isM k with
    | false =>
      try simp only [take6, List.drop_zero, Int.cast_ofNat_Int, go_sem, ↓reduceIte, Nat.reduceEqDiff, Nat.reduceAdd, Nat.reduceMul, Nat.reduceLeDiff, Nat.reduceLT, Int.reduceLE, Int.reduceLT, reduceCtorEq]
      exact Kv.Fin.still ⟨by simp [pcd, hk], rfl⟩
    | true =>
      try simp only [h6, h6', take6, List.drop_zero, Int.cast_ofNat_Int, go_sem, ↓reduceIte, Nat.reduceEqDiff, Nat.reduceAdd, Nat.reduceMul, Nat.reduceLeDiff, Nat.reduceLT, Int.reduceLE, Int.reduceLT, reduceCtorEq]
      have e : pcd m k = if m.getD 0 0 = k.getD 0 0 then 0 else 2 := by unfold pcd; rw [if_neg (by simp [hm, hk])]
      exact ⟨fun h => Kv.Fin.still ⟨by rw [e, if_neg h], rfl⟩, fun h => Kv.Fin.still ⟨by rw [e, if_pos h], rfl⟩⟩
theorem p26_out (m k : List Int) (h6 : m.length = 6) (h6' : k.length = 6) (hp : pcd m k ≠ 0) : Pure Try.prog 26 [.agg (ints m), .agg (ints k)] (.tup [.bool false, .int .i64 (pcd m k)]) := by
  refine e26 (by simp) fun _ _ => ?_
  simp only [k26, argEnv, h6, h6', take6, List.drop_zero, Int.cast_ofNat_Int, go_sem, ↓reduceIte, Nat.reduceEqDiff, Nat.reduceAdd, Nat.reduceMul, Nat.reduceLeDiff, Nat.reduceLT, Int.reduceLE, Int.reduceLT, reduceCtorEq]
  refine (p71 m k h6 h6').go ?_
  try simp only [take6, List.drop_zero, Int.cast_ofNat_Int, go_sem, ↓reduceIte, Nat.reduceEqDiff, Nat.reduceAdd, Nat.reduceMul, Nat.reduceLeDiff, Nat.reduceLT, Int.reduceLE, Int.reduceLT, reduceCtorEq]
  exact ⟨fun _ => Kv.Fin.still ⟨rfl, rfl⟩, fun h => absurd h hp⟩
theorem p25_out (m k : List Int) (h6 : m.length = 6) (h6' : k.length = 6) (hp : pcd m k ≠ 0) : Pure Try.prog 25 [.agg (ints m), .agg (ints k)] (.tup [.bool false, .int .i64 (pcd m k)]) := by
  refine e25 (by simp) fun _ _ => ?_
  simp only [k25, argEnv, h6, h6', take6, List.drop_zero, Int.cast_ofNat_Int, go_sem, ↓reduceIte, Nat.reduceEqDiff, Nat.reduceAdd, Nat.reduceMul, Nat.reduceLeDiff, Nat.reduceLT, Int.reduceLE, Int.reduceLT, reduceCtorEq]
  refine (p70 m k h6 h6').go ?_
  try simp only [take6, List.drop_zero, Int.cast_ofNat_Int, go_sem, ↓reduceIte, Nat.reduceEqDiff, Nat.reduceAdd, Nat.reduceMul, Nat.reduceLeDiff, Nat.reduceLT, Int.reduceLE, Int.reduceLT, reduceCtorEq]
  exact ⟨fun _ => Kv.Fin.still ⟨rfl, rfl⟩, fun h => absurd h hp⟩
theorem p26 (f g : List Nat) (n : Nat) (hf : Ok f n) (hg : Ok g n) (hp : pcd (mp f) (mp g) = 0) : Pure Try.prog 26 [.agg (ints (mp f)), .agg (ints (mp g))] (.tup [.bool (decide (lsf f (prm n) = lsf g (prm n))), .int .i64 0]) := by
  have hlf := hf.mp_len
  have hlg := hg.mp_len
  have h6 : (mp (lsf f (prm n))).length = 6 := by have := (lsf_ok hf _ (Nat.le_refl _)).mp_len; rwa [List.take_length] at this
  have h6' : (mp (lsf g (prm n))).length = 6 := by have := (lsf_ok hg _ (Nat.le_refl _)).mp_len; rwa [List.take_length] at this
  refine e26 (by simp) fun _ _ => ?_
  simp only [k26, argEnv, hlf, hlg, take6, List.drop_zero, Int.cast_ofNat_Int, go_sem, ↓reduceIte, Nat.reduceEqDiff, Nat.reduceAdd, Nat.reduceMul, Nat.reduceLeDiff, Nat.reduceLT, Int.reduceLE, Int.reduceLT, reduceCtorEq]
  refine (p71 _ _ hlf hlg).go ?_
  rw [hp]
  try simp only [hlf, hlg, hf.len, take6, List.drop_zero, Int.cast_ofNat_Int, go_sem, ↓reduceIte, Nat.reduceEqDiff, Nat.reduceAdd, Nat.reduceMul, Nat.reduceLeDiff, Nat.reduceLT, Int.reduceLE, Int.reduceLT, reduceCtorEq]
  refine (p65 n hf.pos hf.le).go ?_
  try simp only [hlf, hlg, take6, List.drop_zero, Int.cast_ofNat_Int, go_sem, ↓reduceIte, Nat.reduceEqDiff, Nat.reduceAdd, Nat.reduceMul, Nat.reduceLeDiff, Nat.reduceLT, Int.reduceLE, Int.reduceLT, reduceCtorEq]
  refine (p67 f n hf).pgo ?_
  try simp only [take6, List.drop_zero, Int.cast_ofNat_Int, go_sem, ↓reduceIte, Nat.reduceEqDiff, Nat.reduceAdd, Nat.reduceMul, Nat.reduceLeDiff, Nat.reduceLT, Int.reduceLE, Int.reduceLT, reduceCtorEq]
  refine (p67 g n hg).pgo ?_
  try simp only [h6, h6', take6, List.drop_zero, Int.cast_ofNat_Int, go_sem, ↓reduceIte, Nat.reduceEqDiff, Nat.reduceAdd, Nat.reduceMul, Nat.reduceLeDiff, Nat.reduceLT, Int.reduceLE, Int.reduceLT, reduceCtorEq]
  refine Kv.Fin.still ⟨?_, rfl⟩
  have e : (mp (lsf f (prm n)) = mp (lsf g (prm n))) = (lsf f (prm n) = lsf g (prm n)) := propext ⟨mp_inj, fun h => by rw [h]⟩
  simp only [e]
theorem p25 (f g : List Nat) (n : Nat) (hf : Ok f n) (hg : Ok g n) (hp : pcd (mp f) (mp g) = 0) : Pure Try.prog 25 [.agg (ints (mp f)), .agg (ints (mp g))] (.tup [.bool (decide (lsf f (prm n) = lsf g (prm n))), .int .i64 0]) := by
  have hlf := hf.mp_len
  have hlg := hg.mp_len
  have h6 : (mp (lsf f (prm n))).length = 6 := by have := (lsf_ok hf _ (Nat.le_refl _)).mp_len; rwa [List.take_length] at this
  have h6' : (mp (lsf g (prm n))).length = 6 := by have := (lsf_ok hg _ (Nat.le_refl _)).mp_len; rwa [List.take_length] at this
  have ho := p61 n hf.pos hf.le n [] (by simp) (by simp)
  rw [ords_all n hf.pos] at ho
  refine e25 (by simp) fun _ _ => ?_
  simp only [k25, argEnv, hlf, hlg, take6, List.drop_zero, Int.cast_ofNat_Int, go_sem, ↓reduceIte, Nat.reduceEqDiff, Nat.reduceAdd, Nat.reduceMul, Nat.reduceLeDiff, Nat.reduceLT, Int.reduceLE, Int.reduceLT, reduceCtorEq]
  refine (p70 _ _ hlf hlg).go ?_
  rw [hp]
  try simp only [hlf, hlg, hf.len, take6, List.drop_zero, Int.cast_ofNat_Int, go_sem, ↓reduceIte, Nat.reduceEqDiff, Nat.reduceAdd, Nat.reduceMul, Nat.reduceLeDiff, Nat.reduceLT, Int.reduceLE, Int.reduceLT, reduceCtorEq]
  refine ho.give (id := 0) rfl (.cons Imm.still (.cons (Imm.refn (l := []) (solo_get (o := .arr 0 2 1 (ints [])) rfl) rfl) (.nil _))) ?_
  try simp only [hlf, hlg, take6, List.drop_zero, Int.cast_ofNat_Int, go_sem, ↓reduceIte, Nat.reduceEqDiff, Nat.reduceAdd, Nat.reduceMul, Nat.reduceLeDiff, Nat.reduceLT, Int.reduceLE, Int.reduceLT, reduceCtorEq]
  refine (p68 f n hf).pgo ?_
  try simp only [take6, List.drop_zero, Int.cast_ofNat_Int, go_sem, ↓reduceIte, Nat.reduceEqDiff, Nat.reduceAdd, Nat.reduceMul, Nat.reduceLeDiff, Nat.reduceLT, Int.reduceLE, Int.reduceLT, reduceCtorEq]
  refine (p68 g n hg).pgo ?_
  try simp only [h6, h6', take6, List.drop_zero, Int.cast_ofNat_Int, go_sem, ↓reduceIte, Nat.reduceEqDiff, Nat.reduceAdd, Nat.reduceMul, Nat.reduceLeDiff, Nat.reduceLT, Int.reduceLE, Int.reduceLT, reduceCtorEq]
  refine Kv.Fin.still ⟨?_, rfl⟩
  have e : (mp (lsf f (prm n)) = mp (lsf g (prm n))) = (lsf f (prm n) = lsf g (prm n)) := propext ⟨mp_inj, fun h => by rw [h]⟩
  simp only [e]
end Go.Proofs.Ytpkddcjecfogeaa
