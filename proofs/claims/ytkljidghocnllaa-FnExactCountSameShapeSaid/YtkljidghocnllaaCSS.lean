/- Numbers of maps of the same shape: both sides. -/
import Derived.Test.YtkljidghocnllaaCSSc
import Derived.Test.YtkljidghocnllaaRK
import Derived.Test.YtkljidghocnllaaOR
import Derived.Test.YtkljidghocnllaaCC
import Derived.Test.YtkljidghocnllaaMA
namespace Go.Proofs.Ytkljidghocnllaa
open Go.Kv
set_option linter.unusedVariables false
set_option linter.unusedSimpArgs false
attribute [local irreducible] ACall PCall KL
theorem Imm.refaj {σ : Heap} {id ver n k : Nat} {e : TypeId} {l post : List (List Int)} (h : σ[id]? = some (.arr ver e n (aggs (l ++ post)))) (hk : k = l.length) : Imm σ (.ref id ver 0 k) (.list (aggs l)) := by
  subst hk
  have hg : ∀ (i : Nat) (x d : PV), (aggs (l ++ post))[0 + i]? = some x → (aggs l)[i]? = some d → x = d := fun i x d hx hd => by
    have hlt := (List.getElem?_eq_some_iff.1 hd).1
    rw [Nat.zero_add, ← aggs_append, List.getElem?_append_left hlt, hd] at hx
    exact (Option.some.inj hx).symm
  refine .ref id ver 0 l.length e n (aggs (l ++ post)) (aggs l) h (by simp [aggs_length]) (aggs_length l) (fun i x d hx hd => ?_) (fun i x d j c c' hx hd hc hc' => ?_)
  · obtain rfl := hg i x d hx hd
    obtain ⟨y, _, rfl⟩ := aggs_get hd
    exact ⟨rfl, ints_ok y⟩
  · obtain rfl := hg i x d hx hd
    obtain ⟨y, _, rfl⟩ := aggs_get hd
    rw [hc] at hc'; cases hc'
    exact .refl _ ((Plain.ints y c (List.mem_of_getElem? hc)).up)
/-- All permutations, as what nobody writes. -/
theorem p100 (n : Nat) (h1 : 1 ≤ n) (h5 : n ≤ 5) : Pure Try.prog 100 [.int .i64 n] (.list (aggs ((prm n).map mp))) := by
  have hnn := nn_le n (by omega)
  refine e100 (by simp) fun _ _ => ?_
  simp only [k100, argEnv, take6, List.drop_zero, Int.cast_ofNat_Int, go_sem, ↓reduceIte, Nat.reduceEqDiff, Nat.reduceAdd, Nat.reduceMul, Nat.reduceLeDiff, Nat.reduceLT, Int.reduceLE, Int.reduceLT, reduceCtorEq]
  refine (p105 n h1 h5).go fun v s ⟨hv, hs⟩ => ?_
  subst hv; subst hs
  try simp only [ren_ref, take6, List.drop_zero, Int.cast_ofNat_Int, go_sem, ↓reduceIte, Nat.reduceEqDiff, Nat.reduceAdd, Nat.reduceMul, Nat.reduceLeDiff, Nat.reduceLT, Int.reduceLE, Int.reduceLT, reduceCtorEq]
  have hml : (allM n).length = n ^ n := by simp [allM]
  refine delM _ 0 (n ^ n - 1) 27 (allM n) _ hml.symm rfl (fun g hg => by rw [(allM_ok h1 h5 hg).len]; exact h5) (by omega) 129 [] (fun g => !decide g.Nodup) (fun g hg => p129 g n (allM_ok h1 h5 hg)) fun post => ?_
  simp only [Bool.not_not]
  try simp only [take6, List.drop_zero, Int.cast_ofNat_Int, go_sem, ↓reduceIte, Nat.reduceEqDiff, Nat.reduceAdd, Nat.reduceMul, Nat.reduceLeDiff, Nat.reduceLT, Int.reduceLE, Int.reduceLT, reduceCtorEq]
  exact Kv.Fin.freeze (Imm.refaj (l := (prm n).map mp) (post := post) rfl (by simp [prm])) ⟨rfl, rfl⟩
def kept (f : List Nat) (n x : Nat) : Nat := (((prm n).take x).filter fun g => decide (mul f g = mul g f)).length
theorem kept_le (f : List Nat) (n x : Nat) : kept f n x ≤ x := by
  have := List.length_filter_le (fun g => decide (mul f g = mul g f)) ((prm n).take x)
  simp only [List.length_take] at this
  unfold kept; omega
theorem kept_succ (f : List Nat) (n : Nat) {x : Nat} (h : x < (prm n).length) : kept f n (x + 1) = kept f n x + if mul f (prm n)[x] = mul (prm n)[x] f then 1 else 0 := by
  unfold kept
  rw [List.take_succ_eq_append_getElem h, List.filter_append, List.length_append]
  by_cases hc : mul f (prm n)[x] = mul (prm n)[x] f
  · simp [hc]
  · simp [hc]
theorem kept_pos {f : List Nat} {n : Nat} (hf : Ok f n) : 1 ≤ kept f n (prm n).length := by
  unfold kept
  rw [List.take_length]
  have hm : List.range n ∈ (prm n).filter fun g => decide (mul f g = mul g f) := by
    refine List.mem_filter.2 ⟨range_prm hf.pos, decide_eq_true ?_⟩
    have e1 : mul f (List.range n) = f := by
      unfold mul
      conv => rhs; rw [← List.map_id f]
      refine List.map_congr_left fun x hx => ?_
      have := hf.lt x hx
      simp [List.getD_eq_getElem?_getD, this]
    have e2 : mul (List.range n) f = f := by
      apply List.ext_getElem (by simp [hf.len])
      intro i h1 h2
      simp [mul, List.getD_eq_getElem?_getD, h2]
    rw [e1, e2]
  exact List.length_pos_of_mem hm
theorem p57 (f : List Nat) (n : Nat) (hf : Ok f n) : Pure Try.prog 57 [.agg (ints (mp f))] (.tup [.int .i64 ((prm n).length / kept f n (prm n).length : Nat), .int .i64 (kept f n (prm n).length), .int .i64 0]) := by
  have hlf := hf.mp_len
  have hpl := prm_len hf.pos hf.le
  refine e57 (by simp) fun _ _ => ?_
  simp only [k57, argEnv, hlf, take6, List.drop_zero, Int.cast_ofNat_Int, go_sem, ↓reduceIte, Nat.reduceEqDiff, Nat.reduceAdd, Nat.reduceMul, Nat.reduceLeDiff, Nat.reduceLT, Int.reduceLE, Int.reduceLT, reduceCtorEq]
  refine (p77 (mp f) hlf).go ?_
  rw [isM_mp hf]
  try simp only [hlf, hf.len, take6, List.drop_zero, Int.cast_ofNat_Int, go_sem, ↓reduceIte, Nat.reduceEqDiff, Nat.reduceAdd, Nat.reduceMul, Nat.reduceLeDiff, Nat.reduceLT, Int.reduceLE, Int.reduceLT, reduceCtorEq]
  refine (p100 n hf.pos hf.le).go ?_
  try simp only [hlf, List.length_map, take6, List.drop_zero, Int.cast_ofNat_Int, go_sem, ↓reduceIte, Nat.reduceEqDiff, Nat.reduceAdd, Nat.reduceMul, Nat.reduceLeDiff, Nat.reduceLT, Int.reduceLE, Int.reduceLT, reduceCtorEq]
  refine KL_indD k57_b0.eq_1 (fun x : Nat => [(1, .fptr (ints (mp f)) 0), (5, .list (aggs ((prm n).map mp))), (6, .int .i64 (kept f n x)), (15, .list (aggs ((prm n).map mp))), (16, .int .i64 (prm n).length), (17, .int .i64 x)]) (fun _ => []) (fun x => x ≤ (prm n).length) (fun x => (prm n).length - x) [1, 5, 6, 15, 16, 17] 0 (by simp [keep, kept]) ⟨[], rfl⟩ (Nat.zero_le _) (fun x hx => ?_) fun x hx ih => ?_
  · exact ⟨Nat.zero_le _, Env.undr_upto (by simp [Env.undr, PV.undr, undrX_ints, undrX_aggs, undrL_ints]), .nil _⟩
  try simp only [hlf, List.length_map, take6, List.drop_zero, Int.cast_ofNat_Int, go_sem, ↓reduceIte, Nat.reduceEqDiff, Nat.reduceAdd, Nat.reduceMul, Nat.reduceLeDiff, Nat.reduceLT, Int.reduceLE, Int.reduceLT, reduceCtorEq]
  refine ⟨fun h1 => ?_, fun h1 => ?_⟩
  · have hxl : x < (prm n).length := by omega
    have hg := prm_ok hf.pos hf.le (List.getElem_mem hxl)
    have hlg := hg.mp_len
    have e : ((prm n).map mp).getD x [] = mp (prm n)[x] := by simp [List.getD_eq_getElem?_getD, hxl]
    have hks := kept_succ f n hxl
    have hkl := kept_le f n x
    rw [e]
    try simp only [hlf, hlg, take6, List.drop_zero, Int.cast_ofNat_Int, go_sem, ↓reduceIte, Nat.reduceEqDiff, Nat.reduceAdd, Nat.reduceMul, Nat.reduceLeDiff, Nat.reduceLT, Int.reduceLE, Int.reduceLT, reduceCtorEq]
    refine ⟨by omega, fun _ => ?_⟩
    refine (p101 f _ n hf hg).go ?_
    try simp only [take6, List.drop_zero, Int.cast_ofNat_Int, go_sem, ↓reduceIte, Nat.reduceEqDiff, Nat.reduceAdd, Nat.reduceMul, Nat.reduceLeDiff, Nat.reduceLT, Int.reduceLE, Int.reduceLT, reduceCtorEq]
    refine ⟨fun h3 => ?_, fun h3 => ?_⟩
    all_goals
      first | rw [if_pos h3] at hks | rw [if_neg h3] at hks
      try refine ⟨by omega, ?_⟩
      try refine ⟨by omega, ?_⟩
      refine ih (x + 1) (by omega) (by omega) _ _ ?_ ⟨[_], rfl⟩
      simp [keep, hks]
  · obtain rfl : x = (prm n).length := by omega
    have hk := kept_pos hf
    have hkl := kept_le f n (prm n).length
    try simp only [take6, List.drop_zero, Int.cast_ofNat_Int, go_sem, ↓reduceIte, Nat.reduceEqDiff, Nat.reduceAdd, Nat.reduceMul, Nat.reduceLeDiff, Nat.reduceLT, Int.reduceLE, Int.reduceLT, reduceCtorEq]
    have hd : ((prm n).length : Int) / (kept f n (prm n).length : Int) = (((prm n).length / kept f n (prm n).length : Nat) : Int) := by simp
    have hdl := Nat.div_le_self (prm n).length (kept f n (prm n).length)
    rw [hd]
    clear hd
    generalize (prm n).length / kept f n (prm n).length = D at *
    exact ⟨by omega, by omega, Kv.Fin.still ⟨rfl, rfl⟩⟩
theorem p57_out (m : List Int) (h6 : m.length = 6) (hm : isM m = false) : Pure Try.prog 57 [.agg (ints m)] (.tup [.int .i64 0, .int .i64 0, .int .i64 1]) := by
  refine e57 (by simp) fun _ _ => ?_
  simp only [k57, argEnv, h6, take6, List.drop_zero, Int.cast_ofNat_Int, go_sem, ↓reduceIte, Nat.reduceEqDiff, Nat.reduceAdd, Nat.reduceMul, Nat.reduceLeDiff, Nat.reduceLT, Int.reduceLE, Int.reduceLT, reduceCtorEq]
  refine (p77 m h6).go ?_
  rw [hm]
  try simp only [h6, take6, List.drop_zero, Int.cast_ofNat_Int, go_sem, ↓reduceIte, Nat.reduceEqDiff, Nat.reduceAdd, Nat.reduceMul, Nat.reduceLeDiff, Nat.reduceLT, Int.reduceLE, Int.reduceLT, reduceCtorEq]
  exact Kv.Fin.still ⟨rfl, rfl⟩
theorem p56_out (m : List Int) (h6 : m.length = 6) (hm : isM m = false) : Pure Try.prog 56 [.agg (ints m)] (.tup [.int .i64 0, .int .i64 0, .int .i64 1]) := by
  refine e56 (by simp) fun _ _ => ?_
  simp only [k56, argEnv, h6, take6, List.drop_zero, Int.cast_ofNat_Int, go_sem, ↓reduceIte, Nat.reduceEqDiff, Nat.reduceAdd, Nat.reduceMul, Nat.reduceLeDiff, Nat.reduceLT, Int.reduceLE, Int.reduceLT, reduceCtorEq]
  refine (p97 m h6).go ?_
  rw [hm]
  try simp only [h6, take6, List.drop_zero, Int.cast_ofNat_Int, go_sem, ↓reduceIte, Nat.reduceEqDiff, Nat.reduceAdd, Nat.reduceMul, Nat.reduceLeDiff, Nat.reduceLT, Int.reduceLE, Int.reduceLT, reduceCtorEq]
  exact Kv.Fin.still ⟨rfl, rfl⟩
theorem p56 (f : List Nat) (n : Nat) (hf : Ok f n) : Pure Try.prog 56 [.agg (ints (mp f))] (.tup [.int .i64 ((prm n).length / kept f n (prm n).length : Nat), .int .i64 (kept f n (prm n).length), .int .i64 0]) := by
  have hlf := hf.mp_len
  have hpl := prm_len hf.pos hf.le
  refine e56 (by simp) fun _ _ => ?_
  simp only [k56, argEnv, hlf, take6, List.drop_zero, Int.cast_ofNat_Int, go_sem, ↓reduceIte, Nat.reduceEqDiff, Nat.reduceAdd, Nat.reduceMul, Nat.reduceLeDiff, Nat.reduceLT, Int.reduceLE, Int.reduceLT, reduceCtorEq]
  refine (p97 (mp f) hlf).go ?_
  rw [isM_mp hf]
  try simp only [hlf, hf.len, take6, List.drop_zero, Int.cast_ofNat_Int, go_sem, ↓reduceIte, Nat.reduceEqDiff, Nat.reduceAdd, Nat.reduceMul, Nat.reduceLeDiff, Nat.reduceLT, Int.reduceLE, Int.reduceLT, reduceCtorEq]
  refine (p98 n hf.pos hf.le n [] (by simp) (by simp)).give (id := 0) rfl (.cons Imm.still (.cons (Imm.refn (l := []) (solo_get (o := .arr 0 2 1 (ints [])) rfl) rfl) (.nil _))) ?_
  rw [ords_all n hf.pos]
  try simp only [hlf, List.length_map, take6, List.drop_zero, Int.cast_ofNat_Int, go_sem, ↓reduceIte, Nat.reduceEqDiff, Nat.reduceAdd, Nat.reduceMul, Nat.reduceLeDiff, Nat.reduceLT, Int.reduceLE, Int.reduceLT, reduceCtorEq]
  refine KL_indD k56_b0.eq_1 (fun x : Nat => [(1, .fptr (ints (mp f)) 0), (5, .list (aggs ((prm n).map mp))), (6, .int .i64 (kept f n x)), (7, .int .i64 x)]) (fun _ => []) (fun x => x ≤ (prm n).length) (fun x => (prm n).length - x) [1, 5, 6, 7] 0 (by simp [keep, kept]) ⟨_, rfl⟩ (Nat.zero_le _) (fun x hx => ?_) fun x hx ih => ?_
  · exact ⟨Nat.zero_le _, Env.undr_upto (by simp [Env.undr, PV.undr, undrX_ints, undrX_aggs, undrL_ints]), .nil _⟩
  try simp only [hlf, List.length_map, take6, List.drop_zero, Int.cast_ofNat_Int, go_sem, ↓reduceIte, Nat.reduceEqDiff, Nat.reduceAdd, Nat.reduceMul, Nat.reduceLeDiff, Nat.reduceLT, Int.reduceLE, Int.reduceLT, reduceCtorEq]
  refine ⟨fun h1 => ?_, fun h1 => ?_⟩
  · have hxl : x < (prm n).length := by omega
    have hg := prm_ok hf.pos hf.le (List.getElem_mem hxl)
    have hlg := hg.mp_len
    have e : ((prm n).map mp).getD x [] = mp (prm n)[x] := by simp [List.getD_eq_getElem?_getD, hxl]
    have hks := kept_succ f n hxl
    have hkl := kept_le f n x
    rw [e]
    try simp only [hlf, hlg, take6, List.drop_zero, Int.cast_ofNat_Int, go_sem, ↓reduceIte, Nat.reduceEqDiff, Nat.reduceAdd, Nat.reduceMul, Nat.reduceLeDiff, Nat.reduceLT, Int.reduceLE, Int.reduceLT, reduceCtorEq]
    refine ⟨by omega, fun _ => ⟨by omega, fun _ => ?_⟩⟩
    refine (p99 f _ n hf hg).pgo ?_
    try simp only [take6, List.drop_zero, Int.cast_ofNat_Int, go_sem, ↓reduceIte, Nat.reduceEqDiff, Nat.reduceAdd, Nat.reduceMul, Nat.reduceLeDiff, Nat.reduceLT, Int.reduceLE, Int.reduceLT, reduceCtorEq]
    refine (p99 _ f n hg hf).pgo ?_
    have k1 := (hf.mul hg).mp_len
    have k2 := (hg.mul hf).mp_len
    try simp only [k1, k2, take6, List.drop_zero, Int.cast_ofNat_Int, go_sem, ↓reduceIte, Nat.reduceEqDiff, Nat.reduceAdd, Nat.reduceMul, Nat.reduceLeDiff, Nat.reduceLT, Int.reduceLE, Int.reduceLT, reduceCtorEq]
    have hmi : mp (mul f (prm n)[x]) = mp (mul (prm n)[x] f) ↔ mul f (prm n)[x] = mul (prm n)[x] f := ⟨mp_inj, fun h => by rw [h]⟩
    refine ⟨fun h3 => ?_, fun h3 => ?_⟩
    all_goals
      first | rw [if_pos (hmi.1 h3)] at hks | rw [if_neg fun h => h3 (hmi.2 h)] at hks
      try refine ⟨by omega, ?_⟩
      try refine ⟨by omega, ?_⟩
      refine ih (x + 1) (by omega) (by omega) _ _ ?_ ⟨[], rfl⟩
      simp [keep, hks]
  · obtain rfl : x = (prm n).length := by omega
    have hk := kept_pos hf
    have hkl := kept_le f n (prm n).length
    try simp only [take6, List.drop_zero, Int.cast_ofNat_Int, go_sem, ↓reduceIte, Nat.reduceEqDiff, Nat.reduceAdd, Nat.reduceMul, Nat.reduceLeDiff, Nat.reduceLT, Int.reduceLE, Int.reduceLT, reduceCtorEq]
    have hd : ((prm n).length : Int) / (kept f n (prm n).length : Int) = (((prm n).length / kept f n (prm n).length : Nat) : Int) := by simp
    have hdl := Nat.div_le_self (prm n).length (kept f n (prm n).length)
    rw [hd]
    clear hd
    generalize (prm n).length / kept f n (prm n).length = D at *
    exact ⟨by omega, by omega, Kv.Fin.still ⟨rfl, rfl⟩⟩
end Go.Proofs.Ytkljidghocnllaa
