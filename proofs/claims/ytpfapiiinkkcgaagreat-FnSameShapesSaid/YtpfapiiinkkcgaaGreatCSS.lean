/- Numbers of maps of the same shape: both sides. -/
import Derived.Test.YtpfapiiinkkcgaaGreatCb
import Derived.Test.YtpfapiiinkkcgaaGreatG5
import Derived.Test.YtpfapiiinkkcgaaGreatOR
import Derived.Test.YtpfapiiinkkcgaaGreatCC
import Derived.Test.YtpfapiiinkkcgaaGreatG1
namespace Go.Proofs.YtpfapiiinkkcgaaGreat
open Go.Kv
set_option maxRecDepth 100000
/- impl.CountSameShape -/
/- live [1, 5, 6, 15, 16, 17] -/
def k53_b0 : KC := (.seq (.ops [⟨(some 18), none, .bin .lss (.t 17) (.t 16)⟩])
  (.seq (.cond (.t 18) .skip (.exit 0))
  (.seq (.block 1 (.seq (.ops [⟨(some 19), none, .idxS 6 (.t 15) (.t 17)⟩, ⟨(some 20), none, .load true 6 (.t 19)⟩, ⟨(some 8), none, .alloc [.int .i64 0, .int .i64 0, .int .i64 0, .int .i64 0, .int .i64 0, .int .i64 0]⟩, ⟨none, none, .store 6 (.t 8) (.t 20)⟩])
  (.seq (.ops [⟨(some 21), none, .load true 6 (.t 1)⟩, ⟨(some 22), none, .load true 6 (.t 8)⟩, ⟨(some 23), none, .call (.c (.fn (.func 130) [] [])) [(.t 21), (.t 22)]⟩])
  (.cond (.t 23) (.ops [⟨(some 24), none, .mv (.t 6)⟩, ⟨(some 25), none, .bin .add (.t 24) (.c (.int .i64 1))⟩, ⟨(some 6), none, .mv (.t 25)⟩]) .skip))))
  (.ops [⟨(some 26), none, .bin .add (.t 17) (.c (.int .i64 1))⟩, ⟨(some 17), none, .mv (.t 26)⟩]))))
def k53 : KC := (.seq (.ops [⟨(some 1), none, .box true (.t 0)⟩, ⟨(some 2), none, .mv (.c (.int .i64 0))⟩, ⟨(some 3), none, .mv (.c (.int .i64 0))⟩, ⟨(some 4), none, .mv (.c (.int .i64 0))⟩])
  (.seq (.seq (.ops [⟨(some 9), none, .load true 6 (.t 1)⟩, ⟨(some 10), none, .call (.c (.fn (.func 85) [] [])) [(.t 9)]⟩, ⟨(some 11), none, .not (.t 10)⟩])
  (.cond (.t 11) (.seq (.ops [⟨(some 2), none, .mv (.c (.int .i64 0))⟩, ⟨(some 3), none, .mv (.c (.int .i64 0))⟩, ⟨(some 4), none, .mv (.c (.int .i64 1))⟩])
  .ret) .skip))
  (.seq (.ops [⟨(some 12), none, .fieldA 0 (.t 1)⟩, ⟨(some 13), none, .load false 1 (.t 12)⟩, ⟨(some 14), none, .call (.c (.fn (.func 78) [] [])) [(.t 13)]⟩, ⟨(some 5), none, .mv (.t 14)⟩])
  (.seq (.ops [⟨(some 6), none, .mv (.c (.int .i64 0))⟩])
  (.seq (.seq (.ops [⟨(some 15), none, .mv (.t 5)⟩, ⟨(some 16), none, .len false (.t 15)⟩, ⟨(some 17), none, .mv (.c (.int .i64 0))⟩])
  (.block 0 (.loop k53_b0)))
  (.seq (.ops [⟨(some 27), none, .mv (.t 5)⟩, ⟨(some 28), none, .len false (.t 27)⟩, ⟨(some 29), none, .mv (.t 6)⟩, ⟨(some 30), none, .bin .quo (.t 28) (.t 29)⟩, ⟨(some 31), none, .mv (.t 6)⟩, ⟨(some 2), none, .mv (.t 30)⟩, ⟨(some 3), none, .mv (.t 31)⟩, ⟨(some 4), none, .mv (.c (.int .i64 0))⟩])
  .ret))))))
theorem e53 {args : List PV} {σ : Heap} {K : PV → Heap → Prop} (hl : args.length ≤ 32) (h : Wf σ → (∀ a ∈ args, PV.upto σ.length a) → vc (mkCfg Tryz.prog mixed [1] 32 σ.length) k53 (FinK σ.length [.t 2, .t 3, .t 4] K) (argEnv 0 args) σ) : ACall Tryz.prog 53 args σ K :=
  ACall_enter (C := mkCfg Tryz.prog mixed [1] 32 σ.length) (c := Tryz.f53.body.getD .skip) Tryz.func53 (by kernel_rfl) (by kernel_rfl) (by kernel_rfl) rfl hl (by kernel_rfl) (by kernel_rfl) h
/- spec.CountSameShape -/
/- live [1, 5, 6, 7] -/
def k54_b0 : KC := (.seq (.seq (.ops [⟨(some 15), none, .mv (.t 7)⟩, ⟨(some 16), none, .mv (.t 5)⟩, ⟨(some 17), none, .len false (.t 16)⟩, ⟨(some 18), none, .bin .lss (.t 15) (.t 17)⟩])
  (.cond (.t 18) .skip (.exit 0)))
  (.seq (.block 1 (.seq (.draw [⟨(some 21), none, .load true 6 (.t 1)⟩, ⟨(some 22), none, .mv (.t 5)⟩, ⟨(some 23), none, .mv (.t 7)⟩, ⟨(some 24), none, .idxS 6 (.t 22) (.t 23)⟩, ⟨(some 25), none, .load true 6 (.t 24)⟩, ⟨(some 27), none, .mv (.t 5)⟩, ⟨(some 28), none, .mv (.t 7)⟩, ⟨(some 29), none, .idxS 6 (.t 27) (.t 28)⟩, ⟨(some 30), none, .load true 6 (.t 29)⟩, ⟨(some 31), none, .load true 6 (.t 1)⟩, ⟨(some 26), none, .pcall (.c (.fn (.func 131) [] [])) [(.t 21), (.t 25)]⟩, ⟨(some 32), none, .pcall (.c (.fn (.func 131) [] [])) [(.t 30), (.t 31)]⟩, ⟨(some 33), none, .aeq false 6 (.t 26) (.t 32)⟩])
  (.cond (.t 33) (.ops [⟨(some 34), none, .mv (.t 6)⟩, ⟨(some 35), none, .bin .add (.t 34) (.c (.int .i64 1))⟩, ⟨(some 6), none, .mv (.t 35)⟩]) .skip)))
  (.ops [⟨(some 19), none, .mv (.t 7)⟩, ⟨(some 20), none, .bin .add (.t 19) (.c (.int .i64 1))⟩, ⟨(some 7), none, .mv (.t 20)⟩])))
def k54 : KC := (.seq (.ops [⟨(some 1), none, .box true (.t 0)⟩, ⟨(some 2), none, .mv (.c (.int .i64 0))⟩, ⟨(some 3), none, .mv (.c (.int .i64 0))⟩, ⟨(some 4), none, .mv (.c (.int .i64 0))⟩])
  (.seq (.seq (.ops [⟨(some 8), none, .load true 6 (.t 1)⟩, ⟨(some 9), none, .call (.c (.fn (.func 89) [] [])) [(.t 8)]⟩, ⟨(some 10), none, .not (.t 9)⟩])
  (.cond (.t 10) (.seq (.ops [⟨(some 2), none, .mv (.c (.int .i64 0))⟩, ⟨(some 3), none, .mv (.c (.int .i64 0))⟩, ⟨(some 4), none, .mv (.c (.int .i64 1))⟩])
  .ret) .skip))
  (.seq (.ops [⟨(some 11), none, .fieldA 0 (.t 1)⟩, ⟨(some 12), none, .load false 1 (.t 11)⟩, ⟨(some 13), none, .bsl false 2 1 []⟩, ⟨(some 14), none, .call (.c (.fn (.func 81) [] [])) [(.t 12), (.t 13)]⟩, ⟨(some 5), none, .mv (.t 14)⟩, ⟨(some 6), none, .mv (.c (.int .i64 0))⟩])
  (.seq (.seq (.ops [⟨(some 7), none, .mv (.c (.int .i64 0))⟩])
  (.block 0 (.loop k54_b0)))
  (.seq (.ops [⟨(some 36), none, .mv (.t 5)⟩, ⟨(some 37), none, .len false (.t 36)⟩, ⟨(some 38), none, .mv (.t 6)⟩, ⟨(some 39), none, .bin .quo (.t 37) (.t 38)⟩, ⟨(some 40), none, .mv (.t 6)⟩, ⟨(some 2), none, .mv (.t 39)⟩, ⟨(some 3), none, .mv (.t 40)⟩, ⟨(some 4), none, .mv (.c (.int .i64 0))⟩])
  .ret)))))
theorem e54 {args : List PV} {σ : Heap} {K : PV → Heap → Prop} (hl : args.length ≤ 41) (h : Wf σ → (∀ a ∈ args, PV.upto σ.length a) → vc (mkCfg Tryz.prog mixed [1] 41 σ.length) k54 (FinK σ.length [.t 2, .t 3, .t 4] K) (argEnv 0 args) σ) : ACall Tryz.prog 54 args σ K :=
  ACall_enter (C := mkCfg Tryz.prog mixed [1] 41 σ.length) (c := Tryz.f54.body.getD .skip) Tryz.func54 (by kernel_rfl) (by kernel_rfl) (by kernel_rfl) rfl hl (by kernel_rfl) (by kernel_rfl) h
end Go.Proofs.YtpfapiiinkkcgaaGreat
namespace Go.Proofs.YtpfapiiinkkcgaaGreat
open Go.Kv
set_option linter.unusedVariables false
set_option linter.unusedSimpArgs false
attribute [local irreducible] ACall PCall KL
theorem Imm.refaj {σ : Heap} {id ver n k : Nat} {e : TypeId} {l post : List (List Int)} (h : σ[id]? = some (.arr ver e n (aggs (l ++ post)))) (hk : k = l.length) : Imm σ (.ref id ver 0 k) (.list (aggs l)) := by
  subst hk
  have hg : ∀ (i : Nat) (x d : PV), (aggs (l ++ post))[0 + i]? = some x → (aggs l)[i]? = some d → x = d := fun i x d hx hd => by
    have hlt := (List.getElem?_eq_some_iff.1 hd).1
    rw [Nat.zero_add, ← aggs_append, List.getElem?_append_left hlt, hd] at hx
    exact (Option.some.inj hx).symm
  refine .ref id ver 0 l.length e n (aggs (l ++ post)) (aggs l) h (by simp [aggs_length]) (aggs_length l) (fun i x d hx hd => ?_) (fun i x d j c c' hx hd hc hc' => ?_)
  · obtain rfl := hg i x d hx hd
    obtain ⟨y, _, rfl⟩ := aggs_get hd
    exact ⟨rfl, ints_ok y⟩
  · obtain rfl := hg i x d hx hd
    obtain ⟨y, _, rfl⟩ := aggs_get hd
    rw [hc] at hc'; cases hc'
    exact .refl _ ((Plain.ints y c (List.mem_of_getElem? hc)).up)
/-- All permutations, as what nobody writes. -/
theorem p78 (n : Nat) (h1 : 1 ≤ n) (h5 : n ≤ 5) : Pure Tryz.prog 78 [.int .i64 n] (.list (aggs ((prm n).map mp))) := by
  have hnn := nn_le n (by omega)
  refine e78 (by simp) fun _ _ => ?_
  simp only [k78, argEnv, take6, List.drop_zero, Int.cast_ofNat_Int, go_sem, ↓reduceIte, Nat.reduceEqDiff, Nat.reduceAdd, Nat.reduceMul, Nat.reduceLeDiff, Nat.reduceLT, Int.reduceLE, Int.reduceLT, reduceCtorEq]
  refine (p79 n h1 h5).go fun v s ⟨hv, hs⟩ => ?_
  subst hv; subst hs
  try simp only [ren_ref, take6, List.drop_zero, Int.cast_ofNat_Int, go_sem, ↓reduceIte, Nat.reduceEqDiff, Nat.reduceAdd, Nat.reduceMul, Nat.reduceLeDiff, Nat.reduceLT, Int.reduceLE, Int.reduceLT, reduceCtorEq]
  have hml : (allM n).length = n ^ n := by simp [allM]
  refine delM _ 0 (n ^ n - 1) 34 (allM n) _ hml.symm rfl (fun g hg => by rw [(allM_ok h1 h5 hg).len]; exact h5) (by omega) 137 [] (fun g => !decide g.Nodup) (fun g hg => p137 g n (allM_ok h1 h5 hg)) fun post => ?_
  simp only [Bool.not_not]
  try simp only [take6, List.drop_zero, Int.cast_ofNat_Int, go_sem, ↓reduceIte, Nat.reduceEqDiff, Nat.reduceAdd, Nat.reduceMul, Nat.reduceLeDiff, Nat.reduceLT, Int.reduceLE, Int.reduceLT, reduceCtorEq]
  exact Kv.Fin.freeze (Imm.refaj (l := (prm n).map mp) (post := post) rfl (by simp [prm])) ⟨rfl, rfl⟩
def kept (f : List Nat) (n x : Nat) : Nat := (((prm n).take x).filter fun g => decide (mul f g = mul g f)).length
theorem kept_le (f : List Nat) (n x : Nat) : kept f n x ≤ x := by
  have := List.length_filter_le (fun g => decide (mul f g = mul g f)) ((prm n).take x)
  simp only [List.length_take] at this
  unfold kept; omega
theorem kept_succ (f : List Nat) (n : Nat) {x : Nat} (h : x < (prm n).length) : kept f n (x + 1) = kept f n x + if mul f (prm n)[x] = mul (prm n)[x] f then 1 else 0 := by
  unfold kept
  rw [List.take_succ_eq_append_getElem h, List.filter_append, List.length_append]
  by_cases hc : mul f (prm n)[x] = mul (prm n)[x] f
  · simp [hc]
  · simp [hc]
theorem kept_pos {f : List Nat} {n : Nat} (hf : Ok f n) : 1 ≤ kept f n (prm n).length := by
  unfold kept
  rw [List.take_length]
  have hm : List.range n ∈ (prm n).filter fun g => decide (mul f g = mul g f) := by
    refine List.mem_filter.2 ⟨range_prm hf.pos, decide_eq_true ?_⟩
    have e1 : mul f (List.range n) = f := by
      unfold mul
      conv => rhs; rw [← List.map_id f]
      refine List.map_congr_left fun x hx => ?_
      have := hf.lt x hx
      simp [List.getD_eq_getElem?_getD, this]
    have e2 : mul (List.range n) f = f := by
      apply List.ext_getElem (by simp [hf.len])
      intro i h1 h2
      simp [mul, List.getD_eq_getElem?_getD, h2]
    rw [e1, e2]
  exact List.length_pos_of_mem hm
theorem p53 (f : List Nat) (n : Nat) (hf : Ok f n) : Pure Tryz.prog 53 [.agg (ints (mp f))] (.tup [.int .i64 ((prm n).length / kept f n (prm n).length : Nat), .int .i64 (kept f n (prm n).length), .int .i64 0]) := by
  have hlf := hf.mp_len
  have hpl := prm_len hf.pos hf.le
  refine e53 (by simp) fun _ _ => ?_
  simp only [k53, argEnv, hlf, take6, List.drop_zero, Int.cast_ofNat_Int, go_sem, ↓reduceIte, Nat.reduceEqDiff, Nat.reduceAdd, Nat.reduceMul, Nat.reduceLeDiff, Nat.reduceLT, Int.reduceLE, Int.reduceLT, reduceCtorEq]
  refine (p85 (mp f) hlf).go ?_
  rw [isM_mp hf]
  try simp only [hlf, hf.len, take6, List.drop_zero, Int.cast_ofNat_Int, go_sem, ↓reduceIte, Nat.reduceEqDiff, Nat.reduceAdd, Nat.reduceMul, Nat.reduceLeDiff, Nat.reduceLT, Int.reduceLE, Int.reduceLT, reduceCtorEq]
  refine (p78 n hf.pos hf.le).go ?_
  try simp only [hlf, List.length_map, take6, List.drop_zero, Int.cast_ofNat_Int, go_sem, ↓reduceIte, Nat.reduceEqDiff, Nat.reduceAdd, Nat.reduceMul, Nat.reduceLeDiff, Nat.reduceLT, Int.reduceLE, Int.reduceLT, reduceCtorEq]
  refine KL_indD k53_b0.eq_1 (fun x : Nat => [(1, .fptr (ints (mp f)) 0), (5, .list (aggs ((prm n).map mp))), (6, .int .i64 (kept f n x)), (15, .list (aggs ((prm n).map mp))), (16, .int .i64 (prm n).length), (17, .int .i64 x)]) (fun _ => []) (fun x => x ≤ (prm n).length) (fun x => (prm n).length - x) [1, 5, 6, 15, 16, 17] 0 (by simp [keep, kept]) ⟨[], rfl⟩ (Nat.zero_le _) (fun x hx => ?_) fun x hx ih => ?_
  · exact ⟨Nat.zero_le _, Env.undr_upto (by simp [Env.undr, PV.undr, undrX_ints, undrX_aggs, undrL_ints]), .nil _⟩
  try simp only [hlf, List.length_map, take6, List.drop_zero, Int.cast_ofNat_Int, go_sem, ↓reduceIte, Nat.reduceEqDiff, Nat.reduceAdd, Nat.reduceMul, Nat.reduceLeDiff, Nat.reduceLT, Int.reduceLE, Int.reduceLT, reduceCtorEq]
  refine ⟨fun h1 => ?_, fun h1 => ?_⟩
  · have hxl : x < (prm n).length := by omega
    have hg := prm_ok hf.pos hf.le (List.getElem_mem hxl)
    have hlg := hg.mp_len
    have e : ((prm n).map mp).getD x [] = mp (prm n)[x] := by simp [List.getD_eq_getElem?_getD, hxl]
    have hks := kept_succ f n hxl
    have hkl := kept_le f n x
    rw [e]
    try simp only [hlf, hlg, take6, List.drop_zero, Int.cast_ofNat_Int, go_sem, ↓reduceIte, Nat.reduceEqDiff, Nat.reduceAdd, Nat.reduceMul, Nat.reduceLeDiff, Nat.reduceLT, Int.reduceLE, Int.reduceLT, reduceCtorEq]
    refine ⟨by omega, fun _ => ?_⟩
    refine (p130 f _ n hf hg).go ?_
    try simp only [take6, List.drop_zero, Int.cast_ofNat_Int, go_sem, ↓reduceIte, Nat.reduceEqDiff, Nat.reduceAdd, Nat.reduceMul, Nat.reduceLeDiff, Nat.reduceLT, Int.reduceLE, Int.reduceLT, reduceCtorEq]
    refine ⟨fun h3 => ?_, fun h3 => ?_⟩
    all_goals
      first | rw [if_pos h3] at hks | rw [if_neg h3] at hks
      try refine ⟨by omega, ?_⟩
      try refine ⟨by omega, ?_⟩
      refine ih (x + 1) (by omega) (by omega) _ _ ?_ ⟨[_], rfl⟩
      simp [keep, hks]
  · obtain rfl : x = (prm n).length := by omega
    have hk := kept_pos hf
    have hkl := kept_le f n (prm n).length
    try simp only [take6, List.drop_zero, Int.cast_ofNat_Int, go_sem, ↓reduceIte, Nat.reduceEqDiff, Nat.reduceAdd, Nat.reduceMul, Nat.reduceLeDiff, Nat.reduceLT, Int.reduceLE, Int.reduceLT, reduceCtorEq]
    have hd : ((prm n).length : Int) / (kept f n (prm n).length : Int) = (((prm n).length / kept f n (prm n).length : Nat) : Int) := by simp
    have hdl := Nat.div_le_self (prm n).length (kept f n (prm n).length)
    rw [hd]
    clear hd
    generalize (prm n).length / kept f n (prm n).length = D at *
    exact ⟨by omega, by omega, Kv.Fin.still ⟨rfl, rfl⟩⟩
theorem p53_out (m : List Int) (h6 : m.length = 6) (hm : isM m = false) : Pure Tryz.prog 53 [.agg (ints m)] (.tup [.int .i64 0, .int .i64 0, .int .i64 1]) := by
  refine e53 (by simp) fun _ _ => ?_
  simp only [k53, argEnv, h6, take6, List.drop_zero, Int.cast_ofNat_Int, go_sem, ↓reduceIte, Nat.reduceEqDiff, Nat.reduceAdd, Nat.reduceMul, Nat.reduceLeDiff, Nat.reduceLT, Int.reduceLE, Int.reduceLT, reduceCtorEq]
  refine (p85 m h6).go ?_
  rw [hm]
  try simp only [h6, take6, List.drop_zero, Int.cast_ofNat_Int, go_sem, ↓reduceIte, Nat.reduceEqDiff, Nat.reduceAdd, Nat.reduceMul, Nat.reduceLeDiff, Nat.reduceLT, Int.reduceLE, Int.reduceLT, reduceCtorEq]
  exact Kv.Fin.still ⟨rfl, rfl⟩
theorem p54_out (m : List Int) (h6 : m.length = 6) (hm : isM m = false) : Pure Tryz.prog 54 [.agg (ints m)] (.tup [.int .i64 0, .int .i64 0, .int .i64 1]) := by
  refine e54 (by simp) fun _ _ => ?_
  simp only [k54, argEnv, h6, take6, List.drop_zero, Int.cast_ofNat_Int, go_sem, ↓reduceIte, Nat.reduceEqDiff, Nat.reduceAdd, Nat.reduceMul, Nat.reduceLeDiff, Nat.reduceLT, Int.reduceLE, Int.reduceLT, reduceCtorEq]
  refine (p89 m h6).go ?_
  rw [hm]
  try simp only [h6, take6, List.drop_zero, Int.cast_ofNat_Int, go_sem, ↓reduceIte, Nat.reduceEqDiff, Nat.reduceAdd, Nat.reduceMul, Nat.reduceLeDiff, Nat.reduceLT, Int.reduceLE, Int.reduceLT, reduceCtorEq]
  exact Kv.Fin.still ⟨rfl, rfl⟩
theorem p54 (f : List Nat) (n : Nat) (hf : Ok f n) : Pure Tryz.prog 54 [.agg (ints (mp f))] (.tup [.int .i64 ((prm n).length / kept f n (prm n).length : Nat), .int .i64 (kept f n (prm n).length), .int .i64 0]) := by
  have hlf := hf.mp_len
  have hpl := prm_len hf.pos hf.le
  refine e54 (by simp) fun _ _ => ?_
  simp only [k54, argEnv, hlf, take6, List.drop_zero, Int.cast_ofNat_Int, go_sem, ↓reduceIte, Nat.reduceEqDiff, Nat.reduceAdd, Nat.reduceMul, Nat.reduceLeDiff, Nat.reduceLT, Int.reduceLE, Int.reduceLT, reduceCtorEq]
  refine (p89 (mp f) hlf).go ?_
  rw [isM_mp hf]
  try simp only [hlf, hf.len, take6, List.drop_zero, Int.cast_ofNat_Int, go_sem, ↓reduceIte, Nat.reduceEqDiff, Nat.reduceAdd, Nat.reduceMul, Nat.reduceLeDiff, Nat.reduceLT, Int.reduceLE, Int.reduceLT, reduceCtorEq]
  refine (p81 n hf.pos hf.le n [] (by simp) (by simp)).give (id := 0) rfl (.cons Imm.still (.cons (Imm.refn (l := []) (solo_get (o := .arr 0 2 1 (ints [])) rfl) rfl) (.nil _))) ?_
  rw [ords_all n hf.pos]
  try simp only [hlf, List.length_map, take6, List.drop_zero, Int.cast_ofNat_Int, go_sem, ↓reduceIte, Nat.reduceEqDiff, Nat.reduceAdd, Nat.reduceMul, Nat.reduceLeDiff, Nat.reduceLT, Int.reduceLE, Int.reduceLT, reduceCtorEq]
  refine KL_indD k54_b0.eq_1 (fun x : Nat => [(1, .fptr (ints (mp f)) 0), (5, .list (aggs ((prm n).map mp))), (6, .int .i64 (kept f n x)), (7, .int .i64 x)]) (fun _ => []) (fun x => x ≤ (prm n).length) (fun x => (prm n).length - x) [1, 5, 6, 7] 0 (by simp [keep, kept]) ⟨_, rfl⟩ (Nat.zero_le _) (fun x hx => ?_) fun x hx ih => ?_
  · exact ⟨Nat.zero_le _, Env.undr_upto (by simp [Env.undr, PV.undr, undrX_ints, undrX_aggs, undrL_ints]), .nil _⟩
  try simp only [hlf, List.length_map, take6, List.drop_zero, Int.cast_ofNat_Int, go_sem, ↓reduceIte, Nat.reduceEqDiff, Nat.reduceAdd, Nat.reduceMul, Nat.reduceLeDiff, Nat.reduceLT, Int.reduceLE, Int.reduceLT, reduceCtorEq]
  refine ⟨fun h1 => ?_, fun h1 => ?_⟩
  · have hxl : x < (prm n).length := by omega
    have hg := prm_ok hf.pos hf.le (List.getElem_mem hxl)
    have hlg := hg.mp_len
    have e : ((prm n).map mp).getD x [] = mp (prm n)[x] := by simp [List.getD_eq_getElem?_getD, hxl]
    have hks := kept_succ f n hxl
    have hkl := kept_le f n x
    rw [e]
    try simp only [hlf, hlg, take6, List.drop_zero, Int.cast_ofNat_Int, go_sem, ↓reduceIte, Nat.reduceEqDiff, Nat.reduceAdd, Nat.reduceMul, Nat.reduceLeDiff, Nat.reduceLT, Int.reduceLE, Int.reduceLT, reduceCtorEq]
    refine ⟨by omega, fun _ => ⟨by omega, fun _ => ?_⟩⟩
    refine (p131 f _ n hf hg).pgo ?_
    try simp only [take6, List.drop_zero, Int.cast_ofNat_Int, go_sem, ↓reduceIte, Nat.reduceEqDiff, Nat.reduceAdd, Nat.reduceMul, Nat.reduceLeDiff, Nat.reduceLT, Int.reduceLE, Int.reduceLT, reduceCtorEq]
    refine (p131 _ f n hg hf).pgo ?_
    have k1 := (hf.mul hg).mp_len
    have k2 := (hg.mul hf).mp_len
    try simp only [k1, k2, take6, List.drop_zero, Int.cast_ofNat_Int, go_sem, ↓reduceIte, Nat.reduceEqDiff, Nat.reduceAdd, Nat.reduceMul, Nat.reduceLeDiff, Nat.reduceLT, Int.reduceLE, Int.reduceLT, reduceCtorEq]
    have hmi : mp (mul f (prm n)[x]) = mp (mul (prm n)[x] f) ↔ mul f (prm n)[x] = mul (prm n)[x] f := ⟨mp_inj, fun h => by rw [h]⟩
    refine ⟨fun h3 => ?_, fun h3 => ?_⟩
    all_goals
      first | rw [if_pos (hmi.1 h3)] at hks | rw [if_neg fun h => h3 (hmi.2 h)] at hks
      try refine ⟨by omega, ?_⟩
      try refine ⟨by omega, ?_⟩
      refine ih (x + 1) (by omega) (by omega) _ _ ?_ ⟨[], rfl⟩
      simp [keep, hks]
  · obtain rfl : x = (prm n).length := by omega
    have hk := kept_pos hf
    have hkl := kept_le f n (prm n).length
    try simp only [take6, List.drop_zero, Int.cast_ofNat_Int, go_sem, ↓reduceIte, Nat.reduceEqDiff, Nat.reduceAdd, Nat.reduceMul, Nat.reduceLeDiff, Nat.reduceLT, Int.reduceLE, Int.reduceLT, reduceCtorEq]
    have hd : ((prm n).length : Int) / (kept f n (prm n).length : Int) = (((prm n).length / kept f n (prm n).length : Nat) : Int) := by simp
    have hdl := Nat.div_le_self (prm n).length (kept f n (prm n).length)
    rw [hd]
    clear hd
    generalize (prm n).length / kept f n (prm n).length = D at *
    exact ⟨by omega, by omega, Kv.Fin.still ⟨rfl, rfl⟩⟩
end Go.Proofs.YtpfapiiinkkcgaaGreat
