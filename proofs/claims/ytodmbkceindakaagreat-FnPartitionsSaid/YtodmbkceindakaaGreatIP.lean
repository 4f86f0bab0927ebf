/- The invariant partitions of a list: both sides. -/
import Derived.Test.YtodmbkceindakaaGreatCb
import Derived.Test.YtodmbkceindakaaGreatG4
import Derived.Test.YtodmbkceindakaaGreatDR
import Derived.Test.YtodmbkceindakaaGreatG2
namespace Go.Proofs.YtodmbkceindakaaGreat
open Go.Kv
set_option maxRecDepth 100000
/- impl.invariantPartitions -/
def k29 : KC := (.seq (.ops [⟨(some 1), none, .box true (.t 0)⟩, ⟨(some 2), none, .mv (.c (.nils))⟩])
  (.seq (.ops [⟨(some 3), none, .load false 1 (.t 1)⟩, ⟨(some 4), none, .idxS 6 (.t 3) (.c (.int .i64 0))⟩, ⟨(some 5), none, .fieldA 0 (.t 4)⟩, ⟨(some 6), none, .load false 1 (.t 5)⟩, ⟨(some 7), none, .call (.c (.fn (.func 48) [] [])) [(.t 6)]⟩, ⟨(some 8), none, .mkfn (.func 49) [] [(.t 1)]⟩, ⟨(some 9), none, .call (.c (.fn (.func 47) [] [])) [(.t 7), (.t 8)]⟩, ⟨(some 2), none, .mv (.t 9)⟩])
  .ret))
theorem e29 {args : List PV} {σ : Heap} {K : PV → Heap → Prop} (hl : args.length ≤ 10) (h : Wf σ → (∀ a ∈ args, PV.upto σ.length a) → vc (mkCfg Tryz.prog mixed [1] 10 σ.length) k29 (FinK σ.length [.t 2] K) (argEnv 0 args) σ) : ACall Tryz.prog 29 args σ K :=
  ACall_enter (C := mkCfg Tryz.prog mixed [1] 10 σ.length) (c := Tryz.f29.body.getD .skip) Tryz.func29 (by kernel_rfl) (by kernel_rfl) (by kernel_rfl) rfl hl (by kernel_rfl) (by kernel_rfl) h
/- impl.invariantPartitions$1 -/
def k49 : KC := (.seq (.ops [⟨(some 3), none, .mv (.c (.bool false))⟩])
  (.seq (.ops [⟨(some 4), none, .load false 1 (.t 1)⟩, ⟨(some 5), none, .mv (.t 0)⟩, ⟨(some 6), none, .call (.c (.fn (.func 26) [] [])) [(.t 4), (.t 5)]⟩, ⟨(some 7), none, .not (.t 6)⟩, ⟨(some 3), none, .mv (.t 7)⟩])
  .ret))
theorem e49 {args : List PV} {σ : Heap} {K : PV → Heap → Prop} (hl : args.length ≤ 8) (h : Wf σ → (∀ a ∈ args, PV.upto σ.length a) → vc (mkCfg Tryz.prog mixed [] 8 σ.length) k49 (FinK σ.length [.t 3] K) (argEnv 0 args) σ) : ACall Tryz.prog 49 args σ K :=
  ACall_enter (C := mkCfg Tryz.prog mixed [] 8 σ.length) (c := Tryz.f49.body.getD .skip) Tryz.func49 (by kernel_rfl) (by kernel_rfl) (by kernel_rfl) rfl hl (by kernel_rfl) (by kernel_rfl) h
/- impl.InvariantPartitions -/
def k12 : KC := (.seq (.ops [⟨(some 2), none, .mv (.c (.nils))⟩, ⟨(some 3), none, .mv (.c (.int .i64 0))⟩])
  (.seq (.seq (.ops [⟨(some 5), none, .mv (.t 0)⟩, ⟨(some 6), none, .call (.c (.fn (.func 24) [] [])) [(.t 5), (.c (.nils))]⟩, ⟨(some 4), none, .mv (.t 6)⟩])
  (.seq (.ops [⟨(some 7), none, .mv (.t 4)⟩, ⟨(some 8), none, .bin .neq (.t 7) (.c (.int .i64 0))⟩])
  (.cond (.t 8) (.seq (.ops [⟨(some 9), none, .mv (.t 4)⟩, ⟨(some 2), none, .mv (.c (.nils))⟩, ⟨(some 3), none, .mv (.t 9)⟩])
  .ret) .skip)))
  (.seq (.ops [⟨(some 10), none, .mv (.t 0)⟩, ⟨(some 11), none, .call (.c (.fn (.func 29) [] [])) [(.t 10)]⟩, ⟨(some 2), none, .mv (.t 11)⟩, ⟨(some 3), none, .mv (.c (.int .i64 0))⟩])
  .ret)))
theorem e12 {args : List PV} {σ : Heap} {K : PV → Heap → Prop} (hl : args.length ≤ 12) (h : Wf σ → (∀ a ∈ args, PV.upto σ.length a) → vc (mkCfg Tryz.prog mixed [] 12 σ.length) k12 (FinK σ.length [.t 2, .t 3] K) (argEnv 0 args) σ) : ACall Tryz.prog 12 args σ K :=
  ACall_enter (C := mkCfg Tryz.prog mixed [] 12 σ.length) (c := Tryz.f12.body.getD .skip) Tryz.func12 (by kernel_rfl) (by kernel_rfl) (by kernel_rfl) rfl hl (by kernel_rfl) (by kernel_rfl) h
/- spec.InvariantPartitions -/
def k13 : KC := (.seq (.ops [⟨(some 2), none, .mv (.c (.nils))⟩, ⟨(some 3), none, .mv (.c (.int .i64 0))⟩])
  (.seq (.seq (.ops [⟨(some 5), none, .mv (.t 0)⟩, ⟨(some 6), none, .call (.c (.fn (.func 30) [] [])) [(.t 5), (.c (.nils))]⟩, ⟨(some 4), none, .mv (.t 6)⟩])
  (.seq (.ops [⟨(some 7), none, .mv (.t 4)⟩, ⟨(some 8), none, .bin .neq (.t 7) (.c (.int .i64 0))⟩])
  (.cond (.t 8) (.seq (.ops [⟨(some 9), none, .mv (.t 4)⟩, ⟨(some 2), none, .mv (.c (.nils))⟩, ⟨(some 3), none, .mv (.t 9)⟩])
  .ret) .skip)))
  (.seq (.ops [⟨(some 10), none, .mv (.t 0)⟩, ⟨(some 11), none, .call (.c (.fn (.func 31) [] [])) [(.t 10)]⟩, ⟨(some 2), none, .mv (.t 11)⟩, ⟨(some 3), none, .mv (.c (.int .i64 0))⟩])
  .ret)))
theorem e13 {args : List PV} {σ : Heap} {K : PV → Heap → Prop} (hl : args.length ≤ 12) (h : Wf σ → (∀ a ∈ args, PV.upto σ.length a) → vc (mkCfg Tryz.prog mixed [] 12 σ.length) k13 (FinK σ.length [.t 2, .t 3] K) (argEnv 0 args) σ) : ACall Tryz.prog 13 args σ K :=
  ACall_enter (C := mkCfg Tryz.prog mixed [] 12 σ.length) (c := Tryz.f13.body.getD .skip) Tryz.func13 (by kernel_rfl) (by kernel_rfl) (by kernel_rfl) rfl hl (by kernel_rfl) (by kernel_rfl) h
/- spec.l10All -/
/- live [0, 3, 4, 5] -/
def k31_b0 : KC := (.seq (.seq (.ops [⟨(some 13), none, .mv (.t 5)⟩, ⟨(some 14), none, .mv (.t 3)⟩, ⟨(some 15), none, .len false (.t 14)⟩, ⟨(some 16), none, .bin .lss (.t 13) (.t 15)⟩])
  (.cond (.t 16) .skip (.exit 0)))
  (.seq (.block 1 (.seq (.ops [⟨(some 19), none, .mv (.t 0)⟩, ⟨(some 20), none, .mv (.t 3)⟩, ⟨(some 21), none, .mv (.t 5)⟩, ⟨(some 22), none, .idxS 1 (.t 20) (.t 21)⟩, ⟨(some 23), none, .load false 1 (.t 22)⟩, ⟨(some 24), none, .call (.c (.fn (.func 21) [] [])) [(.t 19), (.t 23)]⟩])
  (.cond (.t 24) (.ops [⟨(some 25), none, .mv (.t 4)⟩, ⟨(some 26), none, .mv (.t 3)⟩, ⟨(some 27), none, .mv (.t 5)⟩, ⟨(some 28), none, .idxS 1 (.t 26) (.t 27)⟩, ⟨(some 29), none, .load false 1 (.t 28)⟩, ⟨(some 30), none, .bsl true 25 1 [(.t 29)]⟩, ⟨(some 31), none, .app (.t 25) (.t 30) 25 1⟩, ⟨(some 4), none, .mv (.t 31)⟩]) .skip)))
  (.ops [⟨(some 17), none, .mv (.t 5)⟩, ⟨(some 18), none, .bin .add (.t 17) (.c (.int .i64 1))⟩, ⟨(some 5), none, .mv (.t 18)⟩])))
def k31 : KC := (.seq (.ops [⟨(some 2), none, .mv (.c (.nils))⟩])
  (.seq (.ops [⟨(some 6), none, .bsl false 2 1 [(.c (.int .i64 0))]⟩, ⟨(some 7), none, .mv (.t 0)⟩, ⟨(some 8), none, .idxS 6 (.t 7) (.c (.int .i64 0))⟩, ⟨(some 9), none, .fieldA 0 (.t 8)⟩, ⟨(some 10), none, .load false 1 (.t 9)⟩, ⟨(some 11), none, .call (.c (.fn (.func 52) [] [])) [(.t 6), (.c (.int .i64 1)), (.t 10)]⟩, ⟨(some 12), none, .bsl false 25 1 []⟩, ⟨(some 3), none, .mv (.t 11)⟩, ⟨(some 4), none, .mv (.t 12)⟩])
  (.seq (.seq (.ops [⟨(some 5), none, .mv (.c (.int .i64 0))⟩])
  (.block 0 (.loop k31_b0)))
  (.seq (.ops [⟨(some 32), none, .mv (.t 4)⟩, ⟨(some 2), none, .mv (.t 32)⟩])
  .ret))))
theorem e31 {args : List PV} {σ : Heap} {K : PV → Heap → Prop} (hl : args.length ≤ 33) (h : Wf σ → (∀ a ∈ args, PV.upto σ.length a) → vc (mkCfg Tryz.prog mixed [30] 33 σ.length) k31 (FinK σ.length [.t 2] K) (argEnv 0 args) σ) : ACall Tryz.prog 31 args σ K :=
  ACall_enter (C := mkCfg Tryz.prog mixed [30] 33 σ.length) (c := Tryz.f31.body.getD .skip) Tryz.func31 (by kernel_rfl) (by kernel_rfl) (by kernel_rfl) rfl hl (by kernel_rfl) (by kernel_rfl) h
end Go.Proofs.YtodmbkceindakaaGreat
namespace Go.Proofs.YtodmbkceindakaaGreat
open Go.Kv
set_option linter.unusedVariables false
set_option linter.unusedSimpArgs false
attribute [local irreducible] ACall PCall KL
noncomputable def ivs (fs : List (List Nat)) (n : Nat) : List (List Int) := (prt n).filter (iv fs)
theorem ivs_ok {fs : List (List Nat)} {n : Nat} (h5 : n ≤ 5) : (ivs fs n).length ≤ 52 ∧ ∀ P ∈ ivs fs n, P.length = n :=
  ⟨Nat.le_trans (List.length_filter_le _ _) (prt_len h5), fun P hP => (prt_ok h5 (List.mem_filter.1 hP).1).1⟩
theorem p49 (fs : List (List Nat)) (n : Nat) (P : List Int) (hP : P.length = n) (h5 : n ≤ 5) (hf : ∀ f ∈ fs, Ok f n) (hl : fs.length ≤ 1048576) : Pure Tryz.prog 49 [.list (ints P), .fptr [.list (aggs (fs.map mp))] 0] (.bool (!iv fs P)) := by
  refine e49 (by simp) fun _ _ => ?_
  simp only [k49, argEnv, take6, List.drop_zero, Int.cast_ofNat_Int, go_sem, ↓reduceIte, Nat.reduceEqDiff, Nat.reduceAdd, Nat.reduceMul, Nat.reduceLeDiff, Nat.reduceLT, Int.reduceLE, Int.reduceLT, reduceCtorEq]
  refine (p26 fs n P hP h5 hf hl).go ?_
  try simp only [take6, List.drop_zero, Int.cast_ofNat_Int, go_sem, ↓reduceIte, Nat.reduceEqDiff, Nat.reduceAdd, Nat.reduceMul, Nat.reduceLeDiff, Nat.reduceLT, Int.reduceLE, Int.reduceLT, reduceCtorEq]
  exact Kv.Fin.still ⟨rfl, rfl⟩
theorem p29 (fs : List (List Nat)) (n : Nat) (h1 : 1 ≤ n) (h5 : n ≤ 5) (hf : ∀ f ∈ fs, Ok f n) (h0 : 0 < fs.length) (hl : fs.length ≤ 1048576) : ACall Tryz.prog 29 [.list (aggs (fs.map mp))] [] (fun v s => TabN 25 2 s v (ivs fs n) ∧ Free s) := by
  have hk := hf _ (List.getElem_mem h0)
  have h6k := hk.mp_len
  have hlen := hk.len
  have hpl := prt_len h5
  refine e29 (by simp) fun _ _ => ?_
  simp only [k29, argEnv, take6, List.drop_zero, Int.cast_ofNat_Int, go_sem, ↓reduceIte, Nat.reduceEqDiff, Nat.reduceAdd, Nat.reduceMul, Nat.reduceLeDiff, Nat.reduceLT, Int.reduceLE, Int.reduceLT, reduceCtorEq]
  try simp only [map_getD h0, h6k, hlen, List.length_map, take6, List.drop_zero, Int.cast_ofNat_Int, go_sem, ↓reduceIte, Nat.reduceEqDiff, Nat.reduceAdd, Nat.reduceMul, Nat.reduceLeDiff, Nat.reduceLT, Int.reduceLE, Int.reduceLT, reduceCtorEq]
  refine ⟨by omega, fun _ => ?_⟩
  refine (p48 n h5).mono fun v s ⟨hT, hfr⟩ => ?_
  try simp only [take6, List.drop_zero, Int.cast_ofNat_Int, go_sem, ↓reduceIte, Nat.reduceEqDiff, Nat.reduceAdd, Nat.reduceMul, Nat.reduceLeDiff, Nat.reduceLT, Int.reduceLE, Int.reduceLT, reduceCtorEq]
  refine (p47 hT hfr (by omega) 49 [.fptr [.list (aggs (fs.map mp))] 0] ?_ (fun P => !iv fs P) fun P hP => ?_).mono fun v' s' ⟨hT', hf'⟩ => ?_
  · exact StillL.up inferInstance
  · exact p49 fs n P (prt_ok h5 hP).1 h5 hf hl
  · try simp only [take6, List.drop_zero, Int.cast_ofNat_Int, go_sem, ↓reduceIte, Nat.reduceEqDiff, Nat.reduceAdd, Nat.reduceMul, Nat.reduceLeDiff, Nat.reduceLT, Int.reduceLE, Int.reduceLT, reduceCtorEq]
    have e : (prt n).filter (fun x => !!iv fs x) = ivs fs n := by simp [ivs]
    rw [e] at hT'
    exact Kv.Fin.now ⟨hT', hf'⟩
/-- What the specification gives, and the program. -/
noncomputable def ipc (a : List (List Int)) : List (List Int) := if lcode a [] = 0 then ivs (a.map um) ((a.getD 0 []).getD 0 0).toNat else []
theorem p12 (a : List (List Int)) (ha : a.length ≤ 1048576) (h6 : ∀ r ∈ a, r.length = 6) : NewTO Tryz.prog 12 [.list (aggs a)] 25 2 (ipc a) (lcode a []) := by
  refine NewTN.own ?_
  unfold NewTN
  refine e12 (by simp) fun _ _ => ?_
  simp only [k12, argEnv, take6, List.drop_zero, Int.cast_ofNat_Int, go_sem, ↓reduceIte, Nat.reduceEqDiff, Nat.reduceAdd, Nat.reduceMul, Nat.reduceLeDiff, Nat.reduceLT, Int.reduceLE, Int.reduceLT, reduceCtorEq]
  refine (p24 _ a [] .nil ha (by simp) h6 (by simp)).go ?_
  try simp only [take6, List.drop_zero, Int.cast_ofNat_Int, go_sem, ↓reduceIte, Nat.reduceEqDiff, Nat.reduceAdd, Nat.reduceMul, Nat.reduceLeDiff, Nat.reduceLT, Int.reduceLE, Int.reduceLT, reduceCtorEq]
  refine ⟨fun h1 => ?_, fun h1 => ?_⟩
  · exact Kv.Fin.now ⟨.nils, by simp [h1], by rw [ipc, if_neg h1]; exact .nil, .nil⟩
  · obtain ⟨fs, n, rfl, hf, hl1, hl2, hn, hn1, hn5⟩ := lcode_maps h6 h1
    have e : ipc (fs.map mp) = ivs fs n := by rw [ipc, if_pos h1, map_um, hn]; rfl
    rw [e, h1]
    refine (p29 fs n hn1 hn5 hf (by omega) (by omega)).mono fun v s ⟨hT, hfr⟩ => ?_
    try simp only [take6, List.drop_zero, Int.cast_ofNat_Int, go_sem, ↓reduceIte, Nat.reduceEqDiff, Nat.reduceAdd, Nat.reduceMul, Nat.reduceLeDiff, Nat.reduceLT, Int.reduceLE, Int.reduceLT, reduceCtorEq]
    exact Kv.Fin.now ⟨v, rfl, hT, hfr⟩
theorem p31 (fs : List (List Nat)) (n : Nat) (h1 : 1 ≤ n) (h5 : n ≤ 5) (hf : ∀ f ∈ fs, Ok f n) (h0 : 0 < fs.length) (hl : fs.length ≤ 1048576) : Pure Tryz.prog 31 [.list (aggs (fs.map mp))] (.list (rows (ivs fs n))) := by
  have hk := hf _ (List.getElem_mem h0)
  have h6k := hk.mp_len
  have hlen := hk.len
  have hpl := prt_len h5
  refine e31 (by simp) fun _ _ => ?_
  simp only [k31, argEnv, take6, List.drop_zero, Int.cast_ofNat_Int, go_sem, ↓reduceIte, Nat.reduceEqDiff, Nat.reduceAdd, Nat.reduceMul, Nat.reduceLeDiff, Nat.reduceLT, Int.reduceLE, Int.reduceLT, reduceCtorEq]
  try simp only [map_getD h0, h6k, hlen, List.length_map, take6, List.drop_zero, Int.cast_ofNat_Int, go_sem, ↓reduceIte, Nat.reduceEqDiff, Nat.reduceAdd, Nat.reduceMul, Nat.reduceLeDiff, Nat.reduceLT, Int.reduceLE, Int.reduceLT, reduceCtorEq]
  refine ⟨by omega, fun _ => ?_⟩
  refine (p52 n h5 (n - 1) [0] 1 (by simp; omega) (by omega) (by simp)).give (id := 0) rfl (.cons (Imm.refn (solo_get rfl) (by simp)) (.cons Imm.still (.cons Imm.still (.nil _)))) ?_
  rw [spt_eq h1 h5]
  try simp only [take6, List.drop_zero, Int.cast_ofNat_Int, go_sem, ↓reduceIte, Nat.reduceEqDiff, Nat.reduceAdd, Nat.reduceMul, Nat.reduceLeDiff, Nat.reduceLT, Int.reduceLE, Int.reduceLT, reduceCtorEq]
  refine KL_ind k31_b0.eq_1 (fun x : Nat × Nat => [(0, .list (aggs (fs.map mp))), (3, .list (rows (prt n))), (4, .ref 1 x.2 0 (((prt n).take x.1).filter (iv fs)).length), (5, .int .i64 x.1)]) (fun x => [.dead, .arr x.2 25 1 (rows (((prt n).take x.1).filter (iv fs)))]) (fun x => x.1 ≤ (prt n).length) (fun x => (prt n).length - x.1) [0, 3, 4, 5] (0, 0) (by simp [keep]) (by rfl) (Nat.zero_le _) fun ⟨x, ver⟩ hx ih => ?_
  simp only at hx
  have hfl := List.length_filter_le (iv fs) ((prt n).take x)
  simp only [List.length_take] at hfl
  try simp only [take6, List.drop_zero, Int.cast_ofNat_Int, go_sem, ↓reduceIte, Nat.reduceEqDiff, Nat.reduceAdd, Nat.reduceMul, Nat.reduceLeDiff, Nat.reduceLT, Int.reduceLE, Int.reduceLT, reduceCtorEq]
  refine ⟨fun h2 => ⟨h2, fun hxl => ?_⟩, fun h2 => ?_⟩
  · have hfs := filter_take_succ (p := iv fs) hxl
    have hP := prt_ok h5 (List.getElem_mem hxl)
    rw [getD_eq hxl]
    refine (p21 fs n _ hP.1 h5 hf hl).go ?_
    try simp only [take6, List.drop_zero, Int.cast_ofNat_Int, go_sem, ↓reduceIte, Nat.reduceEqDiff, Nat.reduceAdd, Nat.reduceMul, Nat.reduceLeDiff, Nat.reduceLT, Int.reduceLE, Int.reduceLT, reduceCtorEq]
    refine ⟨fun h3 => ?_, fun h3 => ?_⟩
    · rw [if_pos h3] at hfs
      rw [getD_eq hxl]
      refine ⟨by omega, fun _ => ⟨by omega, by omega, ih (x + 1, ver + 1) (by show x + 1 ≤ (prt n).length; omega) (by show (prt n).length - (x + 1) < (prt n).length - x; omega) _ _ (by simp [keep, hfs]) (by first | (rw [hfs]; done) | (rw [hfs]; simp [rows]; done) | rfl)⟩⟩
    · rw [if_neg (by simp [h3]), List.append_nil] at hfs
      refine ⟨by omega, ih (x + 1, ver) (by show x + 1 ≤ (prt n).length; omega) (by show (prt n).length - (x + 1) < (prt n).length - x; omega) _ _ (by simp [keep, hfs]) (by first | (rw [hfs]; done) | rfl)⟩
  · obtain rfl : x = (prt n).length := by omega
    rw [List.take_length]
    exact Kv.Fin.freeze (Imm.refr rfl rfl) ⟨rfl, rfl⟩
theorem p13 (a : List (List Int)) (ha : a.length ≤ 1048576) (h6 : ∀ r ∈ a, r.length = 6) : Pure Tryz.prog 13 [.list (aggs a)] (.tup [if lcode a [] = 0 then .list (rows (ipc a)) else .nils, .int .i64 (lcode a [])]) := by
  refine e13 (by simp) fun _ _ => ?_
  simp only [k13, argEnv, take6, List.drop_zero, Int.cast_ofNat_Int, go_sem, ↓reduceIte, Nat.reduceEqDiff, Nat.reduceAdd, Nat.reduceMul, Nat.reduceLeDiff, Nat.reduceLT, Int.reduceLE, Int.reduceLT, reduceCtorEq]
  refine (p30n a ha h6).go ?_
  try simp only [take6, List.drop_zero, Int.cast_ofNat_Int, go_sem, ↓reduceIte, Nat.reduceEqDiff, Nat.reduceAdd, Nat.reduceMul, Nat.reduceLeDiff, Nat.reduceLT, Int.reduceLE, Int.reduceLT, reduceCtorEq]
  refine ⟨fun h1 => ?_, fun h1 => ?_⟩
  · rw [if_neg h1]; exact Kv.Fin.still ⟨rfl, rfl⟩
  · obtain ⟨fs, n, rfl, hf, hl1, hl2, hn, hn1, hn5⟩ := lcode_maps h6 h1
    have e : ipc (fs.map mp) = ivs fs n := by rw [ipc, if_pos h1, map_um, hn]; rfl
    rw [e, h1, if_pos rfl]
    refine (p31 fs n hn1 hn5 hf (by omega) (by omega)).go ?_
    try simp only [take6, List.drop_zero, Int.cast_ofNat_Int, go_sem, ↓reduceIte, Nat.reduceEqDiff, Nat.reduceAdd, Nat.reduceMul, Nat.reduceLeDiff, Nat.reduceLT, Int.reduceLE, Int.reduceLT, reduceCtorEq]
    exact Kv.Fin.still ⟨rfl, rfl⟩
end Go.Proofs.YtodmbkceindakaaGreat
