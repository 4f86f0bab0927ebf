/- Strong parts: the implementation. -/
import Derived.Test.YtodmbkceindakaaGreatCb
import Derived.Test.YtodmbkceindakaaGreatG6
import Derived.Test.YtodmbkceindakaaGreatFD
import Derived.Test.YtodmbkceindakaaGreatG5
import Derived.Test.YtodmbkceindakaaGreatG2
import Derived.Test.YtodmbkceindakaaGreatG4
namespace Go.Proofs.YtodmbkceindakaaGreat
open Go.Kv
set_option maxRecDepth 100000
/- slices.Contains[[]int64,int64] -/
def k57 : KC := (.seq (.ops [⟨(some 4), none, .mv (.c (.bool false))⟩])
  (.seq (.ops [⟨(some 5), none, .mv (.t 0)⟩, ⟨(some 6), none, .mv (.t 1)⟩, ⟨(some 7), none, .call (.c (.fn (.func 44) [] [])) [(.t 5), (.t 6)]⟩, ⟨(some 8), none, .bin .geq (.t 7) (.c (.int .i64 0))⟩, ⟨(some 4), none, .mv (.t 8)⟩])
  .ret))
theorem e57 {args : List PV} {σ : Heap} {K : PV → Heap → Prop} (hl : args.length ≤ 9) (h : Wf σ → (∀ a ∈ args, PV.upto σ.length a) → vc (mkCfg Tryz.prog mixed [] 9 σ.length) k57 (FinK σ.length [.t 4] K) (argEnv 0 args) σ) : ACall Tryz.prog 57 args σ K :=
  ACall_enter (C := mkCfg Tryz.prog mixed [] 9 σ.length) (c := Tryz.f57.body.getD .skip) Tryz.func57 (by kernel_rfl) (by kernel_rfl) (by kernel_rfl) rfl hl (by kernel_rfl) (by kernel_rfl) h
/- impl.strongParts -/
/- live [1, 3, 9, 10] -/
def k35_b0 : KC := (.seq (.ops [⟨(some 11), none, .bin .lss (.t 10) (.t 9)⟩])
  (.seq (.cond (.t 11) .skip (.exit 0))
  (.seq (.block 1 (.seq (.ops [⟨(some 12), none, .mv (.t 10)⟩, ⟨(some 4), none, .alloc [.int .i64 0]⟩, ⟨none, none, .store 1 (.t 4) (.t 12)⟩])
  (.seq (.ops [⟨(some 13), none, .load false 1 (.t 1)⟩, ⟨(some 14), none, .load false 1 (.t 4)⟩, ⟨(some 15), none, .call (.c (.fn (.func 55) [] [])) [(.t 13), (.t 14)]⟩, ⟨(some 16), none, .mkfn (.func 56) [] [(.t 1), (.t 4)]⟩, ⟨(some 17), none, .call (.c (.fn (.func 54) [] [])) [(.t 15), (.t 16)]⟩, ⟨(some 5), none, .mv (.t 17)⟩])
  (.seq (.draw [⟨(some 18), none, .mv (.t 5)⟩, ⟨(some 19), none, .idxS 1 (.t 18) (.c (.int .i64 0))⟩, ⟨(some 20), none, .load false 1 (.t 19)⟩, ⟨(some 21), none, .load false 1 (.t 4)⟩, ⟨(some 22), none, .bin .eql (.t 20) (.t 21)⟩])
  (.cond (.t 22) (.ops [⟨(some 23), none, .mv (.t 3)⟩, ⟨(some 24), none, .mv (.t 5)⟩, ⟨(some 25), none, .bsl true 25 1 [(.t 24)]⟩, ⟨(some 26), none, .app (.t 23) (.t 25) 25 1⟩, ⟨(some 3), none, .mv (.t 26)⟩]) .skip)))))
  (.ops [⟨(some 27), none, .bin .add (.t 10) (.c (.int .i64 1))⟩, ⟨(some 10), none, .mv (.t 27)⟩]))))
def k35 : KC := (.seq (.ops [⟨(some 1), none, .box true (.t 0)⟩, ⟨(some 2), none, .mv (.c (.nils))⟩])
  (.seq (.ops [⟨(some 3), none, .mv (.c (.nils))⟩])
  (.seq (.seq (.ops [⟨(some 6), none, .load false 1 (.t 1)⟩, ⟨(some 7), none, .idxS 6 (.t 6) (.c (.int .i64 0))⟩, ⟨(some 8), none, .fieldA 0 (.t 7)⟩, ⟨(some 9), none, .load false 1 (.t 8)⟩, ⟨(some 10), none, .mv (.c (.int .i64 0))⟩])
  (.block 0 (.loop k35_b0)))
  (.seq (.ops [⟨(some 28), none, .mv (.t 3)⟩, ⟨(some 2), none, .mv (.t 28)⟩])
  .ret))))
theorem e35 {args : List PV} {σ : Heap} {K : PV → Heap → Prop} (hl : args.length ≤ 29) (h : Wf σ → (∀ a ∈ args, PV.upto σ.length a) → vc (mkCfg Tryz.prog mixed [1, 25] 29 σ.length) k35 (FinK σ.length [.t 2] K) (argEnv 0 args) σ) : ACall Tryz.prog 35 args σ K :=
  ACall_enter (C := mkCfg Tryz.prog mixed [1, 25] 29 σ.length) (c := Tryz.f35.body.getD .skip) Tryz.func35 (by kernel_rfl) (by kernel_rfl) (by kernel_rfl) rfl hl (by kernel_rfl) (by kernel_rfl) h
/- impl.strongParts$1 -/
def k56 : KC := (.seq (.ops [⟨(some 4), none, .mv (.c (.bool false))⟩])
  (.seq (.draw [⟨(some 5), none, .load false 1 (.t 1)⟩, ⟨(some 6), none, .mv (.t 0)⟩, ⟨(some 8), none, .load false 1 (.t 2)⟩, ⟨(some 7), none, .pcall (.c (.fn (.func 55) [] [])) [(.t 5), (.t 6)]⟩, ⟨(some 9), none, .pcall (.c (.fn (.func 57) [] [])) [(.t 7), (.t 8)]⟩, ⟨(some 10), none, .not (.t 9)⟩, ⟨(some 4), none, .mv (.t 10)⟩])
  .ret))
theorem e56 {args : List PV} {σ : Heap} {K : PV → Heap → Prop} (hl : args.length ≤ 11) (h : Wf σ → (∀ a ∈ args, PV.upto σ.length a) → vc (mkCfg Tryz.prog mixed [] 11 σ.length) k56 (FinK σ.length [.t 4] K) (argEnv 0 args) σ) : ACall Tryz.prog 56 args σ K :=
  ACall_enter (C := mkCfg Tryz.prog mixed [] 11 σ.length) (c := Tryz.f56.body.getD .skip) Tryz.func56 (by kernel_rfl) (by kernel_rfl) (by kernel_rfl) rfl hl (by kernel_rfl) (by kernel_rfl) h
end Go.Proofs.YtodmbkceindakaaGreat
namespace Go.Proofs.YtodmbkceindakaaGreat
open Go.Kv
set_option linter.unusedVariables false
set_option linter.unusedSimpArgs false
attribute [local irreducible] ACall PCall KL
theorem p57 (l : List Int) (k : Int) (hl : l.length ≤ 1048576) : Pure Tryz.prog 57 [.list (ints l), .int .i64 k] (.bool (decide (k ∈ l))) := by
  refine e57 (by simp) fun _ _ => ?_
  simp only [k57, argEnv, take6, List.drop_zero, Int.cast_ofNat_Int, go_sem, ↓reduceIte, Nat.reduceEqDiff, Nat.reduceAdd, Nat.reduceMul, Nat.reduceLeDiff, Nat.reduceLT, Int.reduceLE, Int.reduceLT, reduceCtorEq]
  refine (p44 l k hl).go ?_
  try simp only [OpK_eq, HKv, take6, List.drop_zero, Int.cast_ofNat_Int, go_sem, ↓reduceIte, Nat.reduceEqDiff, Nat.reduceAdd, Nat.reduceMul, Nat.reduceLeDiff, Nat.reduceLT, Int.reduceLE, Int.reduceLT, reduceCtorEq]
  refine Kv.Fin.still ⟨?_, rfl⟩
  congr 1
  cases hany : l.any (fun y => decide (k = y)) with
  | false =>
    rw [idx_none hany, decide_eq_false (by omega), decide_eq_false]
    intro h
    rw [List.any_eq_false] at hany
    exact hany k h (by simp)
  | true =>
    obtain ⟨i0, hi0, hno, hyes⟩ := any_split hany
    rw [idx_some hi0 hno hyes, decide_eq_true (by omega), decide_eq_true]
    have : k = l[i0] := by simpa using hyes
    rw [this]; exact List.getElem_mem _
theorem p55F (fs : List (List Nat)) (n : Nat) (hf : ∀ f ∈ fs, Ok f n) (hn5 : n ≤ 5) (hfl : fs.length ≤ 1000) (q : Nat) (hq : q < n) : Pure Tryz.prog 55 [.list (aggs (fs.map mp)), .int .i64 q] (.list (ints (nz (orb fs q)))) :=
  ACall.ret (p55 fs n hf hn5 hfl q hq) fun v s ⟨hv, hs⟩ => by
    subst hv; subst hs
    exact Kv.Fin.freeze (Imm.refn rfl (nz_len _).symm) ⟨rfl, rfl⟩
theorem nz_mem (l : List Nat) (x : Nat) : (x : Int) ∈ nz l ↔ x ∈ l := by
  unfold nz
  rw [List.mem_map]
  exact ⟨fun ⟨y, h, e⟩ => by have : y = x := by omega
                             rwa [this] at h, fun h => ⟨x, h, rfl⟩⟩
/-- slices.DeleteFunc on an own slice, its function's captured variables lent. -/
theorem delOn {σ : Heap} {id ver : Nat} {l : List Int} (hid : σ[id]? = some (.arr ver 2 1 (ints l))) (hl : l.length ≤ 4294967296) (fid : FuncId) (caps caps' : List PV) (hi : ImmL (σ.set id .dead) caps caps') (hu : ∀ c ∈ caps', PV.upto 0 c) (p : Int → Bool) (hp : ∀ x ∈ l, Pure Tryz.prog fid (.int .i64 x :: caps') (.bool (p x))) {K : PV → Heap → Prop}
    (hK : ∀ post, K (.ref id ver 0 (l.filter fun x => !p x).length) (σ.set id (.arr ver 2 1 (ints ((l.filter fun x => !p x) ++ post))))) : ACall Tryz.prog 54 [.ref id ver 0 l.length, .fn (.func fid) [] caps] σ K := by
  refine ACall.lendOn hid (fun c hc => flat_intsP c hc) (p54 ver l hl fid caps' hu p hp) rfl (fun i c d hc hd => ?_) (fun v s ⟨hv, post, hs⟩ => ?_)
  · rcases i with _ | _ | i
    · simp only [List.getElem?_cons_zero, Option.some.injEq] at hc hd; subst hc; subst hd
      exact .inr ⟨_, _, _, rfl, rfl⟩
    · simp only [List.getElem?_cons_succ, List.getElem?_cons_zero, Option.some.injEq] at hc hd; subst hc; subst hd
      exact .inl (Imm.fnc _ hi)
    · simp at hc
  · subst hv; subst hs
    refine ⟨_, _, rfl, ⟨free_ref _ _ _ _, Free.ints _ _ _ _⟩, ?_⟩
    simp only [ren_ref, ren_arr, ren_ints, List.map_nil, List.append_nil]
    exact hK post
theorem Imm.ptr1 {σ : Heap} {id : Nat} {c : PV} (h : σ[id]? = some (.box [c])) (hok : c.ok = true) (hc : Imm σ c c) : Imm σ (.ptr id 0) (.fptr [c] 0) :=
  .ptr id 0 [c] [c] h rfl (by simpa using hok) fun i a b ha hb => by
    cases i with
    | zero => simp at ha hb; subst ha; subst hb; exact hc
    | succ i => simp at ha
open Classical in
theorem p56 (fs : List (List Nat)) (n : Nat) (hf : ∀ f ∈ fs, Ok f n) (hn5 : n ≤ 5) (hfl : fs.length ≤ 1000) (q x : Nat) (hq : q < n) : Pure Tryz.prog 56 [.int .i64 q, .fptr [.list (aggs (fs.map mp))] 0, .fptr [.int .i64 x] 0] (.bool (!decide (Rea fs q x))) := by
  have h5 := orb_len fs q
  refine e56 (by simp) fun _ _ => ?_
  simp only [k56, argEnv, take6, List.drop_zero, Int.cast_ofNat_Int, go_sem, ↓reduceIte, Nat.reduceEqDiff, Nat.reduceAdd, Nat.reduceMul, Nat.reduceLeDiff, Nat.reduceLT, Int.reduceLE, Int.reduceLT, reduceCtorEq]
  refine (p55F fs n hf hn5 hfl q hq).fgo ?_
  try simp only [OpK_eq, HKv, take6, List.drop_zero, Int.cast_ofNat_Int, go_sem, ↓reduceIte, Nat.reduceEqDiff, Nat.reduceAdd, Nat.reduceMul, Nat.reduceLeDiff, Nat.reduceLT, Int.reduceLE, Int.reduceLT, reduceCtorEq]
  refine (p57 (nz (orb fs q)) x (by rw [nz_len]; omega)).pgo ?_
  try simp only [OpK_eq, HKv, take6, List.drop_zero, Int.cast_ofNat_Int, go_sem, ↓reduceIte, Nat.reduceEqDiff, Nat.reduceAdd, Nat.reduceMul, Nat.reduceLeDiff, Nat.reduceLT, Int.reduceLE, Int.reduceLT, reduceCtorEq]
  refine Kv.Fin.still ⟨?_, rfl⟩
  congr 2
  exact decide_eq_decide.2 ((nz_mem _ _).trans (orb_mem hf hn5 hq x))
open Classical in
/-- The strong part of a point. -/
noncomputable def prtL (fs : List (List Nat)) (p : Nat) : List Nat := (orb fs p).filter fun q => decide (Rea fs q p)
open Classical in
/-- Whether a point is the first of its strong part. -/
noncomputable def rep (fs : List (List Nat)) (p : Nat) : Bool := decide (∀ q, q < p → ¬ (Rea fs p q ∧ Rea fs q p))
/-- The strong parts of the points below x. -/
noncomputable def strong (fs : List (List Nat)) (x : Nat) : List (List Int) := ((List.range x).filter (rep fs)).map fun p => nz (prtL fs p)
theorem strong_succ (fs : List (List Nat)) (x : Nat) : strong fs (x + 1) = strong fs x ++ if rep fs x = true then [nz (prtL fs x)] else [] := by
  unfold strong
  rw [List.range_succ, List.filter_append, List.map_append]
  congr 1
  by_cases h : rep fs x = true <;> simp [h]
theorem strong_len (fs : List (List Nat)) (x : Nat) : (strong fs x).length ≤ x := by
  have := List.length_filter_le (rep fs) (List.range x)
  simpa [strong] using this
open Classical in
theorem prtL_mem {fs : List (List Nat)} {n p : Nat} (hf : ∀ f ∈ fs, Ok f n) (hn : n ≤ 5) (hp : p < n) (q : Nat) : q ∈ prtL fs p ↔ Rea fs p q ∧ Rea fs q p := by
  unfold prtL
  rw [List.mem_filter, orb_mem hf hn hp, decide_eq_true_iff]
open Classical in
theorem prtL_asc (fs : List (List Nat)) (p : Nat) : (prtL fs p).Pairwise (· < ·) := List.Pairwise.filter _ (orb_asc fs p)
open Classical in
theorem prtL_len (fs : List (List Nat)) (p : Nat) : (prtL fs p).length ≤ 5 := by
  have := List.length_filter_le (fun q => decide (Rea fs q p)) (orb fs p)
  have := orb_len fs p
  unfold prtL; omega
theorem prtL_pos {fs : List (List Nat)} {n p : Nat} (hf : ∀ f ∈ fs, Ok f n) (hn : n ≤ 5) (hp : p < n) : 0 < (prtL fs p).length :=
  List.length_pos_of_mem ((prtL_mem hf hn hp p).2 ⟨.here, .here⟩)
open Classical in
theorem prtL_zero {fs : List (List Nat)} {n p : Nat} (hf : ∀ f ∈ fs, Ok f n) (hn : n ≤ 5) (hp : p < n) : ((nz (prtL fs p)).getD 0 0 = (p : Int)) ↔ rep fs p = true := by
  have hpos := prtL_pos hf hn hp
  have e : (nz (prtL fs p)).getD 0 0 = ((prtL fs p)[0] : Int) := by simp [nz, List.getD_eq_getElem?_getD, hpos]
  rw [e]
  have hmem := (prtL_mem hf hn hp (prtL fs p)[0]).1 (List.getElem_mem _)
  have hle : ∀ q ∈ prtL fs p, (prtL fs p)[0] ≤ q := fun q hq => by
    obtain ⟨i, hi, rfl⟩ := List.getElem_of_mem hq
    by_cases h0 : i = 0
    · subst h0; exact Nat.le_refl _
    · have := (List.pairwise_iff_getElem.1 (prtL_asc fs p)) 0 i hpos hi (by omega)
      omega
  have hpp := hle p ((prtL_mem hf hn hp p).2 ⟨.here, .here⟩)
  unfold rep
  rw [decide_eq_true_iff]
  constructor
  · intro h q hq hm
    have := hle q ((prtL_mem hf hn hp q).2 hm)
    omega
  · intro h
    rcases Nat.lt_or_ge (prtL fs p)[0] p with h1 | h1
    · exact absurd hmem (h _ h1)
    · omega
open Classical in
theorem filter_nz (fs : List (List Nat)) (x : Nat) : (nz (orb fs x)).filter (fun y => !(!decide (Rea fs y.toNat x))) = nz (prtL fs x) := by
  unfold nz prtL
  rw [List.filter_map]
  congr 1
  refine List.filter_congr fun q _ => ?_
  simp
open Classical in
theorem p35 (fs : List (List Nat)) (n : Nat) (h1 : 1 ≤ n) (hn5 : n ≤ 5) (hf : ∀ f ∈ fs, Ok f n) (h0 : 0 < fs.length) (hfl : fs.length ≤ 1000) : ACall Tryz.prog 35 [.list (aggs (fs.map mp))] [] (fun v s => TabN 25 2 s v (strong fs n) ∧ Free s) := by
  have hk := hf _ (List.getElem_mem h0)
  have h6k := hk.mp_len
  have hlen := hk.len
  refine e35 (by simp) fun _ _ => ?_
  simp only [k35, argEnv, take6, List.drop_zero, Int.cast_ofNat_Int, go_sem, ↓reduceIte, Nat.reduceEqDiff, Nat.reduceAdd, Nat.reduceMul, Nat.reduceLeDiff, Nat.reduceLT, Int.reduceLE, Int.reduceLT, reduceCtorEq]
  try simp only [map_getD h0, h6k, hlen, List.length_map, take6, List.drop_zero, Int.cast_ofNat_Int, go_sem, ↓reduceIte, Nat.reduceEqDiff, Nat.reduceAdd, Nat.reduceMul, Nat.reduceLeDiff, Nat.reduceLT, Int.reduceLE, Int.reduceLT, reduceCtorEq]
  refine ⟨by omega, fun _ => ?_⟩
  refine KL_ind k35_b0.eq_1 (fun x : Nat × PV × Heap => [(1, .fptr [.list (aggs (fs.map mp))] 0), (3, x.2.1), (9, .int .i64 n), (10, .int .i64 x.1)]) (fun x => x.2.2) (fun x => x.1 ≤ n ∧ TabN 25 2 x.2.2 x.2.1 (strong fs x.1) ∧ Free x.2.2) (fun x => n - x.1) [1, 3, 9, 10] (0, .nils, []) (by simp [keep]) rfl ⟨Nat.zero_le _, .nil, .nil⟩ fun ⟨x, v, σ⟩ ⟨hx, hT, hfr⟩ ih => ?_
  simp only at hx hT hfr
  have hsl := strong_len fs x
  have hss := strong_succ fs x
  try simp only [OpK_eq, HKv, take6, List.drop_zero, Int.cast_ofNat_Int, go_sem, ↓reduceIte, Nat.reduceEqDiff, Nat.reduceAdd, Nat.reduceMul, Nat.reduceLeDiff, Nat.reduceLT, Int.reduceLE, Int.reduceLT, reduceCtorEq]
  refine ⟨fun h2 => ?_, fun h2 => ?_⟩
  · have hxn : x < n := by omega
    have hpos := prtL_pos hf hn5 hxn
    have hz := prtL_zero hf hn5 hxn
    have hsetb : ∀ a b : AObj, (σ ++ [a]).set σ.length b = σ ++ [b] := fun a b => by simp [List.set_append_right]
    have hgetb : ∀ a : AObj, (σ ++ [a])[σ.length]? = some a := fun a => by simp
    have hput : ∀ v, putC [PV.int .i64 0] 0 [v] = [v] := fun v => by unfold putC; first | rfl | (split <;> rfl) | simp
    try simp only [OpK_eq, HKv, hsetb, hgetb, hput, take6, List.drop_zero, Int.cast_ofNat_Int, go_sem, ↓reduceIte, Nat.reduceEqDiff, Nat.reduceAdd, Nat.reduceMul, Nat.reduceLeDiff, Nat.reduceLT, Int.reduceLE, Int.reduceLT, reduceCtorEq]
    have hbl : (σ ++ [AObj.box [PV.int .i64 x]]).length = σ.length + 1 := by simp
    have hbx : (σ ++ [AObj.box [PV.int .i64 x]])[σ.length]? = some (.box [.int .i64 x]) := hgetb _
    have hTb := hT.append [AObj.box [PV.int .i64 x]]
    have hfb : Free (σ ++ [AObj.box [PV.int .i64 x]]) := hfr.append (Free.boxI [(x : Int)])
    clear hsetb hgetb
    generalize hσb : σ ++ [AObj.box [PV.int .i64 x]] = σb at *
    clear hσb
    refine (p55 fs n hf hn5 hfl x hxn).go fun v1 s1 ⟨hv1, hs1⟩ => ?_
    subst hv1; subst hs1
    have hself : ∀ a : AObj, (σb ++ [a])[σb.length]? = some a := fun a => by simp
    have hset : ∀ a b : AObj, (σb ++ [a]).set σb.length b = σb ++ [b] := fun a b => by simp [List.set_append_right]
    have hold : ∀ a : AObj, (σb ++ [a])[σ.length]? = some (.box [.int .i64 x]) := fun a => by rw [List.getElem?_append_left (by omega)]; exact hbx
    try simp only [OpK_eq, HKv, ren_ref, ren_arr, ren_ints, take6, List.drop_zero, Int.cast_ofNat_Int, go_sem, ↓reduceIte, Nat.reduceEqDiff, Nat.reduceAdd, Nat.reduceMul, Nat.reduceLeDiff, Nat.reduceLT, Int.reduceLE, Int.reduceLT, reduceCtorEq]
    rw [← nz_len (orb fs x)]
    refine delOn (hself _) (by rw [nz_len]; have := orb_len fs x; omega) 56 _ [.fptr [.list (aggs (fs.map mp))] 0, .fptr [.int .i64 x] 0] (.cons Imm.still (.cons (Imm.ptr1 ?_ rfl Imm.still) (.nil _))) (StillL.up inferInstance) (fun y => !decide (Rea fs y.toNat x)) (fun y hy => ?_) fun post => ?_
    · rw [hset]; exact hold _
    · obtain ⟨z, hz', rfl⟩ := List.mem_map.1 (show y ∈ (orb fs x).map (fun x : Nat => (x : Int)) from hy)
      exact p56 fs n hf hn5 hfl z x (reaLt hf hxn ((orb_mem hf hn5 hxn z).1 hz'))
    rw [hset, filter_nz, nz_len]
    have hg0 : (nz (prtL fs x) ++ post).getD 0 0 = (nz (prtL fs x)).getD 0 0 := by
      rw [List.getD_eq_getElem?_getD, List.getD_eq_getElem?_getD, List.getElem?_append_left (by rw [nz_len]; exact hpos)]
    try simp only [OpK_eq, HKv, hself, hold, take6, List.drop_zero, Int.cast_ofNat_Int, go_sem, ↓reduceIte, Nat.reduceEqDiff, Nat.reduceAdd, Nat.reduceMul, Nat.reduceLeDiff, Nat.reduceLT, Int.reduceLE, Int.reduceLT, reduceCtorEq]
    have hlp := prtL_len fs x
    have hnl := nz_len (prtL fs x)
    rw [hg0]
    refine ⟨⟨by omega, by omega⟩, by omega, fun _ => ⟨fun h3 => ?_, fun h3 => ?_⟩⟩
    · rw [hz] at h3
      rw [if_pos h3] at hss
      have e : nz (prtL fs x) ++ post = [] ++ nz (prtL fs x) ++ post := rfl
      rw [e]
      refine TabN.pushNew (pre := []) (l := nz (prtL fs x)) (post := post) (vr := 0) (o := 0) hTb hfb rfl rfl (by omega) fun v2 σ2 q1 q2 => ?_
      rw [← hss] at q1
      try simp only [OpK_eq, HKv, take6, List.drop_zero, Int.cast_ofNat_Int, go_sem, ↓reduceIte, Nat.reduceEqDiff, Nat.reduceAdd, Nat.reduceMul, Nat.reduceLeDiff, Nat.reduceLT, Int.reduceLE, Int.reduceLT, reduceCtorEq]
      exact ⟨by omega, ih (x + 1, v2, σ2) ⟨by show x + 1 ≤ n; omega, q1, q2⟩ (by show n - (x + 1) < n - x; omega) _ _ (by simp [keep]) rfl⟩
    · rw [hz] at h3
      rw [if_neg h3, List.append_nil] at hss
      exact ⟨by omega, ih (x + 1, v, σb ++ [.arr 0 2 1 (ints (nz (prtL fs x) ++ post))]) ⟨by show x + 1 ≤ n; omega, by rw [hss]; exact hTb.append _, hfb.append (Free.ints _ _ _ _)⟩ (by show n - (x + 1) < n - x; omega) _ _ (by simp [keep]) rfl⟩
  · obtain rfl : x = n := by omega
    exact Kv.Fin.now ⟨hT, hfr⟩
end Go.Proofs.YtodmbkceindakaaGreat
