/- Primitive lists: both sides. -/
import Derived.Test.YtodmbkceindakaaGreatCb
import Derived.Test.YtodmbkceindakaaGreatSQ
import Derived.Test.YtodmbkceindakaaGreatIP
import Derived.Test.YtodmbkceindakaaGreatG3
namespace Go.Proofs.YtodmbkceindakaaGreat
open Go.Kv
set_option maxRecDepth 100000
/- impl.IsPrimitive -/
def k15 : KC := (.seq (.ops [⟨(some 2), none, .mv (.c (.bool false))⟩, ⟨(some 3), none, .mv (.c (.int .i64 0))⟩])
  (.seq (.seq (.ops [⟨(some 7), none, .mv (.t 0)⟩, ⟨(some 8), none, .call (.c (.fn (.func 24) [] [])) [(.t 7), (.c (.nils))]⟩, ⟨(some 4), none, .mv (.t 8)⟩])
  (.seq (.ops [⟨(some 9), none, .mv (.t 4)⟩, ⟨(some 10), none, .bin .neq (.t 9) (.c (.int .i64 0))⟩])
  (.cond (.t 10) (.seq (.ops [⟨(some 11), none, .mv (.t 4)⟩, ⟨(some 2), none, .mv (.c (.bool false))⟩, ⟨(some 3), none, .mv (.t 11)⟩])
  .ret) .skip)))
  (.seq (.ops [⟨(some 12), none, .mv (.t 0)⟩, ⟨(some 13), none, .idxS 6 (.t 12) (.c (.int .i64 0))⟩, ⟨(some 14), none, .fieldA 0 (.t 13)⟩, ⟨(some 15), none, .load false 1 (.t 14)⟩, ⟨(some 5), none, .alloc [.int .i64 0]⟩, ⟨none, none, .store 1 (.t 5) (.t 15)⟩])
  (.seq (.ops [⟨(some 16), none, .mv (.t 0)⟩, ⟨(some 17), none, .call (.c (.fn (.func 29) [] [])) [(.t 16)]⟩, ⟨(some 18), none, .mkfn (.func 34) [] [(.t 5)]⟩, ⟨(some 19), none, .call (.c (.fn (.func 33) [] [])) [(.t 17), (.t 18)]⟩, ⟨(some 6), none, .mv (.t 19)⟩])
  (.seq (.ops [⟨(some 20), none, .mv (.t 0)⟩, ⟨(some 21), none, .call (.c (.fn (.func 35) [] [])) [(.t 20)]⟩, ⟨(some 22), none, .len false (.t 21)⟩, ⟨(some 23), none, .bin .eql (.t 22) (.c (.int .i64 1))⟩, ⟨(some 24), none, .mv (.t 23)⟩, ⟨(some 25), some (24, true), .mv (.t 6)⟩, ⟨(some 26), some (24, true), .not (.t 25)⟩, ⟨(some 27), none, .pick (.t 24) (.t 26) (.c (.bool false))⟩, ⟨(some 2), none, .mv (.t 27)⟩, ⟨(some 3), none, .mv (.c (.int .i64 0))⟩])
  .ret)))))
theorem e15 {args : List PV} {σ : Heap} {K : PV → Heap → Prop} (hl : args.length ≤ 28) (h : Wf σ → (∀ a ∈ args, PV.upto σ.length a) → vc (mkCfg Tryz.prog mixed [] 28 σ.length) k15 (FinK σ.length [.t 2, .t 3] K) (argEnv 0 args) σ) : ACall Tryz.prog 15 args σ K :=
  ACall_enter (C := mkCfg Tryz.prog mixed [] 28 σ.length) (c := Tryz.f15.body.getD .skip) Tryz.func15 (by kernel_rfl) (by kernel_rfl) (by kernel_rfl) rfl hl (by kernel_rfl) (by kernel_rfl) h
/- impl.IsPrimitive$1 -/
def k34 : KC := (.seq (.ops [⟨(some 3), none, .mv (.c (.bool false))⟩])
  (.seq (.draw [⟨(some 4), none, .mv (.t 0)⟩, ⟨(some 5), none, .pcall (.c (.fn (.func 19) [] [])) [(.t 4)]⟩, ⟨(some 6), none, .bin .gtr (.t 5) (.c (.int .i64 1))⟩, ⟨(some 7), none, .mv (.t 6)⟩, ⟨(some 8), some (7, true), .mv (.t 0)⟩, ⟨(some 10), some (7, true), .load false 1 (.t 1)⟩, ⟨(some 9), some (7, true), .pcall (.c (.fn (.func 19) [] [])) [(.t 8)]⟩, ⟨(some 11), some (7, true), .bin .lss (.t 9) (.t 10)⟩, ⟨(some 12), none, .pick (.t 7) (.t 11) (.c (.bool false))⟩, ⟨(some 3), none, .mv (.t 12)⟩])
  .ret))
theorem e34 {args : List PV} {σ : Heap} {K : PV → Heap → Prop} (hl : args.length ≤ 13) (h : Wf σ → (∀ a ∈ args, PV.upto σ.length a) → vc (mkCfg Tryz.prog mixed [] 13 σ.length) k34 (FinK σ.length [.t 3] K) (argEnv 0 args) σ) : ACall Tryz.prog 34 args σ K :=
  ACall_enter (C := mkCfg Tryz.prog mixed [] 13 σ.length) (c := Tryz.f34.body.getD .skip) Tryz.func34 (by kernel_rfl) (by kernel_rfl) (by kernel_rfl) rfl hl (by kernel_rfl) (by kernel_rfl) h
/- spec.IsPrimitive -/
def k16 : KC := (.seq (.ops [⟨(some 2), none, .mv (.c (.bool false))⟩, ⟨(some 3), none, .mv (.c (.int .i64 0))⟩])
  (.seq (.seq (.ops [⟨(some 6), none, .mv (.t 0)⟩, ⟨(some 7), none, .call (.c (.fn (.func 30) [] [])) [(.t 6), (.c (.nils))]⟩, ⟨(some 4), none, .mv (.t 7)⟩])
  (.seq (.ops [⟨(some 8), none, .mv (.t 4)⟩, ⟨(some 9), none, .bin .neq (.t 8) (.c (.int .i64 0))⟩])
  (.cond (.t 9) (.seq (.ops [⟨(some 10), none, .mv (.t 4)⟩, ⟨(some 2), none, .mv (.c (.bool false))⟩, ⟨(some 3), none, .mv (.t 10)⟩])
  .ret) .skip)))
  (.seq (.ops [⟨(some 5), none, .mv (.c (.int .i64 2))⟩])
  (.seq (.seq (.ops [⟨(some 11), none, .mv (.t 0)⟩, ⟨(some 12), none, .idxS 6 (.t 11) (.c (.int .i64 0))⟩, ⟨(some 13), none, .fieldA 0 (.t 12)⟩, ⟨(some 14), none, .load false 1 (.t 13)⟩, ⟨(some 15), none, .bin .eql (.t 14) (.c (.int .i64 1))⟩])
  (.cond (.t 15) (.ops [⟨(some 5), none, .mv (.c (.int .i64 1))⟩]) .skip))
  (.seq (.ops [⟨(some 16), none, .mv (.t 0)⟩, ⟨(some 17), none, .call (.c (.fn (.func 36) [] [])) [(.t 16)]⟩, ⟨(some 18), none, .len false (.t 17)⟩, ⟨(some 19), none, .bin .eql (.t 18) (.c (.int .i64 1))⟩, ⟨(some 20), none, .mv (.t 19)⟩, ⟨(some 21), some (20, true), .mv (.t 0)⟩, ⟨(some 22), some (20, true), .call (.c (.fn (.func 31) [] [])) [(.t 21)]⟩, ⟨(some 23), some (20, true), .len false (.t 22)⟩, ⟨(some 24), some (20, true), .mv (.t 5)⟩, ⟨(some 25), some (20, true), .bin .eql (.t 23) (.t 24)⟩, ⟨(some 26), none, .pick (.t 20) (.t 25) (.c (.bool false))⟩, ⟨(some 2), none, .mv (.t 26)⟩, ⟨(some 3), none, .mv (.c (.int .i64 0))⟩])
  .ret)))))
theorem e16 {args : List PV} {σ : Heap} {K : PV → Heap → Prop} (hl : args.length ≤ 27) (h : Wf σ → (∀ a ∈ args, PV.upto σ.length a) → vc (mkCfg Tryz.prog mixed [] 27 σ.length) k16 (FinK σ.length [.t 2, .t 3] K) (argEnv 0 args) σ) : ACall Tryz.prog 16 args σ K :=
  ACall_enter (C := mkCfg Tryz.prog mixed [] 27 σ.length) (c := Tryz.f16.body.getD .skip) Tryz.func16 (by kernel_rfl) (by kernel_rfl) (by kernel_rfl) rfl hl (by kernel_rfl) (by kernel_rfl) h
end Go.Proofs.YtodmbkceindakaaGreat
namespace Go.Proofs.YtodmbkceindakaaGreat
open Go.Kv
set_option linter.unusedVariables false
set_option linter.unusedSimpArgs false
attribute [local irreducible] ACall PCall KL
def gen (n : Nat) (P : List Int) : Bool := decide (1 < mxl P + 1) && decide (mxl P + 1 < n)
def trivs (n : Nat) : List (List Int) := if n = 1 then [[0]] else [List.replicate n 0, (List.range n).map fun x : Nat => (x : Int)]
set_option maxRecDepth 100000 in
theorem triv_fact : ((List.range 6).all fun n => decide (n = 0) || decide ((prt n).filter (fun P => !gen n P) = trivs n)) = true := by decide
theorem triv_eq {n : Nat} (h1 : 1 ≤ n) (h : n ≤ 5) : (prt n).filter (fun P => !gen n P) = trivs n := by
  have := List.all_eq_true.1 triv_fact n (by simp; omega)
  simp only [Bool.or_eq_true, decide_eq_true_eq] at this
  rcases this with h | h
  · omega
  · exact h
theorem triv_iv {fs : List (List Nat)} {n : Nat} (hf : ∀ f ∈ fs, Ok f n) (P : List Int) (hP : P ∈ trivs n) : iv fs P = true := by
  refine iv_true fun f hff a b ha hb hab => ?_
  have hfa := (hf f hff).get' a
  have hfb := (hf f hff).get' b
  have h0 : ∀ n x : Nat, (List.replicate n (0 : Int)).getD x 0 = 0 := fun n x => by
    rw [List.getD_eq_getElem?_getD, List.getElem?_replicate]; split <;> rfl
  unfold trivs at hP
  split at hP
  · rename_i hn
    simp only [List.mem_cons, List.not_mem_nil, or_false] at hP; subst hP
    rw [show [(0 : Int)] = List.replicate 1 0 from rfl, h0, h0]
  · simp only [List.mem_cons, List.not_mem_nil, or_false] at hP
    rcases hP with rfl | rfl
    · rw [h0, h0]
    · rw [List.length_map, List.length_range] at ha hb
      have hr : ∀ x, x < n → ((List.range n).map fun x : Nat => (x : Int)).getD x 0 = x := fun x hx => by simp [List.getD_eq_getElem?_getD, hx]
      rw [hr a ha, hr b hb] at hab
      have : a = b := by omega
      rw [this]
theorem len_split {α : Type} (g : α → Bool) : ∀ l : List α, l.length = (l.filter g).length + (l.filter fun x => !g x).length
  | [] => rfl
  | a :: l => by
    have ih := len_split g l
    cases h : g a <;> simp [h, ih] <;> omega
/-- There are no others just where there are just the trivial ones. -/
theorem prim_iff {fs : List (List Nat)} {n : Nat} (h1 : 1 ≤ n) (h5 : n ≤ 5) (hf : ∀ f ∈ fs, Ok f n) : (ivs fs n).length = (if n = 1 then 1 else 2) ↔ (ivs fs n).any (gen n) = false := by
  have e : (ivs fs n).filter (fun P => !gen n P) = trivs n := by
    unfold ivs
    rw [List.filter_filter]
    have : (prt n).filter (fun P => !gen n P && iv fs P) = ((prt n).filter fun P => !gen n P).filter (iv fs) := by
      rw [List.filter_filter]
      exact List.filter_congr fun P _ => Bool.and_comm _ _
    rw [this, triv_eq h1 h5]
    exact List.filter_eq_self.2 fun P hP => triv_iv hf P hP
  have hl := len_split (gen n) (ivs fs n)
  have ht : (trivs n).length = if n = 1 then 1 else 2 := by unfold trivs; split <;> rfl
  rw [e, ht] at hl
  rw [hl]
  constructor
  · intro h
    have h0 : ((ivs fs n).filter (gen n)).length = 0 := by omega
    rw [List.length_eq_zero_iff, List.filter_eq_nil_iff] at h0
    exact List.any_eq_false.2 h0
  · intro h
    have : (ivs fs n).filter (gen n) = [] := List.filter_eq_nil_iff.2 (List.any_eq_false.1 h)
    rw [this]; simp
theorem p34 (P : List Int) (n : Nat) (h1 : 1 ≤ P.length) (hl : P.length ≤ 1048576) (h0 : ∀ k ∈ P, 0 ≤ k) (hm : mxl P ≤ 1048576) : Pure Tryz.prog 34 [.list (ints P), .fptr [.int .i64 n] 0] (.bool (gen n P)) := by
  refine e34 (by simp) fun _ _ => ?_
  simp only [k34, argEnv, take6, List.drop_zero, Int.cast_ofNat_Int, go_sem, ↓reduceIte, Nat.reduceEqDiff, Nat.reduceAdd, Nat.reduceMul, Nat.reduceLeDiff, Nat.reduceLT, Int.reduceLE, Int.reduceLT, reduceCtorEq]
  refine (p19 P h1 hl h0 hm).pgo ?_
  try simp only [OpK_eq, HKv, take6, List.drop_zero, Int.cast_ofNat_Int, go_sem, ↓reduceIte, Nat.reduceEqDiff, Nat.reduceAdd, Nat.reduceMul, Nat.reduceLeDiff, Nat.reduceLT, Int.reduceLE, Int.reduceLT, reduceCtorEq]
  refine ⟨fun h2 => ?_, fun h2 => ?_⟩
  · refine (p19 P h1 hl h0 hm).pgo ?_
    try simp only [OpK_eq, HKv, take6, List.drop_zero, Int.cast_ofNat_Int, go_sem, ↓reduceIte, Nat.reduceEqDiff, Nat.reduceAdd, Nat.reduceMul, Nat.reduceLeDiff, Nat.reduceLT, Int.reduceLE, Int.reduceLT, reduceCtorEq]
    exact Kv.Fin.still ⟨by rw [gen, decide_eq_true h2, Bool.true_and], rfl⟩
  · try simp only [OpK_eq, HKv, take6, List.drop_zero, Int.cast_ofNat_Int, go_sem, ↓reduceIte, Nat.reduceEqDiff, Nat.reduceAdd, Nat.reduceMul, Nat.reduceLeDiff, Nat.reduceLT, Int.reduceLE, Int.reduceLT, reduceCtorEq]
    exact Kv.Fin.still ⟨by rw [gen, decide_eq_false h2]; rfl, rfl⟩
/-- Primitive lists. -/
noncomputable def prm1 (a : List (List Int)) : Bool := trn a && !(ivs (a.map um) ((a.getD 0 []).getD 0 0).toNat).any (gen ((a.getD 0 []).getD 0 0).toNat)
theorem p15 (a : List (List Int)) (ha : a.length ≤ 1048576) (h6 : ∀ r ∈ a, r.length = 6) : Pure Tryz.prog 15 [.list (aggs a)] (.tup [.bool (prm1 a), .int .i64 (lcode a [])]) := by
  refine e15 (by simp) fun _ _ => ?_
  simp only [k15, argEnv, take6, List.drop_zero, Int.cast_ofNat_Int, go_sem, ↓reduceIte, Nat.reduceEqDiff, Nat.reduceAdd, Nat.reduceMul, Nat.reduceLeDiff, Nat.reduceLT, Int.reduceLE, Int.reduceLT, reduceCtorEq]
  refine (p24 _ a [] .nil ha (by simp) h6 (by simp)).go ?_
  try simp only [take6, List.drop_zero, Int.cast_ofNat_Int, go_sem, ↓reduceIte, Nat.reduceEqDiff, Nat.reduceAdd, Nat.reduceMul, Nat.reduceLeDiff, Nat.reduceLT, Int.reduceLE, Int.reduceLT, reduceCtorEq]
  refine ⟨fun h1 => ?_, fun h1 => ?_⟩
  · exact Kv.Fin.still ⟨by rw [prm1, trn, decide_eq_false h1]; rfl, rfl⟩
  · obtain ⟨fs, n, rfl, hf, hl1, hl2, hn, hn1, hn5⟩ := lcode_maps h6 h1
    have h0 : 0 < fs.length := by omega
    have hk := hf _ (List.getElem_mem h0)
    have h6k := hk.mp_len
    have e : prm1 (fs.map mp) = (decide ((strong fs n).length = 1) && !(ivs fs n).any (gen n)) := by
      rw [prm1, trn, spc_in h1 hn, decide_eq_true h1, Bool.true_and, map_um, hn]; rfl
    rw [e, h1]
    rw [map_getD h0] at hn
    have hput : ∀ v, putC [PV.int .i64 0] 0 [v] = [v] := fun v => by unfold putC; first | rfl | (split <;> rfl) | simp
    try simp only [map_getD h0, h6k, hn, List.length_map, OpK_eq, HKv, hput, take6, List.drop_zero, Int.cast_ofNat_Int, go_sem, ↓reduceIte, Nat.reduceEqDiff, Nat.reduceAdd, Nat.reduceMul, Nat.reduceLeDiff, Nat.reduceLT, Int.reduceLE, Int.reduceLT, reduceCtorEq]
    refine ⟨by omega, fun _ => ?_⟩
    refine (p29 fs n hn1 hn5 hf (by omega) (by omega)).go fun v s ⟨hT, hfr⟩ => ?_
    have hTs := hT.shift [AObj.box [PV.int .i64 n]]
    have hbx : ([AObj.box [PV.int .i64 n]] ++ s.map (AObj.ren (sh [AObj.box [PV.int .i64 n]].length)))[0]? = some (.box [.int .i64 n]) := rfl
    try simp only [OpK_eq, HKv, take6, List.drop_zero, Int.cast_ofNat_Int, go_sem, ↓reduceIte, Nat.reduceEqDiff, Nat.reduceAdd, Nat.reduceMul, Nat.reduceLeDiff, Nat.reduceLT, Int.reduceLE, Int.reduceLT, reduceCtorEq]
    have hio := ivs_ok (fs := fs) hn5
    refine (p33 (ivs fs n) (by omega) 34 [.fptr [.int .i64 n] 0] (StillL.up inferInstance) (gen n) fun P hP => ?_).lend (.cons hTs.imm (.cons (Imm.fnc _ (.cons (Imm.ptr1 hbx rfl Imm.still) (.nil _))) (.nil _))) ?_
    · obtain ⟨q1, q2, q3, q4⟩ := prt_ok hn5 (List.mem_filter.1 hP).1
      exact p34 P n (by omega) (by omega) (fun k hk => (q2 k hk).1) (by omega)
    try simp only [OpK_eq, HKv, take6, List.drop_zero, Int.cast_ofNat_Int, go_sem, ↓reduceIte, Nat.reduceEqDiff, Nat.reduceAdd, Nat.reduceMul, Nat.reduceLeDiff, Nat.reduceLT, Int.reduceLE, Int.reduceLT, reduceCtorEq]
    generalize (AObj.box [PV.int .i64 n] :: List.map (AObj.ren (sh 1)) s) = σ1
    refine (p35 fs n hn1 hn5 hf (by omega) (by omega)).go fun v2 s2 ⟨hT2, hfr2⟩ => ?_
    have hlen := tabLen (hT2.shift σ1)
    have hsl := strong_len fs n
    generalize v2.ren (sh σ1.length) = v3 at *
    generalize σ1 ++ s2.map (AObj.ren (sh σ1.length)) = σ3 at *
    try simp only [OpK_eq, HKv, hlen, take6, List.drop_zero, Int.cast_ofNat_Int, go_sem, ↓reduceIte, Nat.reduceEqDiff, Nat.reduceAdd, Nat.reduceMul, Nat.reduceLeDiff, Nat.reduceLT, Int.reduceLE, Int.reduceLT, reduceCtorEq]
    have ed : decide ((strong fs n).length = 1) = decide (((strong fs n).length : Int) = 1) := decide_eq_decide.2 (by omega)
    rw [ed]
    refine ⟨fun h2 => ?_, fun h2 => ?_⟩
    · rw [decide_eq_true h2, Bool.true_and]
      exact Kv.Fin.still ⟨rfl, rfl⟩
    · rw [decide_eq_false h2, Bool.false_and]
      exact Kv.Fin.still ⟨rfl, rfl⟩
theorem p16 (a : List (List Int)) (ha : a.length ≤ 1048576) (h6 : ∀ r ∈ a, r.length = 6) : Pure Tryz.prog 16 [.list (aggs a)] (.tup [.bool (prm1 a), .int .i64 (lcode a [])]) := by
  refine e16 (by simp) fun _ _ => ?_
  simp only [k16, argEnv, take6, List.drop_zero, Int.cast_ofNat_Int, go_sem, ↓reduceIte, Nat.reduceEqDiff, Nat.reduceAdd, Nat.reduceMul, Nat.reduceLeDiff, Nat.reduceLT, Int.reduceLE, Int.reduceLT, reduceCtorEq]
  refine (p30n a ha h6).go ?_
  try simp only [take6, List.drop_zero, Int.cast_ofNat_Int, go_sem, ↓reduceIte, Nat.reduceEqDiff, Nat.reduceAdd, Nat.reduceMul, Nat.reduceLeDiff, Nat.reduceLT, Int.reduceLE, Int.reduceLT, reduceCtorEq]
  refine ⟨fun h1 => ?_, fun h1 => ?_⟩
  · exact Kv.Fin.still ⟨by rw [prm1, trn, decide_eq_false h1]; rfl, rfl⟩
  · obtain ⟨fs, n, rfl, hf, hl1, hl2, hn, hn1, hn5⟩ := lcode_maps h6 h1
    have h0 : 0 < fs.length := by omega
    have hk := hf _ (List.getElem_mem h0)
    have h6k := hk.mp_len
    have e : prm1 (fs.map mp) = (decide ((strong fs n).length = 1) && !(ivs fs n).any (gen n)) := by
      rw [prm1, trn, spc_in h1 hn, decide_eq_true h1, Bool.true_and, map_um, hn]; rfl
    have hpi := prim_iff hn1 hn5 hf
    have e2 : (!(ivs fs n).any (gen n)) = decide (((ivs fs n).length : Int) = if n = 1 then 1 else 2) := by
      cases hany : (ivs fs n).any (gen n) with
      | false =>
        rw [hany] at hpi
        have := hpi.2 rfl
        rw [decide_eq_true]; rfl
        rw [this]; split <;> rfl
      | true =>
        rw [hany] at hpi
        rw [decide_eq_false]; rfl
        intro h
        exact absurd (hpi.1 (by split at h <;> simp_all <;> omega)) (by simp)
    rw [e, e2, h1, sbs_slen]
    clear hpi e e2
    rw [map_getD h0] at hn
    have ed : decide ((sbs fs n).length = 1) = decide (((sbs fs n).length : Int) = 1) := decide_eq_decide.2 (by omega)
    rw [ed]
    have hsp := p36 fs n hn1 hn5 hf h0 (by omega)
    have hsa := p31 fs n hn1 hn5 hf h0 (by omega)
    try simp only [map_getD h0, h6k, hn, List.length_map, OpK_eq, HKv, take6, List.drop_zero, Int.cast_ofNat_Int, go_sem, ↓reduceIte, Nat.reduceEqDiff, Nat.reduceAdd, Nat.reduceMul, Nat.reduceLeDiff, Nat.reduceLT, Int.reduceLE, Int.reduceLT, reduceCtorEq]
    refine ⟨by omega, fun _ => ⟨fun h2 => ?_, fun h2 => ?_⟩⟩
    · rw [if_pos (by omega : n = 1)]
      refine hsp.go ?_
      try simp only [OpK_eq, HKv, take6, List.drop_zero, Int.cast_ofNat_Int, go_sem, ↓reduceIte, Nat.reduceEqDiff, Nat.reduceAdd, Nat.reduceMul, Nat.reduceLeDiff, Nat.reduceLT, Int.reduceLE, Int.reduceLT, reduceCtorEq]
      refine ⟨fun h3 => ?_, fun h3 => ?_⟩
      · refine hsa.go ?_
        try simp only [OpK_eq, HKv, take6, List.drop_zero, Int.cast_ofNat_Int, go_sem, ↓reduceIte, Nat.reduceEqDiff, Nat.reduceAdd, Nat.reduceMul, Nat.reduceLeDiff, Nat.reduceLT, Int.reduceLE, Int.reduceLT, reduceCtorEq]
        rw [decide_eq_true h3, Bool.true_and]
        exact Kv.Fin.still ⟨rfl, rfl⟩
      · try simp only [OpK_eq, HKv, take6, List.drop_zero, Int.cast_ofNat_Int, go_sem, ↓reduceIte, Nat.reduceEqDiff, Nat.reduceAdd, Nat.reduceMul, Nat.reduceLeDiff, Nat.reduceLT, Int.reduceLE, Int.reduceLT, reduceCtorEq]
        rw [decide_eq_false h3, Bool.false_and]
        exact Kv.Fin.still ⟨rfl, rfl⟩
    · rw [if_neg (by omega : ¬ n = 1)]
      refine hsp.go ?_
      try simp only [OpK_eq, HKv, take6, List.drop_zero, Int.cast_ofNat_Int, go_sem, ↓reduceIte, Nat.reduceEqDiff, Nat.reduceAdd, Nat.reduceMul, Nat.reduceLeDiff, Nat.reduceLT, Int.reduceLE, Int.reduceLT, reduceCtorEq]
      refine ⟨fun h3 => ?_, fun h3 => ?_⟩
      · refine hsa.go ?_
        try simp only [OpK_eq, HKv, take6, List.drop_zero, Int.cast_ofNat_Int, go_sem, ↓reduceIte, Nat.reduceEqDiff, Nat.reduceAdd, Nat.reduceMul, Nat.reduceLeDiff, Nat.reduceLT, Int.reduceLE, Int.reduceLT, reduceCtorEq]
        rw [decide_eq_true h3, Bool.true_and]
        exact Kv.Fin.still ⟨rfl, rfl⟩
      · try simp only [OpK_eq, HKv, take6, List.drop_zero, Int.cast_ofNat_Int, go_sem, ↓reduceIte, Nat.reduceEqDiff, Nat.reduceAdd, Nat.reduceMul, Nat.reduceLeDiff, Nat.reduceLT, Int.reduceLE, Int.reduceLT, reduceCtorEq]
        rw [decide_eq_false h3, Bool.false_and]
        exact Kv.Fin.still ⟨rfl, rfl⟩
end Go.Proofs.YtodmbkceindakaaGreat
