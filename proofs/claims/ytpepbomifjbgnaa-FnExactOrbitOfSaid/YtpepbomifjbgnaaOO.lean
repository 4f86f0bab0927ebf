/- OrbitOf: both sides. -/
import Derived.Test.YtpepbomifjbgnaaCb
import Derived.Test.YtpepbomifjbgnaaSO
import Derived.Test.YtpepbomifjbgnaaLO
import Derived.Test.YtpepbomifjbgnaaWI
namespace Go.Proofs.Ytpepbomifjbgnaa
open Go.Kv
set_option maxRecDepth 100000
/- impl.isPoint -/
def k60 : KC := (.seq (.ops [⟨(some 4), none, .mv (.c (.bool false))⟩])
  (.seq (.ops [⟨(some 5), none, .mv (.t 1)⟩, ⟨(some 6), none, .mv (.t 0)⟩, ⟨(some 7), none, .idxS 6 (.t 6) (.c (.int .i64 0))⟩, ⟨(some 8), none, .fieldA 0 (.t 7)⟩, ⟨(some 9), none, .load false 1 (.t 8)⟩, ⟨(some 10), none, .bin .sub (.t 9) (.c (.int .i64 1))⟩, ⟨(some 11), none, .call (.c (.fn (.func 91) [] [])) [(.t 5), (.c (.int .i64 0)), (.t 10)]⟩, ⟨(some 4), none, .mv (.t 11)⟩])
  .ret))
theorem e60 {args : List PV} {σ : Heap} {K : PV → Heap → Prop} (hl : args.length ≤ 12) (h : Wf σ → (∀ a ∈ args, PV.upto σ.length a) → vc (mkCfg Try.prog mixed [] 12 σ.length) k60 (FinK σ.length [.t 4] K) (argEnv 0 args) σ) : ACall Try.prog 60 args σ K :=
  ACall_enter (C := mkCfg Try.prog mixed [] 12 σ.length) (c := Try.f60.body.getD .skip) Try.func60 (by kernel_rfl) (by kernel_rfl) (by kernel_rfl) rfl hl (by kernel_rfl) (by kernel_rfl) h
/- impl.OrbitOf -/
def k25 : KC := (.seq (.ops [⟨(some 4), none, .mv (.c (.nils))⟩, ⟨(some 5), none, .mv (.c (.int .i64 0))⟩])
  (.seq (.seq (.ops [⟨(some 7), none, .mv (.t 0)⟩, ⟨(some 8), none, .call (.c (.fn (.func 54) [] [])) [(.t 7), (.c (.nils))]⟩, ⟨(some 6), none, .mv (.t 8)⟩])
  (.seq (.ops [⟨(some 9), none, .mv (.t 6)⟩, ⟨(some 10), none, .bin .neq (.t 9) (.c (.int .i64 0))⟩])
  (.cond (.t 10) (.seq (.ops [⟨(some 11), none, .mv (.t 6)⟩, ⟨(some 4), none, .mv (.c (.nils))⟩, ⟨(some 5), none, .mv (.t 11)⟩])
  .ret) .skip)))
  (.seq (.seq (.ops [⟨(some 12), none, .mv (.t 0)⟩, ⟨(some 13), none, .mv (.t 1)⟩, ⟨(some 14), none, .call (.c (.fn (.func 60) [] [])) [(.t 12), (.t 13)]⟩, ⟨(some 15), none, .not (.t 14)⟩])
  (.cond (.t 15) (.seq (.ops [⟨(some 4), none, .mv (.c (.nils))⟩, ⟨(some 5), none, .mv (.c (.int .i64 2))⟩])
  .ret) .skip))
  (.seq (.ops [⟨(some 16), none, .mv (.t 0)⟩, ⟨(some 17), none, .mv (.t 1)⟩, ⟨(some 18), none, .call (.c (.fn (.func 61) [] [])) [(.t 16), (.t 17)]⟩, ⟨(some 4), none, .mv (.t 18)⟩, ⟨(some 5), none, .mv (.c (.int .i64 0))⟩])
  .ret))))
theorem e25 {args : List PV} {σ : Heap} {K : PV → Heap → Prop} (hl : args.length ≤ 19) (h : Wf σ → (∀ a ∈ args, PV.upto σ.length a) → vc (mkCfg Try.prog mixed [] 19 σ.length) k25 (FinK σ.length [.t 4, .t 5] K) (argEnv 0 args) σ) : ACall Try.prog 25 args σ K :=
  ACall_enter (C := mkCfg Try.prog mixed [] 19 σ.length) (c := Try.f25.body.getD .skip) Try.func25 (by kernel_rfl) (by kernel_rfl) (by kernel_rfl) rfl hl (by kernel_rfl) (by kernel_rfl) h
/- spec.l10Code -/
def k57 : KC := (.seq (.ops [⟨(some 4), none, .mv (.c (.int .i64 0))⟩])
  (.seq (.ops [⟨(some 6), none, .mv (.t 0)⟩, ⟨(some 7), none, .call (.c (.fn (.func 51) [] [])) [(.t 6), (.c (.nils))]⟩, ⟨(some 5), none, .mv (.t 7)⟩])
  (.seq (.seq (.ops [⟨(some 8), none, .mv (.t 5)⟩, ⟨(some 9), none, .bin .eql (.t 8) (.c (.int .i64 0))⟩, ⟨(some 10), none, .mv (.t 9)⟩, ⟨(some 11), some (10, true), .mv (.t 1)⟩, ⟨(some 12), some (10, true), .mv (.t 0)⟩, ⟨(some 13), some (10, true), .idxS 6 (.t 12) (.c (.int .i64 0))⟩, ⟨(some 14), some (10, true), .fieldA 0 (.t 13)⟩, ⟨(some 15), some (10, true), .load false 1 (.t 14)⟩, ⟨(some 16), some (10, true), .bin .sub (.t 15) (.c (.int .i64 1))⟩, ⟨(some 17), some (10, true), .call (.c (.fn (.func 90) [] [])) [(.t 11), (.c (.int .i64 0)), (.t 16)]⟩, ⟨(some 18), some (10, true), .not (.t 17)⟩, ⟨(some 19), none, .pick (.t 10) (.t 18) (.c (.bool false))⟩])
  (.cond (.t 19) (.ops [⟨(some 5), none, .mv (.c (.int .i64 2))⟩]) .skip))
  (.seq (.ops [⟨(some 20), none, .mv (.t 5)⟩, ⟨(some 4), none, .mv (.t 20)⟩])
  .ret))))
theorem e57 {args : List PV} {σ : Heap} {K : PV → Heap → Prop} (hl : args.length ≤ 21) (h : Wf σ → (∀ a ∈ args, PV.upto σ.length a) → vc (mkCfg Try.prog mixed [] 21 σ.length) k57 (FinK σ.length [.t 4] K) (argEnv 0 args) σ) : ACall Try.prog 57 args σ K :=
  ACall_enter (C := mkCfg Try.prog mixed [] 21 σ.length) (c := Try.f57.body.getD .skip) Try.func57 (by kernel_rfl) (by kernel_rfl) (by kernel_rfl) rfl hl (by kernel_rfl) (by kernel_rfl) h
/- spec.OrbitOf -/
def k24 : KC := (.seq (.ops [⟨(some 4), none, .mv (.c (.nils))⟩, ⟨(some 5), none, .mv (.c (.int .i64 0))⟩])
  (.seq (.seq (.ops [⟨(some 7), none, .mv (.t 0)⟩, ⟨(some 8), none, .mv (.t 1)⟩, ⟨(some 9), none, .call (.c (.fn (.func 57) [] [])) [(.t 7), (.t 8)]⟩, ⟨(some 6), none, .mv (.t 9)⟩])
  (.seq (.ops [⟨(some 10), none, .mv (.t 6)⟩, ⟨(some 11), none, .bin .neq (.t 10) (.c (.int .i64 0))⟩])
  (.cond (.t 11) (.seq (.ops [⟨(some 12), none, .mv (.t 6)⟩, ⟨(some 4), none, .mv (.c (.nils))⟩, ⟨(some 5), none, .mv (.t 12)⟩])
  .ret) .skip)))
  (.seq (.ops [⟨(some 13), none, .mv (.t 0)⟩, ⟨(some 14), none, .mv (.t 1)⟩, ⟨(some 15), none, .call (.c (.fn (.func 59) [] [])) [(.t 13), (.t 14)]⟩, ⟨(some 16), none, .call (.c (.fn (.func 58) [] [])) [(.t 15)]⟩, ⟨(some 4), none, .mv (.t 16)⟩, ⟨(some 5), none, .mv (.c (.int .i64 0))⟩])
  .ret)))
theorem e24 {args : List PV} {σ : Heap} {K : PV → Heap → Prop} (hl : args.length ≤ 17) (h : Wf σ → (∀ a ∈ args, PV.upto σ.length a) → vc (mkCfg Try.prog mixed [] 17 σ.length) k24 (FinK σ.length [.t 4, .t 5] K) (argEnv 0 args) σ) : ACall Try.prog 24 args σ K :=
  ACall_enter (C := mkCfg Try.prog mixed [] 17 σ.length) (c := Try.f24.body.getD .skip) Try.func24 (by kernel_rfl) (by kernel_rfl) (by kernel_rfl) rfl hl (by kernel_rfl) (by kernel_rfl) h
end Go.Proofs.Ytpepbomifjbgnaa
namespace Go.Proofs.Ytpepbomifjbgnaa
open Go.Kv
set_option linter.unusedVariables false
set_option linter.unusedSimpArgs false
attribute [local irreducible] ACall PCall KL
/-- The code of a list and a point. -/
def ocd (a : List (List Int)) (p : Int) : Int := if lcode a [] ≠ 0 then lcode a [] else if 0 ≤ p ∧ p ≤ (a.getD 0 []).getD 0 0 - 1 then 0 else 2
theorem ocd_zero {a : List (List Int)} {p : Int} (h : ocd a p = 0) : lcode a [] = 0 ∧ 0 ≤ p ∧ p ≤ (a.getD 0 []).getD 0 0 - 1 := by
  unfold ocd at h
  split at h
  · rename_i h1; exact absurd h h1
  · rename_i h1
    split at h
    · exact ⟨by simpa using h1, by assumption⟩
    · cases h
theorem p25_out (a : List (List Int)) (p : Int) (ha : a.length ≤ 1048576) (h6 : ∀ r ∈ a, r.length = 6) (hc : ocd a p ≠ 0) : Pure Try.prog 25 [.list (aggs a), .int .i64 p] (.tup [.nils, .int .i64 (ocd a p)]) := by
  refine e25 (by simp) fun _ _ => ?_
  simp only [k25, argEnv, take6, List.drop_zero, Int.cast_ofNat_Int, go_sem, ↓reduceIte, Nat.reduceEqDiff, Nat.reduceAdd, Nat.reduceMul, Nat.reduceLeDiff, Nat.reduceLT, Int.reduceLE, Int.reduceLT, reduceCtorEq]
  refine (p54 _ a [] .nil ha (by simp) h6 (by simp)).go ?_
  try simp only [take6, List.drop_zero, Int.cast_ofNat_Int, go_sem, ↓reduceIte, Nat.reduceEqDiff, Nat.reduceAdd, Nat.reduceMul, Nat.reduceLeDiff, Nat.reduceLT, Int.reduceLE, Int.reduceLT, reduceCtorEq]
  refine ⟨fun h1 => ?_, fun h1 => ?_⟩
  · exact Kv.Fin.still ⟨by rw [ocd, if_pos h1], rfl⟩
  · have hv : ocd a p = if 0 ≤ p ∧ p ≤ (a.getD 0 []).getD 0 0 - 1 then 0 else 2 := by rw [ocd, if_neg (by simp [h1])]
    obtain ⟨fs, n, rfl, hf, hl1, hl2, hn, hn1, hn5⟩ := lcode_maps h6 h1
    have h0 : 0 < fs.length := by omega
    have hk := hf _ (List.getElem_mem h0)
    have h6k := hk.mp_len
    rw [hn] at hv
    rw [map_getD h0] at hn
    have hno : ¬ (0 ≤ p ∧ p ≤ (n : Int) - 1) := fun h => hc (by rw [hv, if_pos h])
    rw [if_neg hno] at hv
    have hip : Pure Try.prog 60 [.list (aggs (fs.map mp)), .int .i64 p] (.bool false) := by
      refine e60 (by simp) fun _ _ => ?_
      simp only [k60, argEnv, take6, List.drop_zero, Int.cast_ofNat_Int, go_sem, ↓reduceIte, Nat.reduceEqDiff, Nat.reduceAdd, Nat.reduceMul, Nat.reduceLeDiff, Nat.reduceLT, Int.reduceLE, Int.reduceLT, reduceCtorEq]
      try simp only [map_getD h0, h6k, hn, List.length_map, take6, List.drop_zero, Int.cast_ofNat_Int, go_sem, ↓reduceIte, Nat.reduceEqDiff, Nat.reduceAdd, Nat.reduceMul, Nat.reduceLeDiff, Nat.reduceLT, Int.reduceLE, Int.reduceLT, reduceCtorEq]
      refine ⟨by omega, fun _ => ⟨by omega, ?_⟩⟩
      refine (p91 _ _ _).go ?_
      try simp only [OpK_eq, take6, List.drop_zero, Int.cast_ofNat_Int, go_sem, ↓reduceIte, Nat.reduceEqDiff, Nat.reduceAdd, Nat.reduceMul, Nat.reduceLeDiff, Nat.reduceLT, Int.reduceLE, Int.reduceLT, reduceCtorEq]
      exact Kv.Fin.still ⟨by rw [decide_eq_false hno], rfl⟩
    refine hip.go ?_
    try simp only [OpK_eq, HKv, take6, List.drop_zero, Int.cast_ofNat_Int, go_sem, ↓reduceIte, Nat.reduceEqDiff, Nat.reduceAdd, Nat.reduceMul, Nat.reduceLeDiff, Nat.reduceLT, Int.reduceLE, Int.reduceLT, reduceCtorEq]
    exact Kv.Fin.still ⟨by rw [hv], rfl⟩
theorem p25_in (fs : List (List Nat)) (n : Nat) (hf : ∀ f ∈ fs, Ok f n) (h0 : 0 < fs.length) (hfl : fs.length ≤ 6) (hl : lcode (fs.map mp) [] = 0) (q : Nat) (hq : q < n) : NewIO Try.prog 25 [.list (aggs (fs.map mp)), .int .i64 q] 2 (nz (orb fs q)) 0 := by
  have hk := hf _ (List.getElem_mem h0)
  have h6k := hk.mp_len
  have hn5 := hk.le
  have hn : (mp fs[0]).getD 0 0 = (n : Int) := by simp [mp, mpN, hk.len]
  unfold NewIO
  refine e25 (by simp) fun _ _ => ?_
  simp only [k25, argEnv, take6, List.drop_zero, Int.cast_ofNat_Int, go_sem, ↓reduceIte, Nat.reduceEqDiff, Nat.reduceAdd, Nat.reduceMul, Nat.reduceLeDiff, Nat.reduceLT, Int.reduceLE, Int.reduceLT, reduceCtorEq]
  refine (p54 _ (fs.map mp) [] .nil (by simp; omega) (by simp) (fun r hr => by obtain ⟨f, hf', rfl⟩ := List.mem_map.1 hr; exact (hf f hf').mp_len) (by simp)).go ?_
  rw [hl]
  try simp only [take6, List.drop_zero, Int.cast_ofNat_Int, go_sem, ↓reduceIte, Nat.reduceEqDiff, Nat.reduceAdd, Nat.reduceMul, Nat.reduceLeDiff, Nat.reduceLT, Int.reduceLE, Int.reduceLT, reduceCtorEq]
  have hip : Pure Try.prog 60 [.list (aggs (fs.map mp)), .int .i64 q] (.bool true) := by
    refine e60 (by simp) fun _ _ => ?_
    simp only [k60, argEnv, take6, List.drop_zero, Int.cast_ofNat_Int, go_sem, ↓reduceIte, Nat.reduceEqDiff, Nat.reduceAdd, Nat.reduceMul, Nat.reduceLeDiff, Nat.reduceLT, Int.reduceLE, Int.reduceLT, reduceCtorEq]
    try simp only [map_getD h0, h6k, hn, List.length_map, take6, List.drop_zero, Int.cast_ofNat_Int, go_sem, ↓reduceIte, Nat.reduceEqDiff, Nat.reduceAdd, Nat.reduceMul, Nat.reduceLeDiff, Nat.reduceLT, Int.reduceLE, Int.reduceLT, reduceCtorEq]
    refine ⟨by omega, fun _ => ⟨by omega, ?_⟩⟩
    refine (p91 _ _ _).go ?_
    try simp only [OpK_eq, take6, List.drop_zero, Int.cast_ofNat_Int, go_sem, ↓reduceIte, Nat.reduceEqDiff, Nat.reduceAdd, Nat.reduceMul, Nat.reduceLeDiff, Nat.reduceLT, Int.reduceLE, Int.reduceLT, reduceCtorEq]
    exact Kv.Fin.still ⟨by rw [decide_eq_true (by omega)], rfl⟩
  refine hip.go ?_
  try simp only [OpK_eq, HKv, take6, List.drop_zero, Int.cast_ofNat_Int, go_sem, ↓reduceIte, Nat.reduceEqDiff, Nat.reduceAdd, Nat.reduceMul, Nat.reduceLeDiff, Nat.reduceLT, Int.reduceLE, Int.reduceLT, reduceCtorEq]
  refine (p61 fs n hf hn5 (by omega) q hq).go fun v s ⟨hv, hs⟩ => ?_
  subst hv; subst hs
  try simp only [OpK_eq, HKv, take6, List.drop_zero, Int.cast_ofNat_Int, go_sem, ↓reduceIte, Nat.reduceEqDiff, Nat.reduceAdd, Nat.reduceMul, Nat.reduceLeDiff, Nat.reduceLT, Int.reduceLE, Int.reduceLT, reduceCtorEq]
  refine Kv.Fin.now ⟨_, rfl, ?_, .ints _ _ _ _⟩
  have := OwnI.own (e := 2) (σ := [AObj.arr 0 2 1 (ints (nz (orb fs q)))]) (lo := 0) (hi := 1) 0 0 [] (nz (orb fs q)) [] (by simp) ⟨Nat.le_refl _, by omega⟩
  rw [nz_len] at this
  exact this
theorem p24_out (a : List (List Int)) (p : Int) (ha : a.length ≤ 1048576) (h6 : ∀ r ∈ a, r.length = 6) (hc : ocd a p ≠ 0) : Pure Try.prog 24 [.list (aggs a), .int .i64 p] (.tup [.nils, .int .i64 (ocd a p)]) := by
  have hcode : Pure Try.prog 57 [.list (aggs a), .int .i64 p] (.int .i64 (ocd a p)) := by
    refine e57 (by simp) fun _ _ => ?_
    simp only [k57, argEnv, take6, List.drop_zero, Int.cast_ofNat_Int, go_sem, ↓reduceIte, Nat.reduceEqDiff, Nat.reduceAdd, Nat.reduceMul, Nat.reduceLeDiff, Nat.reduceLT, Int.reduceLE, Int.reduceLT, reduceCtorEq]
    refine (p51n a ha h6).go ?_
    try simp only [take6, List.drop_zero, Int.cast_ofNat_Int, go_sem, ↓reduceIte, Nat.reduceEqDiff, Nat.reduceAdd, Nat.reduceMul, Nat.reduceLeDiff, Nat.reduceLT, Int.reduceLE, Int.reduceLT, reduceCtorEq]
    refine ⟨fun h1 => ?_, fun h1 => ?_⟩
    · have hv : ocd a p = if 0 ≤ p ∧ p ≤ (a.getD 0 []).getD 0 0 - 1 then 0 else 2 := by rw [ocd, if_neg (by simp [h1])]
      obtain ⟨fs, n, rfl, hf, hl1, hl2, hn, hn1, hn5⟩ := lcode_maps h6 h1
      have h0 : 0 < fs.length := by omega
      have hk := hf _ (List.getElem_mem h0)
      have h6k := hk.mp_len
      rw [hn] at hv
      rw [map_getD h0] at hn
      have hno : ¬ (0 ≤ p ∧ p ≤ (n : Int) - 1) := fun h => hc (by rw [hv, if_pos h])
      rw [if_neg hno] at hv
      try simp only [map_getD h0, h6k, hn, List.length_map, take6, List.drop_zero, Int.cast_ofNat_Int, go_sem, ↓reduceIte, Nat.reduceEqDiff, Nat.reduceAdd, Nat.reduceMul, Nat.reduceLeDiff, Nat.reduceLT, Int.reduceLE, Int.reduceLT, reduceCtorEq]
      refine ⟨by omega, fun _ => ⟨by omega, ?_⟩⟩
      refine (p90 _ _ _).go ?_
      rw [decide_eq_false hno]
      try simp only [OpK_eq, take6, List.drop_zero, Int.cast_ofNat_Int, go_sem, ↓reduceIte, Nat.reduceEqDiff, Nat.reduceAdd, Nat.reduceMul, Nat.reduceLeDiff, Nat.reduceLT, Int.reduceLE, Int.reduceLT, reduceCtorEq]
      exact Kv.Fin.still ⟨by rw [hv], rfl⟩
    · try simp only [OpK_eq, take6, List.drop_zero, Int.cast_ofNat_Int, go_sem, ↓reduceIte, Nat.reduceEqDiff, Nat.reduceAdd, Nat.reduceMul, Nat.reduceLeDiff, Nat.reduceLT, Int.reduceLE, Int.reduceLT, reduceCtorEq]
      exact Kv.Fin.still ⟨by rw [ocd, if_pos h1], rfl⟩
  refine e24 (by simp) fun _ _ => ?_
  simp only [k24, argEnv, take6, List.drop_zero, Int.cast_ofNat_Int, go_sem, ↓reduceIte, Nat.reduceEqDiff, Nat.reduceAdd, Nat.reduceMul, Nat.reduceLeDiff, Nat.reduceLT, Int.reduceLE, Int.reduceLT, reduceCtorEq]
  refine hcode.go ?_
  try simp only [take6, List.drop_zero, Int.cast_ofNat_Int, go_sem, ↓reduceIte, Nat.reduceEqDiff, Nat.reduceAdd, Nat.reduceMul, Nat.reduceLeDiff, Nat.reduceLT, Int.reduceLE, Int.reduceLT, reduceCtorEq]
  exact ⟨fun h1 => Kv.Fin.still ⟨rfl, rfl⟩, fun h1 => absurd h1 hc⟩
theorem p24_in (fs : List (List Nat)) (n : Nat) (hf : ∀ f ∈ fs, Ok f n) (h0 : 0 < fs.length) (hfl : fs.length ≤ 6) (hl : lcode (fs.map mp) [] = 0) (q : Nat) (hq : q < n) : Pure Try.prog 24 [.list (aggs (fs.map mp)), .int .i64 q] (.tup [.list (ints (nz (orb fs q))), .int .i64 0]) := by
  have hk := hf _ (List.getElem_mem h0)
  have h6k := hk.mp_len
  have hn5 := hk.le
  have hn : (mp fs[0]).getD 0 0 = (n : Int) := by simp [mp, mpN, hk.len]
  have hcode : Pure Try.prog 57 [.list (aggs (fs.map mp)), .int .i64 q] (.int .i64 0) := by
    refine e57 (by simp) fun _ _ => ?_
    simp only [k57, argEnv, take6, List.drop_zero, Int.cast_ofNat_Int, go_sem, ↓reduceIte, Nat.reduceEqDiff, Nat.reduceAdd, Nat.reduceMul, Nat.reduceLeDiff, Nat.reduceLT, Int.reduceLE, Int.reduceLT, reduceCtorEq]
    refine (p51n (fs.map mp) (by simp; omega) (fun r hr => by obtain ⟨f, hf', rfl⟩ := List.mem_map.1 hr; exact (hf f hf').mp_len)).go ?_
    rw [hl]
    try simp only [map_getD h0, h6k, hn, List.length_map, take6, List.drop_zero, Int.cast_ofNat_Int, go_sem, ↓reduceIte, Nat.reduceEqDiff, Nat.reduceAdd, Nat.reduceMul, Nat.reduceLeDiff, Nat.reduceLT, Int.reduceLE, Int.reduceLT, reduceCtorEq]
    refine ⟨by omega, fun _ => ⟨by omega, ?_⟩⟩
    refine (p90 _ _ _).go ?_
    rw [decide_eq_true (by omega)]
    try simp only [OpK_eq, take6, List.drop_zero, Int.cast_ofNat_Int, go_sem, ↓reduceIte, Nat.reduceEqDiff, Nat.reduceAdd, Nat.reduceMul, Nat.reduceLeDiff, Nat.reduceLT, Int.reduceLE, Int.reduceLT, reduceCtorEq]
    exact Kv.Fin.still ⟨rfl, rfl⟩
  refine e24 (by simp) fun _ _ => ?_
  simp only [k24, argEnv, take6, List.drop_zero, Int.cast_ofNat_Int, go_sem, ↓reduceIte, Nat.reduceEqDiff, Nat.reduceAdd, Nat.reduceMul, Nat.reduceLeDiff, Nat.reduceLT, Int.reduceLE, Int.reduceLT, reduceCtorEq]
  refine hcode.go ?_
  try simp only [OpK_eq, take6, List.drop_zero, Int.cast_ofNat_Int, go_sem, ↓reduceIte, Nat.reduceEqDiff, Nat.reduceAdd, Nat.reduceMul, Nat.reduceLeDiff, Nat.reduceLT, Int.reduceLE, Int.reduceLT, reduceCtorEq]
  refine (p59P fs n hf hn5 (by omega) q hq).go ?_
  try simp only [OpK_eq, take6, List.drop_zero, Int.cast_ofNat_Int, go_sem, ↓reduceIte, Nat.reduceEqDiff, Nat.reduceAdd, Nat.reduceMul, Nat.reduceLeDiff, Nat.reduceLT, Int.reduceLE, Int.reduceLT, reduceCtorEq]
  refine (p58 _ (Nat.lt_trans (sb_lt (n := 5) fun y hy => ?_) (by decide))).go ?_
  · have := reaLt hf hq ((orb_mem hf hn5 hq y).1 hy); omega
  rw [pof_orb hf hn5 hq (orb_mem hf hn5 hq)]
  try simp only [OpK_eq, take6, List.drop_zero, Int.cast_ofNat_Int, go_sem, ↓reduceIte, Nat.reduceEqDiff, Nat.reduceAdd, Nat.reduceMul, Nat.reduceLeDiff, Nat.reduceLT, Int.reduceLE, Int.reduceLT, reduceCtorEq]
  exact Kv.Fin.still ⟨rfl, rfl⟩
end Go.Proofs.Ytpepbomifjbgnaa
