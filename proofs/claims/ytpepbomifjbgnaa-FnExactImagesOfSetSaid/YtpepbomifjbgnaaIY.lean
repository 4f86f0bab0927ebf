/- ImagesOfSet: both sides. -/
import Derived.Test.YtpepbomifjbgnaaCb
import Derived.Test.YtpepbomifjbgnaaIZ
namespace Go.Proofs.Ytpepbomifjbgnaa
open Go.Kv
set_option maxRecDepth 100000
/- impl.ImagesOfSet -/
def k42 : KC := (.seq (.ops [⟨(some 4), none, .mv (.c (.nils))⟩, ⟨(some 5), none, .mv (.c (.int .i64 0))⟩])
  (.seq (.seq (.ops [⟨(some 7), none, .mv (.t 0)⟩, ⟨(some 8), none, .mv (.t 1)⟩, ⟨(some 9), none, .call (.c (.fn (.func 89) [] [])) [(.t 7), (.t 8)]⟩, ⟨(some 6), none, .mv (.t 9)⟩])
  (.seq (.ops [⟨(some 10), none, .mv (.t 6)⟩, ⟨(some 11), none, .bin .neq (.t 10) (.c (.int .i64 0))⟩])
  (.cond (.t 11) (.seq (.ops [⟨(some 12), none, .mv (.t 6)⟩, ⟨(some 4), none, .mv (.c (.nils))⟩, ⟨(some 5), none, .mv (.t 12)⟩])
  .ret) .skip)))
  (.seq (.ops [⟨(some 13), none, .mv (.t 0)⟩, ⟨(some 14), none, .mv (.t 1)⟩, ⟨(some 15), none, .call (.c (.fn (.func 84) [] [])) [(.t 13), (.t 14)]⟩, ⟨(some 4), none, .mv (.t 15)⟩, ⟨(some 5), none, .mv (.c (.int .i64 0))⟩])
  .ret)))
theorem e42 {args : List PV} {σ : Heap} {K : PV → Heap → Prop} (hl : args.length ≤ 16) (h : Wf σ → (∀ a ∈ args, PV.upto σ.length a) → vc (mkCfg Try.prog mixed [] 16 σ.length) k42 (FinK σ.length [.t 4, .t 5] K) (argEnv 0 args) σ) : ACall Try.prog 42 args σ K :=
  ACall_enter (C := mkCfg Try.prog mixed [] 16 σ.length) (c := Try.f42.body.getD .skip) Try.func42 (by kernel_rfl) (by kernel_rfl) (by kernel_rfl) rfl hl (by kernel_rfl) (by kernel_rfl) h
/- spec.ImagesOfSet -/
def k41 : KC := (.seq (.ops [⟨(some 4), none, .mv (.c (.nils))⟩, ⟨(some 5), none, .mv (.c (.int .i64 0))⟩])
  (.seq (.seq (.ops [⟨(some 7), none, .mv (.t 0)⟩, ⟨(some 8), none, .mv (.t 1)⟩, ⟨(some 9), none, .bsl false 23 1 [(.t 8)]⟩, ⟨(some 10), none, .call (.c (.fn (.func 87) [] [])) [(.t 7), (.t 9)]⟩, ⟨(some 6), none, .mv (.t 10)⟩])
  (.seq (.ops [⟨(some 11), none, .mv (.t 6)⟩, ⟨(some 12), none, .bin .neq (.t 11) (.c (.int .i64 0))⟩])
  (.cond (.t 12) (.seq (.ops [⟨(some 13), none, .mv (.t 6)⟩, ⟨(some 4), none, .mv (.c (.nils))⟩, ⟨(some 5), none, .mv (.t 13)⟩])
  .ret) .skip)))
  (.seq (.ops [⟨(some 14), none, .mv (.t 0)⟩, ⟨(some 15), none, .mv (.t 1)⟩, ⟨(some 16), none, .call (.c (.fn (.func 88) [] [])) [(.t 15)]⟩, ⟨(some 17), none, .call (.c (.fn (.func 82) [] [])) [(.t 14), (.t 16)]⟩, ⟨(some 18), none, .call (.c (.fn (.func 73) [] [])) [(.t 17)]⟩, ⟨(some 4), none, .mv (.t 18)⟩, ⟨(some 5), none, .mv (.c (.int .i64 0))⟩])
  .ret)))
theorem e41 {args : List PV} {σ : Heap} {K : PV → Heap → Prop} (hl : args.length ≤ 19) (h : Wf σ → (∀ a ∈ args, PV.upto σ.length a) → vc (mkCfg Try.prog mixed [] 19 σ.length) k41 (FinK σ.length [.t 4, .t 5] K) (argEnv 0 args) σ) : ACall Try.prog 41 args σ K :=
  ACall_enter (C := mkCfg Try.prog mixed [] 19 σ.length) (c := Try.f41.body.getD .skip) Try.func41 (by kernel_rfl) (by kernel_rfl) (by kernel_rfl) rfl hl (by kernel_rfl) (by kernel_rfl) h
/- spec.l10Set -/
/- live [0, 1, 6, 25, 26, 27, 28, 29, 30, 31, 32, 33] -/
def k87_b0 : KC := (.seq (.seq (.ops [⟨(some 12), none, .mv (.t 6)⟩, ⟨(some 13), none, .mv (.t 1)⟩, ⟨(some 14), none, .len false (.t 13)⟩, ⟨(some 15), none, .bin .lss (.t 12) (.t 14)⟩])
  (.cond (.t 15) .skip (.exit 0)))
  (.seq (.block 1 (.seq (.draw [⟨(some 18), none, .mv (.t 1)⟩, ⟨(some 19), none, .mv (.t 6)⟩, ⟨(some 20), none, .idxS 1 (.t 18) (.t 19)⟩, ⟨(some 21), none, .load false 1 (.t 20)⟩, ⟨(some 22), none, .len false (.t 21)⟩, ⟨(some 23), none, .bin .eql (.t 22) (.c (.int .i64 0))⟩, ⟨(some 24), none, .mv (.t 23)⟩, ⟨(some 25), some (24, false), .mv (.t 0)⟩, ⟨(some 26), some (24, false), .idxS 6 (.t 25) (.c (.int .i64 0))⟩, ⟨(some 27), some (24, false), .load true 6 (.t 26)⟩, ⟨(some 28), some (24, false), .mv (.t 1)⟩, ⟨(some 29), some (24, false), .mv (.t 6)⟩, ⟨(some 30), some (24, false), .idxS 1 (.t 28) (.t 29)⟩, ⟨(some 31), some (24, false), .load false 1 (.t 30)⟩, ⟨(some 32), some (24, false), .pcall (.c (.fn (.func 133) [] [])) [(.t 27), (.t 31)]⟩, ⟨(some 33), some (24, false), .bin .neq (.t 32) (.c (.int .i64 0))⟩, ⟨(some 34), none, .pick (.t 24) (.c (.bool true)) (.t 33)⟩])
  (.cond (.t 34) (.seq (.ops [⟨(some 4), none, .mv (.c (.int .i64 2))⟩])
  .ret) .skip)))
  (.ops [⟨(some 16), none, .mv (.t 6)⟩, ⟨(some 17), none, .bin .add (.t 16) (.c (.int .i64 1))⟩, ⟨(some 6), none, .mv (.t 17)⟩])))
def k87 : KC := (.seq (.ops [⟨(some 4), none, .mv (.c (.int .i64 0))⟩])
  (.seq (.seq (.ops [⟨(some 7), none, .mv (.t 0)⟩, ⟨(some 8), none, .call (.c (.fn (.func 51) [] [])) [(.t 7), (.c (.nils))]⟩, ⟨(some 5), none, .mv (.t 8)⟩])
  (.seq (.ops [⟨(some 9), none, .mv (.t 5)⟩, ⟨(some 10), none, .bin .neq (.t 9) (.c (.int .i64 0))⟩])
  (.cond (.t 10) (.seq (.ops [⟨(some 11), none, .mv (.t 5)⟩, ⟨(some 4), none, .mv (.t 11)⟩])
  .ret) .skip)))
  (.seq (.seq (.ops [⟨(some 6), none, .mv (.c (.int .i64 0))⟩])
  (.block 0 (.loop k87_b0)))
  (.seq (.ops [⟨(some 4), none, .mv (.c (.int .i64 0))⟩])
  .ret))))
theorem e87 {args : List PV} {σ : Heap} {K : PV → Heap → Prop} (hl : args.length ≤ 35) (h : Wf σ → (∀ a ∈ args, PV.upto σ.length a) → vc (mkCfg Try.prog mixed [] 35 σ.length) k87 (FinK σ.length [.t 4] K) (argEnv 0 args) σ) : ACall Try.prog 87 args σ K :=
  ACall_enter (C := mkCfg Try.prog mixed [] 35 σ.length) (c := Try.f87.body.getD .skip) Try.func87 (by kernel_rfl) (by kernel_rfl) (by kernel_rfl) rfl hl (by kernel_rfl) (by kernel_rfl) h
end Go.Proofs.Ytpepbomifjbgnaa
namespace Go.Proofs.Ytpepbomifjbgnaa
open Go.Kv
set_option linter.unusedVariables false
set_option linter.unusedSimpArgs false
attribute [local irreducible] ACall PCall KL
theorem asc_bits {n : Nat} (h5 : n ≤ 5) {P : List Int} (h : asc n P) : 1 ≤ bits P ∧ bits P < 2 ^ n ∧ P = nz (pof (bits P) n) := by
  obtain ⟨l, rfl, h0, hl, hp⟩ := h
  have hb : bits (l.map fun x : Nat => (x : Int)) = sb l := by unfold bits; rw [toNat_map]
  rw [hb]
  have hlt : sb l < 2 ^ n := sb_lt hl
  have h1 : 1 ≤ sb l := by
    cases l with
    | nil => exact absurd rfl h0
    | cons a l =>
      refine Nat.one_le_iff_ne_zero.2 fun hz => ?_
      have := sb_test (a :: l) a
      rw [hz, Nat.zero_testBit] at this
      simp at this
  refine ⟨h1, hlt, ?_⟩
  have ha : asc n (l.map fun x : Nat => (x : Int)) := ⟨l, rfl, h0, hl, hp⟩
  refine (bits_inj ha (asc_pof h1 hlt)).1 ?_
  rw [hb, bits, nz, toNat_map, pof_lt hlt]
theorem p42_in (fs : List (List Nat)) (n : Nat) (hf : ∀ f ∈ fs, Ok f n) (h0 : 0 < fs.length) (hfl : fs.length ≤ 6) (hl : lcode (fs.map mp) [] = 0) (P : List Int) (hP : bad P n = false) :
    NewTO Try.prog 42 [.list (aggs (fs.map mp)), .list (ints P)] 23 2 (rowsB (imS fs n (bits P))) 0 := by
  have hk := hf _ (List.getElem_mem h0)
  have h6k := hk.mp_len
  have h5 := hk.le
  have haP := bad_asc hP
  have hPl := asc_len haP
  obtain ⟨hb1, hb2, hb3⟩ := asc_bits h5 haP
  have hc : fsc (fs.map mp) P = 0 := by
    rw [fsc, if_neg (by simp [hl]), map_getD h0]
    have : (mp fs[0]).getD 0 0 = (n : Int) := by simp [mp, mpN, hk.len]
    rw [this, hP]; rfl
  have hI := p84 fs n h5 hf (by omega) (bits P) hb1 hb2
  rw [← hb3] at hI
  refine NewTN.own ?_
  unfold NewTN
  refine e42 (by simp) fun _ _ => ?_
  simp only [k42, argEnv, take6, List.drop_zero, Int.cast_ofNat_Int, go_sem, ↓reduceIte, Nat.reduceEqDiff, Nat.reduceAdd, Nat.reduceMul, Nat.reduceLeDiff, Nat.reduceLT, Int.reduceLE, Int.reduceLT, reduceCtorEq]
  refine (p89 _ P (by simp; omega) (fun r hr => by obtain ⟨f, hf', rfl⟩ := List.mem_map.1 hr; exact (hf f hf').mp_len) (by omega)).go ?_
  rw [hc]
  try simp only [OpK_eq, HKv, take6, List.drop_zero, Int.cast_ofNat_Int, go_sem, ↓reduceIte, Nat.reduceEqDiff, Nat.reduceAdd, Nat.reduceMul, Nat.reduceLeDiff, Nat.reduceLT, Int.reduceLE, Int.reduceLT, reduceCtorEq]
  refine hI.mono fun v s ⟨q1, q2⟩ => ?_
  try simp only [OpK_eq, HKv, take6, List.drop_zero, Int.cast_ofNat_Int, go_sem, ↓reduceIte, Nat.reduceEqDiff, Nat.reduceAdd, Nat.reduceMul, Nat.reduceLeDiff, Nat.reduceLT, Int.reduceLE, Int.reduceLT, reduceCtorEq]
  exact Kv.Fin.now ⟨v, rfl, q1, q2⟩
theorem p42_out (a : List (List Int)) (P : List Int) (ha : a.length ≤ 1048576) (h6 : ∀ r ∈ a, r.length = 6) (hP : P.length ≤ 1048576) (hc : fsc a P ≠ 0) : Pure Try.prog 42 [.list (aggs a), .list (ints P)] (.tup [.nils, .int .i64 (fsc a P)]) := by
  refine e42 (by simp) fun _ _ => ?_
  simp only [k42, argEnv, take6, List.drop_zero, Int.cast_ofNat_Int, go_sem, ↓reduceIte, Nat.reduceEqDiff, Nat.reduceAdd, Nat.reduceMul, Nat.reduceLeDiff, Nat.reduceLT, Int.reduceLE, Int.reduceLT, reduceCtorEq]
  refine (p89 a P ha h6 hP).go ?_
  try simp only [OpK_eq, HKv, take6, List.drop_zero, Int.cast_ofNat_Int, go_sem, ↓reduceIte, Nat.reduceEqDiff, Nat.reduceAdd, Nat.reduceMul, Nat.reduceLeDiff, Nat.reduceLT, Int.reduceLE, Int.reduceLT, reduceCtorEq]
  exact ⟨fun h1 => Kv.Fin.still ⟨rfl, rfl⟩, fun h1 => absurd h1 hc⟩
theorem p871 (a : List (List Int)) (P : List Int) (ha : a.length ≤ 1048576) (h6 : ∀ r ∈ a, r.length = 6) (hP : P.length ≤ 1048576) : Pure Try.prog 87 [.list (aggs a), .list (rows [P])] (.int .i64 (fsc a P)) := by
  refine e87 (by simp) fun _ _ => ?_
  simp only [k87, argEnv, take6, List.drop_zero, Int.cast_ofNat_Int, go_sem, ↓reduceIte, Nat.reduceEqDiff, Nat.reduceAdd, Nat.reduceMul, Nat.reduceLeDiff, Nat.reduceLT, Int.reduceLE, Int.reduceLT, reduceCtorEq]
  refine (p51n a ha h6).go ?_
  try simp only [take6, List.drop_zero, Int.cast_ofNat_Int, go_sem, ↓reduceIte, Nat.reduceEqDiff, Nat.reduceAdd, Nat.reduceMul, Nat.reduceLeDiff, Nat.reduceLT, Int.reduceLE, Int.reduceLT, reduceCtorEq]
  refine ⟨fun h1 => ?_, fun h1 => ?_⟩
  · have hf : fsc a P = lcode a [] := by rw [fsc, if_pos h1]
    exact Kv.Fin.still ⟨by rw [hf], rfl⟩
  · have hv : fsc a P = if bad P ((a.getD 0 []).getD 0 0) = true then 2 else 0 := by rw [fsc, if_neg (by simp [h1])]
    obtain ⟨fs, n, rfl, hf, hl1, hl2, hn, hn1, hn5⟩ := lcode_maps h6 h1
    have h0 : 0 < fs.length := by omega
    have hk := hf _ (List.getElem_mem h0)
    have h6k := hk.mp_len
    rw [hn] at hv
    rw [map_getD h0] at hn
    refine KL_ind k87_b0.eq_1 (fun x : Nat => [(0, .list (aggs (fs.map mp))), (1, .list (rows [P])), (6, .int .i64 x)]) (fun _ => []) (fun x => x ≤ 1 ∧ (1 ≤ x → bad P n = false)) (fun x => 1 - x) [0, 1, 6] 0 (by rfl) rfl ⟨Nat.zero_le _, by omega⟩ fun x ⟨hx, hx1⟩ ih => ?_
    try simp only [OpK_eq, map_getD h0, h6k, hn, List.length_map, take6, List.drop_zero, Int.cast_ofNat_Int, go_sem, ↓reduceIte, Nat.reduceEqDiff, Nat.reduceAdd, Nat.reduceMul, Nat.reduceLeDiff, Nat.reduceLT, Int.reduceLE, Int.reduceLT, reduceCtorEq]
    refine ⟨fun h2 => ?_, fun h2 => ?_⟩
    · obtain rfl : x = 0 := by omega
      have hR : [P].getD 0 [] = P := rfl
      try simp only [OpK_eq, map_getD h0, h6k, hn, List.length_map, hR, take6, List.drop_zero, Int.cast_ofNat_Int, go_sem, ↓reduceIte, Nat.reduceEqDiff, Nat.reduceAdd, Nat.reduceMul, Nat.reduceLeDiff, Nat.reduceLT, Int.reduceLE, Int.reduceLT, reduceCtorEq]
      refine ⟨fun h3 => ⟨by omega, fun _ => ?_⟩, fun h3 => ?_⟩
      · refine (p133 fs[0] n hk P hP).pgo ?_
        have hb : bad P n = !stB P n := by rw [bad, decide_eq_false (by omega), Bool.false_or]
        cases hs : stB P n with
        | false =>
          rw [hs] at hb
          rw [hb] at hv
          try simp only [OpK_eq, HKv, take6, List.drop_zero, Int.cast_ofNat_Int, go_sem, ↓reduceIte, Nat.reduceEqDiff, Nat.reduceAdd, Nat.reduceMul, Nat.reduceLeDiff, Nat.reduceLT, Int.reduceLE, Int.reduceLT, reduceCtorEq]
          exact ⟨fun _ => Kv.Fin.still ⟨by rw [hv]; rfl, rfl⟩, fun h => absurd h (by decide)⟩
        | true =>
          rw [hs] at hb
          try simp only [OpK_eq, HKv, take6, List.drop_zero, Int.cast_ofNat_Int, go_sem, ↓reduceIte, Nat.reduceEqDiff, Nat.reduceAdd, Nat.reduceMul, Nat.reduceLeDiff, Nat.reduceLT, Int.reduceLE, Int.reduceLT, reduceCtorEq]
          exact ⟨by omega, ih 1 ⟨by omega, fun _ => hb⟩ (by omega) _ _ (by simp [keep]) rfl⟩
      · have hb : bad P n = true := by rw [bad, decide_eq_true (by omega)]; rfl
        rw [hb] at hv
        exact Kv.Fin.still ⟨by rw [hv]; rfl, rfl⟩
    · rw [hx1 (by omega)] at hv
      exact Kv.Fin.still ⟨by rw [hv]; rfl, rfl⟩
theorem p41_out (a : List (List Int)) (P : List Int) (ha : a.length ≤ 1048576) (h6 : ∀ r ∈ a, r.length = 6) (hP : P.length ≤ 1048576) (hc : fsc a P ≠ 0) : Pure Try.prog 41 [.list (aggs a), .list (ints P)] (.tup [.nils, .int .i64 (fsc a P)]) := by
  refine e41 (by simp) fun _ _ => ?_
  simp only [k41, argEnv, take6, List.drop_zero, Int.cast_ofNat_Int, go_sem, ↓reduceIte, Nat.reduceEqDiff, Nat.reduceAdd, Nat.reduceMul, Nat.reduceLeDiff, Nat.reduceLT, Int.reduceLE, Int.reduceLT, reduceCtorEq]
  try simp only [OpK_eq, take6, List.drop_zero, Int.cast_ofNat_Int, go_sem, ↓reduceIte, Nat.reduceEqDiff, Nat.reduceAdd, Nat.reduceMul, Nat.reduceLeDiff, Nat.reduceLT, Int.reduceLE, Int.reduceLT, reduceCtorEq]
  refine (p871 a P ha h6 hP).lend (.cons Imm.still (.cons (Imm.refr (l := [P]) rfl rfl) (.nil _))) ?_
  try simp only [OpK_eq, HKv, take6, List.drop_zero, Int.cast_ofNat_Int, go_sem, ↓reduceIte, Nat.reduceEqDiff, Nat.reduceAdd, Nat.reduceMul, Nat.reduceLeDiff, Nat.reduceLT, Int.reduceLE, Int.reduceLT, reduceCtorEq]
  refine ⟨fun h1 => Kv.Fin.still ⟨rfl, rfl⟩, fun h1 => absurd h1 hc⟩
theorem p41_in (fs : List (List Nat)) (n : Nat) (hf : ∀ f ∈ fs, Ok f n) (h0 : 0 < fs.length) (hfl : fs.length ≤ 6) (hl : lcode (fs.map mp) [] = 0) (P : List Int) (hP : bad P n = false) : Pure Try.prog 41 [.list (aggs (fs.map mp)), .list (ints P)] (.tup [.list (rows (rowsB (imS fs n (bits P)))), .int .i64 0]) := by
  have hk := hf _ (List.getElem_mem h0)
  have h6k := hk.mp_len
  have h5 := hk.le
  have haP := bad_asc hP
  have hPl := asc_len haP
  obtain ⟨hb1, hb2, hb3⟩ := asc_bits h5 haP
  have hm6 : ∀ r ∈ fs.map mp, r.length = 6 := fun r hr => by obtain ⟨f, hf', rfl⟩ := List.mem_map.1 hr; exact (hf f hf').mp_len
  have hc : fsc (fs.map mp) P = 0 := by
    rw [fsc, if_neg (by simp [hl]), map_getD h0]
    have : (mp fs[0]).getD 0 0 = (n : Int) := by simp [mp, mpN, hk.len]
    rw [this, hP]; rfl
  have hbP := p88 (P.map Int.toNat) (fun x hx => ?_) (by simp; omega)
  rotate_left
  · obtain ⟨l, rfl, _, hl, _⟩ := haP
    rw [toNat_map] at hx; have := hl x hx; omega
  have eP : (P.map Int.toNat).map (fun x : Nat => (x : Int)) = P := by obtain ⟨l, rfl, _⟩ := haP; rw [toNat_map]
  rw [eP] at hbP
  have ebP : sb (P.map Int.toNat) = bits P := rfl
  rw [ebP] at hbP
  have hS := imS_srt (fs := fs) (x := bits P) h5
  have hSl := srt_len5 hS h5 fun b hb => (((imS_mem h5 hf hb1 hb2 b).1 hb).bnd hf hb1 hb2).2
  refine e41 (by simp) fun _ _ => ?_
  simp only [k41, argEnv, take6, List.drop_zero, Int.cast_ofNat_Int, go_sem, ↓reduceIte, Nat.reduceEqDiff, Nat.reduceAdd, Nat.reduceMul, Nat.reduceLeDiff, Nat.reduceLT, Int.reduceLE, Int.reduceLT, reduceCtorEq]
  try simp only [OpK_eq, take6, List.drop_zero, Int.cast_ofNat_Int, go_sem, ↓reduceIte, Nat.reduceEqDiff, Nat.reduceAdd, Nat.reduceMul, Nat.reduceLeDiff, Nat.reduceLT, Int.reduceLE, Int.reduceLT, reduceCtorEq]
  refine (p871 _ P (by simp; omega) hm6 (by omega)).lend (.cons Imm.still (.cons (Imm.refr (l := [P]) rfl rfl) (.nil _))) ?_
  rw [hc]
  try simp only [OpK_eq, HKv, take6, List.drop_zero, Int.cast_ofNat_Int, go_sem, ↓reduceIte, Nat.reduceEqDiff, Nat.reduceAdd, Nat.reduceMul, Nat.reduceLeDiff, Nat.reduceLT, Int.reduceLE, Int.reduceLT, reduceCtorEq]
  refine hbP.go ?_
  try simp only [OpK_eq, HKv, take6, List.drop_zero, Int.cast_ofNat_Int, go_sem, ↓reduceIte, Nat.reduceEqDiff, Nat.reduceAdd, Nat.reduceMul, Nat.reduceLeDiff, Nat.reduceLT, Int.reduceLE, Int.reduceLT, reduceCtorEq]
  refine (p82 fs n h5 hf (by omega) (bits P) hb1 hb2).go ?_
  try simp only [OpK_eq, HKv, take6, List.drop_zero, Int.cast_ofNat_Int, go_sem, ↓reduceIte, Nat.reduceEqDiff, Nat.reduceAdd, Nat.reduceMul, Nat.reduceLeDiff, Nat.reduceLT, Int.reduceLE, Int.reduceLT, reduceCtorEq]
  refine (p73 _ hS.2 (by omega)).go ?_
  try simp only [OpK_eq, HKv, take6, List.drop_zero, Int.cast_ofNat_Int, go_sem, ↓reduceIte, Nat.reduceEqDiff, Nat.reduceAdd, Nat.reduceMul, Nat.reduceLeDiff, Nat.reduceLT, Int.reduceLE, Int.reduceLT, reduceCtorEq]
  exact Kv.Fin.still ⟨rfl, rfl⟩
end Go.Proofs.Ytpepbomifjbgnaa
