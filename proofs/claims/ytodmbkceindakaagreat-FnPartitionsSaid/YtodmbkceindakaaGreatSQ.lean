/- Strong parts: the specification. -/
import Derived.Test.YtodmbkceindakaaGreatCb
import Derived.Test.YtodmbkceindakaaGreatSP
import Derived.Test.YtodmbkceindakaaGreatG3
import Derived.Test.YtodmbkceindakaaGreatIP
namespace Go.Proofs.YtodmbkceindakaaGreat
open Go.Kv
set_option maxRecDepth 100000
/- spec.l10Parts -/
/- live [0, 3, 4, 5, 6, 7, 8, 9, 41, 42, 43, 44, 45, 46, 47, 48] -/
def k36_b0 : KC := (.seq (.seq (.ops [⟨(some 29), none, .mv (.t 9)⟩, ⟨(some 30), none, .mv (.t 3)⟩, ⟨(some 31), none, .bin .lss (.t 29) (.t 30)⟩])
  (.cond (.t 31) .skip (.exit 2)))
  (.seq (.block 3 (.seq (.ops [⟨(some 34), none, .mv (.t 8)⟩, ⟨(some 35), none, .mv (.t 9)⟩, ⟨(some 36), none, .conv .u64 (.t 35)⟩, ⟨(some 37), none, .bin .shr (.t 34) (.t 36)⟩, ⟨(some 38), none, .bin .and (.t 37) (.c (.int .i64 1))⟩, ⟨(some 39), none, .bin .eql (.t 38) (.c (.int .i64 1))⟩, ⟨(some 40), none, .mv (.t 39)⟩, ⟨(some 41), some (40, true), .mv (.t 0)⟩, ⟨(some 42), some (40, true), .mv (.t 9)⟩, ⟨(some 43), some (40, true), .call (.c (.fn (.func 58) [] [])) [(.t 41), (.t 42)]⟩, ⟨(some 44), some (40, true), .mv (.t 6)⟩, ⟨(some 45), some (40, true), .conv .u64 (.t 44)⟩, ⟨(some 46), some (40, true), .bin .shr (.t 43) (.t 45)⟩, ⟨(some 47), some (40, true), .bin .and (.t 46) (.c (.int .i64 1))⟩, ⟨(some 48), some (40, true), .bin .eql (.t 47) (.c (.int .i64 1))⟩, ⟨(some 49), none, .pick (.t 40) (.t 48) (.c (.bool false))⟩])
  (.cond (.t 49) (.ops [⟨(some 50), none, .mv (.t 7)⟩, ⟨(some 51), none, .mv (.t 9)⟩, ⟨(some 52), none, .conv .u64 (.t 51)⟩, ⟨(some 53), none, .bin .shl (.c (.int .i64 1)) (.t 52)⟩, ⟨(some 54), none, .bin .or (.t 50) (.t 53)⟩, ⟨(some 7), none, .mv (.t 54)⟩]) .skip)))
  (.ops [⟨(some 32), none, .mv (.t 9)⟩, ⟨(some 33), none, .bin .add (.t 32) (.c (.int .i64 1))⟩, ⟨(some 9), none, .mv (.t 33)⟩])))
/- live [0, 3, 4, 5, 6, 41, 42, 43, 44, 45, 46, 47, 48] -/
def k36_b1 : KC := (.seq (.seq (.ops [⟨(some 15), none, .mv (.t 6)⟩, ⟨(some 16), none, .mv (.t 3)⟩, ⟨(some 17), none, .bin .lss (.t 15) (.t 16)⟩])
  (.cond (.t 17) .skip (.exit 0)))
  (.seq (.block 1 (.seq (.seq (.ops [⟨(some 20), none, .mv (.t 4)⟩, ⟨(some 21), none, .mv (.t 6)⟩, ⟨(some 22), none, .conv .u64 (.t 21)⟩, ⟨(some 23), none, .bin .shr (.t 20) (.t 22)⟩, ⟨(some 24), none, .bin .and (.t 23) (.c (.int .i64 1))⟩, ⟨(some 25), none, .bin .eql (.t 24) (.c (.int .i64 1))⟩])
  (.cond (.t 25) (.exit 1) .skip))
  (.seq (.ops [⟨(some 26), none, .mv (.t 0)⟩, ⟨(some 27), none, .mv (.t 6)⟩, ⟨(some 28), none, .call (.c (.fn (.func 58) [] [])) [(.t 26), (.t 27)]⟩, ⟨(some 7), none, .mv (.c (.int .i64 0))⟩, ⟨(some 8), none, .mv (.t 28)⟩])
  (.seq (.seq (.ops [⟨(some 9), none, .mv (.c (.int .i64 0))⟩])
  (.block 2 (.loop k36_b0)))
  (.seq (.ops [⟨(some 55), none, .mv (.t 4)⟩, ⟨(some 56), none, .mv (.t 7)⟩, ⟨(some 57), none, .bin .or (.t 55) (.t 56)⟩, ⟨(some 4), none, .mv (.t 57)⟩])
  (.ops [⟨(some 58), none, .mv (.t 5)⟩, ⟨(some 59), none, .mv (.t 7)⟩, ⟨(some 60), none, .bsl true 2 1 [(.t 59)]⟩, ⟨(some 61), none, .app (.t 58) (.t 60) 2 1⟩, ⟨(some 5), none, .mv (.t 61)⟩]))))))
  (.ops [⟨(some 18), none, .mv (.t 6)⟩, ⟨(some 19), none, .bin .add (.t 18) (.c (.int .i64 1))⟩, ⟨(some 6), none, .mv (.t 19)⟩])))
def k36 : KC := (.seq (.ops [⟨(some 2), none, .mv (.c (.nils))⟩])
  (.seq (.ops [⟨(some 10), none, .mv (.t 0)⟩, ⟨(some 11), none, .idxS 6 (.t 10) (.c (.int .i64 0))⟩, ⟨(some 12), none, .fieldA 0 (.t 11)⟩, ⟨(some 13), none, .load false 1 (.t 12)⟩, ⟨(some 14), none, .bsl false 2 1 []⟩, ⟨(some 3), none, .mv (.t 13)⟩, ⟨(some 4), none, .mv (.c (.int .i64 0))⟩, ⟨(some 5), none, .mv (.t 14)⟩])
  (.seq (.seq (.ops [⟨(some 6), none, .mv (.c (.int .i64 0))⟩])
  (.block 0 (.loop k36_b1)))
  (.seq (.ops [⟨(some 62), none, .mv (.t 5)⟩, ⟨(some 2), none, .mv (.t 62)⟩])
  .ret))))
theorem e36 {args : List PV} {σ : Heap} {K : PV → Heap → Prop} (hl : args.length ≤ 63) (h : Wf σ → (∀ a ∈ args, PV.upto σ.length a) → vc (mkCfg Tryz.prog mixed [60] 63 σ.length) k36 (FinK σ.length [.t 2] K) (argEnv 0 args) σ) : ACall Tryz.prog 36 args σ K :=
  ACall_enter (C := mkCfg Tryz.prog mixed [60] 63 σ.length) (c := Tryz.f36.body.getD .skip) Tryz.func36 (by kernel_rfl) (by kernel_rfl) (by kernel_rfl) rfl hl (by kernel_rfl) (by kernel_rfl) h
/- impl.IsTransitive -/
def k17 : KC := (.seq (.ops [⟨(some 2), none, .mv (.c (.bool false))⟩, ⟨(some 3), none, .mv (.c (.int .i64 0))⟩])
  (.seq (.seq (.ops [⟨(some 5), none, .mv (.t 0)⟩, ⟨(some 6), none, .call (.c (.fn (.func 24) [] [])) [(.t 5), (.c (.nils))]⟩, ⟨(some 4), none, .mv (.t 6)⟩])
  (.seq (.ops [⟨(some 7), none, .mv (.t 4)⟩, ⟨(some 8), none, .bin .neq (.t 7) (.c (.int .i64 0))⟩])
  (.cond (.t 8) (.seq (.ops [⟨(some 9), none, .mv (.t 4)⟩, ⟨(some 2), none, .mv (.c (.bool false))⟩, ⟨(some 3), none, .mv (.t 9)⟩])
  .ret) .skip)))
  (.seq (.ops [⟨(some 10), none, .mv (.t 0)⟩, ⟨(some 11), none, .call (.c (.fn (.func 35) [] [])) [(.t 10)]⟩, ⟨(some 12), none, .len false (.t 11)⟩, ⟨(some 13), none, .bin .eql (.t 12) (.c (.int .i64 1))⟩, ⟨(some 2), none, .mv (.t 13)⟩, ⟨(some 3), none, .mv (.c (.int .i64 0))⟩])
  .ret)))
theorem e17 {args : List PV} {σ : Heap} {K : PV → Heap → Prop} (hl : args.length ≤ 14) (h : Wf σ → (∀ a ∈ args, PV.upto σ.length a) → vc (mkCfg Tryz.prog mixed [] 14 σ.length) k17 (FinK σ.length [.t 2, .t 3] K) (argEnv 0 args) σ) : ACall Tryz.prog 17 args σ K :=
  ACall_enter (C := mkCfg Tryz.prog mixed [] 14 σ.length) (c := Tryz.f17.body.getD .skip) Tryz.func17 (by kernel_rfl) (by kernel_rfl) (by kernel_rfl) rfl hl (by kernel_rfl) (by kernel_rfl) h
end Go.Proofs.YtodmbkceindakaaGreat
namespace Go.Proofs.YtodmbkceindakaaGreat
open Go.Kv
set_option linter.unusedVariables false
set_option linter.unusedSimpArgs false
attribute [local irreducible] ACall PCall KL
theorem rea_trans {fs : List (List Nat)} {a b c : Nat} (h : Rea fs a b) (h' : Rea fs b c) : Rea fs a c := by
  induction h' with
  | here => exact h
  | step f x hf _ ih => exact .step f x hf ih
/-- What the parts ahead of a point hold. -/
noncomputable def metL (fs : List (List Nat)) (x : Nat) : List Nat := ((List.range x).filter (rep fs)).flatMap (prtL fs)
noncomputable def sbs (fs : List (List Nat)) (x : Nat) : List Int := ((List.range x).filter (rep fs)).map fun p => (sb (prtL fs p) : Int)
theorem sbs_get {fs : List (List Nat)} {x i : Nat} (h : i < (sbs fs x).length) : ∃ p, p < x ∧ (sbs fs x).getD i 0 = (sb (prtL fs p) : Int) ∧ (strong fs x)[i]? = some (nz (prtL fs p)) := by
  unfold sbs at h ⊢
  rw [List.length_map] at h
  refine ⟨((List.range x).filter (rep fs))[i], ?_, ?_, ?_⟩
  · have := List.getElem_mem h
    rw [List.mem_filter, List.mem_range] at this
    exact this.1
  · simp [List.getD_eq_getElem?_getD, h]
  · simp [strong, h]
theorem sbs_slen (fs : List (List Nat)) (x : Nat) : (strong fs x).length = (sbs fs x).length := by simp [strong, sbs]
theorem metL_succ (fs : List (List Nat)) (x : Nat) : metL fs (x + 1) = metL fs x ++ if rep fs x = true then prtL fs x else [] := by
  unfold metL
  rw [List.range_succ, List.filter_append, List.flatMap_append]
  congr 1
  by_cases h : rep fs x = true <;> simp [h]
theorem sbs_succ (fs : List (List Nat)) (x : Nat) : sbs fs (x + 1) = sbs fs x ++ if rep fs x = true then [(sb (prtL fs x) : Int)] else [] := by
  unfold sbs
  rw [List.range_succ, List.filter_append, List.map_append]
  congr 1
  by_cases h : rep fs x = true <;> simp [h]
theorem sbs_len (fs : List (List Nat)) (x : Nat) : (sbs fs x).length ≤ x := by
  have := List.length_filter_le (rep fs) (List.range x)
  simpa [sbs] using this
open Classical in
theorem metL_mem {fs : List (List Nat)} {n x : Nat} (hf : ∀ f ∈ fs, Ok f n) (hn : n ≤ 5) (hx : x < n) : x ∈ metL fs x ↔ rep fs x = false := by
  unfold metL
  rw [List.mem_flatMap]
  constructor
  · rintro ⟨p, hp, hm⟩
    rw [List.mem_filter, List.mem_range] at hp
    have hm := (prtL_mem hf hn (by omega) x).1 hm
    unfold rep
    exact decide_eq_false fun h => h p hp.1 ⟨hm.2, hm.1⟩
  · intro h
    unfold rep at h
    have h := of_decide_eq_false h
    have hex : ∃ q, q < x ∧ Rea fs x q ∧ Rea fs q x := Classical.byContradiction fun hno => h fun q hq hm => hno ⟨q, hq, hm⟩
    have hleast : ∃ q, (q < x ∧ Rea fs x q ∧ Rea fs q x) ∧ ∀ r, r < q → ¬ (r < x ∧ Rea fs x r ∧ Rea fs r x) := by
      obtain ⟨q, hq⟩ := hex
      induction q using Nat.strongRecOn with
      | _ q ih =>
        by_cases hh : ∃ r, r < q ∧ (r < x ∧ Rea fs x r ∧ Rea fs r x)
        · obtain ⟨r, hr, hr2⟩ := hh; exact ih r hr hr2
        · exact ⟨q, hq, fun r hr hr2 => hh ⟨r, hr, hr2⟩⟩
    obtain ⟨q, ⟨hq, h1, h2⟩, hl⟩ := hleast
    refine ⟨q, List.mem_filter.2 ⟨List.mem_range.2 hq, ?_⟩, (prtL_mem hf hn (by omega) x).2 ⟨h2, h1⟩⟩
    unfold rep
    refine decide_eq_true fun r hr hm => hl r hr ⟨by omega, rea_trans h1 hm.1, rea_trans hm.2 h2⟩
theorem pof_prtL {fs : List (List Nat)} {n p : Nat} (hf : ∀ f ∈ fs, Ok f n) (hn : n ≤ 5) (hp : p < n) : pof (sb (prtL fs p)) 62 = prtL fs p := by
  have ha : (pof (sb (prtL fs p)) 62).Pairwise (· < ·) := List.Pairwise.filter _ List.pairwise_lt_range
  have hperm : (pof (sb (prtL fs p)) 62).Perm (prtL fs p) := (List.perm_ext_iff_of_nodup (ha.imp fun h => by omega) ((prtL_asc fs p).imp fun h => by omega)).2 fun x => by
    rw [pof, List.mem_filter, List.mem_range, sb_test, decide_eq_true_iff]
    exact ⟨fun h => h.2, fun h => ⟨by have := reaLt hf hp ((prtL_mem hf hn hp x).1 h).1; omega, h⟩⟩
  have := sorted_uniq (hperm.map fun x : Nat => (x : Int)) (nz_sorted ha) (nz_sorted (prtL_asc fs p))
  have := congrArg (List.map Int.toNat) this
  rwa [toNat_map, toNat_map] at this
theorem metL_lt {fs : List (List Nat)} {n x : Nat} (hf : ∀ f ∈ fs, Ok f n) (hn : n ≤ 5) (hx : x ≤ n) : ∀ y ∈ metL fs x, y < n := fun y hy => by
  obtain ⟨p, hp, hm⟩ := List.mem_flatMap.1 hy
  rw [List.mem_filter, List.mem_range] at hp
  exact reaLt hf (by omega) ((prtL_mem hf hn (by omega) y).1 hm).1
open Classical in
/-- The part of a point, as far as another one. -/
noncomputable def ownL (fs : List (List Nat)) (x k : Nat) : List Nat := (List.range k).filter fun q => decide (Rea fs x q ∧ Rea fs q x)
open Classical in
theorem ownL_succ (fs : List (List Nat)) (x k : Nat) : ownL fs x (k + 1) = ownL fs x k ++ if Rea fs x k ∧ Rea fs k x then [k] else [] := by
  unfold ownL
  rw [List.range_succ, List.filter_append]
  congr 1
  by_cases h : Rea fs x k ∧ Rea fs k x <;> simp [h]
theorem ownL_lt (fs : List (List Nat)) (x k : Nat) : ∀ y ∈ ownL fs x k, y < k := fun y hy => by
  have := (List.mem_filter.1 hy).1
  simpa using this
open Classical in
theorem ownL_all {fs : List (List Nat)} {n x : Nat} (hf : ∀ f ∈ fs, Ok f n) (hn : n ≤ 5) (hx : x < n) : sb (ownL fs x n) = sb (prtL fs x) := sb_ext fun y => by
  rw [prtL_mem hf hn hx]
  unfold ownL
  rw [List.mem_filter, List.mem_range, decide_eq_true_iff]
  exact ⟨fun h => h.2, fun h => ⟨reaLt hf hx h.1, h⟩⟩
open Classical in
theorem p36 (fs : List (List Nat)) (n : Nat) (h1 : 1 ≤ n) (hn5 : n ≤ 5) (hf : ∀ f ∈ fs, Ok f n) (h0 : 0 < fs.length) (hfl : fs.length ≤ 1000) : Pure Tryz.prog 36 [.list (aggs (fs.map mp))] (.list (ints (sbs fs n))) := by
  have hk := hf _ (List.getElem_mem h0)
  have h6k := hk.mp_len
  have hlen := hk.len
  have hsb : ∀ m : List Nat, (∀ y ∈ m, y < n) → sb m < 2 ^ 62 := fun m hm => Nat.lt_trans (sb_lt (n := 5) fun y hy => by have := hm y hy; omega) (by decide)
  have hob : ∀ p, p < n → sb (orb fs p) < 2 ^ 62 := fun p hp => hsb _ fun y hy => reaLt hf hp ((orb_mem hf hn5 hp y).1 hy)
  refine e36 (by simp) fun _ _ => ?_
  simp only [k36, argEnv, take6, List.drop_zero, Int.cast_ofNat_Int, go_sem, ↓reduceIte, Nat.reduceEqDiff, Nat.reduceAdd, Nat.reduceMul, Nat.reduceLeDiff, Nat.reduceLT, Int.reduceLE, Int.reduceLT, reduceCtorEq]
  try simp only [map_getD h0, h6k, hlen, List.length_map, take6, List.drop_zero, Int.cast_ofNat_Int, go_sem, ↓reduceIte, Nat.reduceEqDiff, Nat.reduceAdd, Nat.reduceMul, Nat.reduceLeDiff, Nat.reduceLT, Int.reduceLE, Int.reduceLT, reduceCtorEq]
  refine ⟨by omega, fun _ => ?_⟩
  refine KL_ind k36_b1.eq_1 (fun x : Nat => [(0, .list (aggs (fs.map mp))), (3, .int .i64 n), (4, .int .i64 (sb (metL fs x))), (5, .ref 0 (sbs fs x).length 0 (sbs fs x).length), (6, .int .i64 x)]) (fun x => [.arr (sbs fs x).length 2 1 (ints (sbs fs x))]) (fun x => x ≤ n) (fun x => n - x) [0, 3, 4, 5, 6] 0 (by rfl) (by rfl) (Nat.zero_le _) fun x hx ih => ?_
  have hsl := sbs_len fs x
  have hss := sbs_succ fs x
  have hms := metL_succ fs x
  have hx61 : x ≤ 61 := by omega
  have hmx := hsb _ (metL_lt hf hn5 hx)
  try simp only [OpK_eq, aConv_u64 hx61, aBin_shr (show x ≤ 63 by omega), aBin_and1 (shr_le hmx), take6, List.drop_zero, Int.cast_ofNat_Int, go_sem, ↓reduceIte, Nat.reduceEqDiff, Nat.reduceAdd, Nat.reduceMul, Nat.reduceLeDiff, Nat.reduceLT, Int.reduceLE, Int.reduceLT, reduceCtorEq]
  refine ⟨fun h2 => ?_, fun h2 => ?_⟩
  · have hxn : x < n := by omega
    have hmm := metL_mem hf hn5 hxn
    refine ⟨fun h3 => ?_, fun h3 => ?_⟩
    · rw [bit_one, sb_test, decide_eq_true_iff, hmm] at h3
      rw [h3] at hss hms
      simp only [Bool.false_eq_true, ↓reduceIte, List.append_nil] at hss hms
      refine ⟨by omega, ih (x + 1) (by omega) (by omega) _ _ ?_ ?_⟩
      · simp only [keep, List.map_cons, List.map_nil, hss, hms]; rfl
      · rw [hss]
    · rw [bit_one, sb_test, decide_eq_true_iff, hmm] at h3
      have h3 : rep fs x = true := by
        cases hr : rep fs x with
        | true => rfl
        | false => exact absurd hr h3
      rw [if_pos h3] at hss hms
      refine (p58P fs n hf hn5 hfl x hxn).go ?_
      try simp only [OpK_eq, take6, List.drop_zero, Int.cast_ofNat_Int, go_sem, ↓reduceIte, Nat.reduceEqDiff, Nat.reduceAdd, Nat.reduceMul, Nat.reduceLeDiff, Nat.reduceLT, Int.reduceLE, Int.reduceLT, reduceCtorEq]
      have hb0 : (0 : Int) = (sb (ownL fs x 0) : Nat) := by simp [ownL, sb]
      refine KL_ind k36_b0.eq_1 (fun k : Nat => [(0, .list (aggs (fs.map mp))), (3, .int .i64 n), (4, .int .i64 (sb (metL fs x))), (5, .ref 0 (sbs fs x).length 0 (sbs fs x).length), (6, .int .i64 x), (7, .int .i64 (sb (ownL fs x k))), (8, .int .i64 (sb (orb fs x))), (9, .int .i64 k)]) (fun _ => [.arr (sbs fs x).length 2 1 (ints (sbs fs x))]) (fun k => k ≤ n) (fun k => n - k) [0, 3, 4, 5, 6, 7, 8, 9] 0 (by rfl) (by rfl) (Nat.zero_le _) fun k hkn ihk => ?_
      have hk61 : k ≤ 61 := by omega
      have hos := ownL_succ fs x k
      have hox := hsb (ownL fs x k) fun y hy => by have := ownL_lt fs x k y hy; omega
      have hb2 : 2 ^ k < 2 ^ 62 := Nat.pow_lt_pow_right (by omega) (by omega)
      try simp only [OpK_eq, aConv_u64 hk61, aBin_shr (show k ≤ 63 by omega), aBin_and1 (shr_le (hob x hxn)), aBin_shl1 hk61, aBin_or hox hb2, take6, List.drop_zero, Int.cast_ofNat_Int, go_sem, ↓reduceIte, Nat.reduceEqDiff, Nat.reduceAdd, Nat.reduceMul, Nat.reduceLeDiff, Nat.reduceLT, Int.reduceLE, Int.reduceLT, reduceCtorEq]
      refine ⟨fun h4 => ?_, fun h4 => ?_⟩
      · have hkn' : k < n := by omega
        refine ⟨fun h5 => ?_, fun h5 => ?_⟩
        · rw [bit_one, sb_test, decide_eq_true_iff, orb_mem hf hn5 hxn] at h5
          refine (p58P fs n hf hn5 hfl k hkn').go ?_
          try simp only [OpK_eq, aConv_u64 hx61, aBin_shr (show x ≤ 63 by omega), aBin_and1 (shr_le (hob k hkn')), aConv_u64 hk61, aBin_shl1 hk61, aBin_or hox hb2, take6, List.drop_zero, Int.cast_ofNat_Int, go_sem, ↓reduceIte, Nat.reduceEqDiff, Nat.reduceAdd, Nat.reduceMul, Nat.reduceLeDiff, Nat.reduceLT, Int.reduceLE, Int.reduceLT, reduceCtorEq]
          refine ⟨fun h6 => ?_, fun h6 => ?_⟩
          · rw [bit_one, sb_test, decide_eq_true_iff, orb_mem hf hn5 hkn'] at h6
            rw [if_pos ⟨h5, h6⟩] at hos
            refine ⟨by omega, ihk (k + 1) (by omega) (by omega) _ _ ?_ rfl⟩
            rw [hos, sb_snoc]; rfl
          · rw [bit_one, sb_test, decide_eq_true_iff, orb_mem hf hn5 hkn'] at h6
            rw [if_neg (fun h => h6 h.2), List.append_nil] at hos
            refine ⟨by omega, ihk (k + 1) (by omega) (by omega) _ _ ?_ rfl⟩
            rw [hos]; rfl
        · rw [bit_one, sb_test, decide_eq_true_iff, orb_mem hf hn5 hxn] at h5
          rw [if_neg (fun h => h5 h.1), List.append_nil] at hos
          refine ⟨by omega, ihk (k + 1) (by omega) (by omega) _ _ ?_ rfl⟩
          rw [hos]; rfl
      · obtain rfl : k = n := by omega
        have hpx : sb (prtL fs x) < 2 ^ 62 := by rw [← ownL_all hf hn5 hxn]; exact hox
        rw [ownL_all hf hn5 hxn]
        have hor3 := fun K => ((aBin_int (k := .i64) (a := (sb (metL fs x) : Int)) (b := (sb (prtL fs x) : Int)) .or).symm.trans (aBin_or (K := K) hmx hpx) :)
        rw [hor3, sb_app]
        try simp only [OpK_eq, HKv, take6, List.drop_zero, Int.cast_ofNat_Int, go_sem, ↓reduceIte, Nat.reduceEqDiff, Nat.reduceAdd, Nat.reduceMul, Nat.reduceLeDiff, Nat.reduceLT, Int.reduceLE, Int.reduceLT, reduceCtorEq]
        refine ⟨⟨Nat.le_refl _, by omega⟩, by omega, ih (x + 1) (by omega) (by omega) _ _ ?_ ?_⟩
        · simp only [keep, List.map_cons, List.map_nil, hss, hms, List.length_append, List.length_singleton]; rfl
        · rw [hss, List.length_append]; rfl
  · obtain rfl : x = n := by omega
    exact Kv.Fin.freeze (Imm.refn rfl rfl) ⟨rfl, rfl⟩
/-- What both give. -/
noncomputable def spc (a : List (List Int)) : List (List Int) := if lcode a [] = 0 then strong (a.map um) ((a.getD 0 []).getD 0 0).toNat else []
theorem spc_in {fs : List (List Nat)} {n : Nat} (h : lcode (fs.map mp) [] = 0) (hn : ((fs.map mp).getD 0 []).getD 0 0 = n) : spc (fs.map mp) = strong fs n := by
  rw [spc, if_pos h, map_um, hn]; rfl
/-- Transitive lists. -/
noncomputable def trn (a : List (List Int)) : Bool := decide (lcode a [] = 0) && decide ((spc a).length = 1)
theorem p17 (a : List (List Int)) (ha : a.length ≤ 1048576) (h6 : ∀ r ∈ a, r.length = 6) : Pure Tryz.prog 17 [.list (aggs a)] (.tup [.bool (trn a), .int .i64 (lcode a [])]) := by
  refine e17 (by simp) fun _ _ => ?_
  simp only [k17, argEnv, take6, List.drop_zero, Int.cast_ofNat_Int, go_sem, ↓reduceIte, Nat.reduceEqDiff, Nat.reduceAdd, Nat.reduceMul, Nat.reduceLeDiff, Nat.reduceLT, Int.reduceLE, Int.reduceLT, reduceCtorEq]
  refine (p24 _ a [] .nil ha (by simp) h6 (by simp)).go ?_
  try simp only [take6, List.drop_zero, Int.cast_ofNat_Int, go_sem, ↓reduceIte, Nat.reduceEqDiff, Nat.reduceAdd, Nat.reduceMul, Nat.reduceLeDiff, Nat.reduceLT, Int.reduceLE, Int.reduceLT, reduceCtorEq]
  refine ⟨fun h1 => ?_, fun h1 => ?_⟩
  · exact Kv.Fin.still ⟨by rw [trn, decide_eq_false h1]; rfl, rfl⟩
  · obtain ⟨fs, n, rfl, hf, hl1, hl2, hn, hn1, hn5⟩ := lcode_maps h6 h1
    have hsl := strong_len fs n
    rw [trn, spc_in h1 hn, h1, decide_eq_true rfl, Bool.true_and]
    refine (p35 fs n hn1 hn5 hf (by omega) (by omega)).mono fun v s ⟨hT, hfr⟩ => ?_
    have hlen := tabLen hT
    try simp only [OpK_eq, HKv, hlen, take6, List.drop_zero, Int.cast_ofNat_Int, go_sem, ↓reduceIte, Nat.reduceEqDiff, Nat.reduceAdd, Nat.reduceMul, Nat.reduceLeDiff, Nat.reduceLT, Int.reduceLE, Int.reduceLT, reduceCtorEq]
    refine Kv.Fin.still ⟨?_, rfl⟩
    congr 3
    exact decide_eq_decide.2 (by omega)
end Go.Proofs.YtodmbkceindakaaGreat
