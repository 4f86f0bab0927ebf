/- Orbits, by the specification: the bits of what is reached. -/
import Derived.Test.YtpepbomifjbgnaaCb
import Derived.Test.YtpepbomifjbgnaaSS
namespace Go.Proofs.Ytpepbomifjbgnaa
open Go.Kv
set_option maxRecDepth 100000
/- spec.l10Orbit -/
/- live [0, 5, 6, 7] -/
def k59_b0 : KC := (.seq (.seq (.ops [⟨(some 13), none, .mv (.t 7)⟩, ⟨(some 14), none, .mv (.t 0)⟩, ⟨(some 15), none, .len false (.t 14)⟩, ⟨(some 16), none, .bin .lss (.t 13) (.t 15)⟩])
  (.cond (.t 16) .skip (.exit 2)))
  (.seq (.block 3 (.seq (.ops [⟨(some 19), none, .mv (.t 5)⟩, ⟨(some 20), none, .mv (.t 0)⟩, ⟨(some 21), none, .mv (.t 7)⟩, ⟨(some 22), none, .idxS 6 (.t 20) (.t 21)⟩, ⟨(some 23), none, .load true 6 (.t 22)⟩, ⟨(some 24), none, .mv (.t 5)⟩, ⟨(some 25), none, .call (.c (.fn (.func 71) [] [])) [(.t 23), (.t 24)]⟩, ⟨(some 26), none, .bin .or (.t 19) (.t 25)⟩, ⟨(some 8), none, .mv (.t 26)⟩])
  (.seq (.ops [⟨(some 27), none, .mv (.t 8)⟩, ⟨(some 28), none, .mv (.t 5)⟩, ⟨(some 29), none, .bin .neq (.t 27) (.t 28)⟩])
  (.cond (.t 29) (.seq (.ops [⟨(some 30), none, .mv (.t 8)⟩, ⟨(some 5), none, .mv (.t 30)⟩])
  (.ops [⟨(some 6), none, .mv (.c (.bool true))⟩])) .skip))))
  (.ops [⟨(some 17), none, .mv (.t 7)⟩, ⟨(some 18), none, .bin .add (.t 17) (.c (.int .i64 1))⟩, ⟨(some 7), none, .mv (.t 18)⟩])))
/- live [0, 5, 6] -/
def k59_b1 : KC := (.seq (.seq (.ops [⟨(some 12), none, .mv (.t 6)⟩])
  (.cond (.t 12) .skip (.exit 0)))
  (.block 1 (.seq (.ops [⟨(some 6), none, .mv (.c (.bool false))⟩])
  (.seq (.ops [⟨(some 7), none, .mv (.c (.int .i64 0))⟩])
  (.block 2 (.loop k59_b0))))))
def k59 : KC := (.seq (.ops [⟨(some 4), none, .mv (.c (.int .i64 0))⟩])
  (.seq (.ops [⟨(some 9), none, .mv (.t 1)⟩, ⟨(some 10), none, .conv .u64 (.t 9)⟩, ⟨(some 11), none, .bin .shl (.c (.int .i64 1)) (.t 10)⟩, ⟨(some 5), none, .mv (.t 11)⟩])
  (.seq (.seq (.ops [⟨(some 6), none, .mv (.c (.bool true))⟩])
  (.block 0 (.loop k59_b1)))
  (.seq (.ops [⟨(some 31), none, .mv (.t 5)⟩, ⟨(some 4), none, .mv (.t 31)⟩])
  .ret))))
theorem e59 {args : List PV} {σ : Heap} {K : PV → Heap → Prop} (hl : args.length ≤ 32) (h : Wf σ → (∀ a ∈ args, PV.upto σ.length a) → vc (mkCfg Try.prog mixed [] 32 σ.length) k59 (FinK σ.length [.t 4] K) (argEnv 0 args) σ) : ACall Try.prog 59 args σ K :=
  ACall_enter (C := mkCfg Try.prog mixed [] 32 σ.length) (c := Try.f59.body.getD .skip) Try.func59 (by kernel_rfl) (by kernel_rfl) (by kernel_rfl) rfl hl (by kernel_rfl) (by kernel_rfl) h
end Go.Proofs.Ytpepbomifjbgnaa
namespace Go.Proofs.Ytpepbomifjbgnaa
open Go.Kv
set_option linter.unusedVariables false
set_option linter.unusedSimpArgs false
attribute [local irreducible] ACall PCall KL
/-- What is reached from q. -/
inductive Rea (fs : List (List Nat)) (q : Nat) : Nat → Prop
  | here : Rea fs q q
  | step (f : List Nat) (x : Nat) (hf : f ∈ fs) (h : Rea fs q x) : Rea fs q (f.getD x 0)
theorem sb_app (l m : List Nat) : sb l ||| sb m = sb (l ++ m) := by
  apply Nat.eq_of_testBit_eq
  intro i
  rw [Nat.testBit_or, sb_test, sb_test, sb_test]
  simp
/-- How many points below n are in a set. -/
def cntS (n : Nat) (l : List Nat) : Nat := ((List.range n).filter fun x => decide (x ∈ l)).length
theorem cntS_le (n : Nat) (l : List Nat) : cntS n l ≤ n := by
  have := List.length_filter_le (fun x => decide (x ∈ l)) (List.range n)
  simpa [cntS] using this
theorem cntS_lt {n : Nat} {l m : List Nat} (hs : ∀ x ∈ l, x ∈ m) (hm : ∀ x ∈ m, x < n) (h : sb l ≠ sb m) : cntS n l < cntS n m := by
  obtain ⟨y, hy, hny⟩ : ∃ y, y ∈ m ∧ y ∉ l := by
    refine Classical.byContradiction fun hno => h (sb_ext fun x => ⟨hs x, fun hx => ?_⟩)
    exact Classical.byContradiction fun hn => hno ⟨x, hx, hn⟩
  have hyn := hm y hy
  have key : ∀ k, ((List.range k).filter fun x => decide (x ∈ l)).length ≤ ((List.range k).filter fun x => decide (x ∈ m)).length ∧ (y < k → ((List.range k).filter fun x => decide (x ∈ l)).length < ((List.range k).filter fun x => decide (x ∈ m)).length) := fun k => by
    induction k with
    | zero => simp
    | succ k ih =>
      rw [List.range_succ, List.filter_append, List.filter_append, List.length_append, List.length_append]
      by_cases h1 : k ∈ l
      · have h2 := hs k h1
        simp only [h1, h2, decide_true, List.filter_cons_of_pos, List.filter_nil, List.length_cons, List.length_nil]
        refine ⟨by omega, fun hk => ?_⟩
        have : y ≠ k := by rintro rfl; exact hny h1
        have := ih.2 (by omega); omega
      · by_cases h2 : k ∈ m
        · rw [List.filter_cons_of_neg (by simp [h1]), List.filter_cons_of_pos (by simp [h2])]
          simp only [List.filter_nil, List.length_nil, List.length_cons]
          exact ⟨by omega, fun _ => by omega⟩
        · have : y ≠ k := by rintro rfl; exact h2 hy
          rw [List.filter_cons_of_neg (by simp [h1]), List.filter_cons_of_neg (by simp [h2])]
          simp only [List.filter_nil, List.length_nil]
          exact ⟨by omega, fun hk => by have := ih.2 (by omega); omega⟩
  exact (key n).2 hyn
theorem p59 (fs : List (List Nat)) (n : Nat) (hf : ∀ f ∈ fs, Ok f n) (hn5 : n ≤ 5) (hfl : fs.length ≤ 1000) (q : Nat) (hq : q < n) (K : PV → Heap → Prop)
    (hK : ∀ l, (∀ x, x ∈ l ↔ Rea fs q x) → K (.int .i64 (sb l)) []) : ACall Try.prog 59 [.list (aggs (fs.map mp)), .int .i64 q] [] K := by
  have hq61 : q ≤ 61 := by omega
  have hb1 : (2 ^ q : Nat) = sb [q] := by simp [sb]
  refine e59 (by simp) fun _ _ => ?_
  simp only [k59, argEnv, aConv_u64 hq61, aBin_shl1 hq61, take6, List.drop_zero, Int.cast_ofNat_Int, go_sem, ↓reduceIte, Nat.reduceEqDiff, Nat.reduceAdd, Nat.reduceMul, Nat.reduceLeDiff, Nat.reduceLT, Int.reduceLE, Int.reduceLT, reduceCtorEq]
  rw [hb1]
  refine KL_ind k59_b1.eq_1 (fun x : List Nat × Bool => [(0, .list (aggs (fs.map mp))), (5, .int .i64 (sb x.1)), (6, .bool x.2)]) (fun _ => []) (fun x => q ∈ x.1 ∧ (∀ y ∈ x.1, Rea fs q y ∧ y < n) ∧ (x.2 = false → ∀ f ∈ fs, ∀ y ∈ x.1, f.getD y 0 ∈ x.1)) (fun x => 2 * (n - cntS n x.1) + (if x.2 = true then 1 else 0)) [0, 5, 6] ([q], true) (by simp [keep]) rfl ⟨by simp, fun y hy => ?_, fun h => by cases h⟩ fun ⟨l, b⟩ ⟨hql, hr, hcl⟩ ih => ?_
  · have hy : y ∈ [q] := hy
    simp only [List.mem_singleton] at hy; subst hy; exact ⟨.here, hq⟩
  simp only at hql hr hcl
  cases b with
  | false =>
    try simp only [OpK_eq, take6, List.drop_zero, Int.cast_ofNat_Int, go_sem, ↓reduceIte, Nat.reduceEqDiff, Nat.reduceAdd, Nat.reduceMul, Nat.reduceLeDiff, Nat.reduceLT, Int.reduceLE, Int.reduceLT, reduceCtorEq]
    refine Kv.Fin.still (hK l fun x => ⟨fun hx => (hr x hx).1, fun hx => ?_⟩)
    induction hx with
    | here => exact hql
    | step f x hf' _ ihx => exact hcl rfl f hf' x ihx
  | true =>
    try simp only [OpK_eq, take6, List.drop_zero, Int.cast_ofNat_Int, go_sem, ↓reduceIte, Nat.reduceEqDiff, Nat.reduceAdd, Nat.reduceMul, Nat.reduceLeDiff, Nat.reduceLT, Int.reduceLE, Int.reduceLT, reduceCtorEq]
    have hsb : ∀ m : List Nat, (∀ y ∈ m, y < n) → sb m < 2 ^ 62 := fun m hm => Nat.lt_trans (sb_lt (n := 5) fun y hy => by have := hm y hy; omega) (by decide)
    have hcll := cntS_le n l
    refine KL_ind k59_b0.eq_1 (fun x : Nat × List Nat × Bool => [(0, .list (aggs (fs.map mp))), (5, .int .i64 (sb x.2.1)), (6, .bool x.2.2), (7, .int .i64 x.1)]) (fun _ => []) (fun x => x.1 ≤ fs.length ∧ (∀ y ∈ l, y ∈ x.2.1) ∧ (∀ y ∈ x.2.1, Rea fs q y ∧ y < n) ∧ (x.2.2 = true → cntS n l < cntS n x.2.1) ∧ (x.2.2 = false → x.2.1 = l ∧ ∀ f ∈ fs.take x.1, ∀ y ∈ l, f.getD y 0 ∈ l)) (fun x => fs.length - x.1) [0, 5, 6, 7] (0, l, false) (by simp [keep]) rfl ⟨Nat.zero_le _, fun y hy => hy, hr, fun h => (by cases h), fun _ => ⟨rfl, by simp⟩⟩ fun ⟨k, m, b⟩ ⟨hk, hlm, hrm, hbt, hbf⟩ ihk => ?_
    simp only at hk hlm hrm hbt hbf
    have hmn : ∀ y ∈ m, y < n := fun y hy => (hrm y hy).2
    have hcm := cntS_le n m
    try simp only [OpK_eq, List.length_map, take6, List.drop_zero, Int.cast_ofNat_Int, go_sem, ↓reduceIte, Nat.reduceEqDiff, Nat.reduceAdd, Nat.reduceMul, Nat.reduceLeDiff, Nat.reduceLT, Int.reduceLE, Int.reduceLT, reduceCtorEq]
    refine ⟨fun h1 => ?_, fun h1 => ?_⟩
    · have hkl : k < fs.length := by omega
      have hfm : fs[k] ∈ fs := List.getElem_mem hkl
      have hfk := hf _ hfm
      have h6k := hfk.mp_len
      have hgk : (fs.map mp).getD k [] = mp fs[k] := by simp [List.getD_eq_getElem?_getD, hkl]
      have hmm : ∀ y ∈ m.map (fun p => fs[k].getD p 0), y < n := fun y hy => by
        obtain ⟨x, _, rfl⟩ := List.mem_map.1 hy
        exact hfk.get' x
      rw [hgk]
      try simp only [OpK_eq, h6k, take6, List.drop_zero, Int.cast_ofNat_Int, go_sem, ↓reduceIte, Nat.reduceEqDiff, Nat.reduceAdd, Nat.reduceMul, Nat.reduceLeDiff, Nat.reduceLT, Int.reduceLE, Int.reduceLT, reduceCtorEq]
      refine ⟨by omega, fun _ => ?_⟩
      refine (p71 fs[k] n hfk m hmn).go ?_
      have hor2 := fun K => aBin_or (K := K) (hsb m hmn) (hsb _ hmm)
      have htk := List.take_succ_eq_append_getElem hkl
      try simp only [OpK_eq, hor2, take6, List.drop_zero, Int.cast_ofNat_Int, go_sem, ↓reduceIte, Nat.reduceEqDiff, Nat.reduceAdd, Nat.reduceMul, Nat.reduceLeDiff, Nat.reduceLT, Int.reduceLE, Int.reduceLT, reduceCtorEq]
      rw [sb_app]
      have hmem : ∀ y, y ∈ m ++ m.map (fun p => fs[k].getD p 0) → Rea fs q y ∧ y < n := fun y hy => by
        rcases List.mem_append.1 hy with hy | hy
        · exact hrm y hy
        · refine ⟨?_, hmm y hy⟩
          obtain ⟨x, hx, rfl⟩ := List.mem_map.1 hy
          exact .step _ x hfm (hrm x hx).1
      refine ⟨fun h2 => ⟨by omega, ?_⟩, fun h2 => ⟨by omega, ?_⟩⟩
      · have hne : sb m ≠ sb (m ++ m.map (fun p => fs[k].getD p 0)) := fun e => h2 (by rw [e])
        have hlt := cntS_lt (n := n) (fun x hx => List.mem_append.2 (.inl hx)) (fun y hy => (hmem y hy).2) hne
        refine ihk (k + 1, m ++ m.map (fun p => fs[k].getD p 0), true) ⟨by show k + 1 ≤ fs.length; omega, fun y hy => List.mem_append.2 (.inl (hlm y hy)), hmem, fun _ => ?_, fun h => by cases h⟩ (by show fs.length - (k + 1) < fs.length - k; omega) _ _ (by simp [keep]) rfl
        show cntS n l < cntS n (m ++ m.map (fun p => fs[k].getD p 0))
        cases b with
        | true => have := hbt rfl; omega
        | false => obtain ⟨e, _⟩ := hbf rfl; rw [← show m = l from e]; exact hlt
      · have he : sb (m ++ m.map (fun p => fs[k].getD p 0)) = sb m := by omega
        refine ihk (k + 1, m, b) ⟨by show k + 1 ≤ fs.length; omega, hlm, hrm, hbt, fun hb => ?_⟩ (by show fs.length - (k + 1) < fs.length - k; omega) _ _ (by simp [keep]) rfl
        obtain ⟨e, hc⟩ := hbf hb
        have e : m = l := e
        refine ⟨e, fun f hf' y hy => ?_⟩
        have hf' : f ∈ fs.take (k + 1) := hf'
        rw [htk] at hf'
        rcases List.mem_append.1 hf' with hf' | hf'
        · exact hc f hf' y hy
        · simp only [List.mem_singleton] at hf'
          subst hf'
          have h3 := sb_test (m ++ m.map (fun p => fs[k].getD p 0)) (fs[k].getD y 0)
          rw [he, sb_test, e] at h3
          have : fs[k].getD y 0 ∈ l ++ l.map (fun p => fs[k].getD p 0) := List.mem_append.2 (.inr (List.mem_map.2 ⟨y, hy, rfl⟩))
          rw [decide_eq_true this] at h3
          exact of_decide_eq_true h3
    · have hke : k = fs.length := by omega
      subst hke
      rw [List.take_length] at hbf
      try simp only [OpK_eq, take6, List.drop_zero, Int.cast_ofNat_Int, go_sem, ↓reduceIte, Nat.reduceEqDiff, Nat.reduceAdd, Nat.reduceMul, Nat.reduceLeDiff, Nat.reduceLT, Int.reduceLE, Int.reduceLT, reduceCtorEq]
      refine ih (m, b) ⟨hlm q hql, hrm, fun hb => ?_⟩ ?_ _ _ (by simp [keep]) rfl
      · obtain ⟨e, hc⟩ := hbf hb
        have e : m = l := e
        rw [e]; exact hc
      · show 2 * (n - cntS n m) + (if b = true then 1 else 0) < 2 * (n - cntS n l) + (if true = true then 1 else 0)
        cases b with
        | true => have := hbt rfl; simp; omega
        | false => obtain ⟨e, _⟩ := hbf rfl; rw [e]; simp
end Go.Proofs.Ytpepbomifjbgnaa
