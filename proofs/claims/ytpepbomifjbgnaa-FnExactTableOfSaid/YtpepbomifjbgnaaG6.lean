/- Several texts of this session as one. -/
import Derived.Test.YtpepbomifjbgnaaCb
import Derived.Test.YtpepbomifjbgnaaG5
import Derived.Test.YtpepbomifjbgnaaG4
import Derived.Test.YtpepbomifjbgnaaG1
import Derived.Test.YtpepbomifjbgnaaG3
section
/- Orbits, by the specification: the bits of what is reached. -/
namespace Go.Proofs.Ytpepbomifjbgnaa
open Go.Kv
set_option maxRecDepth 100000
/- spec.l10Orbit -/
/- live [0, 5, 6, 7] -/
def k59_b0 : KC := (.seq (.seq (.ops [⟨(some 13), none, .mv (.t 7)⟩, ⟨(some 14), none, .mv (.t 0)⟩, ⟨(some 15), none, .len false (.t 14)⟩, ⟨(some 16), none, .bin .lss (.t 13) (.t 15)⟩])
  (.cond (.t 16) .skip (.exit 2)))
  (.seq (.block 3 (.seq (.ops [⟨(some 19), none, .mv (.t 5)⟩, ⟨(some 20), none, .mv (.t 0)⟩, ⟨(some 21), none, .mv (.t 7)⟩, ⟨(some 22), none, .idxS 6 (.t 20) (.t 21)⟩, ⟨(some 23), none, .load true 6 (.t 22)⟩, ⟨(some 24), none, .mv (.t 5)⟩, ⟨(some 25), none, .call (.c (.fn (.func 71) [] [])) [(.t 23), (.t 24)]⟩, ⟨(some 26), none, .bin .or (.t 19) (.t 25)⟩, ⟨(some 8), none, .mv (.t 26)⟩])
  (.seq (.ops [⟨(some 27), none, .mv (.t 8)⟩, ⟨(some 28), none, .mv (.t 5)⟩, ⟨(some 29), none, .bin .neq (.t 27) (.t 28)⟩])
  (.cond (.t 29) (.seq (.ops [⟨(some 30), none, .mv (.t 8)⟩, ⟨(some 5), none, .mv (.t 30)⟩])
  (.ops [⟨(some 6), none, .mv (.c (.bool true))⟩])) .skip))))
  (.ops [⟨(some 17), none, .mv (.t 7)⟩, ⟨(some 18), none, .bin .add (.t 17) (.c (.int .i64 1))⟩, ⟨(some 7), none, .mv (.t 18)⟩])))
/- live [0, 5, 6] -/
def k59_b1 : KC := (.seq (.seq (.ops [⟨(some 12), none, .mv (.t 6)⟩])
  (.cond (.t 12) .skip (.exit 0)))
  (.block 1 (.seq (.ops [⟨(some 6), none, .mv (.c (.bool false))⟩])
  (.seq (.ops [⟨(some 7), none, .mv (.c (.int .i64 0))⟩])
  (.block 2 (.loop k59_b0))))))
def k59 : KC := (.seq (.ops [⟨(some 4), none, .mv (.c (.int .i64 0))⟩])
  (.seq (.ops [⟨(some 9), none, .mv (.t 1)⟩, ⟨(some 10), none, .conv .u64 (.t 9)⟩, ⟨(some 11), none, .bin .shl (.c (.int .i64 1)) (.t 10)⟩, ⟨(some 5), none, .mv (.t 11)⟩])
  (.seq (.seq (.ops [⟨(some 6), none, .mv (.c (.bool true))⟩])
  (.block 0 (.loop k59_b1)))
  (.seq (.ops [⟨(some 31), none, .mv (.t 5)⟩, ⟨(some 4), none, .mv (.t 31)⟩])
  .ret))))
theorem e59 {args : List PV} {σ : Heap} {K : PV → Heap → Prop} (hl : args.length ≤ 32) (h : Wf σ → (∀ a ∈ args, PV.upto σ.length a) → vc (mkCfg Try.prog mixed [] 32 σ.length) k59 (FinK σ.length [.t 4] K) (argEnv 0 args) σ) : ACall Try.prog 59 args σ K :=
  ACall_enter (C := mkCfg Try.prog mixed [] 32 σ.length) (c := Try.f59.body.getD .skip) Try.func59 (by kernel_rfl) (by kernel_rfl) (by kernel_rfl) rfl hl (by kernel_rfl) (by kernel_rfl) h
end Go.Proofs.Ytpepbomifjbgnaa
namespace Go.Proofs.Ytpepbomifjbgnaa
open Go.Kv
set_option linter.unusedVariables false
set_option linter.unusedSimpArgs false
attribute [local irreducible] ACall PCall KL
/-- What is reached from q. -/
inductive Rea (fs : List (List Nat)) (q : Nat) : Nat → Prop
  | here : Rea fs q q
  | step (f : List Nat) (x : Nat) (hf : f ∈ fs) (h : Rea fs q x) : Rea fs q (f.getD x 0)
theorem sb_app (l m : List Nat) : sb l ||| sb m = sb (l ++ m) := by
  apply Nat.eq_of_testBit_eq
  intro i
  rw [Nat.testBit_or, sb_test, sb_test, sb_test]
  simp
/-- How many points below n are in a set. -/
def cntS (n : Nat) (l : List Nat) : Nat := ((List.range n).filter fun x => decide (x ∈ l)).length
theorem cntS_le (n : Nat) (l : List Nat) : cntS n l ≤ n := by
  have := List.length_filter_le (fun x => decide (x ∈ l)) (List.range n)
  simpa [cntS] using this
theorem cntS_lt {n : Nat} {l m : List Nat} (hs : ∀ x ∈ l, x ∈ m) (hm : ∀ x ∈ m, x < n) (h : sb l ≠ sb m) : cntS n l < cntS n m := by
  obtain ⟨y, hy, hny⟩ : ∃ y, y ∈ m ∧ y ∉ l := by
    refine Classical.byContradiction fun hno => h (sb_ext fun x => ⟨hs x, fun hx => ?_⟩)
    exact Classical.byContradiction fun hn => hno ⟨x, hx, hn⟩
  have hyn := hm y hy
  have key : ∀ k, ((List.range k).filter fun x => decide (x ∈ l)).length ≤ ((List.range k).filter fun x => decide (x ∈ m)).length ∧ (y < k → ((List.range k).filter fun x => decide (x ∈ l)).length < ((List.range k).filter fun x => decide (x ∈ m)).length) := fun k => by
    induction k with
    | zero => simp
    | succ k ih =>
      rw [List.range_succ, List.filter_append, List.filter_append, List.length_append, List.length_append]
      by_cases h1 : k ∈ l
      · have h2 := hs k h1
        simp only [h1, h2, decide_true, List.filter_cons_of_pos, List.filter_nil, List.length_cons, List.length_nil]
        refine ⟨by omega, fun hk => ?_⟩
        have : y ≠ k := by rintro rfl; exact hny h1
        have := ih.2 (by omega); omega
      · by_cases h2 : k ∈ m
        · rw [List.filter_cons_of_neg (by simp [h1]), List.filter_cons_of_pos (by simp [h2])]
          simp only [List.filter_nil, List.length_nil, List.length_cons]
          exact ⟨by omega, fun _ => by omega⟩
        · have : y ≠ k := by rintro rfl; exact h2 hy
          rw [List.filter_cons_of_neg (by simp [h1]), List.filter_cons_of_neg (by simp [h2])]
          simp only [List.filter_nil, List.length_nil]
          exact ⟨by omega, fun hk => by have := ih.2 (by omega); omega⟩
  exact (key n).2 hyn
theorem p59 (fs : List (List Nat)) (n : Nat) (hf : ∀ f ∈ fs, Ok f n) (hn5 : n ≤ 5) (hfl : fs.length ≤ 1000) (q : Nat) (hq : q < n) (K : PV → Heap → Prop)
    (hK : ∀ l, (∀ x, x ∈ l ↔ Rea fs q x) → K (.int .i64 (sb l)) []) : ACall Try.prog 59 [.list (aggs (fs.map mp)), .int .i64 q] [] K := by
  have hq61 : q ≤ 61 := by omega
  have hb1 : (2 ^ q : Nat) = sb [q] := by simp [sb]
  refine e59 (by simp) fun _ _ => ?_
  simp only [k59, argEnv, aConv_u64 hq61, aBin_shl1 hq61, take6, List.drop_zero, Int.cast_ofNat_Int, go_sem, ↓reduceIte, Nat.reduceEqDiff, Nat.reduceAdd, Nat.reduceMul, Nat.reduceLeDiff, Nat.reduceLT, Int.reduceLE, Int.reduceLT, reduceCtorEq]
  rw [hb1]
  refine KL_ind k59_b1.eq_1 (fun x : List Nat × Bool => [(0, .list (aggs (fs.map mp))), (5, .int .i64 (sb x.1)), (6, .bool x.2)]) (fun _ => []) (fun x => q ∈ x.1 ∧ (∀ y ∈ x.1, Rea fs q y ∧ y < n) ∧ (x.2 = false → ∀ f ∈ fs, ∀ y ∈ x.1, f.getD y 0 ∈ x.1)) (fun x => 2 * (n - cntS n x.1) + (if x.2 = true then 1 else 0)) [0, 5, 6] ([q], true) (by simp [keep]) rfl ⟨by simp, fun y hy => ?_, fun h => by cases h⟩ fun ⟨l, b⟩ ⟨hql, hr, hcl⟩ ih => ?_
  · have hy : y ∈ [q] := hy
    simp only [List.mem_singleton] at hy; subst hy; exact ⟨.here, hq⟩
  simp only at hql hr hcl
  cases b with
  | false =>
    try simp only [OpK_eq, take6, List.drop_zero, Int.cast_ofNat_Int, go_sem, ↓reduceIte, Nat.reduceEqDiff, Nat.reduceAdd, Nat.reduceMul, Nat.reduceLeDiff, Nat.reduceLT, Int.reduceLE, Int.reduceLT, reduceCtorEq]
    refine Kv.Fin.still (hK l fun x => ⟨fun hx => (hr x hx).1, fun hx => ?_⟩)
    induction hx with
    | here => exact hql
    | step f x hf' _ ihx => exact hcl rfl f hf' x ihx
  | true =>
    try simp only [OpK_eq, take6, List.drop_zero, Int.cast_ofNat_Int, go_sem, ↓reduceIte, Nat.reduceEqDiff, Nat.reduceAdd, Nat.reduceMul, Nat.reduceLeDiff, Nat.reduceLT, Int.reduceLE, Int.reduceLT, reduceCtorEq]
    have hsb : ∀ m : List Nat, (∀ y ∈ m, y < n) → sb m < 2 ^ 62 := fun m hm => Nat.lt_trans (sb_lt (n := 5) fun y hy => by have := hm y hy; omega) (by decide)
    have hcll := cntS_le n l
    refine KL_ind k59_b0.eq_1 (fun x : Nat × List Nat × Bool => [(0, .list (aggs (fs.map mp))), (5, .int .i64 (sb x.2.1)), (6, .bool x.2.2), (7, .int .i64 x.1)]) (fun _ => []) (fun x => x.1 ≤ fs.length ∧ (∀ y ∈ l, y ∈ x.2.1) ∧ (∀ y ∈ x.2.1, Rea fs q y ∧ y < n) ∧ (x.2.2 = true → cntS n l < cntS n x.2.1) ∧ (x.2.2 = false → x.2.1 = l ∧ ∀ f ∈ fs.take x.1, ∀ y ∈ l, f.getD y 0 ∈ l)) (fun x => fs.length - x.1) [0, 5, 6, 7] (0, l, false) (by simp [keep]) rfl ⟨Nat.zero_le _, fun y hy => hy, hr, fun h => (by cases h), fun _ => ⟨rfl, by simp⟩⟩ fun ⟨k, m, b⟩ ⟨hk, hlm, hrm, hbt, hbf⟩ ihk => ?_
    simp only at hk hlm hrm hbt hbf
    have hmn : ∀ y ∈ m, y < n := fun y hy => (hrm y hy).2
    have hcm := cntS_le n m
    try simp only [OpK_eq, List.length_map, take6, List.drop_zero, Int.cast_ofNat_Int, go_sem, ↓reduceIte, Nat.reduceEqDiff, Nat.reduceAdd, Nat.reduceMul, Nat.reduceLeDiff, Nat.reduceLT, Int.reduceLE, Int.reduceLT, reduceCtorEq]
    refine ⟨fun h1 => ?_, fun h1 => ?_⟩
    · have hkl : k < fs.length := by omega
      have hfm : fs[k] ∈ fs := List.getElem_mem hkl
      have hfk := hf _ hfm
      have h6k := hfk.mp_len
      have hgk : (fs.map mp).getD k [] = mp fs[k] := by simp [List.getD_eq_getElem?_getD, hkl]
      have hmm : ∀ y ∈ m.map (fun p => fs[k].getD p 0), y < n := fun y hy => by
        obtain ⟨x, _, rfl⟩ := List.mem_map.1 hy
        exact hfk.get' x
      rw [hgk]
      try simp only [OpK_eq, h6k, take6, List.drop_zero, Int.cast_ofNat_Int, go_sem, ↓reduceIte, Nat.reduceEqDiff, Nat.reduceAdd, Nat.reduceMul, Nat.reduceLeDiff, Nat.reduceLT, Int.reduceLE, Int.reduceLT, reduceCtorEq]
      refine ⟨by omega, fun _ => ?_⟩
      refine (p71 fs[k] n hfk m hmn).go ?_
      have hor2 := fun K => aBin_or (K := K) (hsb m hmn) (hsb _ hmm)
      have htk := List.take_succ_eq_append_getElem hkl
      try simp only [OpK_eq, hor2, take6, List.drop_zero, Int.cast_ofNat_Int, go_sem, ↓reduceIte, Nat.reduceEqDiff, Nat.reduceAdd, Nat.reduceMul, Nat.reduceLeDiff, Nat.reduceLT, Int.reduceLE, Int.reduceLT, reduceCtorEq]
      rw [sb_app]
      have hmem : ∀ y, y ∈ m ++ m.map (fun p => fs[k].getD p 0) → Rea fs q y ∧ y < n := fun y hy => by
        rcases List.mem_append.1 hy with hy | hy
        · exact hrm y hy
        · refine ⟨?_, hmm y hy⟩
          obtain ⟨x, hx, rfl⟩ := List.mem_map.1 hy
          exact .step _ x hfm (hrm x hx).1
      refine ⟨fun h2 => ⟨by omega, ?_⟩, fun h2 => ⟨by omega, ?_⟩⟩
      · have hne : sb m ≠ sb (m ++ m.map (fun p => fs[k].getD p 0)) := fun e => h2 (by rw [e])
        have hlt := cntS_lt (n := n) (fun x hx => List.mem_append.2 (.inl hx)) (fun y hy => (hmem y hy).2) hne
        refine ihk (k + 1, m ++ m.map (fun p => fs[k].getD p 0), true) ⟨by show k + 1 ≤ fs.length; omega, fun y hy => List.mem_append.2 (.inl (hlm y hy)), hmem, fun _ => ?_, fun h => by cases h⟩ (by show fs.length - (k + 1) < fs.length - k; omega) _ _ (by simp [keep]) rfl
        show cntS n l < cntS n (m ++ m.map (fun p => fs[k].getD p 0))
        cases b with
        | true => have := hbt rfl; omega
        | false => obtain ⟨e, _⟩ := hbf rfl; rw [← show m = l from e]; exact hlt
      · have he : sb (m ++ m.map (fun p => fs[k].getD p 0)) = sb m := by omega
        refine ihk (k + 1, m, b) ⟨by show k + 1 ≤ fs.length; omega, hlm, hrm, hbt, fun hb => ?_⟩ (by show fs.length - (k + 1) < fs.length - k; omega) _ _ (by simp [keep]) rfl
        obtain ⟨e, hc⟩ := hbf hb
        have e : m = l := e
        refine ⟨e, fun f hf' y hy => ?_⟩
        have hf' : f ∈ fs.take (k + 1) := hf'
        rw [htk] at hf'
        rcases List.mem_append.1 hf' with hf' | hf'
        · exact hc f hf' y hy
        · simp only [List.mem_singleton] at hf'
          subst hf'
          have h3 := sb_test (m ++ m.map (fun p => fs[k].getD p 0)) (fs[k].getD y 0)
          rw [he, sb_test, e] at h3
          have : fs[k].getD y 0 ∈ l ++ l.map (fun p => fs[k].getD p 0) := List.mem_append.2 (.inr (List.mem_map.2 ⟨y, hy, rfl⟩))
          rw [decide_eq_true this] at h3
          exact of_decide_eq_true h3
    · have hke : k = fs.length := by omega
      subst hke
      rw [List.take_length] at hbf
      try simp only [OpK_eq, take6, List.drop_zero, Int.cast_ofNat_Int, go_sem, ↓reduceIte, Nat.reduceEqDiff, Nat.reduceAdd, Nat.reduceMul, Nat.reduceLeDiff, Nat.reduceLT, Int.reduceLE, Int.reduceLT, reduceCtorEq]
      refine ih (m, b) ⟨hlm q hql, hrm, fun hb => ?_⟩ ?_ _ _ (by simp [keep]) rfl
      · obtain ⟨e, hc⟩ := hbf hb
        have e : m = l := e
        rw [e]; exact hc
      · show 2 * (n - cntS n m) + (if b = true then 1 else 0) < 2 * (n - cntS n l) + (if true = true then 1 else 0)
        cases b with
        | true => have := hbt rfl; simp; omega
        | false => obtain ⟨e, _⟩ := hbf rfl; rw [e]; simp
end Go.Proofs.Ytpepbomifjbgnaa
end
section
/- What the search by single points reaches: plain laws. -/
namespace Go.Proofs.Ytpepbomifjbgnaa
open Go.Kv
set_option maxRecDepth 100000
end Go.Proofs.Ytpepbomifjbgnaa
namespace Go.Proofs.Ytpepbomifjbgnaa
open Go.Kv
set_option linter.unusedVariables false
set_option linter.unusedSimpArgs false
attribute [local irreducible] ACall PCall KL
theorem adv_one {fs : List (List Nat)} {n q : Nat} (hf : ∀ f ∈ fs, Ok f n) {Q : List Met} {m : Met} (hQ : ∀ x ∈ Q, ∃ y, Rea fs q y ∧ y < n ∧ x.1 = [(y : Int)]) (hd : (Q.map Prod.fst).Nodup) (hm : ∃ y, Rea fs q y ∧ y < n ∧ m.1 = [(y : Int)]) : ∀ k, k ≤ fs.length →
    (∀ x ∈ advN fs ldp Q m k, ∃ y, Rea fs q y ∧ y < n ∧ x.1 = [(y : Int)]) ∧ ((advN fs ldp Q m k).map Prod.fst).Nodup ∧ (∀ j, j < k → ∃ x ∈ advN fs ldp Q m k, x.1 = ldp (fs.getD j []) m.1) ∧ (∀ x ∈ Q, x ∈ advN fs ldp Q m k)
  | 0, _ => ⟨hQ, hd, fun j h => by omega, fun x hx => hx⟩
  | k + 1, hk => by
    obtain ⟨h1, h2, h3, h4⟩ := adv_one hf hQ hd hm k (by omega)
    have hgf : fs.getD k [] = fs[k] := by simp [List.getD_eq_getElem?_getD, show k < fs.length by omega]
    have hfk : fs[k] ∈ fs := List.getElem_mem _
    rw [advN_succ]
    cases hany : (advN fs ldp Q m k).any (fun x => decide (x.1 = ldp (fs.getD k []) m.1)) with
    | true =>
      rw [if_pos rfl]
      refine ⟨h1, h2, fun j hj => ?_, h4⟩
      by_cases e : j = k
      · subst e
        obtain ⟨x, hx, e⟩ := List.any_eq_true.1 hany
        exact ⟨x, hx, of_decide_eq_true e⟩
      · exact h3 j (by omega)
    | false =>
      rw [if_neg (by simp)]
      refine ⟨fun x hx => ?_, ?_, fun j hj => ?_, fun x hx => List.mem_append.2 (.inl (h4 x hx))⟩
      · rcases List.mem_append.1 hx with hx | hx
        · exact h1 x hx
        · simp only [List.mem_singleton] at hx; subst hx
          obtain ⟨y, hy, hyn, e⟩ := hm
          refine ⟨fs[k].getD y 0, .step _ y hfk hy, (hf _ hfk).get' y, ?_⟩
          show ldp (fs.getD k []) m.1 = _
          rw [hgf, e]; simp [ldp]
      · rw [List.map_append, List.nodup_append]
        refine ⟨h2, by simp, fun y hy z hz => ?_⟩
        simp only [List.map_cons, List.map_nil, List.mem_singleton] at hz
        subst hz
        obtain ⟨x, hx, rfl⟩ := List.mem_map.1 hy
        rw [List.any_eq_false] at hany
        have := hany x hx
        simpa using this
      · by_cases e : j = k
        · subst e; exact ⟨_, List.mem_append.2 (.inr (List.mem_singleton.2 rfl)), rfl⟩
        · obtain ⟨x, hx, e⟩ := h3 j (by omega)
          exact ⟨x, List.mem_append.2 (.inl hx), e⟩
theorem bl_one {fs : List (List Nat)} {n q : Nat} (hf : ∀ f ∈ fs, Ok f n) (hq : q < n) : ∀ i, i ≤ (bl fs ldp [(q : Int)] i).length →
    (∀ x ∈ bl fs ldp [(q : Int)] i, ∃ y, Rea fs q y ∧ y < n ∧ x.1 = [(y : Int)]) ∧ ((bl fs ldp [(q : Int)] i).map Prod.fst).Nodup ∧ (∃ x ∈ bl fs ldp [(q : Int)] i, x.1 = [(q : Int)]) ∧
    (∀ j, (h : j < (bl fs ldp [(q : Int)] i).length) → j < i → ∀ k, k < fs.length → ∃ x ∈ bl fs ldp [(q : Int)] i, x.1 = ldp (fs.getD k []) (bl fs ldp [(q : Int)] i)[j].1)
  | 0, _ => by
    have e : bl fs ldp [(q : Int)] 0 = [(([(q : Int)], []) : Met)] := rfl
    rw [e]
    refine ⟨fun x hx => ?_, by simp, ⟨_, List.mem_singleton.2 rfl, rfl⟩, fun j _ h => by omega⟩
    simp only [List.mem_singleton] at hx; subst hx
    exact ⟨q, .here, hq, rfl⟩
  | i + 1, hi1 => by
    by_cases hi : i < (bl fs ldp [(q : Int)] i).length
    · obtain ⟨h1, h2, h3, h4⟩ := bl_one hf hq i (by omega)
      obtain ⟨g1, g2, g3, g4⟩ := adv_one hf h1 h2 (h1 _ (List.getElem_mem hi)) fs.length (Nat.le_refl _)
      obtain ⟨r, hr⟩ := advN_preE fs ldp (bl fs ldp [(q : Int)] i) (bl fs ldp [(q : Int)] i)[i] fs.length
      have e := bl_succ (fs := fs) (bf := ldp) (p := [(q : Int)]) hi
      rw [← e] at g1 g2 g3 g4 hr
      obtain ⟨x0, hx0, e0⟩ := h3
      refine ⟨g1, g2, ⟨x0, g4 x0 hx0, e0⟩, fun j hj hji k hk => ?_⟩
      have hj' : j < (bl fs ldp [(q : Int)] i).length := by omega
      have ej : (bl fs ldp [(q : Int)] (i + 1))[j] = (bl fs ldp [(q : Int)] i)[j] := by
        have : (bl fs ldp [(q : Int)] (i + 1))[j]? = (bl fs ldp [(q : Int)] i)[j]? := by rw [hr, List.getElem?_append_left hj']
        rw [List.getElem?_eq_getElem hj, List.getElem?_eq_getElem hj'] at this
        exact Option.some.inj this
      rw [ej]
      by_cases e2 : j = i
      · subst e2; exact g3 k hk
      · obtain ⟨x, hx, e3⟩ := h4 j hj' (by omega) k hk
        exact ⟨x, g4 x hx, e3⟩
    · have e : bl fs ldp [(q : Int)] (i + 1) = bl fs ldp [(q : Int)] i := by
        rw [bl]
        have : (bl fs ldp [(q : Int)] i)[i]? = none := List.getElem?_eq_none (Nat.le_of_not_lt hi)
        rw [this]
      rw [e] at hi1
      omega
/-- At the end all is reached. -/
theorem bl_all {fs : List (List Nat)} {n q : Nat} (hf : ∀ f ∈ fs, Ok f n) (hq : q < n) {i : Nat} (hi : i = (bl fs ldp [(q : Int)] i).length) (y : Nat) : Rea fs q y ↔ ∃ x ∈ bl fs ldp [(q : Int)] i, x.1 = [(y : Int)] := by
  obtain ⟨h1, _, h3, h4⟩ := bl_one hf hq i (by omega)
  constructor
  · intro hy
    induction hy with
    | here => exact h3
    | step f x hf' _ ih =>
      obtain ⟨z, hz, e⟩ := ih
      obtain ⟨j, hj, rfl⟩ := List.getElem_of_mem hz
      obtain ⟨k, hk, rfl⟩ := List.getElem_of_mem hf'
      obtain ⟨u, hu, e2⟩ := h4 j hj (by omega) k hk
      refine ⟨u, hu, ?_⟩
      rw [e2, e]
      simp [ldp, List.getD_eq_getElem?_getD, hk]
  · rintro ⟨x, hx, e⟩
    obtain ⟨z, hz, _, e2⟩ := h1 x hx
    rw [e] at e2
    simp only [List.cons.injEq, and_true] at e2
    have : y = z := by omega
    rw [this]; exact hz
theorem rch_mem {fs : List (List Nat)} {n q : Nat} (hf : ∀ f ∈ fs, Ok f n) (hq : q < n) {i : Nat} (hi : i = (bl fs ldp [(q : Int)] i).length) (x : Int) : x ∈ rch fs q i ↔ ∃ y, x = (y : Nat) ∧ Rea fs q y := by
  obtain ⟨h1, _, _, _⟩ := bl_one hf hq i (by omega)
  unfold rch
  rw [List.take_of_length_le (by omega), List.mem_flatMap]
  constructor
  · rintro ⟨m, hm, hx⟩
    obtain ⟨y, hy, _, e⟩ := h1 m hm
    rw [e] at hx
    simp only [List.mem_singleton] at hx
    exact ⟨y, hx, hy⟩
  · rintro ⟨y, rfl, hy⟩
    obtain ⟨m, hm, e⟩ := (bl_all hf hq hi y).1 hy
    exact ⟨m, hm, by rw [e]; simp⟩
end Go.Proofs.Ytpepbomifjbgnaa
end
section
/- The points of a set of bits. -/
namespace Go.Proofs.Ytpepbomifjbgnaa
open Go.Kv
set_option maxRecDepth 100000
/- spec.l01Points -/
/- live [0, 3, 4] -/
def k58_b0 : KC := (.seq (.seq (.ops [⟨(some 6), none, .mv (.t 4)⟩, ⟨(some 7), none, .bin .lss (.t 6) (.c (.int .i64 62))⟩])
  (.cond (.t 7) .skip (.exit 0)))
  (.seq (.block 1 (.seq (.ops [⟨(some 10), none, .mv (.t 0)⟩, ⟨(some 11), none, .mv (.t 4)⟩, ⟨(some 12), none, .conv .u64 (.t 11)⟩, ⟨(some 13), none, .bin .shr (.t 10) (.t 12)⟩, ⟨(some 14), none, .bin .and (.t 13) (.c (.int .i64 1))⟩, ⟨(some 15), none, .bin .eql (.t 14) (.c (.int .i64 1))⟩])
  (.cond (.t 15) (.ops [⟨(some 16), none, .mv (.t 3)⟩, ⟨(some 17), none, .mv (.t 4)⟩, ⟨(some 18), none, .bsl true 2 1 [(.t 17)]⟩, ⟨(some 19), none, .app (.t 16) (.t 18) 2 1⟩, ⟨(some 3), none, .mv (.t 19)⟩]) .skip)))
  (.ops [⟨(some 8), none, .mv (.t 4)⟩, ⟨(some 9), none, .bin .add (.t 8) (.c (.int .i64 1))⟩, ⟨(some 4), none, .mv (.t 9)⟩])))
def k58 : KC := (.seq (.ops [⟨(some 2), none, .mv (.c (.nils))⟩])
  (.seq (.ops [⟨(some 5), none, .bsl false 2 1 []⟩, ⟨(some 3), none, .mv (.t 5)⟩])
  (.seq (.seq (.ops [⟨(some 4), none, .mv (.c (.int .i64 0))⟩])
  (.block 0 (.loop k58_b0)))
  (.seq (.ops [⟨(some 20), none, .mv (.t 3)⟩, ⟨(some 2), none, .mv (.t 20)⟩])
  .ret))))
theorem e58 {args : List PV} {σ : Heap} {K : PV → Heap → Prop} (hl : args.length ≤ 21) (h : Wf σ → (∀ a ∈ args, PV.upto σ.length a) → vc (mkCfg Try.prog mixed [18] 21 σ.length) k58 (FinK σ.length [.t 2] K) (argEnv 0 args) σ) : ACall Try.prog 58 args σ K :=
  ACall_enter (C := mkCfg Try.prog mixed [18] 21 σ.length) (c := Try.f58.body.getD .skip) Try.func58 (by kernel_rfl) (by kernel_rfl) (by kernel_rfl) rfl hl (by kernel_rfl) (by kernel_rfl) h
end Go.Proofs.Ytpepbomifjbgnaa
namespace Go.Proofs.Ytpepbomifjbgnaa
open Go.Kv
set_option linter.unusedVariables false
set_option linter.unusedSimpArgs false
attribute [local irreducible] ACall PCall KL
def pof (s x : Nat) : List Nat := (List.range x).filter fun i => s.testBit i
theorem pof_succ (s x : Nat) : pof s (x + 1) = pof s x ++ if s.testBit x = true then [x] else [] := by
  unfold pof
  rw [List.range_succ, List.filter_append]
  congr 1
  by_cases h : s.testBit x = true <;> simp [h]
theorem pof_le (s x : Nat) : (pof s x).length ≤ x := by
  have := List.length_filter_le (fun i => s.testBit i) (List.range x)
  simpa [pof] using this
theorem p58 (s : Nat) (hs : s < 2 ^ 62) : Pure Try.prog 58 [.int .i64 s] (.list (ints ((pof s 62).map fun x : Nat => (x : Int)))) := by
  refine e58 (by simp) fun _ _ => ?_
  simp only [k58, argEnv, take6, List.drop_zero, Int.cast_ofNat_Int, go_sem, ↓reduceIte, Nat.reduceEqDiff, Nat.reduceAdd, Nat.reduceMul, Nat.reduceLeDiff, Nat.reduceLT, Int.reduceLE, Int.reduceLT, reduceCtorEq]
  refine KL_ind k58_b0.eq_1 (fun x : Nat => [(0, .int .i64 s), (3, .ref 0 (pof s x).length 0 (pof s x).length), (4, .int .i64 x)]) (fun x => [.arr (pof s x).length 2 1 (ints ((pof s x).map fun x : Nat => (x : Int)))]) (fun x => x ≤ 62) (fun x => 62 - x) [0, 3, 4] 0 (by rfl) (by rfl) (Nat.zero_le _) fun x hx ih => ?_
  have hps := pof_succ s x
  have hpl := pof_le s x
  have hx61 : x ≤ 61 ∨ x = 62 := by omega
  rcases hx61 with hx61 | rfl
  · try simp only [OpK_eq, aConv_u64 hx61, aBin_shr (show x ≤ 63 by omega), aBin_and1 (shr_le hs), List.length_map, take6, List.drop_zero, Int.cast_ofNat_Int, go_sem, ↓reduceIte, Nat.reduceEqDiff, Nat.reduceAdd, Nat.reduceMul, Nat.reduceLeDiff, Nat.reduceLT, Int.reduceLE, Int.reduceLT, reduceCtorEq]
    refine ⟨fun h1 => ⟨fun h2 => ?_, fun h2 => ?_⟩, fun h1 => absurd h1 (by omega)⟩
    · rw [bit_one] at h2
      rw [if_pos h2] at hps
      refine ⟨⟨Nat.le_refl _, by omega⟩, by omega, ih (x + 1) (by omega) (by omega) _ _ (by simp [keep, hps]) ?_⟩
      rw [hps, List.take_of_length_le (by simp)]
      simp
    · rw [bit_one] at h2
      rw [if_neg h2, List.append_nil] at hps
      refine ⟨by omega, ih (x + 1) (by omega) (by omega) _ _ (by simp [keep, hps]) ?_⟩
      rw [hps]
  · try simp only [OpK_eq, take6, List.drop_zero, Int.cast_ofNat_Int, go_sem, ↓reduceIte, Nat.reduceEqDiff, Nat.reduceAdd, Nat.reduceMul, Nat.reduceLeDiff, Nat.reduceLT, Int.reduceLE, Int.reduceLT, reduceCtorEq]
    exact Kv.Fin.freeze (Imm.refn rfl (by simp)) ⟨rfl, rfl⟩
end Go.Proofs.Ytpepbomifjbgnaa
end
section
/- The orbit as an ascending list: plain laws. -/
namespace Go.Proofs.Ytpepbomifjbgnaa
open Go.Kv
set_option linter.unusedVariables false
set_option linter.unusedSimpArgs false
attribute [local irreducible] ACall PCall KL
theorem bl_len {fs : List (List Nat)} {n q : Nat} (hf : ∀ f ∈ fs, Ok f n) (hq : q < n) : ∀ i, (bl fs ldp [(q : Int)] i).length ≤ n := fun i => by
  have key : ∀ i, i ≤ (bl fs ldp [(q : Int)] i).length → (bl fs ldp [(q : Int)] i).length ≤ n := fun i hi => by
    obtain ⟨h1, h2, _, _⟩ := bl_one hf hq i hi
    have h3 := nodup_len n ((bl fs ldp [(q : Int)] i).map fun x => (x.1.getD 0 0).toNat) ?_ ?_
    · simpa using h3
    · have e : (bl fs ldp [(q : Int)] i).map Prod.fst = ((bl fs ldp [(q : Int)] i).map fun x => (x.1.getD 0 0).toNat).map fun y : Nat => [(y : Int)] := by
        rw [List.map_map]
        refine List.map_congr_left fun x hx => ?_
        obtain ⟨y, _, _, e⟩ := h1 x hx
        simp [e]
      rw [e, List.nodup_iff_pairwise_ne, List.pairwise_map] at h2
      exact h2.imp fun h e => h (by rw [e])
    · intro x hx
      obtain ⟨m, hm, rfl⟩ := List.mem_map.1 hx
      obtain ⟨y, _, hy, e⟩ := h1 m hm
      simpa [e] using hy
  induction i with
  | zero => exact key 0 (Nat.zero_le _)
  | succ i ih =>
    by_cases hi : i < (bl fs ldp [(q : Int)] i).length
    · refine key (i + 1) ?_
      rw [bl_succ hi]
      obtain ⟨r, hr⟩ := advN_preE fs ldp (bl fs ldp [(q : Int)] i) (bl fs ldp [(q : Int)] i)[i] fs.length
      rw [hr, List.length_append]; omega
    · have e : bl fs ldp [(q : Int)] (i + 1) = bl fs ldp [(q : Int)] i := by
        rw [bl]
        have : (bl fs ldp [(q : Int)] i)[i]? = none := List.getElem?_eq_none (Nat.le_of_not_lt hi)
        rw [this]
      rw [e]; exact ih
open Classical in
/-- The orbit of a point. -/
noncomputable def orb (fs : List (List Nat)) (q : Nat) : List Nat := (List.range 5).filter fun x => decide (Rea fs q x)
theorem reaLt {fs : List (List Nat)} {n q y : Nat} (hf : ∀ f ∈ fs, Ok f n) (hq : q < n) (h : Rea fs q y) : y < n := by
  cases h with
  | here => exact hq
  | step f x hf' _ => exact (hf f hf').get' x
open Classical in
theorem orb_mem {fs : List (List Nat)} {n q : Nat} (hf : ∀ f ∈ fs, Ok f n) (hn : n ≤ 5) (hq : q < n) (x : Nat) : x ∈ orb fs q ↔ Rea fs q x := by
  unfold orb
  rw [List.mem_filter, List.mem_range, decide_eq_true_iff]
  exact ⟨fun h => h.2, fun h => ⟨by have := reaLt hf hq h; omega, h⟩⟩
open Classical in
theorem orb_asc (fs : List (List Nat)) (q : Nat) : (orb fs q).Pairwise (· < ·) := List.Pairwise.filter _ List.pairwise_lt_range
open Classical in
theorem orb_len (fs : List (List Nat)) (q : Nat) : (orb fs q).length ≤ 5 := by
  have := List.length_filter_le (fun x => decide (Rea fs q x)) (List.range 5)
  simpa [orb] using this
theorem orb_nodup (fs : List (List Nat)) (q : Nat) : (orb fs q).Nodup := (orb_asc fs q).imp fun h => by omega
def nz (l : List Nat) : List Int := l.map fun x : Nat => (x : Int)
theorem nz_len (l : List Nat) : (nz l).length = l.length := List.length_map _
theorem nz_nodup {l : List Nat} (h : l.Nodup) : (nz l).Nodup := by
  rw [List.nodup_iff_pairwise_ne] at h ⊢
  rw [nz, List.pairwise_map]
  exact h.imp fun h e => h (by omega)
theorem flatMap_nodup : ∀ L : List Met, (∀ x ∈ L, ∃ y : Nat, x.1 = [(y : Int)]) → (L.map Prod.fst).Nodup → (L.flatMap Prod.fst).Nodup
  | [], _, _ => by simp
  | x :: L, h, hn => by
    rw [List.map_cons, List.nodup_cons] at hn
    obtain ⟨y, hy⟩ := h x (by simp)
    rw [List.flatMap_cons, hy, List.singleton_append, List.nodup_cons]
    refine ⟨fun hm => ?_, flatMap_nodup L (fun z hz => h z (List.mem_cons_of_mem _ hz)) hn.2⟩
    obtain ⟨z, hz, hm⟩ := List.mem_flatMap.1 hm
    obtain ⟨u, hu⟩ := h z (List.mem_cons_of_mem _ hz)
    rw [hu, List.mem_singleton] at hm
    exact hn.1 (List.mem_map.2 ⟨z, hz, by rw [hu, hy, hm]⟩)
theorem rch_perm {fs : List (List Nat)} {n q : Nat} (hf : ∀ f ∈ fs, Ok f n) (hn : n ≤ 5) (hq : q < n) {i : Nat} (hi : i = (bl fs ldp [(q : Int)] i).length) : (rch fs q i).Perm (nz (orb fs q)) := by
  refine (List.perm_ext_iff_of_nodup ?_ (nz_nodup (orb_nodup fs q))).2 fun x => ?_
  · obtain ⟨h1, h2, _, _⟩ := bl_one hf hq i (by omega)
    unfold rch
    rw [List.take_of_length_le (by omega)]
    exact flatMap_nodup _ (fun x hx => by obtain ⟨y, _, _, e⟩ := h1 x hx; exact ⟨y, e⟩) h2
  · rw [rch_mem hf hq hi, nz, List.mem_map]
    exact ⟨fun ⟨y, e, h⟩ => ⟨y, (orb_mem hf hn hq y).2 h, e.symm⟩, fun ⟨y, h, e⟩ => ⟨y, e.symm, (orb_mem hf hn hq y).1 h⟩⟩
theorem nz_sorted {l : List Nat} (h : l.Pairwise (· < ·)) : (nz l).Pairwise (· ≤ ·) := by
  rw [nz, List.pairwise_map]
  exact h.imp fun h => by omega
theorem rch_srt {fs : List (List Nat)} {n q : Nat} (hf : ∀ f ∈ fs, Ok f n) (hn : n ≤ 5) (hq : q < n) {i : Nat} (hi : i = (bl fs ldp [(q : Int)] i).length) {r : List Int} (hr : r.Perm (rch fs q i)) (hs : r.Pairwise (· ≤ ·)) : r = nz (orb fs q) :=
  sorted_uniq (hr.trans (rch_perm hf hn hq hi)) hs (nz_sorted (orb_asc fs q))
/-- Its bits, and the points of these. -/
theorem pof_orb {fs : List (List Nat)} {n q : Nat} (hf : ∀ f ∈ fs, Ok f n) (hn : n ≤ 5) (hq : q < n) {l : List Nat} (hl : ∀ x, x ∈ l ↔ Rea fs q x) : pof (sb l) 62 = orb fs q := by
  have hp : (pof (sb l) 62).Pairwise (· < ·) := List.Pairwise.filter _ List.pairwise_lt_range
  have hperm : (pof (sb l) 62).Perm (orb fs q) := (List.perm_ext_iff_of_nodup (hp.imp fun h => by omega) (orb_nodup fs q)).2 fun x => by
    rw [orb_mem hf hn hq, pof, List.mem_filter, List.mem_range, sb_test, decide_eq_true_iff, hl]
    exact ⟨fun h => h.2, fun h => ⟨by have := reaLt hf hq h; omega, h⟩⟩
  have := sorted_uniq (hperm.map fun x : Nat => (x : Int)) (nz_sorted hp) (nz_sorted (orb_asc fs q))
  have := congrArg (List.map Int.toNat) this
  rwa [toNat_map, toNat_map] at this
end Go.Proofs.Ytpepbomifjbgnaa
end
section
/- Orbits: both sides. -/
namespace Go.Proofs.Ytpepbomifjbgnaa
open Go.Kv
set_option maxRecDepth 100000
/- slices.Values[[]int64,int64] -/
def k49 : KC := (.seq (.ops [⟨(some 1), none, .box true (.t 0)⟩, ⟨(some 2), none, .mv (.c (.nilf))⟩])
  (.seq (.ops [⟨(some 3), none, .mkfn (.func 97) [] [(.t 1)]⟩, ⟨(some 2), none, .mv (.t 3)⟩])
  .ret))
theorem e49 {args : List PV} {σ : Heap} {K : PV → Heap → Prop} (hl : args.length ≤ 4) (h : Wf σ → (∀ a ∈ args, PV.upto σ.length a) → vc (mkCfg Try.prog mixed [1] 4 σ.length) k49 (FinK σ.length [.t 2] K) (argEnv 0 args) σ) : ACall Try.prog 49 args σ K :=
  ACall_enter (C := mkCfg Try.prog mixed [1] 4 σ.length) (c := Try.f49.body.getD .skip) Try.func49 (by kernel_rfl) (by kernel_rfl) (by kernel_rfl) rfl hl (by kernel_rfl) (by kernel_rfl) h
/- slices.Collect[int64] -/
def k95 : KC := (.seq (.ops [⟨(some 2), none, .mv (.c (.nils))⟩])
  (.seq (.ops [⟨(some 3), none, .mv (.t 0)⟩, ⟨(some 4), none, .call (.c (.fn (.func 135) [] [])) [(.c (.nils)), (.t 3)]⟩, ⟨(some 2), none, .mv (.t 4)⟩])
  .ret))
theorem e95 {args : List PV} {σ : Heap} {K : PV → Heap → Prop} (hl : args.length ≤ 5) (h : Wf σ → (∀ a ∈ args, PV.upto σ.length a) → vc (mkCfg Try.prog mixed [] 5 σ.length) k95 (FinK σ.length [.t 2] K) (argEnv 0 args) σ) : ACall Try.prog 95 args σ K :=
  ACall_enter (C := mkCfg Try.prog mixed [] 5 σ.length) (c := Try.f95.body.getD .skip) Try.func95 (by kernel_rfl) (by kernel_rfl) (by kernel_rfl) rfl hl (by kernel_rfl) (by kernel_rfl) h
/- slices.Sorted[int64] -/
def k48 : KC := (.seq (.ops [⟨(some 2), none, .mv (.c (.nils))⟩])
  (.seq (.ops [⟨(some 4), none, .mv (.t 0)⟩, ⟨(some 5), none, .call (.c (.fn (.func 95) [] [])) [(.t 4)]⟩, ⟨(some 3), none, .mv (.t 5)⟩])
  (.seq (.ops [⟨(some 6), none, .mv (.t 3)⟩, ⟨(some 7), none, .call (.c (.fn (.func 96) [] [])) [(.t 6)]⟩])
  (.seq (.ops [⟨(some 8), none, .mv (.t 3)⟩, ⟨(some 2), none, .mv (.t 8)⟩])
  .ret))))
theorem e48 {args : List PV} {σ : Heap} {K : PV → Heap → Prop} (hl : args.length ≤ 9) (h : Wf σ → (∀ a ∈ args, PV.upto σ.length a) → vc (mkCfg Try.prog mixed [] 9 σ.length) k48 (FinK σ.length [.t 2] K) (argEnv 0 args) σ) : ACall Try.prog 48 args σ K :=
  ACall_enter (C := mkCfg Try.prog mixed [] 9 σ.length) (c := Try.f48.body.getD .skip) Try.func48 (by kernel_rfl) (by kernel_rfl) (by kernel_rfl) rfl hl (by kernel_rfl) (by kernel_rfl) h
/- impl.orbit -/
def k61 : KC := (.seq (.ops [⟨(some 4), none, .mv (.c (.nils))⟩])
  (.seq (.ops [⟨(some 5), none, .mv (.t 0)⟩, ⟨(some 6), none, .mv (.t 1)⟩, ⟨(some 7), none, .call (.c (.fn (.func 106) [] [])) [(.t 5), (.t 6)]⟩, ⟨(some 8), none, .call (.c (.fn (.func 49) [] [])) [(.t 7)]⟩, ⟨(some 9), none, .call (.c (.fn (.func 48) [] [])) [(.t 8)]⟩, ⟨(some 4), none, .mv (.t 9)⟩])
  .ret))
theorem e61 {args : List PV} {σ : Heap} {K : PV → Heap → Prop} (hl : args.length ≤ 10) (h : Wf σ → (∀ a ∈ args, PV.upto σ.length a) → vc (mkCfg Try.prog mixed [] 10 σ.length) k61 (FinK σ.length [.t 4] K) (argEnv 0 args) σ) : ACall Try.prog 61 args σ K :=
  ACall_enter (C := mkCfg Try.prog mixed [] 10 σ.length) (c := Try.f61.body.getD .skip) Try.func61 (by kernel_rfl) (by kernel_rfl) (by kernel_rfl) rfl hl (by kernel_rfl) (by kernel_rfl) h
end Go.Proofs.Ytpepbomifjbgnaa
namespace Go.Proofs.Ytpepbomifjbgnaa
open Go.Kv
set_option linter.unusedVariables false
set_option linter.unusedSimpArgs false
attribute [local irreducible] ACall PCall KL
theorem p49 (l : List Int) : Pure Try.prog 49 [.list (ints l)] (.fn (.func 97) [] [.fptr [.list (ints l)] 0]) := by
  refine e49 (by simp) fun _ _ => ?_
  simp only [k49, argEnv, take6, List.drop_zero, Int.cast_ofNat_Int, go_sem, ↓reduceIte, Nat.reduceEqDiff, Nat.reduceAdd, Nat.reduceMul, Nat.reduceLeDiff, Nat.reduceLT, Int.reduceLE, Int.reduceLT, reduceCtorEq]
  try simp only [OpK_eq, HKv, take6, List.drop_zero, Int.cast_ofNat_Int, go_sem, ↓reduceIte, Nat.reduceEqDiff, Nat.reduceAdd, Nat.reduceMul, Nat.reduceLeDiff, Nat.reduceLT, Int.reduceLE, Int.reduceLT, reduceCtorEq]
  exact Kv.Fin.now ⟨rfl, rfl⟩
theorem p95 (l : List Int) (hl : l.length ≤ 1048576) (σ : Heap) (K : PV → Heap → Prop) (hK : K (.ref σ.length 0 0 l.length) (σ ++ [.arr 0 2 1 (ints l)])) :
    ACall Try.prog 95 [.fn (.func 97) [] [.fptr [.list (ints l)] 0]] σ K := by
  refine e95 (by simp) fun _ _ => ?_
  simp only [k95, argEnv, take6, List.drop_zero, Int.cast_ofNat_Int, go_sem, ↓reduceIte, Nat.reduceEqDiff, Nat.reduceAdd, Nat.reduceMul, Nat.reduceLeDiff, Nat.reduceLT, Int.reduceLE, Int.reduceLT, reduceCtorEq]
  refine p135 l hl σ _ ?_
  try simp only [OpK_eq, HKv, take6, List.drop_zero, Int.cast_ofNat_Int, go_sem, ↓reduceIte, Nat.reduceEqDiff, Nat.reduceAdd, Nat.reduceMul, Nat.reduceLeDiff, Nat.reduceLT, Int.reduceLE, Int.reduceLT, reduceCtorEq]
  exact Kv.Fin.now hK
theorem p48 (l : List Int) (hl : l.length ≤ 12) (σ : Heap) (K : PV → Heap → Prop) (hK : ∀ r : List Int, r.Perm l → r.Pairwise (· ≤ ·) → K (.ref σ.length 0 0 l.length) (σ ++ [.arr 0 2 1 (ints r)])) :
    ACall Try.prog 48 [.fn (.func 97) [] [.fptr [.list (ints l)] 0]] σ K := by
  refine e48 (by simp) fun _ _ => ?_
  simp only [k48, argEnv, take6, List.drop_zero, Int.cast_ofNat_Int, go_sem, ↓reduceIte, Nat.reduceEqDiff, Nat.reduceAdd, Nat.reduceMul, Nat.reduceLeDiff, Nat.reduceLT, Int.reduceLE, Int.reduceLT, reduceCtorEq]
  refine p95 l (by omega) σ _ ?_
  try simp only [OpK_eq, HKv, take6, List.drop_zero, Int.cast_ofNat_Int, go_sem, ↓reduceIte, Nat.reduceEqDiff, Nat.reduceAdd, Nat.reduceMul, Nat.reduceLeDiff, Nat.reduceLT, Int.reduceLE, Int.reduceLT, reduceCtorEq]
  refine p96 _ σ.length 0 2 l (by simp) hl fun r h1 h2 => ?_
  rw [List.set_append_right _ _ (Nat.le_refl _), Nat.sub_self]
  try simp only [OpK_eq, HKv, take6, List.drop_zero, Int.cast_ofNat_Int, go_sem, ↓reduceIte, Nat.reduceEqDiff, Nat.reduceAdd, Nat.reduceMul, Nat.reduceLeDiff, Nat.reduceLT, Int.reduceLE, Int.reduceLT, reduceCtorEq]
  exact Kv.Fin.now (hK r h1 h2)
/-- The orbit: a new slice. -/
theorem p61 (fs : List (List Nat)) (n : Nat) (hf : ∀ f ∈ fs, Ok f n) (hn5 : n ≤ 5) (hfl : fs.length ≤ 1000) (q : Nat) (hq : q < n) :
    ACall Try.prog 61 [.list (aggs (fs.map mp)), .int .i64 q] [] (fun v s => v = .ref 0 0 0 (orb fs q).length ∧ s = [.arr 0 2 1 (ints (nz (orb fs q)))]) := by
  refine e61 (by simp) fun _ _ => ?_
  simp only [k61, argEnv, take6, List.drop_zero, Int.cast_ofNat_Int, go_sem, ↓reduceIte, Nat.reduceEqDiff, Nat.reduceAdd, Nat.reduceMul, Nat.reduceLeDiff, Nat.reduceLT, Int.reduceLE, Int.reduceLT, reduceCtorEq]
  refine p106 fs n hf hfl q hq 5 (by omega) (fun i => Nat.le_trans (bl_len hf hq i) hn5) _ fun i hi => ?_
  try simp only [OpK_eq, HKv, take6, List.drop_zero, Int.cast_ofNat_Int, go_sem, ↓reduceIte, Nat.reduceEqDiff, Nat.reduceAdd, Nat.reduceMul, Nat.reduceLeDiff, Nat.reduceLT, Int.reduceLE, Int.reduceLT, reduceCtorEq]
  refine (p49 (rch fs q i)).go ?_
  try simp only [OpK_eq, HKv, take6, List.drop_zero, Int.cast_ofNat_Int, go_sem, ↓reduceIte, Nat.reduceEqDiff, Nat.reduceAdd, Nat.reduceMul, Nat.reduceLeDiff, Nat.reduceLT, Int.reduceLE, Int.reduceLT, reduceCtorEq]
  have hp := rch_perm hf hn5 hq hi
  have hlen := hp.length_eq
  have h5 := orb_len fs q
  rw [nz_len] at hlen
  refine p48 (rch fs q i) (by omega) [] _ fun r h1 h2 => ?_
  rw [rch_srt hf hn5 hq hi h1 h2, hlen]
  try simp only [OpK_eq, HKv, take6, List.drop_zero, Int.cast_ofNat_Int, go_sem, ↓reduceIte, Nat.reduceEqDiff, Nat.reduceAdd, Nat.reduceMul, Nat.reduceLeDiff, Nat.reduceLT, Int.reduceLE, Int.reduceLT, reduceCtorEq]
  exact Kv.Fin.now ⟨rfl, rfl⟩
/-- The specification's. -/
theorem p59P (fs : List (List Nat)) (n : Nat) (hf : ∀ f ∈ fs, Ok f n) (hn5 : n ≤ 5) (hfl : fs.length ≤ 1000) (q : Nat) (hq : q < n) : Pure Try.prog 59 [.list (aggs (fs.map mp)), .int .i64 q] (.int .i64 (sb (orb fs q))) :=
  p59 fs n hf hn5 hfl q hq _ fun l hl => ⟨by rw [sb_ext fun x => (hl x).trans (orb_mem hf hn5 hq x).symm], rfl⟩
end Go.Proofs.Ytpepbomifjbgnaa
end
section
/- Lists of maps that grow; what is copied into an array. -/
namespace Go.Proofs.Ytpepbomifjbgnaa
open Go.Kv
set_option linter.unusedVariables false
set_option linter.unusedSimpArgs false
variable {e : TypeId} {σ : Heap} {lo hi : Nat} {v : PV} {l : List (List Int)}
theorem OwnA.append (h : OwnA e σ 0 σ.length v l) (τ : Heap) : OwnA e (σ ++ τ) 0 (σ ++ τ).length v l := by
  cases h with
  | nil => exact .nil
  | own id ver l post h h6 h1 => exact .own id ver l post ((List.getElem?_append_left h1.2).trans h) h6 ⟨h1.1, by rw [List.length_append]; omega⟩
theorem Free.boxI (m : List Int) : Free [.box (ints m)] := fun o ho => by
  simp only [List.mem_singleton] at ho; subst ho
  intro c hc
  exact (Plain.ints m c hc).fr
theorem Free.set {σ : Heap} (h : Free σ) (i : Nat) {o : AObj} (ho : AObj.free o) : Free (σ.set i o) := fun p hp => by
  rcases List.mem_or_eq_of_mem_set hp with hp | rfl
  · exact h p hp
  · exact ho
theorem OwnA.push (h : OwnA e σ 0 σ.length v l) (hf : Free σ) (m : List Int) (hm : m.length = 6) (hn : l.length < 4294967296) {K : PV → Heap → Prop}
    (hK : ∀ v' σ', OwnA e σ' 0 σ'.length v' (l ++ [m]) → Free σ' → K v' σ') : aApp e 6 v (.list [.agg (ints m)]) σ K := by
  have hok : okL 6 [.agg (ints m)] = True := by
    have := okL_aggs 6 [m]
    simp only [List.mem_singleton, forall_eq, hm] at this
    simpa [aggs] using this
  cases h with
  | nil =>
    simp only [aApp_nils, aNews_list, hok, true_and, AppN_def]
    refine ⟨by simp, hK _ _ ?_ (hf.append (Free.aggs 0 e 6 [m]))⟩
    have := OwnA.own (e := e) (σ := σ ++ [AObj.arr 0 e 6 (aggs [m])]) (lo := 0) (hi := (σ ++ [AObj.arr 0 e 6 (aggs [m])]).length) σ.length 0 [m] [] (by simp) (by simpa using hm) ⟨Nat.zero_le _, by simp⟩
    exact this
  | own id ver l post h h6 h1 =>
    simp only [aApp_ref, h, AppR_arr, aNews_list, hok, true_and, AppM_def]
    have e1 : (aggs (l ++ post)).take l.length ++ [PV.agg (ints m)] = aggs (l ++ [m]) := by
      rw [aggs_take, List.take_left']
      · simp [aggs]
      · rfl
    rw [e1]
    refine ⟨⟨by simp [aggs_length], by simp; omega⟩, hK _ _ ?_ (Free.set hf id (free_aggs _))⟩
    have := OwnA.own (e := e) (σ := σ.set id (AObj.arr (ver + 1) e 6 (aggs (l ++ [m])))) (lo := 0) (hi := (σ.set id (AObj.arr (ver + 1) e 6 (aggs (l ++ [m])))).length) id (ver + 1) (l ++ [m]) [] (by rw [List.append_nil]; exact List.getElem?_set_self h1.2) (fun r hr => by
      rcases List.mem_append.1 hr with hr | hr
      · exact h6 r hr
      · simp only [List.mem_singleton] at hr; rw [hr]; exact hm) ⟨Nat.zero_le _, by simpa using h1.2⟩
    simpa using this
theorem putC_map (n : Int) (l : List Nat) (hl : l.length ≤ 5) : putC (ints [n, 0, 0, 0, 0, 0]) 1 (ints (l.map fun x : Nat => (x : Int))) = ints (mpN n l) := by
  rw [putC_ints _ _ _ (by simp; omega)]
  congr 1
  simp only [List.length_map, mpN]
  have e : [n, 0, 0, 0, 0, 0] = n :: List.replicate 5 (0 : Int) := rfl
  rw [e]
  simp only [List.take_succ_cons, List.take_zero, List.cons_append, List.nil_append]
  rw [show 1 + l.length = l.length + 1 by omega, List.drop_succ_cons, List.drop_replicate]
theorem putC_map' (n : Int) (l : List Nat) (hl : l.length ≤ 5) : putC [.int .i64 n, .int .i64 0, .int .i64 0, .int .i64 0, .int .i64 0, .int .i64 0] 1 (ints ((l.map fun x : Nat => (x : Int)).take 5)) = ints (mpN n l) := by
  rw [List.take_of_length_le (by simpa using hl)]
  exact putC_map n l hl
end Go.Proofs.Ytpepbomifjbgnaa
end
