/- Several texts of this session as one, less what the claim does not need. -/
import Derived.Test.YthbbjbfbeaiphaaGreatCb
import Derived.Test.YthbbjbfbeaiphaaGreatZ8
import Derived.Test.YthbbjbfbeaiphaaGreatZ9
import Derived.Test.YthbbjbfbeaiphaaGreatZ5
import Derived.Test.YthbbjbfbeaiphaaGreatZ6
import Derived.Test.YthbbjbfbeaiphaaGreatZ7
import Derived.RangeFuncBox
import Derived.RangeFuncLeaves
import Derived.Shelf.Abstract
import Derived.WalkKit
import Derived.OwnWalkIn
import Derived.TacticsInMore
import Derived.LoopNIn
import Derived.LoopIn
import Derived.Maps.AppendAt
import Derived.Test.YthbbjbfbeaiphaaGreatProg
import Derived.Shelf.SlSortCmp.NoneTotal
import Derived.Shelf.SlGeneric
import Derived.Ground.SlsfProg
section
section
namespace Go.Proofs.YthbbjbfbeaiphaaGreat
open Go.Kv
set_option maxRecDepth 100000
def k84_b0 : KC := (.seq (.seq (.ops [mV 13 7, mV 14 0, oP 15 (.len false (.t 14)), oP 16 (.bin .lss (.t 13) (.t 15))])
 (.cond (.t 16) .skip (.exit 2)))
 (.seq (.block 3 (.seq (.ops [mV 19 5, mV 20 0, mV 21 7, oP 22 (.idxS 6 (.t 20) (.t 21)), oP 23 (.load true 6 (.t 22)), mV 24 5, oP 25 (.call (fC 95) [(.t 23), (.t 24)]), oP 26 (.bin .or (.t 19) (.t 25)), mV 8 26])
 (.seq (.ops [mV 27 8, mV 28 5, oP 29 (.bin .neq (.t 27) (.t 28))])
 (.cond (.t 29) (.seq (.ops [mV 30 8, mV 5 30])
 (.ops [oP 6 (.mv (.c (.bool true)))])) .skip))))
 (.ops [mV 17 7, oP 18 (.bin .add (.t 17) (iC 1)), mV 7 18])))
def k84_b1 : KC := (.seq (.seq (.ops [mV 12 6])
 (.cond (.t 12) .skip (.exit 0)))
 (.block 1 (.seq (.ops [oP 6 (.mv (.c (.bool false)))])
 (.seq (.ops [oP 7 (.mv (iC 0))])
 (.block 2 (.loop k84_b0))))))
def k84 : KC := (.seq (.ops [oP 4 (.mv (iC 0))])
 (.seq (.ops [mV 9 1, oP 10 (.conv .u64 (.t 9)), oP 11 (.bin .shl (iC 1) (.t 10)), mV 5 11])
 (.seq (.seq (.ops [oP 6 (.mv (.c (.bool true)))])
 (.block 0 (.loop k84_b1)))
 (.seq (.ops [mV 31 5, mV 4 31])
 .ret))))
theorem e84 : Ent 84 32 [] [.t 4] k84 := ent Tryz.func84 (by kernel_rfl) (by kernel_rfl) (by kernel_rfl) (fun _ => by kernel_rfl) (by kernel_rfl)
end Go.Proofs.YthbbjbfbeaiphaaGreat
namespace Go.Proofs.YthbbjbfbeaiphaaGreat
open Go.Kv
set_option linter.unusedVariables false
set_option linter.unusedSimpArgs false
attribute [local irreducible] ACall PCall KL
inductive Rea (fs : List (List Nat)) (q : Nat) : Nat → Prop
 | here : Rea fs q q
 | step (f : List Nat) (x : Nat) (hf : f ∈ fs) (h : Rea fs q x) : Rea fs q (f.getD x 0)
theorem sb_app (l m : List Nat) : sb l ||| sb m = sb (l ++ m) := by
 apply Nat.eq_of_testBit_eq
 intro i
 rw [Nat.testBit_or, sb_test, sb_test, sb_test]
 simp
def cntS (n : Nat) (l : List Nat) : Nat := ((List.range n).filter fun x => decide (x ∈ l)).length
theorem cntS_le (n : Nat) (l : List Nat) : cntS n l ≤ n := by
 have := List.length_filter_le (fun x => decide (x ∈ l)) (List.range n)
 simpa [cntS] using this
theorem cntS_lt {n : Nat} {l m : List Nat} (hs : ∀ x ∈ l, x ∈ m) (hm : ∀ x ∈ m, x < n) (h : sb l ≠ sb m) : cntS n l < cntS n m := by
 obtain ⟨y, hy, hny⟩ : ∃ y, y ∈ m ∧ y ∉ l := by
  refine Classical.byContradiction fun hno => h (sb_ext fun x => ⟨hs x, fun hx => ?_⟩)
  exact Classical.byContradiction fun hn => hno ⟨x, hx, hn⟩
 have hyn := hm y hy
 have key : ∀ k, ((List.range k).filter fun x => decide (x ∈ l)).length ≤ ((List.range k).filter fun x => decide (x ∈ m)).length ∧ (y < k → ((List.range k).filter fun x => decide (x ∈ l)).length < ((List.range k).filter fun x => decide (x ∈ m)).length) := fun k => by
  induction k with
  | zero => simp
  | succ k ih =>
   rw [List.range_succ, List.filter_append, List.filter_append, List.length_append, List.length_append]
   by_cases h1 : k ∈ l
   ·have h2 := hs k h1
    simp only [h1, h2, decide_true, List.filter_cons_of_pos, List.filter_nil, List.length_cons, List.length_nil]
    refine ⟨by omega, fun hk => ?_⟩
    have : y ≠ k := by rintro rfl; exact hny h1
    have := ih.2 (by omega); omega
   ·by_cases h2 : k ∈ m
    ·rw [List.filter_cons_of_neg (by simp [h1]), List.filter_cons_of_pos (by simp [h2])]
     simp only [List.filter_nil, List.length_nil, List.length_cons]
     exact ⟨by omega, fun _ => by omega⟩
    ·have : y ≠ k := by rintro rfl; exact h2 hy
     rw [List.filter_cons_of_neg (by simp [h1]), List.filter_cons_of_neg (by simp [h2])]
     simp only [List.filter_nil, List.length_nil]
     exact ⟨by omega, fun hk => by have := ih.2 (by omega); omega⟩
 exact (key n).2 hyn
theorem p84 (fs : List (List Nat)) (n : Nat) (hf : ∀ f ∈ fs, Ok f n) (hn5 : n ≤ 5) (hfl : fs.length ≤ 1000) (q : Nat) (hq : q < n) (K : PV → Heap → Prop)
  (hK : ∀ l, (∀ x, x ∈ l ↔ Rea fs q x) → K (.int .i64 (sb l)) []) : ACall Tryz.prog 84 [.list (aggs (fs.map mp)), .int .i64 q] [] K := by
 have hq61 : q ≤ 61 := by omega
 have hb1 : (2 ^ q : Nat) = sb [q] := by simp [sb]
 refine e84 (by simp) fun _ _ => ?_
 simp only [k84, argEnv, aConv_u64 hq61, aBin_shl1 hq61, go_sem]
 rw [hb1]
 refine KL_ind k84_b1.eq_1 (fun x : List Nat × Bool => [(0, .list (aggs (fs.map mp))), (5, .int .i64 (sb x.1)), (6, .bool x.2)]) (fun _ => []) (fun x => q ∈ x.1 ∧ (∀ y ∈ x.1, Rea fs q y ∧ y < n) ∧ (x.2 = false → ∀ f ∈ fs, ∀ y ∈ x.1, f.getD y 0 ∈ x.1)) (fun x => 2 * (n - cntS n x.1) + (if x.2 = true then 1 else 0)) [0, 5, 6] ([q], true) (by simp [keep]) rfl ⟨by simp, fun y hy => ?_, fun h => by cases h⟩ fun ⟨l, b⟩ ⟨hql, hr, hcl⟩ ih => ?_
 ·have hy : y ∈ [q] := hy
  simp only [List.mem_singleton] at hy; subst hy; exact ⟨.here, hq⟩
 simp only at hql hr hcl
 cases b with
 | false =>
  try simp only [OpK_eq, go_sem]
  refine Kv.Fin.still (hK l fun x => ⟨fun hx => (hr x hx).1, fun hx => ?_⟩)
  induction hx with
  | here => exact hql
  | step f x hf' _ ihx => exact hcl rfl f hf' x ihx
 | true =>
  try simp only [OpK_eq, go_sem]
  have hsb : ∀ m : List Nat, (∀ y ∈ m, y < n) → sb m < 2 ^ 62 := fun m hm => Nat.lt_trans (sb_lt (n := 5) fun y hy => by have := hm y hy; omega) (by decide)
  have hcll := cntS_le n l
  refine KL_ind k84_b0.eq_1 (fun x : Nat × List Nat × Bool => [(0, .list (aggs (fs.map mp))), (5, .int .i64 (sb x.2.1)), (6, .bool x.2.2), (7, .int .i64 x.1)]) (fun _ => []) (fun x => x.1 ≤ fs.length ∧ (∀ y ∈ l, y ∈ x.2.1) ∧ (∀ y ∈ x.2.1, Rea fs q y ∧ y < n) ∧ (x.2.2 = true → cntS n l < cntS n x.2.1) ∧ (x.2.2 = false → x.2.1 = l ∧ ∀ f ∈ fs.take x.1, ∀ y ∈ l, f.getD y 0 ∈ l)) (fun x => fs.length - x.1) [0, 5, 6, 7] (0, l, false) (by simp [keep]) rfl ⟨Nat.zero_le _, fun y hy => hy, hr, fun h => (by cases h), fun _ => ⟨rfl, by simp⟩⟩ fun ⟨k, m, b⟩ ⟨hk, hlm, hrm, hbt, hbf⟩ ihk => ?_
  simp only at hk hlm hrm hbt hbf
  have hmn : ∀ y ∈ m, y < n := fun y hy => (hrm y hy).2
  have hcm := cntS_le n m
  try simp only [OpK_eq, List.length_map, go_sem]
  refine ⟨fun h1 => ?_, fun h1 => ?_⟩
  ·have hkl : k < fs.length := by omega
   have hfm : fs[k] ∈ fs := List.getElem_mem hkl
   have hfk := hf _ hfm
   have h6k := hfk.mp_len
   have hgk : (fs.map mp).getD k [] = mp fs[k] := by simp [List.getD_eq_getElem?_getD, hkl]
   have hmm : ∀ y ∈ m.map (fun p => fs[k].getD p 0), y < n := fun y hy => by
    obtain ⟨x, _, rfl⟩ := List.mem_map.1 hy
    exact hfk.get' x
   rw [hgk]
   try simp only [OpK_eq, h6k, go_sem]
   refine ⟨by omega, fun _ => ?_⟩
   refine (p95 fs[k] n hfk m hmn).go ?_
   have hor2 := fun K => aBin_or (K := K) (hsb m hmn) (hsb _ hmm)
   have htk := List.take_succ_eq_append_getElem hkl
   try simp only [OpK_eq, hor2, go_sem]
   rw [sb_app]
   have hmem : ∀ y, y ∈ m ++ m.map (fun p => fs[k].getD p 0) → Rea fs q y ∧ y < n := fun y hy => by
    rcases List.mem_append.1 hy with hy | hy
    ·exact hrm y hy
    ·refine ⟨?_, hmm y hy⟩
     obtain ⟨x, hx, rfl⟩ := List.mem_map.1 hy
     exact .step _ x hfm (hrm x hx).1
   refine ⟨fun h2 => ⟨by omega, ?_⟩, fun h2 => ⟨by omega, ?_⟩⟩
   ·have hne : sb m ≠ sb (m ++ m.map (fun p => fs[k].getD p 0)) := fun e => h2 (by rw [e])
    have hlt := cntS_lt (n := n) (fun x hx => List.mem_append.2 (.inl hx)) (fun y hy => (hmem y hy).2) hne
    refine ihk (k + 1, m ++ m.map (fun p => fs[k].getD p 0), true) ⟨by show k + 1 ≤ fs.length; omega, fun y hy => List.mem_append.2 (.inl (hlm y hy)), hmem, fun _ => ?_, fun h => by cases h⟩ (by show fs.length - (k + 1) < fs.length - k; omega) _ _ (by simp [keep]) rfl
    show cntS n l < cntS n (m ++ m.map (fun p => fs[k].getD p 0))
    cases b with
    | true => have := hbt rfl; omega
    | false => obtain ⟨e, _⟩ := hbf rfl; rw [← show m = l from e]; exact hlt
   ·have he : sb (m ++ m.map (fun p => fs[k].getD p 0)) = sb m := by omega
    refine ihk (k + 1, m, b) ⟨by show k + 1 ≤ fs.length; omega, hlm, hrm, hbt, fun hb => ?_⟩ (by show fs.length - (k + 1) < fs.length - k; omega) _ _ (by simp [keep]) rfl
    obtain ⟨e, hc⟩ := hbf hb
    have e : m = l := e
    refine ⟨e, fun f hf' y hy => ?_⟩
    have hf' : f ∈ fs.take (k + 1) := hf'
    rw [htk] at hf'
    rcases List.mem_append.1 hf' with hf' | hf'
    ·exact hc f hf' y hy
    ·simp only [List.mem_singleton] at hf'
     subst hf'
     have h3 := sb_test (m ++ m.map (fun p => fs[k].getD p 0)) (fs[k].getD y 0)
     rw [he, sb_test, e] at h3
     have : fs[k].getD y 0 ∈ l ++ l.map (fun p => fs[k].getD p 0) := List.mem_append.2 (.inr (List.mem_map.2 ⟨y, hy, rfl⟩))
     rw [decide_eq_true this] at h3
     exact of_decide_eq_true h3
  ·have hke : k = fs.length := by omega
   subst hke
   rw [List.take_length] at hbf
   try simp only [OpK_eq, go_sem]
   refine ih (m, b) ⟨hlm q hql, hrm, fun hb => ?_⟩ ?_ _ _ (by simp [keep]) rfl
   ·obtain ⟨e, hc⟩ := hbf hb
    have e : m = l := e
    rw [e]; exact hc
   ·show 2 * (n - cntS n m) + (if b = true then 1 else 0) < 2 * (n - cntS n l) + (if true = true then 1 else 0)
    cases b with
    | true => have := hbt rfl; simp; omega
    | false => obtain ⟨e, _⟩ := hbf rfl; rw [e]; simp
end Go.Proofs.YthbbjbfbeaiphaaGreat
end
section
namespace Go.Proofs.YthbbjbfbeaiphaaGreat
open Go.Kv
set_option linter.unusedVariables false
set_option linter.unusedSimpArgs false
attribute [local irreducible] ACall PCall KL
theorem adv_one {fs : List (List Nat)} {n q : Nat} (hf : ∀ f ∈ fs, Ok f n) {Q : List Met} {m : Met} (hQ : ∀ x ∈ Q, ∃ y, Rea fs q y ∧ y < n ∧ x.1 = [(y : Int)]) (hd : (Q.map Prod.fst).Nodup) (hm : ∃ y, Rea fs q y ∧ y < n ∧ m.1 = [(y : Int)]) : ∀ k, k ≤ fs.length →
  (∀ x ∈ advN fs ldp Q m k, ∃ y, Rea fs q y ∧ y < n ∧ x.1 = [(y : Int)]) ∧ ((advN fs ldp Q m k).map Prod.fst).Nodup ∧ (∀ j, j < k → ∃ x ∈ advN fs ldp Q m k, x.1 = ldp (fs.getD j []) m.1) ∧ (∀ x ∈ Q, x ∈ advN fs ldp Q m k)
 | 0, _ => ⟨hQ, hd, fun j h => by omega, fun x hx => hx⟩
 | k + 1, hk => by
  obtain ⟨h1, h2, h3, h4⟩ := adv_one hf hQ hd hm k (by omega)
  have hgf : fs.getD k [] = fs[k] := by simp [List.getD_eq_getElem?_getD, show k < fs.length by omega]
  have hfk : fs[k] ∈ fs := List.getElem_mem _
  rw [advN_succ]
  cases hany : (advN fs ldp Q m k).any (fun x => decide (x.1 = ldp (fs.getD k []) m.1)) with
  | true =>
   rw [if_pos rfl]
   refine ⟨h1, h2, fun j hj => ?_, h4⟩
   by_cases e : j = k
   ·subst e
    obtain ⟨x, hx, e⟩ := List.any_eq_true.1 hany
    exact ⟨x, hx, of_decide_eq_true e⟩
   ·exact h3 j (by omega)
  | false =>
   rw [if_neg (by simp)]
   refine ⟨fun x hx => ?_, ?_, fun j hj => ?_, fun x hx => List.mem_append.2 (.inl (h4 x hx))⟩
   ·rcases List.mem_append.1 hx with hx | hx
    ·exact h1 x hx
    ·simp only [List.mem_singleton] at hx; subst hx
     obtain ⟨y, hy, hyn, e⟩ := hm
     refine ⟨fs[k].getD y 0, .step _ y hfk hy, (hf _ hfk).get' y, ?_⟩
     show ldp (fs.getD k []) m.1 = _
     rw [hgf, e]; simp [ldp]
   ·rw [List.map_append, List.nodup_append]
    refine ⟨h2, by simp, fun y hy z hz => ?_⟩
    simp only [List.map_cons, List.map_nil, List.mem_singleton] at hz
    subst hz
    obtain ⟨x, hx, rfl⟩ := List.mem_map.1 hy
    rw [List.any_eq_false] at hany
    have := hany x hx
    simpa using this
   ·by_cases e : j = k
    ·subst e; exact ⟨_, List.mem_append.2 (.inr (List.mem_singleton.2 rfl)), rfl⟩
    ·obtain ⟨x, hx, e⟩ := h3 j (by omega)
     exact ⟨x, List.mem_append.2 (.inl hx), e⟩
theorem bl_one {fs : List (List Nat)} {n q : Nat} (hf : ∀ f ∈ fs, Ok f n) (hq : q < n) : ∀ i, i ≤ (bl fs ldp [(q : Int)] i).length →
  (∀ x ∈ bl fs ldp [(q : Int)] i, ∃ y, Rea fs q y ∧ y < n ∧ x.1 = [(y : Int)]) ∧ ((bl fs ldp [(q : Int)] i).map Prod.fst).Nodup ∧ (∃ x ∈ bl fs ldp [(q : Int)] i, x.1 = [(q : Int)]) ∧
  (∀ j, (h : j < (bl fs ldp [(q : Int)] i).length) → j < i → ∀ k, k < fs.length → ∃ x ∈ bl fs ldp [(q : Int)] i, x.1 = ldp (fs.getD k []) (bl fs ldp [(q : Int)] i)[j].1)
 | 0, _ => by
  have e : bl fs ldp [(q : Int)] 0 = [(([(q : Int)], []) : Met)] := rfl
  rw [e]
  refine ⟨fun x hx => ?_, by simp, ⟨_, List.mem_singleton.2 rfl, rfl⟩, fun j _ h => by omega⟩
  simp only [List.mem_singleton] at hx; subst hx
  exact ⟨q, .here, hq, rfl⟩
 | i + 1, hi1 => by
  by_cases hi : i < (bl fs ldp [(q : Int)] i).length
  ·obtain ⟨h1, h2, h3, h4⟩ := bl_one hf hq i (by omega)
   obtain ⟨g1, g2, g3, g4⟩ := adv_one hf h1 h2 (h1 _ (List.getElem_mem hi)) fs.length (Nat.le_refl _)
   obtain ⟨r, hr⟩ := advN_preE fs ldp (bl fs ldp [(q : Int)] i) (bl fs ldp [(q : Int)] i)[i] fs.length
   have e := bl_succ (fs := fs) (bf := ldp) (p := [(q : Int)]) hi
   rw [← e] at g1 g2 g3 g4 hr
   obtain ⟨x0, hx0, e0⟩ := h3
   refine ⟨g1, g2, ⟨x0, g4 x0 hx0, e0⟩, fun j hj hji k hk => ?_⟩
   have hj' : j < (bl fs ldp [(q : Int)] i).length := by omega
   have ej : (bl fs ldp [(q : Int)] (i + 1))[j] = (bl fs ldp [(q : Int)] i)[j] := by
    have : (bl fs ldp [(q : Int)] (i + 1))[j]? = (bl fs ldp [(q : Int)] i)[j]? := by rw [hr, List.getElem?_append_left hj']
    rw [List.getElem?_eq_getElem hj, List.getElem?_eq_getElem hj'] at this
    exact Option.some.inj this
   rw [ej]
   by_cases e2 : j = i
   ·subst e2; exact g3 k hk
   ·obtain ⟨x, hx, e3⟩ := h4 j hj' (by omega) k hk
    exact ⟨x, g4 x hx, e3⟩
  ·have e : bl fs ldp [(q : Int)] (i + 1) = bl fs ldp [(q : Int)] i := by
    rw [bl]
    have : (bl fs ldp [(q : Int)] i)[i]? = none := List.getElem?_eq_none (Nat.le_of_not_lt hi)
    rw [this]
   rw [e] at hi1
   omega
theorem bl_all {fs : List (List Nat)} {n q : Nat} (hf : ∀ f ∈ fs, Ok f n) (hq : q < n) {i : Nat} (hi : i = (bl fs ldp [(q : Int)] i).length) (y : Nat) : Rea fs q y ↔ ∃ x ∈ bl fs ldp [(q : Int)] i, x.1 = [(y : Int)] := by
 obtain ⟨h1, _, h3, h4⟩ := bl_one hf hq i (by omega)
 constructor
 ·intro hy
  induction hy with
  | here => exact h3
  | step f x hf' _ ih =>
   obtain ⟨z, hz, e⟩ := ih
   obtain ⟨j, hj, rfl⟩ := List.getElem_of_mem hz
   obtain ⟨k, hk, rfl⟩ := List.getElem_of_mem hf'
   obtain ⟨u, hu, e2⟩ := h4 j hj (by omega) k hk
   refine ⟨u, hu, ?_⟩
   rw [e2, e]
   simp [ldp, List.getD_eq_getElem?_getD, hk]
 ·rintro ⟨x, hx, e⟩
  obtain ⟨z, hz, _, e2⟩ := h1 x hx
  rw [e] at e2
  simp only [List.cons.injEq, and_true] at e2
  have : y = z := by omega
  rw [this]; exact hz
theorem rch_mem {fs : List (List Nat)} {n q : Nat} (hf : ∀ f ∈ fs, Ok f n) (hq : q < n) {i : Nat} (hi : i = (bl fs ldp [(q : Int)] i).length) (x : Int) : x ∈ rch fs q i ↔ ∃ y, x = (y : Nat) ∧ Rea fs q y := by
 obtain ⟨h1, _, _, _⟩ := bl_one hf hq i (by omega)
 unfold rch
 rw [List.take_of_length_le (by omega), List.mem_flatMap]
 constructor
 ·rintro ⟨m, hm, hx⟩
  obtain ⟨y, hy, _, e⟩ := h1 m hm
  rw [e] at hx
  simp only [List.mem_singleton] at hx
  exact ⟨y, hx, hy⟩
 ·rintro ⟨y, rfl, hy⟩
  obtain ⟨m, hm, e⟩ := (bl_all hf hq hi y).1 hy
  exact ⟨m, hm, by rw [e]; simp⟩
end Go.Proofs.YthbbjbfbeaiphaaGreat
end
section
namespace Go.Proofs.YthbbjbfbeaiphaaGreat
open Go.Kv
set_option maxRecDepth 100000
def k83_b0 : KC := (.seq (.seq (.ops [mV 6 4, oP 7 (.bin .lss (.t 6) (iC 62))])
 (.cond (.t 7) .skip (.exit 0)))
 (.seq (.block 1 (.seq (.ops [mV 10 0, mV 11 4, oP 12 (.conv .u64 (.t 11)), oP 13 (.bin .shr (.t 10) (.t 12)), oP 14 (.bin .and (.t 13) (iC 1)), oP 15 (.bin .eql (.t 14) (iC 1))])
 (.cond (.t 15) (.ops [mV 16 3, mV 17 4, oP 18 (.bsl true 2 1 [(.t 17)]), oP 19 (.app (.t 16) (.t 18) 2 1), mV 3 19]) .skip)))
 (.ops [mV 8 4, oP 9 (.bin .add (.t 8) (iC 1)), mV 4 9])))
def k83 : KC := (.seq (.ops [oP 2 (.mv (.c (.nils)))])
 (.seq (.ops [oP 5 (.bsl false 2 1 []), mV 3 5])
 (.seq (.seq (.ops [oP 4 (.mv (iC 0))])
 (.block 0 (.loop k83_b0)))
 (.seq (.ops [mV 20 3, mV 2 20])
 .ret))))
theorem e83 : Ent 83 21 [18] [.t 2] k83 := ent Tryz.func83 (by kernel_rfl) (by kernel_rfl) (by kernel_rfl) (fun _ => by kernel_rfl) (by kernel_rfl)
end Go.Proofs.YthbbjbfbeaiphaaGreat
namespace Go.Proofs.YthbbjbfbeaiphaaGreat
open Go.Kv
set_option linter.unusedVariables false
set_option linter.unusedSimpArgs false
attribute [local irreducible] ACall PCall KL
def pof (s x : Nat) : List Nat := (List.range x).filter fun i => s.testBit i
theorem pof_succ (s x : Nat) : pof s (x + 1) = pof s x ++ if s.testBit x = true then [x] else [] := by
 unfold pof
 rw [List.range_succ, List.filter_append]
 congr 1
 by_cases h : s.testBit x = true <;> simp [h]
theorem pof_le (s x : Nat) : (pof s x).length ≤ x := by
 have := List.length_filter_le (fun i => s.testBit i) (List.range x)
 simpa [pof] using this
theorem p83 (s : Nat) (hs : s < 2 ^ 62) : Pure Tryz.prog 83 [.int .i64 s] (.list (ints ((pof s 62).map fun x : Nat => (x : Int)))) := by
 refine e83 (by simp) fun _ _ => ?_
 simp only [k83, argEnv, go_sem]
 refine KL_ind k83_b0.eq_1 (fun x : Nat => [(0, .int .i64 s), (3, .ref 0 (pof s x).length 0 (pof s x).length), (4, .int .i64 x)]) (fun x => [.arr (pof s x).length 2 1 (ints ((pof s x).map fun x : Nat => (x : Int)))]) (fun x => x ≤ 62) (fun x => 62 - x) [0, 3, 4] 0 (by rfl) (by rfl) (Nat.zero_le _) fun x hx ih => ?_
 have hps := pof_succ s x
 have hpl := pof_le s x
 have hx61 : x ≤ 61 ∨ x = 62 := by omega
 rcases hx61 with hx61 | rfl
 ·try simp only [OpK_eq, aConv_u64 hx61, aBin_shr (show x ≤ 63 by omega), aBin_and1 (shr_le hs), List.length_map, go_sem]
  refine ⟨fun h1 => ⟨fun h2 => ?_, fun h2 => ?_⟩, fun h1 => absurd h1 (by omega)⟩
  ·rw [bit_one] at h2
   rw [if_pos h2] at hps
   refine ⟨⟨Nat.le_refl _, by omega⟩, by omega, ih (x + 1) (by omega) (by omega) _ _ (by simp [keep, hps]) ?_⟩
   rw [hps, List.take_of_length_le (by simp)]
   simp
  ·rw [bit_one] at h2
   rw [if_neg h2, List.append_nil] at hps
   refine ⟨by omega, ih (x + 1) (by omega) (by omega) _ _ (by simp [keep, hps]) ?_⟩
   rw [hps]
 ·try simp only [OpK_eq, go_sem]
  exact Kv.Fin.freeze (Imm.refn rfl (by simp)) ⟨rfl, rfl⟩
end Go.Proofs.YthbbjbfbeaiphaaGreat
end
section
namespace Go.Proofs.YthbbjbfbeaiphaaGreat
open Go.Kv
set_option linter.unusedVariables false
set_option linter.unusedSimpArgs false
attribute [local irreducible] ACall PCall KL
theorem bl_len {fs : List (List Nat)} {n q : Nat} (hf : ∀ f ∈ fs, Ok f n) (hq : q < n) : ∀ i, (bl fs ldp [(q : Int)] i).length ≤ n := fun i => by
 have key : ∀ i, i ≤ (bl fs ldp [(q : Int)] i).length → (bl fs ldp [(q : Int)] i).length ≤ n := fun i hi => by
  obtain ⟨h1, h2, _, _⟩ := bl_one hf hq i hi
  have h3 := nodup_len n ((bl fs ldp [(q : Int)] i).map fun x => (x.1.getD 0 0).toNat) ?_ ?_
  ·simpa using h3
  ·have e : (bl fs ldp [(q : Int)] i).map Prod.fst = ((bl fs ldp [(q : Int)] i).map fun x => (x.1.getD 0 0).toNat).map fun y : Nat => [(y : Int)] := by
    rw [List.map_map]
    refine List.map_congr_left fun x hx => ?_
    obtain ⟨y, _, _, e⟩ := h1 x hx
    simp [e]
   rw [e, List.nodup_iff_pairwise_ne, List.pairwise_map] at h2
   exact h2.imp fun h e => h (by rw [e])
  ·intro x hx
   obtain ⟨m, hm, rfl⟩ := List.mem_map.1 hx
   obtain ⟨y, _, hy, e⟩ := h1 m hm
   simpa [e] using hy
 induction i with
 | zero => exact key 0 (Nat.zero_le _)
 | succ i ih =>
  by_cases hi : i < (bl fs ldp [(q : Int)] i).length
  ·refine key (i + 1) ?_
   rw [bl_succ hi]
   obtain ⟨r, hr⟩ := advN_preE fs ldp (bl fs ldp [(q : Int)] i) (bl fs ldp [(q : Int)] i)[i] fs.length
   rw [hr, List.length_append]; omega
  ·have e : bl fs ldp [(q : Int)] (i + 1) = bl fs ldp [(q : Int)] i := by
    rw [bl]
    have : (bl fs ldp [(q : Int)] i)[i]? = none := List.getElem?_eq_none (Nat.le_of_not_lt hi)
    rw [this]
   rw [e]; exact ih
open Classical in
noncomputable def orb (fs : List (List Nat)) (q : Nat) : List Nat := (List.range 5).filter fun x => decide (Rea fs q x)
theorem reaLt {fs : List (List Nat)} {n q y : Nat} (hf : ∀ f ∈ fs, Ok f n) (hq : q < n) (h : Rea fs q y) : y < n := by
 cases h with
 | here => exact hq
 | step f x hf' _ => exact (hf f hf').get' x
open Classical in
theorem orb_mem {fs : List (List Nat)} {n q : Nat} (hf : ∀ f ∈ fs, Ok f n) (hn : n ≤ 5) (hq : q < n) (x : Nat) : x ∈ orb fs q ↔ Rea fs q x := by
 unfold orb
 rw [List.mem_filter, List.mem_range, decide_eq_true_iff]
 exact ⟨fun h => h.2, fun h => ⟨by have := reaLt hf hq h; omega, h⟩⟩
open Classical in
theorem orb_asc (fs : List (List Nat)) (q : Nat) : (orb fs q).Pairwise (· < ·) := List.Pairwise.filter _ List.pairwise_lt_range
open Classical in
theorem orb_len (fs : List (List Nat)) (q : Nat) : (orb fs q).length ≤ 5 := by
 have := List.length_filter_le (fun x => decide (Rea fs q x)) (List.range 5)
 simpa [orb] using this
theorem orb_nodup (fs : List (List Nat)) (q : Nat) : (orb fs q).Nodup := (orb_asc fs q).imp fun h => by omega
def nz (l : List Nat) : List Int := l.map fun x : Nat => (x : Int)
theorem nz_len (l : List Nat) : (nz l).length = l.length := List.length_map _
theorem nz_nodup {l : List Nat} (h : l.Nodup) : (nz l).Nodup := by
 rw [List.nodup_iff_pairwise_ne] at h ⊢
 rw [nz, List.pairwise_map]
 exact h.imp fun h e => h (by omega)
theorem flatMap_nodup : ∀ L : List Met, (∀ x ∈ L, ∃ y : Nat, x.1 = [(y : Int)]) → (L.map Prod.fst).Nodup → (L.flatMap Prod.fst).Nodup
 | [], _, _ => by simp
 | x :: L, h, hn => by
  rw [List.map_cons, List.nodup_cons] at hn
  obtain ⟨y, hy⟩ := h x (by simp)
  rw [List.flatMap_cons, hy, List.singleton_append, List.nodup_cons]
  refine ⟨fun hm => ?_, flatMap_nodup L (fun z hz => h z (List.mem_cons_of_mem _ hz)) hn.2⟩
  obtain ⟨z, hz, hm⟩ := List.mem_flatMap.1 hm
  obtain ⟨u, hu⟩ := h z (List.mem_cons_of_mem _ hz)
  rw [hu, List.mem_singleton] at hm
  exact hn.1 (List.mem_map.2 ⟨z, hz, by rw [hu, hy, hm]⟩)
theorem rch_perm {fs : List (List Nat)} {n q : Nat} (hf : ∀ f ∈ fs, Ok f n) (hn : n ≤ 5) (hq : q < n) {i : Nat} (hi : i = (bl fs ldp [(q : Int)] i).length) : (rch fs q i).Perm (nz (orb fs q)) := by
 refine (List.perm_ext_iff_of_nodup ?_ (nz_nodup (orb_nodup fs q))).2 fun x => ?_
 ·obtain ⟨h1, h2, _, _⟩ := bl_one hf hq i (by omega)
  unfold rch
  rw [List.take_of_length_le (by omega)]
  exact flatMap_nodup _ (fun x hx => by obtain ⟨y, _, _, e⟩ := h1 x hx; exact ⟨y, e⟩) h2
 ·rw [rch_mem hf hq hi, nz, List.mem_map]
  exact ⟨fun ⟨y, e, h⟩ => ⟨y, (orb_mem hf hn hq y).2 h, e.symm⟩, fun ⟨y, h, e⟩ => ⟨y, e.symm, (orb_mem hf hn hq y).1 h⟩⟩
theorem nz_sorted {l : List Nat} (h : l.Pairwise (· < ·)) : (nz l).Pairwise (· ≤ ·) := by
 rw [nz, List.pairwise_map]
 exact h.imp fun h => by omega
theorem rch_srt {fs : List (List Nat)} {n q : Nat} (hf : ∀ f ∈ fs, Ok f n) (hn : n ≤ 5) (hq : q < n) {i : Nat} (hi : i = (bl fs ldp [(q : Int)] i).length) {r : List Int} (hr : r.Perm (rch fs q i)) (hs : r.Pairwise (· ≤ ·)) : r = nz (orb fs q) :=
 sorted_uniq (hr.trans (rch_perm hf hn hq hi)) hs (nz_sorted (orb_asc fs q))
theorem pof_orb {fs : List (List Nat)} {n q : Nat} (hf : ∀ f ∈ fs, Ok f n) (hn : n ≤ 5) (hq : q < n) {l : List Nat} (hl : ∀ x, x ∈ l ↔ Rea fs q x) : pof (sb l) 62 = orb fs q := by
 have hp : (pof (sb l) 62).Pairwise (· < ·) := List.Pairwise.filter _ List.pairwise_lt_range
 have hperm : (pof (sb l) 62).Perm (orb fs q) := (List.perm_ext_iff_of_nodup (hp.imp fun h => by omega) (orb_nodup fs q)).2 fun x => by
  rw [orb_mem hf hn hq, pof, List.mem_filter, List.mem_range, sb_test, decide_eq_true_iff, hl]
  exact ⟨fun h => h.2, fun h => ⟨by have := reaLt hf hq h; omega, h⟩⟩
 have := sorted_uniq (hperm.map fun x : Nat => (x : Int)) (nz_sorted hp) (nz_sorted (orb_asc fs q))
 have := congrArg (List.map Int.toNat) this
 rwa [toNat_map, toNat_map] at this
end Go.Proofs.YthbbjbfbeaiphaaGreat
end
section
namespace Go.Proofs.YthbbjbfbeaiphaaGreat
open Go.Kv
set_option maxRecDepth 100000
def k61 : KC := (.seq (.ops [oP 1 (.box true (.t 0)), oP 2 (.mv (.c (.nilf)))])
 (.seq (.ops [oP 3 (.mkfn (.func 130) [] [(.t 1)]), mV 2 3])
 .ret))
theorem e61 : Ent 61 4 [1] [.t 2] k61 := ent Tryz.func61 (by kernel_rfl) (by kernel_rfl) (by kernel_rfl) (fun _ => by kernel_rfl) (by kernel_rfl)
def k128 : KC := (.seq (.ops [oP 2 (.mv (.c (.nils)))])
 (.seq (.ops [mV 3 0, oP 4 (.call (fC 165) [(.c (.nils)), (.t 3)]), mV 2 4])
 .ret))
theorem e128 : Ent 128 5 [] [.t 2] k128 := ent Tryz.func128 (by kernel_rfl) (by kernel_rfl) (by kernel_rfl) (fun _ => by kernel_rfl) (by kernel_rfl)
def k60 : KC := (.seq (.ops [oP 2 (.mv (.c (.nils)))])
 (.seq (.ops [mV 4 0, oP 5 (.call (fC 128) [(.t 4)]), mV 3 5])
 (.seq (.ops [mV 6 3, oP 7 (.call (fC 129) [(.t 6)])])
 (.seq (.ops [mV 8 3, mV 2 8])
 .ret))))
theorem e60 : Ent 60 9 [] [.t 2] k60 := ent Tryz.func60 (by kernel_rfl) (by kernel_rfl) (by kernel_rfl) (fun _ => by kernel_rfl) (by kernel_rfl)
def k81 : KC := (.seq (.ops [oP 4 (.mv (.c (.nils)))])
 (.seq (.ops [mV 5 0, mV 6 1, oP 7 (.call (fC 139) [(.t 5), (.t 6)]), oP 8 (.call (fC 61) [(.t 7)]), oP 9 (.call (fC 60) [(.t 8)]), mV 4 9])
 .ret))
theorem e81 : Ent 81 10 [] [.t 4] k81 := ent Tryz.func81 (by kernel_rfl) (by kernel_rfl) (by kernel_rfl) (fun _ => by kernel_rfl) (by kernel_rfl)
end Go.Proofs.YthbbjbfbeaiphaaGreat
namespace Go.Proofs.YthbbjbfbeaiphaaGreat
open Go.Kv
set_option linter.unusedVariables false
set_option linter.unusedSimpArgs false
attribute [local irreducible] ACall PCall KL
theorem p61 (l : List Int) : Pure Tryz.prog 61 [.list (ints l)] (.fn (.func 130) [] [.fptr [.list (ints l)] 0]) := by
 refine e61 (by simp) fun _ _ => ?_
 simp only [k61, argEnv, go_sem]
 try simp only [OpK_eq, HKv, go_sem]
 exact Kv.Fin.now ⟨rfl, rfl⟩
theorem p128 (l : List Int) (hl : l.length ≤ 1048576) (σ : Heap) (K : PV → Heap → Prop) (hK : K (.ref σ.length 0 0 l.length) (σ ++ [.arr 0 2 1 (ints l)])) :
  ACall Tryz.prog 128 [.fn (.func 130) [] [.fptr [.list (ints l)] 0]] σ K := by
 refine e128 (by simp) fun _ _ => ?_
 simp only [k128, argEnv, go_sem]
 refine p165 l hl σ _ ?_
 try simp only [OpK_eq, HKv, go_sem]
 exact Kv.Fin.now hK
theorem p60 (l : List Int) (hl : l.length ≤ 12) (σ : Heap) (K : PV → Heap → Prop) (hK : ∀ r : List Int, r.Perm l → r.Pairwise (· ≤ ·) → K (.ref σ.length 0 0 l.length) (σ ++ [.arr 0 2 1 (ints r)])) :
  ACall Tryz.prog 60 [.fn (.func 130) [] [.fptr [.list (ints l)] 0]] σ K := by
 refine e60 (by simp) fun _ _ => ?_
 simp only [k60, argEnv, go_sem]
 refine p128 l (by omega) σ _ ?_
 try simp only [OpK_eq, HKv, go_sem]
 refine p129 _ σ.length 0 2 l (by simp) hl fun r h1 h2 => ?_
 rw [List.set_append_right _ _ (Nat.le_refl _), Nat.sub_self]
 try simp only [OpK_eq, HKv, go_sem]
 exact Kv.Fin.now (hK r h1 h2)
theorem p81 (fs : List (List Nat)) (n : Nat) (hf : ∀ f ∈ fs, Ok f n) (hn5 : n ≤ 5) (hfl : fs.length ≤ 1000) (q : Nat) (hq : q < n) :
  ACall Tryz.prog 81 [.list (aggs (fs.map mp)), .int .i64 q] [] (fun v s => v = .ref 0 0 0 (orb fs q).length ∧ s = [.arr 0 2 1 (ints (nz (orb fs q)))]) := by
 refine e81 (by simp) fun _ _ => ?_
 simp only [k81, argEnv, go_sem]
 refine p139 fs n hf hfl q hq 5 (by omega) (fun i => Nat.le_trans (bl_len hf hq i) hn5) _ fun i hi => ?_
 try simp only [OpK_eq, HKv, go_sem]
 refine (p61 (rch fs q i)).go ?_
 try simp only [OpK_eq, HKv, go_sem]
 have hp := rch_perm hf hn5 hq hi
 have hlen := hp.length_eq
 have h5 := orb_len fs q
 rw [nz_len] at hlen
 refine p60 (rch fs q i) (by omega) [] _ fun r h1 h2 => ?_
 rw [rch_srt hf hn5 hq hi h1 h2, hlen]
 try simp only [OpK_eq, HKv, go_sem]
 exact Kv.Fin.now ⟨rfl, rfl⟩
theorem p84P (fs : List (List Nat)) (n : Nat) (hf : ∀ f ∈ fs, Ok f n) (hn5 : n ≤ 5) (hfl : fs.length ≤ 1000) (q : Nat) (hq : q < n) : Pure Tryz.prog 84 [.list (aggs (fs.map mp)), .int .i64 q] (.int .i64 (sb (orb fs q))) :=
 p84 fs n hf hn5 hfl q hq _ fun l hl => ⟨by rw [sb_ext fun x => (hl x).trans (orb_mem hf hn5 hq x).symm], rfl⟩
end Go.Proofs.YthbbjbfbeaiphaaGreat
end
end
section
namespace Go.Proofs.YthbbjbfbeaiphaaGreat
open Go.Kv
set_option maxRecDepth 100000
def k141 : KC := (.seq (.ops [oP 4 (.mv (.c (.bool false)))])
 (.seq (.ops [mV 5 0, mV 6 1, oP 7 (.call (fC 172) [(.t 5), (.t 6)]), oP 8 (.bin .geq (.t 7) (iC 0)), mV 4 8])
 .ret))
theorem e141 : Ent 141 9 [] [.t 4] k141 := ent Tryz.func141 (by kernel_rfl) (by kernel_rfl) (by kernel_rfl) (fun _ => by kernel_rfl) (by kernel_rfl)
def k85_b0 : KC := (.seq (.ops [oP 11 (.bin .lss (.t 10) (.t 9))])
 (.seq (.cond (.t 11) .skip (.exit 0))
 (.seq (.block 1 (.seq (.ops [mV 12 10, oP 4 (.alloc [.int .i64 0]), ⟨none, none, .store 1 (.t 4) (.t 12)⟩])
 (.seq (.ops [oP 13 (.load false 1 (.t 1)), oP 14 (.load false 1 (.t 4)), oP 15 (.call (fC 81) [(.t 13), (.t 14)]), oP 16 (.mkfn (.func 140) [] [(.t 1), (.t 4)]), oP 17 (.call (fC 87) [(.t 15), (.t 16)]), mV 5 17])
 (.seq (.draw [mV 18 5, oP 19 (.idxS 1 (.t 18) (iC 0)), oP 20 (.load false 1 (.t 19)), oP 21 (.load false 1 (.t 4)), oP 22 (.bin .eql (.t 20) (.t 21))])
 (.cond (.t 22) (.ops [mV 23 3, mV 24 5, oP 25 (.bsl true 27 1 [(.t 24)]), oP 26 (.app (.t 23) (.t 25) 27 1), mV 3 26]) .skip)))))
 (.ops [oP 27 (.bin .add (.t 10) (iC 1)), mV 10 27]))))
def k85 : KC := (.seq (.ops [oP 1 (.box true (.t 0)), oP 2 (.mv (.c (.nils)))])
 (.seq (.ops [oP 3 (.mv (.c (.nils)))])
 (.seq (.seq (.ops [oP 6 (.load false 1 (.t 1)), oP 7 (.idxS 6 (.t 6) (iC 0)), oP 8 (.fieldA 0 (.t 7)), oP 9 (.load false 1 (.t 8)), oP 10 (.mv (iC 0))])
 (.block 0 (.loop k85_b0)))
 (.seq (.ops [mV 28 3, mV 2 28])
 .ret))))
theorem e85 : Ent 85 29 [1, 25] [.t 2] k85 := ent Tryz.func85 (by kernel_rfl) (by kernel_rfl) (by kernel_rfl) (fun _ => by kernel_rfl) (by kernel_rfl)
def k140 : KC := (.seq (.ops [oP 4 (.mv (.c (.bool false)))])
 (.seq (.draw [oP 5 (.load false 1 (.t 1)), mV 6 0, oP 8 (.load false 1 (.t 2)), oP 7 (.pcall (fC 81) [(.t 5), (.t 6)]), oP 9 (.pcall (fC 141) [(.t 7), (.t 8)]), oP 10 (.not (.t 9)), mV 4 10])
 .ret))
theorem e140 : Ent 140 11 [] [.t 4] k140 := ent Tryz.func140 (by kernel_rfl) (by kernel_rfl) (by kernel_rfl) (fun _ => by kernel_rfl) (by kernel_rfl)
end Go.Proofs.YthbbjbfbeaiphaaGreat
namespace Go.Proofs.YthbbjbfbeaiphaaGreat
open Go.Kv
set_option linter.unusedVariables false
set_option linter.unusedSimpArgs false
attribute [local irreducible] ACall PCall KL
theorem p141 (l : List Int) (k : Int) (hl : l.length ≤ 1048576) : Pure Tryz.prog 141 [.list (ints l), .int .i64 k] (.bool (decide (k ∈ l))) := by
 refine e141 (by simp) fun _ _ => ?_
 simp only [k141, argEnv, go_sem]
 refine (p172 l k hl).go ?_
 try simp only [OpK_eq, HKv, go_sem]
 refine Kv.Fin.still ⟨?_, rfl⟩
 congr 1
 cases hany : l.any (fun y => decide (k = y)) with
 | false =>
  rw [idx_none hany, decide_eq_false (by omega), decide_eq_false]
  intro h
  rw [List.any_eq_false] at hany
  exact hany k h (by simp)
 | true =>
  obtain ⟨i0, hi0, hno, hyes⟩ := any_split hany
  rw [idx_some hi0 hno hyes, decide_eq_true (by omega), decide_eq_true]
  have : k = l[i0] := by simpa using hyes
  rw [this]; exact List.getElem_mem _
theorem p81F (fs : List (List Nat)) (n : Nat) (hf : ∀ f ∈ fs, Ok f n) (hn5 : n ≤ 5) (hfl : fs.length ≤ 1000) (q : Nat) (hq : q < n) : Pure Tryz.prog 81 [.list (aggs (fs.map mp)), .int .i64 q] (.list (ints (nz (orb fs q)))) :=
 ACall.ret (p81 fs n hf hn5 hfl q hq) fun v s ⟨hv, hs⟩ => by
  subst hv; subst hs
  exact Kv.Fin.freeze (Imm.refn rfl (nz_len _).symm) ⟨rfl, rfl⟩
theorem nz_mem (l : List Nat) (x : Nat) : (x : Int) ∈ nz l ↔ x ∈ l := by
  unfold nz
  rw [List.mem_map]
  exact ⟨fun ⟨y, h, e⟩ => by have : y = x := by omega
                             rwa [this] at h, fun h => ⟨x, h, rfl⟩⟩
theorem delOn {σ : Heap} {id ver : Nat} {l : List Int} (hid : σ[id]? = some (.arr ver 2 1 (ints l))) (hl : l.length ≤ 4294967296) (fid : FuncId) (caps caps' : List PV) (hi : ImmL (σ.set id .dead) caps caps') (hu : ∀ c ∈ caps', PV.upto 0 c) (p : Int → Bool) (hp : ∀ x ∈ l, Pure Tryz.prog fid (.int .i64 x :: caps') (.bool (p x))) {K : PV → Heap → Prop}
  (hK : ∀ post, K (.ref id ver 0 (l.filter fun x => !p x).length) (σ.set id (.arr ver 2 1 (ints ((l.filter fun x => !p x) ++ post))))) : ACall Tryz.prog 87 [.ref id ver 0 l.length, .fn (.func fid) [] caps] σ K := by
 refine ACall.lendOn hid (fun c hc => flat_intsP c hc) (p87 ver l hl fid caps' hu p hp) rfl (fun i c d hc hd => ?_) (fun v s ⟨hv, post, hs⟩ => ?_)
 ·rcases i with _ | _ | i
  ·simp only [List.getElem?_cons_zero, Option.some.injEq] at hc hd; subst hc; subst hd
   exact .inr ⟨_, _, _, rfl, rfl⟩
  ·simp only [List.getElem?_cons_succ, List.getElem?_cons_zero, Option.some.injEq] at hc hd; subst hc; subst hd
   exact .inl (Imm.fnc _ hi)
  ·simp at hc
 ·subst hv; subst hs
  refine ⟨_, _, rfl, ⟨free_ref _ _ _ _, Free.ints _ _ _ _⟩, ?_⟩
  simp only [ren_ref, ren_arr, ren_ints, List.map_nil, List.append_nil]
  exact hK post
theorem Imm.ptr1 {σ : Heap} {id : Nat} {c : PV} (h : σ[id]? = some (.box [c])) (hok : c.ok = true) (hc : Imm σ c c) : Imm σ (.ptr id 0) (.fptr [c] 0) :=
 .ptr id 0 [c] [c] h rfl (by simpa using hok) fun i a b ha hb => by
  cases i with
  | zero => simp at ha hb; subst ha; subst hb; exact hc
  | succ i => simp at ha
open Classical in
theorem p140 (fs : List (List Nat)) (n : Nat) (hf : ∀ f ∈ fs, Ok f n) (hn5 : n ≤ 5) (hfl : fs.length ≤ 1000) (q x : Nat) (hq : q < n) : Pure Tryz.prog 140 [.int .i64 q, .fptr [.list (aggs (fs.map mp))] 0, .fptr [.int .i64 x] 0] (.bool (!decide (Rea fs q x))) := by
 have h5 := orb_len fs q
 refine e140 (by simp) fun _ _ => ?_
 simp only [k140, argEnv, go_sem]
 refine (p81F fs n hf hn5 hfl q hq).fgo ?_
 try simp only [OpK_eq, HKv, go_sem]
 refine (p141 (nz (orb fs q)) x (by rw [nz_len]; omega)).pgo ?_
 try simp only [OpK_eq, HKv, go_sem]
 refine Kv.Fin.still ⟨?_, rfl⟩
 congr 2
 exact decide_eq_decide.2 ((nz_mem _ _).trans (orb_mem hf hn5 hq x))
open Classical in
noncomputable def prtL (fs : List (List Nat)) (p : Nat) : List Nat := (orb fs p).filter fun q => decide (Rea fs q p)
open Classical in
noncomputable def repS (fs : List (List Nat)) (p : Nat) : Bool := decide (∀ q, q < p → ¬ (Rea fs p q ∧ Rea fs q p))
noncomputable def strong (fs : List (List Nat)) (x : Nat) : List (List Int) := ((List.range x).filter (repS fs)).map fun p => nz (prtL fs p)
theorem strong_succ (fs : List (List Nat)) (x : Nat) : strong fs (x + 1) = strong fs x ++ if repS fs x = true then [nz (prtL fs x)] else [] := by
 unfold strong
 rw [List.range_succ, List.filter_append, List.map_append]
 congr 1
 by_cases h : repS fs x = true <;> simp [h]
theorem strong_len (fs : List (List Nat)) (x : Nat) : (strong fs x).length ≤ x := by
 have := List.length_filter_le (repS fs) (List.range x)
 simpa [strong] using this
open Classical in
theorem prtL_mem {fs : List (List Nat)} {n p : Nat} (hf : ∀ f ∈ fs, Ok f n) (hn : n ≤ 5) (hp : p < n) (q : Nat) : q ∈ prtL fs p ↔ Rea fs p q ∧ Rea fs q p := by
 unfold prtL
 rw [List.mem_filter, orb_mem hf hn hp, decide_eq_true_iff]
open Classical in
theorem prtL_asc (fs : List (List Nat)) (p : Nat) : (prtL fs p).Pairwise (· < ·) := List.Pairwise.filter _ (orb_asc fs p)
open Classical in
theorem prtL_len (fs : List (List Nat)) (p : Nat) : (prtL fs p).length ≤ 5 := by
 have := List.length_filter_le (fun q => decide (Rea fs q p)) (orb fs p)
 have := orb_len fs p
 unfold prtL; omega
theorem prtL_pos {fs : List (List Nat)} {n p : Nat} (hf : ∀ f ∈ fs, Ok f n) (hn : n ≤ 5) (hp : p < n) : 0 < (prtL fs p).length :=
 List.length_pos_of_mem ((prtL_mem hf hn hp p).2 ⟨.here, .here⟩)
open Classical in
theorem prtL_zero {fs : List (List Nat)} {n p : Nat} (hf : ∀ f ∈ fs, Ok f n) (hn : n ≤ 5) (hp : p < n) : ((nz (prtL fs p)).getD 0 0 = (p : Int)) ↔ repS fs p = true := by
 have hpos := prtL_pos hf hn hp
 have e : (nz (prtL fs p)).getD 0 0 = ((prtL fs p)[0] : Int) := by simp [nz, List.getD_eq_getElem?_getD, hpos]
 rw [e]
 have hmem := (prtL_mem hf hn hp (prtL fs p)[0]).1 (List.getElem_mem _)
 have hle : ∀ q ∈ prtL fs p, (prtL fs p)[0] ≤ q := fun q hq => by
  obtain ⟨i, hi, rfl⟩ := List.getElem_of_mem hq
  by_cases h0 : i = 0
  ·subst h0; exact Nat.le_refl _
  ·have := (List.pairwise_iff_getElem.1 (prtL_asc fs p)) 0 i hpos hi (by omega)
   omega
 have hpp := hle p ((prtL_mem hf hn hp p).2 ⟨.here, .here⟩)
 unfold repS
 rw [decide_eq_true_iff]
 constructor
 ·intro h q hq hm
  have := hle q ((prtL_mem hf hn hp q).2 hm)
  omega
 ·intro h
  rcases Nat.lt_or_ge (prtL fs p)[0] p with h1 | h1
  ·exact absurd hmem (h _ h1)
  ·omega
open Classical in
theorem filter_nz (fs : List (List Nat)) (x : Nat) : (nz (orb fs x)).filter (fun y => !(!decide (Rea fs y.toNat x))) = nz (prtL fs x) := by
 unfold nz prtL
 rw [List.filter_map]
 congr 1
 refine List.filter_congr fun q _ => ?_
 simp
open Classical in
theorem p85 (fs : List (List Nat)) (n : Nat) (h1 : 1 ≤ n) (hn5 : n ≤ 5) (hf : ∀ f ∈ fs, Ok f n) (h0 : 0 < fs.length) (hfl : fs.length ≤ 1000) : ACall Tryz.prog 85 [.list (aggs (fs.map mp))] [] (fun v s => TabN 27 2 s v (strong fs n) ∧ Free s) := by
 have hk := hf _ (List.getElem_mem h0)
 have h6k := hk.mp_len
 have hlen := hk.len
 refine e85 (by simp) fun _ _ => ?_
 simp only [k85, argEnv, go_sem]
 try simp only [map_getD h0, h6k, hlen, List.length_map, go_sem]
 refine ⟨by omega, fun _ => ?_⟩
 refine KL_ind k85_b0.eq_1 (fun x : Nat × PV × Heap => [(1, .fptr [.list (aggs (fs.map mp))] 0), (3, x.2.1), (9, .int .i64 n), (10, .int .i64 x.1)]) (fun x => x.2.2) (fun x => x.1 ≤ n ∧ TabN 27 2 x.2.2 x.2.1 (strong fs x.1) ∧ Free x.2.2) (fun x => n - x.1) [1, 3, 9, 10] (0, .nils, []) (by simp [keep]) rfl ⟨Nat.zero_le _, .nil, .nil⟩ fun ⟨x, v, σ⟩ ⟨hx, hT, hfr⟩ ih => ?_
 simp only at hx hT hfr
 have hsl := strong_len fs x
 have hss := strong_succ fs x
 try simp only [OpK_eq, HKv, go_sem]
 refine ⟨fun h2 => ?_, fun h2 => ?_⟩
 ·have hxn : x < n := by omega
  have hpos := prtL_pos hf hn5 hxn
  have hz := prtL_zero hf hn5 hxn
  have hsetb : ∀ a b : AObj, (σ ++ [a]).set σ.length b = σ ++ [b] := fun a b => by simp [List.set_append_right]
  have hgetb : ∀ a : AObj, (σ ++ [a])[σ.length]? = some a := fun a => by simp
  have hput : ∀ v, putC [PV.int .i64 0] 0 [v] = [v] := fun v => by unfold putC; first | rfl | (split <;> rfl) | simp
  try simp only [OpK_eq, HKv, hsetb, hgetb, hput, go_sem]
  have hbl : (σ ++ [AObj.box [PV.int .i64 x]]).length = σ.length + 1 := by simp
  have hbx : (σ ++ [AObj.box [PV.int .i64 x]])[σ.length]? = some (.box [.int .i64 x]) := hgetb _
  have hTb := hT.append [AObj.box [PV.int .i64 x]]
  have hfb : Free (σ ++ [AObj.box [PV.int .i64 x]]) := hfr.append (Free.boxI [(x : Int)])
  clear hsetb hgetb
  generalize hσb : σ ++ [AObj.box [PV.int .i64 x]] = σb at *
  clear hσb
  refine (p81 fs n hf hn5 hfl x hxn).go fun v1 s1 ⟨hv1, hs1⟩ => ?_
  subst hv1; subst hs1
  have hself : ∀ a : AObj, (σb ++ [a])[σb.length]? = some a := fun a => by simp
  have hset : ∀ a b : AObj, (σb ++ [a]).set σb.length b = σb ++ [b] := fun a b => by simp [List.set_append_right]
  have hold : ∀ a : AObj, (σb ++ [a])[σ.length]? = some (.box [.int .i64 x]) := fun a => by rw [List.getElem?_append_left (by omega)]; exact hbx
  try simp only [OpK_eq, HKv, ren_ref, ren_arr, ren_ints, go_sem]
  rw [← nz_len (orb fs x)]
  refine delOn (hself _) (by rw [nz_len]; have := orb_len fs x; omega) 140 _ [.fptr [.list (aggs (fs.map mp))] 0, .fptr [.int .i64 x] 0] (.cons Imm.still (.cons (Imm.ptr1 ?_ rfl Imm.still) (.nil _))) (StillL.up inferInstance) (fun y => !decide (Rea fs y.toNat x)) (fun y hy => ?_) fun post => ?_
  ·rw [hset]; exact hold _
  ·obtain ⟨z, hz', rfl⟩ := List.mem_map.1 (show y ∈ (orb fs x).map (fun x : Nat => (x : Int)) from hy)
   exact p140 fs n hf hn5 hfl z x (reaLt hf hxn ((orb_mem hf hn5 hxn z).1 hz'))
  rw [hset, filter_nz, nz_len]
  have hg0 : (nz (prtL fs x) ++ post).getD 0 0 = (nz (prtL fs x)).getD 0 0 := by
   rw [List.getD_eq_getElem?_getD, List.getD_eq_getElem?_getD, List.getElem?_append_left (by rw [nz_len]; exact hpos)]
  try simp only [OpK_eq, HKv, hself, hold, go_sem]
  have hlp := prtL_len fs x
  have hnl := nz_len (prtL fs x)
  rw [hg0]
  refine ⟨⟨by omega, by omega⟩, by omega, fun _ => ⟨fun h3 => ?_, fun h3 => ?_⟩⟩
  ·rw [hz] at h3
   rw [if_pos h3] at hss
   have e : nz (prtL fs x) ++ post = [] ++ nz (prtL fs x) ++ post := rfl
   rw [e]
   refine TabN.pushNew (pre := []) (l := nz (prtL fs x)) (post := post) (vr := 0) (o := 0) hTb hfb rfl rfl (by omega) fun v2 σ2 q1 q2 => ?_
   rw [← hss] at q1
   try simp only [OpK_eq, HKv, go_sem]
   exact ⟨by omega, ih (x + 1, v2, σ2) ⟨by show x + 1 ≤ n; omega, q1, q2⟩ (by show n - (x + 1) < n - x; omega) _ _ (by simp [keep]) rfl⟩
  ·rw [hz] at h3
   rw [if_neg h3, List.append_nil] at hss
   exact ⟨by omega, ih (x + 1, v, σb ++ [.arr 0 2 1 (ints (nz (prtL fs x) ++ post))]) ⟨by show x + 1 ≤ n; omega, by rw [hss]; exact hTb.append _, hfb.append (Free.ints _ _ _ _)⟩ (by show n - (x + 1) < n - x; omega) _ _ (by simp [keep]) rfl⟩
 ·obtain rfl : x = n := by omega
  exact Kv.Fin.now ⟨hT, hfr⟩
end Go.Proofs.YthbbjbfbeaiphaaGreat
end
section
namespace Go.Proofs.YthbbjbfbeaiphaaGreat
open Go.Kv
set_option maxRecDepth 100000
def k108_b0 : KC := (.seq (.seq (.ops [mV 16 6, mV 17 0, oP 18 (.len false (.t 17)), oP 19 (.bin .lss (.t 16) (.t 18))])
 (.cond (.t 19) .skip (.exit 0)))
 (.seq (.block 1 (.seq (.ops [mV 22 0, mV 23 6, oP 24 (.idxS 1 (.t 22) (.t 23)), oP 25 (.load false 1 (.t 24)), mV 7 25])
 (.seq (.ops [mV 26 1, mV 27 7, oP 28 (.call (.t 26) [(.t 27)]), oP 29 (.not (.t 28))])
 (.cond (.t 29) (.seq (.ops [mV 30 0, mV 31 5, mV 32 7, oP 33 (.idxS 1 (.t 30) (.t 31)), ⟨none, none, .store 1 (.t 33) (.t 32)⟩])
 (.ops [mV 34 5, oP 35 (.bin .add (.t 34) (iC 1)), mV 5 35])) .skip))))
 (.ops [mV 20 6, oP 21 (.bin .add (.t 20) (iC 1)), mV 6 21])))
def k108 : KC := (.seq (.ops [oP 4 (.mv (.c (.nils)))])
 (.seq (.ops [mV 8 0, mV 9 1, oP 10 (.call (fC 155) [(.t 8), (.t 9)]), mV 5 10])
 (.seq (.seq (.ops [mV 11 5, oP 12 (.bin .eql (.t 11) (iC (-1)))])
 (.cond (.t 12) (.seq (.ops [mV 13 0, mV 4 13])
 .ret) .skip))
 (.seq (.seq (.ops [mV 14 5, oP 15 (.bin .add (.t 14) (iC 1)), mV 6 15])
 (.block 0 (.loop k108_b0)))
 (.seq (.ops [mV 36 0, mV 37 5, oP 38 (.sls 1 (.t 36) (some (.t 37)) none), ⟨none, none, .clr 1 (.nils) (.t 38)⟩])
 (.seq (.ops [mV 39 0, mV 40 5, oP 41 (.sls 1 (.t 39) none (some (.t 40))), mV 4 41])
 .ret))))))
theorem e108 : Ent 108 42 [] [.t 4] k108 := ent Tryz.func108 (by kernel_rfl) (by kernel_rfl) (by kernel_rfl) (fun _ => by kernel_rfl) (by kernel_rfl)
end Go.Proofs.YthbbjbfbeaiphaaGreat
namespace Go.Proofs.YthbbjbfbeaiphaaGreat
open Go.Kv
set_option linter.unusedVariables false
set_option linter.unusedSimpArgs false
attribute [local irreducible] ACall PCall KL
def cv (c : Rw × List Int) : PV := c.1.pv c.2
theorem cv_cases (c : Rw × List Int) : cv c = .nils ∨ ∃ a b d e, cv c = .ref a b d e := pv_cases c.1 c.2
theorem cv_cs (c : Rw × List Int) : (cv c).cs = [cv c] := by rcases cv_cases c with e | ⟨a, b, d, f, e⟩ <;> rw [e] <;> rfl
theorem cv_ok (c : Rw × List Int) : [cv c].all PV.ok = true := by rcases cv_cases c with e | ⟨a, b, d, f, e⟩ <;> rw [e] <;> rfl
theorem cv_put (c : Rw × List Int) (o : Nat) (y : PV) : putE (cv c) o y = y := by rcases cv_cases c with e | ⟨a, b, d, f, e⟩ <;> rw [e] <;> rfl
theorem cv_free (c : Rw × List Int) : (cv c).free := by
 rcases cv_cases c with e | ⟨a, b, d, f, e⟩ <;> rw [e]
 ·exact Plain.nils.fr
 ·exact free_ref _ _ _ _
theorem pvs_zip (rs : List Rw) (t : List (List Int)) : pvs rs t = (rs.zip t).map cv := by
 unfold pvs; rw [List.zip_eq_zipWith, List.map_zipWith]; rfl
theorem pvs_unzip (Z : List (Rw × List Int)) : pvs (Z.map Prod.fst) (Z.map Prod.snd) = Z.map cv := by
 rw [pvs_zip]
 congr 1
 exact (List.zip_of_prod rfl rfl).symm
variable {e2 e1 : TypeId} {σ : Heap} {id ver : Nat}
theorem tab_sub {Z : List (Rw × List Int)} (h : TabG e2 e1 σ id ver (Z.map Prod.fst) (Z.map Prod.snd)) {Y : List (Rw × List Int)} (hs : Y.Sublist Z) (junk : List PV) :
  TabG e2 e1 (σ.set id (.arr ver e2 1 (Y.map cv ++ junk))) id ver (Y.map Prod.fst) (Y.map Prod.snd) where
 out := ⟨junk, by rw [List.getElem?_set_self h.lt.1, pvs_unzip]⟩
 len := by simp
 row := fun i r l hr hl => by
  simp only [List.getElem?_map, Option.map_eq_some_iff] at hr hl
  obtain ⟨y, hy, rfl⟩ := hr
  obtain ⟨y', hy', rfl⟩ := hl
  rw [hy] at hy'; cases hy'
  obtain ⟨k, hk⟩ := List.getElem?_of_mem (hs.subset (List.mem_of_getElem? hy))
  have h1 := h.row k y.1 y.2 (by simp [hk]) (by simp [hk])
  exact h1.keep fun hn => List.getElem?_set_ne (Ne.symm (h.ni y.1 (List.mem_map.2 ⟨y, hs.subset (List.mem_of_getElem? hy), rfl⟩) hn))
 nd := by
  have hp : (Z.map Prod.fst).Pairwise (fun r q => r.nil = false → q.nil = false → r.id ≠ q.id) := by
   rw [List.pairwise_iff_getElem]
   intro i j hi hj hij h1 h2 h3
   have := h.nd i j _ _ (List.getElem?_eq_getElem hi) (List.getElem?_eq_getElem hj) h1 h2 h3
   omega
  have hp2 := hp.sublist (hs.map Prod.fst)
  rw [List.pairwise_iff_getElem] at hp2
  intro i j r q hr hq h1 h2 h3
  obtain ⟨hi, rfl⟩ := List.getElem?_eq_some_iff.1 hr
  obtain ⟨hj, rfl⟩ := List.getElem?_eq_some_iff.1 hq
  refine Decidable.byContradiction fun hne => ?_
  rcases Nat.lt_or_gt_of_ne hne with hlt | hlt
  ·exact hp2 i j hi hj hlt h1 h2 h3
  ·exact hp2 j i hj hi hlt h2 h1 h3.symm
 ni := fun r hr hn => h.ni r ((hs.map Prod.fst).subset hr) hn
theorem HKr (σ : Heap) (K : PV → Heap → Prop) (v : PV) : HK σ K v = K v σ := rfl
theorem tab_zip {rs : List Rw} {t : List (List Int)} (h : TabG e2 e1 σ id ver rs t) : ∃ Z : List (Rw × List Int), rs = Z.map Prod.fst ∧ t = Z.map Prod.snd :=
 ⟨rs.zip t, (List.map_fst_zip (by rw [h.len]; exact Nat.le_refl _)).symm, (List.map_snd_zip (by rw [h.len]; exact Nat.le_refl _)).symm⟩
end Go.Proofs.YthbbjbfbeaiphaaGreat
end
section

end
section
namespace Go.Proofs.YthbbjbfbeaiphaaGreat
open Go.Kv
set_option maxRecDepth 100000
def k86_b0 : KC := (.seq (.seq (.ops [mV 29 9, mV 30 3, oP 31 (.bin .lss (.t 29) (.t 30))])
 (.cond (.t 31) .skip (.exit 2)))
 (.seq (.block 3 (.seq (.ops [mV 34 8, mV 35 9, oP 36 (.conv .u64 (.t 35)), oP 37 (.bin .shr (.t 34) (.t 36)), oP 38 (.bin .and (.t 37) (iC 1)), oP 39 (.bin .eql (.t 38) (iC 1)), mV 40 39, ⟨(some 41), some (40, true), .mv (.t 0)⟩, ⟨(some 42), some (40, true), .mv (.t 9)⟩, ⟨(some 43), some (40, true), .call (fC 84) [(.t 41), (.t 42)]⟩, ⟨(some 44), some (40, true), .mv (.t 6)⟩, ⟨(some 45), some (40, true), .conv .u64 (.t 44)⟩, ⟨(some 46), some (40, true), .bin .shr (.t 43) (.t 45)⟩, ⟨(some 47), some (40, true), .bin .and (.t 46) (iC 1)⟩, ⟨(some 48), some (40, true), .bin .eql (.t 47) (iC 1)⟩, oP 49 (.pick (.t 40) (.t 48) (.c (.bool false)))])
 (.cond (.t 49) (.ops [mV 50 7, mV 51 9, oP 52 (.conv .u64 (.t 51)), oP 53 (.bin .shl (iC 1) (.t 52)), oP 54 (.bin .or (.t 50) (.t 53)), mV 7 54]) .skip)))
 (.ops [mV 32 9, oP 33 (.bin .add (.t 32) (iC 1)), mV 9 33])))
def k86_b1 : KC := (.seq (.seq (.ops [mV 15 6, mV 16 3, oP 17 (.bin .lss (.t 15) (.t 16))])
 (.cond (.t 17) .skip (.exit 0)))
 (.seq (.block 1 (.seq (.seq (.ops [mV 20 4, mV 21 6, oP 22 (.conv .u64 (.t 21)), oP 23 (.bin .shr (.t 20) (.t 22)), oP 24 (.bin .and (.t 23) (iC 1)), oP 25 (.bin .eql (.t 24) (iC 1))])
 (.cond (.t 25) (.exit 1) .skip))
 (.seq (.ops [mV 26 0, mV 27 6, oP 28 (.call (fC 84) [(.t 26), (.t 27)]), oP 7 (.mv (iC 0)), mV 8 28])
 (.seq (.seq (.ops [oP 9 (.mv (iC 0))])
 (.block 2 (.loop k86_b0)))
 (.seq (.ops [mV 55 4, mV 56 7, oP 57 (.bin .or (.t 55) (.t 56)), mV 4 57])
 (.ops [mV 58 5, mV 59 7, oP 60 (.bsl true 2 1 [(.t 59)]), oP 61 (.app (.t 58) (.t 60) 2 1), mV 5 61]))))))
 (.ops [mV 18 6, oP 19 (.bin .add (.t 18) (iC 1)), mV 6 19])))
def k86 : KC := (.seq (.ops [oP 2 (.mv (.c (.nils)))])
 (.seq (.ops [mV 10 0, oP 11 (.idxS 6 (.t 10) (iC 0)), oP 12 (.fieldA 0 (.t 11)), oP 13 (.load false 1 (.t 12)), oP 14 (.bsl false 2 1 []), mV 3 13, oP 4 (.mv (iC 0)), mV 5 14])
 (.seq (.seq (.ops [oP 6 (.mv (iC 0))])
 (.block 0 (.loop k86_b1)))
 (.seq (.ops [mV 62 5, mV 2 62])
 .ret))))
theorem e86 : Ent 86 63 [60] [.t 2] k86 := ent Tryz.func86 (by kernel_rfl) (by kernel_rfl) (by kernel_rfl) (fun _ => by kernel_rfl) (by kernel_rfl)
def k30_b0 : KC := (.seq (.seq (.ops [mV 16 7, mV 17 5, oP 18 (.len false (.t 17)), oP 19 (.bin .lss (.t 16) (.t 18))])
 (.cond (.t 19) .skip (.exit 0)))
 (.seq (.block 1 (.ops [mV 22 6, mV 23 5, mV 24 7, oP 25 (.idxS 1 (.t 23) (.t 24)), oP 26 (.load false 1 (.t 25)), oP 27 (.call (fC 83) [(.t 26)]), oP 28 (.bsl true 27 1 [(.t 27)]), oP 29 (.app (.t 22) (.t 28) 27 1), mV 6 29]))
 (.ops [mV 20 7, oP 21 (.bin .add (.t 20) (iC 1)), mV 7 21])))
def k30 : KC := (.seq (.ops [oP 2 (.mv (.c (.nils))), oP 3 (.mv (iC 0))])
 (.seq (.seq (.ops [mV 8 0, oP 9 (.call (fC 74) [(.t 8), (.c (.nils))]), mV 4 9])
 (.seq (.ops [mV 10 4, oP 11 (.bin .neq (.t 10) (iC 0))])
 (.cond (.t 11) (.seq (.ops [mV 12 4, oP 2 (.mv (.c (.nils))), mV 3 12])
 .ret) .skip)))
 (.seq (.ops [mV 13 0, oP 14 (.call (fC 86) [(.t 13)]), oP 15 (.bsl false 27 1 []), mV 5 14, mV 6 15])
 (.seq (.seq (.ops [oP 7 (.mv (iC 0))])
 (.block 0 (.loop k30_b0)))
 (.seq (.ops [mV 30 6, mV 2 30, oP 3 (.mv (iC 0))])
 .ret)))))
theorem e30 : Ent 30 31 [28] [.t 2, .t 3] k30 := ent Tryz.func30 (by kernel_rfl) (by kernel_rfl) (by kernel_rfl) (fun _ => by kernel_rfl) (by kernel_rfl)
def k29 : KC := (.seq (.ops [oP 2 (.mv (.c (.nils))), oP 3 (.mv (iC 0))])
 (.seq (.seq (.ops [mV 5 0, oP 6 (.call (fC 72) [(.t 5), (.c (.nils))]), mV 4 6])
 (.seq (.ops [mV 7 4, oP 8 (.bin .neq (.t 7) (iC 0))])
 (.cond (.t 8) (.seq (.ops [mV 9 4, oP 2 (.mv (.c (.nils))), mV 3 9])
 .ret) .skip)))
 (.seq (.ops [mV 10 0, oP 11 (.call (fC 85) [(.t 10)]), mV 2 11, oP 3 (.mv (iC 0))])
 .ret)))
theorem e29 : Ent 29 12 [] [.t 2, .t 3] k29 := ent Tryz.func29 (by kernel_rfl) (by kernel_rfl) (by kernel_rfl) (fun _ => by kernel_rfl) (by kernel_rfl)
def k31 : KC := (.seq (.ops [oP 2 (.mv (.c (.bool false))), oP 3 (.mv (iC 0))])
 (.seq (.seq (.ops [mV 5 0, oP 6 (.call (fC 72) [(.t 5), (.c (.nils))]), mV 4 6])
 (.seq (.ops [mV 7 4, oP 8 (.bin .neq (.t 7) (iC 0))])
 (.cond (.t 8) (.seq (.ops [mV 9 4, oP 2 (.mv (.c (.bool false))), mV 3 9])
 .ret) .skip)))
 (.seq (.ops [mV 10 0, oP 11 (.call (fC 85) [(.t 10)]), oP 12 (.len false (.t 11)), oP 13 (.bin .eql (.t 12) (iC 1)), mV 2 13, oP 3 (.mv (iC 0))])
 .ret)))
theorem e31 : Ent 31 14 [] [.t 2, .t 3] k31 := ent Tryz.func31 (by kernel_rfl) (by kernel_rfl) (by kernel_rfl) (fun _ => by kernel_rfl) (by kernel_rfl)
def k32 : KC := (.seq (.ops [oP 2 (.mv (.c (.bool false))), oP 3 (.mv (iC 0))])
 (.seq (.seq (.ops [mV 5 0, oP 6 (.call (fC 74) [(.t 5), (.c (.nils))]), mV 4 6])
 (.seq (.ops [mV 7 4, oP 8 (.bin .neq (.t 7) (iC 0))])
 (.cond (.t 8) (.seq (.ops [mV 9 4, oP 2 (.mv (.c (.bool false))), mV 3 9])
 .ret) .skip)))
 (.seq (.ops [mV 10 0, oP 11 (.call (fC 86) [(.t 10)]), oP 12 (.len false (.t 11)), oP 13 (.bin .eql (.t 12) (iC 1)), mV 2 13, oP 3 (.mv (iC 0))])
 .ret)))
theorem e32 : Ent 32 14 [] [.t 2, .t 3] k32 := ent Tryz.func32 (by kernel_rfl) (by kernel_rfl) (by kernel_rfl) (fun _ => by kernel_rfl) (by kernel_rfl)
end Go.Proofs.YthbbjbfbeaiphaaGreat
namespace Go.Proofs.YthbbjbfbeaiphaaGreat
open Go.Kv
set_option linter.unusedVariables false
set_option linter.unusedSimpArgs false
attribute [local irreducible] ACall PCall KL
theorem rea_trans {fs : List (List Nat)} {a b c : Nat} (h : Rea fs a b) (h' : Rea fs b c) : Rea fs a c := by
 induction h' with
 | here => exact h
 | step f x hf _ ih => exact .step f x hf ih
noncomputable def metL (fs : List (List Nat)) (x : Nat) : List Nat := ((List.range x).filter (repS fs)).flatMap (prtL fs)
noncomputable def sbs (fs : List (List Nat)) (x : Nat) : List Int := ((List.range x).filter (repS fs)).map fun p => (sb (prtL fs p) : Int)
theorem sbs_get {fs : List (List Nat)} {x i : Nat} (h : i < (sbs fs x).length) : ∃ p, p < x ∧ (sbs fs x).getD i 0 = (sb (prtL fs p) : Int) ∧ (strong fs x)[i]? = some (nz (prtL fs p)) := by
 unfold sbs at h ⊢
 rw [List.length_map] at h
 refine ⟨((List.range x).filter (repS fs))[i], ?_, ?_, ?_⟩
 ·have := List.getElem_mem h
  rw [List.mem_filter, List.mem_range] at this
  exact this.1
 ·simp [List.getD_eq_getElem?_getD, h]
 ·simp [strong, h]
theorem sbs_slen (fs : List (List Nat)) (x : Nat) : (strong fs x).length = (sbs fs x).length := by simp [strong, sbs]
theorem metL_succ (fs : List (List Nat)) (x : Nat) : metL fs (x + 1) = metL fs x ++ if repS fs x = true then prtL fs x else [] := by
 unfold metL
 rw [List.range_succ, List.filter_append, List.flatMap_append]
 congr 1
 by_cases h : repS fs x = true <;> simp [h]
theorem sbs_succ (fs : List (List Nat)) (x : Nat) : sbs fs (x + 1) = sbs fs x ++ if repS fs x = true then [(sb (prtL fs x) : Int)] else [] := by
 unfold sbs
 rw [List.range_succ, List.filter_append, List.map_append]
 congr 1
 by_cases h : repS fs x = true <;> simp [h]
theorem sbs_len (fs : List (List Nat)) (x : Nat) : (sbs fs x).length ≤ x := by
 have := List.length_filter_le (repS fs) (List.range x)
 simpa [sbs] using this
open Classical in
theorem metL_mem {fs : List (List Nat)} {n x : Nat} (hf : ∀ f ∈ fs, Ok f n) (hn : n ≤ 5) (hx : x < n) : x ∈ metL fs x ↔ repS fs x = false := by
 unfold metL
 rw [List.mem_flatMap]
 constructor
 ·rintro ⟨p, hp, hm⟩
  rw [List.mem_filter, List.mem_range] at hp
  have hm := (prtL_mem hf hn (by omega) x).1 hm
  unfold repS
  exact decide_eq_false fun h => h p hp.1 ⟨hm.2, hm.1⟩
 ·intro h
  unfold repS at h
  have h := of_decide_eq_false h
  have hex : ∃ q, q < x ∧ Rea fs x q ∧ Rea fs q x := Classical.byContradiction fun hno => h fun q hq hm => hno ⟨q, hq, hm⟩
  have hleast : ∃ q, (q < x ∧ Rea fs x q ∧ Rea fs q x) ∧ ∀ r, r < q → ¬ (r < x ∧ Rea fs x r ∧ Rea fs r x) := by
   obtain ⟨q, hq⟩ := hex
   induction q using Nat.strongRecOn with
   | _ q ih =>
    by_cases hh : ∃ r, r < q ∧ (r < x ∧ Rea fs x r ∧ Rea fs r x)
    ·obtain ⟨r, hr, hr2⟩ := hh; exact ih r hr hr2
    ·exact ⟨q, hq, fun r hr hr2 => hh ⟨r, hr, hr2⟩⟩
  obtain ⟨q, ⟨hq, h1, h2⟩, hl⟩ := hleast
  refine ⟨q, List.mem_filter.2 ⟨List.mem_range.2 hq, ?_⟩, (prtL_mem hf hn (by omega) x).2 ⟨h2, h1⟩⟩
  unfold repS
  refine decide_eq_true fun r hr hm => hl r hr ⟨by omega, rea_trans h1 hm.1, rea_trans hm.2 h2⟩
theorem pof_prtL {fs : List (List Nat)} {n p : Nat} (hf : ∀ f ∈ fs, Ok f n) (hn : n ≤ 5) (hp : p < n) : pof (sb (prtL fs p)) 62 = prtL fs p := by
 have ha : (pof (sb (prtL fs p)) 62).Pairwise (· < ·) := List.Pairwise.filter _ List.pairwise_lt_range
 have hperm : (pof (sb (prtL fs p)) 62).Perm (prtL fs p) := (List.perm_ext_iff_of_nodup (ha.imp fun h => by omega) ((prtL_asc fs p).imp fun h => by omega)).2 fun x => by
  rw [pof, List.mem_filter, List.mem_range, sb_test, decide_eq_true_iff]
  exact ⟨fun h => h.2, fun h => ⟨by have := reaLt hf hp ((prtL_mem hf hn hp x).1 h).1; omega, h⟩⟩
 have := sorted_uniq (hperm.map fun x : Nat => (x : Int)) (nz_sorted ha) (nz_sorted (prtL_asc fs p))
 have := congrArg (List.map Int.toNat) this
 rwa [toNat_map, toNat_map] at this
theorem metL_lt {fs : List (List Nat)} {n x : Nat} (hf : ∀ f ∈ fs, Ok f n) (hn : n ≤ 5) (hx : x ≤ n) : ∀ y ∈ metL fs x, y < n := fun y hy => by
 obtain ⟨p, hp, hm⟩ := List.mem_flatMap.1 hy
 rw [List.mem_filter, List.mem_range] at hp
 exact reaLt hf (by omega) ((prtL_mem hf hn (by omega) y).1 hm).1
open Classical in
noncomputable def ownL (fs : List (List Nat)) (x k : Nat) : List Nat := (List.range k).filter fun q => decide (Rea fs x q ∧ Rea fs q x)
open Classical in
theorem ownL_succ (fs : List (List Nat)) (x k : Nat) : ownL fs x (k + 1) = ownL fs x k ++ if Rea fs x k ∧ Rea fs k x then [k] else [] := by
 unfold ownL
 rw [List.range_succ, List.filter_append]
 congr 1
 by_cases h : Rea fs x k ∧ Rea fs k x <;> simp [h]
theorem ownL_lt (fs : List (List Nat)) (x k : Nat) : ∀ y ∈ ownL fs x k, y < k := fun y hy => by
 have := (List.mem_filter.1 hy).1
 simpa using this
open Classical in
theorem ownL_all {fs : List (List Nat)} {n x : Nat} (hf : ∀ f ∈ fs, Ok f n) (hn : n ≤ 5) (hx : x < n) : sb (ownL fs x n) = sb (prtL fs x) := sb_ext fun y => by
 rw [prtL_mem hf hn hx]
 unfold ownL
 rw [List.mem_filter, List.mem_range, decide_eq_true_iff]
 exact ⟨fun h => h.2, fun h => ⟨reaLt hf hx h.1, h⟩⟩
open Classical in
theorem p86 (fs : List (List Nat)) (n : Nat) (h1 : 1 ≤ n) (hn5 : n ≤ 5) (hf : ∀ f ∈ fs, Ok f n) (h0 : 0 < fs.length) (hfl : fs.length ≤ 1000) : Pure Tryz.prog 86 [.list (aggs (fs.map mp))] (.list (ints (sbs fs n))) := by
 have hk := hf _ (List.getElem_mem h0)
 have h6k := hk.mp_len
 have hlen := hk.len
 have hsb : ∀ m : List Nat, (∀ y ∈ m, y < n) → sb m < 2 ^ 62 := fun m hm => Nat.lt_trans (sb_lt (n := 5) fun y hy => by have := hm y hy; omega) (by decide)
 have hob : ∀ p, p < n → sb (orb fs p) < 2 ^ 62 := fun p hp => hsb _ fun y hy => reaLt hf hp ((orb_mem hf hn5 hp y).1 hy)
 refine e86 (by simp) fun _ _ => ?_
 simp only [k86, argEnv, go_sem]
 try simp only [map_getD h0, h6k, hlen, List.length_map, go_sem]
 refine ⟨by omega, fun _ => ?_⟩
 refine KL_ind k86_b1.eq_1 (fun x : Nat => [(0, .list (aggs (fs.map mp))), (3, .int .i64 n), (4, .int .i64 (sb (metL fs x))), (5, .ref 0 (sbs fs x).length 0 (sbs fs x).length), (6, .int .i64 x)]) (fun x => [.arr (sbs fs x).length 2 1 (ints (sbs fs x))]) (fun x => x ≤ n) (fun x => n - x) [0, 3, 4, 5, 6] 0 (by rfl) (by rfl) (Nat.zero_le _) fun x hx ih => ?_
 have hsl := sbs_len fs x
 have hss := sbs_succ fs x
 have hms := metL_succ fs x
 have hx61 : x ≤ 61 := by omega
 have hmx := hsb _ (metL_lt hf hn5 hx)
 try simp only [OpK_eq, aConv_u64 hx61, aBin_shr (show x ≤ 63 by omega), aBin_and1 (shr_le hmx), go_sem]
 refine ⟨fun h2 => ?_, fun h2 => ?_⟩
 ·have hxn : x < n := by omega
  have hmm := metL_mem hf hn5 hxn
  refine ⟨fun h3 => ?_, fun h3 => ?_⟩
  ·rw [bit_one, sb_test, decide_eq_true_iff, hmm] at h3
   rw [h3] at hss hms
   simp only [Bool.false_eq_true, ↓reduceIte, List.append_nil] at hss hms
   refine ⟨by omega, ih (x + 1) (by omega) (by omega) _ _ ?_ ?_⟩
   ·simp only [keep, List.map_cons, List.map_nil, hss, hms]; rfl
   ·rw [hss]
  ·rw [bit_one, sb_test, decide_eq_true_iff, hmm] at h3
   have h3 : repS fs x = true := by
    cases hr : repS fs x with
    | true => rfl
    | false => exact absurd hr h3
   rw [if_pos h3] at hss hms
   refine (p84P fs n hf hn5 hfl x hxn).go ?_
   try simp only [OpK_eq, go_sem]
   have hb0 : (0 : Int) = (sb (ownL fs x 0) : Nat) := by simp [ownL, sb]
   refine KL_ind k86_b0.eq_1 (fun k : Nat => [(0, .list (aggs (fs.map mp))), (3, .int .i64 n), (4, .int .i64 (sb (metL fs x))), (5, .ref 0 (sbs fs x).length 0 (sbs fs x).length), (6, .int .i64 x), (7, .int .i64 (sb (ownL fs x k))), (8, .int .i64 (sb (orb fs x))), (9, .int .i64 k)]) (fun _ => [.arr (sbs fs x).length 2 1 (ints (sbs fs x))]) (fun k => k ≤ n) (fun k => n - k) [0, 3, 4, 5, 6, 7, 8, 9] 0 (by rfl) (by rfl) (Nat.zero_le _) fun k hkn ihk => ?_
   have hk61 : k ≤ 61 := by omega
   have hos := ownL_succ fs x k
   have hox := hsb (ownL fs x k) fun y hy => by have := ownL_lt fs x k y hy; omega
   have hb2 : 2 ^ k < 2 ^ 62 := Nat.pow_lt_pow_right (by omega) (by omega)
   try simp only [OpK_eq, aConv_u64 hk61, aBin_shr (show k ≤ 63 by omega), aBin_and1 (shr_le (hob x hxn)), aBin_shl1 hk61, aBin_or hox hb2, go_sem]
   refine ⟨fun h4 => ?_, fun h4 => ?_⟩
   ·have hkn' : k < n := by omega
    refine ⟨fun h5 => ?_, fun h5 => ?_⟩
    ·rw [bit_one, sb_test, decide_eq_true_iff, orb_mem hf hn5 hxn] at h5
     refine (p84P fs n hf hn5 hfl k hkn').go ?_
     try simp only [OpK_eq, aConv_u64 hx61, aBin_shr (show x ≤ 63 by omega), aBin_and1 (shr_le (hob k hkn')), aConv_u64 hk61, aBin_shl1 hk61, aBin_or hox hb2, go_sem]
     refine ⟨fun h6 => ?_, fun h6 => ?_⟩
     ·rw [bit_one, sb_test, decide_eq_true_iff, orb_mem hf hn5 hkn'] at h6
      rw [if_pos ⟨h5, h6⟩] at hos
      refine ⟨by omega, ihk (k + 1) (by omega) (by omega) _ _ ?_ rfl⟩
      rw [hos, sb_snoc]; rfl
     ·rw [bit_one, sb_test, decide_eq_true_iff, orb_mem hf hn5 hkn'] at h6
      rw [if_neg (fun h => h6 h.2), List.append_nil] at hos
      refine ⟨by omega, ihk (k + 1) (by omega) (by omega) _ _ ?_ rfl⟩
      rw [hos]; rfl
    ·rw [bit_one, sb_test, decide_eq_true_iff, orb_mem hf hn5 hxn] at h5
     rw [if_neg (fun h => h5 h.1), List.append_nil] at hos
     refine ⟨by omega, ihk (k + 1) (by omega) (by omega) _ _ ?_ rfl⟩
     rw [hos]; rfl
   ·obtain rfl : k = n := by omega
    have hpx : sb (prtL fs x) < 2 ^ 62 := by rw [← ownL_all hf hn5 hxn]; exact hox
    rw [ownL_all hf hn5 hxn]
    have hor3 := fun K => ((aBin_int (k := .i64) (a := (sb (metL fs x) : Int)) (b := (sb (prtL fs x) : Int)) .or).symm.trans (aBin_or (K := K) hmx hpx) :)
    rw [hor3, sb_app]
    try simp only [OpK_eq, HKv, go_sem]
    refine ⟨⟨Nat.le_refl _, by omega⟩, by omega, ih (x + 1) (by omega) (by omega) _ _ ?_ ?_⟩
    ·simp only [keep, List.map_cons, List.map_nil, hss, hms, List.length_append, List.length_singleton]; rfl
    ·rw [hss, List.length_append]; rfl
 ·obtain rfl : x = n := by omega
  exact Kv.Fin.freeze (Imm.refn rfl rfl) ⟨rfl, rfl⟩
noncomputable def spc (a : List (List Int)) : List (List Int) := if lcode a [] = 0 then strong (a.map um) ((a.getD 0 []).getD 0 0).toNat else []
theorem spc_in {fs : List (List Nat)} {n : Nat} (h : lcode (fs.map mp) [] = 0) (hn : ((fs.map mp).getD 0 []).getD 0 0 = n) : spc (fs.map mp) = strong fs n := by
 rw [spc, if_pos h, map_um, hn]; rfl
theorem p29 (a : List (List Int)) (ha : a.length ≤ 1048576) (h6 : ∀ r ∈ a, r.length = 6) : NewTO Tryz.prog 29 [.list (aggs a)] 27 2 (spc a) (lcode a []) := by
 refine NewTN.own ?_
 unfold NewTN
 refine e29 (by simp) fun _ _ => ?_
 simp only [k29, argEnv, go_sem]
 refine (p72 _ a [] .nil ha (by simp) h6 (by simp)).go ?_
 try simp only [go_sem]
 refine ⟨fun h1 => ?_, fun h1 => ?_⟩
 ·exact Kv.Fin.now ⟨.nils, by simp [h1], by rw [spc, if_neg h1]; exact .nil, .nil⟩
 ·obtain ⟨fs, n, rfl, hf, hl1, hl2, hn, hn1, hn5⟩ := lcode_maps h6 h1
  rw [spc_in h1 hn, h1]
  refine (p85 fs n hn1 hn5 hf (by omega) (by omega)).mono fun v s ⟨hT, hfr⟩ => ?_
  try simp only [go_sem]
  exact Kv.Fin.now ⟨v, rfl, hT, hfr⟩
theorem p30 (a : List (List Int)) (ha : a.length ≤ 1048576) (h6 : ∀ r ∈ a, r.length = 6) : Pure Tryz.prog 30 [.list (aggs a)] (.tup [if lcode a [] = 0 then .list (rows (spc a)) else .nils, .int .i64 (lcode a [])]) := by
 refine e30 (by simp) fun _ _ => ?_
 simp only [k30, argEnv, go_sem]
 refine (p74n a ha h6).go ?_
 try simp only [go_sem]
 refine ⟨fun h1 => ?_, fun h1 => ?_⟩
 ·rw [if_neg h1]
  exact Kv.Fin.still ⟨rfl, rfl⟩
 ·obtain ⟨fs, n, rfl, hf, hl1, hl2, hn, hn1, hn5⟩ := lcode_maps h6 h1
  rw [spc_in h1 hn, h1]
  have hsl := sbs_len fs n
  have hst := sbs_slen fs n
  refine (p86 fs n hn1 hn5 hf (by omega) (by omega)).go ?_
  try simp only [go_sem]
  refine KL_ind k30_b0.eq_1 (fun x : Nat => [(5, .list (ints (sbs fs n))), (6, .ref 0 x 0 x), (7, .int .i64 x)]) (fun x => [.arr x 27 1 (rows ((strong fs n).take x))]) (fun x => x ≤ (sbs fs n).length) (fun x => (sbs fs n).length - x) [5, 6, 7] 0 (by rfl) (by rfl) (Nat.zero_le _) fun x hx ih => ?_
  try simp only [go_sem]
  refine ⟨fun h2 => ?_, fun h2 => ?_⟩
  ·have hxl : x < (sbs fs n).length := by omega
   obtain ⟨p, hp, e1, e2⟩ := sbs_get hxl
   have hts : (strong fs n).take (x + 1) = (strong fs n).take x ++ [nz (prtL fs p)] := by
    obtain ⟨h3, h4⟩ := List.getElem?_eq_some_iff.1 e2
    rw [List.take_succ_eq_append_getElem h3, h4]
   rw [e1]
   refine ⟨by omega, fun _ => ?_⟩
   refine (p83 _ (Nat.lt_trans (sb_lt (n := 5) fun y hy => ?_) (by decide))).go ?_
   ·have := reaLt hf hp ((prtL_mem hf hn5 hp y).1 hy).1; omega
   rw [pof_prtL hf hn5 hp]
   try simp only [OpK_eq, HKv, go_sem]
   refine ⟨⟨by rw [List.length_take]; omega, by omega⟩, by omega, ih (x + 1) (by omega) (by omega) _ _ (by simp [keep]) ?_⟩
   rw [hts, List.take_take, Nat.min_self]; rfl
  ·obtain rfl : x = (sbs fs n).length := by omega
   rw [← hst, List.take_length]
   exact Kv.Fin.freeze (Imm.tupL (.cons (Imm.refr rfl rfl) (.cons Imm.still (.nil _)))) ⟨rfl, rfl⟩
noncomputable def trn (a : List (List Int)) : Bool := decide (lcode a [] = 0) && decide ((spc a).length = 1)
theorem p31 (a : List (List Int)) (ha : a.length ≤ 1048576) (h6 : ∀ r ∈ a, r.length = 6) : Pure Tryz.prog 31 [.list (aggs a)] (.tup [.bool (trn a), .int .i64 (lcode a [])]) := by
 refine e31 (by simp) fun _ _ => ?_
 simp only [k31, argEnv, go_sem]
 refine (p72 _ a [] .nil ha (by simp) h6 (by simp)).go ?_
 try simp only [go_sem]
 refine ⟨fun h1 => ?_, fun h1 => ?_⟩
 ·exact Kv.Fin.still ⟨by rw [trn, decide_eq_false h1]; rfl, rfl⟩
 ·obtain ⟨fs, n, rfl, hf, hl1, hl2, hn, hn1, hn5⟩ := lcode_maps h6 h1
  have hsl := strong_len fs n
  rw [trn, spc_in h1 hn, h1, decide_eq_true rfl, Bool.true_and]
  refine (p85 fs n hn1 hn5 hf (by omega) (by omega)).mono fun v s ⟨hT, hfr⟩ => ?_
  have hlen := tabLen hT
  try simp only [OpK_eq, HKv, hlen, go_sem]
  refine Kv.Fin.still ⟨?_, rfl⟩
  congr 3
  exact decide_eq_decide.2 (by omega)
theorem p32 (a : List (List Int)) (ha : a.length ≤ 1048576) (h6 : ∀ r ∈ a, r.length = 6) : Pure Tryz.prog 32 [.list (aggs a)] (.tup [.bool (trn a), .int .i64 (lcode a [])]) := by
 refine e32 (by simp) fun _ _ => ?_
 simp only [k32, argEnv, go_sem]
 refine (p74n a ha h6).go ?_
 try simp only [go_sem]
 refine ⟨fun h1 => ?_, fun h1 => ?_⟩
 ·exact Kv.Fin.still ⟨by rw [trn, decide_eq_false h1]; rfl, rfl⟩
 ·obtain ⟨fs, n, rfl, hf, hl1, hl2, hn, hn1, hn5⟩ := lcode_maps h6 h1
  rw [trn, spc_in h1 hn, h1, decide_eq_true rfl, Bool.true_and, sbs_slen]
  refine (p86 fs n hn1 hn5 hf (by omega) (by omega)).go ?_
  try simp only [OpK_eq, HKv, go_sem]
  refine Kv.Fin.still ⟨?_, rfl⟩
  congr 3
  exact decide_eq_decide.2 (by omega)
end Go.Proofs.YthbbjbfbeaiphaaGreat
end
section
namespace Go.Proofs.YthbbjbfbeaiphaaGreat
open Go.RowKit Go.Shelf
set_option linter.unusedVariables false
set_option linter.unusedSimpArgs false
attribute [local go_sem] Oper.semAt_some
def cI (x y : Int) : Int := if x < y then -1 else if y < x then 1 else 0
def slc : List Int → List Int → Int
 | [], [] => 0
 | [], _ :: _ => -1
 | _ :: _, [] => 1
 | x :: xs, y :: ys => if x < y then -1 else if y < x then 1 else slc xs ys
theorem slc_drop {xs ys : List Int} {k : Nat} (h1 : k < xs.length) (h2 : k < ys.length) : slc (xs.drop k) (ys.drop k) = if (xs[k]?.getD 0) < (ys[k]?.getD 0) then -1 else if (ys[k]?.getD 0) < (xs[k]?.getD 0) then 1 else slc (xs.drop (k + 1)) (ys.drop (k + 1)) := by
 rw [List.drop_eq_getElem_cons h1, List.drop_eq_getElem_cons h2, slc]
 simp [h1, h2]
theorem slc_short {xs ys : List Int} {k : Nat} (h1 : k < xs.length) (h2 : ys.length ≤ k) : slc (xs.drop k) (ys.drop k) = 1 := by
 rw [List.drop_eq_getElem_cons h1, List.drop_of_length_le h2, slc]
theorem slc_end (xs ys : List Int) : slc (xs.drop xs.length) (ys.drop xs.length) = if xs.length < ys.length then -1 else 0 := by
 rw [List.drop_length]
 split
 ·rename_i h; rw [List.drop_eq_getElem_cons h, slc]
 ·rename_i h; rw [List.drop_of_length_le (by omega), slc]
def orV (u v : Int) : Int := if u = 0 then v else u
theorem orV_ne {u v : Int} (h : u ≠ 0) : orV u v = u := if_neg h
theorem orV_zero (v : Int) : orV 0 v = v := rfl
def stc (xs ys : List Int) : Int := orV (cI xs.length ys.length) (slc xs ys)
set_option maxHeartbeats 1000000 in
theorem nan64_in (F : Fence) (n : Nat) (h : F.fn 208) (hro : F.round = none) (x : Int) (w : World) : CallsIn F n Tryz.prog 208 #[.int .i64 x] w fun e w' => e = .returned (.bool false) ∧ w' = w := by
 refine callsIn_of_wp Tryz.func208 rfl h ?_ hro
 simp only [Tryz.ntmps208, List.size_toArray, List.length_cons, List.length_nil, Nat.reduceAdd, Nat.reduceSub, Array.replicate_succ, Array.replicate_zero, List.push_toArray, List.append_toArray, List.nil_append, List.cons_append]
 gi_wp2
 go_ret
 exact ⟨by simp, rfl⟩
set_option maxHeartbeats 1000000 in
theorem nanI_in (F : Fence) (n : Nat) (h : F.fn 183) (hro : F.round = none) (x : Int) (w : World) : CallsIn F n Tryz.prog 183 #[.int .i64 x] w fun e w' => e = .returned (.bool false) ∧ w' = w := by
 refine callsIn_of_wp Tryz.func183 rfl h ?_ hro
 simp only [Tryz.ntmps183, List.size_toArray, List.length_cons, List.length_nil, Nat.reduceAdd, Nat.reduceSub, Array.replicate_succ, Array.replicate_zero, List.push_toArray, List.append_toArray, List.nil_append, List.cons_append]
 gi_wp2
 go_ret
 exact ⟨by simp, rfl⟩
set_option maxHeartbeats 1000000 in
theorem cmp64_in (F : Fence) (n : Nat) (h : F.fn 184) (h2 : F.fn 208) (hro : F.round = none) (hn : 1 ≤ n) (x y : Int) (w : World) : CallsIn F n Tryz.prog 184 #[.int .i64 x, .int .i64 y] w fun e w' => e = .returned (.int .i64 (cI x y)) ∧ w' = w := by
 refine callsIn_of_wp Tryz.func184 rfl h ?_ hro
 simp only [Tryz.ntmps184, List.size_toArray, List.length_cons, List.length_nil, Nat.reduceAdd, Nat.reduceSub, Array.replicate_succ, Array.replicate_zero, List.push_toArray, List.append_toArray, List.nil_append, List.cons_append]
 gi_wp2_with (gi_at_call 208; refine (nan64_in F (n - 1) h2 hro _ _).mono ?_; rintro e w' ⟨rfl, rfl⟩)
 all_goals go_ret
 all_goals (refine ⟨?_, rfl⟩; unfold cI; (repeat' split) <;> first | rfl | omega)
set_option maxHeartbeats 1000000 in
theorem cmpI_in (F : Fence) (n : Nat) (h : F.fn 148) (h2 : F.fn 183) (hro : F.round = none) (hn : 1 ≤ n) (x y : Int) (w : World) : CallsIn F n Tryz.prog 148 #[.int .i64 x, .int .i64 y] w fun e w' => e = .returned (.int .i64 (cI x y)) ∧ w' = w := by
 refine callsIn_of_wp Tryz.func148 rfl h ?_ hro
 simp only [Tryz.ntmps148, List.size_toArray, List.length_cons, List.length_nil, Nat.reduceAdd, Nat.reduceSub, Array.replicate_succ, Array.replicate_zero, List.push_toArray, List.append_toArray, List.nil_append, List.cons_append]
 gi_wp2_with (gi_at_call 183; refine (nanI_in F (n - 1) h2 hro _ _).mono ?_; rintro e w' ⟨rfl, rfl⟩)
 all_goals go_ret
 all_goals (refine ⟨?_, rfl⟩; unfold cI; (repeat' split) <;> first | rfl | omega)
set_option maxRecDepth 100000 in
set_option maxHeartbeats 2000000 in
theorem slc_in (F : Fence) (n : Nat) (h : F.fn 149) (h1 : F.fn 184) (h2 : F.fn 208) (hro : F.round = none) (hn : 2 ≤ n) (b1 o1 c1 b2 o2 c2 : Nat) (xs ys : List Int) (hx : xs.length ≤ 1000000) (hy : ys.length ≤ 1000000) (w : World)
  (hc1 : ∀ j, j < xs.length → w.cell? ⟨b1, o1 + j, none⟩ = some (.int .i64 (xs[j]?.getD 0))) (hc2 : ∀ j, j < ys.length → w.cell? ⟨b2, o2 + j, none⟩ = some (.int .i64 (ys[j]?.getD 0))) :
  CallsIn F n Tryz.prog 149 #[.slice (some ⟨b1, o1, none⟩) xs.length c1, .slice (some ⟨b2, o2, none⟩) ys.length c2] w fun e w' => e = .returned (.int .i64 (slc xs ys)) ∧ w' = w := by
 have h3 : 1 ≤ n - 1 := by omega
 have h4 : 1 ≤ n := by omega
 refine callsIn_of_wp Tryz.func149 rfl h ?_ hro
 simp only [Tryz.ntmps149, List.size_toArray, List.length_cons, List.length_nil, Nat.reduceAdd, Nat.reduceSub, Array.replicate_succ, Array.replicate_zero, List.push_toArray, List.append_toArray, List.nil_append, List.cons_append]
 gi_wp2
 gi_loopw [11] (fun i wr => ∃ k : Nat, k ≤ xs.length ∧ i = .int .i64 k ∧ slc (xs.drop k) (ys.drop k) = slc xs ys ∧ wr = w)
  (fun i _ => xs.length - (intOf i).toNat)
 case atStart => exact ⟨0, Nat.zero_le _, rfl, rfl, rfl⟩
 case round =>
  obtain ⟨k, hk, rfl, hs, rfl⟩ := hrel
  have hx1 : k < xs.length → wr.cell? ⟨b1, o1 + k, none⟩ = some (.int .i64 (xs[k]?.getD 0)) := hc1 k
  have hy1 : k < ys.length → wr.cell? ⟨b2, o2 + k, none⟩ = some (.int .i64 (ys[k]?.getD 0)) := hc2 k
  by_cases hlt : k < xs.length
  ·have hx2 := hx1 hlt
   by_cases hlt2 : k < ys.length
   ·have hy2 := hy1 hlt2
    have hd := slc_drop hlt hlt2
    rw [hs] at hd
    clear hs
    gi_wp2_with (gi_at_call 184; refine (cmp64_in F (n - 1) h1 h2 hro h3 _ _ _).mono ?_; rintro e w' ⟨rfl, rfl⟩)
    ·have hb : (cI xs[k] ys[k] != 0) = true := by assumption
     have hne : ¬ cI xs[k] ys[k] = 0 := by simpa using hb
     go_ret
     refine ⟨?_, rfl⟩
     show Ending.returned (Value.int .i64 (cI xs[k] ys[k])) = _
     rw [hd]
     simp only [List.getElem?_eq_getElem hlt, List.getElem?_eq_getElem hlt2, Option.getD_some]
     unfold cI at hne ⊢
     (repeat' split) <;> first | rfl | omega | (simp_all)
    ·have hb : (cI xs[k] ys[k] != 0) = false := by assumption
     have he : cI xs[k] ys[k] = 0 := by simpa using hb
     refine ⟨⟨k + 1, by omega, by simp, ?_, trivial⟩, by simp [intOf]; omega⟩
     rw [hd]
     simp only [List.getElem?_eq_getElem hlt, List.getElem?_eq_getElem hlt2, Option.getD_some]
     unfold cI at he
     split at he
     ·cases he
     ·split at he
      ·cases he
      ·rename_i q1 q2
       rw [if_neg q1, if_neg q2]
   ·have hd := slc_short hlt (Nat.le_of_not_lt hlt2)
    rw [hs] at hd
    clear hs
    gi_wp2
    go_ret
    exact ⟨by show Ending.returned (Value.int .i64 1) = _; rw [hd], rfl⟩
  ·obtain rfl : k = xs.length := by omega
   rw [slc_end] at hs
   gi_wp2
   all_goals go_ret
   all_goals (refine ⟨?_, rfl⟩; rw [← hs]; split <;> first | rfl | omega)
set_option maxHeartbeats 2000000 in
theorem or_in (F : Fence) (n : Nat) (h : F.fn 147) (hro : F.round = none) (b : Nat) (u v : Int) (w : World) (hu : w.cell? ⟨b, 0, none⟩ = some (.int .i64 u)) (hv : w.cell? ⟨b, 1, none⟩ = some (.int .i64 v)) :
  CallsIn F n Tryz.prog 147 #[.slice (some ⟨b, 0, none⟩) 2 2] w fun e w' => e = .returned (.int .i64 (orV u v)) ∧ w' = w := by
 refine callsIn_of_wp Tryz.func147 rfl h ?_ hro
 simp only [Tryz.ntmps147, List.size_toArray, List.length_cons, List.length_nil, Nat.reduceAdd, Nat.reduceSub, Array.replicate_succ, Array.replicate_zero, List.push_toArray, List.append_toArray, List.nil_append, List.cons_append]
 gi_wp2
 gi_loopw [8] (fun i wr => ∃ k : Nat, k ≤ 2 ∧ i = .int .i64 k ∧ (1 ≤ k → u = 0) ∧ (2 ≤ k → v = 0) ∧ wr = w)
  (fun i _ => 2 - (intOf i).toNat)
 case atStart => exact ⟨0, Nat.zero_le _, rfl, fun h => by omega, fun h => by omega, rfl⟩
 case round =>
  obtain ⟨k, hk, rfl, hk1, hk2, rfl⟩ := hrel
  have h012 : k = 0 ∨ k = 1 ∨ k = 2 := by omega
  rcases h012 with rfl | rfl | rfl
  ·gi_wp2
   ·have hb : (u != 0) = true := by assumption
    have hne : u ≠ 0 := by simpa using hb
    go_ret
    exact ⟨by show Ending.returned (Value.int .i64 u) = _; rw [orV_ne hne], rfl⟩
   ·have hb : (u != 0) = false := by assumption
    have he : u = 0 := by simpa using hb
    exact ⟨⟨1, by omega, by simp, fun _ => he, fun h => by omega, trivial⟩, by simp [intOf]⟩
  ·have h0 := hk1 (Nat.le_refl _)
   subst h0
   gi_wp2
   ·go_ret
    exact ⟨by show Ending.returned (Value.int .i64 v) = _; rw [orV_zero], rfl⟩
   ·have hb : (v != 0) = false := by assumption
    have he : v = 0 := by simpa using hb
    exact ⟨⟨2, by omega, by simp, fun _ => by trivial, fun _ => he, trivial⟩, by simp [intOf]⟩
  ·have h0 := hk1 (by omega)
   have h1 := hk2 (by omega)
   subst h0; subst h1
   gi_wp2
   go_ret
   exact ⟨rfl, rfl⟩
theorem cell_two (w : World) (a b : Value) (t : TypeId) : (w.alloc (.cells #[a, b] t)).cell? ⟨w.heap.size, 0, none⟩ = some a ∧ (w.alloc (.cells #[a, b] t)).cell? ⟨w.heap.size, 1, none⟩ = some b := by
 have h := World.alloc_heap_new w (.cells #[a, b] t)
 constructor <;> (unfold World.cell?; rw [h]; rfl)
set_option maxHeartbeats 2000000 in
theorem stc_in (F : Fence) (n : Nat) (h : F.fn 94) (h1 : F.fn 148) (h2 : F.fn 183) (h3 : F.fn 149) (h4 : F.fn 184) (h5 : F.fn 208) (h6 : F.fn 147) (hro : F.round = none) (hn : 3 ≤ n) (b1 o1 c1 b2 o2 c2 : Nat) (xs ys : List Int) (hx : xs.length ≤ 1000000) (hy : ys.length ≤ 1000000) (w : World)
  (hc1 : ∀ j, j < xs.length → w.cell? ⟨b1, o1 + j, none⟩ = some (.int .i64 (xs[j]?.getD 0))) (hc2 : ∀ j, j < ys.length → w.cell? ⟨b2, o2 + j, none⟩ = some (.int .i64 (ys[j]?.getD 0))) :
  CallsIn F n Tryz.prog 94 #[.slice (some ⟨b1, o1, none⟩) xs.length c1, .slice (some ⟨b2, o2, none⟩) ys.length c2] w fun e w' => e = .returned (.int .i64 (stc xs ys)) ∧ ∃ o, w' = w.alloc o := by
 have q1 : 1 ≤ n := by omega
 have q2 : 1 ≤ n - 1 := by omega
 have q3 : 2 ≤ n - 1 := by omega
 refine callsIn_of_wp Tryz.func94 rfl h ?_ hro
 simp only [Tryz.ntmps94, List.size_toArray, List.length_cons, List.length_nil, Nat.reduceAdd, Nat.reduceSub, Array.replicate_succ, Array.replicate_zero, List.push_toArray, List.append_toArray, List.nil_append, List.cons_append]
 gi_wp2_with (first
  | (gi_at_call 148; refine (cmpI_in F (n - 1) h1 h2 hro q2 _ _ _).mono ?_; rintro e w' ⟨rfl, rfl⟩)
  | (gi_at_call 149; refine (slc_in F (n - 1) h3 h4 h5 hro q3 b1 o1 c1 b2 o2 c2 xs ys hx hy _ hc1 hc2).mono ?_; rintro e w' ⟨rfl, rfl⟩))
 refine (or_in F (n - 1) h6 hro _ (cI xs.length ys.length) (slc xs ys) _ (cell_two _ _ _ _).1 (cell_two _ _ _ _).2).mono ?_
 rintro e w'' ⟨rfl, rfl⟩
 gi_wp2
 go_ret
 exact ⟨rfl, _, rfl⟩
end Go.Proofs.YthbbjbfbeaiphaaGreat
end
section
namespace Go.Proofs
open Go.Shelf Go.RowKit Go.Lib Go.Sort
shelf_lay_g SlLaysF.n6 Slsf 6 at Tryz 93 as YthbbjbfbeaiphaaGreat.sortRows
end Go.Proofs
namespace Go.Proofs.YthbbjbfbeaiphaaGreat
open Go.Shelf Go.RowKit Go.Lib Go.Sort
set_option linter.unusedVariables false
set_option linter.unusedSimpArgs false
theorem slc_self : ∀ xs, slc xs xs = 0
 | [] => rfl
 | x :: xs => by rw [slc, if_neg (by omega), if_neg (by omega)]; exact slc_self xs
theorem slc_anti : ∀ xs ys, slc ys xs = - slc xs ys
 | [], [] => rfl
 | [], _ :: _ => rfl
 | _ :: _, [] => rfl
 | x :: xs, y :: ys => by
  have := slc_anti xs ys
  rw [slc, slc]
  (repeat' split) <;> omega
theorem slc_eq : ∀ {xs ys}, slc xs ys = 0 → xs = ys
 | [], [], _ => rfl
 | [], _ :: _, h => by cases h
 | _ :: _, [], h => by cases h
 | x :: xs, y :: ys, h => by
  rw [slc] at h
  split at h
  ·cases h
  ·split at h
   ·cases h
   ·rw [slc_eq h, show x = y by omega]
theorem slc_trans : ∀ {xs ys zs}, slc xs ys ≤ 0 → slc ys zs ≤ 0 → slc xs zs ≤ 0
 | [], _, [], _, _ => by simp [slc]
 | [], _, _ :: _, _, _ => by simp [slc]
 | _ :: _, [], _, h, _ => by simp [slc] at h
 | _ :: _, _ :: _, [], _, h => by simp [slc] at h
 | x :: xs, y :: ys, z :: zs, h1, h2 => by
  rw [slc] at h1 h2 ⊢
  split at h1
  ·split at h2
   ·rw [if_pos (by omega)]; omega
   ·split at h2
    ·omega
    ·rw [if_pos (by omega)]; omega
  ·split at h1
   ·omega
   ·split at h2
    ·rw [if_pos (by omega)]; omega
    ·split at h2
     ·omega
     ·rw [if_neg (by omega), if_neg (by omega)]
      exact slc_trans h1 h2
theorem stc_le {xs ys : List Int} : stc xs ys ≤ 0 ↔ xs.length < ys.length ∨ (xs.length = ys.length ∧ slc xs ys ≤ 0) := by
 unfold stc cI orV
 by_cases h1 : xs.length < ys.length
 ·rw [if_pos (by omega : (xs.length : Int) < ys.length)]; simp [h1]
 ·by_cases h2 : ys.length < xs.length
  ·rw [if_neg (by omega : ¬ (xs.length : Int) < ys.length), if_pos (by omega : (ys.length : Int) < xs.length)]
   simp; omega
  ·rw [if_neg (by omega : ¬ (xs.length : Int) < ys.length), if_neg (by omega : ¬ (ys.length : Int) < xs.length)]
   simp; omega
theorem cI_anti (x y : Int) : cI y x = - cI x y := by
 unfold cI
 (repeat' split) <;> omega
theorem stc_anti (xs ys : List Int) : stc ys xs = - stc xs ys := by
 unfold stc orV
 have h1 := cI_anti xs.length ys.length
 have h2 := slc_anti xs ys
 (repeat' split) <;> omega
theorem stc_trans {xs ys zs : List Int} (h1 : stc xs ys ≤ 0) (h2 : stc ys zs ≤ 0) : stc xs zs ≤ 0 := by
 rw [stc_le] at *
 rcases h1 with h1 | ⟨e1, h1⟩ <;> rcases h2 with h2 | ⟨e2, h2⟩
 ·exact .inl (by omega)
 ·exact .inl (by omega)
 ·exact .inl (by omega)
 ·exact .inr ⟨by omega, slc_trans h1 h2⟩
theorem stc_eq {xs ys : List Int} (h : stc xs ys = 0) : xs = ys := by
 have h1 := stc_anti xs ys
 have h2 := (stc_le (xs := xs) (ys := ys)).1 (by omega)
 have h3 := (stc_le (xs := ys) (ys := xs)).1 (by omega)
 rcases h2 with h2 | ⟨e2, h2⟩
 ·rcases h3 with h3 | ⟨e3, h3⟩ <;> omega
 ·rcases h3 with h3 | ⟨e3, h3⟩
  ·omega
  ·have := slc_anti xs ys
   exact slc_eq (by omega)
theorem stc_swo {α : Type} (f : α → List Int) : SWO (ltOf fun x y => stc (f x) (f y)) where
 irrefl x := by
  dsimp only [ltOf]
  have := stc_anti (f x) (f x)
  exact decide_eq_false (by omega)
 trans x y z h1 h2 := by
  dsimp only [ltOf] at *
  rw [decide_eq_true_iff] at *
  have a1 := stc_anti (f y) (f z)
  have a2 := stc_anti (f x) (f z)
  refine Classical.byContradiction fun hn => ?_
  have h3 := stc_trans (xs := f z) (ys := f x) (zs := f y) (by omega) (by omega)
  omega
 ntrans x y z h1 h2 := by
  dsimp only [ltOf] at *
  rw [decide_eq_false_iff_not] at *
  have a1 := stc_anti (f x) (f y)
  have a2 := stc_anti (f y) (f z)
  have a3 := stc_anti (f x) (f z)
  have h3 := stc_trans (xs := f z) (ys := f y) (zs := f x) (by omega) (by omega)
  omega
section
variable {α : Type} [Inhabited α] (enc : α → Value) {w : World} {g n : Nat} {os : Array Obj}
theorem sorted_heap {cur : Array Value} {e : TypeId} {fr : Nat × Nat} (d : Array α) (hb : w.heap[g]? = some (.cells cur e fr)) : (sortWorld enc w g 0 n d os).heap[g]? = some (.cells (putCells enc 0 d cur) e fr) := by
 have hg : g < w.heap.size := (Array.getElem?_eq_some_iff.1 hb).1
 unfold sortWorld
 rw [heap_grow_old _ _ (by simpa using hg)]
 simp [putRow, mapBlock, Sort.ahead, Array.getElem?_modify, hb, onCells]
theorem sorted_other (d : Array α) {k : Nat} (hk : k < w.heap.size) (hne : k ≠ g) : (sortWorld enc w g 0 n d os).heap[k]? = w.heap[k]? := by
 unfold sortWorld
 rw [heap_grow_old _ _ (by simpa using hk)]
 have : g ≠ k := fun e => hne e.symm
 simp [putRow, mapBlock, Sort.ahead, Array.getElem?_modify, this]
theorem sorted_size (d : Array α) : w.heap.size ≤ (sortWorld enc w g 0 n d os).heap.size := by
 unfold sortWorld; simp
theorem sorted_take (cur : Array Value) (d : Array α) (h : d.size ≤ cur.size) : (putCells enc 0 d cur).toList.take d.size = d.toList.map enc := by
 apply List.ext_getElem?
 intro j
 by_cases hj : j < d.size
 ·rw [List.getElem?_take_of_lt hj, Array.getElem?_toList]
  simp [putCells, hj, show j < cur.size by omega]
 ·rw [List.getElem?_take_eq_none (by omega), List.getElem?_eq_none (by simp; omega)]
end
theorem sorted_drop {α : Type} [Inhabited α] (enc : α → Value) (cur : Array Value) (d : Array α) : (putCells enc 0 d cur).toList.drop d.size = cur.toList.drop d.size := by
 apply List.ext_getElem?
 intro j
 rw [List.getElem?_drop, List.getElem?_drop, Array.getElem?_toList, Array.getElem?_toList]
 have h : ¬ d.size + j < d.size := by omega
 simp [putCells, h]
theorem sortRows_world {w : World} {g cap : Nat} {e : TypeId} {cur : Array Value} (hb : w.heap[g]? = some (.cells cur e (0, 0))) (ys : List Value) (hn : 0 < ys.length) (hn2 : ys.length ≤ 1000) (hcur : cur.toList.take ys.length = ys) (hone : ∀ v ∈ ys, v.oneCell' = true) (ks : List (List Int))
  (hk : ∀ i, i < ys.length → ∃ b o c, ys.getD i Go.undef = .slice (some ⟨b, o, none⟩) (ks.getD i []).length c ∧ b ≠ g ∧ b < w.heap.size ∧ (ks.getD i []).length ≤ 1000000 ∧ ∀ j, j < (ks.getD i []).length → w.cell? ⟨b, o + j, none⟩ = some (.int .i64 ((ks.getD i [])[j]?.getD 0))) :
  Calls Tryz.prog 93 #[.slice (some ⟨g, 0, none⟩) ys.length cap, .func (.func 94) #[] #[]] w fun en w' => en = .returned (.tuple #[]) ∧ ∃ p : List Nat, p.Perm (List.range ys.length) ∧ p.Pairwise (fun a b => ¬ stc (ks.getD b []) (ks.getD a []) < 0) ∧
   (∃ cur', w'.heap[g]? = some (.cells cur' e (0, 0)) ∧ cur'.size = cur.size ∧ cur'.toList.take ys.length = (p.map fun i => ys.getD i Go.undef) ∧ cur'.toList.drop ys.length = cur.toList.drop ys.length) ∧ (∀ k, k < w.heap.size → k ≠ g → w'.heap[k]? = w.heap[k]?) ∧ w.heap.size ≤ w'.heap.size ∧ w'.os = w.os ∧ w'.tape = w.tape ∧ w'.output = w.output := by
 let ix : Nat → Nat := fun i => if i < ys.length then i else 0
 have hix : ∀ i, ix i < ys.length := fun i => by show (if i < ys.length then i else 0) < _; split <;> omega
 have hix' : ∀ i, i < ys.length → ix i = i := fun i hi => if_pos hi
 let enc : Nat → Value := fun i => ys.getD (ix i) Go.undef
 have hds : (List.range ys.length).toArray.size = ys.length := by simp
 have hcs : ys.length ≤ cur.size := by
  have := congrArg List.length hcur
  rw [List.length_take] at this
  simp at this; omega
 have h1 : OneCell enc := fun i => by
  refine hone _ ?_
  show ys.getD (ix i) Go.undef ∈ ys
  rw [List.getD_eq_getElem?_getD, List.getElem?_eq_getElem (hix i)]
  exact List.getElem_mem _
 have hH : Holds enc w g 0 (List.range ys.length).toArray := fun j hj => by
  rw [hds] at hj
  refine ⟨?_, by simp [World.frozen?, hb]⟩
  have h3 : (cur.toList.take ys.length)[j]? = ys[j]? := by rw [hcur]
  rw [List.getElem?_take_of_lt hj] at h3
  simp only [World.cell?, hb, Nat.zero_add]
  simp only [Option.isSome_none, Bool.false_eq_true, if_false]
  rw [← Array.getElem?_toList, h3]
  have : ((List.range ys.length).toArray)[j]! = j := by simp [hj]
  rw [this]
  show _ = some (ys.getD (ix j) Go.undef)
  rw [hix' j hj, List.getD_eq_getElem?_getD, List.getElem?_eq_getElem hj]; rfl
 have hcmp : CmpLays1 Tryz.prog 94 #[] enc (fun x y => stc (ks.getD (ix x) []) (ks.getD (ix y) [])) g 0 (List.range ys.length).toArray.size w := fun m os dk hdk x y => by
  obtain ⟨b1, o1, c1, e1, n1, l1, k1, q1⟩ := hk (ix x) (hix x)
  obtain ⟨b2, o2, c2, e2, n2, l2, k2, q2⟩ := hk (ix y) (hix y)
  have hcell : ∀ b o v, b ≠ g → b < w.heap.size → w.cell? ⟨b, o, none⟩ = some v → (sortWorld enc w g 0 m dk os).cell? ⟨b, o, none⟩ = some v := fun b o v hne hlt hc => by
   unfold World.cell? at hc ⊢
   rw [sorted_other enc dk hlt hne]; exact hc
  show Calls Tryz.prog 94 #[ys.getD (ix x) Go.undef, ys.getD (ix y) Go.undef] _ _
  rw [e1, e2]
  refine ((callsIn_wide (n := 3)).1 (stc_in Fence.wide 3 trivial trivial trivial trivial trivial trivial trivial rfl (by decide) b1 o1 c1 b2 o2 c2 _ _ k1 k2 _ (fun j hj => hcell _ _ _ n1 l1 (q1 j hj)) (fun j hj => hcell _ _ _ n2 l2 (q2 j hj)))).mono ?_
  rintro en w' ⟨rfl, o, rfl⟩
  exact ⟨rfl, 0, #[o], by rw [alloc_eq_grow]; rfl⟩
 have hcon := Any.slices_SortFunc sortRows enc h1 _ (stc_swo fun i => ks.getD (ix i) []) 94 #[] g 0 cap (List.range ys.length).toArray w (enters_of Tryz.func94 (by kernel_rfl) rfl) hcmp hH (Array.getElem?_eq_some_iff.1 hb).1 (by rw [hds]; omega)
 rw [hds] at hcon
 change Calls Tryz.prog 93 _ _ _ at hcon
 refine hcon.mono ?_
 rintro en w' ⟨rfl, d', nn, os, ⟨hs, _, hp⟩, hS, rfl⟩
 rw [hds] at hs
 have ed' : d'.extract 0 ys.length = d' := by rw [← hs]; simp
 have ed : (List.range ys.length).toArray.extract 0 ys.length = (List.range ys.length).toArray := by
  have := Array.extract_size (xs := (List.range ys.length).toArray)
  rwa [hds] at this
 rw [ed', ed] at hp
 refine ⟨rfl, d'.toList, hp, ?_, ⟨_, sorted_heap enc d' hb, by simp [putCells], ?_, by rw [← hs]; exact sorted_drop enc cur d'⟩, fun k hk hne => sorted_other enc d' hk hne, sorted_size enc d', rfl, rfl, rfl⟩
 ·have hlt : ∀ x ∈ d'.toList, x < ys.length := fun x hx => by simpa using hp.mem_iff.1 hx
  rw [List.pairwise_iff_getElem]
  intro i j hi hj hij
  have hj' : j < ys.length := by rw [← hs]; simpa using hj
  have h4 := hS i j (Nat.zero_le _) hij hj'
  have hgi : d'[i]! = d'.toList[i] := by rw [getElem!_pos d' i (by omega)]; simp
  have hgj : d'[j]! = d'.toList[j] := by rw [getElem!_pos d' j (by omega)]; simp
  rw [hgi, hgj] at h4
  unfold ltOf at h4
  have h4 := of_decide_eq_false h4
  dsimp only at h4
  rwa [hix' _ (hlt _ (List.getElem_mem hi)), hix' _ (hlt _ (List.getElem_mem hj))] at h4
 ·have h5 := sorted_take enc cur d' (by omega)
  rw [hs] at h5
  rw [h5]
  refine List.map_congr_left fun x hx => ?_
  show ys.getD (ix x) Go.undef = _
  rw [hix' x (by simpa using hp.mem_iff.1 hx)]
end Go.Proofs.YthbbjbfbeaiphaaGreat
end
