/- The law's function of WordToSet, walked. -/
import Derived.Test.YtpkddcjecfogeaaXWordToSetc
import Derived.Test.YtpkddcjecfogeaaWS
import Derived.Test.YtpkddcjecfogeaaEqM
import Derived.Test.YtpkddcjecfogeaaLO
import Derived.Test.YtpkddcjecfogeaaLA
import Derived.Test.YtpkddcjecfogeaaLB
import Derived.Test.YtpkddcjecfogeaaB
namespace Go.Proofs.Ytpkddcjecfogeaa
open Go.Kv
set_option linter.unusedVariables false
set_option linter.unusedSimpArgs false
attribute [local irreducible] ACall PCall KL
theorem hkt_WordToSet (σ : Heap) (K : PV → Heap → Prop) (l : List PV) : HK σ K (.tup l) = K (.tup l) σ := rfl
theorem p9_at (t0 : List (List Int)) (ht0 : t0.length ≤ 9223372036854775807) (hm0 : ∀ r ∈ t0, r.length = 6) (t1 : List Int) (ht1 : t1.length ≤ 9223372036854775807) (t2 : List Int) (ht2 : t2.length ≤ 9223372036854775807) {T : List Int} {r : Int} {w : PV} [hw : Still w] (him : ∀ σ, Imm σ w (.list (ints T))) (hs : t0.length ≤ 1048576 → t1.length ≤ 1048576 → t2.length ≤ 1048576 → Pure Try.prog 35 [.list (aggs t0), .list (ints t1), .list (ints t2)] (.tup [w, .int .i64 r])) (hi : t0.length ≤ 1048576 → t1.length ≤ 1048576 → t2.length ≤ 1048576 → NewIO Try.prog 37 [.list (aggs t0), .list (ints t1), .list (ints t2)] 2 T r) (hT : T.length ≤ 1048576) : Pure Try.prog 9 [.list (aggs t0), .list (ints t1), .list (ints t2)] (.bool true) := by
  refine e9 (by simp) fun _ _ => ?_
  simp only [k9, argEnv, take6, List.drop_zero, Int.cast_ofNat_Int, go_sem, ↓reduceIte, Nat.reduceEqDiff, Nat.reduceAdd, Nat.reduceMul, Nat.reduceLeDiff, Nat.reduceLT, Int.reduceLE, Int.reduceLT, reduceCtorEq]
  refine ⟨fun h => Kv.Fin.still ⟨rfl, rfl⟩, fun hz1 => ?_⟩
  have hq1 : t1.length ≤ 1048576 := by omega
  refine ⟨fun h => Kv.Fin.still ⟨rfl, rfl⟩, fun hz2 => ?_⟩
  have hq2 : t2.length ≤ 1048576 := by omega
  refine (p27 t0 _ ht0 (by omega)).go ?_
  try simp only [OpK_eq, bne_self_eq_false, hkt_WordToSet, take6, List.drop_zero, Int.cast_ofNat_Int, go_sem, ↓reduceIte, Nat.reduceEqDiff, Nat.reduceAdd, Nat.reduceMul, Nat.reduceLeDiff, Nat.reduceLT, Int.reduceLE, Int.reduceLT, reduceCtorEq]
  refine ⟨fun h => Kv.Fin.still ⟨rfl, rfl⟩, fun hz0 => ?_⟩
  obtain ⟨hq0, hz00, hz10⟩ := szA_all t0.length _ (by omega) hz0
  have hs := hs hq0 hq1 hq2
  have hi := hi hq0 hq1 hq2
  refine Pure.go (r := .list (aggs t0)) (p29 t0 hq0 hm0) ?_
  try simp only [OpK_eq, bne_self_eq_false, hkt_WordToSet, take6, List.drop_zero, Int.cast_ofNat_Int, go_sem, ↓reduceIte, Nat.reduceEqDiff, Nat.reduceAdd, Nat.reduceMul, Nat.reduceLeDiff, Nat.reduceLT, Int.reduceLE, Int.reduceLT, reduceCtorEq]
  refine Pure.go (r := .list (ints t1)) (p36 t1 hq1) ?_
  try simp only [OpK_eq, bne_self_eq_false, hkt_WordToSet, take6, List.drop_zero, Int.cast_ofNat_Int, go_sem, ↓reduceIte, Nat.reduceEqDiff, Nat.reduceAdd, Nat.reduceMul, Nat.reduceLeDiff, Nat.reduceLT, Int.reduceLE, Int.reduceLT, reduceCtorEq]
  refine Pure.go (r := .list (ints t2)) (p36 t2 hq2) ?_
  try simp only [OpK_eq, bne_self_eq_false, hkt_WordToSet, take6, List.drop_zero, Int.cast_ofNat_Int, go_sem, ↓reduceIte, Nat.reduceEqDiff, Nat.reduceAdd, Nat.reduceMul, Nat.reduceLeDiff, Nat.reduceLT, Int.reduceLE, Int.reduceLT, reduceCtorEq]
  first | refine hs.go ?_ | refine hs.pgo ?_
  try simp only [OpK_eq, bne_self_eq_false, hkt_WordToSet, take6, List.drop_zero, Int.cast_ofNat_Int, go_sem, ↓reduceIte, Nat.reduceEqDiff, Nat.reduceAdd, Nat.reduceMul, Nat.reduceLeDiff, Nat.reduceLT, Int.reduceLE, Int.reduceLT, reduceCtorEq]
  refine p29O t0 hq0 hm0 fun xa0 σ1 o_a0 k1 l1 => ?_
  try simp only [OpK_eq, bne_self_eq_false, hkt_WordToSet, take6, List.drop_zero, Int.cast_ofNat_Int, go_sem, ↓reduceIte, Nat.reduceEqDiff, Nat.reduceAdd, Nat.reduceMul, Nat.reduceLeDiff, Nat.reduceLT, Int.reduceLE, Int.reduceLT, reduceCtorEq]
  refine p36O t1 hq1 fun xa1 σ2 o_a1 k2 l2 => ?_
  replace o_a0 := o_a0.keep fun j h1 h2 => k2 j (by first | omega | (simp at *; omega))
  try simp only [OpK_eq, bne_self_eq_false, hkt_WordToSet, take6, List.drop_zero, Int.cast_ofNat_Int, go_sem, ↓reduceIte, Nat.reduceEqDiff, Nat.reduceAdd, Nat.reduceMul, Nat.reduceLeDiff, Nat.reduceLT, Int.reduceLE, Int.reduceLT, reduceCtorEq]
  refine p36O t2 hq2 fun xa2 σ3 o_a2 k3 l3 => ?_
  replace o_a0 := o_a0.keep fun j h1 h2 => k3 j (by first | omega | (simp at *; omega))
  replace o_a1 := o_a1.keep fun j h1 h2 => k3 j (by first | omega | (simp at *; omega))
  try simp only [OpK_eq, bne_self_eq_false, hkt_WordToSet, take6, List.drop_zero, Int.cast_ofNat_Int, go_sem, ↓reduceIte, Nat.reduceEqDiff, Nat.reduceAdd, Nat.reduceMul, Nat.reduceLeDiff, Nat.reduceLT, Int.reduceLE, Int.reduceLT, reduceCtorEq]
  refine hi.lend (.cons o_a0.imm (.cons o_a1.imm (.cons o_a2.imm (.nil _)))) fun xg σ4 o_g k4 l4 => ?_
  replace o_a0 := o_a0.keep fun j h1 h2 => k4 j (by first | omega | (simp at *; omega))
  replace o_a1 := o_a1.keep fun j h1 h2 => k4 j (by first | omega | (simp at *; omega))
  replace o_a2 := o_a2.keep fun j h1 h2 => k4 j (by first | omega | (simp at *; omega))
  try simp only [OpK_eq, bne_self_eq_false, hkt_WordToSet, take6, List.drop_zero, Int.cast_ofNat_Int, go_sem, ↓reduceIte, Nat.reduceEqDiff, Nat.reduceAdd, Nat.reduceMul, Nat.reduceLeDiff, Nat.reduceLT, Int.reduceLE, Int.reduceLT, reduceCtorEq]
  refine (p17 T T (by omega) (by omega)).lend (.cons o_g.imm (.cons (him _) (.nil _))) ?_
  try simp only [OpK_eq, bne_self_eq_false, hkt_WordToSet, take6, List.drop_zero, Int.cast_ofNat_Int, go_sem, ↓reduceIte, Nat.reduceEqDiff, Nat.reduceAdd, Nat.reduceMul, Nat.reduceLeDiff, Nat.reduceLT, Int.reduceLE, Int.reduceLT, reduceCtorEq]
  refine Pure.go (r := .list (aggs t0)) (p29 t0 hq0 hm0) ?_
  try simp only [OpK_eq, bne_self_eq_false, hkt_WordToSet, take6, List.drop_zero, Int.cast_ofNat_Int, go_sem, ↓reduceIte, Nat.reduceEqDiff, Nat.reduceAdd, Nat.reduceMul, Nat.reduceLeDiff, Nat.reduceLT, Int.reduceLE, Int.reduceLT, reduceCtorEq]
  refine (p31 t0 t0 (by omega) (by omega) hm0 hm0).lend (.cons o_a0.imm (.cons Imm.still (.nil _))) ?_
  try simp only [OpK_eq, bne_self_eq_false, hkt_WordToSet, take6, List.drop_zero, Int.cast_ofNat_Int, go_sem, ↓reduceIte, Nat.reduceEqDiff, Nat.reduceAdd, Nat.reduceMul, Nat.reduceLeDiff, Nat.reduceLT, Int.reduceLE, Int.reduceLT, reduceCtorEq]
  refine Pure.go (r := .list (ints t1)) (p36 t1 hq1) ?_
  try simp only [OpK_eq, bne_self_eq_false, hkt_WordToSet, take6, List.drop_zero, Int.cast_ofNat_Int, go_sem, ↓reduceIte, Nat.reduceEqDiff, Nat.reduceAdd, Nat.reduceMul, Nat.reduceLeDiff, Nat.reduceLT, Int.reduceLE, Int.reduceLT, reduceCtorEq]
  refine (p17 t1 t1 (by omega) (by omega)).lend (.cons o_a1.imm (.cons Imm.still (.nil _))) ?_
  try simp only [OpK_eq, bne_self_eq_false, hkt_WordToSet, take6, List.drop_zero, Int.cast_ofNat_Int, go_sem, ↓reduceIte, Nat.reduceEqDiff, Nat.reduceAdd, Nat.reduceMul, Nat.reduceLeDiff, Nat.reduceLT, Int.reduceLE, Int.reduceLT, reduceCtorEq]
  refine Pure.go (r := .list (ints t2)) (p36 t2 hq2) ?_
  try simp only [OpK_eq, bne_self_eq_false, hkt_WordToSet, take6, List.drop_zero, Int.cast_ofNat_Int, go_sem, ↓reduceIte, Nat.reduceEqDiff, Nat.reduceAdd, Nat.reduceMul, Nat.reduceLeDiff, Nat.reduceLT, Int.reduceLE, Int.reduceLT, reduceCtorEq]
  refine (p17 t2 t2 (by omega) (by omega)).lend (.cons o_a2.imm (.cons Imm.still (.nil _))) ?_
  try simp only [OpK_eq, bne_self_eq_false, hkt_WordToSet, take6, List.drop_zero, Int.cast_ofNat_Int, go_sem, ↓reduceIte, Nat.reduceEqDiff, Nat.reduceAdd, Nat.reduceMul, Nat.reduceLeDiff, Nat.reduceLT, Int.reduceLE, Int.reduceLT, reduceCtorEq]
  refine p34O o_a0 1 (by omega) hm0 (by omega) fun σ5 o_a0' k5 l5 => ?_
  replace o_a1 := o_a1.keep fun j h1 h2 => k5 j (by first | omega | (simp at *; omega))
  replace o_a2 := o_a2.keep fun j h1 h2 => k5 j (by first | omega | (simp at *; omega))
  replace o_g := o_g.keep fun j h1 h2 => k5 j (by first | omega | (simp at *; omega))
  replace o_a0 := o_a0'
  clear o_a0'
  try simp only [OpK_eq, bne_self_eq_false, hkt_WordToSet, take6, List.drop_zero, Int.cast_ofNat_Int, go_sem, ↓reduceIte, Nat.reduceEqDiff, Nat.reduceAdd, Nat.reduceMul, Nat.reduceLeDiff, Nat.reduceLT, Int.reduceLE, Int.reduceLT, reduceCtorEq]
  refine p18O o_a1 _ (by omega) (by omega) fun σ6 o_a1' k6 l6 => ?_
  replace o_a0 := o_a0.keep fun j h1 h2 => k6 j (by first | omega | (simp at *; omega))
  replace o_a2 := o_a2.keep fun j h1 h2 => k6 j (by first | omega | (simp at *; omega))
  replace o_g := o_g.keep fun j h1 h2 => k6 j (by first | omega | (simp at *; omega))
  replace o_a1 := o_a1'
  clear o_a1'
  try simp only [OpK_eq, bne_self_eq_false, hkt_WordToSet, take6, List.drop_zero, Int.cast_ofNat_Int, go_sem, ↓reduceIte, Nat.reduceEqDiff, Nat.reduceAdd, Nat.reduceMul, Nat.reduceLeDiff, Nat.reduceLT, Int.reduceLE, Int.reduceLT, reduceCtorEq]
  refine p18O o_a2 _ (by omega) (by omega) fun σ7 o_a2' k7 l7 => ?_
  replace o_a0 := o_a0.keep fun j h1 h2 => k7 j (by first | omega | (simp at *; omega))
  replace o_a1 := o_a1.keep fun j h1 h2 => k7 j (by first | omega | (simp at *; omega))
  replace o_g := o_g.keep fun j h1 h2 => k7 j (by first | omega | (simp at *; omega))
  replace o_a2 := o_a2'
  clear o_a2'
  try simp only [OpK_eq, bne_self_eq_false, hkt_WordToSet, take6, List.drop_zero, Int.cast_ofNat_Int, go_sem, ↓reduceIte, Nat.reduceEqDiff, Nat.reduceAdd, Nat.reduceMul, Nat.reduceLeDiff, Nat.reduceLT, Int.reduceLE, Int.reduceLT, reduceCtorEq]
  repeat' (first | refine And.intro ?_ ?_ | intro _)
  all_goals (try omega)
  refine (p17 T T (by omega) (by omega)).lend (.cons o_g.imm (.cons (him _) (.nil _))) ?_
  try simp only [OpK_eq, bne_self_eq_false, hkt_WordToSet, take6, List.drop_zero, Int.cast_ofNat_Int, go_sem, ↓reduceIte, Nat.reduceEqDiff, Nat.reduceAdd, Nat.reduceMul, Nat.reduceLeDiff, Nat.reduceLT, Int.reduceLE, Int.reduceLT, reduceCtorEq]
  refine p18O o_g 1 (by omega) (by omega) fun σ8 o_g' k8 l8 => ?_
  replace o_a0 := o_a0.keep fun j h1 h2 => k8 j (by first | omega | (simp at *; omega))
  replace o_a1 := o_a1.keep fun j h1 h2 => k8 j (by first | omega | (simp at *; omega))
  replace o_a2 := o_a2.keep fun j h1 h2 => k8 j (by first | omega | (simp at *; omega))
  replace o_g := o_g'
  clear o_g'
  try simp only [OpK_eq, bne_self_eq_false, hkt_WordToSet, take6, List.drop_zero, Int.cast_ofNat_Int, go_sem, ↓reduceIte, Nat.reduceEqDiff, Nat.reduceAdd, Nat.reduceMul, Nat.reduceLeDiff, Nat.reduceLT, Int.reduceLE, Int.reduceLT, reduceCtorEq]
  refine (p19 1 T.length (by omega) (by omega)).lend (.cons o_g.imm (.cons Imm.still (.nil _))) ?_
  try simp only [OpK_eq, bne_self_eq_false, hkt_WordToSet, take6, List.drop_zero, Int.cast_ofNat_Int, go_sem, ↓reduceIte, Nat.reduceEqDiff, Nat.reduceAdd, Nat.reduceMul, Nat.reduceLeDiff, Nat.reduceLT, Int.reduceLE, Int.reduceLT, reduceCtorEq]
  repeat' (first | refine And.intro ?_ ?_ | intro _)
  all_goals (try omega)
  refine Pure.go (r := .list (aggs t0)) (p29 t0 hq0 hm0) ?_
  try simp only [OpK_eq, bne_self_eq_false, hkt_WordToSet, take6, List.drop_zero, Int.cast_ofNat_Int, go_sem, ↓reduceIte, Nat.reduceEqDiff, Nat.reduceAdd, Nat.reduceMul, Nat.reduceLeDiff, Nat.reduceLT, Int.reduceLE, Int.reduceLT, reduceCtorEq]
  refine Pure.go (r := .list (ints t1)) (p36 t1 hq1) ?_
  try simp only [OpK_eq, bne_self_eq_false, hkt_WordToSet, take6, List.drop_zero, Int.cast_ofNat_Int, go_sem, ↓reduceIte, Nat.reduceEqDiff, Nat.reduceAdd, Nat.reduceMul, Nat.reduceLeDiff, Nat.reduceLT, Int.reduceLE, Int.reduceLT, reduceCtorEq]
  refine Pure.go (r := .list (ints t2)) (p36 t2 hq2) ?_
  try simp only [OpK_eq, bne_self_eq_false, hkt_WordToSet, take6, List.drop_zero, Int.cast_ofNat_Int, go_sem, ↓reduceIte, Nat.reduceEqDiff, Nat.reduceAdd, Nat.reduceMul, Nat.reduceLeDiff, Nat.reduceLT, Int.reduceLE, Int.reduceLT, reduceCtorEq]
  refine hi.lend (.still inferInstance) fun xh σ9 o_h k9 l9 => ?_
  replace o_a0 := o_a0.keep fun j h1 h2 => k9 j (by first | omega | (simp at *; omega))
  replace o_a1 := o_a1.keep fun j h1 h2 => k9 j (by first | omega | (simp at *; omega))
  replace o_a2 := o_a2.keep fun j h1 h2 => k9 j (by first | omega | (simp at *; omega))
  replace o_g := o_g.keep fun j h1 h2 => k9 j (by first | omega | (simp at *; omega))
  try simp only [OpK_eq, bne_self_eq_false, hkt_WordToSet, take6, List.drop_zero, Int.cast_ofNat_Int, go_sem, ↓reduceIte, Nat.reduceEqDiff, Nat.reduceAdd, Nat.reduceMul, Nat.reduceLeDiff, Nat.reduceLT, Int.reduceLE, Int.reduceLT, reduceCtorEq]
  refine (p17 T T (by omega) (by omega)).lend (.cons o_h.imm (.cons (him _) (.nil _))) ?_
  try simp only [OpK_eq, bne_self_eq_false, hkt_WordToSet, take6, List.drop_zero, Int.cast_ofNat_Int, go_sem, ↓reduceIte, Nat.reduceEqDiff, Nat.reduceAdd, Nat.reduceMul, Nat.reduceLeDiff, Nat.reduceLT, Int.reduceLE, Int.reduceLT, reduceCtorEq]
  refine (p19 1 T.length (by omega) (by omega)).lend (.cons o_g.imm (.cons Imm.still (.nil _))) ?_
  try simp only [OpK_eq, bne_self_eq_false, hkt_WordToSet, take6, List.drop_zero, Int.cast_ofNat_Int, go_sem, ↓reduceIte, Nat.reduceEqDiff, Nat.reduceAdd, Nat.reduceMul, Nat.reduceLeDiff, Nat.reduceLT, Int.reduceLE, Int.reduceLT, reduceCtorEq]
  repeat' (first | refine And.intro ?_ ?_ | intro _)
  all_goals (try omega)
  exact Kv.Fin.still ⟨rfl, rfl⟩
theorem wq_grow {fs : List (List Nat)} {P : List Int} {i : Nat} (h : i < (wq fs P i).length) : i + 1 ≤ (wq fs P (i + 1)).length := by
  have e : wq fs P (i + 1) = advN fs img (wq fs P i) (wq fs P i)[i] fs.length := congrArg Prod.fst (bq_succ h)
  rw [e]
  have := advN_mono fs img (wq fs P i) (wq fs P i)[i] (Nat.zero_le fs.length)
  have e0 : advN fs img (wq fs P i) (wq fs P i)[i] 0 = wq fs P i := rfl
  rw [e0] at this
  omega
theorem wq_stop {fs : List (List Nat)} {P : List Int} {i : Nat} (h : i = (wq fs P i).length) : ∀ d, wq fs P (i + d) = wq fs P i
  | 0 => rfl
  | d + 1 => by
    have ih := wq_stop h d
    have e : wq fs P (i + d + 1) = wq fs P (i + d) := by
      show (bq fs img (fun (_ : Unit) _ => ()) ([(P, [])], ()) (i + d + 1)).1 = _
      rw [bq]
      have : (bq fs img (fun (_ : Unit) _ => ()) ([(P, [])], ()) (i + d)).1[i + d]? = none := by
        have hl : (bq fs img (fun (_ : Unit) _ => ()) ([(P, [])], ()) (i + d)).1.length = (wq fs P i).length := congrArg List.length ih
        exact List.getElem?_eq_none (by omega)
      rw [this]
    rw [← Nat.add_assoc, e, ih]
/-- The first place of a set in the search, or none. -/
theorem wq_first {fs : List (List Nat)} {P Q : List Int} (hN : ∀ i, (wq fs P i).length ≤ 32) :
    (∃ i, ∃ h : i < (wq fs P i).length, (wq fs P i)[i].1 = Q ∧ ∀ j (h : j < (wq fs P j).length), j < i → (wq fs P j)[j].1 ≠ Q) ∨
    (∃ i, i = (wq fs P i).length ∧ ∀ j (h : j < (wq fs P j).length), j < i → (wq fs P j)[j].1 ≠ Q) := by
  refine Classical.byContradiction fun hno => ?_
  have key : ∀ t, t ≤ (wq fs P t).length ∧ ∀ j (h : j < (wq fs P j).length), j < t → (wq fs P j)[j].1 ≠ Q := fun t => by
    induction t with
    | zero => exact ⟨Nat.zero_le _, fun j _ h => by omega⟩
    | succ t ih =>
      obtain ⟨h1, h2⟩ := ih
      by_cases e : t = (wq fs P t).length
      · exact absurd (.inr ⟨t, e, h2⟩) hno
      · have hlt : t < (wq fs P t).length := by omega
        by_cases e2 : (wq fs P t)[t].1 = Q
        · exact absurd (.inl ⟨t, hlt, e2, h2⟩) hno
        · refine ⟨wq_grow hlt, fun j h hj => ?_⟩
          by_cases e3 : j = t
          · subst e3; exact e2
          · exact h2 j h (by omega)
  have h1 := (key 33).1
  have h2 := hN 33
  omega
theorem p9 (a : List (List Int)) (ha : a.length ≤ 9223372036854775807) (h6 : ∀ r ∈ a, r.length = 6) (P : List Int) (hP : P.length ≤ 9223372036854775807) (Q : List Int) (hQ : Q.length ≤ 9223372036854775807) : Pure Try.prog 9 [.list (aggs a), .list (ints P), .list (ints Q)] (.bool true) := by
  by_cases hc : wcd a P Q = 0
  · have hfs : fsc a P = 0 := by
      unfold wcd at hc
      by_cases h : fsc a P = 0
      · exact h
      · rw [if_pos h] at hc; exact absurd hc h
    obtain ⟨hl, hbP⟩ := fsc_zero hfs
    have hbQ : bad Q ((a.getD 0 []).getD 0 0) = false := by
      rw [wcd, if_neg (by simp [hfs])] at hc
      cases hb : bad Q ((a.getD 0 []).getD 0 0) with
      | false => rfl
      | true => rw [hb] at hc; simp at hc
    obtain ⟨fs, n, rfl, hf, hl1, hl2, hn, hn1, hn5⟩ := lcode_maps h6 hl
    rw [hn] at hbP hbQ
    have haP := bad_asc hbP
    have haQ := bad_asc hbQ
    have hN := wq_len hn5 hf haP
    rcases wq_first (Q := Q) hN with ⟨i, hi, his, hno⟩ | ⟨i, hi, hno⟩
    · have hwl : (wq fs P i)[i].2.length ≤ 1048576 := by
        have key : ∀ t, ∀ m ∈ wq fs P t, m.2.length ≤ t := fun t => by
          induction t with
          | zero =>
            intro m hm
            have hm : m ∈ [((P, []) : Met)] := hm
            simp only [List.mem_singleton] at hm; subst hm; simp
          | succ t ih =>
            by_cases ht : t < (wq fs P t).length
            · have e : wq fs P (t + 1) = advN fs img (wq fs P t) (wq fs P t)[t] fs.length := congrArg Prod.fst (bq_succ ht)
              have hmt := ih _ (List.getElem_mem ht)
              rw [e]
              have key2 : ∀ k, ∀ m ∈ advN fs img (wq fs P t) (wq fs P t)[t] k, m.2.length ≤ t + 1 := fun k => by
                induction k with
                | zero => intro m hm; have := ih m hm; omega
                | succ k ihk =>
                  intro m hm
                  rw [advN_succ] at hm
                  split at hm
                  · exact ihk m hm
                  · rcases List.mem_append.1 hm with hm | hm
                    · exact ihk m hm
                    · simp only [List.mem_singleton] at hm; subst hm
                      simp only [List.length_append, List.length_singleton]; omega
              exact key2 _
            · have e : wq fs P (t + 1) = wq fs P t := by
                show (bq fs img (fun (_ : Unit) _ => ()) ([(P, [])], ()) (t + 1)).1 = _
                rw [bq]
                have : (bq fs img (fun (_ : Unit) _ => ()) ([(P, [])], ()) t).1[t]? = none := List.getElem?_eq_none (Nat.le_of_not_lt ht)
                rw [this]
              rw [e]; intro m hm; have := ih m hm; omega
        have h1 := key i _ (List.getElem_mem hi)
        have h2 := hN i
        omega
      have huni : ∀ i' (h' : i' < (wq fs P i').length), (wq fs P i')[i'].1 = Q → (∀ j (h : j < (wq fs P j).length), j < i' → (wq fs P j)[j].1 ≠ Q) → (wq fs P i')[i'].2 = (wq fs P i)[i].2 := fun i' h' q1 q2 => by
        rcases Nat.lt_trichotomy i' i with hlt | rfl | hlt
        · exact absurd q1 (hno i' h' hlt)
        · rfl
        · exact absurd his (q2 i hi hlt)
      have hend : ∀ i', i' = (wq fs P i').length → (∀ j (h : j < (wq fs P j).length), j < i' → (wq fs P j)[j].1 ≠ Q) → False := fun i' q1 q2 => by
        by_cases hlt : i < i'
        · exact q2 i hi hlt his
        · have := wq_stop q1 (i - i')
          rw [show i' + (i - i') = i by omega] at this
          rw [this] at hi
          omega
      refine p9_at _ ha h6 P hP Q hQ (T := (wq fs P i)[i].2) (r := 0) (fun _ => Imm.still) (fun _ _ _ => ?_) (fun _ _ _ => ?_) hwl
      · exact p35_in fs n hf (by omega) hl2 hn5 P Q hc haP haQ _ (fun i' h' q1 q2 => ⟨by rw [huni i' h' q1 q2], rfl⟩) (fun i' q1 q2 => (hend i' q1 q2).elim)
      · exact p37_in fs n hf (by omega) hl2 hl P Q hbP hbQ _ (fun i' h' q1 q2 x s hx hs => ⟨x, rfl, by rw [← huni i' h' q1 q2]; exact hx, hs⟩) (fun i' q1 q2 => (hend i' q1 q2).elim)
    · have hin : ∀ i' (h' : i' < (wq fs P i').length), (wq fs P i')[i'].1 = Q → (∀ j (h : j < (wq fs P j).length), j < i' → (wq fs P j)[j].1 ≠ Q) → False := fun i' h' q1 q2 => by
        by_cases hlt : i' < i
        · exact hno i' h' hlt q1
        · have := wq_stop hi (i' - i)
          rw [show i + (i' - i) = i' by omega] at this
          rw [this] at h'
          omega
      refine p9_at _ ha h6 P hP Q hQ (T := []) (w := .nils) (fun _ => Imm.nils) (fun _ _ _ => ?_) (fun _ _ _ => Pure.ownI ?_) (by simp) (r := 4)
      · exact p35_in fs n hf (by omega) hl2 hn5 P Q hc haP haQ _ (fun i' h' q1 q2 => (hin i' h' q1 q2).elim) (fun i' q1 q2 => ⟨rfl, rfl⟩)
      · exact p37_in fs n hf (by omega) hl2 hl P Q hbP hbQ _ (fun i' h' q1 q2 x s hx hs => (hin i' h' q1 q2).elim) (fun i' q1 q2 => ⟨rfl, rfl⟩)
  · exact p9_at a ha h6 P hP Q hQ (T := []) (w := .nils) (fun _ => Imm.nils) (fun h1 h2 h3 => p35_out a P Q h1 h6 h2 h3 hc) (fun h1 h2 h3 => Pure.ownI (p37_out a P Q h1 h6 h2 h3 hc)) (by simp)
end Go.Proofs.Ytpkddcjecfogeaa
