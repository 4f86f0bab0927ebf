/- The draws of roots. -/
import Derived.Test.YtpfapiiinkkcgaaGreatDS
namespace Go.Proofs.YtpfapiiinkkcgaaGreat
open Go.Kv
set_option linter.unusedVariables false
set_option linter.unusedSimpArgs false
attribute [local irreducible] ACall PCall KL
theorem p134 {l : List Int} (hl : Byt l) {K : PV → Heap → Prop} (hK : ∀ (m : List Int) (k : Int), m.length = 6 → K (.tup [.agg (ints m), .int .i64 k]) []) : ACall Tryz.prog 134 [.list (u8s l)] [] K := by
  refine e134 (by simp) fun _ _ => ?_
  simp only [k134, argEnv, take6, List.drop_zero, Int.cast_ofNat_Int, go_sem, ↓reduceIte, Nat.reduceEqDiff, Nat.reduceAdd, Nat.reduceMul, Nat.reduceLeDiff, Nat.reduceLT, Int.reduceLE, Int.reduceLT, reduceCtorEq]
  generalize hz : AObj.box [PV.int .i64 0, PV.int .i64 0, PV.int .i64 0, PV.int .i64 0, PV.int .i64 0, PV.int .i64 0] = z
  refine p68G hl fun h => ?_
  have hS0 : Src ([z] ++ [srcO l 0 h]) 1 l := ⟨0, h, rfl, Nat.zero_le _⟩
  try simp only [OpK_eq, HKv, take6, List.drop_zero, Int.cast_ofNat_Int, go_sem, ↓reduceIte, Nat.reduceEqDiff, Nat.reduceAdd, Nat.reduceMul, Nat.reduceLeDiff, Nat.reduceLT, Int.reduceLE, Int.reduceLT, reduceCtorEq]
  refine p122S hl hS0 fun m τ q1 ⟨f, n, hf, hm⟩ q3 q4 => ?_
  have hτz : τ[0]? = some z := (q4.2 0 (by simp) (by decide)).trans rfl
  subst hm
  try simp only [OpK_eq, HKv, take6, List.drop_zero, Int.cast_ofNat_Int, go_sem, ↓reduceIte, Nat.reduceEqDiff, Nat.reduceAdd, Nat.reduceMul, Nat.reduceLeDiff, Nat.reduceLT, Int.reduceLE, Int.reduceLT, reduceCtorEq]
  refine p76 hl (q3.app _) [1, 2, 2, 3, 4, 6] (by simp) (id := τ.length) (ver := 0) (e := 2) (by simp [ints]) (by have := q3.lt; omega) 6 rfl fun r ρ w1 w2 w3 w4 => ?_
  have hr : ∃ k : Nat, r = k ∧ k ≤ 6 := by
    simp only [List.mem_cons, List.not_mem_nil, or_false] at w1
    exact ⟨r.toNat, by omega, by omega⟩
  obtain ⟨k, rfl, hk6⟩ := hr
  have hτ1 := q3.lt
  have hρz : ρ[0]? = some z := (w3.2 0 (by simp) (by decide)).trans ((List.getElem?_append_left (by omega)).trans hτz)
  have hρ1 := w2.lt
  have hgb : ∀ (s : Heap) (a : AObj), (s ++ [a])[s.length]? = some a := fun s a => by simp
  have hsb : ∀ (s : Heap) (a b : AObj), (s ++ [a]).set s.length b = s ++ [b] := fun s a b => by simp [List.set_append_right]
  have hil : (ints (mp f)).length = 6 := by rw [ints_length, q1]
  try simp only [OpK_eq, HKv, hgb, hsb, hil, q1, take6, List.drop_zero, Int.cast_ofNat_Int, go_sem, ↓reduceIte, Nat.reduceEqDiff, Nat.reduceAdd, Nat.reduceMul, Nat.reduceLeDiff, Nat.reduceLT, Int.reduceLE, Int.reduceLT, reduceCtorEq]
  refine p124 hl (w2.app _) _ fun r2 χ n1 n2 n3 n4 n5 => ?_
  have hχz : χ[0]? = some z := (n4.2 0 (by simp) (by decide)).trans ((List.getElem?_append_left (by omega)).trans hρz)
  have hχf : χ[ρ.length]? = some (.box (ints (mp f))) := (n4.2 _ (by simp) (by omega)).trans (hgb _ _)
  clear w1 w3 w4 n4 n5 hτz hρz q4 hS0
  have hχl := (List.getElem?_eq_some_iff.1 hχf).1
  -- what is left, whatever map stands in the box
  have h6k := (itM_ok hf k).mp_len
  have hil2 : (ints (mp (itM f n k))).length = 6 := by rw [ints_length, h6k]
  try simp only [OpK_eq, HKv, hχf, hil, q1, take6, List.drop_zero, Int.cast_ofNat_Int, go_sem, ↓reduceIte, Nat.reduceEqDiff, Nat.reduceAdd, Nat.reduceMul, Nat.reduceLeDiff, Nat.reduceLT, Int.reduceLE, Int.reduceLT, reduceCtorEq]
  have hpt : ∀ g, Ok g n → 0 ≤ (mp g).getD 0 0 ∧ (mp g).getD 0 0 ≤ 5 := fun g hg => by
    have : (mp g).getD 0 0 = (g.length : Int) := rfl
    have := hg.le
    have := hg.len
    omega
  refine ⟨fun _ => ?_, fun _ => ?_⟩
  refine (p92 f n k hf (by omega)).go ?_
  have s1 : Src (χ.set ρ.length (.box (ints (mp (itM f n k))))) 1 l := n3.keep (List.getElem?_set_ne (by omega))
  have sz : (χ.set ρ.length (.box (ints (mp (itM f n k)))))[0]? = some z := (List.getElem?_set_ne (by omega)).trans hχz
  have sf : (χ.set ρ.length (.box (ints (mp (itM f n k)))))[ρ.length]? = some (.box (ints (mp (itM f n k)))) := List.getElem?_set_self hχl
  try simp only [OpK_eq, HKv, hil2, h6k, hχf, hil, take6, List.drop_zero, Int.cast_ofNat_Int, go_sem, ↓reduceIte, Nat.reduceEqDiff, Nat.reduceAdd, Nat.reduceMul, Nat.reduceLeDiff, Nat.reduceLT, Int.reduceLE, Int.reduceLT, reduceCtorEq]
  obtain ⟨χ1, e1⟩ : ∃ χ1, χ1 = χ.set ρ.length (.box (ints (mp (itM f n k)))) := ⟨_, rfl⟩
  rw [← e1] at s1 sz sf ⊢
  have hg := itM_ok hf k
  obtain ⟨g, e2⟩ : ∃ g, g = itM f n k := ⟨_, rfl⟩
  rw [← e2] at sf hg
  clear e1 e2
  rotate_left
  have s1 := n3
  have sz := hχz
  have sf := hχf
  have hg := hf
  obtain ⟨χ1, e1⟩ : ∃ χ1, χ1 = χ := ⟨_, rfl⟩
  obtain ⟨g, e2⟩ : ∃ g, g = f := ⟨_, rfl⟩
  rw [← e1] at s1 sz sf ⊢
  rw [← e2] at sf hg
  clear e1 e2
  all_goals clear hχf hχz n3 hil2 h6k hf hil q1
  all_goals refine p124 hl s1 _ fun r3 χ2 v1 v2 v3 v4 v5 => ?_
  all_goals have hlf := (List.getElem?_eq_some_iff.1 sf).1
  all_goals have hz2 := (v4.2 0 (by omega) (by decide)).trans sz
  all_goals have hf2 := (v4.2 _ hlf (by omega)).trans sf
  all_goals have h6g := hg.mp_len
  all_goals have hilg : (ints (mp g)).length = 6 := by rw [ints_length, h6g]
  all_goals try simp only [OpK_eq, HKv, hf2, hilg, h6g, take6, List.drop_zero, Int.cast_ofNat_Int, go_sem, ↓reduceIte, Nat.reduceEqDiff, Nat.reduceAdd, Nat.reduceMul, Nat.reduceLeDiff, Nat.reduceLT, Int.reduceLE, Int.reduceLT, reduceCtorEq]
  all_goals clear v4 v5 s1 sz sf
  all_goals refine ⟨fun _ => ?_, fun _ => ?_⟩
  all_goals have hl2 := (List.getElem?_eq_some_iff.1 hf2).1
  all_goals first
    | (refine p76 hl (v3.app _) [0, 7, -1] (by simp) (id := χ2.length) (ver := 0) (e := 2) (by simp [ints]) (by have := v3.lt; omega) 3 rfl fun r5 χ3 x1 x2 x3 x4 => ?_
       have hz3 := (x3.2 0 (by rw [List.length_append]; omega) (by decide)).trans ((List.getElem?_append_left (by omega)).trans hz2)
       have hf3 := (x3.2 _ (by rw [List.length_append]; omega) (by omega)).trans ((List.getElem?_append_left hl2).trans hf2)
       try simp only [OpK_eq, HKv, hf3, hilg, h6g, take6, List.drop_zero, Int.cast_ofNat_Int, go_sem, ↓reduceIte, Nat.reduceEqDiff, Nat.reduceAdd, Nat.reduceMul, Nat.reduceLeDiff, Nat.reduceLT, Int.reduceLE, Int.reduceLT, reduceCtorEq]
       refine p126 hl x2 (mp g) h6g (hpt g hg) fun m ξ y1 y2 y3 => ?_
       have hl3 := (List.getElem?_eq_some_iff.1 hz3).1
       have hz4 := (y3.2 0 hl3 (by decide)).trans hz3
       have hself : ∀ o, (ξ.set 0 o)[0]? = some o := fun o => List.getElem?_set_self (List.getElem?_eq_some_iff.1 hz4).1
       have hilm : (ints m).length = 6 := by rw [ints_length, y1]
       subst hz
       try simp only [OpK_eq, HKv, hz4, hself, hilm, take6, List.drop_zero, Int.cast_ofNat_Int, go_sem, ↓reduceIte, Nat.reduceEqDiff, Nat.reduceAdd, Nat.reduceMul, Nat.reduceLeDiff, Nat.reduceLT, Int.reduceLE, Int.reduceLT, reduceCtorEq]
       exact Kv.Fin.still (hK m r5 y1))
    | (refine p126 hl v3 (mp g) h6g (hpt g hg) fun m ξ y1 y2 y3 => ?_
       have hl3 := (List.getElem?_eq_some_iff.1 hz2).1
       have hz4 := (y3.2 0 hl3 (by decide)).trans hz2
       have hself : ∀ o, (ξ.set 0 o)[0]? = some o := fun o => List.getElem?_set_self (List.getElem?_eq_some_iff.1 hz4).1
       have hilm : (ints m).length = 6 := by rw [ints_length, y1]
       subst hz
       try simp only [OpK_eq, HKv, hz4, hself, hilm, take6, List.drop_zero, Int.cast_ofNat_Int, go_sem, ↓reduceIte, Nat.reduceEqDiff, Nat.reduceAdd, Nat.reduceMul, Nat.reduceLeDiff, Nat.reduceLT, Int.reduceLE, Int.reduceLT, reduceCtorEq]
       exact Kv.Fin.still (hK m _ y1))
theorem p57 {l : List Int} (hl : Byt l) {K : PV → Heap → Prop} (hK : ∀ (m : List Int) (k : Int), m.length = 6 → K (.tup [.agg (ints m), .int .i64 k]) []) : ACall Tryz.prog 57 [.list (u8s l)] [] K := by
  refine e57 (by simp) fun _ _ => ?_
  simp only [k57, argEnv, take6, List.drop_zero, Int.cast_ofNat_Int, go_sem, ↓reduceIte, Nat.reduceEqDiff, Nat.reduceAdd, Nat.reduceMul, Nat.reduceLeDiff, Nat.reduceLT, Int.reduceLE, Int.reduceLT, reduceCtorEq]
  refine ACall.go (p134 hl (K := fun v s => ∃ m k, m.length = 6 ∧ v = .tup [.agg (ints m), .int .i64 k] ∧ s = []) fun m k h => ⟨m, k, h, rfl, rfl⟩) fun v s ⟨m, k, h6, hv, hs⟩ => ?_
  subst hv; subst hs
  have hil : (ints m).length = 6 := by rw [ints_length, h6]
  have hgb : ∀ (a b : AObj), [a, b][1]? = some b := fun a b => rfl
  have hsb : ∀ (a b c : AObj), [a, b].set 1 c = [a, c] := fun a b c => rfl
  try simp only [OpK_eq, HKv, ren_tup, ren_agg, ren_ints, ren_int, List.map_cons, List.map_nil, List.append_nil, List.nil_append, List.cons_append, hgb, hsb, hil, h6, take6, List.drop_zero, Int.cast_ofNat_Int, go_sem, ↓reduceIte, Nat.reduceEqDiff, Nat.reduceAdd, Nat.reduceMul, Nat.reduceLeDiff, Nat.reduceLT, Int.reduceLE, Int.reduceLT, reduceCtorEq]
  exact Kv.Fin.still (hK m k h6)
theorem p61 {l : List Int} (hl : Byt l) {K : PV → Heap → Prop} (hK : ∀ (m : List Int) (k : Int), m.length = 6 → K (.tup [.agg (ints m), .int .i64 k]) []) : ACall Tryz.prog 61 [.list (u8s l)] [] K := by
  refine e61 (by simp) fun _ _ => ?_
  simp only [k61, argEnv, take6, List.drop_zero, Int.cast_ofNat_Int, go_sem, ↓reduceIte, Nat.reduceEqDiff, Nat.reduceAdd, Nat.reduceMul, Nat.reduceLeDiff, Nat.reduceLT, Int.reduceLE, Int.reduceLT, reduceCtorEq]
  refine ACall.go (p134 hl (K := fun v s => ∃ m k, m.length = 6 ∧ v = .tup [.agg (ints m), .int .i64 k] ∧ s = []) fun m k h => ⟨m, k, h, rfl, rfl⟩) fun v s ⟨m, k, h6, hv, hs⟩ => ?_
  subst hv; subst hs
  have hil : (ints m).length = 6 := by rw [ints_length, h6]
  have hgb : ∀ (a b : AObj), [a, b][1]? = some b := fun a b => rfl
  have hsb : ∀ (a b c : AObj), [a, b].set 1 c = [a, c] := fun a b c => rfl
  try simp only [OpK_eq, HKv, ren_tup, ren_agg, ren_ints, ren_int, List.map_cons, List.map_nil, List.append_nil, List.nil_append, List.cons_append, hgb, hsb, hil, h6, take6, List.drop_zero, Int.cast_ofNat_Int, go_sem, ↓reduceIte, Nat.reduceEqDiff, Nat.reduceAdd, Nat.reduceMul, Nat.reduceLeDiff, Nat.reduceLT, Int.reduceLE, Int.reduceLT, reduceCtorEq]
  exact Kv.Fin.still (hK m k h6)
end Go.Proofs.YtpfapiiinkkcgaaGreat
