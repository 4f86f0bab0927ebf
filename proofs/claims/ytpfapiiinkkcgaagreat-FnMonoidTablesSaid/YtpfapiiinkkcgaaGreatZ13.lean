/- Several texts of this session as one, less what the claim does not need. -/
import Derived.Test.YtpfapiiinkkcgaaGreatZ12
import Derived.Test.YtpfapiiinkkcgaaGreatCb
import Derived.Test.YtpfapiiinkkcgaaGreatZ10
import Derived.RangeFuncBox
import Derived.RangeFuncLeaves
import Derived.Shelf.Abstract
import Derived.WalkKit
import Derived.OwnWalkIn
import Derived.TacticsInMore
import Derived.LoopNIn
import Derived.LoopIn
import Derived.Maps.AppendAt
import Derived.Test.YtpfapiiinkkcgaaGreatProg
import Derived.Shelf.SlSortCmp.NoneTotal
import Derived.Shelf.SlGeneric
import Derived.Ground.SlsfProg
import Derived.StillTailTactics
import Derived.KernelRfl
import Derived.Test.YtpfapiiinkkcgaaGreatZ5
section
/- TableOf at lists that are none: the implementation. -/
namespace Go.Proofs.YtpfapiiinkkcgaaGreat
open Go.Kv
set_option linter.unusedVariables false
set_option linter.unusedSimpArgs false
attribute [local irreducible] ACall PCall KL
theorem p100_out (a : List (List Int)) (ha : a.length ≤ 1048576) (h6 : ∀ r ∈ a, r.length = 6) (hc : lcode a [] ≠ 0) : Pure Tryz.prog 100 [.list (aggs a), .nils] (.tup [.nilptr, .nils, .int .i64 (lcode a [])]) := by
  refine e100 (by simp) fun _ _ => ?_
  simp only [k100, argEnv, take6, List.drop_zero, Int.cast_ofNat_Int, go_sem, ↓reduceIte, Nat.reduceEqDiff, Nat.reduceAdd, Nat.reduceMul, Nat.reduceLeDiff, Nat.reduceLT, Int.reduceLE, Int.reduceLT, reduceCtorEq]
  refine (p153 _ a [] .nil ha (by simp) h6 (by simp)).go ?_
  try simp only [OpK_eq, HKv, take6, List.drop_zero, Int.cast_ofNat_Int, go_sem, ↓reduceIte, Nat.reduceEqDiff, Nat.reduceAdd, Nat.reduceMul, Nat.reduceLeDiff, Nat.reduceLT, Int.reduceLE, Int.reduceLT, reduceCtorEq]
  refine ⟨fun _ => Kv.Fin.still ⟨rfl, rfl⟩, fun h => absurd h hc⟩
theorem p29_out (a : List (List Int)) (ha : a.length ≤ 1048576) (h6 : ∀ r ∈ a, r.length = 6) (hc : lcode a [] ≠ 0) : Pure Tryz.prog 29 [.list (aggs a)] (.tup [.nils, .int .i64 (lcode a [])]) := by
  refine e29 (by simp) fun _ _ => ?_
  simp only [k29, argEnv, take6, List.drop_zero, Int.cast_ofNat_Int, go_sem, ↓reduceIte, Nat.reduceEqDiff, Nat.reduceAdd, Nat.reduceMul, Nat.reduceLeDiff, Nat.reduceLT, Int.reduceLE, Int.reduceLT, reduceCtorEq]
  refine (p100_out a ha h6 hc).go ?_
  try simp only [OpK_eq, HKv, take6, List.drop_zero, Int.cast_ofNat_Int, go_sem, ↓reduceIte, Nat.reduceEqDiff, Nat.reduceAdd, Nat.reduceMul, Nat.reduceLeDiff, Nat.reduceLT, Int.reduceLE, Int.reduceLT, reduceCtorEq]
  refine ⟨fun _ => Kv.Fin.still ⟨rfl, rfl⟩, fun h => absurd h hc⟩
end Go.Proofs.YtpfapiiinkkcgaaGreat
end
section
/- Maps in order are told by their members. -/
namespace Go.Proofs.YtpfapiiinkkcgaaGreat
open Go.Kv
set_option linter.unusedVariables false
set_option linter.unusedSimpArgs false
attribute [local irreducible] ACall PCall KL
theorem srm_uniq {n : Nat} : ∀ {S T : List (List Nat)}, SrM n S → SrM n T → (∀ f, f ∈ S ↔ f ∈ T) → S = T
  | [], [], _, _, _ => rfl
  | [], b :: T, _, _, h => by have := (h b).2 (by simp); simp at this
  | a :: S, [], _, _, h => by have := (h a).1 (by simp); simp at this
  | a :: S, b :: T, hS, hT, h => by
    have pS := List.pairwise_cons.1 hS.2
    have pT := List.pairwise_cons.1 hT.2
    have e : a = b := by
      rcases List.mem_cons.1 ((h a).1 (by simp)) with e | e
      · exact e
      · rcases List.mem_cons.1 ((h b).2 (by simp)) with e' | e'
        · exact e'.symm
        · have := pT.1 _ e; have := pS.1 _ e'; omega
    subst e
    rw [srm_uniq (S := S) (T := T) ⟨fun f hf => hS.1 f (by simp [hf]), pS.2⟩ ⟨fun f hf => hT.1 f (by simp [hf]), pT.2⟩ fun f => ?_]
    constructor
    · intro hf
      rcases List.mem_cons.1 ((h f).1 (by simp [hf])) with e | e
      · subst e; have := pS.1 _ hf; omega
      · exact e
    · intro hf
      rcases List.mem_cons.1 ((h f).2 (by simp [hf])) with e | e
      · subst e; have := pT.1 _ hf; omega
      · exact e
end Go.Proofs.YtpfapiiinkkcgaaGreat
end
section
/- The places, written anew in order. -/
namespace Go.Proofs.YtpfapiiinkkcgaaGreat
open Go.Kv
set_option linter.unusedVariables false
set_option linter.unusedSimpArgs false
attribute [local irreducible] ACall PCall KL
def setP (S : List (List Nat)) (P : List Int) : Nat → List Int
  | 0 => P
  | k + 1 => (setP S P k).set (numK (S.getD k []) 5) (k + 1)
theorem set_getD {l : List Int} {i j : Nat} {x : Int} : (l.set i x).getD j 0 = if i = j ∧ i < l.length then x else l.getD j 0 := by
  rw [List.getD_eq_getElem?_getD, List.getD_eq_getElem?_getD, List.getElem?_set]
  by_cases h : i = j
  · subst h
    by_cases h' : i < l.length
    · simp [h']
    · simp [h', List.getElem?_eq_none (Nat.le_of_not_lt h')]
  · simp [h]
theorem num_lt {f : List Nat} {n : Nat} (hf : Ok f n) : numK f 5 < 3125 :=
  numK_lt (f := f) (fun x hx => by have := hf.lt x hx; have := hf.le; omega) 5
theorem setP_spec {n : Nat} {S : List (List Nat)} {P : List Int} (hS : SrM n S) (hP : P.length = 3125) : ∀ k, k ≤ S.length → (setP S P k).length = 3125 ∧ ∀ f, Ok f n → (∀ j, j < k → S.getD j [] = f → (setP S P k).getD (numK f 5) 0 = j + 1) ∧ ((∀ j, j < k → S.getD j [] ≠ f) → (setP S P k).getD (numK f 5) 0 = P.getD (numK f 5) 0)
  | 0, _ => ⟨hP, fun f _ => ⟨fun j hj => by omega, fun _ => rfl⟩⟩
  | k + 1, hk => by
    obtain ⟨i1, i2⟩ := setP_spec hS hP k (by omega)
    have ge : ∀ j (hj : j < S.length), S.getD j [] = S[j] := fun j hj => by simp [List.getD_eq_getElem?_getD, hj]
    have ok : Ok (S.getD k []) n := by rw [ge k hk]; exact hS.1 _ (List.getElem_mem _)
    have lk := num_lt ok
    refine ⟨by rw [setP, List.length_set, i1], fun f hf => ⟨fun j hj e => ?_, fun h => ?_⟩⟩
    · rw [setP, set_getD, i1]
      by_cases hjk : j = k
      · subst hjk; rw [e, if_pos ⟨rfl, num_lt hf⟩]
      · have hne : S.getD k [] ≠ f := fun e' => by
          have := List.pairwise_iff_getElem.1 hS.2 j k (by omega) (by omega) (by omega)
          rw [← ge j (by omega), ← ge k (by omega), e, e'] at this; omega
        rw [if_neg fun c => hne (num_inj ok hf c.1)]
        exact (i2 f hf).1 j (by omega) e
    · rw [setP, set_getD, if_neg fun c => h k (by omega) (num_inj ok hf c.1)]
      exact (i2 f hf).2 fun j hj => h j (by omega)
theorem setP_bound {S : List (List Nat)} {P : List Int} (hb : ∀ x ∈ P, 0 ≤ x ∧ x ≤ 300) : ∀ k, k ≤ 300 → ∀ x ∈ setP S P k, 0 ≤ x ∧ x ≤ 300
  | 0, _, x, hx => hb x hx
  | k + 1, hk, x, hx => by
    rw [setP] at hx
    rcases List.mem_or_eq_of_mem_set hx with h | h
    · exact setP_bound hb k (by omega) x h
    · omega
/-- Written anew, they tell the elements. -/
theorem setP_ok {n : Nat} {S : List (List Nat)} {P : List Int} (hS : SrM n S) (hl : S.length ≤ 300) (hP : P.length = 3125) (hb : ∀ x ∈ P, 0 ≤ x ∧ x ≤ 300) (h0 : ∀ f, Ok f n → f ∉ S → P.getD (numK f 5) 0 = 0) : PlOk n (setP S P S.length) S := by
  obtain ⟨i1, i2⟩ := setP_spec hS hP S.length (Nat.le_refl _)
  refine ⟨i1, setP_bound hb _ hl, fun f hf => ?_⟩
  unfold plM
  by_cases h : f ∈ S
  · obtain ⟨h1, h2⟩ := (lo_mem hS hf).2 h
    rw [if_pos ⟨h1, h2⟩, (i2 f hf).1 _ h1 h2]; omega
  · rw [if_neg fun c => h ((lo_mem hS hf).1 c), (i2 f hf).2 fun j hj e => h ?_, h0 f hf h]
    · rfl
    · rw [← e, List.getD_eq_getElem?_getD, List.getElem?_eq_getElem hj]; exact List.getElem_mem _
end Go.Proofs.YtpfapiiinkkcgaaGreat
end
section
/- The places while the monoid is found. -/
namespace Go.Proofs.YtpfapiiinkkcgaaGreat
open Go.Kv
set_option linter.unusedVariables false
set_option linter.unusedSimpArgs false
attribute [local irreducible] ACall PCall KL
/-- Each map found has its place, counted from 1; others have 0. -/
def FdOk (n : Nat) (P : List Int) (Q : List (List Nat)) : Prop := P.length = 3125 ∧ (∀ x ∈ P, 0 ≤ x ∧ x ≤ 300) ∧ ∀ f, Ok f n → (∀ j : Nat, Q[j]? = some f → P.getD (numK f 5) 0 = j + 1) ∧ (f ∉ Q → P.getD (numK f 5) 0 = 0)
theorem FdOk.pos {n : Nat} {P : List Int} {Q : List (List Nat)} (h : FdOk n P Q) {f : List Nat} (hf : Ok f n) : 0 < P.getD (numK f 5) 0 ↔ f ∈ Q := by
  constructor
  · intro h1
    apply Classical.byContradiction
    intro h2
    have := (h.2.2 f hf).2 h2; omega
  · intro h1
    obtain ⟨j, hj, e⟩ := List.getElem_of_mem h1
    have := (h.2.2 f hf).1 j (by rw [List.getElem?_eq_getElem hj, e]); omega
theorem FdOk.push {n : Nat} {P : List Int} {Q : List (List Nat)} (h : FdOk n P Q) {g : List Nat} (hg : Ok g n) (hn : g ∉ Q) (hl : Q.length < 300) : FdOk n (P.set (numK g 5) (Q.length + 1)) (Q ++ [g]) := by
  refine ⟨by rw [List.length_set, h.1], fun x hx => ?_, fun f hf => ⟨fun j hj => ?_, fun hm => ?_⟩⟩
  · rcases List.mem_or_eq_of_mem_set hx with h' | h'
    · exact h.2.1 x h'
    · omega
  · rw [set_getD, h.1]
    by_cases e : f = g
    · subst e
      rw [if_pos ⟨rfl, num_lt hf⟩]
      by_cases hjl : j < Q.length
      · rw [List.getElem?_append_left hjl] at hj
        exact absurd (List.mem_of_getElem? hj) hn
      · have := (List.getElem?_eq_some_iff.1 hj).1
        simp at this
        omega
    · rw [if_neg fun c => e (num_inj hf hg c.1.symm)]
      by_cases hjl : j < Q.length
      · rw [List.getElem?_append_left hjl] at hj
        exact (h.2.2 f hf).1 j hj
      · rw [List.getElem?_append_right (by omega)] at hj
        have := List.mem_of_getElem? hj
        simp at this
        exact absurd this e
  · simp at hm
    rw [set_getD, if_neg fun c => hm.2 (num_inj hf hg c.1.symm)]
    exact (h.2.2 f hf).2 hm.1
end Go.Proofs.YtpfapiiinkkcgaaGreat
end
section
/- newMonoid: its code. -/
namespace Go.Proofs.YtpfapiiinkkcgaaGreat
open Go.Kv
set_option maxRecDepth 100000
/- impl.newMonoid -/
def k154_t0 : KT := (.op ⟨(some 61), none, .mv (.t 7)⟩ (.op ⟨(some 65), none, .mv (.t 8)⟩ (.op ⟨(some 66), none, .mv (.t 8)⟩ (.op ⟨(some 67), none, .mv (.t 9)⟩ (.op ⟨(some 71), none, .mv (.t 10)⟩ (.alt (.op ⟨(some 62), none, .load true 6 (.t 12)⟩ (.alt (.op ⟨(some 63), none, .bsl true 34 6 [(.t 62)]⟩ (.alt (.op ⟨(some 64), none, .app (.t 61) (.t 63) 34 6⟩ (.alt (.op ⟨(some 68), none, .idxS 1 (.t 66) (.t 67)⟩ (.alt (.op ⟨(some 69), none, .load false 1 (.t 68)⟩ (.alt (.op ⟨(some 70), none, .call (.c (.fn (.func 191) [] [])) [(.t 69)]⟩ (.op ⟨(some 72), none, .bsl true 2 1 [(.t 71)]⟩ (.op ⟨(some 73), none, .app (.t 70) (.t 72) 2 1⟩ (.op ⟨(some 74), none, .bsl true 25 1 [(.t 73)]⟩ (.op ⟨(some 75), none, .app (.t 65) (.t 74) 25 1⟩ (.op ⟨(some 7), none, .mv (.t 64)⟩ (.op ⟨(some 8), none, .mv (.t 75)⟩ .fin))))))) (.op ⟨(some 72), none, .bsl true 2 1 [(.t 71)]⟩ (.op ⟨(some 70), none, .call (.c (.fn (.func 191) [] [])) [(.t 69)]⟩ (.op ⟨(some 73), none, .app (.t 70) (.t 72) 2 1⟩ (.op ⟨(some 74), none, .bsl true 25 1 [(.t 73)]⟩ (.op ⟨(some 75), none, .app (.t 65) (.t 74) 25 1⟩ (.op ⟨(some 7), none, .mv (.t 64)⟩ (.op ⟨(some 8), none, .mv (.t 75)⟩ .fin))))))))) (.op ⟨(some 72), none, .bsl true 2 1 [(.t 71)]⟩ (.op ⟨(some 69), none, .load false 1 (.t 68)⟩ (.op ⟨(some 70), none, .call (.c (.fn (.func 191) [] [])) [(.t 69)]⟩ (.op ⟨(some 73), none, .app (.t 70) (.t 72) 2 1⟩ (.op ⟨(some 74), none, .bsl true 25 1 [(.t 73)]⟩ (.op ⟨(some 75), none, .app (.t 65) (.t 74) 25 1⟩ (.op ⟨(some 7), none, .mv (.t 64)⟩ (.op ⟨(some 8), none, .mv (.t 75)⟩ .fin)))))))))) (.op ⟨(some 72), none, .bsl true 2 1 [(.t 71)]⟩ (.op ⟨(some 68), none, .idxS 1 (.t 66) (.t 67)⟩ (.op ⟨(some 69), none, .load false 1 (.t 68)⟩ (.op ⟨(some 70), none, .call (.c (.fn (.func 191) [] [])) [(.t 69)]⟩ (.op ⟨(some 73), none, .app (.t 70) (.t 72) 2 1⟩ (.op ⟨(some 74), none, .bsl true 25 1 [(.t 73)]⟩ (.op ⟨(some 75), none, .app (.t 65) (.t 74) 25 1⟩ (.op ⟨(some 7), none, .mv (.t 64)⟩ (.op ⟨(some 8), none, .mv (.t 75)⟩ .fin))))))))))) (.alt (.op ⟨(some 68), none, .idxS 1 (.t 66) (.t 67)⟩ (.alt (.op ⟨(some 64), none, .app (.t 61) (.t 63) 34 6⟩ (.alt (.op ⟨(some 69), none, .load false 1 (.t 68)⟩ (.alt (.op ⟨(some 70), none, .call (.c (.fn (.func 191) [] [])) [(.t 69)]⟩ (.op ⟨(some 72), none, .bsl true 2 1 [(.t 71)]⟩ (.op ⟨(some 73), none, .app (.t 70) (.t 72) 2 1⟩ (.op ⟨(some 74), none, .bsl true 25 1 [(.t 73)]⟩ (.op ⟨(some 75), none, .app (.t 65) (.t 74) 25 1⟩ (.op ⟨(some 7), none, .mv (.t 64)⟩ (.op ⟨(some 8), none, .mv (.t 75)⟩ .fin))))))) (.op ⟨(some 72), none, .bsl true 2 1 [(.t 71)]⟩ (.op ⟨(some 70), none, .call (.c (.fn (.func 191) [] [])) [(.t 69)]⟩ (.op ⟨(some 73), none, .app (.t 70) (.t 72) 2 1⟩ (.op ⟨(some 74), none, .bsl true 25 1 [(.t 73)]⟩ (.op ⟨(some 75), none, .app (.t 65) (.t 74) 25 1⟩ (.op ⟨(some 7), none, .mv (.t 64)⟩ (.op ⟨(some 8), none, .mv (.t 75)⟩ .fin))))))))) (.op ⟨(some 72), none, .bsl true 2 1 [(.t 71)]⟩ (.op ⟨(some 69), none, .load false 1 (.t 68)⟩ (.op ⟨(some 70), none, .call (.c (.fn (.func 191) [] [])) [(.t 69)]⟩ (.op ⟨(some 73), none, .app (.t 70) (.t 72) 2 1⟩ (.op ⟨(some 74), none, .bsl true 25 1 [(.t 73)]⟩ (.op ⟨(some 75), none, .app (.t 65) (.t 74) 25 1⟩ (.op ⟨(some 7), none, .mv (.t 64)⟩ (.op ⟨(some 8), none, .mv (.t 75)⟩ .fin)))))))))) (.alt (.op ⟨(some 69), none, .load false 1 (.t 68)⟩ (.alt (.op ⟨(some 64), none, .app (.t 61) (.t 63) 34 6⟩ (.alt (.op ⟨(some 70), none, .call (.c (.fn (.func 191) [] [])) [(.t 69)]⟩ (.op ⟨(some 72), none, .bsl true 2 1 [(.t 71)]⟩ (.op ⟨(some 73), none, .app (.t 70) (.t 72) 2 1⟩ (.op ⟨(some 74), none, .bsl true 25 1 [(.t 73)]⟩ (.op ⟨(some 75), none, .app (.t 65) (.t 74) 25 1⟩ (.op ⟨(some 7), none, .mv (.t 64)⟩ (.op ⟨(some 8), none, .mv (.t 75)⟩ .fin))))))) (.op ⟨(some 72), none, .bsl true 2 1 [(.t 71)]⟩ (.op ⟨(some 70), none, .call (.c (.fn (.func 191) [] [])) [(.t 69)]⟩ (.op ⟨(some 73), none, .app (.t 70) (.t 72) 2 1⟩ (.op ⟨(some 74), none, .bsl true 25 1 [(.t 73)]⟩ (.op ⟨(some 75), none, .app (.t 65) (.t 74) 25 1⟩ (.op ⟨(some 7), none, .mv (.t 64)⟩ (.op ⟨(some 8), none, .mv (.t 75)⟩ .fin))))))))) (.op ⟨(some 72), none, .bsl true 2 1 [(.t 71)]⟩ (.op ⟨(some 64), none, .app (.t 61) (.t 63) 34 6⟩ (.op ⟨(some 70), none, .call (.c (.fn (.func 191) [] [])) [(.t 69)]⟩ (.op ⟨(some 73), none, .app (.t 70) (.t 72) 2 1⟩ (.op ⟨(some 74), none, .bsl true 25 1 [(.t 73)]⟩ (.op ⟨(some 75), none, .app (.t 65) (.t 74) 25 1⟩ (.op ⟨(some 7), none, .mv (.t 64)⟩ (.op ⟨(some 8), none, .mv (.t 75)⟩ .fin)))))))))) (.op ⟨(some 72), none, .bsl true 2 1 [(.t 71)]⟩ (.alt (.op ⟨(some 64), none, .app (.t 61) (.t 63) 34 6⟩ (.op ⟨(some 69), none, .load false 1 (.t 68)⟩ (.op ⟨(some 70), none, .call (.c (.fn (.func 191) [] [])) [(.t 69)]⟩ (.op ⟨(some 73), none, .app (.t 70) (.t 72) 2 1⟩ (.op ⟨(some 74), none, .bsl true 25 1 [(.t 73)]⟩ (.op ⟨(some 75), none, .app (.t 65) (.t 74) 25 1⟩ (.op ⟨(some 7), none, .mv (.t 64)⟩ (.op ⟨(some 8), none, .mv (.t 75)⟩ .fin)))))))) (.op ⟨(some 69), none, .load false 1 (.t 68)⟩ (.op ⟨(some 64), none, .app (.t 61) (.t 63) 34 6⟩ (.op ⟨(some 70), none, .call (.c (.fn (.func 191) [] [])) [(.t 69)]⟩ (.op ⟨(some 73), none, .app (.t 70) (.t 72) 2 1⟩ (.op ⟨(some 74), none, .bsl true 25 1 [(.t 73)]⟩ (.op ⟨(some 75), none, .app (.t 65) (.t 74) 25 1⟩ (.op ⟨(some 7), none, .mv (.t 64)⟩ (.op ⟨(some 8), none, .mv (.t 75)⟩ .fin))))))))))))) (.op ⟨(some 72), none, .bsl true 2 1 [(.t 71)]⟩ (.alt (.op ⟨(some 64), none, .app (.t 61) (.t 63) 34 6⟩ (.op ⟨(some 68), none, .idxS 1 (.t 66) (.t 67)⟩ (.op ⟨(some 69), none, .load false 1 (.t 68)⟩ (.op ⟨(some 70), none, .call (.c (.fn (.func 191) [] [])) [(.t 69)]⟩ (.op ⟨(some 73), none, .app (.t 70) (.t 72) 2 1⟩ (.op ⟨(some 74), none, .bsl true 25 1 [(.t 73)]⟩ (.op ⟨(some 75), none, .app (.t 65) (.t 74) 25 1⟩ (.op ⟨(some 7), none, .mv (.t 64)⟩ (.op ⟨(some 8), none, .mv (.t 75)⟩ .fin))))))))) (.op ⟨(some 68), none, .idxS 1 (.t 66) (.t 67)⟩ (.alt (.op ⟨(some 64), none, .app (.t 61) (.t 63) 34 6⟩ (.op ⟨(some 69), none, .load false 1 (.t 68)⟩ (.op ⟨(some 70), none, .call (.c (.fn (.func 191) [] [])) [(.t 69)]⟩ (.op ⟨(some 73), none, .app (.t 70) (.t 72) 2 1⟩ (.op ⟨(some 74), none, .bsl true 25 1 [(.t 73)]⟩ (.op ⟨(some 75), none, .app (.t 65) (.t 74) 25 1⟩ (.op ⟨(some 7), none, .mv (.t 64)⟩ (.op ⟨(some 8), none, .mv (.t 75)⟩ .fin)))))))) (.op ⟨(some 69), none, .load false 1 (.t 68)⟩ (.op ⟨(some 64), none, .app (.t 61) (.t 63) 34 6⟩ (.op ⟨(some 70), none, .call (.c (.fn (.func 191) [] [])) [(.t 69)]⟩ (.op ⟨(some 73), none, .app (.t 70) (.t 72) 2 1⟩ (.op ⟨(some 74), none, .bsl true 25 1 [(.t 73)]⟩ (.op ⟨(some 75), none, .app (.t 65) (.t 74) 25 1⟩ (.op ⟨(some 7), none, .mv (.t 64)⟩ (.op ⟨(some 8), none, .mv (.t 75)⟩ .fin))))))))))))))) (.alt (.op ⟨(some 68), none, .idxS 1 (.t 66) (.t 67)⟩ (.alt (.op ⟨(some 63), none, .bsl true 34 6 [(.t 62)]⟩ (.alt (.op ⟨(some 64), none, .app (.t 61) (.t 63) 34 6⟩ (.alt (.op ⟨(some 69), none, .load false 1 (.t 68)⟩ (.alt (.op ⟨(some 70), none, .call (.c (.fn (.func 191) [] [])) [(.t 69)]⟩ (.op ⟨(some 72), none, .bsl true 2 1 [(.t 71)]⟩ (.op ⟨(some 73), none, .app (.t 70) (.t 72) 2 1⟩ (.op ⟨(some 74), none, .bsl true 25 1 [(.t 73)]⟩ (.op ⟨(some 75), none, .app (.t 65) (.t 74) 25 1⟩ (.op ⟨(some 7), none, .mv (.t 64)⟩ (.op ⟨(some 8), none, .mv (.t 75)⟩ .fin))))))) (.op ⟨(some 72), none, .bsl true 2 1 [(.t 71)]⟩ (.op ⟨(some 70), none, .call (.c (.fn (.func 191) [] [])) [(.t 69)]⟩ (.op ⟨(some 73), none, .app (.t 70) (.t 72) 2 1⟩ (.op ⟨(some 74), none, .bsl true 25 1 [(.t 73)]⟩ (.op ⟨(some 75), none, .app (.t 65) (.t 74) 25 1⟩ (.op ⟨(some 7), none, .mv (.t 64)⟩ (.op ⟨(some 8), none, .mv (.t 75)⟩ .fin))))))))) (.op ⟨(some 72), none, .bsl true 2 1 [(.t 71)]⟩ (.op ⟨(some 69), none, .load false 1 (.t 68)⟩ (.op ⟨(some 70), none, .call (.c (.fn (.func 191) [] [])) [(.t 69)]⟩ (.op ⟨(some 73), none, .app (.t 70) (.t 72) 2 1⟩ (.op ⟨(some 74), none, .bsl true 25 1 [(.t 73)]⟩ (.op ⟨(some 75), none, .app (.t 65) (.t 74) 25 1⟩ (.op ⟨(some 7), none, .mv (.t 64)⟩ (.op ⟨(some 8), none, .mv (.t 75)⟩ .fin)))))))))) (.alt (.op ⟨(some 69), none, .load false 1 (.t 68)⟩ (.alt (.op ⟨(some 64), none, .app (.t 61) (.t 63) 34 6⟩ (.alt (.op ⟨(some 70), none, .call (.c (.fn (.func 191) [] [])) [(.t 69)]⟩ (.op ⟨(some 72), none, .bsl true 2 1 [(.t 71)]⟩ (.op ⟨(some 73), none, .app (.t 70) (.t 72) 2 1⟩ (.op ⟨(some 74), none, .bsl true 25 1 [(.t 73)]⟩ (.op ⟨(some 75), none, .app (.t 65) (.t 74) 25 1⟩ (.op ⟨(some 7), none, .mv (.t 64)⟩ (.op ⟨(some 8), none, .mv (.t 75)⟩ .fin))))))) (.op ⟨(some 72), none, .bsl true 2 1 [(.t 71)]⟩ (.op ⟨(some 70), none, .call (.c (.fn (.func 191) [] [])) [(.t 69)]⟩ (.op ⟨(some 73), none, .app (.t 70) (.t 72) 2 1⟩ (.op ⟨(some 74), none, .bsl true 25 1 [(.t 73)]⟩ (.op ⟨(some 75), none, .app (.t 65) (.t 74) 25 1⟩ (.op ⟨(some 7), none, .mv (.t 64)⟩ (.op ⟨(some 8), none, .mv (.t 75)⟩ .fin))))))))) (.op ⟨(some 72), none, .bsl true 2 1 [(.t 71)]⟩ (.op ⟨(some 64), none, .app (.t 61) (.t 63) 34 6⟩ (.op ⟨(some 70), none, .call (.c (.fn (.func 191) [] [])) [(.t 69)]⟩ (.op ⟨(some 73), none, .app (.t 70) (.t 72) 2 1⟩ (.op ⟨(some 74), none, .bsl true 25 1 [(.t 73)]⟩ (.op ⟨(some 75), none, .app (.t 65) (.t 74) 25 1⟩ (.op ⟨(some 7), none, .mv (.t 64)⟩ (.op ⟨(some 8), none, .mv (.t 75)⟩ .fin)))))))))) (.op ⟨(some 72), none, .bsl true 2 1 [(.t 71)]⟩ (.alt (.op ⟨(some 64), none, .app (.t 61) (.t 63) 34 6⟩ (.op ⟨(some 69), none, .load false 1 (.t 68)⟩ (.op ⟨(some 70), none, .call (.c (.fn (.func 191) [] [])) [(.t 69)]⟩ (.op ⟨(some 73), none, .app (.t 70) (.t 72) 2 1⟩ (.op ⟨(some 74), none, .bsl true 25 1 [(.t 73)]⟩ (.op ⟨(some 75), none, .app (.t 65) (.t 74) 25 1⟩ (.op ⟨(some 7), none, .mv (.t 64)⟩ (.op ⟨(some 8), none, .mv (.t 75)⟩ .fin)))))))) (.op ⟨(some 69), none, .load false 1 (.t 68)⟩ (.op ⟨(some 64), none, .app (.t 61) (.t 63) 34 6⟩ (.op ⟨(some 70), none, .call (.c (.fn (.func 191) [] [])) [(.t 69)]⟩ (.op ⟨(some 73), none, .app (.t 70) (.t 72) 2 1⟩ (.op ⟨(some 74), none, .bsl true 25 1 [(.t 73)]⟩ (.op ⟨(some 75), none, .app (.t 65) (.t 74) 25 1⟩ (.op ⟨(some 7), none, .mv (.t 64)⟩ (.op ⟨(some 8), none, .mv (.t 75)⟩ .fin))))))))))))) (.alt (.op ⟨(some 69), none, .load false 1 (.t 68)⟩ (.alt (.op ⟨(some 63), none, .bsl true 34 6 [(.t 62)]⟩ (.alt (.op ⟨(some 64), none, .app (.t 61) (.t 63) 34 6⟩ (.alt (.op ⟨(some 70), none, .call (.c (.fn (.func 191) [] [])) [(.t 69)]⟩ (.op ⟨(some 72), none, .bsl true 2 1 [(.t 71)]⟩ (.op ⟨(some 73), none, .app (.t 70) (.t 72) 2 1⟩ (.op ⟨(some 74), none, .bsl true 25 1 [(.t 73)]⟩ (.op ⟨(some 75), none, .app (.t 65) (.t 74) 25 1⟩ (.op ⟨(some 7), none, .mv (.t 64)⟩ (.op ⟨(some 8), none, .mv (.t 75)⟩ .fin))))))) (.op ⟨(some 72), none, .bsl true 2 1 [(.t 71)]⟩ (.op ⟨(some 70), none, .call (.c (.fn (.func 191) [] [])) [(.t 69)]⟩ (.op ⟨(some 73), none, .app (.t 70) (.t 72) 2 1⟩ (.op ⟨(some 74), none, .bsl true 25 1 [(.t 73)]⟩ (.op ⟨(some 75), none, .app (.t 65) (.t 74) 25 1⟩ (.op ⟨(some 7), none, .mv (.t 64)⟩ (.op ⟨(some 8), none, .mv (.t 75)⟩ .fin))))))))) (.op ⟨(some 72), none, .bsl true 2 1 [(.t 71)]⟩ (.op ⟨(some 64), none, .app (.t 61) (.t 63) 34 6⟩ (.op ⟨(some 70), none, .call (.c (.fn (.func 191) [] [])) [(.t 69)]⟩ (.op ⟨(some 73), none, .app (.t 70) (.t 72) 2 1⟩ (.op ⟨(some 74), none, .bsl true 25 1 [(.t 73)]⟩ (.op ⟨(some 75), none, .app (.t 65) (.t 74) 25 1⟩ (.op ⟨(some 7), none, .mv (.t 64)⟩ (.op ⟨(some 8), none, .mv (.t 75)⟩ .fin)))))))))) (.op ⟨(some 72), none, .bsl true 2 1 [(.t 71)]⟩ (.op ⟨(some 63), none, .bsl true 34 6 [(.t 62)]⟩ (.op ⟨(some 64), none, .app (.t 61) (.t 63) 34 6⟩ (.op ⟨(some 70), none, .call (.c (.fn (.func 191) [] [])) [(.t 69)]⟩ (.op ⟨(some 73), none, .app (.t 70) (.t 72) 2 1⟩ (.op ⟨(some 74), none, .bsl true 25 1 [(.t 73)]⟩ (.op ⟨(some 75), none, .app (.t 65) (.t 74) 25 1⟩ (.op ⟨(some 7), none, .mv (.t 64)⟩ (.op ⟨(some 8), none, .mv (.t 75)⟩ .fin))))))))))) (.op ⟨(some 72), none, .bsl true 2 1 [(.t 71)]⟩ (.alt (.op ⟨(some 63), none, .bsl true 34 6 [(.t 62)]⟩ (.alt (.op ⟨(some 64), none, .app (.t 61) (.t 63) 34 6⟩ (.op ⟨(some 69), none, .load false 1 (.t 68)⟩ (.op ⟨(some 70), none, .call (.c (.fn (.func 191) [] [])) [(.t 69)]⟩ (.op ⟨(some 73), none, .app (.t 70) (.t 72) 2 1⟩ (.op ⟨(some 74), none, .bsl true 25 1 [(.t 73)]⟩ (.op ⟨(some 75), none, .app (.t 65) (.t 74) 25 1⟩ (.op ⟨(some 7), none, .mv (.t 64)⟩ (.op ⟨(some 8), none, .mv (.t 75)⟩ .fin)))))))) (.op ⟨(some 69), none, .load false 1 (.t 68)⟩ (.op ⟨(some 64), none, .app (.t 61) (.t 63) 34 6⟩ (.op ⟨(some 70), none, .call (.c (.fn (.func 191) [] [])) [(.t 69)]⟩ (.op ⟨(some 73), none, .app (.t 70) (.t 72) 2 1⟩ (.op ⟨(some 74), none, .bsl true 25 1 [(.t 73)]⟩ (.op ⟨(some 75), none, .app (.t 65) (.t 74) 25 1⟩ (.op ⟨(some 7), none, .mv (.t 64)⟩ (.op ⟨(some 8), none, .mv (.t 75)⟩ .fin)))))))))) (.op ⟨(some 69), none, .load false 1 (.t 68)⟩ (.op ⟨(some 63), none, .bsl true 34 6 [(.t 62)]⟩ (.op ⟨(some 64), none, .app (.t 61) (.t 63) 34 6⟩ (.op ⟨(some 70), none, .call (.c (.fn (.func 191) [] [])) [(.t 69)]⟩ (.op ⟨(some 73), none, .app (.t 70) (.t 72) 2 1⟩ (.op ⟨(some 74), none, .bsl true 25 1 [(.t 73)]⟩ (.op ⟨(some 75), none, .app (.t 65) (.t 74) 25 1⟩ (.op ⟨(some 7), none, .mv (.t 64)⟩ (.op ⟨(some 8), none, .mv (.t 75)⟩ .fin)))))))))))))) (.op ⟨(some 72), none, .bsl true 2 1 [(.t 71)]⟩ (.alt (.op ⟨(some 63), none, .bsl true 34 6 [(.t 62)]⟩ (.alt (.op ⟨(some 64), none, .app (.t 61) (.t 63) 34 6⟩ (.op ⟨(some 68), none, .idxS 1 (.t 66) (.t 67)⟩ (.op ⟨(some 69), none, .load false 1 (.t 68)⟩ (.op ⟨(some 70), none, .call (.c (.fn (.func 191) [] [])) [(.t 69)]⟩ (.op ⟨(some 73), none, .app (.t 70) (.t 72) 2 1⟩ (.op ⟨(some 74), none, .bsl true 25 1 [(.t 73)]⟩ (.op ⟨(some 75), none, .app (.t 65) (.t 74) 25 1⟩ (.op ⟨(some 7), none, .mv (.t 64)⟩ (.op ⟨(some 8), none, .mv (.t 75)⟩ .fin))))))))) (.op ⟨(some 68), none, .idxS 1 (.t 66) (.t 67)⟩ (.alt (.op ⟨(some 64), none, .app (.t 61) (.t 63) 34 6⟩ (.op ⟨(some 69), none, .load false 1 (.t 68)⟩ (.op ⟨(some 70), none, .call (.c (.fn (.func 191) [] [])) [(.t 69)]⟩ (.op ⟨(some 73), none, .app (.t 70) (.t 72) 2 1⟩ (.op ⟨(some 74), none, .bsl true 25 1 [(.t 73)]⟩ (.op ⟨(some 75), none, .app (.t 65) (.t 74) 25 1⟩ (.op ⟨(some 7), none, .mv (.t 64)⟩ (.op ⟨(some 8), none, .mv (.t 75)⟩ .fin)))))))) (.op ⟨(some 69), none, .load false 1 (.t 68)⟩ (.op ⟨(some 64), none, .app (.t 61) (.t 63) 34 6⟩ (.op ⟨(some 70), none, .call (.c (.fn (.func 191) [] [])) [(.t 69)]⟩ (.op ⟨(some 73), none, .app (.t 70) (.t 72) 2 1⟩ (.op ⟨(some 74), none, .bsl true 25 1 [(.t 73)]⟩ (.op ⟨(some 75), none, .app (.t 65) (.t 74) 25 1⟩ (.op ⟨(some 7), none, .mv (.t 64)⟩ (.op ⟨(some 8), none, .mv (.t 75)⟩ .fin)))))))))))) (.op ⟨(some 68), none, .idxS 1 (.t 66) (.t 67)⟩ (.alt (.op ⟨(some 63), none, .bsl true 34 6 [(.t 62)]⟩ (.alt (.op ⟨(some 64), none, .app (.t 61) (.t 63) 34 6⟩ (.op ⟨(some 69), none, .load false 1 (.t 68)⟩ (.op ⟨(some 70), none, .call (.c (.fn (.func 191) [] [])) [(.t 69)]⟩ (.op ⟨(some 73), none, .app (.t 70) (.t 72) 2 1⟩ (.op ⟨(some 74), none, .bsl true 25 1 [(.t 73)]⟩ (.op ⟨(some 75), none, .app (.t 65) (.t 74) 25 1⟩ (.op ⟨(some 7), none, .mv (.t 64)⟩ (.op ⟨(some 8), none, .mv (.t 75)⟩ .fin)))))))) (.op ⟨(some 69), none, .load false 1 (.t 68)⟩ (.op ⟨(some 64), none, .app (.t 61) (.t 63) 34 6⟩ (.op ⟨(some 70), none, .call (.c (.fn (.func 191) [] [])) [(.t 69)]⟩ (.op ⟨(some 73), none, .app (.t 70) (.t 72) 2 1⟩ (.op ⟨(some 74), none, .bsl true 25 1 [(.t 73)]⟩ (.op ⟨(some 75), none, .app (.t 65) (.t 74) 25 1⟩ (.op ⟨(some 7), none, .mv (.t 64)⟩ (.op ⟨(some 8), none, .mv (.t 75)⟩ .fin)))))))))) (.op ⟨(some 69), none, .load false 1 (.t 68)⟩ (.op ⟨(some 63), none, .bsl true 34 6 [(.t 62)]⟩ (.op ⟨(some 64), none, .app (.t 61) (.t 63) 34 6⟩ (.op ⟨(some 70), none, .call (.c (.fn (.func 191) [] [])) [(.t 69)]⟩ (.op ⟨(some 73), none, .app (.t 70) (.t 72) 2 1⟩ (.op ⟨(some 74), none, .bsl true 25 1 [(.t 73)]⟩ (.op ⟨(some 75), none, .app (.t 65) (.t 74) 25 1⟩ (.op ⟨(some 7), none, .mv (.t 64)⟩ (.op ⟨(some 8), none, .mv (.t 75)⟩ .fin)))))))))))))))) (.alt (.op ⟨(some 68), none, .idxS 1 (.t 66) (.t 67)⟩ (.alt (.op ⟨(some 62), none, .load true 6 (.t 12)⟩ (.alt (.op ⟨(some 63), none, .bsl true 34 6 [(.t 62)]⟩ (.alt (.op ⟨(some 64), none, .app (.t 61) (.t 63) 34 6⟩ (.alt (.op ⟨(some 69), none, .load false 1 (.t 68)⟩ (.alt (.op ⟨(some 70), none, .call (.c (.fn (.func 191) [] [])) [(.t 69)]⟩ (.op ⟨(some 72), none, .bsl true 2 1 [(.t 71)]⟩ (.op ⟨(some 73), none, .app (.t 70) (.t 72) 2 1⟩ (.op ⟨(some 74), none, .bsl true 25 1 [(.t 73)]⟩ (.op ⟨(some 75), none, .app (.t 65) (.t 74) 25 1⟩ (.op ⟨(some 7), none, .mv (.t 64)⟩ (.op ⟨(some 8), none, .mv (.t 75)⟩ .fin))))))) (.op ⟨(some 72), none, .bsl true 2 1 [(.t 71)]⟩ (.op ⟨(some 70), none, .call (.c (.fn (.func 191) [] [])) [(.t 69)]⟩ (.op ⟨(some 73), none, .app (.t 70) (.t 72) 2 1⟩ (.op ⟨(some 74), none, .bsl true 25 1 [(.t 73)]⟩ (.op ⟨(some 75), none, .app (.t 65) (.t 74) 25 1⟩ (.op ⟨(some 7), none, .mv (.t 64)⟩ (.op ⟨(some 8), none, .mv (.t 75)⟩ .fin))))))))) (.op ⟨(some 72), none, .bsl true 2 1 [(.t 71)]⟩ (.op ⟨(some 69), none, .load false 1 (.t 68)⟩ (.op ⟨(some 70), none, .call (.c (.fn (.func 191) [] [])) [(.t 69)]⟩ (.op ⟨(some 73), none, .app (.t 70) (.t 72) 2 1⟩ (.op ⟨(some 74), none, .bsl true 25 1 [(.t 73)]⟩ (.op ⟨(some 75), none, .app (.t 65) (.t 74) 25 1⟩ (.op ⟨(some 7), none, .mv (.t 64)⟩ (.op ⟨(some 8), none, .mv (.t 75)⟩ .fin)))))))))) (.alt (.op ⟨(some 69), none, .load false 1 (.t 68)⟩ (.alt (.op ⟨(some 64), none, .app (.t 61) (.t 63) 34 6⟩ (.alt (.op ⟨(some 70), none, .call (.c (.fn (.func 191) [] [])) [(.t 69)]⟩ (.op ⟨(some 72), none, .bsl true 2 1 [(.t 71)]⟩ (.op ⟨(some 73), none, .app (.t 70) (.t 72) 2 1⟩ (.op ⟨(some 74), none, .bsl true 25 1 [(.t 73)]⟩ (.op ⟨(some 75), none, .app (.t 65) (.t 74) 25 1⟩ (.op ⟨(some 7), none, .mv (.t 64)⟩ (.op ⟨(some 8), none, .mv (.t 75)⟩ .fin))))))) (.op ⟨(some 72), none, .bsl true 2 1 [(.t 71)]⟩ (.op ⟨(some 70), none, .call (.c (.fn (.func 191) [] [])) [(.t 69)]⟩ (.op ⟨(some 73), none, .app (.t 70) (.t 72) 2 1⟩ (.op ⟨(some 74), none, .bsl true 25 1 [(.t 73)]⟩ (.op ⟨(some 75), none, .app (.t 65) (.t 74) 25 1⟩ (.op ⟨(some 7), none, .mv (.t 64)⟩ (.op ⟨(some 8), none, .mv (.t 75)⟩ .fin))))))))) (.op ⟨(some 72), none, .bsl true 2 1 [(.t 71)]⟩ (.op ⟨(some 64), none, .app (.t 61) (.t 63) 34 6⟩ (.op ⟨(some 70), none, .call (.c (.fn (.func 191) [] [])) [(.t 69)]⟩ (.op ⟨(some 73), none, .app (.t 70) (.t 72) 2 1⟩ (.op ⟨(some 74), none, .bsl true 25 1 [(.t 73)]⟩ (.op ⟨(some 75), none, .app (.t 65) (.t 74) 25 1⟩ (.op ⟨(some 7), none, .mv (.t 64)⟩ (.op ⟨(some 8), none, .mv (.t 75)⟩ .fin)))))))))) (.op ⟨(some 72), none, .bsl true 2 1 [(.t 71)]⟩ (.alt (.op ⟨(some 64), none, .app (.t 61) (.t 63) 34 6⟩ (.op ⟨(some 69), none, .load false 1 (.t 68)⟩ (.op ⟨(some 70), none, .call (.c (.fn (.func 191) [] [])) [(.t 69)]⟩ (.op ⟨(some 73), none, .app (.t 70) (.t 72) 2 1⟩ (.op ⟨(some 74), none, .bsl true 25 1 [(.t 73)]⟩ (.op ⟨(some 75), none, .app (.t 65) (.t 74) 25 1⟩ (.op ⟨(some 7), none, .mv (.t 64)⟩ (.op ⟨(some 8), none, .mv (.t 75)⟩ .fin)))))))) (.op ⟨(some 69), none, .load false 1 (.t 68)⟩ (.op ⟨(some 64), none, .app (.t 61) (.t 63) 34 6⟩ (.op ⟨(some 70), none, .call (.c (.fn (.func 191) [] [])) [(.t 69)]⟩ (.op ⟨(some 73), none, .app (.t 70) (.t 72) 2 1⟩ (.op ⟨(some 74), none, .bsl true 25 1 [(.t 73)]⟩ (.op ⟨(some 75), none, .app (.t 65) (.t 74) 25 1⟩ (.op ⟨(some 7), none, .mv (.t 64)⟩ (.op ⟨(some 8), none, .mv (.t 75)⟩ .fin))))))))))))) (.alt (.op ⟨(some 69), none, .load false 1 (.t 68)⟩ (.alt (.op ⟨(some 63), none, .bsl true 34 6 [(.t 62)]⟩ (.alt (.op ⟨(some 64), none, .app (.t 61) (.t 63) 34 6⟩ (.alt (.op ⟨(some 70), none, .call (.c (.fn (.func 191) [] [])) [(.t 69)]⟩ (.op ⟨(some 72), none, .bsl true 2 1 [(.t 71)]⟩ (.op ⟨(some 73), none, .app (.t 70) (.t 72) 2 1⟩ (.op ⟨(some 74), none, .bsl true 25 1 [(.t 73)]⟩ (.op ⟨(some 75), none, .app (.t 65) (.t 74) 25 1⟩ (.op ⟨(some 7), none, .mv (.t 64)⟩ (.op ⟨(some 8), none, .mv (.t 75)⟩ .fin))))))) (.op ⟨(some 72), none, .bsl true 2 1 [(.t 71)]⟩ (.op ⟨(some 70), none, .call (.c (.fn (.func 191) [] [])) [(.t 69)]⟩ (.op ⟨(some 73), none, .app (.t 70) (.t 72) 2 1⟩ (.op ⟨(some 74), none, .bsl true 25 1 [(.t 73)]⟩ (.op ⟨(some 75), none, .app (.t 65) (.t 74) 25 1⟩ (.op ⟨(some 7), none, .mv (.t 64)⟩ (.op ⟨(some 8), none, .mv (.t 75)⟩ .fin))))))))) (.op ⟨(some 72), none, .bsl true 2 1 [(.t 71)]⟩ (.op ⟨(some 64), none, .app (.t 61) (.t 63) 34 6⟩ (.op ⟨(some 70), none, .call (.c (.fn (.func 191) [] [])) [(.t 69)]⟩ (.op ⟨(some 73), none, .app (.t 70) (.t 72) 2 1⟩ (.op ⟨(some 74), none, .bsl true 25 1 [(.t 73)]⟩ (.op ⟨(some 75), none, .app (.t 65) (.t 74) 25 1⟩ (.op ⟨(some 7), none, .mv (.t 64)⟩ (.op ⟨(some 8), none, .mv (.t 75)⟩ .fin)))))))))) (.op ⟨(some 72), none, .bsl true 2 1 [(.t 71)]⟩ (.op ⟨(some 63), none, .bsl true 34 6 [(.t 62)]⟩ (.op ⟨(some 64), none, .app (.t 61) (.t 63) 34 6⟩ (.op ⟨(some 70), none, .call (.c (.fn (.func 191) [] [])) [(.t 69)]⟩ (.op ⟨(some 73), none, .app (.t 70) (.t 72) 2 1⟩ (.op ⟨(some 74), none, .bsl true 25 1 [(.t 73)]⟩ (.op ⟨(some 75), none, .app (.t 65) (.t 74) 25 1⟩ (.op ⟨(some 7), none, .mv (.t 64)⟩ (.op ⟨(some 8), none, .mv (.t 75)⟩ .fin))))))))))) (.op ⟨(some 72), none, .bsl true 2 1 [(.t 71)]⟩ (.alt (.op ⟨(some 63), none, .bsl true 34 6 [(.t 62)]⟩ (.alt (.op ⟨(some 64), none, .app (.t 61) (.t 63) 34 6⟩ (.op ⟨(some 69), none, .load false 1 (.t 68)⟩ (.op ⟨(some 70), none, .call (.c (.fn (.func 191) [] [])) [(.t 69)]⟩ (.op ⟨(some 73), none, .app (.t 70) (.t 72) 2 1⟩ (.op ⟨(some 74), none, .bsl true 25 1 [(.t 73)]⟩ (.op ⟨(some 75), none, .app (.t 65) (.t 74) 25 1⟩ (.op ⟨(some 7), none, .mv (.t 64)⟩ (.op ⟨(some 8), none, .mv (.t 75)⟩ .fin)))))))) (.op ⟨(some 69), none, .load false 1 (.t 68)⟩ (.op ⟨(some 64), none, .app (.t 61) (.t 63) 34 6⟩ (.op ⟨(some 70), none, .call (.c (.fn (.func 191) [] [])) [(.t 69)]⟩ (.op ⟨(some 73), none, .app (.t 70) (.t 72) 2 1⟩ (.op ⟨(some 74), none, .bsl true 25 1 [(.t 73)]⟩ (.op ⟨(some 75), none, .app (.t 65) (.t 74) 25 1⟩ (.op ⟨(some 7), none, .mv (.t 64)⟩ (.op ⟨(some 8), none, .mv (.t 75)⟩ .fin)))))))))) (.op ⟨(some 69), none, .load false 1 (.t 68)⟩ (.op ⟨(some 63), none, .bsl true 34 6 [(.t 62)]⟩ (.op ⟨(some 64), none, .app (.t 61) (.t 63) 34 6⟩ (.op ⟨(some 70), none, .call (.c (.fn (.func 191) [] [])) [(.t 69)]⟩ (.op ⟨(some 73), none, .app (.t 70) (.t 72) 2 1⟩ (.op ⟨(some 74), none, .bsl true 25 1 [(.t 73)]⟩ (.op ⟨(some 75), none, .app (.t 65) (.t 74) 25 1⟩ (.op ⟨(some 7), none, .mv (.t 64)⟩ (.op ⟨(some 8), none, .mv (.t 75)⟩ .fin)))))))))))))) (.alt (.op ⟨(some 69), none, .load false 1 (.t 68)⟩ (.alt (.op ⟨(some 62), none, .load true 6 (.t 12)⟩ (.alt (.op ⟨(some 63), none, .bsl true 34 6 [(.t 62)]⟩ (.alt (.op ⟨(some 64), none, .app (.t 61) (.t 63) 34 6⟩ (.alt (.op ⟨(some 70), none, .call (.c (.fn (.func 191) [] [])) [(.t 69)]⟩ (.op ⟨(some 72), none, .bsl true 2 1 [(.t 71)]⟩ (.op ⟨(some 73), none, .app (.t 70) (.t 72) 2 1⟩ (.op ⟨(some 74), none, .bsl true 25 1 [(.t 73)]⟩ (.op ⟨(some 75), none, .app (.t 65) (.t 74) 25 1⟩ (.op ⟨(some 7), none, .mv (.t 64)⟩ (.op ⟨(some 8), none, .mv (.t 75)⟩ .fin))))))) (.op ⟨(some 72), none, .bsl true 2 1 [(.t 71)]⟩ (.op ⟨(some 70), none, .call (.c (.fn (.func 191) [] [])) [(.t 69)]⟩ (.op ⟨(some 73), none, .app (.t 70) (.t 72) 2 1⟩ (.op ⟨(some 74), none, .bsl true 25 1 [(.t 73)]⟩ (.op ⟨(some 75), none, .app (.t 65) (.t 74) 25 1⟩ (.op ⟨(some 7), none, .mv (.t 64)⟩ (.op ⟨(some 8), none, .mv (.t 75)⟩ .fin))))))))) (.op ⟨(some 72), none, .bsl true 2 1 [(.t 71)]⟩ (.op ⟨(some 64), none, .app (.t 61) (.t 63) 34 6⟩ (.op ⟨(some 70), none, .call (.c (.fn (.func 191) [] [])) [(.t 69)]⟩ (.op ⟨(some 73), none, .app (.t 70) (.t 72) 2 1⟩ (.op ⟨(some 74), none, .bsl true 25 1 [(.t 73)]⟩ (.op ⟨(some 75), none, .app (.t 65) (.t 74) 25 1⟩ (.op ⟨(some 7), none, .mv (.t 64)⟩ (.op ⟨(some 8), none, .mv (.t 75)⟩ .fin)))))))))) (.op ⟨(some 72), none, .bsl true 2 1 [(.t 71)]⟩ (.op ⟨(some 63), none, .bsl true 34 6 [(.t 62)]⟩ (.op ⟨(some 64), none, .app (.t 61) (.t 63) 34 6⟩ (.op ⟨(some 70), none, .call (.c (.fn (.func 191) [] [])) [(.t 69)]⟩ (.op ⟨(some 73), none, .app (.t 70) (.t 72) 2 1⟩ (.op ⟨(some 74), none, .bsl true 25 1 [(.t 73)]⟩ (.op ⟨(some 75), none, .app (.t 65) (.t 74) 25 1⟩ (.op ⟨(some 7), none, .mv (.t 64)⟩ (.op ⟨(some 8), none, .mv (.t 75)⟩ .fin))))))))))) (.op ⟨(some 72), none, .bsl true 2 1 [(.t 71)]⟩ (.op ⟨(some 62), none, .load true 6 (.t 12)⟩ (.op ⟨(some 63), none, .bsl true 34 6 [(.t 62)]⟩ (.op ⟨(some 64), none, .app (.t 61) (.t 63) 34 6⟩ (.op ⟨(some 70), none, .call (.c (.fn (.func 191) [] [])) [(.t 69)]⟩ (.op ⟨(some 73), none, .app (.t 70) (.t 72) 2 1⟩ (.op ⟨(some 74), none, .bsl true 25 1 [(.t 73)]⟩ (.op ⟨(some 75), none, .app (.t 65) (.t 74) 25 1⟩ (.op ⟨(some 7), none, .mv (.t 64)⟩ (.op ⟨(some 8), none, .mv (.t 75)⟩ .fin)))))))))))) (.op ⟨(some 72), none, .bsl true 2 1 [(.t 71)]⟩ (.alt (.op ⟨(some 62), none, .load true 6 (.t 12)⟩ (.alt (.op ⟨(some 63), none, .bsl true 34 6 [(.t 62)]⟩ (.alt (.op ⟨(some 64), none, .app (.t 61) (.t 63) 34 6⟩ (.op ⟨(some 69), none, .load false 1 (.t 68)⟩ (.op ⟨(some 70), none, .call (.c (.fn (.func 191) [] [])) [(.t 69)]⟩ (.op ⟨(some 73), none, .app (.t 70) (.t 72) 2 1⟩ (.op ⟨(some 74), none, .bsl true 25 1 [(.t 73)]⟩ (.op ⟨(some 75), none, .app (.t 65) (.t 74) 25 1⟩ (.op ⟨(some 7), none, .mv (.t 64)⟩ (.op ⟨(some 8), none, .mv (.t 75)⟩ .fin)))))))) (.op ⟨(some 69), none, .load false 1 (.t 68)⟩ (.op ⟨(some 64), none, .app (.t 61) (.t 63) 34 6⟩ (.op ⟨(some 70), none, .call (.c (.fn (.func 191) [] [])) [(.t 69)]⟩ (.op ⟨(some 73), none, .app (.t 70) (.t 72) 2 1⟩ (.op ⟨(some 74), none, .bsl true 25 1 [(.t 73)]⟩ (.op ⟨(some 75), none, .app (.t 65) (.t 74) 25 1⟩ (.op ⟨(some 7), none, .mv (.t 64)⟩ (.op ⟨(some 8), none, .mv (.t 75)⟩ .fin)))))))))) (.op ⟨(some 69), none, .load false 1 (.t 68)⟩ (.op ⟨(some 63), none, .bsl true 34 6 [(.t 62)]⟩ (.op ⟨(some 64), none, .app (.t 61) (.t 63) 34 6⟩ (.op ⟨(some 70), none, .call (.c (.fn (.func 191) [] [])) [(.t 69)]⟩ (.op ⟨(some 73), none, .app (.t 70) (.t 72) 2 1⟩ (.op ⟨(some 74), none, .bsl true 25 1 [(.t 73)]⟩ (.op ⟨(some 75), none, .app (.t 65) (.t 74) 25 1⟩ (.op ⟨(some 7), none, .mv (.t 64)⟩ (.op ⟨(some 8), none, .mv (.t 75)⟩ .fin))))))))))) (.op ⟨(some 69), none, .load false 1 (.t 68)⟩ (.op ⟨(some 62), none, .load true 6 (.t 12)⟩ (.op ⟨(some 63), none, .bsl true 34 6 [(.t 62)]⟩ (.op ⟨(some 64), none, .app (.t 61) (.t 63) 34 6⟩ (.op ⟨(some 70), none, .call (.c (.fn (.func 191) [] [])) [(.t 69)]⟩ (.op ⟨(some 73), none, .app (.t 70) (.t 72) 2 1⟩ (.op ⟨(some 74), none, .bsl true 25 1 [(.t 73)]⟩ (.op ⟨(some 75), none, .app (.t 65) (.t 74) 25 1⟩ (.op ⟨(some 7), none, .mv (.t 64)⟩ (.op ⟨(some 8), none, .mv (.t 75)⟩ .fin))))))))))))))) (.op ⟨(some 72), none, .bsl true 2 1 [(.t 71)]⟩ (.alt (.op ⟨(some 62), none, .load true 6 (.t 12)⟩ (.alt (.op ⟨(some 63), none, .bsl true 34 6 [(.t 62)]⟩ (.alt (.op ⟨(some 64), none, .app (.t 61) (.t 63) 34 6⟩ (.op ⟨(some 68), none, .idxS 1 (.t 66) (.t 67)⟩ (.op ⟨(some 69), none, .load false 1 (.t 68)⟩ (.op ⟨(some 70), none, .call (.c (.fn (.func 191) [] [])) [(.t 69)]⟩ (.op ⟨(some 73), none, .app (.t 70) (.t 72) 2 1⟩ (.op ⟨(some 74), none, .bsl true 25 1 [(.t 73)]⟩ (.op ⟨(some 75), none, .app (.t 65) (.t 74) 25 1⟩ (.op ⟨(some 7), none, .mv (.t 64)⟩ (.op ⟨(some 8), none, .mv (.t 75)⟩ .fin))))))))) (.op ⟨(some 68), none, .idxS 1 (.t 66) (.t 67)⟩ (.alt (.op ⟨(some 64), none, .app (.t 61) (.t 63) 34 6⟩ (.op ⟨(some 69), none, .load false 1 (.t 68)⟩ (.op ⟨(some 70), none, .call (.c (.fn (.func 191) [] [])) [(.t 69)]⟩ (.op ⟨(some 73), none, .app (.t 70) (.t 72) 2 1⟩ (.op ⟨(some 74), none, .bsl true 25 1 [(.t 73)]⟩ (.op ⟨(some 75), none, .app (.t 65) (.t 74) 25 1⟩ (.op ⟨(some 7), none, .mv (.t 64)⟩ (.op ⟨(some 8), none, .mv (.t 75)⟩ .fin)))))))) (.op ⟨(some 69), none, .load false 1 (.t 68)⟩ (.op ⟨(some 64), none, .app (.t 61) (.t 63) 34 6⟩ (.op ⟨(some 70), none, .call (.c (.fn (.func 191) [] [])) [(.t 69)]⟩ (.op ⟨(some 73), none, .app (.t 70) (.t 72) 2 1⟩ (.op ⟨(some 74), none, .bsl true 25 1 [(.t 73)]⟩ (.op ⟨(some 75), none, .app (.t 65) (.t 74) 25 1⟩ (.op ⟨(some 7), none, .mv (.t 64)⟩ (.op ⟨(some 8), none, .mv (.t 75)⟩ .fin)))))))))))) (.op ⟨(some 68), none, .idxS 1 (.t 66) (.t 67)⟩ (.alt (.op ⟨(some 63), none, .bsl true 34 6 [(.t 62)]⟩ (.alt (.op ⟨(some 64), none, .app (.t 61) (.t 63) 34 6⟩ (.op ⟨(some 69), none, .load false 1 (.t 68)⟩ (.op ⟨(some 70), none, .call (.c (.fn (.func 191) [] [])) [(.t 69)]⟩ (.op ⟨(some 73), none, .app (.t 70) (.t 72) 2 1⟩ (.op ⟨(some 74), none, .bsl true 25 1 [(.t 73)]⟩ (.op ⟨(some 75), none, .app (.t 65) (.t 74) 25 1⟩ (.op ⟨(some 7), none, .mv (.t 64)⟩ (.op ⟨(some 8), none, .mv (.t 75)⟩ .fin)))))))) (.op ⟨(some 69), none, .load false 1 (.t 68)⟩ (.op ⟨(some 64), none, .app (.t 61) (.t 63) 34 6⟩ (.op ⟨(some 70), none, .call (.c (.fn (.func 191) [] [])) [(.t 69)]⟩ (.op ⟨(some 73), none, .app (.t 70) (.t 72) 2 1⟩ (.op ⟨(some 74), none, .bsl true 25 1 [(.t 73)]⟩ (.op ⟨(some 75), none, .app (.t 65) (.t 74) 25 1⟩ (.op ⟨(some 7), none, .mv (.t 64)⟩ (.op ⟨(some 8), none, .mv (.t 75)⟩ .fin)))))))))) (.op ⟨(some 69), none, .load false 1 (.t 68)⟩ (.op ⟨(some 63), none, .bsl true 34 6 [(.t 62)]⟩ (.op ⟨(some 64), none, .app (.t 61) (.t 63) 34 6⟩ (.op ⟨(some 70), none, .call (.c (.fn (.func 191) [] [])) [(.t 69)]⟩ (.op ⟨(some 73), none, .app (.t 70) (.t 72) 2 1⟩ (.op ⟨(some 74), none, .bsl true 25 1 [(.t 73)]⟩ (.op ⟨(some 75), none, .app (.t 65) (.t 74) 25 1⟩ (.op ⟨(some 7), none, .mv (.t 64)⟩ (.op ⟨(some 8), none, .mv (.t 75)⟩ .fin))))))))))))) (.op ⟨(some 68), none, .idxS 1 (.t 66) (.t 67)⟩ (.alt (.op ⟨(some 62), none, .load true 6 (.t 12)⟩ (.alt (.op ⟨(some 63), none, .bsl true 34 6 [(.t 62)]⟩ (.alt (.op ⟨(some 64), none, .app (.t 61) (.t 63) 34 6⟩ (.op ⟨(some 69), none, .load false 1 (.t 68)⟩ (.op ⟨(some 70), none, .call (.c (.fn (.func 191) [] [])) [(.t 69)]⟩ (.op ⟨(some 73), none, .app (.t 70) (.t 72) 2 1⟩ (.op ⟨(some 74), none, .bsl true 25 1 [(.t 73)]⟩ (.op ⟨(some 75), none, .app (.t 65) (.t 74) 25 1⟩ (.op ⟨(some 7), none, .mv (.t 64)⟩ (.op ⟨(some 8), none, .mv (.t 75)⟩ .fin)))))))) (.op ⟨(some 69), none, .load false 1 (.t 68)⟩ (.op ⟨(some 64), none, .app (.t 61) (.t 63) 34 6⟩ (.op ⟨(some 70), none, .call (.c (.fn (.func 191) [] [])) [(.t 69)]⟩ (.op ⟨(some 73), none, .app (.t 70) (.t 72) 2 1⟩ (.op ⟨(some 74), none, .bsl true 25 1 [(.t 73)]⟩ (.op ⟨(some 75), none, .app (.t 65) (.t 74) 25 1⟩ (.op ⟨(some 7), none, .mv (.t 64)⟩ (.op ⟨(some 8), none, .mv (.t 75)⟩ .fin)))))))))) (.op ⟨(some 69), none, .load false 1 (.t 68)⟩ (.op ⟨(some 63), none, .bsl true 34 6 [(.t 62)]⟩ (.op ⟨(some 64), none, .app (.t 61) (.t 63) 34 6⟩ (.op ⟨(some 70), none, .call (.c (.fn (.func 191) [] [])) [(.t 69)]⟩ (.op ⟨(some 73), none, .app (.t 70) (.t 72) 2 1⟩ (.op ⟨(some 74), none, .bsl true 25 1 [(.t 73)]⟩ (.op ⟨(some 75), none, .app (.t 65) (.t 74) 25 1⟩ (.op ⟨(some 7), none, .mv (.t 64)⟩ (.op ⟨(some 8), none, .mv (.t 75)⟩ .fin))))))))))) (.op ⟨(some 69), none, .load false 1 (.t 68)⟩ (.op ⟨(some 62), none, .load true 6 (.t 12)⟩ (.op ⟨(some 63), none, .bsl true 34 6 [(.t 62)]⟩ (.op ⟨(some 64), none, .app (.t 61) (.t 63) 34 6⟩ (.op ⟨(some 70), none, .call (.c (.fn (.func 191) [] [])) [(.t 69)]⟩ (.op ⟨(some 73), none, .app (.t 70) (.t 72) 2 1⟩ (.op ⟨(some 74), none, .bsl true 25 1 [(.t 73)]⟩ (.op ⟨(some 75), none, .app (.t 65) (.t 74) 25 1⟩ (.op ⟨(some 7), none, .mv (.t 64)⟩ (.op ⟨(some 8), none, .mv (.t 75)⟩ .fin)))))))))))))))))))))
/- live [0, 6, 7, 8, 9, 37, 38, 39] -/
def k154_b0 : KC := (.seq (.ops [⟨(some 40), none, .bin .lss (.t 39) (.t 38)⟩])
  (.seq (.cond (.t 40) .skip (.exit 2))
  (.seq (.block 3 (.seq (.ops [⟨(some 41), none, .mv (.t 39)⟩, ⟨(some 42), none, .idxS 6 (.t 37) (.t 39)⟩, ⟨(some 43), none, .load true 6 (.t 42)⟩, ⟨(some 11), none, .alloc [.int .i64 0, .int .i64 0, .int .i64 0, .int .i64 0, .int .i64 0, .int .i64 0]⟩, ⟨(some 10), none, .mv (.t 41)⟩, ⟨none, none, .store 6 (.t 11) (.t 43)⟩])
  (.seq (.draw [⟨(some 44), none, .mv (.t 7)⟩, ⟨(some 45), none, .mv (.t 9)⟩, ⟨(some 46), none, .idxS 6 (.t 44) (.t 45)⟩, ⟨(some 47), none, .load true 6 (.t 46)⟩, ⟨(some 48), none, .load true 6 (.t 11)⟩, ⟨(some 49), none, .pcall (.c (.fn (.func 118) [] [])) [(.t 47), (.t 48)]⟩, ⟨(some 12), none, .alloc [.int .i64 0, .int .i64 0, .int .i64 0, .int .i64 0, .int .i64 0, .int .i64 0]⟩, ⟨none, none, .store 6 (.t 12) (.t 49)⟩])
  (.seq (.seq (.draw [⟨(some 50), none, .mv (.t 6)⟩, ⟨(some 51), none, .load true 6 (.t 12)⟩, ⟨(some 53), none, .nilck (.t 50)⟩, ⟨(some 54), none, .fieldA 2 (.t 53)⟩, ⟨(some 52), none, .pcall (.c (.fn (.func 190) [] [])) [(.t 51)]⟩, ⟨(some 55), none, .idxA 3125 1 (.t 54) (.t 52)⟩, ⟨(some 56), none, .load false 1 (.t 55)⟩, ⟨(some 57), none, .bin .gtr (.t 56) (.c (.int .i64 0))⟩])
  (.cond (.t 57) (.exit 3) .skip))
  (.seq (.seq (.ops [⟨(some 58), none, .mv (.t 7)⟩, ⟨(some 59), none, .len false (.t 58)⟩, ⟨(some 60), none, .bin .eql (.t 59) (.c (.int .i64 300))⟩])
  (.cond (.t 60) (.seq (.ops [⟨(some 4), none, .mv (.c (.nilptr))⟩, ⟨(some 5), none, .mv (.c (.int .i64 3))⟩])
  .ret) .skip))
  (.seq (.tree k154_t0)
  (.draw [⟨(some 76), none, .mv (.t 6)⟩, ⟨(some 77), none, .load true 6 (.t 12)⟩, ⟨(some 79), none, .mv (.t 7)⟩, ⟨(some 80), none, .len false (.t 79)⟩, ⟨(some 81), none, .nilck (.t 76)⟩, ⟨(some 82), none, .fieldA 2 (.t 81)⟩, ⟨(some 78), none, .pcall (.c (.fn (.func 190) [] [])) [(.t 77)]⟩, ⟨(some 83), none, .idxA 3125 1 (.t 82) (.t 78)⟩, ⟨none, none, .store 1 (.t 83) (.t 80)⟩])))))))
  (.ops [⟨(some 84), none, .bin .add (.t 39) (.c (.int .i64 1))⟩, ⟨(some 39), none, .mv (.t 84)⟩]))))
/- live [0, 6, 7, 8, 9] -/
def k154_b1 : KC := (.seq (.seq (.ops [⟨(some 31), none, .mv (.t 9)⟩, ⟨(some 32), none, .mv (.t 7)⟩, ⟨(some 33), none, .len false (.t 32)⟩, ⟨(some 34), none, .bin .lss (.t 31) (.t 33)⟩])
  (.cond (.t 34) .skip (.exit 0)))
  (.seq (.block 1 (.seq (.ops [⟨(some 37), none, .mv (.t 0)⟩, ⟨(some 38), none, .len false (.t 37)⟩, ⟨(some 39), none, .mv (.c (.int .i64 0))⟩])
  (.block 2 (.loop k154_b0))))
  (.ops [⟨(some 35), none, .mv (.t 9)⟩, ⟨(some 36), none, .bin .add (.t 35) (.c (.int .i64 1))⟩, ⟨(some 9), none, .mv (.t 36)⟩])))
/- live [6, 8, 98, 99, 100] -/
def k154_b2 : KC := (.seq (.ops [⟨(some 101), none, .bin .lss (.t 100) (.t 99)⟩])
  (.seq (.cond (.t 101) .skip (.exit 4))
  (.seq (.block 5 (.seq (.ops [⟨(some 102), none, .idxS 6 (.t 98) (.t 100)⟩, ⟨(some 103), none, .load true 6 (.t 102)⟩, ⟨(some 14), none, .alloc [.int .i64 0, .int .i64 0, .int .i64 0, .int .i64 0, .int .i64 0, .int .i64 0]⟩, ⟨none, none, .store 6 (.t 14) (.t 103)⟩])
  (.draw [⟨(some 104), none, .mv (.t 6)⟩, ⟨(some 105), none, .mv (.t 6)⟩, ⟨(some 106), none, .nilck (.t 105)⟩, ⟨(some 107), none, .fieldA 1 (.t 106)⟩, ⟨(some 108), none, .load false 1 (.t 107)⟩, ⟨(some 109), none, .mv (.t 8)⟩, ⟨(some 110), none, .mv (.t 6)⟩, ⟨(some 111), none, .load true 6 (.t 14)⟩, ⟨(some 113), none, .nilck (.t 110)⟩, ⟨(some 114), none, .fieldA 2 (.t 113)⟩, ⟨(some 112), none, .pcall (.c (.fn (.func 190) [] [])) [(.t 111)]⟩, ⟨(some 115), none, .idxA 3125 1 (.t 114) (.t 112)⟩, ⟨(some 116), none, .load false 1 (.t 115)⟩, ⟨(some 117), none, .bin .sub (.t 116) (.c (.int .i64 1))⟩, ⟨(some 118), none, .idxS 1 (.t 109) (.t 117)⟩, ⟨(some 119), none, .load false 1 (.t 118)⟩, ⟨(some 120), none, .bsl true 25 1 [(.t 119)]⟩, ⟨(some 121), none, .app (.t 108) (.t 120) 25 1⟩, ⟨(some 122), none, .nilck (.t 104)⟩, ⟨(some 123), none, .fieldA 1 (.t 122)⟩, ⟨none, none, .store 1 (.t 123) (.t 121)⟩])))
  (.ops [⟨(some 124), none, .bin .add (.t 100) (.c (.int .i64 1))⟩, ⟨(some 100), none, .mv (.t 124)⟩]))))
/- live [6, 128, 129, 130] -/
def k154_b3 : KC := (.seq (.ops [⟨(some 131), none, .bin .lss (.t 130) (.t 129)⟩])
  (.seq (.cond (.t 131) .skip (.exit 6))
  (.seq (.block 7 (.seq (.ops [⟨(some 132), none, .mv (.t 130)⟩, ⟨(some 133), none, .idxS 6 (.t 128) (.t 130)⟩, ⟨(some 134), none, .load true 6 (.t 133)⟩, ⟨(some 16), none, .alloc [.int .i64 0, .int .i64 0, .int .i64 0, .int .i64 0, .int .i64 0, .int .i64 0]⟩, ⟨(some 15), none, .mv (.t 132)⟩, ⟨none, none, .store 6 (.t 16) (.t 134)⟩])
  (.draw [⟨(some 135), none, .mv (.t 6)⟩, ⟨(some 136), none, .load true 6 (.t 16)⟩, ⟨(some 138), none, .mv (.t 15)⟩, ⟨(some 139), none, .bin .add (.t 138) (.c (.int .i64 1))⟩, ⟨(some 140), none, .nilck (.t 135)⟩, ⟨(some 141), none, .fieldA 2 (.t 140)⟩, ⟨(some 137), none, .pcall (.c (.fn (.func 190) [] [])) [(.t 136)]⟩, ⟨(some 142), none, .idxA 3125 1 (.t 141) (.t 137)⟩, ⟨none, none, .store 1 (.t 142) (.t 139)⟩])))
  (.ops [⟨(some 143), none, .bin .add (.t 130) (.c (.int .i64 1))⟩, ⟨(some 130), none, .mv (.t 143)⟩]))))
def k154 : KC := (.seq (.ops [⟨(some 4), none, .mv (.c (.nilptr))⟩, ⟨(some 5), none, .mv (.c (.int .i64 0))⟩])
  (.seq (.ops [⟨(some 17), none, .build ([.nils, .nils] ++ List.replicate 3125 (.int .i64 0)) []⟩, ⟨(some 18), none, .box false (.t 17)⟩, ⟨(some 6), none, .mv (.t 18)⟩])
  (.seq (.ops [⟨(some 19), none, .mv (.t 1)⟩, ⟨(some 20), none, .call (.c (.fn (.func 148) [] [])) [(.t 19)]⟩, ⟨(some 21), none, .bsl false 34 6 [(.t 20)]⟩, ⟨(some 7), none, .mv (.t 21)⟩])
  (.seq (.ops [⟨(some 22), none, .bsl false 25 1 [(.c (.nils))]⟩, ⟨(some 8), none, .mv (.t 22)⟩])
  (.seq (.draw [⟨(some 23), none, .mv (.t 6)⟩, ⟨(some 24), none, .mv (.t 7)⟩, ⟨(some 25), none, .idxS 6 (.t 24) (.c (.int .i64 0))⟩, ⟨(some 26), none, .load true 6 (.t 25)⟩, ⟨(some 28), none, .nilck (.t 23)⟩, ⟨(some 29), none, .fieldA 2 (.t 28)⟩, ⟨(some 27), none, .pcall (.c (.fn (.func 190) [] [])) [(.t 26)]⟩, ⟨(some 30), none, .idxA 3125 1 (.t 29) (.t 27)⟩, ⟨none, none, .store 1 (.t 30) (.c (.int .i64 1))⟩])
  (.seq (.seq (.ops [⟨(some 9), none, .mv (.c (.int .i64 0))⟩])
  (.block 0 (.loop k154_b1)))
  (.seq (.ops [⟨(some 85), none, .mv (.t 6)⟩, ⟨(some 86), none, .mv (.t 7)⟩, ⟨(some 87), none, .call (.c (.fn (.func 192) [] [])) [(.t 86)]⟩, ⟨(some 88), none, .nilck (.t 85)⟩, ⟨(some 89), none, .fieldA 0 (.t 88)⟩, ⟨none, none, .store 1 (.t 89) (.t 87)⟩])
  (.seq (.ops [⟨(some 90), none, .mv (.t 6)⟩, ⟨(some 91), none, .nilck (.t 90)⟩, ⟨(some 92), none, .fieldA 0 (.t 91)⟩, ⟨(some 93), none, .load false 1 (.t 92)⟩, ⟨(some 94), none, .call (.c (.fn (.func 193) [] [])) [(.t 93), (.c (.fn (.func 140) [] []))]⟩])
  (.seq (.seq (.ops [⟨(some 95), none, .mv (.t 6)⟩, ⟨(some 96), none, .nilck (.t 95)⟩, ⟨(some 97), none, .fieldA 0 (.t 96)⟩, ⟨(some 98), none, .load false 1 (.t 97)⟩, ⟨(some 99), none, .len false (.t 98)⟩, ⟨(some 100), none, .mv (.c (.int .i64 0))⟩])
  (.block 4 (.loop k154_b2)))
  (.seq (.seq (.ops [⟨(some 125), none, .mv (.t 6)⟩, ⟨(some 126), none, .nilck (.t 125)⟩, ⟨(some 127), none, .fieldA 0 (.t 126)⟩, ⟨(some 128), none, .load false 1 (.t 127)⟩, ⟨(some 129), none, .len false (.t 128)⟩, ⟨(some 130), none, .mv (.c (.int .i64 0))⟩])
  (.block 6 (.loop k154_b3)))
  (.seq (.ops [⟨(some 144), none, .mv (.t 6)⟩, ⟨(some 4), none, .mv (.t 144)⟩, ⟨(some 5), none, .mv (.c (.int .i64 0))⟩])
  .ret)))))))))))
theorem e154 {args : List PV} {σ : Heap} {K : PV → Heap → Prop} (hl : args.length ≤ 145) (h : Wf σ → (∀ a ∈ args, PV.upto σ.length a) → vc (mkCfg Tryz.prog mixed [63, 72, 74, 120] 145 σ.length) k154 (FinK σ.length [.t 4, .t 5] K) (argEnv 0 args) σ) : ACall Tryz.prog 154 args σ K :=
  ACall_enter (C := mkCfg Tryz.prog mixed [63, 72, 74, 120] 145 σ.length) (c := Tryz.f154.body.getD .skip) Tryz.func154 (by kernel_rfl) (by kernel_rfl) (by kernel_rfl) rfl hl (by kernel_rfl) (by kernel_rfl) h
/- slices.Clone[[]impl.Map,impl.Map] -/
def k192 : KC := (.seq (.ops [⟨(some 2), none, .mv (.c (.nils))⟩])
  (.seq (.seq (.ops [⟨(some 3), none, .mv (.t 0)⟩, ⟨(some 4), none, .isn false (.t 3)⟩])
  (.cond (.t 4) (.seq (.ops [⟨(some 2), none, .mv (.c (.nils))⟩])
  .ret) .skip))
  (.seq (.ops [⟨(some 5), none, .bsl false 34 6 []⟩, ⟨(some 6), none, .mv (.t 0)⟩, ⟨(some 7), none, .app (.t 5) (.t 6) 34 6⟩, ⟨(some 2), none, .mv (.t 7)⟩])
  .ret)))
theorem e192 {args : List PV} {σ : Heap} {K : PV → Heap → Prop} (hl : args.length ≤ 8) (h : Wf σ → (∀ a ∈ args, PV.upto σ.length a) → vc (mkCfg Tryz.prog mixed [] 8 σ.length) k192 (FinK σ.length [.t 2] K) (argEnv 0 args) σ) : ACall Tryz.prog 192 args σ K :=
  ACall_enter (C := mkCfg Tryz.prog mixed [] 8 σ.length) (c := Tryz.f192.body.getD .skip) Tryz.func192 (by kernel_rfl) (by kernel_rfl) (by kernel_rfl) rfl hl (by kernel_rfl) (by kernel_rfl) h
end Go.Proofs.YtpfapiiinkkcgaaGreat
namespace Go.Proofs.YtpfapiiinkkcgaaGreat
open Go.Kv
set_option linter.unusedVariables false
set_option linter.unusedSimpArgs false
attribute [local irreducible] ACall PCall KL
end Go.Proofs.YtpfapiiinkkcgaaGreat
end
section
/- newMonoid: a map is found: the list of the found and the words grow, in whatever order. -/
namespace Go.Proofs.YtpfapiiinkkcgaaGreat
open Go.Kv
set_option linter.unusedVariables false
set_option linter.unusedSimpArgs false
attribute [local irreducible] ACall PCall KL
set_option maxHeartbeats 8000000 in
theorem nm_tree {R : List (List Nat)} {g : List Nat} {τ : Heap} {u1 u2 : Nat} {ws : List PV} {W : List (List Int)} {bb i k : Nat}
    (h1 : τ[1]? = some (.arr u1 34 6 (aggs (R.map mp)))) (hW : WG τ (fun id => id = 0 ∨ id = 1) 2 u2 ws W) (hWl : W.length = R.length) (hb : τ[bb]? = some (.box (ints (mp g)))) (hbb : 2 < bb) (h6g : (mp g).length = 6) (hRl : R.length < 300) (hi : i < R.length) (hk : k ≤ 1000) (hw : ∀ w ∈ W, w.length + 1 ≤ W.length)
    {Q : Exit → Env → Heap → Prop} {v0 v6 v37 v38 v39 : PV} {env : Env} (e0 : Kv.look env 0 = v0) (e6 : Kv.look env 6 = v6) (e7 : Kv.look env 7 = .ref 1 u1 0 R.length) (e8 : Kv.look env 8 = .ref 2 u2 0 W.length) (e9 : Kv.look env 9 = .int .i64 i) (e10 : Kv.look env 10 = .int .i64 k) (e12 : Kv.look env 12 = .ptr bb 0) (e37 : Kv.look env 37 = v37) (e38 : Kv.look env 38 = v38) (e39 : Kv.look env 39 = v39)
    (hQ : ∀ env' ρ w', keep [0, 6, 7, 8, 9, 12, 37, 38, 39] env' = [(0, v0), (6, v6), (7, .ref 1 (u1 + 1) 0 (R.length + 1)), (8, .ref 2 (u2 + 1) 0 (W.length + 1)), (9, .int .i64 i), (12, .ptr bb 0), (37, v37), (38, v38), (39, v39)] → ρ[1]? = some (.arr (u1 + 1) 34 6 (aggs ((R ++ [g]).map mp))) → WG ρ (fun id => id = 0 ∨ id = 1) 2 (u2 + 1) (ws ++ [w']) (W ++ [W.getD i [] ++ [(k : Int)]]) → (∀ id, id < τ.length → id ≠ 1 → id ≠ 2 → ρ[id]? = τ[id]?) → Q .normal env' ρ) :
    vT Tryz.prog k154_t0 Q env τ := by
  have hτ1 := (List.getElem?_eq_some_iff.1 h1).1
  have hτ2 := (List.getElem?_eq_some_iff.1 hW.out).1
  have hτb := (List.getElem?_eq_some_iff.1 hb).1
  obtain ⟨σ, hσ⟩ : ∃ σ, σ = τ.set 1 (.arr (u1 + 1) 34 6 (aggs ((R ++ [g]).map mp))) := ⟨_, rfl⟩
  have hl : σ.length = τ.length := by rw [hσ, List.length_set]
  have s1 : σ[1]? = some (.arr (u1 + 1) 34 6 (aggs ((R ++ [g]).map mp))) := by rw [hσ]; exact List.getElem?_set_self hτ1
  have sk : ∀ id, id ≠ 1 → σ[id]? = τ[id]? := fun id h => by rw [hσ, List.getElem?_set_ne (Ne.symm h)]
  have sb : σ[bb]? = some (.box (ints (mp g))) := by rw [sk bb (by omega)]; exact hb
  have hWs : WG σ (fun id => id = 0 ∨ id = 1) 2 u2 ws W := hW.keep (fun id _ hA => sk id fun e => hA (.inr e)) (by simp)
  have hWo := hW.out
  have hWso := hWs.out
  have hwl := hW.len
  obtain ⟨w, hwi, hWd⟩ := hWs.cell (i := i) (by omega)
  have hwcs := hWd.cs
  have hWi : W[i].length + 1 ≤ W.length := hw _ (List.getElem_mem _)
  have hgd : W.getD i [] = W[i] := by rw [List.getD_eq_getElem?_getD, List.getElem?_eq_getElem (by omega)]; rfl
  rw [hgd] at hQ
  clear hgd
  generalize W[i]'(by omega) = wi at hWd hWi hQ
  have t6 : List.take 6 (mp g) = mp g := take6 h6g
  have tR : List.take R.length (R.map mp) = R.map mp := List.take_of_length_le (by rw [List.length_map]; exact Nat.le_refl _)
  have tRg : R.map mp ++ [mp g] = (R ++ [g]).map mp := by simp
  have hilg : (ints (mp g)).length = 6 := by rw [ints_length, h6g]
  have hp1 : ∀ K : PV → Heap → Prop, K (.ref 1 (u1 + 1) 0 (R.length + 1)) σ → aApp 34 6 (.ref 1 u1 0 R.length) (.list [.agg (ints (mp g))]) τ K := fun K hK => by
    try simp only [h1, aggs_length, List.length_map, t6, tR, tRg, OpK_eq, HKv, h6g, take6, List.drop_zero, Int.cast_ofNat_Int, go_sem, ↓reduceIte, Nat.reduceEqDiff, Nat.reduceAdd, Nat.reduceMul, Nat.reduceLeDiff, Nat.reduceLT, Int.reduceLE, Int.reduceLT, reduceCtorEq]
    exact ⟨⟨Nat.le_refl _, by omega⟩, by rw [← hσ]; exact hK⟩
  have hpush : ∀ (c : AObj) (w' : PV), Wd (σ ++ [c]) (fun id => (id = 0 ∨ id = 1) ∨ id = 2) w' (wi ++ [(k : Int)]) → ∀ K' : PV → Heap → Prop,
      (∀ ρ, ρ[1]? = some (.arr (u1 + 1) 34 6 (aggs ((R ++ [g]).map mp))) → WG ρ (fun id => id = 0 ∨ id = 1) 2 (u2 + 1) (ws ++ [w']) (W ++ [wi ++ [(k : Int)]]) → (∀ id, id < τ.length → id ≠ 1 → id ≠ 2 → ρ[id]? = τ[id]?) → K' (.ref 2 (u2 + 1) 0 (W.length + 1)) ρ) →
      aApp 25 1 (.ref 2 u2 0 W.length) (.list [w']) (σ ++ [c]) K' := fun c w' hw' K' hK' => by
    have hG : WG (σ ++ [c]) (fun id => id = 0 ∨ id = 1) 2 u2 ws W := hWs.keep (fun id hid _ => List.getElem?_append_left hid) (by simp)
    refine hG.push hw' (by omega) fun hQ => hK' _ ?_ hQ fun id hid n1 n2 => ?_
    · rw [List.getElem?_set_ne (by decide), List.getElem?_append_left (by omega)]; exact s1
    · rw [List.getElem?_set_ne (Ne.symm n2), List.getElem?_append_left (by omega)]; exact sk id n1
  have hwd1 : Wd (σ ++ [.arr 2 2 1 (ints (wi ++ [(k : Int)]))]) (fun id => (id = 0 ∨ id = 1) ∨ id = 2) (.ref σ.length 2 0 (wi.length + 1)) (wi ++ [(k : Int)]) := by
    have e : wi.length + 1 = (wi ++ [(k : Int)]).length := by simp
    rw [e]
    exact .inr ⟨_, 2, rfl, by simp, fun h => by rcases h with (h | h) | h <;> omega⟩
  have hwd0 : wi = [] → Wd (σ ++ [.arr 0 2 1 [.int .i64 k]]) (fun id => (id = 0 ∨ id = 1) ∨ id = 2) (.ref σ.length 0 0 1) (wi ++ [(k : Int)]) := fun h0 => by
    rw [h0]
    exact .inr ⟨_, 0, rfl, by simp [ints], fun h => by rcases h with (h | h) | h <;> omega⟩
  have hgb : ∀ (s : Heap) (a : AObj), (s ++ [a])[s.length]? = some a := fun s a => by simp
  have hsb : ∀ (s : Heap) (a b : AObj), (s ++ [a]).set s.length b = s ++ [b] := fun s a b => by simp [List.set_append_right]
  have hpR : ∀ (c : AObj) (w' : PV), Wd (σ ++ [c]) (fun id => (id = 0 ∨ id = 1) ∨ id = 2) w' (wi ++ [(k : Int)]) → ∀ K' : PV → Heap → Prop,
      (∀ ρ, ρ[1]? = some (.arr (u1 + 1) 34 6 (aggs ((R ++ [g]).map mp))) → WG ρ (fun id => id = 0 ∨ id = 1) 2 (u2 + 1) (ws ++ [w']) (W ++ [wi ++ [(k : Int)]]) → (∀ id, id < τ.length → id ≠ 1 → id ≠ 2 → ρ[id]? = τ[id]?) → K' (.ref 2 (u2 + 1) 0 (W.length + 1)) ρ) →
      AppR 25 1 2 u2 0 W.length (.list [w']) (σ ++ [c]) K' (σ ++ [c])[2]? := fun c w' hw' K' hK' => by
    rw [← aApp_ref]
    exact hpush c w' hw' K' hK'
  have hld : ∀ P : PV → Prop, P w → (i < ws.length ∧ ∀ x, ws[i]? = some x → 0 < x.cs.length ∧ ∀ c, x.cs[0]? = some c → P c) := fun P hP => by
    refine ⟨by omega, fun x hx => ?_⟩
    rw [hwi] at hx; cases hx
    rw [hwcs.1]
    exact ⟨by simp, fun q hq => by simp only [List.getElem?_cons_zero, Option.some.injEq] at hq; subst hq; exact hP⟩
  generalize hv7 : PV.ref 1 u1 0 R.length = v7 at *
  unfold k154_t0
  repeat' (first
    | refine Eq.mpr (vT_alt _ _) ⟨?_, ?_⟩
    | refine hp1 _ ?_
    | refine hld _ ?_
    | (refine ⟨⟨by omega, by omega⟩, ?_⟩)
    | simp only [e7, e8, e9, e10, e12, hb, sb, hilg, h6g, t6, hWso, hWo, OpK_eq, HKv, take6, List.drop_zero, Int.cast_ofNat_Int, go_sem, ↓reduceIte, Nat.reduceEqDiff, Nat.reduceAdd, Nat.reduceMul, Nat.reduceLeDiff, Nat.reduceLT, Int.reduceLE, Int.reduceLT, reduceCtorEq])
  all_goals (refine ACall.lend (p191P wi (by omega)) (.cons hWd.imm (.nil _)) fun v s hv => ?_)
  all_goals (rcases hv with ⟨rfl, rfl⟩ | ⟨hl0, rfl, rfl⟩)
  all_goals (first | refine ⟨⟨free_ref _ _ _ _, Free.ints _ _ _ _⟩, ?_⟩ | refine ⟨⟨Plain.nils.fr, Free.nil⟩, ?_⟩)
  all_goals (try simp only [OpK_eq, HKv, ren_ref, ren_arr, ren_ints, Nat.zero_add, hgb, hsb, take6, List.drop_zero, Int.cast_ofNat_Int, go_sem, ↓reduceIte, Nat.reduceEqDiff, Nat.reduceAdd, Nat.reduceMul, Nat.reduceLeDiff, Nat.reduceLT, Int.reduceLE, Int.reduceLT, reduceCtorEq] )
  all_goals (first | refine ⟨⟨Nat.le_refl _, by omega⟩, hpR _ _ hwd1 _ fun ρ q1 q2 q3 => ?_⟩ | refine hpR _ _ (hwd0 hl0) _ fun ρ q1 q2 q3 => ?_)
  all_goals (try simp only [OpK_eq, HKv, take6, List.drop_zero, Int.cast_ofNat_Int, go_sem, ↓reduceIte, Nat.reduceEqDiff, Nat.reduceAdd, Nat.reduceMul, Nat.reduceLeDiff, Nat.reduceLT, Int.reduceLE, Int.reduceLT, reduceCtorEq] )
  all_goals exact hQ _ _ _ (by simp [keep, e0, e6, e9, e12, e37, e38, e39]) q1 q2 q3
end Go.Proofs.YtpfapiiinkkcgaaGreat
end
section
/- compareSets in the machine's own terms. -/
namespace Go.Proofs.YtpfapiiinkkcgaaGreat
open Go.RowKit Go.Shelf
set_option linter.unusedVariables false
set_option linter.unusedSimpArgs false
attribute [local go_sem] Oper.semAt_some
def cI (x y : Int) : Int := if x < y then -1 else if y < x then 1 else 0
/-- How slices.Compare compares. -/
def slc : List Int → List Int → Int
  | [], [] => 0
  | [], _ :: _ => -1
  | _ :: _, [] => 1
  | x :: xs, y :: ys => if x < y then -1 else if y < x then 1 else slc xs ys
theorem slc_drop {xs ys : List Int} {k : Nat} (h1 : k < xs.length) (h2 : k < ys.length) : slc (xs.drop k) (ys.drop k) = if (xs[k]?.getD 0) < (ys[k]?.getD 0) then -1 else if (ys[k]?.getD 0) < (xs[k]?.getD 0) then 1 else slc (xs.drop (k + 1)) (ys.drop (k + 1)) := by
  rw [List.drop_eq_getElem_cons h1, List.drop_eq_getElem_cons h2, slc]
  simp [h1, h2]
theorem slc_short {xs ys : List Int} {k : Nat} (h1 : k < xs.length) (h2 : ys.length ≤ k) : slc (xs.drop k) (ys.drop k) = 1 := by
  rw [List.drop_eq_getElem_cons h1, List.drop_of_length_le h2, slc]
theorem slc_end (xs ys : List Int) : slc (xs.drop xs.length) (ys.drop xs.length) = if xs.length < ys.length then -1 else 0 := by
  rw [List.drop_length]
  split
  · rename_i h; rw [List.drop_eq_getElem_cons h, slc]
  · rename_i h; rw [List.drop_of_length_le (by omega), slc]
def orV (u v : Int) : Int := if u = 0 then v else u
theorem orV_ne {u v : Int} (h : u ≠ 0) : orV u v = u := if_neg h
theorem orV_zero (v : Int) : orV 0 v = v := rfl
set_option maxHeartbeats 1000000 in
theorem nan64_in (F : Fence) (n : Nat) (h : F.fn 147) (hro : F.round = none) (x : Int) (w : World) : CallsIn F n Tryz.prog 147 #[.int .i64 x] w fun e w' => e = .returned (.bool false) ∧ w' = w := by
  refine callsIn_of_wp Tryz.func147 rfl h ?_ hro
  simp only [Tryz.ntmps147, List.size_toArray, List.length_cons, List.length_nil, Nat.reduceAdd, Nat.reduceSub, Array.replicate_succ, Array.replicate_zero, List.push_toArray, List.append_toArray, List.nil_append, List.cons_append]
  gi_wp2
  go_ret
  exact ⟨by simp, rfl⟩
set_option maxHeartbeats 1000000 in
theorem cmp64_in (F : Fence) (n : Nat) (h : F.fn 97) (h2 : F.fn 147) (hro : F.round = none) (hn : 1 ≤ n) (x y : Int) (w : World) : CallsIn F n Tryz.prog 97 #[.int .i64 x, .int .i64 y] w fun e w' => e = .returned (.int .i64 (cI x y)) ∧ w' = w := by
  refine callsIn_of_wp Tryz.func97 rfl h ?_ hro
  simp only [Tryz.ntmps97, List.size_toArray, List.length_cons, List.length_nil, Nat.reduceAdd, Nat.reduceSub, Array.replicate_succ, Array.replicate_zero, List.push_toArray, List.append_toArray, List.nil_append, List.cons_append]
  gi_wp2_with (gi_at_call 147; refine (nan64_in F (n - 1) h2 hro _ _).mono ?_; rintro e w' ⟨rfl, rfl⟩)
  all_goals go_ret
  all_goals (refine ⟨?_, rfl⟩; unfold cI; (repeat' split) <;> first | rfl | omega)
set_option maxRecDepth 100000 in
set_option maxHeartbeats 2000000 in
theorem slc_in (F : Fence) (n : Nat) (h : F.fn 176) (h1 : F.fn 97) (h2 : F.fn 147) (hro : F.round = none) (hn : 2 ≤ n) (b1 o1 c1 b2 o2 c2 : Nat) (xs ys : List Int) (hx : xs.length ≤ 1000000) (hy : ys.length ≤ 1000000) (w : World)
    (hc1 : ∀ j, j < xs.length → w.cell? ⟨b1, o1 + j, none⟩ = some (.int .i64 (xs[j]?.getD 0))) (hc2 : ∀ j, j < ys.length → w.cell? ⟨b2, o2 + j, none⟩ = some (.int .i64 (ys[j]?.getD 0))) :
    CallsIn F n Tryz.prog 176 #[.slice (some ⟨b1, o1, none⟩) xs.length c1, .slice (some ⟨b2, o2, none⟩) ys.length c2] w fun e w' => e = .returned (.int .i64 (slc xs ys)) ∧ w' = w := by
  have h3 : 1 ≤ n - 1 := by omega
  have h4 : 1 ≤ n := by omega
  refine callsIn_of_wp Tryz.func176 rfl h ?_ hro
  simp only [Tryz.ntmps176, List.size_toArray, List.length_cons, List.length_nil, Nat.reduceAdd, Nat.reduceSub, Array.replicate_succ, Array.replicate_zero, List.push_toArray, List.append_toArray, List.nil_append, List.cons_append]
  gi_wp2
  gi_loopw [11] (fun i wr => ∃ k : Nat, k ≤ xs.length ∧ i = .int .i64 k ∧ slc (xs.drop k) (ys.drop k) = slc xs ys ∧ wr = w)
    (fun i _ => xs.length - (intOf i).toNat)
  case atStart => exact ⟨0, Nat.zero_le _, rfl, rfl, rfl⟩
  case round =>
    obtain ⟨k, hk, rfl, hs, rfl⟩ := hrel
    have hx1 : k < xs.length → wr.cell? ⟨b1, o1 + k, none⟩ = some (.int .i64 (xs[k]?.getD 0)) := hc1 k
    have hy1 : k < ys.length → wr.cell? ⟨b2, o2 + k, none⟩ = some (.int .i64 (ys[k]?.getD 0)) := hc2 k
    by_cases hlt : k < xs.length
    · have hx2 := hx1 hlt
      by_cases hlt2 : k < ys.length
      · have hy2 := hy1 hlt2
        have hd := slc_drop hlt hlt2
        rw [hs] at hd
        clear hs
        gi_wp2_with (gi_at_call 97; refine (cmp64_in F (n - 1) h1 h2 hro h3 _ _ _).mono ?_; rintro e w' ⟨rfl, rfl⟩)
        · have hb : (cI xs[k] ys[k] != 0) = true := by assumption
          have hne : ¬ cI xs[k] ys[k] = 0 := by simpa using hb
          go_ret
          refine ⟨?_, rfl⟩
          show Ending.returned (Value.int .i64 (cI xs[k] ys[k])) = _
          rw [hd]
          simp only [List.getElem?_eq_getElem hlt, List.getElem?_eq_getElem hlt2, Option.getD_some]
          unfold cI at hne ⊢
          (repeat' split) <;> first | rfl | omega | (simp_all)
        · have hb : (cI xs[k] ys[k] != 0) = false := by assumption
          have he : cI xs[k] ys[k] = 0 := by simpa using hb
          refine ⟨⟨k + 1, by omega, by simp, ?_, trivial⟩, by simp [intOf]; omega⟩
          rw [hd]
          simp only [List.getElem?_eq_getElem hlt, List.getElem?_eq_getElem hlt2, Option.getD_some]
          unfold cI at he
          split at he
          · cases he
          · split at he
            · cases he
            · rename_i q1 q2
              rw [if_neg q1, if_neg q2]
      · have hd := slc_short hlt (Nat.le_of_not_lt hlt2)
        rw [hs] at hd
        clear hs
        gi_wp2
        go_ret
        exact ⟨by show Ending.returned (Value.int .i64 1) = _; rw [hd], rfl⟩
    · obtain rfl : k = xs.length := by omega
      rw [slc_end] at hs
      gi_wp2
      all_goals go_ret
      all_goals (refine ⟨?_, rfl⟩; rw [← hs]; split <;> first | rfl | omega)
set_option maxHeartbeats 2000000 in
theorem or_in (F : Fence) (n : Nat) (h : F.fn 175) (hro : F.round = none) (b : Nat) (u v : Int) (w : World) (hu : w.cell? ⟨b, 0, none⟩ = some (.int .i64 u)) (hv : w.cell? ⟨b, 1, none⟩ = some (.int .i64 v)) :
    CallsIn F n Tryz.prog 175 #[.slice (some ⟨b, 0, none⟩) 2 2] w fun e w' => e = .returned (.int .i64 (orV u v)) ∧ w' = w := by
  refine callsIn_of_wp Tryz.func175 rfl h ?_ hro
  simp only [Tryz.ntmps175, List.size_toArray, List.length_cons, List.length_nil, Nat.reduceAdd, Nat.reduceSub, Array.replicate_succ, Array.replicate_zero, List.push_toArray, List.append_toArray, List.nil_append, List.cons_append]
  gi_wp2
  gi_loopw [8] (fun i wr => ∃ k : Nat, k ≤ 2 ∧ i = .int .i64 k ∧ (1 ≤ k → u = 0) ∧ (2 ≤ k → v = 0) ∧ wr = w)
    (fun i _ => 2 - (intOf i).toNat)
  case atStart => exact ⟨0, Nat.zero_le _, rfl, fun h => by omega, fun h => by omega, rfl⟩
  case round =>
    obtain ⟨k, hk, rfl, hk1, hk2, rfl⟩ := hrel
    have h012 : k = 0 ∨ k = 1 ∨ k = 2 := by omega
    rcases h012 with rfl | rfl | rfl
    · gi_wp2
      · have hb : (u != 0) = true := by assumption
        have hne : u ≠ 0 := by simpa using hb
        go_ret
        exact ⟨by show Ending.returned (Value.int .i64 u) = _; rw [orV_ne hne], rfl⟩
      · have hb : (u != 0) = false := by assumption
        have he : u = 0 := by simpa using hb
        exact ⟨⟨1, by omega, by simp, fun _ => he, fun h => by omega, trivial⟩, by simp [intOf]⟩
    · have h0 := hk1 (Nat.le_refl _)
      subst h0
      gi_wp2
      · go_ret
        exact ⟨by show Ending.returned (Value.int .i64 v) = _; rw [orV_zero], rfl⟩
      · have hb : (v != 0) = false := by assumption
        have he : v = 0 := by simpa using hb
        exact ⟨⟨2, by omega, by simp, fun _ => by trivial, fun _ => he, trivial⟩, by simp [intOf]⟩
    · have h0 := hk1 (by omega)
      have h1 := hk2 (by omega)
      subst h0; subst h1
      gi_wp2
      go_ret
      exact ⟨rfl, rfl⟩
theorem cell_two (w : World) (a b : Value) (t : TypeId) : (w.alloc (.cells #[a, b] t)).cell? ⟨w.heap.size, 0, none⟩ = some a ∧ (w.alloc (.cells #[a, b] t)).cell? ⟨w.heap.size, 1, none⟩ = some b := by
  have h := World.alloc_heap_new w (.cells #[a, b] t)
  constructor <;> (unfold World.cell?; rw [h]; rfl)
end Go.Proofs.YtpfapiiinkkcgaaGreat
end
section
/- slices.SortFunc at rows: in the machine's own terms. -/
namespace Go.Proofs
end Go.Proofs
namespace Go.Proofs.YtpfapiiinkkcgaaGreat
open Go.Shelf Go.RowKit Go.Lib Go.Sort
set_option linter.unusedVariables false
set_option linter.unusedSimpArgs false
theorem slc_self : ∀ xs, slc xs xs = 0
  | [] => rfl
  | x :: xs => by rw [slc, if_neg (by omega), if_neg (by omega)]; exact slc_self xs
theorem slc_anti : ∀ xs ys, slc ys xs = - slc xs ys
  | [], [] => rfl
  | [], _ :: _ => rfl
  | _ :: _, [] => rfl
  | x :: xs, y :: ys => by
    have := slc_anti xs ys
    rw [slc, slc]
    (repeat' split) <;> omega
theorem slc_trans : ∀ {xs ys zs}, slc xs ys ≤ 0 → slc ys zs ≤ 0 → slc xs zs ≤ 0
  | [], _, [], _, _ => by simp [slc]
  | [], _, _ :: _, _, _ => by simp [slc]
  | _ :: _, [], _, h, _ => by simp [slc] at h
  | _ :: _, _ :: _, [], _, h => by simp [slc] at h
  | x :: xs, y :: ys, z :: zs, h1, h2 => by
    rw [slc] at h1 h2 ⊢
    split at h1
    · split at h2
      · rw [if_pos (by omega)]; omega
      · split at h2
        · omega
        · rw [if_pos (by omega)]; omega
    · split at h1
      · omega
      · split at h2
        · rw [if_pos (by omega)]; omega
        · split at h2
          · omega
          · rw [if_neg (by omega), if_neg (by omega)]
            exact slc_trans h1 h2
section
variable {α : Type} [Inhabited α] (enc : α → Value) {w : World} {g n : Nat} {os : Array Obj}
theorem sorted_heap {cur : Array Value} {e : TypeId} {fr : Nat × Nat} (d : Array α) (hb : w.heap[g]? = some (.cells cur e fr)) : (sortWorld enc w g 0 n d os).heap[g]? = some (.cells (putCells enc 0 d cur) e fr) := by
  have hg : g < w.heap.size := (Array.getElem?_eq_some_iff.1 hb).1
  unfold sortWorld
  rw [heap_grow_old _ _ (by simpa using hg)]
  simp [putRow, mapBlock, Sort.ahead, Array.getElem?_modify, hb, onCells]
theorem sorted_other (d : Array α) {k : Nat} (hk : k < w.heap.size) (hne : k ≠ g) : (sortWorld enc w g 0 n d os).heap[k]? = w.heap[k]? := by
  unfold sortWorld
  rw [heap_grow_old _ _ (by simpa using hk)]
  have : g ≠ k := fun e => hne e.symm
  simp [putRow, mapBlock, Sort.ahead, Array.getElem?_modify, this]
theorem sorted_size (d : Array α) : w.heap.size ≤ (sortWorld enc w g 0 n d os).heap.size := by
  unfold sortWorld; simp
theorem sorted_take (cur : Array Value) (d : Array α) (h : d.size ≤ cur.size) : (putCells enc 0 d cur).toList.take d.size = d.toList.map enc := by
  apply List.ext_getElem?
  intro j
  by_cases hj : j < d.size
  · rw [List.getElem?_take_of_lt hj, Array.getElem?_toList]
    simp [putCells, hj, show j < cur.size by omega]
  · rw [List.getElem?_take_eq_none (by omega), List.getElem?_eq_none (by simp; omega)]
end
theorem sorted_drop {α : Type} [Inhabited α] (enc : α → Value) (cur : Array Value) (d : Array α) : (putCells enc 0 d cur).toList.drop d.size = cur.toList.drop d.size := by
  apply List.ext_getElem?
  intro j
  rw [List.getElem?_drop, List.getElem?_drop, Array.getElem?_toList, Array.getElem?_toList]
  have h : ¬ d.size + j < d.size := by omega
  simp [putCells, h]
end Go.Proofs.YtpfapiiinkkcgaaGreat
end
section
/- Map.compare and slices.SortFunc of maps, in the machine's own terms. -/
namespace Go.Proofs
open Go.Shelf Go.RowKit Go.Lib Go.Sort
shelf_lay_g SlLaysF0.n6 Slsf 6 at Tryz 193 as YtpfapiiinkkcgaaGreat.sortMaps
end Go.Proofs
namespace Go.Proofs.YtpfapiiinkkcgaaGreat
open Go.Shelf Go.RowKit Go.Lib Go.Sort
set_option linter.unusedVariables false
set_option linter.unusedSimpArgs false
attribute [local go_sem] Oper.semAt_some
theorem slc_or (x y : Int) (xs ys : List Int) : orV (cI x y) (slc xs ys) = slc (x :: xs) (y :: ys) := by
  rw [slc]
  unfold orV cI
  (repeat' split) <;> first | rfl | omega
theorem slc_swo {α : Type} (f : α → List Int) : SWO (ltOf fun x y => slc (f x) (f y)) where
  irrefl x := by
    dsimp only [ltOf]
    exact decide_eq_false (by rw [slc_self]; decide)
  trans x y z h1 h2 := by
    dsimp only [ltOf] at *
    rw [decide_eq_true_iff] at *
    have a1 := slc_anti (f y) (f z)
    have a2 := slc_anti (f x) (f z)
    refine Classical.byContradiction fun hn => ?_
    have h3 := slc_trans (xs := f z) (ys := f x) (zs := f y) (by omega) (by omega)
    omega
  ntrans x y z h1 h2 := by
    dsimp only [ltOf] at *
    rw [decide_eq_false_iff_not] at *
    have a1 := slc_anti (f x) (f y)
    have a2 := slc_anti (f y) (f z)
    have a3 := slc_anti (f x) (f z)
    have h3 := slc_trans (xs := f z) (ys := f y) (zs := f x) (by omega) (by omega)
    omega
theorem fm_idx {α : Type} {enc : α → List Value} {k : Nat} (hk : 0 < k) (he : ∀ x, (enc x).length = k) : ∀ (L : List α) (t : Nat), (L.flatMap enc)[t]? = (L[t / k]?).bind fun x => (enc x)[t % k]?
  | [], t => by simp
  | a :: L, t => by
    rw [List.flatMap_cons]
    by_cases h : t < k
    · rw [List.getElem?_append_left (by rw [he]; exact h), Nat.div_eq_of_lt h, Nat.mod_eq_of_lt h]; rfl
    · rw [List.getElem?_append_right (by rw [he]; omega), he, fm_idx hk he L (t - k)]
      have e1 : t / k = (t - k) / k + 1 := Nat.div_eq_sub_div hk (by omega)
      have e2 : t % k = (t - k) % k := Nat.mod_eq_sub_mod (by omega)
      rw [e1, e2]; rfl
theorem fm_flatK {α : Type} [Inhabited α] {enc : α → List Value} {k : Nat} (hk : 0 < k) (he : ∀ x, (enc x).length = k) (d : Array α) : (flatK enc k d).toList = d.toList.flatMap enc := by
  apply List.ext_getElem?
  intro t
  rw [fm_idx hk he]
  by_cases h : t < d.size * k
  · have h1 : t / k < d.size := (Nat.div_lt_iff_lt_mul hk).2 h
    have h2 : t % k < k := Nat.mod_lt _ hk
    have h3 : t < (flatK enc k d).size := by simpa using h
    have hg := get_flatK enc k d t h
    rw [getElem!_pos _ t h3] at hg
    have e1 : d.toList[t / k]? = some d[t / k] := by rw [Array.getElem?_toList, Array.getElem?_eq_getElem h1]
    rw [Array.getElem?_toList, Array.getElem?_eq_getElem h3, hg, e1]
    have e2 : d[t / k]! = d[t / k] := getElem!_pos d (t / k) h1
    rw [e2]
    show _ = (enc d[t / k])[t % k]?
    have h4 : t % k < (enc d[t / k]).length := by rw [he]; exact h2
    rw [List.getElem?_eq_getElem h4, getElem!_pos (enc d[t / k]) (t % k) h4]
  · have h1 : ¬ t / k < d.size := fun c => h ((Nat.div_lt_iff_lt_mul hk).1 c)
    rw [List.getElem?_eq_none (by simp; omega), List.getElem?_eq_none (by simp; omega)]; rfl
abbrev M6 := {l : List Int // l.length = 6}
instance : Inhabited M6 := ⟨⟨[0, 0, 0, 0, 0, 0], rfl⟩⟩
/-- A map's six cells. -/
def enc6 (x : M6) : List Value := x.1.map (Value.int .i64)
theorem enc6_len (x : M6) : (enc6 x).length = 6 := by rw [enc6, List.length_map, x.2]
theorem m6_out (x : M6) : ∃ a0 a1 a2 a3 a4 a5, x.1 = [a0, a1, a2, a3, a4, a5] := by
  obtain ⟨l, h⟩ := x
  match l, h with
  | [a0, a1, a2, a3, a4, a5], _ => exact ⟨a0, a1, a2, a3, a4, a5, rfl⟩
theorem cell_six (w w' : World) (a0 a1 a2 a3 a4 a5 : Int) (t : TypeId) (b : Nat) (h : w'.heap[b]? = some (.cells #[.int .i64 a0, .int .i64 a1, .int .i64 a2, .int .i64 a3, .int .i64 a4, .int .i64 a5] t (0, 0))) : ∀ j, j < 5 → w'.cell? ⟨b, 1 + j, none⟩ = some (.int .i64 (([a1, a2, a3, a4, a5] : List Int)[j]?.getD 0)) := fun j hj => by
  unfold World.cell?; rw [h]
  match j, hj with
  | 0, _ => rfl
  | 1, _ => rfl
  | 2, _ => rfl
  | 3, _ => rfl
  | 4, _ => rfl
theorem mixedW : Tryz.prog.follows .mixedOrders = true := by kernel_rfl
theorem heap_two1 (w : World) (x y : Obj) : ((w.alloc x).alloc y).heap[w.heap.size]? = some x := by
  rw [alloc_eq_grow, alloc_eq_grow, grow_grow]; show (w.heap ++ (#[x] ++ #[y]))[_]? = _; simp
theorem heap_two2 (w : World) (x y : Obj) : ((w.alloc x).alloc y).heap[w.heap.size + 1]? = some y := by
  rw [alloc_eq_grow, alloc_eq_grow, grow_grow]; show (w.heap ++ (#[x] ++ #[y]))[_]? = _; simp
set_option maxRecDepth 100000 in
set_option maxHeartbeats 2000000 in
theorem mcmp_calls (a0 a1 a2 a3 a4 a5 b0 b1 b2 b3 b4 b5 : Int) (w : World) :
    Calls Tryz.prog 140 #[.agg #[.int .i64 a0, .int .i64 a1, .int .i64 a2, .int .i64 a3, .int .i64 a4, .int .i64 a5], .agg #[.int .i64 b0, .int .i64 b1, .int .i64 b2, .int .i64 b3, .int .i64 b4, .int .i64 b5]] w fun e w' => e = .returned (.int .i64 (slc [a0, a1, a2, a3, a4, a5] [b0, b1, b2, b3, b4, b5])) ∧ ∃ q os, w' = grow (w.drewN q) os := by
  have c1 : ∀ w', Calls Tryz.prog 97 #[.int .i64 a0, .int .i64 b0] w' fun e w'' => e = .returned (.int .i64 (cI a0 b0)) ∧ w'' = w' := fun w' => (callsIn_wide (n := 1)).1 (cmp64_in Fence.wide 1 trivial trivial rfl (by decide) a0 b0 w')
  rw [← slc_or]
  go_enter Tryz.func140, Tryz.ntmps140
  go_wp2_with fail
  have g1 := heap_two1 w (Obj.cells #[.int .i64 a0, .int .i64 a1, .int .i64 a2, .int .i64 a3, .int .i64 a4, .int .i64 a5] 34) (Obj.cells #[.int .i64 b0, .int .i64 b1, .int .i64 b2, .int .i64 b3, .int .i64 b4, .int .i64 b5] 34)
  have g2 := heap_two2 w (Obj.cells #[.int .i64 a0, .int .i64 a1, .int .i64 a2, .int .i64 a3, .int .i64 a4, .int .i64 a5] 34) (Obj.cells #[.int .i64 b0, .int .i64 b1, .int .i64 b2, .int .i64 b3, .int .i64 b4, .int .i64 b5] 34)
  have gW : ∃ os, ((w.alloc (.cells #[.int .i64 a0, .int .i64 a1, .int .i64 a2, .int .i64 a3, .int .i64 a4, .int .i64 a5] 34)).alloc (.cells #[.int .i64 b0, .int .i64 b1, .int .i64 b2, .int .i64 b3, .int .i64 b4, .int .i64 b5] 34)) = grow w os := ⟨_, by rw [alloc_eq_grow, alloc_eq_grow, grow_grow]⟩
  generalize ((w.alloc (.cells #[.int .i64 a0, .int .i64 a1, .int .i64 a2, .int .i64 a3, .int .i64 a4, .int .i64 a5] 34)).alloc (.cells #[.int .i64 b0, .int .i64 b1, .int .i64 b2, .int .i64 b3, .int .i64 b4, .int .i64 b5] 34)) = wq at *
  obtain ⟨osq, hq⟩ := gW
  refine wp_region_still_tail 10 mixedW (by kernel_rfl) ?_
  simp only [List.take_succ_cons, List.take_zero, List.drop_succ_cons, List.drop_zero]
  change wpStill _ _ wq.drew _ _ _
  have g1' : wq.drew.heap[w.heap.size]? = _ := g1
  have g2' : wq.drew.heap[w.heap.size + 1]? = _ := g2
  have f1 : wq.drew.cell? ⟨w.heap.size, 0, none⟩ = some (.int .i64 a0) := by unfold World.cell?; rw [g1']; rfl
  have f2 : wq.drew.cell? ⟨w.heap.size + 1, 0, none⟩ = some (.int .i64 b0) := by unfold World.cell?; rw [g2']; rfl
  have c2 := (callsIn_wide (n := 2)).1 (slc_in Fence.wide 2 trivial trivial trivial rfl (by decide) w.heap.size 1 5 (w.heap.size + 1) 1 5 [a1, a2, a3, a4, a5] [b1, b2, b3, b4, b5] (by simp) (by simp) wq.drew (cell_six wq wq.drew a0 a1 a2 a3 a4 a5 34 _ g1') (cell_six wq wq.drew b0 b1 b2 b3 b4 b5 34 _ g2'))
  have hq' : ∃ os, wq = grow w os := ⟨osq, hq⟩
  clear hq g1 g2
  generalize wq.drew = wd at *
  repeat still_step
  still_call (c1 _)
  repeat still_step
  still_call c2
  refine wpStill_nil ?_
  go_wp2_with fail
  refine ((callsIn_wide (n := 1)).1 (or_in Fence.wide 1 trivial rfl wq.heap.size (cI a0 b0) (slc [a1, a2, a3, a4, a5] [b1, b2, b3, b4, b5]) (wq.alloc (.cells #[.int .i64 (cI a0 b0), .int .i64 (slc [a1, a2, a3, a4, a5] [b1, b2, b3, b4, b5])] 3)).drew (cell_two wq _ _ _).1 (cell_two wq _ _ _).2)).mono ?_
  rintro e w' ⟨rfl, rfl⟩
  go_wp2_with fail
  go_ret
  obtain ⟨os, rfl⟩ := hq'
  exact ⟨rfl, 1, _, by rw [alloc_eq_grow, grow_grow]; rfl⟩
theorem sortMaps_world {w : World} {g cap : Nat} {e : TypeId} {cur : Array Value} (hb : w.heap[g]? = some (.cells cur e (0, 0))) (ds : List M6) (hn : ds.length ≤ 1000) (hcur : cur.toList.take (ds.length * 6) = ds.flatMap enc6) :
    Calls Tryz.prog 193 #[.slice (some ⟨g, 0, none⟩) ds.length cap, .func (.func 140) #[] #[]] w fun en w' => en = .returned (.tuple #[]) ∧ ∃ r : List M6, r.Perm ds ∧ r.Pairwise (fun a b => slc a.1 b.1 ≤ 0) ∧
      (∃ cur', w'.heap[g]? = some (.cells cur' e (0, 0)) ∧ cur'.size = cur.size ∧ cur'.toList.take (ds.length * 6) = r.flatMap enc6 ∧ cur'.toList.drop (ds.length * 6) = cur.toList.drop (ds.length * 6)) ∧ (∀ k, k < w.heap.size → k ≠ g → w'.heap[k]? = w.heap[k]?) ∧ w.heap.size ≤ w'.heap.size ∧ w'.os = w.os ∧ w'.tape = w.tape ∧ w'.output = w.output := by
  have hds : ds.toArray.size = ds.length := by simp
  have hfm : (ds.flatMap enc6).length = ds.length * 6 := by
    clear hcur hds
    induction ds with
    | nil => rfl
    | cons a l ih =>
      have := ih (by simp at hn; omega) 
      rw [List.flatMap_cons, List.length_append, enc6_len, this, List.length_cons]; omega
  have hcs : ds.length * 6 ≤ cur.size := by
    have := congrArg List.length hcur
    rw [List.length_take, hfm] at this
    simp at this; omega
  have hfl : (flatK enc6 6 ds.toArray).toList = ds.flatMap enc6 := fm_flatK (by decide) enc6_len ds.toArray
  have hone : ∀ x, ∀ v ∈ enc6 x, v.oneCell' = true := fun x v hv => by
    simp only [enc6, List.mem_map] at hv
    obtain ⟨y, _, rfl⟩ := hv; rfl
  have hH : HoldsK enc6 6 w g 0 ds.toArray := fun j hj => by
    rw [size_flatK, hds] at hj
    refine ⟨?_, by simp [World.frozen?, hb]⟩
    have h3 : (cur.toList.take (ds.length * 6))[j]? = (flatK enc6 6 ds.toArray).toList[j]? := by rw [hcur, hfl]
    rw [List.getElem?_take_of_lt hj, Array.getElem?_toList, Array.getElem?_toList] at h3
    have hj2 : j < (flatK enc6 6 ds.toArray).size := by rw [size_flatK, hds]; exact hj
    simp only [World.cell?, hb, Nat.zero_add]
    simp only [Option.isSome_none, Bool.false_eq_true, if_false]
    rw [h3, Array.getElem?_eq_getElem hj2]
    show _ = some (flatK enc6 6 ds.toArray)[j]!
    rw [getElem!_pos (flatK enc6 6 ds.toArray) j hj2]
  have hcmp : CmpLays Tryz.prog 140 #[] enc6 6 (fun x y => slc x.1 y.1) g 0 ds.toArray.size w := fun m os dk hdk x y => by
    obtain ⟨a0, a1, a2, a3, a4, a5, ex⟩ := m6_out x
    obtain ⟨b0, b1, b2, b3, b4, b5, ey⟩ := m6_out y
    have e1 : enc6 x = [.int .i64 a0, .int .i64 a1, .int .i64 a2, .int .i64 a3, .int .i64 a4, .int .i64 a5] := by rw [enc6, ex]; rfl
    have e2 : enc6 y = [.int .i64 b0, .int .i64 b1, .int .i64 b2, .int .i64 b3, .int .i64 b4, .int .i64 b5] := by rw [enc6, ey]; rfl
    show Calls Tryz.prog 140 #[.agg (enc6 x).toArray, .agg (enc6 y).toArray] _ _
    rw [e1, e2]
    refine (mcmp_calls a0 a1 a2 a3 a4 a5 b0 b1 b2 b3 b4 b5 _).mono ?_
    rintro en w' ⟨rfl, q, os', rfl⟩
    exact ⟨by show _ = Ending.returned (Value.int .i64 (slc x.1 y.1)); rw [ex, ey], q, os', rfl⟩
  have hcon := AnyQ.slices_SortFunc sortMaps 6 Tryz.isAgg34 Tryz.sizeOf34 enc6 enc6_len hone _ (slc_swo fun x : M6 => x.1) 140 #[] g 0 cap ds.toArray w (enters_of Tryz.func140 (by kernel_rfl) rfl) hcmp hH (Array.getElem?_eq_some_iff.1 hb).1 (by rw [hds]; omega)
  rw [hds] at hcon
  change Calls Tryz.prog 193 _ _ _ at hcon
  refine hcon.mono ?_
  rintro en w' ⟨rfl, d', nn, os, ⟨hs, _, hp⟩, hS, rfl⟩
  rw [hds] at hs
  have ed' : d'.extract 0 ds.length = d' := by rw [← hs]; simp
  have ed : ds.toArray.extract 0 ds.length = ds.toArray := by
    have := Array.extract_size (xs := ds.toArray)
    rwa [hds] at this
  rw [ed', ed] at hp
  have hfs : (flatK enc6 6 d').size = ds.length * 6 := by rw [size_flatK, hs]
  have hfl' : (flatK enc6 6 d').toList = d'.toList.flatMap enc6 := fm_flatK (by decide) enc6_len d'
  have hcv : sortWorldK enc6 6 w g 0 nn d' os = sortWorld id w g 0 nn (flatK enc6 6 d') os := rfl
  rw [hcv]
  refine ⟨rfl, d'.toList, by simpa using hp, ?_, ⟨_, sorted_heap id (flatK enc6 6 d') hb, by simp [putCells], ?_, by rw [← hfs]; exact sorted_drop id cur _⟩, fun k hk hne => sorted_other id _ hk hne, sorted_size id _, rfl, rfl, rfl⟩
  · rw [List.pairwise_iff_getElem]
    intro i j hi hj hij
    have hj' : j < ds.length := by rw [← hs]; simpa using hj
    have h4 := hS i j (Nat.zero_le _) hij hj'
    have hgi : d'[i]! = d'.toList[i] := by rw [getElem!_pos d' i (by simpa using hi)]; simp
    have hgj : d'[j]! = d'.toList[j] := by rw [getElem!_pos d' j (by simpa using hj)]; simp
    rw [hgi, hgj] at h4
    have h5 := slc_anti d'.toList[i].1 d'.toList[j].1
    simp only [ltOf, decide_eq_false_iff_not] at h4
    omega
  · have := sorted_take id cur (flatK enc6 6 d') (by rw [hfs]; exact hcs)
    rw [hfs, hfl'] at this
    simpa using this
end Go.Proofs.YtpfapiiinkkcgaaGreat
end
section
/- slices.SortFunc at rows: over abstract values. -/
namespace Go.Proofs.YtpfapiiinkkcgaaGreat
open Go.Kv
set_option linter.unusedVariables false
set_option linter.unusedSimpArgs false
attribute [local irreducible] ACall PCall KL
end Go.Proofs.YtpfapiiinkkcgaaGreat
end
