/- The laws' functions of two counts, walked. -/
import Derived.Test.YtkdkdkkimieieaaD
namespace Go.Proofs.Ytkdkdkkimieieaa
open Go.Kv
set_option linter.unusedVariables false
set_option linter.unusedSimpArgs false
attribute [local irreducible] ACall PCall KL
theorem plainN {r : Int} : Plain (.tup [.nils, .int .i64 r]) := .tup fun c hc => by
  simp only [List.mem_cons, List.not_mem_nil, or_false] at hc
  rcases hc with rfl | rfl
  · exact .nils
  · exact .int _ _
theorem p5_in {arg : PV} (up : PV.upto 0 arg) {l : List Int} {r : Int} (hs : NewI Try.prog 22 [arg] 2 l r) (hi : NewI Try.prog 23 [arg] 2 l r) (hl : l.length ≤ 4294967296) : Pure Try.prog 5 [arg] (.bool true) := by
  refine e5 (by simp) fun _ _ => ?_
  simp only [k5, argEnv, go_sem, ↓reduceIte, Nat.reduceEqDiff, Nat.reduceAdd, reduceCtorEq]
  refine hs.call (up1 up) fun v0 => ?_
  simp only [go_sem, ↓reduceIte, Nat.reduceEqDiff, Nat.reduceAdd, reduceCtorEq]
  refine hi.call (up1 up) fun v1 => ?_
  simp only [go_sem, ↓reduceIte, Nat.reduceEqDiff, Nat.reduceAdd, reduceCtorEq]
  refine (p19 l l hl hl).use (.bool _) (.cons (.refi rfl) (.cons (.refi rfl) (.nil _))) ?_
  simp only [go_sem, ↓reduceIte, Nat.reduceEqDiff, Nat.reduceAdd, reduceCtorEq]
  refine p20 _ 1 v1 2 l 1 rfl (by omega) hl ?_
  simp only [go_sem, ↓reduceIte, Nat.reduceEqDiff, Nat.reduceAdd, reduceCtorEq]
  refine (p21 1 l.length (by omega) hl).use (.int _ _) (.cons (.refn rfl (by simp)) (.cons (.int _ _ _) (.nil _))) ?_
  simp only [go_sem, ↓reduceIte, Nat.reduceEqDiff, Nat.reduceAdd, reduceCtorEq]
  repeat' (first | refine And.intro ?_ ?_ | intro _)
  all_goals (try omega)
  refine hi.call (up1 up) fun v2 => ?_
  simp only [go_sem, ↓reduceIte, Nat.reduceEqDiff, Nat.reduceAdd, reduceCtorEq]
  refine (p19 l l hl hl).use (.bool _) (.cons (.refi rfl) (.cons (.refi rfl) (.nil _))) ?_
  simp only [go_sem, ↓reduceIte, Nat.reduceEqDiff, Nat.reduceAdd, reduceCtorEq]
  refine (p21 1 l.length (by omega) hl).use (.int _ _) (.cons (.refn rfl (by simp)) (.cons (.int _ _ _) (.nil _))) ?_
  simp only [go_sem, ↓reduceIte, Nat.reduceEqDiff, Nat.reduceAdd, reduceCtorEq]
  repeat' (first | refine And.intro ?_ ?_ | intro _)
  all_goals (try omega)
  exact Kv.Fin.clean (Plain.bool _).up ⟨rfl, rfl⟩
theorem p5_out {arg : PV} (up : PV.upto 0 arg) (hi0 : Imm [] arg arg) {r : Int} (hs : Pure Try.prog 22 [arg] (.tup [.nils, .int .i64 r])) (hi : Pure Try.prog 23 [arg] (.tup [.nils, .int .i64 r])) : Pure Try.prog 5 [arg] (.bool true) := by
  refine e5 (by simp) fun _ _ => ?_
  simp only [k5, argEnv, go_sem, ↓reduceIte, Nat.reduceEqDiff, Nat.reduceAdd, reduceCtorEq]
  refine hs.use plainN (.cons hi0 (.nil _)) ?_
  simp only [go_sem, ↓reduceIte, Nat.reduceEqDiff, Nat.reduceAdd, reduceCtorEq]
  refine hi.use plainN (.cons hi0 (.nil _)) ?_
  simp only [go_sem, ↓reduceIte, Nat.reduceEqDiff, Nat.reduceAdd, reduceCtorEq]
  refine (p19 [] [] (by simp) (by simp)).use (.bool _) (.cons .nils (.cons .nils (.nil _))) ?_
  simp only [go_sem, ↓reduceIte, Nat.reduceEqDiff, Nat.reduceAdd, reduceCtorEq]
  refine p20n _ 1 ?_
  simp only [go_sem, ↓reduceIte, Nat.reduceEqDiff, Nat.reduceAdd, reduceCtorEq]
  refine (p21 1 0 (by omega) (by omega)).use (.int _ _) (.cons .nils (.cons (.int _ _ _) (.nil _))) ?_
  simp only [go_sem, ↓reduceIte, Nat.reduceEqDiff, Nat.reduceAdd, reduceCtorEq]
  repeat' (first | refine And.intro ?_ ?_ | intro _)
  all_goals (try omega)
  refine hi.use plainN (.cons hi0 (.nil _)) ?_
  simp only [go_sem, ↓reduceIte, Nat.reduceEqDiff, Nat.reduceAdd, reduceCtorEq]
  refine (p19 [] [] (by simp) (by simp)).use (.bool _) (.cons .nils (.cons .nils (.nil _))) ?_
  simp only [go_sem, ↓reduceIte, Nat.reduceEqDiff, Nat.reduceAdd, reduceCtorEq]
  refine (p21 1 0 (by omega) (by omega)).use (.int _ _) (.cons .nils (.cons (.int _ _ _) (.nil _))) ?_
  simp only [go_sem, ↓reduceIte, Nat.reduceEqDiff, Nat.reduceAdd, reduceCtorEq]
  repeat' (first | refine And.intro ?_ ?_ | intro _)
  all_goals (try omega)
  exact Kv.Fin.now ⟨rfl, rfl⟩
theorem p5 (a : Int) : Pure Try.prog 5 [.int .i64 a] (.bool true) := by
  by_cases h : 1 ≤ a ∧ a ≤ 12
  · obtain ⟨n, rfl⟩ : ∃ n : Nat, a = n := ⟨a.toNat, by omega⟩
    exact p5_in (Plain.int _ _).up (p22_in n (by omega)) (p23_in n (by omega)) (by simp [cbf]; omega)
  · exact p5_out (Plain.int _ _).up (.int _ _ _) (p22_out a h) (p23_out a h)
end Go.Proofs.Ytkdkdkkimieieaa
