/- The laws' functions of two counts, walked. -/
import Derived.Test.YtkdkdkkimieieaaE
namespace Go.Proofs.Ytkdkdkkimieieaa
open Go.Kv
set_option linter.unusedVariables false
set_option linter.unusedSimpArgs false
attribute [local irreducible] ACall PCall KL
theorem plainN4 {r : Int} : Plain (.tup [.nils, .int .i64 r]) := .tup fun c hc => by
  simp only [List.mem_cons, List.not_mem_nil, or_false] at hc
  rcases hc with rfl | rfl
  · exact .nils
  · exact .int _ _
theorem p4_in {arg : PV} (up : PV.upto 0 arg) {l : List Int} {r : Int} (hs : NewI Try.prog 17 [arg] 2 l r) (hi : NewI Try.prog 18 [arg] 2 l r) (hl : l.length ≤ 4294967296) : Pure Try.prog 4 [arg] (.bool true) := by
  refine e4 (by simp) fun _ _ => ?_
  simp only [k4, argEnv, go_sem, ↓reduceIte, Nat.reduceEqDiff, Nat.reduceAdd, reduceCtorEq]
  refine hs.call (up1 up) fun v0 r0 => ?_
  simp only [go_sem, ↓reduceIte, Nat.reduceEqDiff, Nat.reduceAdd, reduceCtorEq]
  refine hi.call (up1 up) fun v1 r1 => ?_
  simp only [go_sem, ↓reduceIte, Nat.reduceEqDiff, Nat.reduceAdd, reduceCtorEq]
  refine (p19 l l hl hl).use (.bool _) (.cons (.refp rfl rfl rfl) (.cons (.refp rfl rfl rfl) (.nil _))) ?_
  simp only [go_sem, ↓reduceIte, Nat.reduceEqDiff, Nat.reduceAdd, reduceCtorEq]
  refine p20 _ 1 v1 2 r1 l 1 rfl (by omega) hl ?_
  simp only [go_sem, ↓reduceIte, Nat.reduceEqDiff, Nat.reduceAdd, reduceCtorEq]
  refine (p21 1 l.length (by omega) hl).use (.int _ _) (.cons (.refp rfl (by simp) rfl) (.cons (.int _ _ _) (.nil _))) ?_
  simp only [go_sem, ↓reduceIte, Nat.reduceEqDiff, Nat.reduceAdd, reduceCtorEq]
  repeat' (first | refine And.intro ?_ ?_ | intro _)
  all_goals (try omega)
  refine hi.call (up1 up) fun v2 r2 => ?_
  simp only [go_sem, ↓reduceIte, Nat.reduceEqDiff, Nat.reduceAdd, reduceCtorEq]
  refine (p19 l l hl hl).use (.bool _) (.cons (.refp rfl rfl rfl) (.cons (.refp rfl rfl rfl) (.nil _))) ?_
  simp only [go_sem, ↓reduceIte, Nat.reduceEqDiff, Nat.reduceAdd, reduceCtorEq]
  refine (p21 1 l.length (by omega) hl).use (.int _ _) (.cons (.refp rfl (by simp) rfl) (.cons (.int _ _ _) (.nil _))) ?_
  simp only [go_sem, ↓reduceIte, Nat.reduceEqDiff, Nat.reduceAdd, reduceCtorEq]
  repeat' (first | refine And.intro ?_ ?_ | intro _)
  all_goals (try omega)
  exact Kv.Fin.clean (Plain.bool _).up ⟨rfl, rfl⟩
theorem p4_out {arg : PV} (up : PV.upto 0 arg) (hi0 : Imm [] arg arg) {r : Int} (hs : Pure Try.prog 17 [arg] (.tup [.nils, .int .i64 r])) (hi : Pure Try.prog 18 [arg] (.tup [.nils, .int .i64 r])) : Pure Try.prog 4 [arg] (.bool true) := by
  refine e4 (by simp) fun _ _ => ?_
  simp only [k4, argEnv, go_sem, ↓reduceIte, Nat.reduceEqDiff, Nat.reduceAdd, reduceCtorEq]
  refine hs.use plainN4 (.cons hi0 (.nil _)) ?_
  simp only [go_sem, ↓reduceIte, Nat.reduceEqDiff, Nat.reduceAdd, reduceCtorEq]
  refine hi.use plainN4 (.cons hi0 (.nil _)) ?_
  simp only [go_sem, ↓reduceIte, Nat.reduceEqDiff, Nat.reduceAdd, reduceCtorEq]
  refine (p19 [] [] (by simp) (by simp)).use (.bool _) (.cons .nils (.cons .nils (.nil _))) ?_
  simp only [go_sem, ↓reduceIte, Nat.reduceEqDiff, Nat.reduceAdd, reduceCtorEq]
  refine p20n _ 1 ?_
  simp only [go_sem, ↓reduceIte, Nat.reduceEqDiff, Nat.reduceAdd, reduceCtorEq]
  refine (p21 1 0 (by omega) (by omega)).use (.int _ _) (.cons .nils (.cons (.int _ _ _) (.nil _))) ?_
  simp only [go_sem, ↓reduceIte, Nat.reduceEqDiff, Nat.reduceAdd, reduceCtorEq]
  repeat' (first | refine And.intro ?_ ?_ | intro _)
  all_goals (try omega)
  refine hi.use plainN4 (.cons hi0 (.nil _)) ?_
  simp only [go_sem, ↓reduceIte, Nat.reduceEqDiff, Nat.reduceAdd, reduceCtorEq]
  refine (p19 [] [] (by simp) (by simp)).use (.bool _) (.cons .nils (.cons .nils (.nil _))) ?_
  simp only [go_sem, ↓reduceIte, Nat.reduceEqDiff, Nat.reduceAdd, reduceCtorEq]
  refine (p21 1 0 (by omega) (by omega)).use (.int _ _) (.cons .nils (.cons (.int _ _ _) (.nil _))) ?_
  simp only [go_sem, ↓reduceIte, Nat.reduceEqDiff, Nat.reduceAdd, reduceCtorEq]
  repeat' (first | refine And.intro ?_ ?_ | intro _)
  all_goals (try omega)
  exact Kv.Fin.now ⟨rfl, rfl⟩
theorem p4 (a : Int) : Pure Try.prog 4 [.int .i64 a] (.bool true) := by
  by_cases h : 1 ≤ a ∧ a ≤ 12
  · obtain ⟨n, rfl⟩ : ∃ n : Nat, a = n := ⟨a.toNat, by omega⟩
    exact p4_in (Plain.int _ _).up (p17_in n (by omega)) (p18_in n (by omega)) (by simp [cbr]; omega)
  · exact p4_out (Plain.int _ _).up (.int _ _ _) (p17_out a h) (p18_out a h)
end Go.Proofs.Ytkdkdkkimieieaa
