/- The law's function of the idempotents of a table, walked. -/
import Derived.Test.YtkdkdkkimieieaaJc
import Derived.Test.YtkdkdkkimieieaaI
namespace Go.Proofs.Ytkdkdkkimieieaa
open Go.Kv
set_option linter.unusedVariables false
set_option linter.unusedSimpArgs false
attribute [local irreducible] ACall PCall KL
theorem ids_mem {n a j : Nat} (h : j ∈ (shR a (idsC n)).map Prod.fst) : a < j ∧ j ≤ n + a := by
  simp only [shR, idsC, List.map_map, List.mem_map, List.mem_range, Function.comp_def] at h
  obtain ⟨i, hi, rfl⟩ := h
  omega
theorem frame_nil (σ : Heap) (n : Nat) : σ ++ ([] : Heap).map (AObj.ren (sh n)) = σ := by simp
theorem tot_bound : ∀ (t : List (List Int)) (n : Nat), (∀ r ∈ t, r.length = n) → tot t = t.length * n
  | [], n, _ => by simp [tot]
  | r :: t, n, h => by
    simp only [tot, h r (by simp), tot_bound t n (fun q hq => h q (by simp [hq])), List.length_cons, Nat.succ_mul]; omega
theorem p11_in (t : List (List Int)) (ht0 : t.length ≤ 9223372036854775807) (hl0 : ∀ r ∈ t, r.length ≤ 9223372036854775807) (hsz : ¬ szT t 1048576 < 0) (l : List Int) (q : Int) (hll : l.length ≤ 1048576) (hs : NewI Try.prog 41 [.list (rows t)] 2 l q) (hi : NewI Try.prog 42 [.list (rows t)] 2 l q) (htot : 1 + (tot t : Int) ≤ 4294967296) : Pure Try.prog 11 [.list (rows t)] (.bool true) := by
  obtain ⟨ht', hl'⟩ := szT_ok t hsz
  have heq := p36 t t (by omega) (by omega) (fun r hr => by have := hl' r hr; omega) (fun r hr => by have := hl' r hr; omega)
  refine e11 (by simp) fun _ _ => ?_
  simp only [k11, argEnv, go_sem, ↓reduceIte, Nat.reduceEqDiff, Nat.reduceAdd, reduceCtorEq]
  refine (p32 t 1048576 ht0 hl0 (by omega)).use (.int _ _) (.cons (.listr _ _) (.cons (.int _ _ _) (.nil _))) ?_
  simp only [go_sem, ↓reduceIte, Nat.reduceEqDiff, Nat.reduceAdd, reduceCtorEq]
  refine ⟨fun h => absurd h hsz, fun _ => ?_⟩
  refine (p34 t ht' hl').mono fun v s ⟨hv, hs'⟩ => ?_
  subst hv; subst hs'
  simp only [go_sem, ↓reduceIte, Nat.reduceEqDiff, Nat.reduceAdd, reduceCtorEq]
  refine hs.call (up1 (upto_rows 0 t)) fun v0 r0 q0 => ?_
  simp only [go_sem, ↓reduceIte, Nat.reduceEqDiff, Nat.reduceAdd, reduceCtorEq]
  refine (p34o t ht' hl').frame (up1 (upto_rows 0 t)) fun v s ⟨hv, hs'⟩ => ?_
  subst hv; subst hs'
  have hX := (heapC_tab t).shift [.arr v0 2 1 (ints (r0 ++ l ++ q0))]
  have hlen := heapC_length t (Nat.le_refl t.length)
  have hW : ([AObj.arr v0 2 1 (ints (r0 ++ l ++ q0))] ++ (heapC t t.length).map (AObj.ren (sh 1)))[0]? = some (.arr v0 2 1 (ints (r0 ++ l ++ q0))) := rfl
  have hL : ([AObj.arr v0 2 1 (ints (r0 ++ l ++ q0))] ++ (heapC t t.length).map (AObj.ren (sh 1))).length = t.length + 2 := by simp [hlen]
  simp only [List.length_cons, List.length_nil, Nat.zero_add] at hX
  simp only [ren_ref, sh_def, List.length_cons, List.length_nil, Nat.zero_add]
  generalize [AObj.arr v0 2 1 (ints (r0 ++ l ++ q0))] ++ (heapC t t.length).map (AObj.ren (sh 1)) = σ1 at *
  simp only [go_sem, ↓reduceIte, Nat.reduceEqDiff, Nat.reduceAdd, reduceCtorEq]
  refine hi.lend (.cons (hX.imm rfl) (.nil _)) fun v1 r1 q1 => ?_
  have hG := get_last σ1 (.arr v1 2 1 (ints (r1 ++ l ++ q1)))
  have hW2 := get_left hW [.arr v1 2 1 (ints (r1 ++ l ++ q1))]
  have hX2 := hX.append [.arr v1 2 1 (ints (r1 ++ l ++ q1))]
  have hL2 : (σ1 ++ [AObj.arr v1 2 1 (ints (r1 ++ l ++ q1))]).length = t.length + 3 := by simp [hL]
  have hg : σ1.length = t.length + 2 := hL
  generalize hσ2 : σ1 ++ [AObj.arr v1 2 1 (ints (r1 ++ l ++ q1))] = σ2 at *
  simp only [go_sem, ↓reduceIte, Nat.reduceEqDiff, Nat.reduceAdd, reduceCtorEq]
  refine (p19 l l (by omega) (by omega)).use (.bool _) (.cons (.refp hG rfl rfl) (.cons (.refp hW2 rfl rfl) (.nil _))) ?_
  simp only [go_sem, ↓reduceIte, Nat.reduceEqDiff, Nat.reduceAdd, reduceCtorEq]
  refine (p34 t ht' hl').frame (up1 (upto_rows 0 t)) fun v s ⟨hv, hs'⟩ => ?_
  subst hv; subst hs'
  simp only [frame_nil]
  simp only [go_sem, ↓reduceIte, Nat.reduceEqDiff, Nat.reduceAdd, reduceCtorEq]
  refine heq.use (.bool _) (.cons (hX2.imm rfl) (.cons (.listr _ _) (.nil _))) ?_
  simp only [go_sem, ↓reduceIte, Nat.reduceEqDiff, Nat.reduceAdd, reduceCtorEq]
  refine p43 σ2 1 0 _ t 1 hX2 (by omega) (by omega) htot fun σ3 hX3 hoth hL3 => ?_
  have hn0 : 0 ∉ (shR 1 (idsC t.length)).map Prod.fst := fun h => by have := ids_mem h; omega
  have hnG : σ1.length ∉ (shR 1 (idsC t.length)).map Prod.fst := fun h => by have := ids_mem h; omega
  have hW3 := (hoth 0 hn0).trans hW2
  have hG3 := (hoth _ hnG).trans hG
  simp only [go_sem, ↓reduceIte, Nat.reduceEqDiff, Nat.reduceAdd, reduceCtorEq]
  repeat' (first | refine And.intro ?_ ?_ | intro _)
  all_goals (try omega)
  refine (p19 l l (by omega) (by omega)).use (.bool _) (.cons (.refp hG3 rfl rfl) (.cons (.refp hW3 rfl rfl) (.nil _))) ?_
  simp only [go_sem, ↓reduceIte, Nat.reduceEqDiff, Nat.reduceAdd, reduceCtorEq]
  refine p20 σ3 σ1.length v1 2 r1 l q1 1 hG3 (by omega) (by omega) ?_
  have hG4 : (σ3.set σ1.length (.arr v1 2 1 (ints (r1 ++ seqI 1 l.length ++ q1))))[σ1.length]? = some (.arr v1 2 1 (ints (r1 ++ seqI 1 l.length ++ q1))) := List.getElem?_set_self (by rw [hL3, hL2]; omega)
  have hW4 : (σ3.set σ1.length (.arr v1 2 1 (ints (r1 ++ seqI 1 l.length ++ q1))))[0]? = some (.arr v0 2 1 (ints (r0 ++ l ++ q0))) := by rw [List.getElem?_set_ne (by omega)]; exact hW3
  generalize σ3.set σ1.length (AObj.arr v1 2 1 (ints (r1 ++ seqI 1 l.length ++ q1))) = σ4 at *
  simp only [go_sem, ↓reduceIte, Nat.reduceEqDiff, Nat.reduceAdd, reduceCtorEq]
  refine (p21 1 l.length (by omega) (by omega)).use (.int _ _) (.cons (.refp hG4 (by simp) rfl) (.cons (.int _ _ _) (.nil _))) ?_
  simp only [go_sem, ↓reduceIte, Nat.reduceEqDiff, Nat.reduceAdd, reduceCtorEq]
  repeat' (first | refine And.intro ?_ ?_ | intro _)
  all_goals (try omega)
  refine (p34 t ht' hl').frame (up1 (upto_rows 0 t)) fun v s ⟨hv, hs'⟩ => ?_
  subst hv; subst hs'
  simp only [frame_nil]
  simp only [go_sem, ↓reduceIte, Nat.reduceEqDiff, Nat.reduceAdd, reduceCtorEq]
  refine hi.call (up1 (upto_rows 0 t)) fun v2 r2 q2 => ?_
  have hG5 := get_left hG4 [.arr v2 2 1 (ints (r2 ++ l ++ q2))]
  have hW5 := get_left hW4 [.arr v2 2 1 (ints (r2 ++ l ++ q2))]
  have hH5 := get_last σ4 (.arr v2 2 1 (ints (r2 ++ l ++ q2)))
  generalize σ4 ++ [AObj.arr v2 2 1 (ints (r2 ++ l ++ q2))] = σ5 at *
  simp only [go_sem, ↓reduceIte, Nat.reduceEqDiff, Nat.reduceAdd, reduceCtorEq]
  refine (p19 l l (by omega) (by omega)).use (.bool _) (.cons (.refp hH5 rfl rfl) (.cons (.refp hW5 rfl rfl) (.nil _))) ?_
  simp only [go_sem, ↓reduceIte, Nat.reduceEqDiff, Nat.reduceAdd, reduceCtorEq]
  refine (p21 1 l.length (by omega) (by omega)).use (.int _ _) (.cons (.refp hG5 (by simp) rfl) (.cons (.int _ _ _) (.nil _))) ?_
  simp only [go_sem, ↓reduceIte, Nat.reduceEqDiff, Nat.reduceAdd, reduceCtorEq]
  repeat' (first | refine And.intro ?_ ?_ | intro _)
  all_goals (try omega)
  exact Kv.Fin.clean (Plain.bool _).up ⟨rfl, rfl⟩
theorem plainNj {r : Int} : Plain (.tup [.nils, .int .i64 r]) := .tup fun c hc => by
  simp only [List.mem_cons, List.not_mem_nil, or_false] at hc
  rcases hc with rfl | rfl
  · exact .nils
  · exact .int _ _
theorem p11_out (t : List (List Int)) (ht0 : t.length ≤ 9223372036854775807) (hl0 : ∀ r ∈ t, r.length ≤ 9223372036854775807) (hsz : ¬ szT t 1048576 < 0) (q : Int) (hs : Pure Try.prog 41 [.list (rows t)] (.tup [.nils, .int .i64 q])) (hi : Pure Try.prog 42 [.list (rows t)] (.tup [.nils, .int .i64 q])) (htot : 1 + (tot t : Int) ≤ 4294967296) : Pure Try.prog 11 [.list (rows t)] (.bool true) := by
  obtain ⟨ht', hl'⟩ := szT_ok t hsz
  have heq := p36 t t (by omega) (by omega) (fun r hr => by have := hl' r hr; omega) (fun r hr => by have := hl' r hr; omega)
  have h19 := p19 [] [] (by simp) (by simp)
  have h21 := p21 1 0 (by omega) (by omega)
  refine e11 (by simp) fun _ _ => ?_
  simp only [k11, argEnv, go_sem, ↓reduceIte, Nat.reduceEqDiff, Nat.reduceAdd, reduceCtorEq]
  refine (p32 t 1048576 ht0 hl0 (by omega)).use (.int _ _) (.cons (.listr _ _) (.cons (.int _ _ _) (.nil _))) ?_
  simp only [go_sem, ↓reduceIte, Nat.reduceEqDiff, Nat.reduceAdd, reduceCtorEq]
  refine ⟨fun h => absurd h hsz, fun _ => ?_⟩
  refine (p34 t ht' hl').mono fun v s ⟨hv, hs'⟩ => ?_
  subst hv; subst hs'
  simp only [go_sem, ↓reduceIte, Nat.reduceEqDiff, Nat.reduceAdd, reduceCtorEq]
  refine hs.use plainNj (.cons (.listr _ _) (.nil _)) ?_
  simp only [go_sem, ↓reduceIte, Nat.reduceEqDiff, Nat.reduceAdd, reduceCtorEq]
  refine (p34o t ht' hl').mono fun v s ⟨hv, hs'⟩ => ?_
  subst hv; subst hs'
  have hX := heapC_tab t
  generalize heapC t t.length = σ1 at *
  simp only [go_sem, ↓reduceIte, Nat.reduceEqDiff, Nat.reduceAdd, reduceCtorEq]
  refine hi.use plainNj (.cons (hX.imm rfl) (.nil _)) ?_
  simp only [go_sem, ↓reduceIte, Nat.reduceEqDiff, Nat.reduceAdd, reduceCtorEq]
  refine h19.use (.bool _) (.cons .nils (.cons .nils (.nil _))) ?_
  simp only [go_sem, ↓reduceIte, Nat.reduceEqDiff, Nat.reduceAdd, reduceCtorEq]
  refine (p34 t ht' hl').frame (up1 (upto_rows 0 t)) fun v s ⟨hv, hs'⟩ => ?_
  subst hv; subst hs'
  simp only [frame_nil]
  simp only [go_sem, ↓reduceIte, Nat.reduceEqDiff, Nat.reduceAdd, reduceCtorEq]
  refine heq.use (.bool _) (.cons (hX.imm rfl) (.cons (.listr _ _) (.nil _))) ?_
  simp only [go_sem, ↓reduceIte, Nat.reduceEqDiff, Nat.reduceAdd, reduceCtorEq]
  refine p43 σ1 0 0 _ t 1 hX (by omega) (by omega) htot fun σ3 hX3 hoth hL3 => ?_
  simp only [go_sem, ↓reduceIte, Nat.reduceEqDiff, Nat.reduceAdd, reduceCtorEq]
  repeat' (first | refine And.intro ?_ ?_ | intro _)
  all_goals (try omega)
  refine h19.use (.bool _) (.cons .nils (.cons .nils (.nil _))) ?_
  simp only [go_sem, ↓reduceIte, Nat.reduceEqDiff, Nat.reduceAdd, reduceCtorEq]
  refine p20n _ 1 ?_
  simp only [go_sem, ↓reduceIte, Nat.reduceEqDiff, Nat.reduceAdd, reduceCtorEq]
  refine h21.use (.int _ _) (.cons .nils (.cons (.int _ _ _) (.nil _))) ?_
  simp only [go_sem, ↓reduceIte, Nat.reduceEqDiff, Nat.reduceAdd, reduceCtorEq]
  repeat' (first | refine And.intro ?_ ?_ | intro _)
  all_goals (try omega)
  refine (p34 t ht' hl').frame (up1 (upto_rows 0 t)) fun v s ⟨hv, hs'⟩ => ?_
  subst hv; subst hs'
  simp only [frame_nil]
  simp only [go_sem, ↓reduceIte, Nat.reduceEqDiff, Nat.reduceAdd, reduceCtorEq]
  refine hi.use plainNj (.cons (.listr _ _) (.nil _)) ?_
  simp only [go_sem, ↓reduceIte, Nat.reduceEqDiff, Nat.reduceAdd, reduceCtorEq]
  refine h19.use (.bool _) (.cons .nils (.cons .nils (.nil _))) ?_
  simp only [go_sem, ↓reduceIte, Nat.reduceEqDiff, Nat.reduceAdd, reduceCtorEq]
  refine h21.use (.int _ _) (.cons .nils (.cons (.int _ _ _) (.nil _))) ?_
  simp only [go_sem, ↓reduceIte, Nat.reduceEqDiff, Nat.reduceAdd, reduceCtorEq]
  repeat' (first | refine And.intro ?_ ?_ | intro _)
  all_goals (try omega)
  exact Kv.Fin.clean (Plain.bool _).up ⟨rfl, rfl⟩
theorem p11_big (t : List (List Int)) (ht0 : t.length ≤ 9223372036854775807) (hl0 : ∀ r ∈ t, r.length ≤ 9223372036854775807) (hsz : szT t 1048576 < 0) : Pure Try.prog 11 [.list (rows t)] (.bool true) := by
  refine e11 (by simp) fun _ _ => ?_
  simp only [k11, argEnv, go_sem, ↓reduceIte, Nat.reduceEqDiff, Nat.reduceAdd, reduceCtorEq]
  refine (p32 t 1048576 ht0 hl0 (by omega)).use (.int _ _) (.cons (.listr _ _) (.cons (.int _ _ _) (.nil _))) ?_
  simp only [go_sem, ↓reduceIte, Nat.reduceEqDiff, Nat.reduceAdd, reduceCtorEq]
  exact ⟨fun h => Kv.Fin.now ⟨rfl, rfl⟩, fun h => absurd hsz h⟩
/-- What is left is what there was, less all rows. -/
theorem szR_tot : ∀ (t : List (List Int)) (k : Int), 0 ≤ k → 0 ≤ szR t k → (tot t : Int) ≤ k
  | [], k, h, _ => by simpa [tot] using h
  | r :: t, k, h, h' => by
    simp only [szR] at h'
    split at h'
    · omega
    · have := szR_tot t (k - r.length) (by omega) h'
      simp only [tot]; omega
theorem szT_tot (t : List (List Int)) (h : ¬ szT t 1048576 < 0) : (tot t : Int) ≤ 1048576 := by
  unfold szT at h
  split at h
  · omega
  · have := szR_tot t (1048576 - t.length) (by omega) (by omega)
    omega
theorem p11 (t : List (List Int)) (ht0 : t.length ≤ 9223372036854775807) (hl0 : ∀ r ∈ t, r.length ≤ 9223372036854775807) : Pure Try.prog 11 [.list (rows t)] (.bool true) := by
  by_cases hsz : szT t 1048576 < 0
  · exact p11_big t ht0 hl0 hsz
  · obtain ⟨ht', hl'⟩ := szT_ok t hsz
    have htot := szT_tot t hsz
    by_cases h : isTab t = true
    · have := idl_len t t.length
      exact p11_in t ht0 hl0 hsz (idl t t.length) 0 (by omega) (p41_in t ht' hl' h) (p42_in t ht' hl' h) (by omega)
    · exact p11_out t ht0 hl0 hsz 2 (p41_out t ht' hl' h) (p42_out t ht' hl' h) (by omega)
end Go.Proofs.Ytkdkdkkimieieaa
