/- Owned tables: the copy, the marking, the holding. -/
import Derived.Test.YtpepbomifjbgnaaCb
import Derived.Test.YtpepbomifjbgnaaT
import Derived.Test.YtpepbomifjbgnaaN
namespace Go.Proofs.Ytpepbomifjbgnaa
open Go.Kv
set_option maxRecDepth 100000
/- laws.markInt64SS -/
/- live [0, 1, 5] -/
def k31_b0 : KC := (.seq (.seq (.ops [⟨(some 6), none, .mv (.t 5)⟩, ⟨(some 7), none, .mv (.t 0)⟩, ⟨(some 8), none, .len false (.t 7)⟩, ⟨(some 9), none, .bin .lss (.t 6) (.t 8)⟩])
  (.cond (.t 9) .skip (.exit 0)))
  (.seq (.block 1 (.ops [⟨(some 12), none, .mv (.t 0)⟩, ⟨(some 13), none, .mv (.t 5)⟩, ⟨(some 14), none, .idxS 1 (.t 12) (.t 13)⟩, ⟨(some 15), none, .load false 1 (.t 14)⟩, ⟨(some 16), none, .mv (.t 1)⟩, ⟨(some 17), none, .call (.c (.fn (.func 27) [] [])) [(.t 15), (.t 16)]⟩, ⟨(some 1), none, .mv (.t 17)⟩]))
  (.ops [⟨(some 10), none, .mv (.t 5)⟩, ⟨(some 11), none, .bin .add (.t 10) (.c (.int .i64 1))⟩, ⟨(some 5), none, .mv (.t 11)⟩])))
def k31 : KC := (.seq (.ops [⟨(some 4), none, .mv (.c (.int .i64 0))⟩])
  (.seq (.seq (.ops [⟨(some 5), none, .mv (.c (.int .i64 0))⟩])
  (.block 0 (.loop k31_b0)))
  (.seq (.ops [⟨(some 18), none, .mv (.t 1)⟩, ⟨(some 4), none, .mv (.t 18)⟩])
  .ret)))
theorem e31 {args : List PV} {σ : Heap} {K : PV → Heap → Prop} (hl : args.length ≤ 19) (h : Wf σ → (∀ a ∈ args, PV.upto σ.length a) → vc (mkCfg Try.prog mixed [] 19 σ.length) k31 (FinK σ.length [.t 4] K) (argEnv 0 args) σ) : ACall Try.prog 31 args σ K :=
  ACall_enter (C := mkCfg Try.prog mixed [] 19 σ.length) (c := Try.f31.body.getD .skip) Try.func31 (by kernel_rfl) (by kernel_rfl) (by kernel_rfl) rfl hl (by kernel_rfl) (by kernel_rfl) h
/- laws.heldInt64SS -/
/- live [0, 1, 5] -/
def k32_b0 : KC := (.seq (.seq (.ops [⟨(some 6), none, .mv (.t 5)⟩, ⟨(some 7), none, .mv (.t 0)⟩, ⟨(some 8), none, .len false (.t 7)⟩, ⟨(some 9), none, .bin .lss (.t 6) (.t 8)⟩])
  (.cond (.t 9) .skip (.exit 0)))
  (.seq (.block 1 (.seq (.ops [⟨(some 12), none, .mv (.t 0)⟩, ⟨(some 13), none, .mv (.t 5)⟩, ⟨(some 14), none, .idxS 1 (.t 12) (.t 13)⟩, ⟨(some 15), none, .load false 1 (.t 14)⟩, ⟨(some 16), none, .mv (.t 1)⟩, ⟨(some 17), none, .call (.c (.fn (.func 28) [] [])) [(.t 15), (.t 16)]⟩, ⟨(some 1), none, .mv (.t 17)⟩])
  (.seq (.ops [⟨(some 18), none, .mv (.t 1)⟩, ⟨(some 19), none, .bin .lss (.t 18) (.c (.int .i64 0))⟩])
  (.cond (.t 19) (.seq (.ops [⟨(some 4), none, .mv (.c (.int .i64 (-1)))⟩])
  .ret) .skip))))
  (.ops [⟨(some 10), none, .mv (.t 5)⟩, ⟨(some 11), none, .bin .add (.t 10) (.c (.int .i64 1))⟩, ⟨(some 5), none, .mv (.t 11)⟩])))
def k32 : KC := (.seq (.ops [⟨(some 4), none, .mv (.c (.int .i64 0))⟩])
  (.seq (.seq (.ops [⟨(some 5), none, .mv (.c (.int .i64 0))⟩])
  (.block 0 (.loop k32_b0)))
  (.seq (.ops [⟨(some 20), none, .mv (.t 1)⟩, ⟨(some 4), none, .mv (.t 20)⟩])
  .ret)))
theorem e32 {args : List PV} {σ : Heap} {K : PV → Heap → Prop} (hl : args.length ≤ 21) (h : Wf σ → (∀ a ∈ args, PV.upto σ.length a) → vc (mkCfg Try.prog mixed [] 21 σ.length) k32 (FinK σ.length [.t 4] K) (argEnv 0 args) σ) : ACall Try.prog 32 args σ K :=
  ACall_enter (C := mkCfg Try.prog mixed [] 21 σ.length) (c := Try.f32.body.getD .skip) Try.func32 (by kernel_rfl) (by kernel_rfl) (by kernel_rfl) rfl hl (by kernel_rfl) (by kernel_rfl) h
end Go.Proofs.Ytpepbomifjbgnaa
namespace Go.Proofs.Ytpepbomifjbgnaa
open Go.Kv
set_option linter.unusedVariables false
set_option linter.unusedSimpArgs false
attribute [local irreducible] ACall PCall KL
/-- The rows, numbered through from k on. -/
def seqT : Int → List (List Int) → List (List Int)
  | _, [] => []
  | k, l :: t => seqI k l.length :: seqT (k + l.length) t
def tot : List (List Int) → Nat
  | [] => 0
  | l :: t => l.length + tot t
theorem seqT_length : ∀ (k : Int) (t : List (List Int)), (seqT k t).length = t.length
  | k, [] => rfl
  | k, l :: t => by simp [seqT, seqT_length _ t]
theorem tot_take : ∀ (t : List (List Int)) (i : Nat), i < t.length → tot (t.take (i + 1)) = tot (t.take i) + (t.getD i []).length
  | l :: t, 0, _ => by simp [tot]
  | l :: t, i + 1, h => by
    have := tot_take t i (by simpa using h)
    simp only [List.take_succ_cons, tot, this, List.getD_cons_succ]; omega
theorem tot_le : ∀ (t : List (List Int)) (i : Nat), tot (t.take i) ≤ tot t
  | [], i => by simp
  | l :: t, 0 => by simp [tot]
  | l :: t, i + 1 => by
    have := tot_le t i
    simp only [List.take_succ_cons, tot]; omega
theorem seqT_get : ∀ (t : List (List Int)) (k : Int) (i : Nat), i < t.length → (seqT k t)[i]? = some (seqI (k + tot (t.take i)) (t.getD i []).length)
  | l :: t, k, 0, _ => by simp [seqT, tot]
  | l :: t, k, i + 1, h => by
    have := seqT_get t (k + l.length) i (by simpa using h)
    simp only [seqT, List.getElem?_cons_succ, this, List.take_succ_cons, tot, List.getD_cons_succ]
    congr 2; omega
/-- The first i rows are marked. -/
def mixT (k : Int) (t : List (List Int)) (i : Nat) : List (List Int) := (seqT k t).take i ++ t.drop i
theorem mixT_length (k : Int) (t : List (List Int)) {i : Nat} (h : i ≤ t.length) : (mixT k t i).length = t.length := by simp [mixT, seqT_length]; omega
theorem mixT_get (k : Int) {t : List (List Int)} {i : Nat} (h : i < t.length) : (mixT k t i)[i]? = some (t.getD i []) := by
  unfold mixT
  rw [List.getElem?_append_right (by rw [List.length_take, seqT_length]; omega), List.length_take, seqT_length, Nat.min_eq_left (by omega), Nat.sub_self, List.getElem?_drop, Nat.add_zero, List.getD_eq_getElem?_getD, List.getElem?_eq_getElem h]
  rfl
theorem mixT_set (k : Int) {t : List (List Int)} {i : Nat} (h : i < t.length) : (mixT k t i).set i (seqI (k + tot (t.take i)) (t.getD i []).length) = mixT k t (i + 1) := by
  unfold mixT
  have hl : i < (seqT k t).length := by rw [seqT_length]; exact h
  have hg : (seqT k t)[i] = seqI (k + tot (t.take i)) (t.getD i []).length := by
    have := seqT_get t k i h
    rw [List.getElem?_eq_getElem hl] at this
    exact Option.some.inj this
  rw [List.set_append_right _ _ (by rw [List.length_take, seqT_length]; omega), List.length_take, seqT_length, Nat.min_eq_left (by omega), Nat.sub_self, List.drop_eq_getElem_cons h, List.set_cons_zero, List.take_succ_eq_append_getElem hl, hg, List.append_assoc]
  rfl
theorem p32 (k : Int) (t : List (List Int)) (hk : -4294967296 ≤ k) (hn : t.length ≤ 4294967296) (ht : k + tot t ≤ 4294967296) (h0 : 0 ≤ k) : Pure Try.prog 32 [.list (rows (seqT k t)), .int .i64 k] (.int .i64 (k + tot t)) := by
  refine e32 (by simp) fun _ _ => ?_
  simp only [k32, argEnv, go_sem, ↓reduceIte, Nat.reduceEqDiff, Nat.reduceAdd, reduceCtorEq]
  refine KL_ind k32_b0.eq_1 (fun x : Nat => [(5, .int .i64 x), (0, .list (rows (seqT k t))), (1, .int .i64 (k + tot (t.take x)))]) (fun _ => []) (fun x => x ≤ t.length) (fun x => t.length - x) [5, 0, 1] 0 (by simp [keep, tot]) rfl (Nat.zero_le _) fun x hi ih => ?_
  have hle := tot_le t x
  simp only [go_sem, ↓reduceIte, Nat.reduceEqDiff, Nat.reduceAdd, reduceCtorEq]
  simp only [seqT_length]
  refine ⟨fun h1 => ⟨by omega, fun h2 => ?_⟩, fun h1 => ?_⟩
  · have hg := seqT_get t k x h2
    have hgd : (seqT k t).getD x [] = seqI (k + tot (t.take x)) (t.getD x []).length := by rw [List.getD_eq_getElem?_getD, hg]; rfl
    have h3 := tot_take t x h2
    have h4 := tot_le t (x + 1)
    rw [hgd]
    refine (p28 (k + tot (t.take x)) (t.getD x []).length (by omega) (by omega)).use (.int _ _) (.cons (.listi _ _) (.cons (.int _ _ _) (.nil _))) ?_
    simp only [go_sem, ↓reduceIte, Nat.reduceEqDiff, Nat.reduceAdd, reduceCtorEq]
    repeat' (first | refine And.intro ?_ ?_ | intro _)
    all_goals (try omega)
    exact ih (x + 1) (by omega) (by omega) _ _ (by simp [keep, h3]; omega) rfl
  · obtain rfl : x = t.length := by omega
    exact Kv.Fin.now ⟨by rw [List.take_length], rfl⟩
theorem p31 (σ : Heap) (id ver : Nat) (rs : List (Nat × Nat)) (t : List (List Int)) (k : Int) (hT : TabAt 23 2 σ id ver rs t) (hn : t.length ≤ 4294967296) (hk : 0 ≤ k) (ht : k + tot t ≤ 4294967296) {K : PV → Heap → Prop}
    (hK : ∀ σ', TabAt 23 2 σ' id ver rs (seqT k t) → (∀ j, j ∉ rs.map Prod.fst → σ'[j]? = σ[j]?) → σ'.length = σ.length → K (.int .i64 (k + tot t)) σ') : ACall Try.prog 31 [.ref id ver 0 t.length, .int .i64 k] σ K := by
  refine e31 (by simp) fun _ _ => ?_
  simp only [k31, argEnv, go_sem, ↓reduceIte, Nat.reduceEqDiff, Nat.reduceAdd, reduceCtorEq]
  refine KL_ind k31_b0.eq_1 (fun x : Nat × Heap => [(5, .int .i64 x.1), (0, .ref id ver 0 t.length), (1, .int .i64 (k + tot (t.take x.1)))]) (fun x => x.2) (fun x => x.1 ≤ t.length ∧ TabAt 23 2 x.2 id ver rs (mixT k t x.1) ∧ (∀ j, j ∉ rs.map Prod.fst → x.2[j]? = σ[j]?) ∧ x.2.length = σ.length) (fun x => t.length - x.1) [5, 0, 1] (0, σ) (by simp [keep, tot]) rfl ⟨Nat.zero_le _, by simpa [mixT] using hT, fun _ _ => rfl, rfl⟩ fun ⟨x, τ⟩ ⟨hi, hTx, hoth, hlen⟩ ih => ?_
  simp only at hi hTx hoth hlen
  have hle := tot_le t x
  have hout := hTx.out
  simp only [hout, go_sem, ↓reduceIte, Nat.reduceEqDiff, Nat.reduceAdd, reduceCtorEq]
  have hml := mixT_length k t hi
  have hrl : (refs rs (mixT k t x)).length = t.length := by rw [refs_length hTx.len, hml]
  refine ⟨fun h1 => ?_, fun h1 => ?_⟩
  · have hx : x < t.length := by omega
    obtain ⟨r, hr⟩ : ∃ r, rs[x]? = some r := ⟨rs[x]'(by have := hTx.len; omega), List.getElem?_eq_getElem (by have := hTx.len; omega)⟩
    have hmg := mixT_get k hx
    have hrg : (refs rs (mixT k t x))[x]? = some (.ref r.1 r.2 0 (t.getD x []).length) := by
      simp only [refs, List.getElem?_zipWith, hr, hmg]
    have hrow := hTx.row x r _ hr hmg
    have h3 := tot_take t x hx
    have h4 := tot_le t (x + 1)
    refine ⟨by omega, by omega, ?_⟩
    rw [hrg]
    simp only [go_sem, ↓reduceIte, Nat.reduceEqDiff, Nat.reduceAdd, reduceCtorEq]
    refine p27 τ r.1 r.2 2 [] (t.getD x []) [] (k + tot (t.take x)) (by simpa using hrow) (by omega) (by omega) ?_
    simp only [go_sem, ↓reduceIte, Nat.reduceEqDiff, Nat.reduceAdd, reduceCtorEq]
    refine ⟨by omega, ?_⟩
    refine ih (x + 1, τ.set r.1 (.arr r.2 2 1 (ints (seqI (k + tot (t.take x)) (t.getD x []).length)))) ⟨(by omega : x + 1 ≤ t.length), ?_, fun j hj => ?_, ?_⟩ (by show t.length - (x + 1) < t.length - x; omega) _ _ (by simp [keep, h3]; omega) (by simp)
    · have := hTx.set hr hmg (m := seqI (k + tot (t.take x)) (t.getD x []).length) (by simp)
      rw [mixT_set k hx] at this
      exact this
    · have hne : r.1 ≠ j := fun e => hj (e ▸ List.mem_map.2 ⟨r, List.mem_of_getElem? hr, rfl⟩)
      show (τ.set r.1 _)[j]? = σ[j]?
      rw [List.getElem?_set_ne hne]; exact hoth j hj
    · show (τ.set r.1 _).length = σ.length
      rw [List.length_set]; exact hlen
  · obtain rfl : x = t.length := by omega
    refine Kv.Fin.now ?_
    rw [List.take_length]
    have e : mixT k t t.length = seqT k t := by simp [mixT, seqT_length, List.take_of_length_le]
    rw [e] at hTx
    exact hK τ hTx hoth hlen
/-- A new copy of one's own. -/
theorem p15o (l : List Int) (hl : l.length ≤ 1048576) : ACall Try.prog 15 [.list (ints l)] [] (fun v s => v = .ref 0 0 0 l.length ∧ s = [.arr 0 2 1 (ints l)]) := by
  refine e15 (by simp) fun _ _ => ?_
  simp only [k15, argEnv, go_sem, ↓reduceIte, Nat.reduceEqDiff, Nat.reduceAdd, reduceCtorEq]
  refine ⟨by omega, ?_⟩
  refine KL_ind k15_b0.eq_1 (fun x : Nat => [(4, .int .i64 x), (3, .ref 0 0 0 l.length), (0, .list (ints l))]) (fun x => [.arr 0 2 1 (ints (l.take x ++ List.replicate (l.length - x) 0))]) (fun x => x ≤ l.length) (fun x => l.length - x) [4, 3, 0] 0 (by simp [keep]) (by simp) (Nat.zero_le _) fun x hi ih => ?_
  simp only [go_sem, ↓reduceIte, Nat.reduceEqDiff, Nat.reduceAdd, reduceCtorEq]
  repeat' (first | refine And.intro ?_ ?_ | intro _)
  all_goals (try simp only [List.length_append, List.length_take, List.length_replicate])
  all_goals (try omega)
  · rw [copy_step (by omega)]
    exact ih (x + 1) (by omega) (by omega) _ _ (by simp [keep]) rfl
  · obtain rfl : x = l.length := by omega
    have e : l.take l.length ++ List.replicate (l.length - l.length) 0 = l := by simp
    rw [e]
    exact Kv.Fin.now ⟨rfl, rfl⟩
theorem refs_snoc {rs : List (Nat × Nat)} {t : List (List Int)} (h : rs.length = t.length) (r : Nat × Nat) (l : List Int) : refs (rs ++ [r]) (t ++ [l]) = refs rs t ++ [.ref r.1 r.2 0 l.length] := by
  simp [refs, List.zipWith_append h]
def idsC (x : Nat) : List (Nat × Nat) := (List.range x).map fun i => (i + 1, 0)
def outC (t : List (List Int)) (x : Nat) : List PV := refs (idsC x) (t.take x) ++ List.replicate (t.length - x) .nils
def heapC (t : List (List Int)) (x : Nat) : Heap := .arr 0 23 1 (outC t x) :: (t.take x).map fun l => .arr 0 2 1 (ints l)
theorem refsC_length (t : List (List Int)) {x : Nat} (h : x ≤ t.length) : (refs (idsC x) (t.take x)).length = x := by
  rw [refs_length (by simp [idsC]; omega), List.length_take]; omega
theorem outC_length (t : List (List Int)) {x : Nat} (h : x ≤ t.length) : (outC t x).length = t.length := by
  rw [outC, List.length_append, refsC_length t h, List.length_replicate]; omega
theorem outC_get {t : List (List Int)} {x : Nat} (h : x < t.length) : (outC t x)[x]? = some .nils := by
  rw [outC, List.getElem?_append_right (by rw [refsC_length t (by omega)]; omega), refsC_length t (by omega), Nat.sub_self, List.getElem?_replicate, if_pos (by omega)]
theorem outC_set {t : List (List Int)} {x : Nat} (h : x < t.length) : (outC t x).set x (.ref (x + 1) 0 0 (t.getD x []).length) = outC t (x + 1) := by
  have e : t.length - x = (t.length - (x + 1)) + 1 := by omega
  have hr := refsC_length t (x := x) (by omega)
  have e2 : refs (idsC (x + 1)) (t.take (x + 1)) = refs (idsC x) (t.take x) ++ [.ref (x + 1) 0 0 (t.getD x []).length] := by
    rw [List.take_succ_eq_append_getElem h, show idsC (x + 1) = idsC x ++ [(x + 1, 0)] by simp [idsC, List.range_succ], refs_snoc (by simp [idsC]; omega), List.getD_eq_getElem?_getD, List.getElem?_eq_getElem h]
    rfl
  rw [outC, e, List.replicate_succ, List.set_append_right _ _ (by omega), hr, Nat.sub_self, List.set_cons_zero, outC, e2, List.append_assoc]
  rfl
theorem heapC_length (t : List (List Int)) {x : Nat} (h : x ≤ t.length) : (heapC t x).length = x + 1 := by
  simp [heapC]; omega
theorem heapC_tab (t : List (List Int)) : TabAt 23 2 (heapC t t.length) 0 0 (idsC t.length) t where
  out := by simp [heapC, outC]
  len := by simp [idsC]
  row := fun i r l hr hl => by
    simp only [idsC, List.getElem?_map, Option.map_eq_some_iff] at hr
    obtain ⟨j, hj, rfl⟩ := hr
    rw [List.getElem?_range (by have := (List.getElem?_eq_some_iff.1 hl).1; omega)] at hj
    cases hj
    simp [heapC, hl]
  nd := by
    have e : (idsC t.length).map Prod.fst = (List.range t.length).map (· + 1) := by simp [idsC, List.map_map, Function.comp_def]
    rw [e]
    exact List.Pairwise.map _ (fun a b (hab : a ≠ b) => show a + 1 ≠ b + 1 by omega) List.nodup_range
  ni := by simp [idsC]
theorem p14o (t : List (List Int)) (ht : t.length ≤ 1048576) (hl : ∀ r ∈ t, r.length ≤ 1048576) : ACall Try.prog 14 [.list (rows t)] [] (fun v s => v = .ref 0 0 0 t.length ∧ s = heapC t t.length) := by
  refine e14 (by simp) fun _ _ => ?_
  simp only [k14, argEnv, go_sem, ↓reduceIte, Nat.reduceEqDiff, Nat.reduceAdd, reduceCtorEq]
  refine ⟨by omega, ?_⟩
  refine KL_ind k14_b0.eq_1 (fun x : Nat => [(4, .int .i64 x), (3, .ref 0 0 0 t.length), (0, .list (rows t))]) (fun x => heapC t x) (fun x => x ≤ t.length) (fun x => t.length - x) [4, 3, 0] 0 (by simp [keep]) (by simp [heapC, outC, refs]) (Nat.zero_le _) fun x hi ih => ?_
  simp only [go_sem, ↓reduceIte, Nat.reduceEqDiff, Nat.reduceAdd, reduceCtorEq]
  refine ⟨fun h1 => ⟨by omega, fun h2 => ?_⟩, fun h1 => ?_⟩
  · refine (p15o (t.getD x []) (hl _ (rows_getD_len h2))).frame (up1 (upto_ints 0 _)) fun v s ⟨hv, hs⟩ => ?_
    subst hv; subst hs
    rw [heapC_length t hi]
    have hn := outC_length t hi
    have hg : (heapC t x ++ [.arr 0 2 1 (ints (t.getD x []))])[0]? = some (.arr 0 23 1 (outC t x)) := rfl
    have hset : ∀ o : AObj, (heapC t x ++ [AObj.arr 0 2 1 (ints (t.getD x []))]).set 0 o = o :: ((t.take x).map (fun l => AObj.arr 0 2 1 (ints l)) ++ [AObj.arr 0 2 1 (ints (t.getD x []))]) := fun o => rfl
    simp only [hg, hset, go_sem, ↓reduceIte, Nat.reduceEqDiff, Nat.reduceAdd, reduceCtorEq]
    refine ⟨by omega, by omega, ?_⟩
    rw [outC_get h2]
    simp only [hg, hset, go_sem, ↓reduceIte, Nat.reduceEqDiff, Nat.reduceAdd, reduceCtorEq]
    refine ⟨by omega, by omega, ?_⟩
    rw [outC_set h2]
    refine ih (x + 1) (by omega) (by omega) _ _ (by simp [keep]) ?_
    rw [heapC, List.take_succ_eq_append_getElem h2, List.map_append, List.getD_eq_getElem?_getD, List.getElem?_eq_getElem h2]
    rfl
  · obtain rfl : x = t.length := by omega
    exact Kv.Fin.now ⟨rfl, rfl⟩
end Go.Proofs.Ytpepbomifjbgnaa
