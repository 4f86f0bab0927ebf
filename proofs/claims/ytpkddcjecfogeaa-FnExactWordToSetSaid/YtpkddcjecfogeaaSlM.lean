/- Searching in lists of maps, and deleting from them. -/
import Derived.Test.YtpkddcjecfogeaaCb
import Derived.Test.YtpkddcjecfogeaaMp
import Derived.Test.YtpkddcjecfogeaaSq
namespace Go.Proofs.Ytpkddcjecfogeaa
open Go.Kv
set_option maxRecDepth 100000
/- slices.IndexFunc[[]impl.Map,impl.Map] -/
/- live [0, 1, 7, 8] -/
def k153_b0 : KC := (.seq (.ops [⟨(some 9), none, .bin .lss (.t 8) (.t 7)⟩])
  (.seq (.cond (.t 9) .skip (.exit 0))
  (.seq (.block 1 (.seq (.ops [⟨(some 10), none, .mv (.t 8)⟩, ⟨(some 5), none, .mv (.t 10)⟩])
  (.seq (.ops [⟨(some 11), none, .mv (.t 1)⟩, ⟨(some 12), none, .mv (.t 0)⟩, ⟨(some 13), none, .mv (.t 5)⟩, ⟨(some 14), none, .idxS 6 (.t 12) (.t 13)⟩, ⟨(some 15), none, .load true 6 (.t 14)⟩, ⟨(some 16), none, .call (.t 11) [(.t 15)]⟩])
  (.cond (.t 16) (.seq (.ops [⟨(some 17), none, .mv (.t 5)⟩, ⟨(some 4), none, .mv (.t 17)⟩])
  .ret) .skip))))
  (.ops [⟨(some 18), none, .bin .add (.t 8) (.c (.int .i64 1))⟩, ⟨(some 8), none, .mv (.t 18)⟩]))))
def k153 : KC := (.seq (.ops [⟨(some 4), none, .mv (.c (.int .i64 0))⟩])
  (.seq (.seq (.ops [⟨(some 6), none, .mv (.t 0)⟩, ⟨(some 7), none, .len false (.t 6)⟩, ⟨(some 8), none, .mv (.c (.int .i64 0))⟩])
  (.block 0 (.loop k153_b0)))
  (.seq (.ops [⟨(some 4), none, .mv (.c (.int .i64 (-1)))⟩])
  .ret)))
theorem e153 {args : List PV} {σ : Heap} {K : PV → Heap → Prop} (hl : args.length ≤ 19) (h : Wf σ → (∀ a ∈ args, PV.upto σ.length a) → vc (mkCfg Try.prog mixed [] 19 σ.length) k153 (FinK σ.length [.t 4] K) (argEnv 0 args) σ) : ACall Try.prog 153 args σ K :=
  ACall_enter (C := mkCfg Try.prog mixed [] 19 σ.length) (c := Try.f153.body.getD .skip) Try.func153 (by kernel_rfl) (by kernel_rfl) (by kernel_rfl) rfl hl (by kernel_rfl) (by kernel_rfl) h
/- slices.DeleteFunc[[]impl.Map,impl.Map] -/
/- live [0, 1, 5, 6] -/
def k118_b0 : KC := (.seq (.seq (.ops [⟨(some 16), none, .mv (.t 6)⟩, ⟨(some 17), none, .mv (.t 0)⟩, ⟨(some 18), none, .len false (.t 17)⟩, ⟨(some 19), none, .bin .lss (.t 16) (.t 18)⟩])
  (.cond (.t 19) .skip (.exit 0)))
  (.seq (.block 1 (.seq (.ops [⟨(some 22), none, .mv (.t 0)⟩, ⟨(some 23), none, .mv (.t 6)⟩, ⟨(some 24), none, .idxS 6 (.t 22) (.t 23)⟩, ⟨(some 25), none, .load true 6 (.t 24)⟩, ⟨(some 7), none, .alloc [.int .i64 0, .int .i64 0, .int .i64 0, .int .i64 0, .int .i64 0, .int .i64 0]⟩, ⟨none, none, .store 6 (.t 7) (.t 25)⟩])
  (.seq (.ops [⟨(some 26), none, .mv (.t 1)⟩, ⟨(some 27), none, .load true 6 (.t 7)⟩, ⟨(some 28), none, .call (.t 26) [(.t 27)]⟩, ⟨(some 29), none, .not (.t 28)⟩])
  (.cond (.t 29) (.seq (.ops [⟨(some 30), none, .mv (.t 0)⟩, ⟨(some 31), none, .mv (.t 5)⟩, ⟨(some 32), none, .load true 6 (.t 7)⟩, ⟨(some 33), none, .idxS 6 (.t 30) (.t 31)⟩, ⟨none, none, .store 6 (.t 33) (.t 32)⟩])
  (.ops [⟨(some 34), none, .mv (.t 5)⟩, ⟨(some 35), none, .bin .add (.t 34) (.c (.int .i64 1))⟩, ⟨(some 5), none, .mv (.t 35)⟩])) .skip))))
  (.ops [⟨(some 20), none, .mv (.t 6)⟩, ⟨(some 21), none, .bin .add (.t 20) (.c (.int .i64 1))⟩, ⟨(some 6), none, .mv (.t 21)⟩])))
def k118 : KC := (.seq (.ops [⟨(some 4), none, .mv (.c (.nils))⟩])
  (.seq (.ops [⟨(some 8), none, .mv (.t 0)⟩, ⟨(some 9), none, .mv (.t 1)⟩, ⟨(some 10), none, .call (.c (.fn (.func 153) [] [])) [(.t 8), (.t 9)]⟩, ⟨(some 5), none, .mv (.t 10)⟩])
  (.seq (.seq (.ops [⟨(some 11), none, .mv (.t 5)⟩, ⟨(some 12), none, .bin .eql (.t 11) (.c (.int .i64 (-1)))⟩])
  (.cond (.t 12) (.seq (.ops [⟨(some 13), none, .mv (.t 0)⟩, ⟨(some 4), none, .mv (.t 13)⟩])
  .ret) .skip))
  (.seq (.seq (.ops [⟨(some 14), none, .mv (.t 5)⟩, ⟨(some 15), none, .bin .add (.t 14) (.c (.int .i64 1))⟩, ⟨(some 6), none, .mv (.t 15)⟩])
  (.block 0 (.loop k118_b0)))
  (.seq (.ops [⟨(some 36), none, .mv (.t 0)⟩, ⟨(some 37), none, .mv (.t 5)⟩, ⟨(some 38), none, .sls 6 (.t 36) (some (.t 37)) none⟩, ⟨none, none, .clr 6 (.agg [.int .i64 0, .int .i64 0, .int .i64 0, .int .i64 0, .int .i64 0, .int .i64 0]) (.t 38)⟩])
  (.seq (.ops [⟨(some 39), none, .mv (.t 0)⟩, ⟨(some 40), none, .mv (.t 5)⟩, ⟨(some 41), none, .sls 6 (.t 39) none (some (.t 40))⟩, ⟨(some 4), none, .mv (.t 41)⟩])
  .ret))))))
theorem e118 {args : List PV} {σ : Heap} {K : PV → Heap → Prop} (hl : args.length ≤ 42) (h : Wf σ → (∀ a ∈ args, PV.upto σ.length a) → vc (mkCfg Try.prog mixed [] 42 σ.length) k118 (FinK σ.length [.t 4] K) (argEnv 0 args) σ) : ACall Try.prog 118 args σ K :=
  ACall_enter (C := mkCfg Try.prog mixed [] 42 σ.length) (c := Try.f118.body.getD .skip) Try.func118 (by kernel_rfl) (by kernel_rfl) (by kernel_rfl) rfl hl (by kernel_rfl) (by kernel_rfl) h
end Go.Proofs.Ytpkddcjecfogeaa
namespace Go.Proofs.Ytpkddcjecfogeaa
open Go.Kv
set_option linter.unusedVariables false
set_option linter.unusedSimpArgs false
attribute [local irreducible] ACall PCall KL
theorem p153 (l : List (List Int)) (hm : ∀ x ∈ l, x.length = 6) (hl : l.length ≤ 4294967296) (fid : FuncId) (caps : List PV) [hc : StillL caps] (p : List Int → Bool) (hp : ∀ x ∈ l, Pure Try.prog fid (.agg (ints x) :: caps) (.bool (p x))) :
    Pure Try.prog 153 [.list (aggs l), .fn (.func fid) [] caps] (.int .i64 (idx p l)) := by
  refine e153 (by simp) fun _ _ => ?_
  simp only [k153, argEnv, take6, List.drop_zero, Int.cast_ofNat_Int, go_sem, ↓reduceIte, Nat.reduceEqDiff, Nat.reduceAdd, Nat.reduceMul, Nat.reduceLeDiff, Nat.reduceLT, Int.reduceLE, Int.reduceLT, reduceCtorEq]
  refine KL_ind k153_b0.eq_1 (fun x : Nat => [(0, .list (aggs l)), (1, .fn (.func fid) [] caps), (7, .int .i64 l.length), (8, .int .i64 x)]) (fun _ => []) (fun x => x ≤ l.length ∧ (l.take x).any p = false) (fun x => l.length - x) [0, 1, 7, 8] 0 rfl rfl ⟨Nat.zero_le _, by simp⟩ fun x ⟨hx, hall⟩ ih => ?_
  try simp only [take6, List.drop_zero, Int.cast_ofNat_Int, go_sem, ↓reduceIte, Nat.reduceEqDiff, Nat.reduceAdd, Nat.reduceMul, Nat.reduceLeDiff, Nat.reduceLT, Int.reduceLE, Int.reduceLT, reduceCtorEq]
  refine ⟨fun h1 => ⟨by omega, fun h2 => ?_⟩, fun h1 => ?_⟩
  · rw [getD_eq h2]
    have h6 := hm _ (List.getElem_mem h2)
    try simp only [h6, take6, List.drop_zero, Int.cast_ofNat_Int, go_sem, ↓reduceIte, Nat.reduceEqDiff, Nat.reduceAdd, Nat.reduceMul, Nat.reduceLeDiff, Nat.reduceLT, Int.reduceLE, Int.reduceLT, reduceCtorEq]
    refine (hp _ (List.getElem_mem h2)).go ?_
    try simp only [take6, List.drop_zero, Int.cast_ofNat_Int, go_sem, ↓reduceIte, Nat.reduceEqDiff, Nat.reduceAdd, Nat.reduceMul, Nat.reduceLeDiff, Nat.reduceLT, Int.reduceLE, Int.reduceLT, reduceCtorEq]
    refine ⟨fun h3 => ?_, fun h3 => ⟨by omega, ?_⟩⟩
    · exact Kv.Fin.now ⟨by rw [idx_some h2 hall h3], rfl⟩
    · refine ih (x + 1) ⟨by omega, ?_⟩ (by omega) _ _ rfl rfl
      rw [any_take_succ _ h2, hall, h3]; rfl
  · obtain rfl : x = l.length := by omega
    rw [List.take_length] at hall
    exact Kv.Fin.now ⟨by rw [idx_none hall], rfl⟩
theorem p118 (σ : Heap) (id ver : Nat) (e : TypeId) (l : List (List Int)) (hid : σ[id]? = some (.arr ver e 6 (aggs l))) (hm : ∀ x ∈ l, x.length = 6) (hl : l.length ≤ 4294967296) (fid : FuncId) (caps : List PV) [hc : StillL caps] (p : List Int → Bool) (hp : ∀ x ∈ l, Pure Try.prog fid (.agg (ints x) :: caps) (.bool (p x))) {K : PV → Heap → Prop}
    (hK : ∀ post, K (.ref id ver 0 (l.filter fun x => !p x).length) (σ.set id (.arr ver e 6 (aggs ((l.filter fun x => !p x) ++ post))))) :
    ACall Try.prog 118 [.ref id ver 0 l.length, .fn (.func fid) [] caps] σ K := by
  refine e118 (by simp) fun _ _ => ?_
  simp only [k118, argEnv, take6, List.drop_zero, Int.cast_ofNat_Int, go_sem, ↓reduceIte, Nat.reduceEqDiff, Nat.reduceAdd, Nat.reduceMul, Nat.reduceLeDiff, Nat.reduceLT, Int.reduceLE, Int.reduceLT, reduceCtorEq]
  have hlt := (List.getElem?_eq_some_iff.1 hid).1
  have hself : ∀ o, (σ.set id o)[id]? = some o := fun o => List.getElem?_set_self hlt
  have hset : ∀ o o', (σ.set id o).set id o' = σ.set id o' := fun o o' => List.set_set ..
  refine (p153 l hm hl fid caps p hp).lend (.cons (Imm.refa hid) (.cons (Imm.fnc _ (.still hc)) (.nil _))) ?_
  try simp only [take6, List.drop_zero, Int.cast_ofNat_Int, go_sem, ↓reduceIte, Nat.reduceEqDiff, Nat.reduceAdd, Nat.reduceMul, Nat.reduceLeDiff, Nat.reduceLT, Int.reduceLE, Int.reduceLT, reduceCtorEq]
  cases hany : l.any p with
  | false =>
    rw [idx_none hany]
    repeat' (first | refine And.intro ?_ ?_ | intro _)
    all_goals (try omega)
    refine Kv.Fin.now ?_
    have := hK []
    rw [filter_none hany, List.append_nil] at this
    rw [hp_same hid] at this
    exact this
  | true =>
    obtain ⟨i0, hi0, hno, hyes⟩ := any_split hany
    rw [idx_some hi0 hno hyes]
    refine ⟨fun h => by omega, fun h => ⟨by omega, ?_⟩⟩
    refine KL_indD k118_b0.eq_1 (fun x : Nat × List (List Int) => [(0, .ref id ver 0 l.length), (1, .fn (.func fid) [] caps), (5, .int .i64 ((l.take x.1).filter fun x => !p x).length), (6, .int .i64 x.1)])
      (fun x => σ.set id (.arr ver e 6 (aggs (((l.take x.1).filter fun x => !p x) ++ x.2 ++ l.drop x.1))))
      (fun x => x.1 ≤ l.length ∧ ((l.take x.1).filter fun x => !p x).length + x.2.length = x.1 ∧ 1 ≤ x.2.length ∧ ∀ y ∈ x.2, y.length = 6) (fun x => l.length - x.1) [0, 1, 5, 6] (i0 + 1, [l[i0]]) ?_ ⟨[], ?_⟩ ?_ (fun y hy => ?_) fun ⟨x, J⟩ ⟨hx, hJ, hJ1, hJ6⟩ ih => ?_
    · simp [keep, filter_take_succ hi0, hyes, filter_none hno]; omega
    · have e0 : l.take i0 ++ ([l[i0]] ++ l.drop (i0 + 1)) = l := by simp
      simp only [filter_take_succ hi0, hyes, filter_none hno]
      simp [hp_same hid]
    · refine ⟨by show i0 + 1 ≤ l.length; omega, ?_, by simp, ?_⟩
      · simp [filter_take_succ hi0, hyes, filter_none hno]; omega
      · intro y hy; simp at hy; subst hy; exact hm _ (List.getElem_mem hi0)
    · have hls : ∀ o, (σ.set id o).length = σ.length := fun o => List.length_set ..
      simp only [hls]
      exact ⟨Nat.le_refl _, (by repeat' (first | exact Env.upto_nil _ | refine Env.upto_cons ?_ ?_ | exact upto_ref hlt _ _ _ | exact Still.upn inferInstance _)), Hb.set (Hb.wf (by assumption)) (by simp only [AObj.undr, undrX_aggs]) _⟩
    · simp only at hx hJ hJ1 hJ6
      generalize hF : (l.take x).filter (fun x => !p x) = F at *
      have hdl : (l.drop x).length = l.length - x := by simp
      have hJe : J = J.headD [] :: J.tail := by
        cases J with
        | nil => simp at hJ1
        | cons a J => rfl
      have hls : ∀ o, (σ.set id o).length = σ.length := fun o => List.length_set ..
      have hn1 : ∀ o b, (σ.set id o ++ [b])[σ.length]? = some b := fun o b => hp_new (hls o) b
      have hn2 : ∀ o b, (σ.set id o ++ [b])[id]? = some o := fun o b => hp_old (hself o) _
      have hn3 : ∀ o b b', (σ.set id o ++ [b]).set σ.length b' = σ.set id o ++ [b'] := fun o b b' => hp_setn (hls o) b b'
      have hn4 : ∀ o b o', (σ.set id o ++ [b]).set id o' = σ.set id o' ++ [b] := fun o b o' => by rw [hp_seto (by rw [hls]; exact hlt), hset]
      try simp only [hself, hset, hdl, aggs_length, hn1, hn2, hn3, hn4, take6, List.drop_zero, Int.cast_ofNat_Int, go_sem, ↓reduceIte, Nat.reduceEqDiff, Nat.reduceAdd, Nat.reduceMul, Nat.reduceLeDiff, Nat.reduceLT, Int.reduceLE, Int.reduceLT, reduceCtorEq]
      refine ⟨fun h1 => ?_, fun h1 => ?_⟩
      · have hxl : x < l.length := by omega
        have h6 := hm _ (List.getElem_mem hxl)
        have hg : (F ++ J ++ l.drop x).getD x [] = l[x] := by
          rw [List.getD_eq_getElem?_getD, List.getElem?_append_right (by simp; omega)]
          have : x - (F ++ J).length = 0 := by simp; omega
          rw [this, List.getElem?_drop, Nat.add_zero, List.getElem?_eq_getElem hxl]; rfl
        rw [hg]
        refine ⟨by omega, by omega, fun h2 => ?_⟩
        try simp only [h6, take6, List.drop_zero, Int.cast_ofNat_Int, go_sem, ↓reduceIte, Nat.reduceEqDiff, Nat.reduceAdd, Nat.reduceMul, Nat.reduceLeDiff, Nat.reduceLT, Int.reduceLE, Int.reduceLT, reduceCtorEq]
        refine (hp _ (List.getElem_mem hxl)).go ?_
        try simp only [hself, hset, hdl, aggs_length, hn1, hn2, hn3, hn4, h6, take6, List.drop_zero, Int.cast_ofNat_Int, go_sem, ↓reduceIte, Nat.reduceEqDiff, Nat.reduceAdd, Nat.reduceMul, Nat.reduceLeDiff, Nat.reduceLT, Int.reduceLE, Int.reduceLT, reduceCtorEq]
        refine ⟨fun h3 => ?_, fun h3 => ⟨by omega, ?_⟩⟩
        · have hset2 : (F ++ J ++ l.drop x).set F.length l[x] = (F ++ [l[x]]) ++ J.tail ++ l.drop x := by
            rw [List.append_assoc, List.set_append_right _ _ (Nat.le_refl _), Nat.sub_self, hJe]
            simp
          have hf1 : ((l.take (x + 1)).filter fun x => !p x) = F ++ [l[x]] := by rw [filter_take_succ hxl, hF, if_pos (by simp [h3])]
          have hgF : ((F ++ J ++ l.drop x).getD F.length []).length = 6 := by
            rw [List.append_assoc, List.getD_eq_getElem?_getD, List.getElem?_append_right (Nat.le_refl _), Nat.sub_self, hJe]
            exact hJ6 _ (by rw [hJe]; simp)
          try simp only [hgF, h6, take6, List.drop_zero, Int.cast_ofNat_Int, go_sem, ↓reduceIte, Nat.reduceEqDiff, Nat.reduceAdd, Nat.reduceMul, Nat.reduceLeDiff, Nat.reduceLT, Int.reduceLE, Int.reduceLT, reduceCtorEq]
          rw [hset2]
          repeat' (first | refine And.intro ?_ ?_ | intro _)
          all_goals (try omega)
          refine ih (x + 1, J.tail ++ [l[x]]) ⟨by show x + 1 ≤ l.length; omega, ?_, by simp, ?_⟩ (by show l.length - (x + 1) < l.length - x; omega) _ _ ?_ ⟨[.box (ints l[x])], ?_⟩
          · show ((l.take (x + 1)).filter fun x => !p x).length + (J.tail ++ [l[x]]).length = x + 1
            rw [hf1]
            simp only [List.length_append, List.length_tail, List.length_cons, List.length_nil]; omega
          · intro y hy
            rcases List.mem_append.1 hy with hy | hy
            · exact hJ6 y (List.mem_of_mem_tail hy)
            · simp at hy; subst hy; exact h6
          · simp only [keep, hf1, List.map_cons, List.map_nil, look_cons, ↓reduceIte, Nat.reduceEqDiff, reduceCtorEq, List.length_append, List.length_cons, List.length_nil]
            rfl
          · rw [hf1, List.drop_eq_getElem_cons hxl]; simp
        · have hf1 : ((l.take (x + 1)).filter fun x => !p x) = F := by rw [filter_take_succ hxl, hF, if_neg (by simp [h3]), List.append_nil]
          refine ih (x + 1, J ++ [l[x]]) ⟨by show x + 1 ≤ l.length; omega, ?_, by simp, ?_⟩ (by show l.length - (x + 1) < l.length - x; omega) _ _ ?_ ⟨[.box (ints l[x])], ?_⟩
          · show ((l.take (x + 1)).filter fun x => !p x).length + (J ++ [l[x]]).length = x + 1
            rw [hf1]
            simp only [List.length_append, List.length_cons, List.length_nil]; omega
          · intro y hy
            rcases List.mem_append.1 hy with hy | hy
            · exact hJ6 y hy
            · simp at hy; subst hy; exact h6
          · simp only [keep, hf1, List.map_cons, List.map_nil, look_cons, ↓reduceIte, Nat.reduceEqDiff, reduceCtorEq]
            rfl
          · rw [hf1, List.drop_eq_getElem_cons hxl]; simp
      · obtain rfl : x = l.length := by omega
        rw [List.take_length] at hF
        have e : (F ++ J ++ l.drop l.length).take F.length = F := by rw [List.append_assoc, List.take_left]
        have e2 : List.replicate (l.length - F.length) (PV.agg [.int .i64 0, .int .i64 0, .int .i64 0, .int .i64 0, .int .i64 0, .int .i64 0]) = aggs (List.replicate (l.length - F.length) [0, 0, 0, 0, 0, 0]) := by simp [aggs, ints]
        rw [e, e2]
        repeat' (first | refine And.intro ?_ ?_ | intro _)
        all_goals (try omega)
        simp only [aggs_append, List.append_assoc, Nat.sub_zero]
        rw [← hF]
        exact Kv.Fin.now (hK _)
/-- The same over maps told by their images. -/
theorem delM (σ : Heap) (id ver : Nat) (e : TypeId) (l : List (List Nat)) (n : Nat) (hn : n = l.length) (hid : σ[id]? = some (.arr ver e 6 (aggs (l.map mp)))) (hm : ∀ x ∈ l, x.length ≤ 5) (hl : l.length ≤ 4294967296) (fid : FuncId) (caps : List PV) [hc : StillL caps] (p : List Nat → Bool) (hp : ∀ x ∈ l, Pure Try.prog fid (.agg (ints (mp x)) :: caps) (.bool (p x))) {K : PV → Heap → Prop}
    (hK : ∀ post, K (.ref id ver 0 (l.filter fun x => !p x).length) (σ.set id (.arr ver e 6 (aggs ((l.filter fun x => !p x).map mp ++ post))))) :
    ACall Try.prog 118 [.ref id ver 0 n, .fn (.func fid) [] caps] σ K := by
  subst hn
  have h1 : (l.map mp).length = l.length := by simp
  have := p118 σ id ver e (l.map mp) hid (fun x hx => by
      obtain ⟨g, hg, rfl⟩ := List.mem_map.1 hx
      exact mpN_length (hm g hg)) (by omega) fid caps (fun m => p (um m)) (fun x hx => by
      obtain ⟨g, hg, rfl⟩ := List.mem_map.1 hx
      rw [um_mp]
      exact hp g hg) (K := K) (fun post => by
        have h2 := filter_mp (fun g => !p g) l
        rw [h2, List.length_map]
        exact hK post)
  rw [h1] at this
  exact this
end Go.Proofs.Ytpkddcjecfogeaa
