/- Deletion in an own table. -/
import Derived.Test.YtodmbkceindakaaGreatCb
import Derived.Test.YtodmbkceindakaaGreatG3
import Derived.Test.YtodmbkceindakaaGreatG1
namespace Go.Proofs.YtodmbkceindakaaGreat
open Go.Kv
set_option maxRecDepth 100000
/- slices.DeleteFunc[[][]int64,[]int64] -/
/- live [0, 1, 5, 6] -/
def k47_b0 : KC := (.seq (.seq (.ops [⟨(some 16), none, .mv (.t 6)⟩, ⟨(some 17), none, .mv (.t 0)⟩, ⟨(some 18), none, .len false (.t 17)⟩, ⟨(some 19), none, .bin .lss (.t 16) (.t 18)⟩])
  (.cond (.t 19) .skip (.exit 0)))
  (.seq (.block 1 (.seq (.ops [⟨(some 22), none, .mv (.t 0)⟩, ⟨(some 23), none, .mv (.t 6)⟩, ⟨(some 24), none, .idxS 1 (.t 22) (.t 23)⟩, ⟨(some 25), none, .load false 1 (.t 24)⟩, ⟨(some 7), none, .mv (.t 25)⟩])
  (.seq (.ops [⟨(some 26), none, .mv (.t 1)⟩, ⟨(some 27), none, .mv (.t 7)⟩, ⟨(some 28), none, .call (.t 26) [(.t 27)]⟩, ⟨(some 29), none, .not (.t 28)⟩])
  (.cond (.t 29) (.seq (.ops [⟨(some 30), none, .mv (.t 0)⟩, ⟨(some 31), none, .mv (.t 5)⟩, ⟨(some 32), none, .mv (.t 7)⟩, ⟨(some 33), none, .idxS 1 (.t 30) (.t 31)⟩, ⟨none, none, .store 1 (.t 33) (.t 32)⟩])
  (.ops [⟨(some 34), none, .mv (.t 5)⟩, ⟨(some 35), none, .bin .add (.t 34) (.c (.int .i64 1))⟩, ⟨(some 5), none, .mv (.t 35)⟩])) .skip))))
  (.ops [⟨(some 20), none, .mv (.t 6)⟩, ⟨(some 21), none, .bin .add (.t 20) (.c (.int .i64 1))⟩, ⟨(some 6), none, .mv (.t 21)⟩])))
def k47 : KC := (.seq (.ops [⟨(some 4), none, .mv (.c (.nils))⟩])
  (.seq (.ops [⟨(some 8), none, .mv (.t 0)⟩, ⟨(some 9), none, .mv (.t 1)⟩, ⟨(some 10), none, .call (.c (.fn (.func 53) [] [])) [(.t 8), (.t 9)]⟩, ⟨(some 5), none, .mv (.t 10)⟩])
  (.seq (.seq (.ops [⟨(some 11), none, .mv (.t 5)⟩, ⟨(some 12), none, .bin .eql (.t 11) (.c (.int .i64 (-1)))⟩])
  (.cond (.t 12) (.seq (.ops [⟨(some 13), none, .mv (.t 0)⟩, ⟨(some 4), none, .mv (.t 13)⟩])
  .ret) .skip))
  (.seq (.seq (.ops [⟨(some 14), none, .mv (.t 5)⟩, ⟨(some 15), none, .bin .add (.t 14) (.c (.int .i64 1))⟩, ⟨(some 6), none, .mv (.t 15)⟩])
  (.block 0 (.loop k47_b0)))
  (.seq (.ops [⟨(some 36), none, .mv (.t 0)⟩, ⟨(some 37), none, .mv (.t 5)⟩, ⟨(some 38), none, .sls 1 (.t 36) (some (.t 37)) none⟩, ⟨none, none, .clr 1 (.nils) (.t 38)⟩])
  (.seq (.ops [⟨(some 39), none, .mv (.t 0)⟩, ⟨(some 40), none, .mv (.t 5)⟩, ⟨(some 41), none, .sls 1 (.t 39) none (some (.t 40))⟩, ⟨(some 4), none, .mv (.t 41)⟩])
  .ret))))))
theorem e47 {args : List PV} {σ : Heap} {K : PV → Heap → Prop} (hl : args.length ≤ 42) (h : Wf σ → (∀ a ∈ args, PV.upto σ.length a) → vc (mkCfg Tryz.prog mixed [] 42 σ.length) k47 (FinK σ.length [.t 4] K) (argEnv 0 args) σ) : ACall Tryz.prog 47 args σ K :=
  ACall_enter (C := mkCfg Tryz.prog mixed [] 42 σ.length) (c := Tryz.f47.body.getD .skip) Tryz.func47 (by kernel_rfl) (by kernel_rfl) (by kernel_rfl) rfl hl (by kernel_rfl) (by kernel_rfl) h
end Go.Proofs.YtodmbkceindakaaGreat
namespace Go.Proofs.YtodmbkceindakaaGreat
open Go.Kv
set_option linter.unusedVariables false
set_option linter.unusedSimpArgs false
attribute [local irreducible] ACall PCall KL
/-- A cell of a table: where the row lies, what it is. -/
def cv (c : Rw × List Int) : PV := c.1.pv c.2
theorem cv_cases (c : Rw × List Int) : cv c = .nils ∨ ∃ a b d e, cv c = .ref a b d e := pv_cases c.1 c.2
theorem cv_cs (c : Rw × List Int) : (cv c).cs = [cv c] := by rcases cv_cases c with e | ⟨a, b, d, f, e⟩ <;> rw [e] <;> rfl
theorem cv_ok (c : Rw × List Int) : [cv c].all PV.ok = true := by rcases cv_cases c with e | ⟨a, b, d, f, e⟩ <;> rw [e] <;> rfl
theorem cv_put (c : Rw × List Int) (o : Nat) (y : PV) : putE (cv c) o y = y := by rcases cv_cases c with e | ⟨a, b, d, f, e⟩ <;> rw [e] <;> rfl
theorem cv_free (c : Rw × List Int) : (cv c).free := by
  rcases cv_cases c with e | ⟨a, b, d, f, e⟩ <;> rw [e]
  · exact Plain.nils.fr
  · exact free_ref _ _ _ _
theorem pvs_zip (rs : List Rw) (t : List (List Int)) : pvs rs t = (rs.zip t).map cv := by
  unfold pvs; rw [List.zip_eq_zipWith, List.map_zipWith]; rfl
theorem pvs_unzip (Z : List (Rw × List Int)) : pvs (Z.map Prod.fst) (Z.map Prod.snd) = Z.map cv := by
  rw [pvs_zip]
  congr 1
  exact (List.zip_of_prod rfl rfl).symm
variable {e2 e1 : TypeId} {σ : Heap} {id ver : Nat}
/-- The rows of a table are in it: some of them, in another array. -/
theorem tab_sub {Z : List (Rw × List Int)} (h : TabG e2 e1 σ id ver (Z.map Prod.fst) (Z.map Prod.snd)) {Y : List (Rw × List Int)} (hs : Y.Sublist Z) (junk : List PV) :
    TabG e2 e1 (σ.set id (.arr ver e2 1 (Y.map cv ++ junk))) id ver (Y.map Prod.fst) (Y.map Prod.snd) where
  out := ⟨junk, by rw [List.getElem?_set_self h.lt.1, pvs_unzip]⟩
  len := by simp
  row := fun i r l hr hl => by
    simp only [List.getElem?_map, Option.map_eq_some_iff] at hr hl
    obtain ⟨y, hy, rfl⟩ := hr
    obtain ⟨y', hy', rfl⟩ := hl
    rw [hy] at hy'; cases hy'
    obtain ⟨k, hk⟩ := List.getElem?_of_mem (hs.subset (List.mem_of_getElem? hy))
    have h1 := h.row k y.1 y.2 (by simp [hk]) (by simp [hk])
    exact h1.keep fun hn => List.getElem?_set_ne (Ne.symm (h.ni y.1 (List.mem_map.2 ⟨y, hs.subset (List.mem_of_getElem? hy), rfl⟩) hn))
  nd := by
    have hp : (Z.map Prod.fst).Pairwise (fun r q => r.nil = false → q.nil = false → r.id ≠ q.id) := by
      rw [List.pairwise_iff_getElem]
      intro i j hi hj hij h1 h2 h3
      have := h.nd i j _ _ (List.getElem?_eq_getElem hi) (List.getElem?_eq_getElem hj) h1 h2 h3
      omega
    have hp2 := hp.sublist (hs.map Prod.fst)
    rw [List.pairwise_iff_getElem] at hp2
    intro i j r q hr hq h1 h2 h3
    obtain ⟨hi, rfl⟩ := List.getElem?_eq_some_iff.1 hr
    obtain ⟨hj, rfl⟩ := List.getElem?_eq_some_iff.1 hq
    refine Decidable.byContradiction fun hne => ?_
    rcases Nat.lt_or_gt_of_ne hne with hlt | hlt
    · exact hp2 i j hi hj hlt h1 h2 h3
    · exact hp2 j i hj hi hlt h2 h1 h3.symm
  ni := fun r hr hn => h.ni r ((hs.map Prod.fst).subset hr) hn
theorem HKr (σ : Heap) (K : PV → Heap → Prop) (v : PV) : HK σ K v = K v σ := rfl
theorem tab_zip {rs : List Rw} {t : List (List Int)} (h : TabG e2 e1 σ id ver rs t) : ∃ Z : List (Rw × List Int), rs = Z.map Prod.fst ∧ t = Z.map Prod.snd :=
  ⟨rs.zip t, (List.map_fst_zip (by rw [h.len]; exact Nat.le_refl _)).symm, (List.map_snd_zip (by rw [h.len]; exact Nat.le_refl _)).symm⟩
theorem p47 {v : PV} {t : List (List Int)} (hT : TabN e2 e1 σ v t) (hf : Free σ) (hl : t.length ≤ 4294967296) (fid : FuncId) (caps : List PV) (hc : ∀ c ∈ caps, PV.upto 0 c) (p : List Int → Bool) (hp : ∀ x ∈ t, Pure Tryz.prog fid (.list (ints x) :: caps) (.bool (p x))) :
    ACall Tryz.prog 47 [v, .fn (.func fid) [] caps] σ (fun v s => TabN e2 e1 s v (t.filter fun x => !p x) ∧ Free s) := by
  cases hT with
  | nil =>
    refine e47 (by simp) fun _ _ => ?_
    simp only [k47, argEnv, take6, List.drop_zero, Int.cast_ofNat_Int, go_sem, ↓reduceIte, Nat.reduceEqDiff, Nat.reduceAdd, Nat.reduceMul, Nat.reduceLeDiff, Nat.reduceLT, Int.reduceLE, Int.reduceLT, reduceCtorEq]
    refine (p53 [] hl fid caps hc p hp).use (.int _ _) (.cons .nils (.cons (Imm.fnc _ (up_self hc)) (.nil _))) ?_
    try simp only [OpK_eq, take6, List.drop_zero, Int.cast_ofNat_Int, go_sem, ↓reduceIte, Nat.reduceEqDiff, Nat.reduceAdd, Nat.reduceMul, Nat.reduceLeDiff, Nat.reduceLT, Int.reduceLE, Int.reduceLT, reduceCtorEq]
    refine ⟨fun _ => Kv.Fin.now ⟨.nil, hf⟩, fun h => absurd rfl h⟩
  | tab id ver rs _ hG =>
  obtain ⟨junk, ho⟩ := hG.out
  obtain ⟨Z, rfl, rfl⟩ := tab_zip hG
  rw [pvs_unzip] at ho
  have hlt := hG.lt.1
  refine e47 (by simp) fun _ _ => ?_
  simp only [k47, argEnv, take6, List.drop_zero, Int.cast_ofNat_Int, go_sem, ↓reduceIte, Nat.reduceEqDiff, Nat.reduceAdd, Nat.reduceMul, Nat.reduceLeDiff, Nat.reduceLT, Int.reduceLE, Int.reduceLT, reduceCtorEq]
  refine (p53 _ hl fid caps hc p hp).use (.int _ _) (.cons (hG.imm rfl) (.cons (Imm.fnc _ (up_self hc)) (.nil _))) ?_
  try simp only [OpK_eq, take6, List.drop_zero, Int.cast_ofNat_Int, go_sem, ↓reduceIte, Nat.reduceEqDiff, Nat.reduceAdd, Nat.reduceMul, Nat.reduceLeDiff, Nat.reduceLT, Int.reduceLE, Int.reduceLT, reduceCtorEq]
  have hll : (Z.map Prod.snd).length = Z.length := List.length_map ..
  have hself : ∀ o, (σ.set id o)[id]? = some o := fun o => List.getElem?_set_self hlt
  have hset : ∀ o o', (σ.set id o).set id o' = σ.set id o' := fun o o' => List.set_set ..
  have h00 : σ.set id (.arr ver e2 1 (Z.map cv ++ junk)) = σ := List.ext_getElem? fun i => by
    by_cases h : id = i
    · subst h; rw [hself, ho]
    · rw [List.getElem?_set_ne h]
  have hfm : (Z.map Prod.snd).filter (fun x => !p x) = (Z.filter fun c => !p c.2).map Prod.snd := List.filter_map
  have ham : (Z.map Prod.snd).any p = Z.any fun c => p c.2 := List.any_map
  cases hany : Z.any (fun c => p c.2) with
  | false =>
    rw [idx_none (by rw [ham]; exact hany), hfm, filter_none hany]
    refine ⟨fun _ => Kv.Fin.now ⟨.tab _ _ _ _ hG, hf⟩, fun h => absurd rfl h⟩
  | true =>
    obtain ⟨i0, hi0, hno, hyes⟩ := any_split hany
    have hidx : idx p (Z.map Prod.snd) = i0 := idx_some (by rw [hll]; exact hi0) (by rw [← List.map_take, List.any_map]; exact hno) (by simpa using hyes)
    have hff := filter_take_succ (p := fun c : Rw × List Int => !p c.2) hi0
    rw [hyes, if_neg (by simp), filter_none hno, List.append_nil] at hff
    rw [hidx, hll]
    refine ⟨fun h => by omega, fun h => ⟨by omega, ?_⟩⟩
    refine KL_ind k47_b0.eq_1 (fun x : Nat × List (Rw × List Int) => [(0, .ref id ver 0 Z.length), (1, .fn (.func fid) [] caps), (5, .int .i64 ((Z.take x.1).filter fun c => !p c.2).length), (6, .int .i64 x.1)])
      (fun x => σ.set id (.arr ver e2 1 ((((Z.take x.1).filter fun c => !p c.2) ++ x.2 ++ Z.drop x.1).map cv ++ junk)))
      (fun x => x.1 ≤ Z.length ∧ ((Z.take x.1).filter fun c => !p c.2).length + x.2.length = x.1 ∧ 1 ≤ x.2.length) (fun x => Z.length - x.1) [0, 1, 5, 6] (i0 + 1, [Z[i0]]) ?_ ?_ ?_ fun ⟨x, J⟩ ⟨hx, hJ, hJ1⟩ ih => ?_
    · rw [hff]
      simp [keep]; omega
    · rw [hff]
      have e : Z.take i0 ++ [Z[i0]] ++ Z.drop (i0 + 1) = Z := by rw [← List.take_succ_eq_append_getElem hi0, List.take_append_drop]
      rw [e, h00]
    · refine ⟨by show i0 + 1 ≤ Z.length; omega, ?_, by simp⟩
      rw [hff]; simp; omega
    · simp only at hx hJ hJ1
      have hfx := fun h => filter_take_succ (p := fun c : Rw × List Int => !p c.2) (l := Z) (x := x) h
      generalize hF : (Z.take x).filter (fun c => !p c.2) = F at *
      have hdl : (Z.drop x).length = Z.length - x := by simp
      have hJe : J = J.headD (⟨true, 0, 0, [], []⟩, []) :: J.tail := by
        cases J with
        | nil => simp at hJ1
        | cons a J => rfl
      try simp only [OpK_eq, hself, hset, List.length_map, hdl, take6, List.drop_zero, Int.cast_ofNat_Int, go_sem, ↓reduceIte, Nat.reduceEqDiff, Nat.reduceAdd, Nat.reduceMul, Nat.reduceLeDiff, Nat.reduceLT, Int.reduceLE, Int.reduceLT, reduceCtorEq]
      refine ⟨fun h1 => ?_, fun h1 => ?_⟩
      · have hxl : x < Z.length := by omega
        have hg : ((F ++ J ++ Z.drop x).map cv ++ junk)[x]? = some (cv Z[x]) := by
          rw [List.getElem?_append_left (by simp; omega), List.getElem?_map, List.getElem?_append_right (by simp; omega)]
          have : x - (F ++ J).length = 0 := by simp; omega
          rw [this, List.getElem?_drop, Nat.add_zero, List.getElem?_eq_getElem hxl]; rfl
        refine ⟨⟨h1, by omega⟩, by omega, fun q hq => ?_⟩
        rw [hg] at hq; cases hq
        rw [cv_cs]
        refine ⟨by simp, fun q hq => ?_⟩
        simp only [List.getElem?_cons_zero, Option.some.injEq] at hq; subst hq
        have hmem : Z[x].2 ∈ Z.map Prod.snd := List.mem_map.2 ⟨_, List.getElem_mem hxl, rfl⟩
        have hrow := hG.row x Z[x].1 Z[x].2 (by simp [hxl]) (by simp [hxl])
        have hne : Z[x].1.nil = false → Z[x].1.id ≠ id := fun hn => hG.ni _ (List.mem_map.2 ⟨_, List.getElem_mem hxl, rfl⟩) hn
        have himm := fun o => (hrow.keep (σ' := σ.set id o) fun hn => List.getElem?_set_ne (Ne.symm (hne hn))).imm
        try simp only [HKr, OpK_eq, take6, List.drop_zero, Int.cast_ofNat_Int, go_sem, ↓reduceIte, Nat.reduceEqDiff, Nat.reduceAdd, Nat.reduceMul, Nat.reduceLeDiff, Nat.reduceLT, Int.reduceLE, Int.reduceLT, reduceCtorEq]
        refine (hp _ hmem).use (.bool _) (.cons (himm _) (up_self hc)) ?_
        have hcs := cv_cs Z[x]
        have hok := cv_ok Z[x]
        have hpu := fun c y => cv_put c 0 y
        try simp only [HKr, OpK_eq, hself, hset, List.length_map, hdl, take6, List.drop_zero, Int.cast_ofNat_Int, go_sem, ↓reduceIte, Nat.reduceEqDiff, Nat.reduceAdd, Nat.reduceMul, Nat.reduceLeDiff, Nat.reduceLT, Int.reduceLE, Int.reduceLT, reduceCtorEq]
        have hJ0 : ((F ++ J ++ Z.drop x).map cv ++ junk)[F.length]? = some (cv (J.headD (⟨true, 0, 0, [], []⟩, []))) := by
          rw [List.getElem?_append_left (by simp; omega), List.getElem?_map, List.append_assoc, List.getElem?_append_right (Nat.le_refl _), Nat.sub_self, hJe]; rfl
        have hst : ((F ++ J ++ Z.drop x).map cv ++ junk).set F.length (cv Z[x]) = ((F ++ [Z[x]]) ++ J.tail ++ Z.drop x).map cv ++ junk := by
          rw [List.set_append_left _ _ (by simp; omega), ← List.map_set]
          congr 2
          rw [List.append_assoc, List.set_append_right _ _ (Nat.le_refl _), Nat.sub_self, hJe]
          simp
        refine ⟨fun h3 => ⟨⟨by omega, by omega⟩, ⟨by rw [hcs]; rfl, by rw [hcs]; exact hok, by omega⟩, fun q hq => ?_⟩, fun h3 => ⟨by omega, ?_⟩⟩
        · rw [hJ0] at hq; cases hq
          rw [cv_cs, cv_put, hst]
          have hf1 := hfx hxl
          rw [if_pos (by simp [h3])] at hf1
          refine ⟨by simp, by omega, by omega, ih (x + 1, J.tail ++ [Z[x]]) ⟨by show x + 1 ≤ Z.length; omega, ?_, by simp⟩ (by show Z.length - (x + 1) < Z.length - x; omega) _ _ ?_ ?_⟩
          · show ((Z.take (x + 1)).filter fun c => !p c.2).length + (J.tail ++ [Z[x]]).length = x + 1
            rw [hf1]
            simp only [List.length_append, List.length_tail, List.length_cons, List.length_nil]; omega
          · simp [keep, hf1]
          · rw [hf1, List.drop_eq_getElem_cons hxl]; simp
        · have hf1 := hfx hxl
          rw [if_neg (by simp [h3]), List.append_nil] at hf1
          refine ih (x + 1, J ++ [Z[x]]) ⟨by show x + 1 ≤ Z.length; omega, ?_, by simp⟩ (by show Z.length - (x + 1) < Z.length - x; omega) _ _ ?_ ?_
          · show ((Z.take (x + 1)).filter fun c => !p c.2).length + (J ++ [Z[x]]).length = x + 1
            rw [hf1]
            simp only [List.length_append, List.length_cons, List.length_nil]; omega
          · simp [keep, hf1]
          · rw [hf1, List.drop_eq_getElem_cons hxl]; simp
      · obtain rfl : x = Z.length := by omega
        rw [List.take_length] at hF
        have hle : F.length ≤ Z.length := by omega
        have e1 : ((F ++ J ++ Z.drop Z.length).map cv ++ junk).take F.length = F.map cv := by
          rw [List.drop_length, List.append_nil, List.map_append, List.append_assoc, List.take_left' (by simp)]
        have e2 : ((F ++ J ++ Z.drop Z.length).map cv ++ junk).drop (F.length + (Z.length - F.length)) = junk := by
          rw [List.drop_left' (by simp; omega)]
        rw [e1, e2, hfm, hF, Nat.sub_zero]
        refine ⟨by omega, by omega, by omega, Kv.Fin.now ⟨?_, ?_⟩⟩
        · have hs : F.Sublist Z := by rw [← hF]; exact List.filter_sublist
          have := tab_sub hG hs (List.replicate (Z.length - F.length) PV.nils ++ junk)
          rw [← List.append_assoc] at this
          have h2 := TabN.tab _ _ _ _ this
          rwa [List.length_map] at h2
        · intro o hm
          rcases List.mem_or_eq_of_mem_set hm with hm | rfl
          · exact hf o hm
          · intro c hc
            have hjf := hf _ (List.mem_of_getElem? ho)
            have hjf : ∀ c ∈ flat (Z.map cv ++ junk), c.free := hjf
            simp only [flat, List.flatMap_append, List.mem_append] at hc hjf
            rcases hc with (hc | hc) | hc
            · obtain ⟨y, hy, hcy⟩ := List.mem_flatMap.1 hc
              obtain ⟨z, _, rfl⟩ := List.mem_map.1 hy
              rw [cv_cs] at hcy
              simp only [List.mem_singleton] at hcy; subst hcy
              exact cv_free z
            · obtain ⟨y, hy, hcy⟩ := List.mem_flatMap.1 hc
              obtain ⟨_, rfl⟩ := List.mem_replicate.1 hy
              simp only [PV.cs, List.mem_singleton] at hcy; subst hcy
              exact Plain.nils.fr
            · exact hjf c (.inr hc)
end Go.Proofs.YtodmbkceindakaaGreat
