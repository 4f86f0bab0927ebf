/- LeastImages: the implementation. -/
import Derived.Test.YtpepbomifjbgnaaCb
import Derived.Test.YtpepbomifjbgnaaIM
import Derived.Test.YtpepbomifjbgnaaDR
namespace Go.Proofs.Ytpepbomifjbgnaa
open Go.Kv
set_option maxRecDepth 100000
/- impl.LeastImages -/
def k40 : KC := (.seq (.ops [⟨(some 2), none, .mv (.c (.nils))⟩, ⟨(some 3), none, .mv (.c (.int .i64 0))⟩])
  (.seq (.seq (.ops [⟨(some 7), none, .mv (.t 0)⟩, ⟨(some 8), none, .call (.c (.fn (.func 54) [] [])) [(.t 7), (.c (.nils))]⟩, ⟨(some 4), none, .mv (.t 8)⟩])
  (.seq (.ops [⟨(some 9), none, .mv (.t 4)⟩, ⟨(some 10), none, .bin .neq (.t 9) (.c (.int .i64 0))⟩])
  (.cond (.t 10) (.seq (.ops [⟨(some 11), none, .mv (.t 4)⟩, ⟨(some 2), none, .mv (.c (.nils))⟩, ⟨(some 3), none, .mv (.t 11)⟩])
  .ret) .skip)))
  (.seq (.ops [⟨(some 12), none, .mv (.t 0)⟩, ⟨(some 13), none, .mv (.t 0)⟩, ⟨(some 14), none, .idxS 6 (.t 13) (.c (.int .i64 0))⟩, ⟨(some 15), none, .fieldA 0 (.t 14)⟩, ⟨(some 16), none, .load false 1 (.t 15)⟩, ⟨(some 17), none, .call (.c (.fn (.func 50) [] [])) [(.t 16)]⟩, ⟨(some 18), none, .call (.c (.fn (.func 84) [] [])) [(.t 12), (.t 17)]⟩, ⟨(some 5), none, .mv (.t 18)⟩])
  (.seq (.ops [⟨(some 19), none, .mv (.t 5)⟩, ⟨(some 20), none, .idxS 1 (.t 19) (.c (.int .i64 0))⟩, ⟨(some 21), none, .load false 1 (.t 20)⟩, ⟨(some 22), none, .len false (.t 21)⟩, ⟨(some 6), none, .alloc [.int .i64 0]⟩, ⟨none, none, .store 1 (.t 6) (.t 22)⟩])
  (.seq (.ops [⟨(some 23), none, .mv (.t 5)⟩, ⟨(some 24), none, .mkfn (.func 86) [] [(.t 6)]⟩, ⟨(some 25), none, .call (.c (.fn (.func 85) [] [])) [(.t 23), (.t 24)]⟩, ⟨(some 2), none, .mv (.t 25)⟩, ⟨(some 3), none, .mv (.c (.int .i64 0))⟩])
  .ret)))))
theorem e40 {args : List PV} {σ : Heap} {K : PV → Heap → Prop} (hl : args.length ≤ 26) (h : Wf σ → (∀ a ∈ args, PV.upto σ.length a) → vc (mkCfg Try.prog mixed [] 26 σ.length) k40 (FinK σ.length [.t 2, .t 3] K) (argEnv 0 args) σ) : ACall Try.prog 40 args σ K :=
  ACall_enter (C := mkCfg Try.prog mixed [] 26 σ.length) (c := Try.f40.body.getD .skip) Try.func40 (by kernel_rfl) (by kernel_rfl) (by kernel_rfl) rfl hl (by kernel_rfl) (by kernel_rfl) h
/- impl.LeastImages$1 -/
def k86 : KC := (.seq (.ops [⟨(some 3), none, .mv (.c (.bool false))⟩])
  (.seq (.ops [⟨(some 4), none, .mv (.t 0)⟩, ⟨(some 5), none, .len false (.t 4)⟩, ⟨(some 6), none, .load false 1 (.t 1)⟩, ⟨(some 7), none, .bin .gtr (.t 5) (.t 6)⟩, ⟨(some 3), none, .mv (.t 7)⟩])
  .ret))
theorem e86 {args : List PV} {σ : Heap} {K : PV → Heap → Prop} (hl : args.length ≤ 8) (h : Wf σ → (∀ a ∈ args, PV.upto σ.length a) → vc (mkCfg Try.prog mixed [] 8 σ.length) k86 (FinK σ.length [.t 3] K) (argEnv 0 args) σ) : ACall Try.prog 86 args σ K :=
  ACall_enter (C := mkCfg Try.prog mixed [] 8 σ.length) (c := Try.f86.body.getD .skip) Try.func86 (by kernel_rfl) (by kernel_rfl) (by kernel_rfl) rfl hl (by kernel_rfl) (by kernel_rfl) h
end Go.Proofs.Ytpepbomifjbgnaa
namespace Go.Proofs.Ytpepbomifjbgnaa
open Go.Kv
set_option linter.unusedVariables false
set_option linter.unusedSimpArgs false
attribute [local irreducible] ACall PCall KL
section
variable {e2 e1 : TypeId} {σ : Heap} {id ver : Nat}
/-- Deletion in an own table, by a function that looks at boxes of one's own. -/
theorem delT {v : PV} {t : List (List Int)} (hT : TabN e2 e1 σ v t) (hf : Free σ) (hl : t.length ≤ 4294967296) (fid : FuncId) (caps caps' : List PV) (hc : ∀ c ∈ caps', PV.upto 0 c) (himc : ∀ σ' : Heap, (∀ (j : Nat) cs, σ[j]? = some (.box cs) → σ'[j]? = some (.box cs)) → ImmL σ' caps caps') (p : List Int → Bool) (hp : ∀ x ∈ t, Pure Try.prog fid (.list (ints x) :: caps') (.bool (p x))) :
    ACall Try.prog 85 [v, .fn (.func fid) [] caps] σ (fun v s => TabN e2 e1 s v (t.filter fun x => !p x) ∧ Free s) := by
  cases hT with
  | nil =>
    refine e85 (by simp) fun _ _ => ?_
    simp only [k85, argEnv, take6, List.drop_zero, Int.cast_ofNat_Int, go_sem, ↓reduceIte, Nat.reduceEqDiff, Nat.reduceAdd, Nat.reduceMul, Nat.reduceLeDiff, Nat.reduceLT, Int.reduceLE, Int.reduceLT, reduceCtorEq]
    refine (p109 [] hl fid caps' hc p hp).use (.int _ _) (.cons .nils (.cons (Imm.fnc _ (himc _ fun _ _ h => h)) (.nil _))) ?_
    try simp only [OpK_eq, take6, List.drop_zero, Int.cast_ofNat_Int, go_sem, ↓reduceIte, Nat.reduceEqDiff, Nat.reduceAdd, Nat.reduceMul, Nat.reduceLeDiff, Nat.reduceLT, Int.reduceLE, Int.reduceLT, reduceCtorEq]
    refine ⟨fun _ => Kv.Fin.now ⟨.nil, hf⟩, fun h => absurd rfl h⟩
  | tab id ver rs _ hG =>
  obtain ⟨junk, ho⟩ := hG.out
  obtain ⟨Z, rfl, rfl⟩ := tab_zip hG
  rw [pvs_unzip] at ho
  have hlt := hG.lt.1
  refine e85 (by simp) fun _ _ => ?_
  simp only [k85, argEnv, take6, List.drop_zero, Int.cast_ofNat_Int, go_sem, ↓reduceIte, Nat.reduceEqDiff, Nat.reduceAdd, Nat.reduceMul, Nat.reduceLeDiff, Nat.reduceLT, Int.reduceLE, Int.reduceLT, reduceCtorEq]
  refine (p109 _ hl fid caps' hc p hp).use (.int _ _) (.cons (hG.imm rfl) (.cons (Imm.fnc _ (himc _ fun _ _ h => h)) (.nil _))) ?_
  try simp only [OpK_eq, take6, List.drop_zero, Int.cast_ofNat_Int, go_sem, ↓reduceIte, Nat.reduceEqDiff, Nat.reduceAdd, Nat.reduceMul, Nat.reduceLeDiff, Nat.reduceLT, Int.reduceLE, Int.reduceLT, reduceCtorEq]
  have hll : (Z.map Prod.snd).length = Z.length := List.length_map ..
  have hself : ∀ o, (σ.set id o)[id]? = some o := fun o => List.getElem?_set_self hlt
  have hset : ∀ o o', (σ.set id o).set id o' = σ.set id o' := fun o o' => List.set_set ..
  have hbox : ∀ (o : AObj) (j : Nat) cs, σ[j]? = some (.box cs) → (σ.set id o)[j]? = some (.box cs) := fun o j cs hj => by rw [List.getElem?_set_ne (fun e => by subst e; rw [ho] at hj; cases hj)]; exact hj
  have h00 : σ.set id (.arr ver e2 1 (Z.map cv ++ junk)) = σ := List.ext_getElem? fun i => by
    by_cases h : id = i
    · subst h; rw [hself, ho]
    · rw [List.getElem?_set_ne h]
  have hfm : (Z.map Prod.snd).filter (fun x => !p x) = (Z.filter fun c => !p c.2).map Prod.snd := List.filter_map
  have ham : (Z.map Prod.snd).any p = Z.any fun c => p c.2 := List.any_map
  cases hany : Z.any (fun c => p c.2) with
  | false =>
    rw [idx_none (by rw [ham]; exact hany), hfm, filter_none hany]
    refine ⟨fun _ => Kv.Fin.now ⟨.tab _ _ _ _ hG, hf⟩, fun h => absurd rfl h⟩
  | true =>
    obtain ⟨i0, hi0, hno, hyes⟩ := any_split hany
    have hidx : idx p (Z.map Prod.snd) = i0 := idx_some (by rw [hll]; exact hi0) (by rw [← List.map_take, List.any_map]; exact hno) (by simpa using hyes)
    have hff := filter_take_succ (p := fun c : Rw × List Int => !p c.2) hi0
    rw [hyes, if_neg (by simp), filter_none hno, List.append_nil] at hff
    rw [hidx, hll]
    refine ⟨fun h => by omega, fun h => ⟨by omega, ?_⟩⟩
    refine KL_ind k85_b0.eq_1 (fun x : Nat × List (Rw × List Int) => [(0, .ref id ver 0 Z.length), (1, .fn (.func fid) [] caps), (5, .int .i64 ((Z.take x.1).filter fun c => !p c.2).length), (6, .int .i64 x.1)])
      (fun x => σ.set id (.arr ver e2 1 ((((Z.take x.1).filter fun c => !p c.2) ++ x.2 ++ Z.drop x.1).map cv ++ junk)))
      (fun x => x.1 ≤ Z.length ∧ ((Z.take x.1).filter fun c => !p c.2).length + x.2.length = x.1 ∧ 1 ≤ x.2.length) (fun x => Z.length - x.1) [0, 1, 5, 6] (i0 + 1, [Z[i0]]) ?_ ?_ ?_ fun ⟨x, J⟩ ⟨hx, hJ, hJ1⟩ ih => ?_
    · rw [hff]
      simp [keep]; omega
    · rw [hff]
      have e : Z.take i0 ++ [Z[i0]] ++ Z.drop (i0 + 1) = Z := by rw [← List.take_succ_eq_append_getElem hi0, List.take_append_drop]
      rw [e, h00]
    · refine ⟨by show i0 + 1 ≤ Z.length; omega, ?_, by simp⟩
      rw [hff]; simp; omega
    · simp only at hx hJ hJ1
      have hfx := fun h => filter_take_succ (p := fun c : Rw × List Int => !p c.2) (l := Z) (x := x) h
      generalize hF : (Z.take x).filter (fun c => !p c.2) = F at *
      have hdl : (Z.drop x).length = Z.length - x := by simp
      have hJe : J = J.headD (⟨true, 0, 0, [], []⟩, []) :: J.tail := by
        cases J with
        | nil => simp at hJ1
        | cons a J => rfl
      try simp only [OpK_eq, hself, hset, List.length_map, hdl, take6, List.drop_zero, Int.cast_ofNat_Int, go_sem, ↓reduceIte, Nat.reduceEqDiff, Nat.reduceAdd, Nat.reduceMul, Nat.reduceLeDiff, Nat.reduceLT, Int.reduceLE, Int.reduceLT, reduceCtorEq]
      refine ⟨fun h1 => ?_, fun h1 => ?_⟩
      · have hxl : x < Z.length := by omega
        have hg : ((F ++ J ++ Z.drop x).map cv ++ junk)[x]? = some (cv Z[x]) := by
          rw [List.getElem?_append_left (by simp; omega), List.getElem?_map, List.getElem?_append_right (by simp; omega)]
          have : x - (F ++ J).length = 0 := by simp; omega
          rw [this, List.getElem?_drop, Nat.add_zero, List.getElem?_eq_getElem hxl]; rfl
        refine ⟨⟨h1, by omega⟩, by omega, fun q hq => ?_⟩
        rw [hg] at hq; cases hq
        rw [cv_cs]
        refine ⟨by simp, fun q hq => ?_⟩
        simp only [List.getElem?_cons_zero, Option.some.injEq] at hq; subst hq
        have hmem : Z[x].2 ∈ Z.map Prod.snd := List.mem_map.2 ⟨_, List.getElem_mem hxl, rfl⟩
        have hrow := hG.row x Z[x].1 Z[x].2 (by simp [hxl]) (by simp [hxl])
        have hne : Z[x].1.nil = false → Z[x].1.id ≠ id := fun hn => hG.ni _ (List.mem_map.2 ⟨_, List.getElem_mem hxl, rfl⟩) hn
        have himm := fun o => (hrow.keep (σ' := σ.set id o) fun hn => List.getElem?_set_ne (Ne.symm (hne hn))).imm
        try simp only [HKr, OpK_eq, take6, List.drop_zero, Int.cast_ofNat_Int, go_sem, ↓reduceIte, Nat.reduceEqDiff, Nat.reduceAdd, Nat.reduceMul, Nat.reduceLeDiff, Nat.reduceLT, Int.reduceLE, Int.reduceLT, reduceCtorEq]
        refine (hp _ hmem).use (.bool _) (.cons (himm _) (himc _ (hbox _))) ?_
        have hcs := cv_cs Z[x]
        have hok := cv_ok Z[x]
        have hpu := fun c y => cv_put c 0 y
        try simp only [HKr, OpK_eq, hself, hset, List.length_map, hdl, take6, List.drop_zero, Int.cast_ofNat_Int, go_sem, ↓reduceIte, Nat.reduceEqDiff, Nat.reduceAdd, Nat.reduceMul, Nat.reduceLeDiff, Nat.reduceLT, Int.reduceLE, Int.reduceLT, reduceCtorEq]
        have hJ0 : ((F ++ J ++ Z.drop x).map cv ++ junk)[F.length]? = some (cv (J.headD (⟨true, 0, 0, [], []⟩, []))) := by
          rw [List.getElem?_append_left (by simp; omega), List.getElem?_map, List.append_assoc, List.getElem?_append_right (Nat.le_refl _), Nat.sub_self, hJe]; rfl
        have hst : ((F ++ J ++ Z.drop x).map cv ++ junk).set F.length (cv Z[x]) = ((F ++ [Z[x]]) ++ J.tail ++ Z.drop x).map cv ++ junk := by
          rw [List.set_append_left _ _ (by simp; omega), ← List.map_set]
          congr 2
          rw [List.append_assoc, List.set_append_right _ _ (Nat.le_refl _), Nat.sub_self, hJe]
          simp
        refine ⟨fun h3 => ⟨⟨by omega, by omega⟩, ⟨by rw [hcs]; rfl, by rw [hcs]; exact hok, by omega⟩, fun q hq => ?_⟩, fun h3 => ⟨by omega, ?_⟩⟩
        · rw [hJ0] at hq; cases hq
          rw [cv_cs, cv_put, hst]
          have hf1 := hfx hxl
          rw [if_pos (by simp [h3])] at hf1
          refine ⟨by simp, by omega, by omega, ih (x + 1, J.tail ++ [Z[x]]) ⟨by show x + 1 ≤ Z.length; omega, ?_, by simp⟩ (by show Z.length - (x + 1) < Z.length - x; omega) _ _ ?_ ?_⟩
          · show ((Z.take (x + 1)).filter fun c => !p c.2).length + (J.tail ++ [Z[x]]).length = x + 1
            rw [hf1]
            simp only [List.length_append, List.length_tail, List.length_cons, List.length_nil]; omega
          · simp [keep, hf1]
          · rw [hf1, List.drop_eq_getElem_cons hxl]; simp
        · have hf1 := hfx hxl
          rw [if_neg (by simp [h3]), List.append_nil] at hf1
          refine ih (x + 1, J ++ [Z[x]]) ⟨by show x + 1 ≤ Z.length; omega, ?_, by simp⟩ (by show Z.length - (x + 1) < Z.length - x; omega) _ _ ?_ ?_
          · show ((Z.take (x + 1)).filter fun c => !p c.2).length + (J ++ [Z[x]]).length = x + 1
            rw [hf1]
            simp only [List.length_append, List.length_cons, List.length_nil]; omega
          · simp [keep, hf1]
          · rw [hf1, List.drop_eq_getElem_cons hxl]; simp
      · obtain rfl : x = Z.length := by omega
        rw [List.take_length] at hF
        have hle : F.length ≤ Z.length := by omega
        have e1 : ((F ++ J ++ Z.drop Z.length).map cv ++ junk).take F.length = F.map cv := by
          rw [List.drop_length, List.append_nil, List.map_append, List.append_assoc, List.take_left' (by simp)]
        have e2 : ((F ++ J ++ Z.drop Z.length).map cv ++ junk).drop (F.length + (Z.length - F.length)) = junk := by
          rw [List.drop_left' (by simp; omega)]
        rw [e1, e2, hfm, hF, Nat.sub_zero]
        refine ⟨by omega, by omega, by omega, Kv.Fin.now ⟨?_, ?_⟩⟩
        · have hs : F.Sublist Z := by rw [← hF]; exact List.filter_sublist
          have := tab_sub hG hs (List.replicate (Z.length - F.length) PV.nils ++ junk)
          rw [← List.append_assoc] at this
          have h2 := TabN.tab _ _ _ _ this
          rwa [List.length_map] at h2
        · intro o hm
          rcases List.mem_or_eq_of_mem_set hm with hm | rfl
          · exact hf o hm
          · intro c hc
            have hjf := hf _ (List.mem_of_getElem? ho)
            have hjf : ∀ c ∈ flat (Z.map cv ++ junk), c.free := hjf
            simp only [flat, List.flatMap_append, List.mem_append] at hc hjf
            rcases hc with (hc | hc) | hc
            · obtain ⟨y, hy, hcy⟩ := List.mem_flatMap.1 hc
              obtain ⟨z, _, rfl⟩ := List.mem_map.1 hy
              rw [cv_cs] at hcy
              simp only [List.mem_singleton] at hcy; subst hcy
              exact cv_free z
            · obtain ⟨y, hy, hcy⟩ := List.mem_flatMap.1 hc
              obtain ⟨_, rfl⟩ := List.mem_replicate.1 hy
              simp only [PV.cs, List.mem_singleton] at hcy; subst hcy
              exact Plain.nils.fr
            · exact hjf c (.inr hc)
end
theorem p1311 (fs : List (List Nat)) (n : Nat) (hn5 : n ≤ 5) (hf : ∀ f ∈ fs, Ok f n) (hfl : fs.length ≤ 1000) (o : AObj) (ho : o.free) (p : List Int) (hp : asc n p) (ver : Nat) (post : List Int) (K : PV → Heap → Prop)
    (hK : ∀ i, i = (bl fs img p i).length → ∀ v s, TabN 23 2 s v (rst fs p i) → Free s → K v s) :
    ACall Try.prog 131 [.list (aggs (fs.map mp)), .ref 1 ver 0 p.length] [o, .arr ver 2 1 (ints (p ++ post))] K := by
  refine e131 (by simp) fun _ _ => ?_
  simp only [k131, argEnv, take6, List.drop_zero, Int.cast_ofNat_Int, go_sem, ↓reduceIte, Nat.reduceEqDiff, Nat.reduceAdd, Nat.reduceMul, Nat.reduceLeDiff, Nat.reduceLT, Int.reduceLE, Int.reduceLT, reduceCtorEq]
  try simp only [OpK_eq, take6, List.drop_zero, Int.cast_ofNat_Int, go_sem, ↓reduceIte, Nat.reduceEqDiff, Nat.reduceAdd, Nat.reduceMul, Nat.reduceLeDiff, Nat.reduceLT, Int.reduceLE, Int.reduceLT, reduceCtorEq]
  refine search_own fs n hn5 hf hfl 2 p hp _ 32 (by omega) (fun i => by rw [bl_wq]; exact wq_len hn5 hf hp i) _ ⟨rfl, rfl⟩ ⟨1, ver, post, rfl, rfl, ?_⟩ ?_ _ fun i hi x us σ hI hlu hO hnd hF => ?_
  · rintro (h | h) <;> cases h
  · intro o' ho'
    simp only [List.mem_cons, List.not_mem_nil, or_false] at ho'
    rcases ho' with rfl | rfl | rfl
    · assumption
    · exact free_ints _
    · exact free_box1 Plain.nils.fr
  · have hK' := hK i hi
    clear hK
    have hlr : us.length = (rst fs p i).length := by rw [hlu, rst, List.length_map]
    obtain ⟨rs, r1, r2, r3, r4⟩ := rows_pick (σ := σ) (A := SU 2 x) (us := us) (t := rst fs p i) hlr fun j u q hu hq => by
      rw [rst, List.getElem?_map, Option.map_eq_some_iff] at hq
      obtain ⟨m, hm, rfl⟩ := hq
      exact hO j u m hu hm
    cases x with
    | none =>
      obtain ⟨h1, h2⟩ := hI
      subst h2
      try simp only [OpK_eq, HKv, h1, take6, List.drop_zero, Int.cast_ofNat_Int, go_sem, ↓reduceIte, Nat.reduceEqDiff, Nat.reduceAdd, Nat.reduceMul, Nat.reduceLeDiff, Nat.reduceLT, Int.reduceLE, Int.reduceLT, reduceCtorEq]
      have e : rst fs p i = [] := List.eq_nil_of_length_eq_zero (by rw [← hlr]; rfl)
      exact Kv.Fin.now (hK' _ _ (by rw [e]; exact .nil) hF)
    | some id =>
      obtain ⟨vr, h1, h2, h3⟩ := hI
      try simp only [OpK_eq, HKv, h1, take6, List.drop_zero, Int.cast_ofNat_Int, go_sem, ↓reduceIte, Nat.reduceEqDiff, Nat.reduceAdd, Nat.reduceMul, Nat.reduceLeDiff, Nat.reduceLT, Int.reduceLE, Int.reduceLT, reduceCtorEq]
      refine Kv.Fin.now (hK' _ _ ?_ hF)
      rw [hlr]
      refine .tab id vr rs _ ⟨⟨[], by rw [r2, List.append_nil]; exact h2⟩, r1, fun j r l hr hl => (r3 j r l hr hl).1, fun a b r q hr hq _ _ he => ?_, fun r hr hn e => ?_⟩
      · have hnd2 := hnd
        rw [← r4] at hnd2
        have hpw := List.pairwise_iff_getElem.1 (List.nodup_iff_pairwise_ne.1 hnd2)
        obtain ⟨ha1, ha2⟩ := List.getElem?_eq_some_iff.1 hr
        obtain ⟨hb1, hb2⟩ := List.getElem?_eq_some_iff.1 hq
        have hne : ∀ (a b : Nat) (ha : a < rs.length) (hb : b < rs.length), a < b → rs[a].id ≠ rs[b].id := fun a b ha hb hab => by
          have := hpw a b (by simpa using ha) (by simpa using hb) hab
          simpa using this
        rcases Nat.lt_trichotomy a b with h | h | h
        · exact absurd (by rw [ha2, hb2]; exact he) (hne a b ha1 hb1 h)
        · exact h
        · exact absurd (by rw [ha2, hb2]; exact he.symm) (hne b a hb1 ha1 h)
      · obtain ⟨j, hj⟩ := List.getElem?_of_mem hr
        have hjt : j < (rst fs p i).length := by rw [← r1]; exact (List.getElem?_eq_some_iff.1 hj).1
        exact (r3 j r _ hj (List.getElem?_eq_getElem hjt)).2.2 (.inr (by rw [e]))
theorem p841 (fs : List (List Nat)) (n : Nat) (h5 : n ≤ 5) (hf : ∀ f ∈ fs, Ok f n) (hfl : fs.length ≤ 1000) (x v0 k0 : Nat) (hk0 : k0 = (nz (pof x n)).length) (h1 : 1 ≤ x) (hx : x < 2 ^ n) :
    ACall Try.prog 84 [.list (aggs (fs.map mp)), .ref 0 v0 0 k0] [.arr v0 2 1 (ints (nz (pof x n)))] (fun v s => TabN 23 2 s v (rowsB (imS fs n x)) ∧ Free s) := by
  have hp := asc_pof h1 hx
  have hpl := asc_len hp
  have hne := pof_ne h1 hx
  refine e84 (by simp) fun _ _ => ?_
  simp only [k84, argEnv, take6, List.drop_zero, Int.cast_ofNat_Int, go_sem, ↓reduceIte, Nat.reduceEqDiff, Nat.reduceAdd, Nat.reduceMul, Nat.reduceLeDiff, Nat.reduceLT, Int.reduceLE, Int.reduceLT, reduceCtorEq]
  refine ACall.lend (p132P (nz (pof x n)) (by omega)) (.cons (Imm.refn (l := nz (pof x n)) rfl hk0) (.nil _)) fun v s hv => ?_
  rcases hv with ⟨rfl, rfl⟩ | ⟨hl0, rfl, rfl⟩
  · refine ⟨⟨free_ref _ _ _ _, Free.ints _ _ _ _⟩, ?_⟩
    try simp only [OpK_eq, HKv, ren_ref, ren_arr, ren_ints, List.nil_append, List.cons_append, take6, List.drop_zero, Int.cast_ofNat_Int, go_sem, ↓reduceIte, Nat.reduceEqDiff, Nat.reduceAdd, Nat.reduceMul, Nat.reduceLeDiff, Nat.reduceLT, Int.reduceLE, Int.reduceLT, reduceCtorEq]
    have e0 : nz (pof x n) = nz (pof x n) ++ [] := by simp
    have hR := p1311 fs n h5 hf hfl (.arr v0 2 1 (ints (nz (pof x n)))) (free_ints _) (nz (pof x n)) hp 1 []
    rw [List.append_nil] at hR
    refine hR _ fun i hi v s hT hF => ?_
    have hra := rst_asc hf hp (i := i)
    have hlen : (rst fs (nz (pof x n)) i).length ≤ 32 := by
      rw [rst, bl_wq, List.length_map]; exact wq_len h5 hf hp i
    have hpm : nz (pof x n) ∈ rst fs (nz (pof x n)) i := (rst_mem hi _).2 .here
    try simp only [OpK_eq, HKv, take6, List.drop_zero, Int.cast_ofNat_Int, go_sem, ↓reduceIte, Nat.reduceEqDiff, Nat.reduceAdd, Nat.reduceMul, Nat.reduceLeDiff, Nat.reduceLT, Int.reduceLE, Int.reduceLT, reduceCtorEq]
    refine tab_sort hT hF (List.length_pos_of_mem hpm) (by omega) (fun l hl => ?_) fun t' s' q1 q2 q3 q4 _ => ?_
    · have h := asc_len (hra.1 l hl)
      exact ⟨fun e => by rw [e] at h; simp at h, by omega⟩
    · try simp only [OpK_eq, HKv, take6, List.drop_zero, Int.cast_ofNat_Int, go_sem, ↓reduceIte, Nat.reduceEqDiff, Nat.reduceAdd, Nat.reduceMul, Nat.reduceLeDiff, Nat.reduceLT, Int.reduceLE, Int.reduceLT, reduceCtorEq]
      have e : t' = rowsB (imS fs n x) := by
        refine rowsB_uniq (imS_srt h5) (q2.nodup_iff.2 hra.2) (fun r => ?_) q3
        rw [q2.mem_iff, rst_mem hi, Rb_Rc hf h1 hx, rowsB, List.mem_map]
        constructor
        · rintro ⟨y, hy, rfl⟩
          exact ⟨y, (imS_mem h5 hf h1 hx y).2 hy, by rw [pof62 h5 (hy.bnd hf h1 hx).2]⟩
        · rintro ⟨y, hy, rfl⟩
          have hy := (imS_mem h5 hf h1 hx y).1 hy
          exact ⟨y, hy, by rw [pof62 h5 (hy.bnd hf h1 hx).2]⟩
      rw [e] at q1
      exact Kv.Fin.now ⟨q1, q4⟩
  · exact absurd hl0 (by unfold nz; simpa using hne)
theorem p86 (l : List Int) (k : Nat) : Pure Try.prog 86 [.list (ints l), .fptr [.int .i64 k] 0] (.bool (decide ((k : Int) < (l.length : Int)))) := by
  refine e86 (by simp) fun _ _ => ?_
  simp only [k86, argEnv, take6, List.drop_zero, Int.cast_ofNat_Int, go_sem, ↓reduceIte, Nat.reduceEqDiff, Nat.reduceAdd, Nat.reduceMul, Nat.reduceLeDiff, Nat.reduceLT, Int.reduceLE, Int.reduceLT, reduceCtorEq]
  try simp only [OpK_eq, HKv, take6, List.drop_zero, Int.cast_ofNat_Int, go_sem, ↓reduceIte, Nat.reduceEqDiff, Nat.reduceAdd, Nat.reduceMul, Nat.reduceLeDiff, Nat.reduceLT, Int.reduceLE, Int.reduceLT, reduceCtorEq]
  exact Kv.Fin.still ⟨rfl, rfl⟩
theorem pof_full (n : Nat) : pof (2 ^ n - 1) n = List.range n := by
  unfold pof
  refine List.filter_eq_self.2 fun i hi => ?_
  rw [Nat.testBit_two_pow_sub_one]
  simpa using hi
/-- In order: the first has the fewest points. -/
theorem srt_first {S : List Nat} (hS : Srt S) {b : Nat} (hb : b ∈ S) : (pof (S.getD 0 0) 62).length ≤ (pof b 62).length := by
  cases S with
  | nil => cases hb
  | cons a S =>
    show (pof a 62).length ≤ _
    rcases List.mem_cons.1 hb with rfl | hb
    · exact Nat.le_refl _
    · have h := (List.pairwise_cons.1 hS.1).1 b hb
      unfold bef at h
      have h := of_decide_eq_true h
      have e1 := nz_len (pof a 62)
      have e2 := nz_len (pof b 62)
      refine Classical.byContradiction fun hn => ?_
      have hcI : cI (nz (pof a 62)).length (nz (pof b 62)).length = 1 := by
        unfold cI
        (repeat' split) <;> omega
      unfold stc at h
      rw [hcI] at h
      have : orV 1 (slc (nz (pof a 62)) (nz (pof b 62))) = 1 := rfl
      omega
theorem p40_in (fs : List (List Nat)) (n : Nat) (hf : ∀ f ∈ fs, Ok f n) (h0 : 0 < fs.length) (hfl : fs.length ≤ 6) (hl : lcode (fs.map mp) [] = 0) : NewTO Try.prog 40 [.list (aggs (fs.map mp))] 23 2 ((rowsB (imS fs n (2 ^ n - 1))).filter fun r => !decide (((pof ((imS fs n (2 ^ n - 1)).getD 0 0) 62).length : Int) < (r.length : Int))) 0 := by
  have hk := hf _ (List.getElem_mem h0)
  have h6k := hk.mp_len
  have h5 := hk.le
  have h1 := hk.pos
  have h32 := pw5 h5
  have hn : (mp fs[0]).getD 0 0 = (n : Int) := by simp [mp, mpN, hk.len]
  have h2n : 2 ≤ 2 ^ n := by
    have := Nat.pow_le_pow_right (show 0 < 2 by omega) h1
    simpa using this
  have hS := imS_srt (fs := fs) (x := 2 ^ n - 1) h5
  have hSm := imS_mem (fs := fs) (x := 2 ^ n - 1) h5 hf (by omega) (by omega)
  have hSb := fun b hb => ((hSm b).1 hb).bnd hf (by omega) (by omega)
  have hSl := srt_len5 hS h5 fun b hb => (hSb b hb).2
  have hpos : 0 < (imS fs n (2 ^ n - 1)).length := List.length_pos_of_mem ((hSm _).2 .here)
  have hpf : pts n = nz (pof (2 ^ n - 1) n) := by rw [pof_full]; rfl
  have hpn : (nz (pof (2 ^ n - 1) n)).length = n := by rw [nz_len, pof_full, List.length_range]
  refine NewTN.own ?_
  unfold NewTN
  refine e40 (by simp) fun _ _ => ?_
  simp only [k40, argEnv, take6, List.drop_zero, Int.cast_ofNat_Int, go_sem, ↓reduceIte, Nat.reduceEqDiff, Nat.reduceAdd, Nat.reduceMul, Nat.reduceLeDiff, Nat.reduceLT, Int.reduceLE, Int.reduceLT, reduceCtorEq]
  refine (p54 _ (fs.map mp) [] .nil (by simp; omega) (by simp) (fun r hr => by obtain ⟨f, hf', rfl⟩ := List.mem_map.1 hr; exact (hf f hf').mp_len) (by simp)).go ?_
  rw [hl]
  try simp only [OpK_eq, HKv, map_getD h0, h6k, hn, List.length_map, take6, List.drop_zero, Int.cast_ofNat_Int, go_sem, ↓reduceIte, Nat.reduceEqDiff, Nat.reduceAdd, Nat.reduceMul, Nat.reduceLeDiff, Nat.reduceLT, Int.reduceLE, Int.reduceLT, reduceCtorEq]
  refine ⟨by omega, fun _ => ?_⟩
  refine (p50 n (by omega)).mono fun v1 s1 ⟨hv1, hs1⟩ => ?_
  subst hv1; subst hs1
  rw [hpf]
  try simp only [OpK_eq, HKv, take6, List.drop_zero, Int.cast_ofNat_Int, go_sem, ↓reduceIte, Nat.reduceEqDiff, Nat.reduceAdd, Nat.reduceMul, Nat.reduceLeDiff, Nat.reduceLT, Int.reduceLE, Int.reduceLT, reduceCtorEq]
  refine (p841 fs n h5 hf (by omega) (2 ^ n - 1) (n - 1) _ rfl (by omega) (by omega)).mono fun v s ⟨q1, q2⟩ => ?_
  generalize imS fs n (2 ^ n - 1) = S at *
  have hrl : (rowsB S).length = S.length := List.length_map _
  have hr0 : (rowsB S)[0]? = some (nz (pof (S.getD 0 0) 62)) := by
    rw [rowsB, List.getElem?_map, getD_some hpos]; rfl
  have hS0 := hSb _ (getD_mem hpos 0)
  have hne : nz (pof (S.getD 0 0) 62) ≠ [] := by
    rw [pof62 h5 hS0.2]
    intro e
    exact pof_ne hS0.1 hS0.2 (by unfold nz at e; simpa using e)
  generalize hT : rowsB S = T at *
  cases q1 with
  | nil => simp at hr0
  | tab id ver rs _ hG =>
    obtain ⟨junk, ho⟩ := hG.out
    have hpl := pvs_length hG.len
    have hrs : 0 < rs.length := by rw [hG.len]; omega
    have hrow := hG.row 0 rs[0] _ (List.getElem?_eq_getElem hrs) hr0
    have hnn : rs[0].nil = false := by
      cases hc : rs[0].nil with
      | false => rfl
      | true => exact absurd (hrow.nl hc) hne
    have hcell : (pvs rs T ++ junk)[0]? = some (.ref rs[0].id rs[0].ver rs[0].pre.length (nz (pof (S.getD 0 0) 62)).length) := by
      rw [List.getElem?_append_left (by omega), pvs, List.getElem?_zipWith, List.getElem?_eq_getElem hrs, hr0]
      simp [Rw.pv, hnn]
    have hro := hrow.ow hnn
    try simp only [OpK_eq, HKv, ho, take6, List.drop_zero, Int.cast_ofNat_Int, go_sem, ↓reduceIte, Nat.reduceEqDiff, Nat.reduceAdd, Nat.reduceMul, Nat.reduceLeDiff, Nat.reduceLT, Int.reduceLE, Int.reduceLT, reduceCtorEq]
    refine ⟨⟨by omega, by omega⟩, by omega, fun c hc => ?_⟩
    rw [hcell] at hc; cases hc
    refine ⟨by simp [PV.cs], fun c hc => ?_⟩
    simp only [PV.cs, List.getElem?_cons_zero, Option.some.injEq] at hc
    subst hc
    have hput : ∀ v, putC [PV.int .i64 0] 0 [v] = [v] := fun v => by unfold putC; first | rfl | (split <;> rfl) | simp
    have hgb : ∀ (s : Heap) (a : AObj), (s ++ [a])[s.length]? = some a := fun s a => by simp
    have hsb : ∀ (s : Heap) (a b : AObj), (s ++ [a]).set s.length b = s ++ [b] := fun s a b => by simp [List.set_append_right]
    try simp only [OpK_eq, HKv, hro, hgb, hsb, hput, take6, List.drop_zero, Int.cast_ofNat_Int, go_sem, ↓reduceIte, Nat.reduceEqDiff, Nat.reduceAdd, Nat.reduceMul, Nat.reduceLeDiff, Nat.reduceLT, Int.reduceLE, Int.reduceLT, reduceCtorEq]
    rw [nz_len]
    generalize hk : (pof (S.getD 0 0) 62).length = k at *
    have hD := delT (σ := s ++ [.box [.int .i64 k]]) ((TabN.tab id ver rs T hG).append _) (q2.append (Free.boxI [(k : Int)])) (by omega) 86 [.ptr s.length 0] [.fptr [.int .i64 k] 0] (StillL.up inferInstance) (fun σ' hσ => .cons (Imm.ptr1 (hσ _ _ (hgb _ _)) rfl Imm.still) (.nil _)) (fun r => decide ((k : Int) < (r.length : Int))) (fun r hr => p86 r k)
    refine hD.mono fun v s2 ⟨q3, q4⟩ => ?_
    try simp only [OpK_eq, HKv, take6, List.drop_zero, Int.cast_ofNat_Int, go_sem, ↓reduceIte, Nat.reduceEqDiff, Nat.reduceAdd, Nat.reduceMul, Nat.reduceLeDiff, Nat.reduceLT, Int.reduceLE, Int.reduceLT, reduceCtorEq]
    exact Kv.Fin.now ⟨v, rfl, q3, q4⟩
theorem p40_out (a : List (List Int)) (ha : a.length ≤ 1048576) (h6 : ∀ r ∈ a, r.length = 6) (hc : lcode a [] ≠ 0) : Pure Try.prog 40 [.list (aggs a)] (.tup [.nils, .int .i64 (lcode a [])]) := by
  refine e40 (by simp) fun _ _ => ?_
  simp only [k40, argEnv, take6, List.drop_zero, Int.cast_ofNat_Int, go_sem, ↓reduceIte, Nat.reduceEqDiff, Nat.reduceAdd, Nat.reduceMul, Nat.reduceLeDiff, Nat.reduceLT, Int.reduceLE, Int.reduceLT, reduceCtorEq]
  refine (p54 _ a [] .nil ha (by simp) h6 (by simp)).go ?_
  try simp only [OpK_eq, HKv, take6, List.drop_zero, Int.cast_ofNat_Int, go_sem, ↓reduceIte, Nat.reduceEqDiff, Nat.reduceAdd, Nat.reduceMul, Nat.reduceLeDiff, Nat.reduceLT, Int.reduceLE, Int.reduceLT, reduceCtorEq]
  exact ⟨fun h1 => Kv.Fin.still ⟨rfl, rfl⟩, fun h1 => absurd h1 hc⟩
end Go.Proofs.Ytpepbomifjbgnaa
