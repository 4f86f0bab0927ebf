/- Several texts of this session as one, less what the claim does not need. -/
import Derived.Test.YtpfapiiinkkcgaaGreatZ13
import Derived.Test.YtpfapiiinkkcgaaGreatZ8
import Derived.Test.YtpfapiiinkkcgaaGreatCb
import Derived.Test.YtpfapiiinkkcgaaGreatZ5
section
/- slices.SortFunc of maps, over abstract values. -/
namespace Go.Proofs.YtpfapiiinkkcgaaGreat
open Go.Kv
set_option linter.unusedVariables false
set_option linter.unusedSimpArgs false
attribute [local irreducible] ACall PCall KL
theorem rel_intsV {φ : Frz} {ι : List KLoc} {L : List Int} {ys : List Value} (h : RelL φ ι (ints L) ys) : ys = L.map (Value.int .i64) := by
  apply List.ext_getElem?
  intro i
  rw [List.getElem?_map]
  by_cases hi : i < L.length
  · have h1 : (ints L)[i]? = some (.int .i64 L[i]) := by simp [ints, hi]
    obtain ⟨v, hv, hR⟩ := h.get h1
    rw [hv, hR.int_inv]; simp [hi]
  · have := h.1
    rw [List.getElem?_eq_none (by rw [← this]; simpa [ints] using hi), List.getElem?_eq_none (by omega)]; rfl
theorem intsV_rel {φ : Frz} {ι : List KLoc} (L : List Int) : RelL φ ι (ints L) (L.map (Value.int .i64)) :=
  ⟨by simp [ints], fun i c v hc hv => by
    obtain ⟨x, hx, rfl⟩ := ints_get hc
    rw [List.getElem?_map, hx] at hv
    simp only [Option.map_some, Option.some.injEq] at hv
    subst hv; exact .int _ _⟩
theorem flat_aggsI : ∀ ms : List (List Int), flat (aggs ms) = ints ms.flatten
  | [] => rfl
  | m :: ms => by
    have := flat_aggsI ms
    simp only [aggs, List.map_cons, flat_cons, PV.cs, List.flatten_cons, ints, List.map_append] at this ⊢
    rw [this]
theorem enc6_flat : ∀ ds : List M6, ds.flatMap enc6 = ((ds.map Subtype.val).flatten).map (Value.int .i64)
  | [] => rfl
  | d :: ds => by
    rw [List.flatMap_cons, enc6_flat ds, List.map_cons, List.flatten_cons, List.map_append]; rfl
theorem m6_of : ∀ ms : List (List Int), (∀ m ∈ ms, m.length = 6) → ∃ ds : List M6, ds.map Subtype.val = ms
  | [], _ => ⟨[], rfl⟩
  | m :: ms, h => by
    obtain ⟨ds, hd⟩ := m6_of ms fun x hx => h x (List.mem_cons_of_mem _ hx)
    exact ⟨⟨m, h m (by simp)⟩ :: ds, by rw [List.map_cons, hd]⟩
theorem sort_maps {σ : Heap} {id ver : Nat} {e : TypeId} {ms : List (List Int)} (h6 : ∀ m ∈ ms, m.length = 6) (h0 : 0 < ms.length) (hn : ms.length ≤ 1000) (hid : σ[id]? = some (.arr ver e 6 (aggs ms))) {K : PV → Heap → Prop}
    (hK : ∀ r : List (List Int), r.Perm ms → r.Pairwise (fun a b => slc a b ≤ 0) → K (.tup []) (σ.set id (.arr ver e 6 (aggs r)))) :
    ACall Tryz.prog 193 [.ref id ver 0 ms.length, .fn (.func 140) [] []] σ K := by
  unfold ACall
  refine ⟨⟨Tryz.f193, Tryz.func193, by kernel_rfl, by kernel_rfl⟩, fun φ ι w vs hr ho => ?_⟩
  obtain ⟨ds, hds⟩ := m6_of ms h6
  have hdl : ds.length = ms.length := by rw [← hds, List.length_map]
  have hlt := (List.getElem?_eq_some_iff.1 hid).1
  have hltι : id < ι.length := by rw [ho.len]; exact hlt
  obtain ⟨l, hl⟩ : ∃ l, ι[id]? = some l := ⟨_, List.getElem?_eq_getElem hltι⟩
  have hobj := ho.obj id _ l hid hl
  have hal : (aggs ms).length = ms.length := aggs_length ms
  cases l with
  | dead => exact hobj.elim
  | box b => exact hobj.elim
  | arr ver' e' esz u =>
    simp only [ObjOK] at hobj
    obtain ⟨rfl, rfl, rfl, _, ys, hrow, hrel, hok, hcl⟩ := hobj
    rw [flat_aggsI] at hrel hok
    have hys := rel_intsV hrel
    rw [← hds, ← enc6_flat] at hys
    subst hys
    rw [hal] at hrow
    obtain ⟨v0, hv0, r0⟩ := hr.get (i := 0) rfl
    obtain ⟨v1, hv1, r1⟩ := hr.get (i := 1) rfl
    obtain ⟨x, y, rfl, hx, hy⟩ := r1.fn_inv
    have ex : x = [] := List.eq_nil_of_length_eq_zero hx.1.symm
    have ey : y = [] := List.eq_nil_of_length_eq_zero hy.1.symm
    subst ex; subst ey
    have hset : ∀ u', u' = u → ι.set id (.arr ver e 6 u') = ι := fun u' hu => by
      subst hu
      have := (List.getElem?_eq_some_iff.1 hl).2
      rw [← this]; exact List.set_getElem_self _
    cases r0 with
    | ref _ _ _ _ _ k e2 esz2 u2 hh ho' hk' hv' =>
      rw [hl] at hh
      cases hh
      rcases hv' rfl with ⟨g, n, cap, o, rfl, q1, q2, q3, q4⟩ | ⟨_, _, hz, _⟩
      rotate_left
      · omega
      rcases hrow.2 with ⟨hnil, _⟩ | ⟨g2, cap2, cur, heq, hg, hgb, c1, c2, c3, c4⟩
      · cases hnil
      cases heq
      obtain rfl := q4 rfl
      rw [Nat.sub_zero] at q2
      subst q2
      have ev : vs = [.slice (some ⟨g, 0, none⟩) ms.length cap, .func (.func 140) #[] #[]] := by
        have hvl := hr.1
        match vs, hvl, hv0, hv1 with
        | [a, c], _, h0, h1 => simp only [List.getElem?_cons_zero, Option.some.injEq] at h0; simp only [List.getElem?_cons_succ, List.getElem?_cons_zero, Option.some.injEq] at h1; rw [h0, h1]
      subst ev
      have hmain := sortMaps_world (cap := cap) hgb ds (by omega) (by rw [hdl]; exact c4)
      rw [hdl] at hmain
      refine hmain.mono ?_
      rintro en w' ⟨rfl, r, hp, hpw, ⟨cur', d1, d2, d3, d4⟩, hoth, hsz, e1, e2, e3⟩
      have hrl : (r.map Subtype.val).length = ms.length := by rw [List.length_map, hp.length_eq, hdl]
      have hr6 : ∀ m ∈ r.map Subtype.val, m.length = 6 := fun m hm => by
        obtain ⟨x, _, rfl⟩ := List.mem_map.1 hm
        exact x.2
      have hw : ∀ b, b < w.heap.size → (KLoc.arr ver e 6 (.slice (some ⟨g, 0, none⟩) ms.length cap)).block ≠ some b → w'.heap[b]? = w.heap[b]? := fun b hb hne => hoth b hb (fun e => hne (by rw [e]; rfl))
      have hob2 : ObjOK φ (ι.set id (.arr ver e 6 (.slice (some ⟨g, 0, none⟩) ms.length cap))) w' (.arr ver e 6 (aggs (r.map Subtype.val))) (.arr ver e 6 (.slice (some ⟨g, 0, none⟩) ms.length cap)) := by
        rw [hset _ rfl]
        refine ⟨rfl, rfl, rfl, by decide, r.flatMap enc6, ⟨?_, .inr ⟨g, cap, cur', by rw [aggs_length, hrl], Nat.zero_le _, d1, by rw [aggs_length, hrl]; exact c1, c2, by rw [d2]; exact c3, by rw [aggs_length, hrl]; exact d3⟩⟩, ?_, ?_, fun x hx => ?_⟩
        · rw [aggs_length, hrl, ← d3, List.length_take]
          have : ms.length * 6 ≤ cur'.size := by rw [d2, c3]; exact Nat.mul_le_mul_right 6 c1
          simp only [Array.length_toList]; omega
        · rw [flat_aggsI, enc6_flat]
          exact intsV_rel _
        · rw [flat_aggsI]; simp [ints, PV.ok]
        · simp only [aggs, List.mem_map] at hx
          obtain ⟨y, ⟨z, _, rfl⟩, rfl⟩ := hx
          show (ints z.1).length = 6
          rw [ints_length, z.2]
      obtain ⟨j1, j2⟩ := ho.upd hl (KLoc.le_refl _) hsz hw (fun b hb => .inl hb) (fun b hb => Nat.lt_of_lt_of_le (ho.lt id _ b hl hb) hsz) hob2
      refine ⟨.tup [], .tuple #[], φ, _, _, rfl, .tup [] [] rfl (by simp), Tr.upd _ hl j2 hsz hw (fun b hb => .inl hb) e1 e2 e3, j1, hK _ ?_ ?_⟩
      · rw [← hds]; exact hp.map _
      · exact List.pairwise_map.2 hpw
end Go.Proofs.YtpfapiiinkkcgaaGreat
end
section
/- newMonoid: what it finds, told by the list alone; the sorted list of the found. -/
namespace Go.Proofs.YtpfapiiinkkcgaaGreat
open Go.Kv
set_option linter.unusedVariables false
set_option linter.unusedSimpArgs false
attribute [local irreducible] ACall PCall KL
theorem slc_cmpL : ∀ (xs ys : List Int), xs.length = ys.length → slc xs ys = cmpL xs ys
  | [], [], _ => rfl
  | [], _ :: _, h => by simp at h
  | _ :: _, [], h => by simp at h
  | x :: xs, y :: ys, h => by
    rw [slc, cmpL, slc_cmpL xs ys (by simpa using h)]
theorem slc_mp {a b : List Nat} {n : Nat} (ha : Ok a n) (hb : Ok b n) (h : slc (mp a) (mp b) ≤ 0) : nbl n a ≤ nbl n b := by
  apply Classical.byContradiction
  intro hn
  have h1 := (ltM_nbl hb ha).2 (by omega)
  have e : slc (mp b) (mp a) = cmpL (b.map fun x : Nat => (x : Int)) (a.map fun x : Nat => (x : Int)) := by
    rw [slc_cmpL _ _ (by rw [ha.mp_len, hb.mp_len])]
    simp only [mp, mpN, cmpL, ha.len, hb.len, Int.lt_irrefl, if_false]
    exact cmpL_app _ _ _ (by simp [ha.len, hb.len])
  have h2 := of_decide_eq_true h1
  rw [← e] at h2
  have := slc_anti (mp a) (mp b)
  omega
/-- The sorted list of what is found. -/
theorem sorted_elS {n : Nat} {Q : List (List Nat)} {r : List (List Int)} (hQ : ∀ f ∈ Q, Ok f n) (hd : Q.Nodup) (hp : r.Perm (Q.map mp)) (hs : r.Pairwise fun a b => slc a b ≤ 0) : r = (elS n Q).map mp := by
  have hr : r = (r.map um).map mp := by
    rw [List.map_map]
    conv => lhs; rw [← List.map_id r]
    refine List.map_congr_left fun x hx => ?_
    obtain ⟨f, hf, rfl⟩ := List.mem_map.1 (hp.mem_iff.1 hx)
    show id (mp f) = mp (um (mp f))
    rw [um_mp]; rfl
  have hS : (r.map um).Perm Q := by
    have := hp.map um
    rw [List.map_map] at this
    have e : Q.map (um ∘ mp) = Q := by
      conv => rhs; rw [← List.map_id Q]
      exact List.map_congr_left fun f _ => um_mp f
    rwa [e] at this
  generalize r.map um = S at hr hS
  subst hr
  have hSO : ∀ f ∈ S, Ok f n := fun f hf => hQ f (hS.mem_iff.1 hf)
  have hSd : S.Nodup := hS.nodup_iff.2 hd
  have hSr : SrM n S := by
    refine ⟨hSO, ?_⟩
    rw [List.pairwise_map] at hs
    rw [List.nodup_iff_pairwise_ne] at hSd
    rw [List.pairwise_iff_getElem] at hs hSd ⊢
    intro i j hi hj hij
    have h1 := hSO _ (List.getElem_mem hi)
    have h2 := hSO _ (List.getElem_mem hj)
    have h3 := slc_mp h1 h2 (hs i j hi hj hij)
    have h4 := hSd i j hi hj hij
    have : nbl n S[i] ≠ nbl n S[j] := fun e => h4 (nbl_inj h1 h2 e)
    omega
  obtain ⟨e1, e2, e3⟩ := elS_ok hQ
  rw [srm_uniq hSr e1 fun f => by rw [hS.mem_iff, e2]]
theorem FdOk.nodup {n : Nat} {P : List Int} {Q : List (List Nat)} (h : FdOk n P Q) (hQ : ∀ f ∈ Q, Ok f n) : Q.Nodup := by
  rw [List.nodup_iff_pairwise_ne, List.pairwise_iff_getElem]
  intro i j hi hj hij e
  have h1 := (h.2.2 _ (hQ _ (List.getElem_mem hi))).1 i (List.getElem?_eq_getElem hi)
  have h2 := (h.2.2 _ (hQ _ (List.getElem_mem hi))).1 j (by rw [List.getElem?_eq_getElem hj, e])
  omega
/-- The words of the maps found behind k of the list. -/
def clW (fs : List (List Nat)) (m : List Nat) (Q : List (List Nat)) (V : List (List Int)) (i : Nat) : Nat → List (List Int)
  | 0 => V
  | k + 1 => match clA fs m Q k with
    | none => clW fs m Q V i k
    | some R => if mul m (fs.getD k []) ∈ R then clW fs m Q V i k else clW fs m Q V i k ++ [(clW fs m Q V i k).getD i [] ++ [(k : Int)]]
/-- The words of the maps found behind i maps. -/
def clV (fs : List (List Nat)) (n : Nat) : Nat → List (List Int)
  | 0 => [[]]
  | i + 1 => match clB fs n i with
    | none => []
    | some Q => match Q[i]? with
      | some m => clW fs m Q (clV fs n i) i fs.length
      | none => clV fs n i
/-- Their places, as they are found. -/
def fdP (Q : List (List Nat)) (P0 : List Int) : List Int := setP Q P0 Q.length
theorem setP_app {Q : List (List Nat)} {g : List Nat} {P : List Int} : ∀ k, k ≤ Q.length → setP (Q ++ [g]) P k = setP Q P k
  | 0, _ => rfl
  | k + 1, h => by
    rw [setP, setP, setP_app k (by omega)]
    congr 2
    rw [List.getD_eq_getElem?_getD, List.getD_eq_getElem?_getD, List.getElem?_append_left (by omega)]
theorem fdP_push (Q : List (List Nat)) (g : List Nat) (P0 : List Int) : (fdP Q P0).set (numK g 5) ((Q.length : Int) + 1) = fdP (Q ++ [g]) P0 := by
  unfold fdP
  rw [List.length_append, List.length_singleton, setP, setP_app _ (Nat.le_refl _)]
  congr 2
  rw [List.getD_eq_getElem?_getD, List.getElem?_append_right (Nat.le_refl _)]; simp
def P00 : List Int := List.replicate 3125 0
/-- The words, in the order of the elements. -/
def wdS (S : List (List Nat)) (P : List Int) (W : List (List Int)) (y : Nat) : List (List Int) := (S.take y).map fun f => W.getD (P.getD (numK f 5) 0 - 1).toNat []
theorem wdS_succ {S : List (List Nat)} {P : List Int} {W : List (List Int)} {y : Nat} (h : y < S.length) : wdS S P W (y + 1) = wdS S P W y ++ [W.getD (P.getD (numK (S.getD y []) 5) 0 - 1).toNat []] := by
  unfold wdS
  rw [List.take_succ_eq_append_getElem h, List.map_append]
  simp [List.getD_eq_getElem?_getD, h]
/-- The monoid as it is handed back. -/
def monV (fs : List (List Nat)) (n : Nat) (Q : List (List Nat)) : List PV := moV (.list (aggs ((elS n Q).map mp))) (.list (rows (wdS (elS n Q) (fdP Q P00) (clV fs n Q.length) (elS n Q).length))) (setP (elS n Q) (fdP Q P00) (elS n Q).length)
end Go.Proofs.YtpfapiiinkkcgaaGreat
end
section
/- The identity of some points. -/
namespace Go.Proofs.YtpfapiiinkkcgaaGreat
open Go.Kv
set_option maxRecDepth 100000
/- impl.identity -/
/- live [2, 3, 7, 8] -/
def k148_b0 : KC := (.seq (.ops [⟨(some 9), none, .bin .lss (.t 8) (.t 7)⟩])
  (.seq (.cond (.t 9) .skip (.exit 0))
  (.seq (.block 1 (.seq (.ops [⟨(some 10), none, .mv (.t 8)⟩, ⟨(some 4), none, .mv (.t 10)⟩])
  (.ops [⟨(some 11), none, .mv (.t 4)⟩, ⟨(some 12), none, .mv (.t 4)⟩, ⟨(some 13), none, .fieldA 1 (.t 3)⟩, ⟨(some 14), none, .idxA 5 1 (.t 13) (.t 11)⟩, ⟨none, none, .store 1 (.t 14) (.t 12)⟩])))
  (.ops [⟨(some 15), none, .bin .add (.t 8) (.c (.int .i64 1))⟩, ⟨(some 8), none, .mv (.t 15)⟩]))))
def k148 : KC := (.seq (.ops [⟨(some 2), none, .alloc [.int .i64 0, .int .i64 0, .int .i64 0, .int .i64 0, .int .i64 0, .int .i64 0]⟩])
  (.seq (.ops [⟨(some 5), none, .mv (.t 0)⟩, ⟨(some 6), none, .build [.int .i64 0, .int .i64 0, .int .i64 0, .int .i64 0, .int .i64 0, .int .i64 0] [(0, 1, (.t 5))]⟩, ⟨(some 3), none, .alloc [.int .i64 0, .int .i64 0, .int .i64 0, .int .i64 0, .int .i64 0, .int .i64 0]⟩, ⟨none, none, .store 6 (.t 3) (.t 6)⟩])
  (.seq (.seq (.ops [⟨(some 7), none, .mv (.t 0)⟩, ⟨(some 8), none, .mv (.c (.int .i64 0))⟩])
  (.block 0 (.loop k148_b0)))
  (.seq (.ops [⟨(some 16), none, .load true 6 (.t 3)⟩, ⟨none, none, .store 6 (.t 2) (.t 16)⟩])
  .ret))))
theorem e148 {args : List PV} {σ : Heap} {K : PV → Heap → Prop} (hl : args.length ≤ 17) (h : Wf σ → (∀ a ∈ args, PV.upto σ.length a) → vc (mkCfg Tryz.prog mixed [] 17 σ.length) k148 (FinK σ.length [.cell 2 true 6] K) (argEnv 0 args) σ) : ACall Tryz.prog 148 args σ K :=
  ACall_enter (C := mkCfg Tryz.prog mixed [] 17 σ.length) (c := Tryz.f148.body.getD .skip) Tryz.func148 (by kernel_rfl) (by kernel_rfl) (by kernel_rfl) rfl hl (by kernel_rfl) (by kernel_rfl) h
end Go.Proofs.YtpfapiiinkkcgaaGreat
namespace Go.Proofs.YtpfapiiinkkcgaaGreat
open Go.Kv
set_option linter.unusedVariables false
set_option linter.unusedSimpArgs false
attribute [local irreducible] ACall PCall KL
theorem p148 (n : Nat) (h1 : 1 ≤ n) (h5 : n ≤ 5) : Pure Tryz.prog 148 [.int .i64 n] (.agg (ints (mp (List.range n)))) := by
  refine e148 (by simp) fun _ _ => ?_
  simp only [k148, argEnv, take6, List.drop_zero, Int.cast_ofNat_Int, go_sem, ↓reduceIte, Nat.reduceEqDiff, Nat.reduceAdd, Nat.reduceMul, Nat.reduceLeDiff, Nat.reduceLT, Int.reduceLE, Int.reduceLT, reduceCtorEq]
  refine KL_ind k148_b0.eq_1 (fun x : Nat => [(2, .ptr 0 0), (3, .ptr 1 0), (7, .int .i64 n), (8, .int .i64 x)]) (fun x => [.box (ints [0, 0, 0, 0, 0, 0]), .box (ints (mpN n (List.range x)))]) (fun x => x ≤ n) (fun x => n - x) [2, 3, 7, 8] 0 (by rfl) (by rfl) (Nat.zero_le _) fun x hi ih => ?_
  have hl : (mpN n (List.range x)).length = 6 := mpN_length (by simp; omega)
  try simp only [hl, take6, List.drop_zero, Int.cast_ofNat_Int, go_sem, ↓reduceIte, Nat.reduceEqDiff, Nat.reduceAdd, Nat.reduceMul, Nat.reduceLeDiff, Nat.reduceLT, Int.reduceLE, Int.reduceLT, reduceCtorEq]
  refine ⟨fun h => ?_, fun h => ?_⟩
  · repeat' (first | refine And.intro ?_ ?_ | intro _)
    all_goals (try omega)
    refine ih (x + 1) (by omega) (by omega) _ _ (by rfl) ?_
    rw [mpN_pushI (by simp) (by simp; omega), ← List.range_succ]
  · obtain rfl : x = n := by omega
    refine Kv.Fin.still ⟨?_, rfl⟩
    simp [mp]
end Go.Proofs.YtpfapiiinkkcgaaGreat
end
section
/- newMonoid. -/
namespace Go.Proofs.YtpfapiiinkkcgaaGreat
open Go.Kv
set_option linter.unusedVariables false
set_option linter.unusedSimpArgs false
attribute [local irreducible] ACall PCall KL
theorem p192P (l : List (List Int)) (h6 : ∀ m ∈ l, m.length = 6) (h0 : 0 < l.length) (hl : l.length ≤ 4294967296) : ACall Tryz.prog 192 [.list (aggs l)] [] (fun v s => v = .ref 0 1 0 l.length ∧ s = [.arr 1 34 6 (aggs l)]) := by
  cases l with
  | nil => simp at h0
  | cons x l =>
    refine e192 (by simp) fun _ _ => ?_
    simp only [k192, argEnv, take6, List.drop_zero, Int.cast_ofNat_Int, go_sem, ↓reduceIte, Nat.reduceEqDiff, Nat.reduceAdd, Nat.reduceMul, Nat.reduceLeDiff, Nat.reduceLT, Int.reduceLE, Int.reduceLT, reduceCtorEq]
    have e : ∀ K : Bool → Prop, aIsn (.list (aggs (x :: l))) K = K false := fun _ => rfl
    rw [e]
    try simp only [take6, List.drop_zero, Int.cast_ofNat_Int, go_sem, ↓reduceIte, Nat.reduceEqDiff, Nat.reduceAdd, Nat.reduceMul, Nat.reduceLeDiff, Nat.reduceLT, Int.reduceLE, Int.reduceLT, reduceCtorEq]
    refine ⟨?_, by simp at hl; omega, Kv.Fin.now ⟨rfl, rfl⟩⟩
    rw [okL_aggs]
    exact h6
theorem WG.keepQ {σ σ' : Heap} {A : Nat → Prop} {q ver : Nat} {ws : List PV} {L : List (List Int)} (h : WG σ A q ver ws L) (hk : ∀ id, id < σ.length → (¬ A id ∨ id = q) → σ'[id]? = σ[id]?) : WG σ' A q ver ws L :=
  ⟨(hk q (List.getElem?_eq_some_iff.1 h.out).1 (.inr rfl)).trans h.out, h.len, fun i w l hw hl => (h.row i w l hw hl).keep fun id hid hA => ⟨hk id hid (.inl fun h => hA (.inl h)), hA⟩⟩
theorem clB_ne {fs : List (List Nat)} {n : Nat} : ∀ {i : Nat} {Q : List (List Nat)}, clB fs n i = some Q → Q ≠ []
  | 0, Q, h => by
    have : [List.range n] = Q := by simpa [clB] using h
    subst this; simp
  | i + 1, Q, h => by
    rw [clB] at h
    cases hc : clB fs n i with
    | none => rw [hc] at h; cases h
    | some Q' =>
      have := clB_ne hc
      rw [hc] at h
      simp only at h
      split at h
      · obtain ⟨r, hr⟩ := clA_pre _ _ h
        rw [hr]; simp [this]
      · cases h; exact this
/-- The start: the identity alone is found. -/
theorem fd_nil {n N : Nat} {P : List Int} (hN : N = 3125) (hP : P = List.replicate N 0) : FdOk n P [] := by
  have hm : ∀ x ∈ P, x = 0 := fun x hx => by rw [hP] at hx; exact List.eq_of_mem_replicate hx
  refine ⟨by rw [hP, List.length_replicate, hN], fun x hx => by rw [hm x hx]; omega, fun f hf => ⟨fun j hj => (by rw [List.getElem?_nil] at hj; cases hj), fun _ => ?_⟩⟩
  rw [List.getD_eq_getElem?_getD]
  cases h : P[numK f 5]? with
  | none => rfl
  | some x => exact hm x (List.mem_of_getElem? h)
theorem fd_start {n : Nat} {P : List Int} (h1 : 1 ≤ n) (h5 : n ≤ 5) (h : FdOk n P []) : FdOk n (P.set (numK (List.range n) 5) 1) [List.range n] := by
  have := h.push (range_ok h1 h5) (fun h => nomatch h) (by decide)
  exact this
set_option maxHeartbeats 4000000 in
theorem p154_in (fs : List (List Nat)) (n : Nat) (h1 : 1 ≤ n) (h5 : n ≤ 5) (hf : ∀ f ∈ fs, Ok f n) (hfl : fs.length ≤ 1000) {K : PV → Heap → Prop}
    (hK1 : ∀ Q, clB fs n Q.length = some Q → (∀ f ∈ Q, Ok f n) → Q.length ≤ 300 → FdOk n (fdP Q P00) Q → K (.tup [.fptr (monV fs n Q) 0, .int .i64 0]) [])
    (hK2 : ∀ i, i ≤ 301 → clB fs n i = none → K (.tup [.nilptr, .int .i64 3]) []) : ACall Tryz.prog 154 [.list (aggs (fs.map mp)), .int .i64 n] [] K := by
  have h0k := range_ok h1 h5
  have h06 := h0k.mp_len
  have hN0 := num_lt h0k
  refine e154 (by simp) fun _ _ => ?_
  simp only [k154, argEnv, take6, List.drop_zero, Int.cast_ofNat_Int, go_sem, ↓reduceIte, Nat.reduceEqDiff, Nat.reduceAdd, Nat.reduceMul, Nat.reduceLeDiff, Nat.reduceLT, Int.reduceLE, Int.reduceLT, reduceCtorEq]
  generalize hP0 : List.replicate 3125 (0 : Int) = P0
  have hPl : P0.length = 3125 := by rw [← hP0]; exact List.length_replicate
  have hFd : FdOk n P0 [] := fd_nil rfl hP0.symm
  have hP1 : P0.set (numK (List.range n) 5) 1 = fdP [List.range n] P00 := by rw [← hP0]; rfl
  clear hP0
  refine (p148 n h1 h5).go ?_
  try simp only [OpK_eq, HKv, h06, take6, List.drop_zero, Int.cast_ofNat_Int, go_sem, ↓reduceIte, Nat.reduceEqDiff, Nat.reduceAdd, Nat.reduceMul, Nat.reduceLeDiff, Nat.reduceLT, Int.reduceLE, Int.reduceLT, reduceCtorEq]
  refine (p190 _ n h0k).pgo ?_
  try simp only [OpK_eq, HKv, h06, hPl, take6, List.drop_zero, Int.cast_ofNat_Int, go_sem, ↓reduceIte, Nat.reduceEqDiff, Nat.reduceAdd, Nat.reduceMul, Nat.reduceLeDiff, Nat.reduceLT, Int.reduceLE, Int.reduceLT, reduceCtorEq]
  refine ⟨by omega, by omega, ?_⟩
  refine KL_ind k154_b1.eq_1 (fun y : Nat × Nat × Nat × List PV × List (List Int) × List Int × List (List Nat) × Heap => [(0, .list (aggs (fs.map mp))), (6, .ptr 0 0), (7, .ref 1 y.2.1 0 y.2.2.2.2.2.2.1.length), (8, .ref 2 y.2.2.1 0 y.2.2.2.2.1.length), (9, .int .i64 y.1)]) (fun y => y.2.2.2.2.2.2.2)
    (fun ⟨i, u1, u2, ws, W, P, Q, σ⟩ => i ≤ Q.length ∧ clB fs n i = some Q ∧ (∀ f ∈ Q, Ok f n) ∧ Q.length ≤ 300 ∧ FdOk n P Q ∧ σ[0]? = some (.box (.nils :: .nils :: ints P)) ∧ σ[1]? = some (.arr u1 34 6 (aggs (Q.map mp))) ∧ WG σ (fun id => id = 0 ∨ id = 1) 2 u2 ws W ∧ W.length = Q.length ∧ (∀ w ∈ W, w.length + 1 ≤ W.length) ∧ P = fdP Q P00 ∧ W = clV fs n i) (fun y => 301 - y.1) [0, 6, 7, 8, 9]
    (0, 0, 0, [.nils], [[]], P0.set (numK (List.range n) 5) 1, [List.range n], _) (by simp [keep]) rfl ?_ fun ⟨i, u1, u2, ws, W, P, Q, σ⟩ ⟨j1, j2, j3, j4, j5, j6, j7, j8, j9, j10, j11, j12⟩ ih => ?_
  · refine ⟨Nat.zero_le _, rfl, fun f hf' => ?_, by simp, fd_start h1 h5 hFd, rfl, rfl, ⟨rfl, rfl, fun j w l hw hl => ?_⟩, rfl, fun w hw => ?_, hP1, rfl⟩
    · simp only [List.mem_singleton] at hf'; rw [hf']; exact h0k
    · have e1 := List.mem_of_getElem? hw
      have e2 := List.mem_of_getElem? hl
      simp only [List.mem_singleton] at e1 e2
      subst e1; subst e2
      exact .inl ⟨rfl, rfl⟩
    · simp only [List.mem_singleton] at hw; subst hw; simp
  try simp only at j1 j2 j3 j4 j5 j6 j7 j8 j9 j10 j11 j12
  try simp only [OpK_eq, HKv, j7, aggs_length, List.length_map, take6, List.drop_zero, Int.cast_ofNat_Int, go_sem, ↓reduceIte, Nat.reduceEqDiff, Nat.reduceAdd, Nat.reduceMul, Nat.reduceLeDiff, Nat.reduceLT, Int.reduceLE, Int.reduceLT, reduceCtorEq]
  refine ⟨fun g1 => ?_, fun g1 => ?_⟩
  · have hil : i < Q.length := by omega
    have hm? : Q[i]? = some Q[i] := List.getElem?_eq_getElem hil
    have hBs : clB fs n (i + 1) = clA fs Q[i] Q fs.length := by
      rw [clB, j2]
      simp only
      rw [hm?]
    have hVs : clV fs n (i + 1) = clW fs Q[i] Q (clV fs n i) i fs.length := by
      rw [clV, j2]
      simp only
      rw [hm?]
    have hmO := j3 _ (List.getElem_mem hil)
    generalize hm : Q[i] = m at *
    refine KL_ind k154_b0.eq_1 (fun y : Nat × Nat × Nat × List PV × List (List Int) × List Int × List (List Nat) × Heap => [(0, .list (aggs (fs.map mp))), (6, .ptr 0 0), (7, .ref 1 y.2.1 0 y.2.2.2.2.2.2.1.length), (8, .ref 2 y.2.2.1 0 y.2.2.2.2.1.length), (9, .int .i64 i), (37, .list (aggs (fs.map mp))), (38, .int .i64 fs.length), (39, .int .i64 y.1)]) (fun y => y.2.2.2.2.2.2.2)
      (fun ⟨k, u1, u2, ws, W, P, R, τ⟩ => k ≤ fs.length ∧ clA fs m Q k = some R ∧ (∀ f ∈ R, Ok f n) ∧ R.length ≤ 300 ∧ FdOk n P R ∧ τ[0]? = some (.box (.nils :: .nils :: ints P)) ∧ τ[1]? = some (.arr u1 34 6 (aggs (R.map mp))) ∧ WG τ (fun id => id = 0 ∨ id = 1) 2 u2 ws W ∧ W.length = R.length ∧ (∀ w ∈ W, w.length + 1 ≤ W.length) ∧ P = fdP R P00 ∧ W = clW fs m Q (clV fs n i) i k) (fun y => fs.length - y.1) [0, 6, 7, 8, 9, 37, 38, 39]
      (0, u1, u2, ws, W, P, Q, σ) (by simp [keep]) rfl ⟨Nat.zero_le _, rfl, j3, j4, j5, j6, j7, j8, j9, j10, j11, j12⟩ fun ⟨k, t1, t2, ws2, W2, P2, R, τ⟩ ⟨l2, l3, l4, l5, l6, l7, l8, l9, l10, l11, l12, l13⟩ ihk => ?_
    try simp only at l2 l3 l4 l5 l6 l7 l8 l9 l10 l11 l12 l13
    obtain ⟨r, hr⟩ := clA_pre k R l3
    have hiR : i < R.length := by rw [hr, List.length_append]; omega
    have hRi : (R.map mp).getD i [] = mp m := by
      rw [List.getD_eq_getElem?_getD, List.getElem?_map, hr, List.getElem?_append_left hil, hm?]; rfl
    have h6m := hmO.mp_len
    try simp only [OpK_eq, HKv, l8, aggs_length, List.length_map, take6, List.drop_zero, Int.cast_ofNat_Int, go_sem, ↓reduceIte, Nat.reduceEqDiff, Nat.reduceAdd, Nat.reduceMul, Nat.reduceLeDiff, Nat.reduceLT, Int.reduceLE, Int.reduceLT, reduceCtorEq]
    refine ⟨fun g2 => ?_, fun g2 => ?_⟩
    · have hkl : k < fs.length := by omega
      have hfk := hf _ (List.getElem_mem hkl)
      have h6k := hfk.mp_len
      have hgk : (fs.map mp).getD k [] = mp fs[k] := by simp [List.getD_eq_getElem?_getD, hkl]
      have hgf : fs.getD k [] = fs[k] := by simp [List.getD_eq_getElem?_getD, hkl]
      have hτ1 := (List.getElem?_eq_some_iff.1 l8).1
      have hτ2 := (List.getElem?_eq_some_iff.1 l9.out).1
      have hx0 : ∀ X, (τ ++ X)[0]? = some (.box (.nils :: .nils :: ints P2)) := fun X => (List.getElem?_append_left (by omega)).trans l7
      have hx1 : ∀ X, (τ ++ X)[1]? = some (.arr t1 34 6 (aggs (R.map mp))) := fun X => (List.getElem?_append_left hτ1).trans l8
      have hgb : ∀ (s : Heap) (a : AObj), (s ++ [a])[s.length]? = some a := fun s a => by simp
      have hsb : ∀ (s : Heap) (a b : AObj), (s ++ [a]).set s.length b = s ++ [b] := fun s a b => by simp [List.set_append_right]
      try simp only [OpK_eq, HKv, l8, hx1, aggs_length, List.length_map, hRi, h6m, hgk, h6k, hgb, hsb, ints_length, hfl, take6, List.drop_zero, Int.cast_ofNat_Int, go_sem, ↓reduceIte, Nat.reduceEqDiff, Nat.reduceAdd, Nat.reduceMul, Nat.reduceLeDiff, Nat.reduceLT, Int.reduceLE, Int.reduceLT, reduceCtorEq]
      refine ⟨by omega, fun _ => ⟨⟨by omega, Nat.le_refl _⟩, by omega, fun _ => ?_⟩⟩
      refine (p118 m fs[k] n hmO hfk).pgo ?_
      have hgO := hmO.mul hfk
      have hAs : clA fs m Q (k + 1) = if mul m fs[k] ∈ R then some R else if R.length = 300 then none else some (R ++ [mul m fs[k]]) := by
        rw [clA, l3]
        simp only
        rw [hgf]
      have hWs : clW fs m Q (clV fs n i) i (k + 1) = if mul m fs[k] ∈ R then W2 else W2 ++ [W2.getD i [] ++ [(k : Int)]] := by
        rw [clW, l3]
        simp only
        rw [hgf, ← l13]
      generalize hg' : mul m fs[k] = g at *
      have h6g := hgO.mp_len
      have hgN := num_lt hgO
      have hPl2 := l6.1
      have hilg : (ints (mp g)).length = 6 := by rw [ints_length, h6g]
      have hτ0 : 0 < τ.length := by omega
      generalize hτk : τ ++ [AObj.box (ints (mp fs[k]))] = ρ at *
      have hρ : ρ.length = τ.length + 1 := by rw [← hτk, List.length_append]; rfl
      have hρk : ∀ id, id < τ.length → ρ[id]? = τ[id]? := fun id hid => by rw [← hτk]; exact List.getElem?_append_left hid
      try simp only [OpK_eq, HKv, hgb, hsb, hilg, h6g, take6, List.drop_zero, Int.cast_ofNat_Int, go_sem, ↓reduceIte, Nat.reduceEqDiff, Nat.reduceAdd, Nat.reduceMul, Nat.reduceLeDiff, Nat.reduceLT, Int.reduceLE, Int.reduceLT, reduceCtorEq]
      refine (p190 g n hgO).pgo ?_
      have hy0 : ∀ X, (ρ ++ X)[0]? = some (.box (.nils :: .nils :: ints P2)) := fun X => (List.getElem?_append_left (by omega)).trans ((hρk 0 (by omega)).trans l7)
      try simp only [OpK_eq, HKv, hgb, hsb, hilg, h6g, hy0, hPl2, ints_length, take6, List.drop_zero, Int.cast_ofNat_Int, go_sem, ↓reduceIte, Nat.reduceEqDiff, Nat.reduceAdd, Nat.reduceMul, Nat.reduceLeDiff, Nat.reduceLT, Int.reduceLE, Int.reduceLT, reduceCtorEq]
      have hWρ : ∀ X, WG (ρ ++ X) (fun id => id = 0 ∨ id = 1) 2 t2 ws2 W2 := fun X => l9.keep (fun id hid _ => (List.getElem?_append_left (by omega)).trans (hρk id hid)) (by simp)
      have hy1 : ∀ X, (ρ ++ X)[1]? = some (.arr t1 34 6 (aggs (R.map mp))) := fun X => (List.getElem?_append_left (by omega)).trans ((hρk 1 (by omega)).trans l8)
      refine ⟨by omega, by omega, fun _ => ⟨fun p1 => ?_, fun p1 => ?_⟩⟩
      · have hin := (l6.pos hgO).1 p1
        rw [if_pos hin] at hAs hWs
        exact ⟨by omega, ihk (k + 1, t1, t2, ws2, W2, P2, R, _) ⟨by omega, hAs, l4, l5, l6, hy0 _, hy1 _, hWρ _, l10, l11, l12, hWs.symm⟩ (by show fs.length - (k + 1) < fs.length - k; omega) _ _ (by simp [keep]) rfl⟩
      · have hin : g ∉ R := fun h => p1 ((l6.pos hgO).2 h)
        rw [if_neg hin] at hAs hWs
        try simp only [OpK_eq, HKv, hy1, aggs_length, List.length_map, take6, List.drop_zero, Int.cast_ofNat_Int, go_sem, ↓reduceIte, Nat.reduceEqDiff, Nat.reduceAdd, Nat.reduceMul, Nat.reduceLeDiff, Nat.reduceLT, Int.reduceLE, Int.reduceLT, reduceCtorEq]
        refine ⟨fun h300 => Kv.Fin.still (hK2 (i + 1) (by omega) ?_), fun h300 => ?_⟩
        · rw [hBs]
          have hN : clA fs m Q (k + 1) = none := by rw [hAs, if_pos (by omega)]
          have := clA_none hN (fs.length - (k + 1))
          rwa [show k + 1 + (fs.length - (k + 1)) = fs.length by omega] at this
        rw [if_neg (by omega)] at hAs
        have hbb : (ρ ++ [AObj.box (ints (mp g))])[ρ.length]? = some (.box (ints (mp g))) := hgb _ _
        refine nm_tree (bb := ρ.length) (v0 := .list (aggs (fs.map mp))) (v6 := .ptr 0 0) (v37 := .list (aggs (fs.map mp))) (v38 := .int .i64 fs.length) (v39 := .int .i64 k) (hy1 _) (hWρ _) l10 hbb (by omega) h6g (by omega) hiR (by omega) l11 rfl rfl rfl rfl rfl rfl rfl rfl rfl rfl fun env' ρ' w' q1 q2 q3 q4 => ?_
        simp only [keep, List.map_cons, List.map_nil, List.cons.injEq, Prod.mk.injEq, true_and, and_true] at q1
        obtain ⟨a0, a6, a7, a8, a9, a12, a37, a38, a39⟩ := q1
        have r0 : ρ'[0]? = some (.box (.nils :: .nils :: ints P2)) := (q4 0 (by simp) (by decide) (by decide)).trans (hy0 _)
        have rb : ρ'[ρ.length]? = some (.box (ints (mp g))) := (q4 ρ.length (by simp) (by omega) (by omega)).trans hbb
        try simp only [OpK_eq, HKv, a0, a6, a7, a8, a9, a12, a37, a38, a39, q2, rb, hilg, h6g, aggs_length, List.length_map, take6, List.drop_zero, Int.cast_ofNat_Int, go_sem, ↓reduceIte, Nat.reduceEqDiff, Nat.reduceAdd, Nat.reduceMul, Nat.reduceLeDiff, Nat.reduceLT, Int.reduceLE, Int.reduceLT, reduceCtorEq]
        refine (p190 g n hgO).pgo ?_
        try simp only [OpK_eq, HKv, a0, a6, a7, a8, a9, a12, a37, a38, a39, r0, hPl2, ints_length, take6, List.drop_zero, Int.cast_ofNat_Int, go_sem, ↓reduceIte, Nat.reduceEqDiff, Nat.reduceAdd, Nat.reduceMul, Nat.reduceLeDiff, Nat.reduceLT, Int.reduceLE, Int.reduceLT, reduceCtorEq]
        have hFn := l6.push hgO hin (by omega)
        have hc : ((R.length + 1 : Nat) : Int) = (R.length : Int) + 1 := by omega
        rw [hc]
        have hρ'0 : 0 < ρ'.length := (List.getElem?_eq_some_iff.1 r0).1
        have hWgd : (W2.getD i []).length + 1 ≤ W2.length := by
          rw [List.getD_eq_getElem?_getD, List.getElem?_eq_getElem (by omega)]; exact l11 _ (List.getElem_mem _)
        refine ⟨by omega, by omega, by omega, ihk (k + 1, t1 + 1, t2 + 1, ws2 ++ [w'], W2 ++ [W2.getD i [] ++ [(k : Int)]], _, R ++ [g], _) ⟨by omega, hAs, fun f hf' => ?_, by simp; omega, hFn, List.getElem?_set_self hρ'0, (List.getElem?_set_ne (by decide)).trans q2, q3.keep (fun id hid hA => List.getElem?_set_ne fun e => hA (.inl e.symm)) (by simp), by simp [l10], fun x hx => ?_, by rw [l12]; exact fdP_push R g P00, hWs.symm⟩ (by show fs.length - (k + 1) < fs.length - k; omega) _ _ (by simp [keep, a0, a6, a7, a8, a9, a37, a38, a39]) rfl⟩
        · rcases List.mem_append.1 hf' with hf' | hf'
          · exact l4 f hf'
          · simp only [List.mem_singleton] at hf'; rw [hf']; exact hgO
        · rw [List.length_append, List.length_singleton]
          rcases List.mem_append.1 hx with hx | hx
          · have := l11 x hx; omega
          · simp only [List.mem_singleton] at hx
            rw [hx, List.length_append, List.length_singleton]; omega
    · have hke : k = fs.length := by omega
      subst hke
      try simp only [take6, List.drop_zero, Int.cast_ofNat_Int, go_sem, ↓reduceIte, Nat.reduceEqDiff, Nat.reduceAdd, Nat.reduceMul, Nat.reduceLeDiff, Nat.reduceLT, Int.reduceLE, Int.reduceLT, reduceCtorEq]
      exact ⟨by omega, ih (i + 1, t1, t2, ws2, W2, P2, R, τ) ⟨by show i + 1 ≤ R.length; omega, by rw [hBs]; exact l3, l4, l5, l6, l7, l8, l9, l10, l11, l12, by rw [hVs]; exact l13⟩ (by show 301 - (i + 1) < 301 - i; omega) _ _ (by simp [keep]) rfl⟩
  · obtain rfl : i = Q.length := by omega
    clear ih
    have hd := j5.nodup j3
    subst j11; subst j12
    generalize hP : fdP Q P00 = P at *
    generalize hW : clV fs n Q.length = W at *
    have hQl : (Q.map mp).length = Q.length := List.length_map _
    have hσ1 := (List.getElem?_eq_some_iff.1 j7).1
    have hσ2 := (List.getElem?_eq_some_iff.1 j8.out).1
    have hQ0 : 0 < Q.length := by
      cases Q with
      | nil => have := clB_ne j2; exact absurd rfl this
      | cons a l => simp
    have hcl := p192P (Q.map mp) (fun x hx => by obtain ⟨f, hf', rfl⟩ := List.mem_map.1 hx; exact (j3 f hf').mp_len) (by omega) (by omega)
    refine ACall.lend hcl (.cons (Imm.refa' j7 hQl.symm) (.nil _)) fun v s hv => ?_
    obtain ⟨rfl, rfl⟩ := hv
    refine ⟨⟨free_ref _ _ _ _, Free.aggs _ _ _ _⟩, ?_⟩
    have k0 : (σ ++ [AObj.arr 1 34 6 (aggs (Q.map mp))])[0]? = some (.box (.nils :: .nils :: ints P)) := (List.getElem?_append_left (by omega)).trans j6
    try simp only [OpK_eq, HKv, ren_ref, ren_arr, ren_aggs, Nat.zero_add, k0, hQl, sh_def, take6, List.drop_zero, Int.cast_ofNat_Int, go_sem, ↓reduceIte, Nat.reduceEqDiff, Nat.reduceAdd, Nat.reduceMul, Nat.reduceLeDiff, Nat.reduceLT, Int.reduceLE, Int.reduceLT, reduceCtorEq]
    obtain ⟨τ, hτ⟩ : ∃ τ, τ = List.set (σ ++ [AObj.arr 1 34 6 (aggs (Q.map mp))]) 0 (AObj.box (.ref σ.length 1 0 Q.length :: .nils :: ints P)) := ⟨_, rfl⟩
    have hτl : τ.length = σ.length + 1 := by rw [hτ, List.length_set, List.length_append]; rfl
    have m0 : τ[0]? = some (.box (.ref σ.length 1 0 Q.length :: .nils :: ints P)) := by rw [hτ]; exact List.getElem?_set_self (by simp)
    have mE : τ[σ.length]? = some (.arr 1 34 6 (aggs (Q.map mp))) := by rw [hτ, List.getElem?_set_ne (by omega)]; simp
    have mk : ∀ id, id < σ.length → id ≠ 0 → τ[id]? = σ[id]? := fun id h1 h2 => by rw [hτ, List.getElem?_set_ne (Ne.symm h2), List.getElem?_append_left h1]
    rw [← hτ]
    clear hτ
    try simp only [OpK_eq, HKv, m0, take6, List.drop_zero, Int.cast_ofNat_Int, go_sem, ↓reduceIte, Nat.reduceEqDiff, Nat.reduceAdd, Nat.reduceMul, Nat.reduceLeDiff, Nat.reduceLT, Int.reduceLE, Int.reduceLT, reduceCtorEq]
    have hsm := fun (K' : PV → Heap → Prop) => sort_maps (K := K') (σ := τ) (ms := Q.map mp) (e := 34) (ver := 1) (id := σ.length) (fun x hx => by obtain ⟨f, hf', rfl⟩ := List.mem_map.1 hx; exact (j3 f hf').mp_len) (by omega) (by omega) mE
    rw [hQl] at hsm
    refine ⟨by omega, hsm _ fun r hr hs => ?_⟩
    obtain rfl := sorted_elS j3 hd hr hs
    obtain ⟨s1, s2, s3⟩ := elS_ok j3
    have hSl : (elS n Q).length = Q.length := by
      have := hr.length_eq
      rw [List.length_map, List.length_map] at this; exact this
    generalize hSE : elS n Q = S at *
    obtain ⟨ρ, hρ⟩ : ∃ ρ, ρ = τ.set σ.length (.arr 1 34 6 (aggs (S.map mp))) := ⟨_, rfl⟩
    have hρl : ρ.length = σ.length + 1 := by rw [hρ, List.length_set, hτl]
    have n0 : ρ[0]? = some (.box (.ref σ.length 1 0 Q.length :: .nils :: ints P)) := by rw [hρ, List.getElem?_set_ne (by omega)]; exact m0
    have nE : ρ[σ.length]? = some (.arr 1 34 6 (aggs (S.map mp))) := by rw [hρ]; exact List.getElem?_set_self (by omega)
    have nk : ∀ id, id < σ.length → id ≠ 0 → ρ[id]? = σ[id]? := fun id h1 h2 => by rw [hρ, List.getElem?_set_ne (by omega)]; exact mk id h1 h2
    rw [← hρ]
    clear hρ
    have nW : WG ρ (fun id => id = 0 ∨ id = 1 ∨ σ.length ≤ id) 2 u2 ws W := ⟨(nk 2 hσ2 (by decide)).trans j8.out, j8.len, fun a w l hw hl => (j8.row a w l hw hl).keep fun id hid hA => ⟨nk id hid fun e => hA (.inl (.inl e)), fun h => by
      rcases h with (h | h | h) | h
      · exact hA (.inl (.inl h))
      · exact hA (.inl (.inr h))
      · omega
      · exact hA (.inr h)⟩⟩
    have hPl : P.length = 3125 := j5.1
    have hSm : ∀ f ∈ S, f ∈ Q := fun f hf => (s2 f).1 hf
    try simp only [OpK_eq, HKv, n0, nE, aggs_length, List.length_map, take6, List.drop_zero, Int.cast_ofNat_Int, go_sem, ↓reduceIte, Nat.reduceEqDiff, Nat.reduceAdd, Nat.reduceMul, Nat.reduceLeDiff, Nat.reduceLT, Int.reduceLE, Int.reduceLT, reduceCtorEq]
    refine ⟨by omega, ?_⟩
    refine KL_ind k154_b2.eq_1 (fun y : Nat × PV × Heap => [(6, .ptr 0 0), (8, .ref 2 u2 0 W.length), (98, .ref σ.length 1 0 Q.length), (99, .int .i64 Q.length), (100, .int .i64 y.1)]) (fun y => y.2.2)
      (fun ⟨y, wv, ω⟩ => y ≤ S.length ∧ σ.length < ω.length ∧ ω[0]? = some (.box (.ref σ.length 1 0 Q.length :: wv :: ints P)) ∧ ω[σ.length]? = some (.arr 1 34 6 (aggs (S.map mp))) ∧ WG ω (fun id => id = 0 ∨ id = 1 ∨ σ.length ≤ id) 2 u2 ws W ∧ (y = 0 ∧ wv = .nils ∨ ∃ q v ws', wv = .ref q v 0 y ∧ σ.length < q ∧ WG ω (fun id => id = 0 ∨ id = 1 ∨ id = 2 ∨ σ.length ≤ id) q v ws' (wdS S P W y))) (fun y => S.length - y.1) [6, 8, 98, 99, 100]
      (0, .nils, ρ) (by simp [keep]) rfl ⟨Nat.zero_le _, by omega, n0, nE, nW, .inl ⟨rfl, rfl⟩⟩ fun ⟨y, wv, ω⟩ ⟨o1, o2, o3, o4, o5, o6⟩ ihy => ?_
    · try simp only at o1 o2 o3 o4 o5 o6
      try simp only [OpK_eq, HKv, o3, o4, aggs_length, List.length_map, hSl, take6, List.drop_zero, Int.cast_ofNat_Int, go_sem, ↓reduceIte, Nat.reduceEqDiff, Nat.reduceAdd, Nat.reduceMul, Nat.reduceLeDiff, Nat.reduceLT, Int.reduceLE, Int.reduceLT, reduceCtorEq]
      refine ⟨fun g3 => ?_, fun g3 => ?_⟩
      · have hyl : y < S.length := by omega
        have hgy : (S.map mp).getD y [] = mp S[y] := by simp [List.getD_eq_getElem?_getD, hyl]
        have hgs : S.getD y [] = S[y] := by simp [List.getD_eq_getElem?_getD, hyl]
        have hfO := s1.1 _ (List.getElem_mem hyl)
        have hfQ := hSm _ (List.getElem_mem hyl)
        have h6y := hfO.mp_len
        have hwd := wdS_succ (P := P) (W := W) hyl
        rw [hgs] at hwd
        generalize S[y] = f at *
        have hN := num_lt hfO
        obtain ⟨jj, hjj, hje⟩ := List.getElem_of_mem hfQ
        have hpl := (j5.2.2 f hfO).1 jj (by rw [List.getElem?_eq_getElem hjj, hje])
        have hgb : ∀ (s : Heap) (a : AObj), (s ++ [a])[s.length]? = some a := fun s a => by simp
        have hsb : ∀ (s : Heap) (a b : AObj), (s ++ [a]).set s.length b = s ++ [b] := fun s a b => by simp [List.set_append_right]
        have hilg : (ints (mp f)).length = 6 := by rw [ints_length, h6y]
        have hz0 : ∀ X, (ω ++ X)[0]? = some (.box (.ref σ.length 1 0 Q.length :: wv :: ints P)) := fun X => (List.getElem?_append_left (by omega)).trans o3
        have hz2 : ∀ X, (ω ++ X)[2]? = some (.arr u2 25 1 ws) := fun X => (List.getElem?_append_left (by omega)).trans o5.out
        try simp only [OpK_eq, HKv, o4, aggs_length, List.length_map, hSl, hgy, h6y, hgb, hsb, hilg, hz0, hz2, take6, List.drop_zero, Int.cast_ofNat_Int, go_sem, ↓reduceIte, Nat.reduceEqDiff, Nat.reduceAdd, Nat.reduceMul, Nat.reduceLeDiff, Nat.reduceLT, Int.reduceLE, Int.reduceLT, reduceCtorEq]
        refine ⟨⟨by omega, Nat.le_refl _⟩, by omega, fun _ => ⟨by omega, ?_⟩⟩
        refine (p190 f n hfO).pgo ?_
        try simp only [OpK_eq, HKv, o4, aggs_length, List.length_map, hSl, hgy, h6y, hgb, hsb, hilg, hz0, hz2, hPl, ints_length, hpl, take6, List.drop_zero, Int.cast_ofNat_Int, go_sem, ↓reduceIte, Nat.reduceEqDiff, Nat.reduceAdd, Nat.reduceMul, Nat.reduceLeDiff, Nat.reduceLT, Int.reduceLE, Int.reduceLT, reduceCtorEq]
        have hjt : ((jj : Int) + 1 - 1).toNat = jj := by omega
        rw [hjt]
        have hwl := o5.len
        have hjW : jj < W.length := by omega
        obtain ⟨w, hw, hWd⟩ := o5.cell (i := jj) hjW
        have hwc := hWd.cs
        have hWj : W.getD ((jj : Int) + 1 - 1).toNat [] = W[jj] := by rw [hjt, List.getD_eq_getElem?_getD, List.getElem?_eq_getElem hjW]; rfl
        rw [hpl, hWj] at hwd
        generalize W[jj] = wj at hWd hwd
        refine ⟨by omega, by omega, fun _ => ⟨⟨by omega, by omega⟩, ⟨by omega, by omega, by omega⟩, by omega, fun x hx => ?_⟩⟩
        rw [hw] at hx; cases hx
        rw [hwc.1]
        refine ⟨by simp, fun c hc => ?_⟩
        simp only [List.getElem?_cons_zero, Option.some.injEq] at hc; subst hc
        refine ⟨by rw [hwc.1]; simp [hwc.2], ?_⟩
        have hz2W : ∀ X, WG (ω ++ X) (fun id => id = 0 ∨ id = 1 ∨ σ.length ≤ id) 2 u2 ws W := fun X => o5.keepQ fun id hid _ => List.getElem?_append_left hid
        have hzE : ∀ X, (ω ++ X)[σ.length]? = some (.arr 1 34 6 (aggs (S.map mp))) := fun X => (List.getElem?_append_left o2).trans o4
        have hWdB : ∀ X (B : Nat → Prop), (∀ id, id < σ.length → id ≠ 0 → id ≠ 1 → id ≠ 2 → ¬ B id) → Wd (ω ++ X) B w wj := fun X B hB => hWd.keep fun id hid hA => ⟨List.getElem?_append_left hid, hB id (Nat.lt_of_not_le fun h => hA (.inl (.inr (.inr h)))) (fun h => hA (.inl (.inl h))) (fun h => hA (.inl (.inr (.inl h)))) (fun h => hA (.inr h))⟩
        have hap : ∀ (b : AObj) (K' : PV → Heap → Prop), (∀ wv' χ, σ.length < χ.length → χ[0]? = some (.box (.ref σ.length 1 0 Q.length :: wv :: ints P)) → χ[σ.length]? = some (.arr 1 34 6 (aggs (S.map mp))) → WG χ (fun id => id = 0 ∨ id = 1 ∨ σ.length ≤ id) 2 u2 ws W → (∃ q v ws', wv' = .ref q v 0 (y + 1) ∧ σ.length < q ∧ WG χ (fun id => id = 0 ∨ id = 1 ∨ id = 2 ∨ σ.length ≤ id) q v ws' (wdS S P W (y + 1))) → K' wv' χ) → aApp 25 1 wv (.list [w]) (ω ++ [b]) K' := fun b K' hK' => by
          rcases o6 with ⟨rfl, rfl⟩ | ⟨q, v, ws', rfl, hq, hG⟩
          · have hok : okL 1 [w] = True := by simp [okL, hwc.1, hwc.2]
            simp only [aApp_nils, aNews_list, hok, true_and, AppN_def]
            have h0 : ∀ id, id < ω.length → (ω ++ [b] ++ [AObj.arr 0 25 1 [w]])[id]? = ω[id]? := fun id hid => by rw [List.append_assoc]; exact List.getElem?_append_left hid
            refine ⟨by simp, hK' _ _ (by simp; omega) ((h0 0 (by omega)).trans o3) ((h0 _ o2).trans o4) (by rw [List.append_assoc]; exact hz2W _) ⟨_, 0, [w], rfl, by simp; omega, ?_⟩⟩
            rw [hwd, show wdS S P W 0 = [] by rfl, List.nil_append]
            refine ⟨by simp, rfl, fun a w' l' hw' hl' => ?_⟩
            have e1 := List.mem_of_getElem? hw'
            have e2 := List.mem_of_getElem? hl'
            simp only [List.mem_singleton] at e1 e2
            subst e1; subst e2
            rw [List.append_assoc]
            exact hWdB _ _ fun id h1 h2 h3 h4 h => by
              simp only [List.length_append] at h
              omega
          · have hwl' : (wdS S P W y).length = y := by simp [wdS]; omega
            have hG' : WG (ω ++ [b]) (fun id => id = 0 ∨ id = 1 ∨ id = 2 ∨ σ.length ≤ id) q v ws' (wdS S P W y) := hG.keepQ fun id hid _ => List.getElem?_append_left hid
            have hpu := hG'.push (l := wj) (w := w) (hWdB _ _ fun id h1 h2 h3 h4 h => by omega) (by omega) (K := K') fun hn => hK' _ _ (by simp; omega) ((List.getElem?_set_ne (by omega)).trans (hz0 _)) ((List.getElem?_set_ne (by omega)).trans (hzE _)) ((hz2W [b]).keepQ fun id hid h => List.getElem?_set_ne fun e => by rcases h with h | h <;> omega) ⟨q, v + 1, _, by rw [hwl'], hq, by rw [hwd]; exact hn⟩
            rwa [hwl'] at hpu
        refine hap _ _ fun wv' χ x1 x2 x3 x4 x5 => ?_
        try simp only [OpK_eq, HKv, x2, hPl, ints_length, take6, List.drop_zero, Int.cast_ofNat_Int, go_sem, ↓reduceIte, Nat.reduceEqDiff, Nat.reduceAdd, Nat.reduceMul, Nat.reduceLeDiff, Nat.reduceLT, Int.reduceLE, Int.reduceLT, reduceCtorEq]
        obtain ⟨q, v, ws', rfl, hq, hG⟩ := x5
        refine ⟨⟨rfl, rfl⟩, by omega, ihy (y + 1, .ref q v 0 (y + 1), _) ⟨by omega, by rw [List.length_set]; exact x1, List.getElem?_set_self (by omega), (List.getElem?_set_ne (by omega)).trans x3, x4.keepQ fun id hid h => List.getElem?_set_ne fun e => ?_, .inr ⟨q, v, ws', rfl, hq, hG.keepQ fun id hid h => List.getElem?_set_ne fun e => ?_⟩⟩ (by show S.length - (y + 1) < S.length - y; omega) _ _ (by simp [keep]) rfl⟩
        · rcases h with h | h
          · exact h (.inl e.symm)
          · omega
        · rcases h with h | h
          · exact h (.inl e.symm)
          · omega
      · have hyS : y = S.length := by omega
        subst hyS
        rcases o6 with ⟨e0, _⟩ | ⟨q, v, ws', rfl, hq, hG⟩
        · omega
        refine ⟨by omega, ?_⟩
        have hl0 : (setP S P 0) = P := rfl
        refine KL_ind k154_b3.eq_1 (fun y : Nat × Heap => [(6, .ptr 0 0), (128, .ref σ.length 1 0 Q.length), (129, .int .i64 Q.length), (130, .int .i64 y.1)]) (fun y => y.2)
          (fun ⟨y, ξ⟩ => y ≤ S.length ∧ σ.length < ξ.length ∧ ξ[0]? = some (.box (.ref σ.length 1 0 Q.length :: .ref q v 0 S.length :: ints (setP S P y))) ∧ ξ[σ.length]? = some (.arr 1 34 6 (aggs (S.map mp))) ∧ WG ξ (fun id => id = 0 ∨ id = 1 ∨ id = 2 ∨ σ.length ≤ id) q v ws' (wdS S P W S.length)) (fun y => S.length - y.1) [6, 128, 129, 130]
          (0, ω) (by simp [keep]) rfl ⟨Nat.zero_le _, o2, o3, o4, hG⟩ fun ⟨y, ξ⟩ ⟨z1, z2, z3, z4, z5⟩ ihz => ?_
        try simp only at z1 z2 z3 z4 z5
        obtain ⟨hsl, _⟩ := setP_spec s1 hPl y z1
        try simp only [OpK_eq, HKv, z3, z4, aggs_length, List.length_map, hSl, take6, List.drop_zero, Int.cast_ofNat_Int, go_sem, ↓reduceIte, Nat.reduceEqDiff, Nat.reduceAdd, Nat.reduceMul, Nat.reduceLeDiff, Nat.reduceLT, Int.reduceLE, Int.reduceLT, reduceCtorEq]
        refine ⟨fun g4 => ?_, fun g4 => ?_⟩
        · have hyl : y < S.length := by omega
          have hgy : (S.map mp).getD y [] = mp S[y] := by simp [List.getD_eq_getElem?_getD, hyl]
          have hgs : S.getD y [] = S[y] := by simp [List.getD_eq_getElem?_getD, hyl]
          have hfO := s1.1 _ (List.getElem_mem hyl)
          have h6y := hfO.mp_len
          have hsp : setP S P (y + 1) = (setP S P y).set (numK S[y] 5) ((y : Int) + 1) := by rw [setP, hgs]
          generalize S[y] = f at *
          have hN := num_lt hfO
          have hgb : ∀ (s : Heap) (a : AObj), (s ++ [a])[s.length]? = some a := fun s a => by simp
          have hsb : ∀ (s : Heap) (a b : AObj), (s ++ [a]).set s.length b = s ++ [b] := fun s a b => by simp [List.set_append_right]
          have hilg : (ints (mp f)).length = 6 := by rw [ints_length, h6y]
          have hz0 : ∀ X, (ξ ++ X)[0]? = some (.box (.ref σ.length 1 0 Q.length :: .ref q v 0 S.length :: ints (setP S P y))) := fun X => (List.getElem?_append_left (by omega)).trans z3
          try simp only [OpK_eq, HKv, z4, aggs_length, List.length_map, hSl, hgy, h6y, hgb, hsb, hilg, hz0, take6, List.drop_zero, Int.cast_ofNat_Int, go_sem, ↓reduceIte, Nat.reduceEqDiff, Nat.reduceAdd, Nat.reduceMul, Nat.reduceLeDiff, Nat.reduceLT, Int.reduceLE, Int.reduceLT, reduceCtorEq]
          refine ⟨⟨by omega, Nat.le_refl _⟩, by omega, fun _ => ⟨by omega, ?_⟩⟩
          refine (p190 f n hfO).pgo ?_
          try simp only [OpK_eq, HKv, hgb, hsb, hilg, hz0, hsl, ints_length, take6, List.drop_zero, Int.cast_ofNat_Int, go_sem, ↓reduceIte, Nat.reduceEqDiff, Nat.reduceAdd, Nat.reduceMul, Nat.reduceLeDiff, Nat.reduceLT, Int.reduceLE, Int.reduceLT, reduceCtorEq]
          refine ⟨by omega, by omega, by omega, ihz (y + 1, _) ⟨by omega, by simp; omega, by rw [hsp]; exact List.getElem?_set_self (by simp), (List.getElem?_set_ne (by omega)).trans ((List.getElem?_append_left z2).trans z4), (z5.keepQ fun id hid _ => List.getElem?_append_left hid : WG (ξ ++ [AObj.box (ints (mp f))]) _ _ _ _ _).keepQ fun id hid h => List.getElem?_set_ne fun e => ?_⟩ (by show S.length - (y + 1) < S.length - y; omega) _ _ (by simp [keep]) rfl⟩
          rcases h with h | h
          · exact h (.inl e.symm)
          · omega
        · obtain rfl : y = S.length := by omega
          have hwl' : (wdS S P W S.length).length = S.length := by simp [wdS]
          have hsl' : (S.map mp).length = S.length := List.length_map _
          have hK := hK1 Q j2 j3 j4 (by rw [hP]; exact j5)
          unfold monV moV at hK
          rw [hSE, hP, hW] at hK
          refine Kv.Fin.freeze (Imm.tupL (.cons (.ptr 0 0 _ _ z3 (by simp only [List.length_cons]) ?_ fun a c d hc hd => ?_) (.cons Imm.still (.nil _)))) hK
          · simp [ints, PV.ok]
          · match a, hc, hd with
            | 0, hc, hd =>
              simp only [List.getElem?_cons_zero, Option.some.injEq] at hc hd
              subst hc; subst hd
              exact Imm.refa' z4 (by omega)
            | 1, hc, hd =>
              simp only [List.getElem?_cons_succ, List.getElem?_cons_zero, Option.some.injEq] at hc hd
              subst hc; subst hd
              exact z5.immN hwl'.symm
            | a + 2, hc, hd =>
              simp only [List.getElem?_cons_succ] at hc hd
              rw [hc] at hd; cases hd
              obtain ⟨x, _, rfl⟩ := ints_get hc
              exact Imm.still
/-- What newMonoid hands back. -/
theorem p154 (fs : List (List Nat)) (n : Nat) (h1 : 1 ≤ n) (h5 : n ≤ 5) (hf : ∀ f ∈ fs, Ok f n) (hfl : fs.length ≤ 1000) :
    Pure Tryz.prog 154 [.list (aggs (fs.map mp)), .int .i64 n] (match clR fs n with | none => .tup [.nilptr, .int .i64 3] | some Q => .tup [.fptr (monV fs n Q) 0, .int .i64 0]) := by
  refine p154_in fs n h1 h5 hf hfl (fun Q c1 c2 c3 c4 => ?_) (fun i c0 c1 => ?_)
  · have hR : clR fs n = some Q := by
      have := clB_stop c1 (Nat.le_refl _) (301 - Q.length)
      rwa [show Q.length + (301 - Q.length) = 301 by omega] at this
    rw [hR]
    exact ⟨rfl, rfl⟩
  · have hR : clR fs n = none := by
      have := clB_none c1 (301 - i)
      rwa [show i + (301 - i) = 301 by omega] at this
    rw [hR]
    exact ⟨rfl, rfl⟩
end Go.Proofs.YtpfapiiinkkcgaaGreat
end
section
/- MonOk: what newMonoid owes is paid; TableOf, both sides. -/
namespace Go.Proofs.YtpfapiiinkkcgaaGreat
open Go.Kv
set_option linter.unusedVariables false
set_option linter.unusedSimpArgs false
attribute [local irreducible] ACall PCall KL
theorem clA_nd {fs : List (List Nat)} {m : List Nat} {Q : List (List Nat)} (hQ : Q.Nodup) : ∀ k R, clA fs m Q k = some R → R.Nodup
  | 0, R, h => by
    have : Q = R := by simpa [clA] using h
    rw [← this]; exact hQ
  | k + 1, R, h => by
    unfold clA at h
    cases hc : clA fs m Q k with
    | none => rw [hc] at h; cases h
    | some R' =>
      have hr := clA_nd hQ k R' hc
      rw [hc] at h
      simp only at h
      split at h
      · cases h; exact hr
      · rename_i hn
        split at h
        · cases h
        · cases h
          rw [List.nodup_append]
          exact ⟨hr, by simp, fun a ha b hb e => by simp only [List.mem_singleton] at hb; subst hb; subst e; exact hn ha⟩
theorem clB_nd {fs : List (List Nat)} {n : Nat} : ∀ i Q, clB fs n i = some Q → Q.Nodup
  | 0, Q, h => by
    have : [List.range n] = Q := by simpa [clB] using h
    rw [← this]; simp
  | i + 1, Q, h => by
    rw [clB] at h
    cases hc : clB fs n i with
    | none => rw [hc] at h; cases h
    | some Q' =>
      have hr := clB_nd i Q' hc
      rw [hc] at h
      simp only at h
      split at h
      · exact clA_nd hr _ _ h
      · cases h; exact hr
theorem fd_of {n : Nat} : ∀ (k : Nat) (Q : List (List Nat)), Q.length = k → k ≤ 300 → Q.Nodup → (∀ f ∈ Q, Ok f n) → FdOk n (fdP Q P00) Q
  | 0, Q, hk, _, _, _ => by
    obtain rfl := List.eq_nil_of_length_eq_zero hk
    exact fd_nil (N := 3125) rfl (show P00 = List.replicate 3125 0 by unfold P00; rfl)
  | k + 1, Q, hk, h3, hd, hO => by
    have hne : Q ≠ [] := fun e => by rw [e] at hk; simp at hk
    have e := List.dropLast_concat_getLast hne
    generalize Q.dropLast = R at e
    generalize Q.getLast hne = g at e
    subst e
    rw [List.nodup_append] at hd
    have hR : R.length = k := by simpa using hk
    have := fd_of k R hR (by omega) hd.1 fun f hf => hO f (by simp [hf])
    rw [← fdP_push]
    exact this.push (hO g (by simp)) (fun h => hd.2.2 g h g (by simp) rfl) (by omega)
theorem monOk (fs : List (List Nat)) (n : Nat) (h1 : 1 ≤ n) (h5 : n ≤ 5) (hf : ∀ f ∈ fs, Ok f n) (hfl : fs.length ≤ 1000) : MonOk fs n := by
  have hM := p154 fs n h1 h5 hf hfl
  unfold MonOk
  cases hR : clR fs n with
  | none => rw [hR] at hM; exact hM
  | some Q =>
    rw [hR] at hM
    obtain ⟨c3, c4⟩ := clB_okQ h1 h5 hf _ _ hR
    obtain ⟨s1, s2, s3⟩ := elS_ok c3
    have hF := fd_of Q.length Q rfl (by omega) (clB_nd _ _ hR) c3
    exact ⟨_, _, inferInstance, setP_ok s1 (by omega) hF.1 hF.2.1 fun f h4 h5 => (hF.2.2 f h4).2 fun h => h5 ((s2 f).2 h), hM⟩
theorem clR_okQ {fs : List (List Nat)} {n : Nat} (h1 : 1 ≤ n) (h5 : n ≤ 5) (hf : ∀ f ∈ fs, Ok f n) {Q : List (List Nat)} (hR : clR fs n = some Q) : (∀ f ∈ Q, Ok f n) ∧ Q.length ≤ 300 := clB_okQ h1 h5 hf _ _ hR
attribute [local irreducible] clR
end Go.Proofs.YtpfapiiinkkcgaaGreat
end
section
/- The idempotents of a monoid. -/
namespace Go.Proofs.YtpfapiiinkkcgaaGreat
open Go.Kv
set_option maxRecDepth 100000
/- impl.IdempotentsOf -/
def k46 : KC := (.seq (.ops [⟨(some 2), none, .mv (.c (.nils))⟩, ⟨(some 3), none, .mv (.c (.int .i64 0))⟩])
  (.seq (.ops [⟨(some 4), none, .mv (.t 0)⟩, ⟨(some 5), none, .call (.c (.fn (.func 119) [] [])) [(.t 4), (.c (.fn (.func 120) [] []))]⟩, ⟨(some 6), none, .extr 0 (.t 5)⟩, ⟨(some 7), none, .extr 1 (.t 5)⟩, ⟨(some 2), none, .mv (.t 6)⟩, ⟨(some 3), none, .mv (.t 7)⟩])
  .ret))
theorem e46 {args : List PV} {σ : Heap} {K : PV → Heap → Prop} (hl : args.length ≤ 8) (h : Wf σ → (∀ a ∈ args, PV.upto σ.length a) → vc (mkCfg Tryz.prog mixed [] 8 σ.length) k46 (FinK σ.length [.t 2, .t 3] K) (argEnv 0 args) σ) : ACall Tryz.prog 46 args σ K :=
  ACall_enter (C := mkCfg Tryz.prog mixed [] 8 σ.length) (c := Tryz.f46.body.getD .skip) Tryz.func46 (by kernel_rfl) (by kernel_rfl) (by kernel_rfl) rfl hl (by kernel_rfl) (by kernel_rfl) h
/- impl.IdempotentsOf$1 -/
def k120 : KC := (.seq (.ops [⟨(some 4), none, .mv (.c (.bool false))⟩])
  (.seq (.ops [⟨(some 5), none, .mv (.t 0)⟩, ⟨(some 6), none, .nilck (.t 5)⟩, ⟨(some 7), none, .fieldA 0 (.t 6)⟩, ⟨(some 8), none, .load false 1 (.t 7)⟩, ⟨(some 9), none, .mv (.t 1)⟩, ⟨(some 10), none, .idxS 6 (.t 8) (.t 9)⟩, ⟨(some 11), none, .load true 6 (.t 10)⟩, ⟨(some 12), none, .call (.c (.fn (.func 121) [] [])) [(.t 11)]⟩, ⟨(some 4), none, .mv (.t 12)⟩])
  .ret))
theorem e120 {args : List PV} {σ : Heap} {K : PV → Heap → Prop} (hl : args.length ≤ 13) (h : Wf σ → (∀ a ∈ args, PV.upto σ.length a) → vc (mkCfg Tryz.prog mixed [] 13 σ.length) k120 (FinK σ.length [.t 4] K) (argEnv 0 args) σ) : ACall Tryz.prog 120 args σ K :=
  ACall_enter (C := mkCfg Tryz.prog mixed [] 13 σ.length) (c := Tryz.f120.body.getD .skip) Tryz.func120 (by kernel_rfl) (by kernel_rfl) (by kernel_rfl) rfl hl (by kernel_rfl) (by kernel_rfl) h
/- impl.elementsThat -/
def k119 : KC := (.seq (.ops [⟨(some 3), none, .box true (.t 1)⟩, ⟨(some 4), none, .mv (.c (.nils))⟩, ⟨(some 5), none, .mv (.c (.int .i64 0))⟩])
  (.seq (.ops [⟨(some 10), none, .mv (.t 0)⟩, ⟨(some 11), none, .call (.c (.fn (.func 100) [] [])) [(.t 10), (.c (.nils))]⟩, ⟨(some 9), none, .mv (.t 11)⟩, ⟨(some 12), none, .extr 0 (.t 9)⟩, ⟨(some 13), none, .extr 1 (.t 9)⟩, ⟨(some 14), none, .extr 2 (.t 9)⟩, ⟨(some 6), none, .alloc [.nilptr]⟩, ⟨none, none, .store 1 (.t 6) (.t 12)⟩, ⟨(some 7), none, .mv (.t 13)⟩, ⟨(some 8), none, .mv (.t 14)⟩])
  (.seq (.seq (.ops [⟨(some 15), none, .mv (.t 8)⟩, ⟨(some 16), none, .bin .neq (.t 15) (.c (.int .i64 0))⟩])
  (.cond (.t 16) (.seq (.ops [⟨(some 17), none, .mv (.t 8)⟩, ⟨(some 4), none, .mv (.c (.nils))⟩, ⟨(some 5), none, .mv (.t 17)⟩])
  .ret) .skip))
  (.seq (.ops [⟨(some 18), none, .load false 1 (.t 6)⟩, ⟨(some 19), none, .mkfn (.func 169) [] [(.t 3), (.t 6)]⟩, ⟨(some 20), none, .call (.c (.fn (.func 168) [] [])) [(.t 18), (.t 19)]⟩, ⟨(some 4), none, .mv (.t 20)⟩, ⟨(some 5), none, .mv (.c (.int .i64 0))⟩])
  .ret))))
theorem e119 {args : List PV} {σ : Heap} {K : PV → Heap → Prop} (hl : args.length ≤ 21) (h : Wf σ → (∀ a ∈ args, PV.upto σ.length a) → vc (mkCfg Tryz.prog mixed [3] 21 σ.length) k119 (FinK σ.length [.t 4, .t 5] K) (argEnv 0 args) σ) : ACall Tryz.prog 119 args σ K :=
  ACall_enter (C := mkCfg Tryz.prog mixed [3] 21 σ.length) (c := Tryz.f119.body.getD .skip) Tryz.func119 (by kernel_rfl) (by kernel_rfl) (by kernel_rfl) rfl hl (by kernel_rfl) (by kernel_rfl) h
/- impl.elementsThat$1 -/
def k169 : KC := (.seq (.ops [⟨(some 4), none, .mv (.c (.bool false))⟩])
  (.seq (.ops [⟨(some 5), none, .load false 1 (.t 1)⟩, ⟨(some 6), none, .load false 1 (.t 2)⟩, ⟨(some 7), none, .mv (.t 0)⟩, ⟨(some 8), none, .call (.t 5) [(.t 6), (.t 7)]⟩, ⟨(some 4), none, .mv (.t 8)⟩])
  .ret))
theorem e169 {args : List PV} {σ : Heap} {K : PV → Heap → Prop} (hl : args.length ≤ 9) (h : Wf σ → (∀ a ∈ args, PV.upto σ.length a) → vc (mkCfg Tryz.prog mixed [] 9 σ.length) k169 (FinK σ.length [.t 4] K) (argEnv 0 args) σ) : ACall Tryz.prog 169 args σ K :=
  ACall_enter (C := mkCfg Tryz.prog mixed [] 9 σ.length) (c := Tryz.f169.body.getD .skip) Tryz.func169 (by kernel_rfl) (by kernel_rfl) (by kernel_rfl) rfl hl (by kernel_rfl) (by kernel_rfl) h
/- (*impl.monoid).only -/
/- live [1, 5, 11, 12, 13] -/
def k168_b0 : KC := (.seq (.ops [⟨(some 14), none, .bin .lss (.t 13) (.t 12)⟩])
  (.seq (.cond (.t 14) .skip (.exit 0))
  (.seq (.block 1 (.seq (.ops [⟨(some 15), none, .mv (.t 13)⟩, ⟨(some 16), none, .idxS 6 (.t 11) (.t 13)⟩, ⟨(some 17), none, .load true 6 (.t 16)⟩, ⟨(some 7), none, .alloc [.int .i64 0, .int .i64 0, .int .i64 0, .int .i64 0, .int .i64 0, .int .i64 0]⟩, ⟨(some 6), none, .mv (.t 15)⟩, ⟨none, none, .store 6 (.t 7) (.t 17)⟩])
  (.seq (.ops [⟨(some 18), none, .mv (.t 1)⟩, ⟨(some 19), none, .mv (.t 6)⟩, ⟨(some 20), none, .call (.t 18) [(.t 19)]⟩])
  (.cond (.t 20) (.ops [⟨(some 21), none, .mv (.t 5)⟩, ⟨(some 22), none, .load true 6 (.t 7)⟩, ⟨(some 23), none, .bsl true 34 6 [(.t 22)]⟩, ⟨(some 24), none, .app (.t 21) (.t 23) 34 6⟩, ⟨(some 5), none, .mv (.t 24)⟩]) .skip))))
  (.ops [⟨(some 25), none, .bin .add (.t 13) (.c (.int .i64 1))⟩, ⟨(some 13), none, .mv (.t 25)⟩]))))
def k168 : KC := (.seq (.ops [⟨(some 4), none, .mv (.c (.nils))⟩])
  (.seq (.ops [⟨(some 5), none, .mv (.c (.nils))⟩])
  (.seq (.seq (.ops [⟨(some 8), none, .mv (.t 0)⟩, ⟨(some 9), none, .nilck (.t 8)⟩, ⟨(some 10), none, .fieldA 0 (.t 9)⟩, ⟨(some 11), none, .load false 1 (.t 10)⟩, ⟨(some 12), none, .len false (.t 11)⟩, ⟨(some 13), none, .mv (.c (.int .i64 0))⟩])
  (.block 0 (.loop k168_b0)))
  (.seq (.ops [⟨(some 26), none, .mv (.t 5)⟩, ⟨(some 4), none, .mv (.t 26)⟩])
  .ret))))
theorem e168 {args : List PV} {σ : Heap} {K : PV → Heap → Prop} (hl : args.length ≤ 27) (h : Wf σ → (∀ a ∈ args, PV.upto σ.length a) → vc (mkCfg Tryz.prog mixed [23] 27 σ.length) k168 (FinK σ.length [.t 4] K) (argEnv 0 args) σ) : ACall Tryz.prog 168 args σ K :=
  ACall_enter (C := mkCfg Tryz.prog mixed [23] 27 σ.length) (c := Tryz.f168.body.getD .skip) Tryz.func168 (by kernel_rfl) (by kernel_rfl) (by kernel_rfl) rfl hl (by kernel_rfl) (by kernel_rfl) h
/- (impl.Map).isIdempotent -/
def k121 : KC := (.seq (.ops [⟨(some 1), none, .box true (.t 0)⟩, ⟨(some 2), none, .mv (.c (.bool false))⟩])
  (.seq (.draw [⟨(some 3), none, .load true 6 (.t 1)⟩, ⟨(some 4), none, .load true 6 (.t 1)⟩, ⟨(some 6), none, .load true 6 (.t 1)⟩, ⟨(some 5), none, .pcall (.c (.fn (.func 118) [] [])) [(.t 3), (.t 4)]⟩, ⟨(some 7), none, .aeq false 6 (.t 5) (.t 6)⟩, ⟨(some 2), none, .mv (.t 7)⟩])
  .ret))
theorem e121 {args : List PV} {σ : Heap} {K : PV → Heap → Prop} (hl : args.length ≤ 8) (h : Wf σ → (∀ a ∈ args, PV.upto σ.length a) → vc (mkCfg Tryz.prog mixed [1] 8 σ.length) k121 (FinK σ.length [.t 2] K) (argEnv 0 args) σ) : ACall Tryz.prog 121 args σ K :=
  ACall_enter (C := mkCfg Tryz.prog mixed [1] 8 σ.length) (c := Tryz.f121.body.getD .skip) Tryz.func121 (by kernel_rfl) (by kernel_rfl) (by kernel_rfl) rfl hl (by kernel_rfl) (by kernel_rfl) h
end Go.Proofs.YtpfapiiinkkcgaaGreat
namespace Go.Proofs.YtpfapiiinkkcgaaGreat
open Go.Kv
set_option linter.unusedVariables false
set_option linter.unusedSimpArgs false
attribute [local irreducible] ACall PCall KL
theorem p121 (f : List Nat) (n : Nat) (hf : Ok f n) : Pure Tryz.prog 121 [.agg (ints (mp f))] (.bool (decide (mul f f = f))) := by
  have h6 := hf.mp_len
  have hm6 := (hf.mul hf).mp_len
  have hi1 : (ints (mp f)).length = 6 := by rw [ints_length, h6]
  have hi2 : (ints (mp (mul f f))).length = 6 := by rw [ints_length, hm6]
  refine e121 (by simp) fun _ _ => ?_
  simp only [k121, argEnv, h6, hi1, take6, List.drop_zero, Int.cast_ofNat_Int, go_sem, ↓reduceIte, Nat.reduceEqDiff, Nat.reduceAdd, Nat.reduceMul, Nat.reduceLeDiff, Nat.reduceLT, Int.reduceLE, Int.reduceLT, reduceCtorEq]
  refine (p118 f f n hf hf).pgo ?_
  try simp only [OpK_eq, HKv, h6, hm6, hi1, hi2, take6, List.drop_zero, Int.cast_ofNat_Int, go_sem, ↓reduceIte, Nat.reduceEqDiff, Nat.reduceAdd, Nat.reduceMul, Nat.reduceLeDiff, Nat.reduceLT, Int.reduceLE, Int.reduceLT, reduceCtorEq]
  have e : decide (mp (mul f f) = mp f) = decide (mul f f = f) := decide_eq_decide.2 ⟨mp_inj, fun h => by rw [h]⟩
  rw [e]
  exact Kv.Fin.still ⟨rfl, rfl⟩
theorem p168 (W : PV) [Still W] (P : List Int) (hP : P.length = 3125) (S : List (List Nat)) (n : Nat) (hS : ∀ f ∈ S, Ok f n) (hSl : S.length ≤ 300) (fid : FuncId) (caps : List PV) (hc : ∀ a ∈ caps, PV.upto 0 a) (p : List Nat → Bool)
    (hp : ∀ i, i < S.length → Pure Tryz.prog fid (.int .i64 i :: caps) (.bool (p (S.getD i [])))) : ACall Tryz.prog 168 [.fptr (moV (.list (aggs (S.map mp))) W P) 0, .fn (.func fid) [] caps] [] fun v s => OwnA 34 s 0 s.length v ((S.filter p).map mp) ∧ Free s := by
  have hml : (moV (.list (aggs (S.map mp))) W P).length = 3127 := by rw [moV, List.length_cons, List.length_cons, ints_length, hP]
  have hm0 : (moV (.list (aggs (S.map mp))) W P)[0]? = some (.list (aggs (S.map mp))) := rfl
  have hS6 : ∀ i, i < S.length → (S.map mp).getD i [] = mp (S.getD i []) ∧ Ok (S.getD i []) n := fun i h => by
    have e : S.getD i [] = S[i] := by simp [List.getD_eq_getElem?_getD, h]
    rw [e]
    exact ⟨by simp [List.getD_eq_getElem?_getD, h], hS _ (List.getElem_mem h)⟩
  refine e168 (by simp) fun _ _ => ?_
  simp only [k168, argEnv, hml, hm0, aggs_length, List.length_map, take6, List.drop_zero, Int.cast_ofNat_Int, go_sem, ↓reduceIte, Nat.reduceEqDiff, Nat.reduceAdd, Nat.reduceMul, Nat.reduceLeDiff, Nat.reduceLT, Int.reduceLE, Int.reduceLT, reduceCtorEq]
  refine KL_ind k168_b0.eq_1 (fun x : Nat × PV × Heap => [(1, .fn (.func fid) [] caps), (5, x.2.1), (11, .list (aggs (S.map mp))), (12, .int .i64 S.length), (13, .int .i64 x.1)]) (fun x => x.2.2) (fun x => x.1 ≤ S.length ∧ OwnA 34 x.2.2 0 x.2.2.length x.2.1 (((S.take x.1).filter p).map mp) ∧ Free x.2.2) (fun x => S.length - x.1) [1, 5, 11, 12, 13] (0, .nils, []) (by simp [keep]) rfl ⟨Nat.zero_le _, by simpa using OwnA.nil, Free.nil⟩ fun ⟨x, v, σ⟩ ⟨hx, hT, hF⟩ ih => ?_
  simp only at hx hT hF
  try simp only [OpK_eq, HKv, take6, List.drop_zero, Int.cast_ofNat_Int, go_sem, ↓reduceIte, Nat.reduceEqDiff, Nat.reduceAdd, Nat.reduceMul, Nat.reduceLeDiff, Nat.reduceLT, Int.reduceLE, Int.reduceLT, reduceCtorEq]
  refine ⟨fun g1 => ?_, fun g1 => ?_⟩
  · have hxl : x < S.length := by omega
    obtain ⟨e1, o1⟩ := hS6 x hxl
    have h61 := o1.mp_len
    have hil : (ints (mp (S.getD x []))).length = 6 := by rw [ints_length, h61]
    have hself : ∀ a : AObj, (σ ++ [a])[σ.length]? = some a := fun a => by simp
    have hset : ∀ a b : AObj, (σ ++ [a]).set σ.length b = σ ++ [b] := fun a b => by simp [List.set_append_right]
    have hts : ((S.take (x + 1)).filter p) = (S.take x).filter p ++ if p (S.getD x []) = true then [S.getD x []] else [] := by
      rw [List.take_succ_eq_append_getElem hxl, List.filter_append]
      congr 1
      have e : S.getD x [] = S[x] := by simp [List.getD_eq_getElem?_getD, hxl]
      rw [e]
      by_cases h : p S[x] = true <;> simp [h]
    try simp only [OpK_eq, HKv, aggs_length, List.length_map, e1, h61, hil, hself, hset, take6, List.drop_zero, Int.cast_ofNat_Int, go_sem, ↓reduceIte, Nat.reduceEqDiff, Nat.reduceAdd, Nat.reduceMul, Nat.reduceLeDiff, Nat.reduceLT, Int.reduceLE, Int.reduceLT, reduceCtorEq]
    refine ⟨by omega, fun _ => ?_⟩
    refine (hp x hxl).use (.bool _) (.cons (.int _ _ _) (up_self hc)) ?_
    try simp only [OpK_eq, HKv, aggs_length, List.length_map, e1, h61, hil, hself, hset, take6, List.drop_zero, Int.cast_ofNat_Int, go_sem, ↓reduceIte, Nat.reduceEqDiff, Nat.reduceAdd, Nat.reduceMul, Nat.reduceLeDiff, Nat.reduceLT, Int.reduceLE, Int.reduceLT, reduceCtorEq]
    have hlen : ((S.take x).filter p).length ≤ x := Nat.le_trans (List.length_filter_le _ _) (by rw [List.length_take]; omega)
    refine ⟨fun hpx => ?_, fun hpx => ?_⟩
    · rw [if_pos hpx] at hts
      refine OwnA.push (OwnA.append hT _) (hF.append (Free.boxI _)) _ h61 (by rw [List.length_map]; omega) fun v' σ' hT' hf' => ?_
      try simp only [OpK_eq, HKv, take6, List.drop_zero, Int.cast_ofNat_Int, go_sem, ↓reduceIte, Nat.reduceEqDiff, Nat.reduceAdd, Nat.reduceMul, Nat.reduceLeDiff, Nat.reduceLT, Int.reduceLE, Int.reduceLT, reduceCtorEq]
      exact ⟨by omega, ih (x + 1, v', σ') ⟨by show x + 1 ≤ S.length; omega, by show OwnA _ σ' 0 _ v' (((S.take (x + 1)).filter p).map mp); rw [hts, List.map_append]; exact hT', hf'⟩ (by show S.length - (x + 1) < S.length - x; omega) _ _ (by simp [keep]) rfl⟩
    · rw [if_neg (by rw [hpx]; decide), List.append_nil] at hts
      exact ⟨by omega, ih (x + 1, v, _) ⟨by show x + 1 ≤ S.length; omega, by show OwnA _ _ 0 _ v (((S.take (x + 1)).filter p).map mp); rw [hts]; exact OwnA.append hT _, hF.append (Free.boxI _)⟩ (by show S.length - (x + 1) < S.length - x; omega) _ _ (by simp [keep]) rfl⟩
  · obtain rfl : x = S.length := by omega
    rw [List.take_length] at hT
    try simp only [OpK_eq, HKv, take6, List.drop_zero, Int.cast_ofNat_Int, go_sem, ↓reduceIte, Nat.reduceEqDiff, Nat.reduceAdd, Nat.reduceMul, Nat.reduceLeDiff, Nat.reduceLT, Int.reduceLE, Int.reduceLT, reduceCtorEq]
    exact Kv.Fin.now ⟨hT, hF⟩
theorem imm_box1 {σ : Heap} {id : Nat} {c : PV} (h : σ[id]? = some (.box [c])) (hok : c.ok = true) (hc : Imm σ c c) : Imm σ (.ptr id 0) (.fptr [c] 0) :=
  .ptr _ 0 _ _ h rfl (by simpa using hok) (fun j c d hc' hd => by rw [hc'] at hd; cases hd; have := List.mem_of_getElem? hc'; simp only [List.mem_singleton] at this; subst this; exact hc)
theorem p120 (W : PV) [Still W] (P : List Int) (hP : P.length = 3125) (S : List (List Nat)) (n : Nat) (hS : ∀ f ∈ S, Ok f n) (i : Nat) (hi : i < S.length) :
    Pure Tryz.prog 120 [.fptr (moV (.list (aggs (S.map mp))) W P) 0, .int .i64 i] (.bool (decide (mul (S.getD i []) (S.getD i []) = S.getD i []))) := by
  have hml : (moV (.list (aggs (S.map mp))) W P).length = 3127 := by rw [moV, List.length_cons, List.length_cons, ints_length, hP]
  have hm0 : (moV (.list (aggs (S.map mp))) W P)[0]? = some (.list (aggs (S.map mp))) := rfl
  have e : S.getD i [] = S[i] := by simp [List.getD_eq_getElem?_getD, hi]
  have e1 : (S.map mp).getD i [] = mp S[i] := by simp [List.getD_eq_getElem?_getD, hi]
  have o1 := hS _ (List.getElem_mem hi)
  have h61 := o1.mp_len
  rw [e]
  refine e120 (by simp) fun _ _ => ?_
  simp only [k120, argEnv, take6, List.drop_zero, Int.cast_ofNat_Int, go_sem, ↓reduceIte, Nat.reduceEqDiff, Nat.reduceAdd, Nat.reduceMul, Nat.reduceLeDiff, Nat.reduceLT, Int.reduceLE, Int.reduceLT, reduceCtorEq]
  try simp only [OpK_eq, HKv, hml, hm0, aggs_length, List.length_map, e1, h61, take6, List.drop_zero, Int.cast_ofNat_Int, go_sem, ↓reduceIte, Nat.reduceEqDiff, Nat.reduceAdd, Nat.reduceMul, Nat.reduceLeDiff, Nat.reduceLT, Int.reduceLE, Int.reduceLT, reduceCtorEq]
  refine ⟨by omega, fun _ => ?_⟩
  refine (p121 _ n o1).go ?_
  try simp only [OpK_eq, HKv, take6, List.drop_zero, Int.cast_ofNat_Int, go_sem, ↓reduceIte, Nat.reduceEqDiff, Nat.reduceAdd, Nat.reduceMul, Nat.reduceLeDiff, Nat.reduceLT, Int.reduceLE, Int.reduceLT, reduceCtorEq]
  exact Kv.Fin.still ⟨rfl, rfl⟩
theorem p169 (W : PV) [Still W] (P : List Int) (S : List (List Nat)) (fid : FuncId) (i : Nat) (r : Bool) (h : Pure Tryz.prog fid [.fptr (moV (.list (aggs (S.map mp))) W P) 0, .int .i64 i] (.bool r)) :
    Pure Tryz.prog 169 [.int .i64 i, .fptr [.fn (.func fid) [] []] 0, .fptr [.fptr (moV (.list (aggs (S.map mp))) W P) 0] 0] (.bool r) := by
  refine e169 (by simp) fun _ _ => ?_
  simp only [k169, argEnv, take6, List.drop_zero, Int.cast_ofNat_Int, go_sem, ↓reduceIte, Nat.reduceEqDiff, Nat.reduceAdd, Nat.reduceMul, Nat.reduceLeDiff, Nat.reduceLT, Int.reduceLE, Int.reduceLT, reduceCtorEq]
  refine h.go ?_
  try simp only [OpK_eq, HKv, take6, List.drop_zero, Int.cast_ofNat_Int, go_sem, ↓reduceIte, Nat.reduceEqDiff, Nat.reduceAdd, Nat.reduceMul, Nat.reduceLeDiff, Nat.reduceLT, Int.reduceLE, Int.reduceLT, reduceCtorEq]
  exact Kv.Fin.still ⟨rfl, rfl⟩
set_option maxRecDepth 8000 in
theorem p46_in (fs : List (List Nat)) (n : Nat) (h1 : 1 ≤ n) (h5 : n ≤ 5) (hf : ∀ f ∈ fs, Ok f n) (h0 : 0 < fs.length) (hfl : fs.length ≤ 6) (hl : lcode (fs.map mp) [] = 0) {Q : List (List Nat)} (hR : clR fs n = some Q) :
    Pure Tryz.prog 46 [.list (aggs (fs.map mp))] (.tup [.list (aggs (((elS n Q).filter fun f => decide (mul f f = f)).map mp)), .int .i64 0]) := by
  have hM := monOk fs n h1 h5 hf (Nat.le_trans hfl (by decide))
  unfold MonOk at hM
  rw [hR] at hM
  simp only at hM
  obtain ⟨W, P, hW, hP, hM⟩ := hM
  obtain ⟨c3, c4⟩ := clR_okQ h1 h5 hf hR
  obtain ⟨s1, s2, s3⟩ := elS_ok c3
  have hE := p100_of fs n hf h0 hfl hl _ _ hM
  rw [if_pos rfl] at hE
  generalize elS n Q = S at *
  have hO := p168 W P hP.1 S n s1.1 (by omega) 169 [.fptr [.fn (.func 120) [] []] 0, .fptr [.fptr (moV (.list (aggs (S.map mp))) W P) 0] 0] (StillL.up inferInstance) (fun f => decide (mul f f = f)) fun i hi => p169 W P S _ i _ (p120 W P hP.1 S n s1.1 i hi)
  have hT : Pure Tryz.prog 119 [.list (aggs (fs.map mp)), .fn (.func 120) [] []] (.tup [.list (aggs ((S.filter fun f => decide (mul f f = f)).map mp)), .int .i64 0]) := by
    refine e119 (by simp) fun _ _ => ?_
    simp only [k119, argEnv, take6, List.drop_zero, Int.cast_ofNat_Int, go_sem, ↓reduceIte, Nat.reduceEqDiff, Nat.reduceAdd, Nat.reduceMul, Nat.reduceLeDiff, Nat.reduceLT, Int.reduceLE, Int.reduceLT, reduceCtorEq]
    refine hE.go ?_
    try simp only [OpK_eq, HKv, take6, List.drop_zero, Int.cast_ofNat_Int, go_sem, ↓reduceIte, Nat.reduceEqDiff, Nat.reduceAdd, Nat.reduceMul, Nat.reduceLeDiff, Nat.reduceLT, Int.reduceLE, Int.reduceLT, reduceCtorEq]
    have hbx : [AObj.box [PV.fptr (moV (.list (aggs (S.map mp))) W P) 0]][0]? = some (.box [PV.fptr (moV (.list (aggs (S.map mp))) W P) 0]) := rfl
    refine ⟨rfl, ACall.lend hO (.cons Imm.still (.cons (Imm.fnc _ (.cons Imm.still (.cons (imm_box1 hbx rfl Imm.still) (.nil _)))) (.nil _))) fun v s ⟨hT, hF⟩ => ⟨⟨hT.fr, hF⟩, ?_⟩⟩
    try simp only [OpK_eq, HKv, take6, List.drop_zero, Int.cast_ofNat_Int, go_sem, ↓reduceIte, Nat.reduceEqDiff, Nat.reduceAdd, Nat.reduceMul, Nat.reduceLeDiff, Nat.reduceLT, Int.reduceLE, Int.reduceLT, reduceCtorEq]
    exact Kv.Fin.freeze (Imm.tupL (.cons (hT.shift [_]).imm (.cons (.int _ _ _) (.nil _)))) ⟨rfl, rfl⟩
  refine e46 (by simp) fun _ _ => ?_
  simp only [k46, argEnv, take6, List.drop_zero, Int.cast_ofNat_Int, go_sem, ↓reduceIte, Nat.reduceEqDiff, Nat.reduceAdd, Nat.reduceMul, Nat.reduceLeDiff, Nat.reduceLT, Int.reduceLE, Int.reduceLT, reduceCtorEq]
  refine hT.go ?_
  try simp only [OpK_eq, HKv, take6, List.drop_zero, Int.cast_ofNat_Int, go_sem, ↓reduceIte, Nat.reduceEqDiff, Nat.reduceAdd, Nat.reduceMul, Nat.reduceLeDiff, Nat.reduceLT, Int.reduceLE, Int.reduceLT, reduceCtorEq]
  exact Kv.Fin.still ⟨rfl, rfl⟩
end Go.Proofs.YtpfapiiinkkcgaaGreat
end
