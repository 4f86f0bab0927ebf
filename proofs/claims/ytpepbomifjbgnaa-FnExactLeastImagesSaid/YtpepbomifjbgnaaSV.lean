/- The search with points of its own: its walk. -/
import Derived.Test.YtpepbomifjbgnaaCb
import Derived.Test.YtpepbomifjbgnaaSK
namespace Go.Proofs.Ytpepbomifjbgnaa
open Go.Kv
set_option maxRecDepth 100000
/- impl.reachedSets -/
def k131 : KC := (.seq (.ops [⟨(some 4), none, .mv (.c (.nils))⟩])
  (.seq (.ops [⟨(some 5), none, .alloc [.nils]⟩])
  (.seq (.ops [⟨(some 6), none, .mv (.t 0)⟩, ⟨(some 7), none, .mv (.t 1)⟩, ⟨(some 8), none, .mkfn (.func 162) [] [(.t 5)]⟩, ⟨(some 9), none, .call (.c (.fn (.func 139) [] [])) [(.t 6), (.t 7), (.c (.fn (.func 79) [] [])), (.t 8)]⟩])
  (.seq (.ops [⟨(some 10), none, .load false 1 (.t 5)⟩, ⟨(some 4), none, .mv (.t 10)⟩])
  .ret))))
theorem e131 {args : List PV} {σ : Heap} {K : PV → Heap → Prop} (hl : args.length ≤ 11) (h : Wf σ → (∀ a ∈ args, PV.upto σ.length a) → vc (mkCfg Try.prog mixed [] 11 σ.length) k131 (FinK σ.length [.t 4] K) (argEnv 0 args) σ) : ACall Try.prog 131 args σ K :=
  ACall_enter (C := mkCfg Try.prog mixed [] 11 σ.length) (c := Try.f131.body.getD .skip) Try.func131 (by kernel_rfl) (by kernel_rfl) (by kernel_rfl) rfl hl (by kernel_rfl) (by kernel_rfl) h
end Go.Proofs.Ytpepbomifjbgnaa
namespace Go.Proofs.Ytpepbomifjbgnaa
open Go.Kv
set_option linter.unusedVariables false
set_option linter.unusedSimpArgs false
attribute [local irreducible] ACall PCall KL
theorem bl_wq (fs : List (List Nat)) (p : List Int) : ∀ i, bl fs img p i = wq fs p i
  | 0 => rfl
  | i + 1 => by
    have ih := bl_wq fs p i
    show bl fs img p (i + 1) = (bq fs img (fun (_ : Unit) _ => ()) ([(p, [])], ()) (i + 1)).1
    have ih : bl fs img p i = (bq fs img (fun (_ : Unit) _ => ()) ([(p, [])], ()) i).1 := ih
    rw [bl, bq, ih]
    split <;> rfl
set_option maxHeartbeats 8000000 in
theorem search_own (fs : List (List Nat)) (n : Nat) (hn5 : n ≤ 5) (hf : ∀ f ∈ fs, Ok f n) (hfl : fs.length ≤ 1000) (b0 : Nat) (p0 : List Int) (hp0 : asc n p0) (u0 : PV) (N : Nat) (hN : N ≤ 900) (hB : ∀ i, (bl fs img p0 i).length ≤ N)
    (σ0 : Heap) (hI0 : SI b0 none [] σ0) (hO0 : Ow σ0 (SU b0 none) u0 p0) (hF0 : Free σ0) (K : PV → Heap → Prop)
    (hK : ∀ i, i = (bl fs img p0 i).length → ∀ x us σ, SI b0 x us σ → us.length = (bl fs img p0 i).length → (∀ (j : Nat) u m, us[j]? = some u → (bl fs img p0 i)[j]? = some m → Ow σ (SU b0 x) u m.1) → (us.map rid).Nodup → Free σ → K (.tup []) σ) :
    ACall Try.prog 139 [.list (aggs (fs.map mp)), u0, .fn (.func 79) [] [], .fn (.func 162) [] [.ptr b0 0]] σ0 K := by
  have hokl : ∀ p, asc n p → p.length ≤ 1000 := fun p hp => by
    have h1 := asc_len hp
    omega
  generalize hs : bl fs img p0 = S at *
  have hS0 : S 0 = [(p0, [])] := by rw [← hs]; rfl
  have hSs : ∀ i (h : i < (S i).length), S (i + 1) = advN fs img (S i) (S i)[i] fs.length := by
    rw [← hs]; exact fun i h => bl_succ h
  have hO0' := hO0
  obtain ⟨idf, verf, postf, rfl, hof, hnf⟩ := hO0'
  have hidf := (List.getElem?_eq_some_iff.1 hof).1
  refine e139 (by simp) fun _ _ => ?_
  simp only [k139, argEnv, take6, List.drop_zero, Int.cast_ofNat_Int, go_sem, ↓reduceIte, Nat.reduceEqDiff, Nat.reduceAdd, Nat.reduceMul, Nat.reduceLeDiff, Nat.reduceLT, Int.reduceLE, Int.reduceLT, reduceCtorEq]
  try simp only [take6, List.drop_zero, Int.cast_ofNat_Int, go_sem, ↓reduceIte, Nat.reduceEqDiff, Nat.reduceAdd, Nat.reduceMul, Nat.reduceLeDiff, Nat.reduceLT, Int.reduceLE, Int.reduceLT, reduceCtorEq]
  generalize hq : σ0.length = q at *
  refine KL_ind k139_b1.eq_1 (fun x : Nat × Nat × List PV × List PV × Option Nat × Heap => [(0, .list (aggs (fs.map mp))), (2, .fn (.func 79) [] []), (3, .fn (.func 162) [] [.ptr b0 0]), (8, .ref q x.2.1 0 (S x.1).length), (9, .int .i64 x.1)]) (fun x => x.2.2.2.2.2)
    (fun x => x.1 ≤ (S x.1).length ∧ SI b0 x.2.2.2.2.1 (x.2.2.1.take x.1) x.2.2.2.2.2 ∧ ¬ SU b0 x.2.2.2.2.1 q ∧ QH x.2.2.2.2.2 (SU b0 x.2.2.2.2.1) q x.2.1 x.2.2.1 x.2.2.2.1 (S x.1) ∧ Free x.2.2.2.2.2 ∧ (∀ m ∈ S x.1, asc n m.1 ∧ m.2.length + 1 ≤ (S x.1).length)) (fun x => N + 1 - x.1) [0, 2, 3, 8, 9]
    (0, 0, [.ref idf verf 0 p0.length], [.nils], none, σ0 ++ [.arr 0 134 2 [.agg [.ref idf verf 0 p0.length, .nils]]]) ?_ rfl ?_ fun ⟨i, ver, us, ws, x, σ⟩ ⟨hi, hI, hUq, hG, hF, hok⟩ ih => ?_
  · simp [keep, hS0]
  · have hU0 : ¬ SU b0 none q := fun h => by
      have := SI.lt hI0 h
      omega
    refine ⟨Nat.zero_le _, ?_, hU0, ?_, ?_, ?_⟩
    · show SI b0 none [] _
      exact hI0.keep fun id hid => List.getElem?_append_left (SI.lt hI0 hid)
    · show QH _ _ q 0 [_] [.nils] (S 0)
      rw [hS0]
      refine ⟨by simp [← hq, ocell], rfl, rfl, fun i u w m hu hw hm => ⟨?_, .inl ⟨?_, ?_⟩⟩, by simp⟩
      · have h1 := List.mem_of_getElem? hu
        have h2 := List.mem_of_getElem? hm
        simp only [List.mem_singleton] at h1 h2
        subst h1; subst h2
        refine hO0.keep fun id hid hA => ⟨List.getElem?_append_left hid, ?_⟩
        rintro (h | h)
        · exact hA h
        · omega
      · have := List.mem_of_getElem? hw; simpa using this
      · have := List.mem_of_getElem? hm
        simp only [List.mem_singleton] at this; rw [this]
    · refine hF0.append fun o ho => ?_
      simp only [List.mem_singleton] at ho; subst ho
      intro c hc
      simp only [flat_cons, flat_nil, PV.cs, List.append_nil, List.mem_cons, List.not_mem_nil, or_false] at hc
      rcases hc with rfl | rfl
      · exact free_ref _ _ _ _
      · exact Plain.nils.fr
    · intro m hm
      have hm : m ∈ S 0 := hm
      show asc n m.1 ∧ m.2.length + 1 ≤ (S 0).length
      rw [hS0] at hm ⊢
      simp only [List.mem_singleton] at hm
      subst hm
      exact ⟨hp0, by simp⟩
  · simp only at hi hI hUq hG hF hok
    have hBi := hB i
    have hout := hG.out
    have hqlt := (List.getElem?_eq_some_iff.1 hout).1
    have hzl : (List.zipWith ocell us ws).length = (S i).length := by simp [hG.lu, hG.lw]
    try simp only [OpK_eq, hout, hzl, take6, List.drop_zero, Int.cast_ofNat_Int, go_sem, ↓reduceIte, Nat.reduceEqDiff, Nat.reduceAdd, Nat.reduceMul, Nat.reduceLeDiff, Nat.reduceLT, Int.reduceLE, Int.reduceLT, reduceCtorEq]
    refine ⟨fun h1 => ?_, fun h1 => ?_⟩
    · have hil : i < (S i).length := by omega
      obtain ⟨u, w, hu, hw, hcell, hOu, hW⟩ := hG.cell hil
      have hSi := hSs i hil
      have hmem := hok _ (List.getElem_mem hil)
      have htk : us.take (i + 1) = us.take i ++ [u] := by
        have hiu := (List.getElem?_eq_some_iff.1 hu)
        rw [List.take_succ_eq_append_getElem hiu.1, hiu.2]
      have htl : (us.take i).length ≤ 1000 := by rw [List.length_take]; omega
      generalize hm : (S i)[i] = m at *
      have hsub : subC (ocell u w).cs 0 2 = [u, w] := subC2 _ _
      have hput : putC [.nils, .nils] 0 [u, w] = [u, w] := putC2 _ _ _ _
      have hwok : [u, w].all PV.ok = true := by
        have := hOu.ok.2.1
        have := hW.cs.2
        simp [*]
      have hu3 : ∃ i v n, u = .ref i v 0 n := by
        obtain ⟨a, b, c, e, _, _⟩ := hOu
        exact ⟨a, b, _, e⟩
      refine ⟨⟨h1, Nat.le_refl _⟩, hil, fun x hx => ?_⟩
      rw [hcell] at hx; cases hx
      rw [hsub, hput, subC2]
      refine ⟨Nat.le_refl _, ⟨rfl, hwok⟩, Nat.le_refl _, ?_⟩
      have hlt1 : ∀ id, id < σ.length → (σ ++ [AObj.box [u, w]])[id]? = σ[id]? := fun id h => List.getElem?_append_left h
      have hI1 : SI b0 x (us.take i) (σ ++ [AObj.box [u, w]]) := hI.keep (fun id hid => hlt1 id (SI.lt hI hid))
      have hF1 : Free (σ ++ [AObj.box [u, w]]) := hF.append fun o ho => by
        simp only [List.mem_singleton] at ho; subst ho
        intro c hc
        simp only [List.mem_cons, List.not_mem_nil, or_false] at hc
        rcases hc with rfl | rfl
        · exact hOu.ok.2.2
        · exact hW.fr
      refine each_own _ b0 x _ u w hI1 htl hu3 hW.cs.2 hF1 _ fun x' σ' hI' hle hkeep hF' => ?_
      rw [← htk] at hI'
      have hb10 : σ'[σ.length]? = some (.box [u, w]) := by
        rw [(hkeep σ.length (by simp) (fun hu => by have := SI.lt hI hu; omega)).1]
        simp
      have hkeep2 : ∀ id, id < σ.length → ¬ SU b0 x id → σ'[id]? = σ[id]? ∧ ¬ SU b0 x' id := fun id hid hu => by
        obtain ⟨k1, k2⟩ := hkeep id (by simp; omega) hu
        exact ⟨k1.trans (hlt1 id hid), k2⟩
      have hG' := hG.keep hUq hkeep2
      have hUq' := (hkeep2 q hqlt hUq).2
      have hkq : ∀ id, id < σ.length → ¬ (SU b0 x id ∨ id = q) → σ'[id]? = σ[id]? ∧ ¬ (SU b0 x' id ∨ id = q) := fun id hid hA => by
        simp only [not_or] at hA ⊢
        exact ⟨(hkeep2 id hid hA.1).1, (hkeep2 id hid hA.1).2, hA.2⟩
      have hW' : Wd σ' (fun id => SU b0 x' id ∨ id = q) w m.2 := hW.keep hkq
      have hO' : Ow σ' (fun id => SU b0 x' id ∨ id = q) u m.1 := hOu.keep hkq
      have hbq : σ.length ≠ q := by omega
      generalize hb : σ.length = b at *
      have hius : i < us.length := (List.getElem?_eq_some_iff.1 hu).1
      clear hkeep hkeep2 hkq hI1 hF1 hW hlt1 hG hI hcell hw hout hzl hOu
      clear hb hqlt
      try simp only [OpK_eq, List.length_map, take6, List.drop_zero, Int.cast_ofNat_Int, go_sem, ↓reduceIte, Nat.reduceEqDiff, Nat.reduceAdd, Nat.reduceMul, Nat.reduceLeDiff, Nat.reduceLT, Int.reduceLE, Int.reduceLT, reduceCtorEq]
      have hadvB : ∀ k, k ≤ fs.length → (advN fs img (S i) m k).length ≤ N := fun k hk => by
        have h1 := advN_mono fs img (S i) m hk
        have h2 := hB (i + 1)
        rw [hSi] at h2
        exact Nat.le_trans h1 h2
      refine KL_ind k139_b0.eq_1 (fun x : Nat × Nat × List PV × List PV × Heap => [(0, .list (aggs (fs.map mp))), (2, .fn (.func 79) [] []), (3, .fn (.func 162) [] [.ptr b0 0]), (8, .ref q x.2.1 0 (advN fs img (S i) m x.1).length), (9, .int .i64 i), (10, .ptr b 0), (31, .list (aggs (fs.map mp))), (32, .int .i64 fs.length), (33, .int .i64 x.1)]) (fun x => x.2.2.2.2)
        (fun y => y.1 ≤ fs.length ∧ SI b0 x' (us.take (i + 1)) y.2.2.2.2 ∧ y.2.2.1.take (i + 1) = us.take (i + 1) ∧ QH y.2.2.2.2 (SU b0 x') q y.2.1 y.2.2.1 y.2.2.2.1 (advN fs img (S i) m y.1) ∧ y.2.2.2.2[b]? = some (.box [u, w]) ∧ Ow y.2.2.2.2 (fun id => SU b0 x' id ∨ id = q) u m.1 ∧ Wd y.2.2.2.2 (fun id => SU b0 x' id ∨ id = q) w m.2 ∧ Free y.2.2.2.2 ∧ (∀ z ∈ advN fs img (S i) m y.1, asc n z.1 ∧ z.2.length + 1 ≤ (advN fs img (S i) m y.1).length)) (fun y => fs.length - y.1) [0, 2, 3, 8, 9, 10, 31, 32, 33]
        (0, ver, us, ws, σ') (by rfl) rfl ⟨Nat.zero_le _, hI', rfl, hG', hb10, hO', hW', hF', hok⟩ fun ⟨k, ver2, us2, ws2, τ⟩ ⟨hk, hI2, ht2, hG2, hb2, hO2, hW2, hF2, hok2⟩ ihk => ?_
      simp only at hk hI2 ht2 hG2 hb2 hO2 hW2 hF2 hok2
      clear hI' hG' hb10 hW' hO' hF' hok hle
      have hsucc := advN_succ fs img (S i) m k
      have hlenB := hadvB k hk
      have hmlen := hmem.2
      generalize hL : advN fs img (S i) m k = L at *
      have hout := hG2.out
      have hblt := (List.getElem?_eq_some_iff.1 hb2).1
      have hqlt := (List.getElem?_eq_some_iff.1 hout).1
      try simp only [OpK_eq, List.length_map, take6, List.drop_zero, Int.cast_ofNat_Int, go_sem, ↓reduceIte, Nat.reduceEqDiff, Nat.reduceAdd, Nat.reduceMul, Nat.reduceLeDiff, Nat.reduceLT, Int.reduceLE, Int.reduceLT, reduceCtorEq]
      refine ⟨fun h3 => ?_, fun h3 => ?_⟩
      · have hkl : k < fs.length := by omega
        have hfk := hf _ (List.getElem_mem hkl)
        have h6 := hfk.mp_len
        have hgk : (fs.map mp).getD k [] = mp fs[k] := by simp [List.getD_eq_getElem?_getD, hkl]
        rw [hgk]
        try simp only [OpK_eq, h6, take6, List.drop_zero, Int.cast_ofNat_Int, go_sem, ↓reduceIte, Nat.reduceEqDiff, Nat.reduceAdd, Nat.reduceMul, Nat.reduceLeDiff, Nat.reduceLT, Int.reduceLE, Int.reduceLT, reduceCtorEq]
        refine ⟨h3, fun _ => ?_⟩
        have hbx : ∀ X, (τ ++ X)[b]? = some (.box [u, w]) := fun X => (List.getElem?_append_left hblt).trans hb2
        have ht0 : ∀ (x : AObj) X, (τ ++ x :: X)[τ.length]? = some x := fun x X => by simp
        have ht1 : ∀ (x y : AObj) X, (τ ++ x :: y :: X)[τ.length + 1]? = some y := fun x y X => by
          rw [List.getElem?_append_right (by omega)]; simp
        have ht2' : ∀ (x y z : AObj) X, (τ ++ x :: y :: z :: X)[τ.length + 2]? = some z := fun x y z X => by
          rw [List.getElem?_append_right (by omega)]; simp
        have ht3 : ∀ (x y z a : AObj) X, (τ ++ x :: y :: z :: a :: X)[τ.length + 3]? = some a := fun x y z a X => by
          rw [List.getElem?_append_right (by omega)]; simp
        have hs0 : ∀ (x z : AObj) X, (τ ++ x :: X).set τ.length z = τ ++ z :: X := fun x z X => by
          rw [List.set_append_right _ _ (Nat.le_refl _)]; simp
        have hs2 : ∀ (x y z a : AObj) X, (τ ++ x :: y :: z :: X).set (τ.length + 2) a = τ ++ x :: y :: a :: X := fun x y z a X => by
          rw [List.set_append_right _ _ (by omega)]; simp
        have hs3 : ∀ (x y z a c : AObj) X, (τ ++ x :: y :: z :: a :: X).set (τ.length + 3) c = τ ++ x :: y :: z :: c :: X := fun x y z a c X => by
          rw [List.set_append_right _ _ (by omega)]; simp
        have hputn : ∀ v, putC [PV.nils] 0 [v] = [v] := fun v => by unfold putC; first | rfl | (split <;> rfl) | simp
        have hO2a : ∀ X, Imm (τ ++ X) u (.list (ints m.1)) := fun X => (hO2.keep (A' := fun id => SU b0 x' id ∨ id = q) fun id hid hu => ⟨List.getElem?_append_left hid, hu⟩).imm
        try simp only [OpK_eq, h6, hbx, HKv, List.append_assoc, List.cons_append, List.nil_append, ht0, ht1, hs0, take6, List.drop_zero, Int.cast_ofNat_Int, go_sem, ↓reduceIte, Nat.reduceEqDiff, Nat.reduceAdd, Nat.reduceMul, Nat.reduceLeDiff, Nat.reduceLT, Int.reduceLE, Int.reduceLT, reduceCtorEq]
        refine (image_own fs[k] n hfk hmem.1).lend (.cons Imm.still (.cons (hO2a _) (.nil _))) fun v s hv => ?_
        obtain ⟨vr, post, rfl, rfl⟩ := hv
        refine ⟨⟨free_ref _ _ _ _, Free.ints _ _ _ _⟩, ?_⟩
        have hnx := img_asc hfk hmem.1
        have hgf : fs.getD k [] = fs[k] := by simp [List.getD_eq_getElem?_getD, hkl]
        rw [hgf] at hsucc
        generalize hnxe : img fs[k] m.1 = nxp at *
        try simp only [OpK_eq, h6, hbx, HKv, ren_ref, ren_arr, ren_ints, Nat.zero_add, List.length_append, List.length_singleton, List.length_cons, List.length_nil, List.append_assoc, List.cons_append, List.nil_append, ht0, ht1, ht2', hs0, hs2, hputn, take6, List.drop_zero, Int.cast_ofNat_Int, go_sem, ↓reduceIte, Nat.reduceEqDiff, Nat.reduceAdd, Nat.reduceMul, Nat.reduceLeDiff, Nat.reduceLT, Int.reduceLE, Int.reduceLT, reduceCtorEq]
        have hk3 : ∀ X id, id < τ.length → ¬ (SU b0 x' id ∨ id = q) → (τ ++ X)[id]? = τ[id]? ∧ ¬ (SU b0 x' id ∨ id = q) := fun X id hid hu => ⟨List.getElem?_append_left hid, hu⟩
        have hG3 : ∀ X, QH (τ ++ X) (SU b0 x') q ver2 us2 ws2 L := fun X => hG2.keep hUq' fun id hid hu => ⟨List.getElem?_append_left hid, hu⟩
        have hO3 : ∀ X, Ow (τ ++ X) (fun id => SU b0 x' id ∨ id = q) u m.1 := fun X => hO2.keep (hk3 X)
        have hW3 : ∀ X, Wd (τ ++ X) (fun id => SU b0 x' id ∨ id = q) w m.2 := fun X => hW2.keep (hk3 X)
        have hI3 : ∀ X, SI b0 x' (us.take (i + 1)) (τ ++ X) := fun X => hI2.keep fun id hid => List.getElem?_append_left (SI.lt hI2 hid)
        have hfb : AObj.free (AObj.box (ints (mp fs[k]))) := fun c hc => (Plain.ints _ c hc).fr
        have hF3 : Free (τ ++ [AObj.box (ints (mp fs[k])), AObj.arr vr 2 1 (ints (nxp ++ post)), AObj.box [PV.ref (τ.length + 1) vr 0 nxp.length]]) := hF2.append fun o ho => by
          simp only [List.mem_cons, List.not_mem_nil, or_false] at ho
          rcases ho with rfl | rfl | rfl
          · exact hfb
          · exact free_ints _
          · exact free_box1 (free_ref _ _ _ _)
        have hnO : ∀ (x z : AObj) X, Ow (τ ++ x :: AObj.arr vr 2 1 (ints (nxp ++ post)) :: z :: X) (fun id => SU b0 x' id ∨ id = q) (.ref (τ.length + 1) vr 0 nxp.length) nxp := fun x z X => by
          refine ⟨_, vr, post, rfl, ht1 _ _ _, ?_⟩
          rintro (h | h)
          · have := SI.lt hI2 h; omega
          · omega
        have hrid : rid (.ref (τ.length + 1) vr 0 nxp.length) ∉ us2.map rid := fun h => by
          obtain ⟨y, hy, e⟩ := List.mem_map.1 h
          obtain ⟨j, hj⟩ := List.getElem?_of_mem hy
          have hjl : j < L.length := by have := (List.getElem?_eq_some_iff.1 hj).1; rw [hG2.lu] at this; exact this
          obtain ⟨u', w', h1', _, _, h2', _⟩ := hG2.cell hjl
          rw [hj] at h1'; cases h1'
          have := h2'.rid
          have e : rid y = τ.length + 1 := e
          omega
        refine (p172 L (by omega) 173 [.fptr [.list (ints nxp)] 0] (fun x => decide (x.1 = nxp)) (fun x hx => p173 x nxp (by have := hokl _ hnx; omega) (by have := hokl _ (hok2 x hx).1; omega))).lend (.cons (hG3 _).imm (.cons (Imm.fnc _ (.cons (Imm.ptr (τ.length + 2) 0 [PV.ref (τ.length + 1) vr 0 nxp.length] [.list (ints nxp)] (ht2' _ _ _ []) rfl (by simp [PV.ok]) (fun j c d hc hd => by
          cases j with
          | zero => simp only [List.getElem?_cons_zero, Option.some.injEq] at hc hd; subst hc; subst hd; exact (hnO _ _ []).imm
          | succ j => simp at hc)) (.nil _))) (.nil _))) ?_
        cases hany : L.any (fun x => decide (x.1 = nxp)) with
        | true =>
          rw [if_pos hany] at hsucc
          try simp only [OpK_eq, take6, List.drop_zero, Int.cast_ofNat_Int, go_sem, ↓reduceIte, Nat.reduceEqDiff, Nat.reduceAdd, Nat.reduceMul, Nat.reduceLeDiff, Nat.reduceLT, Int.reduceLE, Int.reduceLT, reduceCtorEq]
          refine ⟨by omega, ihk (k + 1, ver2, us2, ws2, τ ++ _) ⟨by show k + 1 ≤ fs.length; omega, hI3 _, ht2, ?_, hbx _, hO3 _, hW3 _, hF3, ?_⟩ (by show fs.length - (k + 1) < fs.length - k; omega) _ _ ?_ rfl⟩
          · show QH _ _ q ver2 us2 ws2 (advN fs img (S i) m (k + 1))
            rw [hsucc]; exact hG3 _
          · show ∀ y ∈ advN fs img (S i) m (k + 1), _ ∧ _ ≤ (advN fs img (S i) m (k + 1)).length
            rw [hsucc]; exact hok2
          · simp [keep, hsucc]
        | false =>
          rw [if_neg (by rw [hany]; simp)] at hsucc
          have hlenB1 := hadvB (k + 1) (by omega)
          rw [hsucc, List.length_append, List.length_singleton] at hlenB1
          have hul2 : i + 1 ≤ us2.length := by
            have := congrArg List.length ht2
            rw [List.length_take, List.length_take] at this
            omega
          have hnext : ∀ ver' u' w' ρ, SI b0 x' (us.take (i + 1)) ρ → QH ρ (SU b0 x') q ver' (us2 ++ [u']) (ws2 ++ [w']) (L ++ [(nxp, m.2 ++ [(k : Int)])]) → ρ[b]? = some (.box [u, w]) → Ow ρ (fun id => SU b0 x' id ∨ id = q) u m.1 → Wd ρ (fun id => SU b0 x' id ∨ id = q) w m.2 → Free ρ → ∀ env, keep [0, 2, 3, 8, 9, 10, 31, 32, 33] env = [(0, .list (aggs (fs.map mp))), (2, .fn (.func 79) [] []), (3, .fn (.func 162) [] [.ptr b0 0]), (8, .ref q ver' 0 (L.length + 1)), (9, .int .i64 i), (10, .ptr b 0), (31, .list (aggs (fs.map mp))), (32, .int .i64 fs.length), (33, .int .i64 (k + 1 : Nat))] → KL (mkCfg Try.prog mixed [53, 56] 59 q) k139_b0 _ env ρ := fun ver' u' w' ρ q1 q2 q3 q4 q6 q7 env q5 =>
            ihk (k + 1, ver', us2 ++ [u'], ws2 ++ [w'], ρ) ⟨by show k + 1 ≤ fs.length; omega, q1, by show (us2 ++ [u']).take (i + 1) = _; rw [List.take_append_of_le_length hul2]; exact ht2, by show QH ρ _ q ver' _ _ (advN fs img (S i) m (k + 1)); rw [hsucc]; exact q2, q3, q4, q6, q7, by
              show ∀ y ∈ advN fs img (S i) m (k + 1), _ ∧ _ ≤ (advN fs img (S i) m (k + 1)).length
              rw [hsucc]
              intro y hy
              rw [List.length_append, List.length_singleton]
              rcases List.mem_append.1 hy with hy | hy
              · have := hok2 y hy; exact ⟨this.1, by omega⟩
              · simp only [List.mem_singleton] at hy; subst hy
                refine ⟨hnx, ?_⟩
                simp only [List.length_append, List.length_singleton]
                have hmono := advN_mono fs img (S i) m (Nat.zero_le k)
                rw [hL] at hmono
                have e : advN fs img (S i) m 0 = (S i) := rfl
                rw [e] at hmono
                omega⟩ (by show fs.length - (k + 1) < fs.length - k; omega) env ρ (by rw [q5, hsucc]; simp) rfl
          clear ih ihk
          have hpush : ∀ (z : AObj) X w', AObj.free z → Free X → Wd (τ ++ AObj.box (ints (mp fs[k])) :: AObj.arr vr 2 1 (ints (nxp ++ post)) :: z :: X) (fun id => SU b0 x' id ∨ id = q) w' (m.2 ++ [(k : Int)]) → ∀ K' : PV → Heap → Prop,
              (∀ u' ρ, SI b0 x' (us.take (i + 1)) ρ → QH ρ (SU b0 x') q (ver2 + 1) (us2 ++ [u']) (ws2 ++ [w']) (L ++ [(nxp, m.2 ++ [(k : Int)])]) → ρ[b]? = some (.box [u, w]) → Ow ρ (fun id => SU b0 x' id ∨ id = q) u m.1 → Wd ρ (fun id => SU b0 x' id ∨ id = q) w m.2 → Free ρ → K' (.ref q (ver2 + 1) 0 (L.length + 1)) ρ) →
              aApp 134 2 (.ref q ver2 0 L.length) (.list [.agg [.ref (τ.length + 1) vr 0 nxp.length, w']]) (τ ++ AObj.box (ints (mp fs[k])) :: AObj.arr vr 2 1 (ints (nxp ++ post)) :: z :: X) K' := fun z X w' hz hX hw' K' hK' =>
            (hG3 _).push (hnO _ _ _) hw' hrid (by omega) fun hQ => by
              refine hK' _ _ ?_ hQ ?_ ((hO3 _).keep (fun id _ hA => ⟨List.getElem?_set_ne (show q ≠ id by rintro rfl; exact hA (.inr rfl)), hA⟩)) ((hW3 _).keep (fun id _ hA => ⟨List.getElem?_set_ne (show q ≠ id by rintro rfl; exact hA (.inr rfl)), hA⟩)) ?_
              · refine (hI3 _).keep (fun id hid => List.getElem?_set_ne ?_)
                rintro rfl; exact hUq' hid
              · rw [List.getElem?_set_ne (Ne.symm hbq)]; exact hbx _
              · refine Free.set (hF2.append fun o ho => ?_) _ ?_
                · simp only [List.mem_cons] at ho
                  rcases ho with rfl | rfl | rfl | ho
                  · exact hfb
                  · exact free_ints _
                  · exact hz
                  · exact hX o ho
                · have := hQ.fr (v := ver2 + 1) (e := 134) (s := 2)
                  rwa [List.zipWith_append (by rw [hG2.lu, hG2.lw])] at this
          have hwd : ∀ (x y z : AObj) vr l, Wd (τ ++ [x, y, z, .arr vr 2 1 (ints l)]) (fun id => SU b0 x' id ∨ id = q) (.ref (τ.length + 3) vr 0 l.length) l := fun x y z vr l => by
            refine .inr ⟨_, vr, rfl, ht3 _ _ _ _ _, fun h => ?_⟩
            rcases h with h | h
            · have := SI.lt hI2 h; omega
            · omega
          have hwd1 : ∀ (x y z : AObj), Wd (τ ++ [x, y, z, .arr 2 2 1 (ints (m.2 ++ [(k : Int)]))]) (fun id => SU b0 x' id ∨ id = q) (.ref (τ.length + 3) 2 0 (m.2.length + 1)) (m.2 ++ [(k : Int)]) := fun x y z => by
            have := hwd x y z 2 (m.2 ++ [(k : Int)])
            rwa [List.length_append, List.length_singleton] at this
          have hwd0 : m.2 = [] → ∀ (x y z : AObj), Wd (τ ++ [x, y, z, .arr 0 2 1 [.int .i64 k]]) (fun id => SU b0 x' id ∨ id = q) (.ref (τ.length + 3) 0 0 1) (m.2 ++ [(k : Int)]) := fun h0 x y z => by
            rw [h0]; exact hwd x y z 0 [(k : Int)]
          have hb1 : AObj.free (AObj.box [PV.ref (τ.length + 1) vr 0 nxp.length]) := free_box1 (free_ref _ _ _ _)
          generalize hvq : PV.ref q ver2 0 L.length = vq at *
          try simp only [OpK_eq, hbx, HKv, ht0, ht1, ht2', take6, List.drop_zero, Int.cast_ofNat_Int, go_sem, ↓reduceIte, Nat.reduceEqDiff, Nat.reduceAdd, Nat.reduceMul, Nat.reduceLeDiff, Nat.reduceLT, Int.reduceLE, Int.reduceLT, reduceCtorEq]
          iterate 8
            all_goals (try (rw [vT_alt]; refine ⟨?_, ?_⟩))
            all_goals (try (try simp only [OpK_eq, hbx, HKv, ht0, ht1, ht2', take6, List.drop_zero, Int.cast_ofNat_Int, go_sem, ↓reduceIte, Nat.reduceEqDiff, Nat.reduceAdd, Nat.reduceMul, Nat.reduceLeDiff, Nat.reduceLT, Int.reduceLE, Int.reduceLT, reduceCtorEq] ))
          all_goals (refine ACall.lend (p132P m.2 (by omega)) (.cons (hW3 _).imm (.nil _)) fun v s hv => ?_)
          all_goals (rcases hv with ⟨rfl, rfl⟩ | ⟨hl0, rfl, rfl⟩)
          all_goals (first | refine ⟨⟨free_ref _ _ _ _, Free.ints _ _ _ _⟩, ?_⟩ | refine ⟨⟨Plain.nils.fr, Free.nil⟩, ?_⟩)
          all_goals (try (try simp only [OpK_eq, hbx, HKv, ht0, ht1, ht2', ht3, hs3, ren_ref, List.append_assoc, List.cons_append, List.nil_append, take6, List.drop_zero, Int.cast_ofNat_Int, go_sem, ↓reduceIte, Nat.reduceEqDiff, Nat.reduceAdd, Nat.reduceMul, Nat.reduceLeDiff, Nat.reduceLT, Int.reduceLE, Int.reduceLT, reduceCtorEq] ))
          iterate 8
            all_goals (try (rw [vT_alt]; refine ⟨?_, ?_⟩))
            all_goals (try (try simp only [OpK_eq, hbx, HKv, ht0, ht1, ht2', ht3, hs3, ren_ref, List.append_assoc, List.cons_append, List.nil_append, take6, List.drop_zero, Int.cast_ofNat_Int, go_sem, ↓reduceIte, Nat.reduceEqDiff, Nat.reduceAdd, Nat.reduceMul, Nat.reduceLeDiff, Nat.reduceLT, Int.reduceLE, Int.reduceLT, reduceCtorEq] ))
          all_goals (first | refine ⟨⟨Nat.le_refl _, by omega⟩, hpush _ [_] _ hb1 (Free.ints _ _ _ _) (hwd1 _ _ _) _ fun u' ρ q1 q2 q3 q4 q6 q7 => ?_⟩ | refine hpush _ [_] _ hb1 (Free.ints _ _ _ [(k : Int)]) (hwd0 hl0 _ _ _) _ fun u' ρ q1 q2 q3 q4 q6 q7 => ?_)
          all_goals (try simp only [OpK_eq, take6, List.drop_zero, Int.cast_ofNat_Int, go_sem, ↓reduceIte, Nat.reduceEqDiff, Nat.reduceAdd, Nat.reduceMul, Nat.reduceLeDiff, Nat.reduceLT, Int.reduceLE, Int.reduceLT, reduceCtorEq] )
          all_goals exact ⟨by omega, hnext (ver2 + 1) _ _ ρ q1 q2 q3 q4 q6 q7 _ (by simp [keep])⟩
      · have hke : k = fs.length := by omega
        subst hke
        try simp only [take6, List.drop_zero, Int.cast_ofNat_Int, go_sem, ↓reduceIte, Nat.reduceEqDiff, Nat.reduceAdd, Nat.reduceMul, Nat.reduceLeDiff, Nat.reduceLT, Int.reduceLE, Int.reduceLT, reduceCtorEq]
        refine ⟨by omega, ih (i + 1, ver2, us2, ws2, x', τ) ⟨?_, by show SI b0 x' (us2.take (i + 1)) τ; rw [ht2]; exact hI2, hUq', ?_, hF2, ?_⟩ (by show N + 1 - (i + 1) < N + 1 - i; omega) _ _ ?_ rfl⟩
        · show i + 1 ≤ (S (i + 1)).length
          rw [hSi]
          have := advN_mono fs img (S i) m (Nat.zero_le fs.length)
          have e : advN fs img (S i) m 0 = S i := rfl
          rw [e] at this
          omega
        · show QH τ (SU b0 x') q ver2 us2 ws2 (S (i + 1))
          rw [hSi, hL]; exact hG2
        · show ∀ y ∈ S (i + 1), asc n y.1 ∧ y.2.length + 1 ≤ (S (i + 1)).length
          rw [hSi, hL]; exact hok2
        · rw [hSi, hL]; simp [keep]
    · have hie : i = (S i).length := by omega
      have htu : us.take i = us := List.take_of_length_le (by rw [hG.lu]; omega)
      rw [htu] at hI
      refine Kv.Fin.now (hK i hie x us σ hI hG.lu (fun j u m hu hm => ?_) hG.nd hF)
      have hj : j < ws.length := by
        have := (List.getElem?_eq_some_iff.1 hu).1
        rw [hG.lw, ← hG.lu]; exact this
      have := (hG.row j u ws[j] m hu (List.getElem?_eq_getElem hj) hm).1
      obtain ⟨a, b, c, e1, e2, e3⟩ := this
      exact ⟨a, b, c, e1, e2, fun h => e3 (.inl h)⟩
theorem rows_pick {σ : Heap} {A : Nat → Prop} : ∀ {us : List PV} {t : List (List Int)}, us.length = t.length → (∀ (j : Nat) u p, us[j]? = some u → t[j]? = some p → Ow σ A u p) → ∃ rs : List Rw, rs.length = t.length ∧ pvs rs t = us ∧ (∀ (j : Nat) r l, rs[j]? = some r → t[j]? = some l → r.at 2 σ l ∧ r.nil = false ∧ ¬ A r.id) ∧ rs.map Rw.id = us.map rid
  | [], [], _, _ => ⟨[], rfl, rfl, fun j r l h => by simp at h, rfl⟩
  | [], _ :: _, h, _ => by simp at h
  | _ :: _, [], h, _ => by simp at h
  | u :: us, p :: t, h, ho => by
    obtain ⟨rs, h1, h2, h3, h4⟩ := rows_pick (us := us) (t := t) (by simpa using h) fun j u' p' hu hp => ho (j + 1) u' p' (by simpa using hu) (by simpa using hp)
    obtain ⟨id, ver, post, rfl, hid, hA⟩ := ho 0 u p rfl rfl
    refine ⟨⟨false, id, ver, [], post⟩ :: rs, by simp [h1], ?_, fun j r l hr hl => ?_, by simp [h4, rid]⟩
    · show Rw.pv _ p :: pvs rs t = _
      rw [h2]; rfl
    · cases j with
      | zero =>
        simp only [List.getElem?_cons_zero, Option.some.injEq] at hr hl
        subst hr; subst hl
        exact ⟨⟨fun h => (by cases h), fun _ => hid⟩, rfl, hA⟩
      | succ j => exact h3 j r l (by simpa using hr) (by simpa using hl)
/-- The sets that are reached, in the search's order. -/
noncomputable def rst (fs : List (List Nat)) (p : List Int) (i : Nat) : List (List Int) := (bl fs img p i).map Prod.fst
theorem p131 (fs : List (List Nat)) (n : Nat) (hn5 : n ≤ 5) (hf : ∀ f ∈ fs, Ok f n) (hfl : fs.length ≤ 1000) (p : List Int) (hp : asc n p) (ver : Nat) (post : List Int) (K : PV → Heap → Prop)
    (hK : ∀ i, i = (bl fs img p i).length → ∀ v s, TabN 23 2 s v (rst fs p i) → Free s → K v s) :
    ACall Try.prog 131 [.list (aggs (fs.map mp)), .ref 0 ver 0 p.length] [.arr ver 2 1 (ints (p ++ post))] K := by
  refine e131 (by simp) fun _ _ => ?_
  simp only [k131, argEnv, take6, List.drop_zero, Int.cast_ofNat_Int, go_sem, ↓reduceIte, Nat.reduceEqDiff, Nat.reduceAdd, Nat.reduceMul, Nat.reduceLeDiff, Nat.reduceLT, Int.reduceLE, Int.reduceLT, reduceCtorEq]
  try simp only [OpK_eq, take6, List.drop_zero, Int.cast_ofNat_Int, go_sem, ↓reduceIte, Nat.reduceEqDiff, Nat.reduceAdd, Nat.reduceMul, Nat.reduceLeDiff, Nat.reduceLT, Int.reduceLE, Int.reduceLT, reduceCtorEq]
  refine search_own fs n hn5 hf hfl 1 p hp _ 32 (by omega) (fun i => by rw [bl_wq]; exact wq_len hn5 hf hp i) _ ⟨rfl, rfl⟩ ⟨0, ver, post, rfl, rfl, ?_⟩ ?_ _ fun i hi x us σ hI hlu hO hnd hF => ?_
  · rintro (h | h) <;> cases h
  · intro o ho
    simp only [List.mem_cons, List.not_mem_nil, or_false] at ho
    rcases ho with rfl | rfl
    · exact free_ints _
    · exact free_box1 Plain.nils.fr
  · have hK' := hK i hi
    clear hK
    have hlr : us.length = (rst fs p i).length := by rw [hlu, rst, List.length_map]
    obtain ⟨rs, r1, r2, r3, r4⟩ := rows_pick (σ := σ) (A := SU 1 x) (us := us) (t := rst fs p i) hlr fun j u q hu hq => by
      rw [rst, List.getElem?_map, Option.map_eq_some_iff] at hq
      obtain ⟨m, hm, rfl⟩ := hq
      exact hO j u m hu hm
    cases x with
    | none =>
      obtain ⟨h1, h2⟩ := hI
      subst h2
      try simp only [OpK_eq, HKv, h1, take6, List.drop_zero, Int.cast_ofNat_Int, go_sem, ↓reduceIte, Nat.reduceEqDiff, Nat.reduceAdd, Nat.reduceMul, Nat.reduceLeDiff, Nat.reduceLT, Int.reduceLE, Int.reduceLT, reduceCtorEq]
      have e : rst fs p i = [] := List.eq_nil_of_length_eq_zero (by rw [← hlr]; rfl)
      exact Kv.Fin.now (hK' _ _ (by rw [e]; exact .nil) hF)
    | some id =>
      obtain ⟨vr, h1, h2, h3⟩ := hI
      try simp only [OpK_eq, HKv, h1, take6, List.drop_zero, Int.cast_ofNat_Int, go_sem, ↓reduceIte, Nat.reduceEqDiff, Nat.reduceAdd, Nat.reduceMul, Nat.reduceLeDiff, Nat.reduceLT, Int.reduceLE, Int.reduceLT, reduceCtorEq]
      refine Kv.Fin.now (hK' _ _ ?_ hF)
      rw [hlr]
      refine .tab id vr rs _ ⟨⟨[], by rw [r2, List.append_nil]; exact h2⟩, r1, fun j r l hr hl => (r3 j r l hr hl).1, fun a b r q hr hq _ _ he => ?_, fun r hr hn e => ?_⟩
      · have hnd2 := hnd
        rw [← r4] at hnd2
        have hpw := List.pairwise_iff_getElem.1 (List.nodup_iff_pairwise_ne.1 hnd2)
        obtain ⟨ha1, ha2⟩ := List.getElem?_eq_some_iff.1 hr
        obtain ⟨hb1, hb2⟩ := List.getElem?_eq_some_iff.1 hq
        have hne : ∀ (a b : Nat) (ha : a < rs.length) (hb : b < rs.length), a < b → rs[a].id ≠ rs[b].id := fun a b ha hb hab => by
          have := hpw a b (by simpa using ha) (by simpa using hb) hab
          simpa using this
        rcases Nat.lt_trichotomy a b with h | h | h
        · exact absurd (by rw [ha2, hb2]; exact he) (hne a b ha1 hb1 h)
        · exact h
        · exact absurd (by rw [ha2, hb2]; exact he.symm) (hne b a hb1 ha1 h)
      · obtain ⟨j, hj⟩ := List.getElem?_of_mem hr
        have hjt : j < (rst fs p i).length := by rw [← r1]; exact (List.getElem?_eq_some_iff.1 hj).1
        exact (r3 j r _ hj (List.getElem?_eq_getElem hjt)).2.2 (.inr (by rw [e]))
end Go.Proofs.Ytpepbomifjbgnaa
