/- Neighbours that are equal become one. -/
import Derived.Test.YtpepbomifjbgnaaCb
import Derived.Test.YtpepbomifjbgnaaST
namespace Go.Proofs.Ytpepbomifjbgnaa
open Go.Kv
set_option maxRecDepth 100000
/- slices.Compact[[]int64,int64] -/
/- live [0, 3, 4, 5] -/
def k125_b0 : KC := (.seq (.seq (.ops [⟨(some 29), none, .mv (.t 5)⟩, ⟨(some 30), none, .mv (.t 4)⟩, ⟨(some 31), none, .len false (.t 30)⟩, ⟨(some 32), none, .bin .lss (.t 29) (.t 31)⟩])
  (.cond (.t 32) .skip (.exit 2)))
  (.seq (.block 3 (.seq (.draw [⟨(some 35), none, .mv (.t 4)⟩, ⟨(some 36), none, .mv (.t 5)⟩, ⟨(some 37), none, .idxS 1 (.t 35) (.t 36)⟩, ⟨(some 38), none, .load false 1 (.t 37)⟩, ⟨(some 39), none, .mv (.t 4)⟩, ⟨(some 40), none, .mv (.t 5)⟩, ⟨(some 41), none, .bin .sub (.t 40) (.c (.int .i64 1))⟩, ⟨(some 42), none, .idxS 1 (.t 39) (.t 41)⟩, ⟨(some 43), none, .load false 1 (.t 42)⟩, ⟨(some 44), none, .bin .neq (.t 38) (.t 43)⟩])
  (.cond (.t 44) (.seq (.ops [⟨(some 45), none, .mv (.t 0)⟩, ⟨(some 46), none, .mv (.t 3)⟩, ⟨(some 47), none, .mv (.t 4)⟩, ⟨(some 48), none, .mv (.t 5)⟩, ⟨(some 49), none, .idxS 1 (.t 47) (.t 48)⟩, ⟨(some 50), none, .load false 1 (.t 49)⟩, ⟨(some 51), none, .idxS 1 (.t 45) (.t 46)⟩, ⟨none, none, .store 1 (.t 51) (.t 50)⟩])
  (.ops [⟨(some 52), none, .mv (.t 3)⟩, ⟨(some 53), none, .bin .add (.t 52) (.c (.int .i64 1))⟩, ⟨(some 3), none, .mv (.t 53)⟩])) .skip)))
  (.ops [⟨(some 33), none, .mv (.t 5)⟩, ⟨(some 34), none, .bin .add (.t 33) (.c (.int .i64 1))⟩, ⟨(some 5), none, .mv (.t 34)⟩])))
/- live [0, 3] -/
def k125_b1 : KC := (.seq (.seq (.ops [⟨(some 10), none, .mv (.t 3)⟩, ⟨(some 11), none, .mv (.t 0)⟩, ⟨(some 12), none, .len false (.t 11)⟩, ⟨(some 13), none, .bin .lss (.t 10) (.t 12)⟩])
  (.cond (.t 13) .skip (.exit 0)))
  (.seq (.block 1 (.seq (.draw [⟨(some 16), none, .mv (.t 0)⟩, ⟨(some 17), none, .mv (.t 3)⟩, ⟨(some 18), none, .idxS 1 (.t 16) (.t 17)⟩, ⟨(some 19), none, .load false 1 (.t 18)⟩, ⟨(some 20), none, .mv (.t 0)⟩, ⟨(some 21), none, .mv (.t 3)⟩, ⟨(some 22), none, .bin .sub (.t 21) (.c (.int .i64 1))⟩, ⟨(some 23), none, .idxS 1 (.t 20) (.t 22)⟩, ⟨(some 24), none, .load false 1 (.t 23)⟩, ⟨(some 25), none, .bin .eql (.t 19) (.t 24)⟩])
  (.cond (.t 25) (.seq (.ops [⟨(some 26), none, .mv (.t 0)⟩, ⟨(some 27), none, .mv (.t 3)⟩, ⟨(some 28), none, .sls 1 (.t 26) (some (.t 27)) none⟩, ⟨(some 4), none, .mv (.t 28)⟩])
  (.seq (.seq (.ops [⟨(some 5), none, .mv (.c (.int .i64 1))⟩])
  (.block 2 (.loop k125_b0)))
  (.seq (.ops [⟨(some 54), none, .mv (.t 0)⟩, ⟨(some 55), none, .mv (.t 3)⟩, ⟨(some 56), none, .sls 1 (.t 54) (some (.t 55)) none⟩, ⟨none, none, .clr 1 (.int .i64 0) (.t 56)⟩])
  (.seq (.ops [⟨(some 57), none, .mv (.t 0)⟩, ⟨(some 58), none, .mv (.t 3)⟩, ⟨(some 59), none, .sls 1 (.t 57) none (some (.t 58))⟩, ⟨(some 2), none, .mv (.t 59)⟩])
  .ret)))) .skip)))
  (.ops [⟨(some 14), none, .mv (.t 3)⟩, ⟨(some 15), none, .bin .add (.t 14) (.c (.int .i64 1))⟩, ⟨(some 3), none, .mv (.t 15)⟩])))
def k125 : KC := (.seq (.ops [⟨(some 2), none, .mv (.c (.nils))⟩])
  (.seq (.seq (.ops [⟨(some 6), none, .mv (.t 0)⟩, ⟨(some 7), none, .len false (.t 6)⟩, ⟨(some 8), none, .bin .lss (.t 7) (.c (.int .i64 2))⟩])
  (.cond (.t 8) (.seq (.ops [⟨(some 9), none, .mv (.t 0)⟩, ⟨(some 2), none, .mv (.t 9)⟩])
  .ret) .skip))
  (.seq (.seq (.ops [⟨(some 3), none, .mv (.c (.int .i64 1))⟩])
  (.block 0 (.loop k125_b1)))
  (.seq (.ops [⟨(some 60), none, .mv (.t 0)⟩, ⟨(some 2), none, .mv (.t 60)⟩])
  .ret))))
theorem e125 {args : List PV} {σ : Heap} {K : PV → Heap → Prop} (hl : args.length ≤ 61) (h : Wf σ → (∀ a ∈ args, PV.upto σ.length a) → vc (mkCfg Try.prog mixed [] 61 σ.length) k125 (FinK σ.length [.t 2] K) (argEnv 0 args) σ) : ACall Try.prog 125 args σ K :=
  ACall_enter (C := mkCfg Try.prog mixed [] 61 σ.length) (c := Try.f125.body.getD .skip) Try.func125 (by kernel_rfl) (by kernel_rfl) (by kernel_rfl) rfl hl (by kernel_rfl) (by kernel_rfl) h
end Go.Proofs.Ytpepbomifjbgnaa
namespace Go.Proofs.Ytpepbomifjbgnaa
open Go.Kv
set_option linter.unusedVariables false
set_option linter.unusedSimpArgs false
attribute [local irreducible] ACall PCall KL
/-- The list with one of each run. -/
def cpt : List Int → List Int
  | [] => []
  | a :: l => match l with
    | [] => [a]
    | b :: _ => if a = b then cpt l else a :: cpt l
theorem cpt_one (a : Int) : cpt [a] = [a] := rfl
theorem cpt_two (a b : Int) (l : List Int) : cpt (a :: b :: l) = if a = b then cpt (b :: l) else a :: cpt (b :: l) := rfl
theorem cpt_snoc : ∀ (l : List Int) (a b : Int), cpt (l ++ [a, b]) = cpt (l ++ [a]) ++ if a = b then [] else [b]
  | [], a, b => by
    show cpt [a, b] = cpt [a] ++ _
    rw [cpt_two, cpt_one, cpt_one]
    split
    · rename_i h; subst h; rfl
    · rfl
  | [c], a, b => by
    show cpt (c :: a :: [b]) = cpt (c :: a :: []) ++ _
    rw [cpt_two c a, cpt_two c a, cpt_two a b, cpt_one, cpt_one]
    split <;> split <;> rename_i h1 h2
    · subst h2; rfl
    · rfl
    · subst h2; rfl
    · rfl
  | c :: d :: l, a, b => by
    show cpt (c :: d :: (l ++ [a, b])) = cpt (c :: d :: (l ++ [a])) ++ _
    have := cpt_snoc (d :: l) a b
    simp only [List.cons_append] at this
    rw [cpt_two, cpt_two, this]
    split <;> simp
theorem cpt_take {r : List Int} {k : Nat} (h0 : 0 < k) (h : k < r.length) : cpt (r.take (k + 1)) = cpt (r.take k) ++ if r.getD (k - 1) 0 = r.getD k 0 then [] else [r.getD k 0] := by
  obtain ⟨j, rfl⟩ : ∃ j, k = j + 1 := ⟨k - 1, by omega⟩
  have e1 : r.take (j + 1 + 1) = r.take j ++ [r.getD j 0, r.getD (j + 1) 0] := by
    rw [List.take_succ_eq_append_getElem h, List.take_succ_eq_append_getElem (by omega : j < r.length), List.append_assoc]
    simp [List.getD_eq_getElem?_getD, h, (by omega : j < r.length)]
  have e2 : r.take (j + 1) = r.take j ++ [r.getD j 0] := by
    rw [List.take_succ_eq_append_getElem (by omega : j < r.length)]
    simp [List.getD_eq_getElem?_getD, (by omega : j < r.length)]
  rw [e1, e2, cpt_snoc, Nat.add_sub_cancel]
theorem cpt_short {r : List Int} (h : r.length < 2) : cpt r = r := by
  rcases r with _ | ⟨a, _ | ⟨b, r⟩⟩
  · rfl
  · rfl
  · simp at h; omega
theorem cpt_len_take (r : List Int) : ∀ k, k ≤ r.length → (cpt (r.take k)).length ≤ k
  | 0, _ => by simp [cpt]
  | k + 1, h => by
    rcases Nat.eq_zero_or_pos k with e | h0
    · subst e
      rw [cpt_short (by simp; omega)]; simp; omega
    · rw [cpt_take h0 (by omega), List.length_append]
      have := cpt_len_take r k (by omega)
      split <;> simp <;> omega
theorem p125 (σ : Heap) (id ver : Nat) (e : TypeId) (r : List Int) (hid : σ[id]? = some (.arr ver e 1 (ints r))) (hn : r.length ≤ 4294967296) {K : PV → Heap → Prop} (hK : ∀ post : List Int, K (.ref id ver 0 (cpt r).length) (σ.set id (.arr ver e 1 (ints (cpt r ++ post))))) :
    ACall Try.prog 125 [.ref id ver 0 r.length] σ K := by
  have hlt := (List.getElem?_eq_some_iff.1 hid).1
  have hself : ∀ o, (σ.set id o)[id]? = some o := fun o => List.getElem?_set_self hlt
  have hset : ∀ o o', (σ.set id o).set id o' = σ.set id o' := fun o o' => List.set_set ..
  have h00 : σ.set id (.arr ver e 1 (ints r)) = σ := List.ext_getElem? fun i => by
    by_cases h : id = i
    · subst h; rw [hself, hid]
    · rw [List.getElem?_set_ne h]
  have hKs : cpt r = r → K (.ref id ver 0 r.length) σ := fun h => by
    have := hK []
    rwa [h, List.append_nil, h00] at this
  refine e125 (by simp) fun _ _ => ?_
  simp only [k125, argEnv, hid, take6, List.drop_zero, Int.cast_ofNat_Int, go_sem, ↓reduceIte, Nat.reduceEqDiff, Nat.reduceAdd, Nat.reduceMul, Nat.reduceLeDiff, Nat.reduceLT, Int.reduceLE, Int.reduceLT, reduceCtorEq]
  refine ⟨fun h => Kv.Fin.now (hKs (cpt_short (by omega))), fun h => ?_⟩
  refine KL_ind k125_b1.eq_1 (fun k : Nat => [(0, .ref id ver 0 r.length), (3, .int .i64 k)]) (fun _ => σ) (fun k => 1 ≤ k ∧ k ≤ r.length ∧ cpt (r.take k) = r.take k) (fun k => r.length - k) [0, 3] 1 (by simp [keep]) rfl ⟨Nat.le_refl _, by omega, cpt_short (by simp; omega)⟩ fun k ⟨hk1, hk2, hc⟩ ih => ?_
  have hk1' : ((k : Int) - 1).toNat = k - 1 := by omega
  try simp only [hid, hk1', take6, List.drop_zero, Int.cast_ofNat_Int, go_sem, ↓reduceIte, Nat.reduceEqDiff, Nat.reduceAdd, Nat.reduceMul, Nat.reduceLeDiff, Nat.reduceLT, Int.reduceLE, Int.reduceLT, reduceCtorEq]
  refine ⟨fun h1 => ?_, fun h1 => ?_⟩
  · have hkl : k < r.length := by omega
    have hct := cpt_take hk1 hkl
    refine ⟨by omega, by omega, fun _ => ⟨by omega, by omega, by omega, fun _ => ⟨fun h2 => ⟨by omega, ?_⟩, fun h2 => ⟨by omega, ?_⟩⟩⟩⟩
    · rw [if_pos h2.symm, List.append_nil, hc] at hct
      clear ih
      refine KL_ind k125_b0.eq_1 (fun x : Nat × Nat × List Int => [(0, .ref id ver 0 r.length), (3, .int .i64 x.2.1), (4, .ref id ver k (r.length - k)), (5, .int .i64 x.1)]) (fun x => σ.set id (.arr ver e 1 (ints x.2.2))) (fun x => 1 ≤ x.1 ∧ x.1 ≤ r.length - k ∧ x.2.1 ≤ k + x.1 - 1 ∧ x.2.2.length = r.length ∧ x.2.1 = (cpt (r.take (k + x.1))).length ∧ x.2.2.take x.2.1 = cpt (r.take (k + x.1)) ∧ ∀ i, k + x.1 - 1 ≤ i → x.2.2.getD i 0 = r.getD i 0) (fun x => r.length - k - x.1) [0, 3, 4, 5] (1, k, r) (by simp [keep]) h00.symm ⟨Nat.le_refl _, by show 1 ≤ r.length - k; omega, by show k ≤ k + 1 - 1; omega, rfl, by show k = (cpt (r.take (k + 1))).length; rw [hct]; simp; omega, hct.symm, fun _ _ => rfl⟩ fun ⟨j, q, m⟩ ⟨hj1, hj2, hq, hml, hql, hmt, hmr⟩ ih => ?_
      simp only at hj1 hj2 hq hml hql hmt hmr
      have hj' : ((j : Int) - 1).toNat = j - 1 := by omega
      try simp only [hself, hset, hml, hj', take6, List.drop_zero, Int.cast_ofNat_Int, go_sem, ↓reduceIte, Nat.reduceEqDiff, Nat.reduceAdd, Nat.reduceMul, Nat.reduceLeDiff, Nat.reduceLT, Int.reduceLE, Int.reduceLT, reduceCtorEq]
      refine ⟨fun h3 => ?_, fun h3 => ?_⟩
      · have hjl : k + j < r.length := by omega
        have hct2 := cpt_take (r := r) (k := k + j) (by omega) hjl
        have g1 := hmr (j + k) (by omega)
        have g2 := hmr (j - 1 + k) (by omega)
        have e1 : j + k = k + j := by omega
        have e2 : j - 1 + k = k + j - 1 := by omega
        rw [g1, g2, e1, e2]
        refine ⟨by omega, by omega, fun _ => ⟨by omega, by omega, by omega, fun _ => ⟨fun h4 => ⟨by omega, by omega, fun _ => ⟨by omega, by omega, fun _ => ⟨by omega, by omega, ?_⟩⟩⟩, fun h4 => ⟨by omega, ?_⟩⟩⟩⟩
        · rw [if_neg (fun h => h4 h.symm)] at hct2
          have hqm : q < m.length := by omega
          refine ih (j + 1, q + 1, m.set q (r.getD (k + j) 0)) ⟨by show 1 ≤ j + 1; omega, by show j + 1 ≤ r.length - k; omega, by show q + 1 ≤ k + (j + 1) - 1; omega, by show (m.set q _).length = r.length; simp [hml], ?_, ?_, fun i hi => ?_⟩ (by show r.length - k - (j + 1) < r.length - k - j; omega) _ _ (by simp [keep]) rfl
          · show q + 1 = (cpt (r.take (k + (j + 1)))).length
            rw [← Nat.add_assoc, hct2, List.length_append, ← hql]; rfl
          · show (m.set q _).take (q + 1) = cpt (r.take (k + (j + 1)))
            rw [← Nat.add_assoc, hct2, ← hmt, List.take_set, List.take_succ_eq_append_getElem hqm]
            rw [List.set_append_right _ _ (by simp; omega)]
            simp [Nat.min_eq_left (Nat.le_of_lt hqm)]
          · show (m.set q _).getD i 0 = r.getD i 0
            have hi' : k + (j + 1) - 1 ≤ i := hi
            rw [getD_setI _ _ _ _ hqm, if_neg (by omega)]
            exact hmr i (by omega)
        · rw [if_pos h4.symm, List.append_nil] at hct2
          refine ih (j + 1, q, m) ⟨by show 1 ≤ j + 1; omega, by show j + 1 ≤ r.length - k; omega, by show q ≤ k + (j + 1) - 1; omega, hml, ?_, ?_, fun i hi => hmr i (by have : k + (j + 1) - 1 ≤ i := hi; omega)⟩ (by show r.length - k - (j + 1) < r.length - k - j; omega) _ _ (by simp [keep]) rfl
          · show q = (cpt (r.take (k + (j + 1)))).length
            rw [← Nat.add_assoc, hct2]; exact hql
          · show m.take q = cpt (r.take (k + (j + 1)))
            rw [← Nat.add_assoc, hct2]; exact hmt
      · have e : k + j = r.length := by omega
        rw [e, List.take_length] at hql hmt
        refine ⟨by omega, by omega, by omega, Kv.Fin.now ?_⟩
        rw [Nat.sub_zero, hmt, hql, List.append_assoc]
        exact hK _
    · refine ih (k + 1) ⟨by omega, by omega, ?_⟩ (by omega) _ _ (by simp [keep]) rfl
      rw [hct, if_neg (fun h => h2 h.symm), hc, List.take_succ_eq_append_getElem hkl]
      simp [List.getD_eq_getElem?_getD, hkl]
  · obtain rfl : k = r.length := by omega
    rw [List.take_length] at hc
    exact Kv.Fin.now (hKs hc)
end Go.Proofs.Ytpepbomifjbgnaa
