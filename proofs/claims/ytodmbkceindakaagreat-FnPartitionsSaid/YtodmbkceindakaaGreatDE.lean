/- The draws of lists of maps. -/
import Derived.Test.YtodmbkceindakaaGreatCb
import Derived.Test.YtodmbkceindakaaGreatDD
import Derived.Test.YtodmbkceindakaaGreatG6
namespace Go.Proofs.YtodmbkceindakaaGreat
open Go.Kv
set_option maxRecDepth 100000
/- spec.l01DrawList -/
/- live [0, 1, 5, 6, 7, 8, 26, 27, 28] -/
def k46_b0 : KC := (.seq (.seq (.ops [⟨(some 30), none, .mv (.t 8)⟩, ⟨(some 31), none, .mv (.t 1)⟩, ⟨(some 32), none, .bin .lss (.t 30) (.t 31)⟩])
  (.cond (.t 32) .skip (.exit 2)))
  (.seq (.block 3 (.ops [⟨(some 35), none, .mv (.t 8)⟩, ⟨(some 36), none, .mv (.t 8)⟩, ⟨(some 37), none, .fieldA 1 (.t 7)⟩, ⟨(some 38), none, .idxA 5 1 (.t 37) (.t 36)⟩, ⟨(some 39), none, .load false 1 (.t 38)⟩, ⟨(some 40), none, .mv (.t 8)⟩, ⟨(some 41), none, .mnmx false (.t 39) [(.t 40)]⟩, ⟨(some 42), none, .fieldA 1 (.t 7)⟩, ⟨(some 43), none, .idxA 5 1 (.t 42) (.t 35)⟩, ⟨none, none, .store 1 (.t 43) (.t 41)⟩]))
  (.ops [⟨(some 33), none, .mv (.t 8)⟩, ⟨(some 34), none, .bin .add (.t 33) (.c (.int .i64 1))⟩, ⟨(some 8), none, .mv (.t 34)⟩])))
/- live [0, 1, 5, 6, 26, 27, 28] -/
def k46_b1 : KC := (.seq (.seq (.ops [⟨(some 16), none, .mv (.t 6)⟩, ⟨(some 17), none, .bin .gtr (.t 16) (.c (.int .i64 0))⟩])
  (.cond (.t 17) .skip (.exit 0)))
  (.seq (.block 1 (.seq (.ops [⟨(some 20), none, .mv (.t 0)⟩, ⟨(some 21), none, .mv (.t 1)⟩, ⟨(some 22), none, .call (.c (.fn (.func 63) [] [])) [(.t 20), (.t 21)]⟩, ⟨(some 7), none, .alloc [.int .i64 0, .int .i64 0, .int .i64 0, .int .i64 0, .int .i64 0, .int .i64 0]⟩, ⟨none, none, .store 6 (.t 7) (.t 22)⟩])
  (.seq (.seq (.ops [⟨(some 23), none, .mv (.t 1)⟩, ⟨(some 24), none, .bin .eql (.t 23) (.c (.int .i64 5))⟩, ⟨(some 25), none, .mv (.t 24)⟩, ⟨(some 26), some (25, true), .mv (.t 0)⟩, ⟨(some 27), some (25, true), .call (.c (.fn (.func 37) [] [])) [(.t 26), (.c (.int .i64 3))]⟩, ⟨(some 28), some (25, true), .bin .gtr (.t 27) (.c (.int .i64 0))⟩, ⟨(some 29), none, .pick (.t 25) (.t 28) (.c (.bool false))⟩])
  (.cond (.t 29) (.seq (.ops [⟨(some 8), none, .mv (.c (.int .i64 0))⟩])
  (.block 2 (.loop k46_b0))) .skip))
  (.ops [⟨(some 44), none, .mv (.t 5)⟩, ⟨(some 45), none, .load true 6 (.t 7)⟩, ⟨(some 46), none, .bsl true 41 6 [(.t 45)]⟩, ⟨(some 47), none, .app (.t 44) (.t 46) 41 6⟩, ⟨(some 5), none, .mv (.t 47)⟩]))))
  (.ops [⟨(some 18), none, .mv (.t 6)⟩, ⟨(some 19), none, .bin .sub (.t 18) (.c (.int .i64 1))⟩, ⟨(some 6), none, .mv (.t 19)⟩])))
def k46 : KC := (.seq (.ops [⟨(some 4), none, .mv (.c (.nils))⟩])
  (.seq (.ops [⟨(some 9), none, .bsl false 41 6 []⟩, ⟨(some 5), none, .mv (.t 9)⟩])
  (.seq (.seq (.ops [⟨(some 10), none, .mv (.t 0)⟩, ⟨(some 11), none, .mv (.t 0)⟩, ⟨(some 12), none, .bsl false 2 1 [(.c (.int .i64 1)), (.c (.int .i64 2)), (.c (.int .i64 3)), (.c (.int .i64 6))]⟩, ⟨(some 13), none, .call (.c (.fn (.func 38) [] [])) [(.t 11), (.t 12)]⟩, ⟨(some 14), none, .call (.c (.fn (.func 37) [] [])) [(.t 10), (.t 13)]⟩, ⟨(some 15), none, .bin .add (.c (.int .i64 1)) (.t 14)⟩, ⟨(some 6), none, .mv (.t 15)⟩])
  (.block 0 (.loop k46_b1)))
  (.seq (.ops [⟨(some 48), none, .mv (.t 5)⟩, ⟨(some 4), none, .mv (.t 48)⟩])
  .ret))))
theorem e46 {args : List PV} {σ : Heap} {K : PV → Heap → Prop} (hl : args.length ≤ 49) (h : Wf σ → (∀ a ∈ args, PV.upto σ.length a) → vc (mkCfg Tryz.prog mixed [46] 49 σ.length) k46 (FinK σ.length [.t 4] K) (argEnv 0 args) σ) : ACall Tryz.prog 46 args σ K :=
  ACall_enter (C := mkCfg Tryz.prog mixed [46] 49 σ.length) (c := Tryz.f46.body.getD .skip) Tryz.func46 (by kernel_rfl) (by kernel_rfl) (by kernel_rfl) rfl hl (by kernel_rfl) (by kernel_rfl) h
end Go.Proofs.YtodmbkceindakaaGreat
namespace Go.Proofs.YtodmbkceindakaaGreat
open Go.Kv
set_option linter.unusedVariables false
set_option linter.unusedSimpArgs false
attribute [local irreducible] ACall PCall KL
/-- Lists of small maps. -/
def Mps (t : List (List Int)) : Prop := ∀ r ∈ t, r.length = 6 ∧ 0 ≤ r.getD 0 0 ∧ r.getD 0 0 ≤ 5
def Mp6 (t : List (List Int)) : Prop := ∀ r ∈ t, r.length = 6
theorem ok6 {m : List Int} (hm : m.length = 6) : okL 6 [PV.agg (ints m)] = True := by
  have := okL_aggs 6 [m]
  simp only [List.mem_singleton, forall_eq, hm] at this
  simpa [aggs] using this
theorem take_aggs (t : List (List Int)) (m : List Int) : (aggs t).take t.length ++ [PV.agg (ints m)] = aggs (t ++ [m]) := by
  rw [List.take_of_length_le (by rw [aggs_length]; exact Nat.le_refl _)]; simp [aggs]
theorem Kept.set2 {σ τ : Heap} {b id : Nat} (h : Kept σ τ b) (hid : σ.length ≤ id) (o : AObj) : Kept σ (τ.set id o) b :=
  ⟨by rw [List.length_set]; exact h.1, fun j hj hb => (List.getElem?_set_ne (by omega)).trans (h.2 j hj hb)⟩
theorem Src.set2 {τ : Heap} {b id : Nat} {l : List Int} (h : Src τ b l) (hid : id ≠ b) (o : AObj) : Src (τ.set id o) b l := h.keep (List.getElem?_set_ne hid)
theorem p46 {l : List Int} (hl : Byt l) {σ : Heap} {b : Nat} (hS : Src σ b l) (n : Nat) (hn1 : 1 ≤ n) (hn : n ≤ 5) {K : PV → Heap → Prop}
    (hK : ∀ (t : List (List Int)) σ', 1 ≤ t.length → t.length ≤ 6 → Mps t → Src σ' b l → Kept σ σ' b → K (.list (aggs t)) σ') : ACall Tryz.prog 46 [.ptr b 0, .int .i64 n] σ K := by
  have hlt := hS.lt
  refine e46 (by simp) fun _ _ => ?_
  simp only [k46, argEnv, take6, List.drop_zero, Int.cast_ofNat_Int, go_sem, ↓reduceIte, Nat.reduceEqDiff, Nat.reduceAdd, Nat.reduceMul, Nat.reduceLeDiff, Nat.reduceLT, Int.reduceLE, Int.reduceLT, reduceCtorEq]
  try simp only [OpK_eq, HKv, take6, List.drop_zero, Int.cast_ofNat_Int, go_sem, ↓reduceIte, Nat.reduceEqDiff, Nat.reduceAdd, Nat.reduceMul, Nat.reduceLeDiff, Nat.reduceLT, Int.reduceLE, Int.reduceLT, reduceCtorEq]
  refine p38 hl ((hS.app _).app _) [1, 2, 3, 6] (by simp) (id := σ.length + 1) (ver := 0) (e := 2) (by rw [List.getElem?_append_right (by simp)]; simp [ints]) (by omega) 4 rfl fun r1 τ1 h2 h4 h5 h6 => ?_
  have ho1 : τ1[σ.length]? = some (.arr 0 41 6 []) := by
    rw [h5.2 _ (by simp) (by omega), List.getElem?_append_left (by simp)]; simp
  have hk1 : Kept σ τ1 b := ((Kept.app _ _ _).trans (Kept.app _ _ _)).trans h5
  have hr1 : 1 ≤ r1 ∧ r1 ≤ 6 := by
    simp only [List.mem_cons, List.not_mem_nil, or_false] at h2
    omega
  clear h2 h5 h6
  try simp only [OpK_eq, HKv, take6, List.drop_zero, Int.cast_ofNat_Int, go_sem, ↓reduceIte, Nat.reduceEqDiff, Nat.reduceAdd, Nat.reduceMul, Nat.reduceLeDiff, Nat.reduceLT, Int.reduceLE, Int.reduceLT, reduceCtorEq]
  refine p37 hl h4 _ fun r2 τ2 h2 h3 h4' h5 h6 => ?_
  have h3 := h3 (by omega)
  have ho2 : τ2[σ.length]? = some (.arr 0 41 6 []) := (h5.2 _ (List.getElem?_eq_some_iff.1 ho1).1 (by omega)).trans ho1
  have hk2 := hk1.trans h5
  obtain ⟨c, hc, hc1⟩ : ∃ c : Nat, (1 : Int) + r2 = (c : Int) ∧ (1 ≤ c ∧ c ≤ 6) := ⟨(1 + r2).toNat, by omega, by omega⟩
  clear h5 h6 ho1 hk1 h4
  try simp only [OpK_eq, HKv, take6, List.drop_zero, Int.cast_ofNat_Int, go_sem, ↓reduceIte, Nat.reduceEqDiff, Nat.reduceAdd, Nat.reduceMul, Nat.reduceLeDiff, Nat.reduceLT, Int.reduceLE, Int.reduceLT, reduceCtorEq]
  rw [hc]
  refine ⟨by omega, ?_⟩
  refine KL_ind k46_b1.eq_1 (fun y : Nat × List (List Int) × Nat × Heap × PV × PV × PV => [(0, .ptr b 0), (1, .int .i64 n), (5, .ref σ.length y.2.2.1 0 y.2.1.length), (6, .int .i64 y.1), (26, y.2.2.2.2.1), (27, y.2.2.2.2.2.1), (28, y.2.2.2.2.2.2)]) (fun y => y.2.2.2.1)
    (fun y => y.2.1.length + y.1 = c ∧ Mps y.2.1 ∧ y.2.2.2.1[σ.length]? = some (.arr y.2.2.1 41 6 (aggs y.2.1)) ∧ Src y.2.2.2.1 b l ∧ Kept σ y.2.2.2.1 b) (fun y => y.1) [0, 1, 5, 6, 26, 27, 28] (c, [], 0, τ2, .undef, .undef, .undef) (by simp [keep]) rfl ⟨by simp, fun r hr => (by cases hr), ho2, h4', hk2⟩ fun ⟨j, t, ver, τ, v1, v2, v3⟩ ⟨hj, ht, ho, hS1, hK1⟩ ih => ?_
  simp only at hj ht ho hS1 hK1
  try simp only [OpK_eq, HKv, take6, List.drop_zero, Int.cast_ofNat_Int, go_sem, ↓reduceIte, Nat.reduceEqDiff, Nat.reduceAdd, Nat.reduceMul, Nat.reduceLeDiff, Nat.reduceLT, Int.reduceLE, Int.reduceLT, reduceCtorEq]
  refine ⟨fun g1 => ?_, fun g1 => ?_⟩
  · refine p63 hl hS1 n hn1 hn fun m ρ q1 q2 q3 q4 => ?_
    have hm := q1
    have hil : (ints m).length = 6 := by rw [ints_length, q1]
    have ho3 : ρ[σ.length]? = some (.arr ver 41 6 (aggs t)) := (q4.2 _ (List.getElem?_eq_some_iff.1 ho).1 (by omega)).trans ho
    have hK3 := hK1.trans q4
    have hgb : ∀ (s : Heap) (a : AObj), (s ++ [a])[s.length]? = some a := fun s a => by simp
    have hsb : ∀ (s : Heap) (a b : AObj), (s ++ [a]).set s.length b = s ++ [b] := fun s a b => by simp [List.set_append_right]
    have hap : ∀ X, (ρ ++ X)[σ.length]? = some (.arr ver 41 6 (aggs t)) := fun X => (List.getElem?_append_left (List.getElem?_eq_some_iff.1 ho3).1).trans ho3
    have hnext : ∀ (m : List Int) (ρ' : Heap) w1 w2 w3, m.length = 6 → (0 ≤ m.getD 0 0 ∧ m.getD 0 0 ≤ 5) → Src ρ' b l → Kept σ ρ' b → ρ'[σ.length]? = some (.arr ver 41 6 (aggs t)) → ∀ env, keep [0, 1, 5, 6, 26, 27, 28] env = [(0, .ptr b 0), (1, .int .i64 n), (5, .ref σ.length (ver + 1) 0 (t.length + 1)), (6, .int .i64 ((j : Int) - 1)), (26, w1), (27, w2), (28, w3)] → KL (mkCfg Tryz.prog mixed [46] 49 σ.length) k46_b1 _ env (ρ'.set σ.length (.arr (ver + 1) 41 6 (aggs (t ++ [m])))) := fun m ρ' w1 w2 w3 a1 a2 a3 a4 a5 env a6 =>
      ih (j - 1, t ++ [m], ver + 1, _, w1, w2, w3) ⟨by show (t ++ [m]).length + (j - 1) = c; rw [List.length_append, List.length_singleton]; omega, fun r hr => by
        rcases List.mem_append.1 hr with hr | hr
        · exact ht r hr
        · simp only [List.mem_singleton] at hr; subst hr; exact ⟨a1, a2⟩, List.getElem?_set_self (List.getElem?_eq_some_iff.1 a5).1, a3.set2 (by omega) _, a4.set2 (Nat.le_refl _) _⟩ (by show j - 1 < j; omega) env _ (by
          rw [a6, List.length_append, List.length_singleton]
          have : ((j - 1 : Nat) : Int) = (j : Int) - 1 := by omega
          show _ = [(0, PV.ptr b 0), (1, PV.int .i64 n), (5, PV.ref σ.length (ver + 1) 0 (t.length + 1)), (6, PV.int .i64 ((j - 1 : Nat) : Int)), (26, w1), (27, w2), (28, w3)]
          rw [this]) rfl
    clear ih
    have hok := ok6 q1
    try simp only [OpK_eq, HKv, hgb, hsb, hil, q1, hap, hok, take_aggs, aggs_length, take6, List.drop_zero, Int.cast_ofNat_Int, go_sem, ↓reduceIte, Nat.reduceEqDiff, Nat.reduceAdd, Nat.reduceMul, Nat.reduceLeDiff, Nat.reduceLT, Int.reduceLE, Int.reduceLT, reduceCtorEq]
    refine ⟨fun h5n => ?_, fun h5n => ?_⟩
    · have hql : σ.length < ρ.length := (List.getElem?_eq_some_iff.1 ho3).1
      refine p37 hl (q3.app _) _ fun r3 ρ2 p2 p3 p4 p5 p6 => ?_
      have hqb : ρ2[ρ.length]? = some (.box (ints m)) := by rw [p5.2 _ (by simp) (by omega)]; simp
      have hob : ρ2[σ.length]? = some (.arr ver 41 6 (aggs t)) := (p5.2 _ (by simp; omega) (by omega)).trans (hap _)
      have hK4 := (hK3.trans (Kept.app ρ _ b)).trans p5
      generalize hq : ρ.length = q at *
      clear hap hgb hsb p5 p6 ho3 hK3 q3 q4 hK1 hS1 ho ho2 h4' hk2 hq
      try simp only [OpK_eq, HKv, hil, q1, hqb, hob, hok, take_aggs, aggs_length, take6, List.drop_zero, Int.cast_ofNat_Int, go_sem, ↓reduceIte, Nat.reduceEqDiff, Nat.reduceAdd, Nat.reduceMul, Nat.reduceLeDiff, Nat.reduceLT, Int.reduceLE, Int.reduceLT, reduceCtorEq]
      refine ⟨fun g2 => ?_, fun g2 => ?_⟩
      · refine KL_ind k46_b0.eq_1 (fun y : Nat × List Int × Heap => [(0, .ptr b 0), (1, .int .i64 n), (5, .ref σ.length ver 0 t.length), (6, .int .i64 j), (7, .ptr q 0), (8, .int .i64 y.1), (26, .ptr b 0), (27, .int .i64 r3), (28, .bool (decide (0 < r3)))]) (fun y => y.2.2) (fun y => y.1 ≤ n ∧ y.2.1.length = 6 ∧ (0 ≤ y.2.1.getD 0 0 ∧ y.2.1.getD 0 0 ≤ 5) ∧ y.2.2[q]? = some (.box (ints y.2.1)) ∧ y.2.2[σ.length]? = some (.arr ver 41 6 (aggs t)) ∧ Src y.2.2 b l ∧ Kept σ y.2.2 b) (fun y => n - y.1) [0, 1, 5, 6, 7, 8, 26, 27, 28] (0, m, ρ2) (by simp [keep]) rfl ⟨Nat.zero_le _, q1, q2, hqb, hob, p4, hK4⟩ fun ⟨k, m2, ρ3⟩ ⟨hk, s1, s2, s3, s4, s5, s6⟩ ihk => ?_
        simp only at hk s1 s2 s3 s4 s5 s6
        have hil2 : (ints m2).length = 6 := by rw [ints_length, s1]
        have hok2 := ok6 s1
        try simp only [OpK_eq, HKv, s3, s4, hil2, s1, hok2, take_aggs, aggs_length, ints_set1, take6, List.drop_zero, Int.cast_ofNat_Int, go_sem, ↓reduceIte, Nat.reduceEqDiff, Nat.reduceAdd, Nat.reduceMul, Nat.reduceLeDiff, Nat.reduceLT, Int.reduceLE, Int.reduceLT, reduceCtorEq]
        refine ⟨fun g3 => ?_, fun g3 => ?_⟩
        · have hql3 := (List.getElem?_eq_some_iff.1 s3).1
          exact ⟨by omega, by omega, fun _ => ⟨by omega, by omega, by omega, ihk (k + 1, m2.set (k + 1) _, _) ⟨by show k + 1 ≤ n; omega, by rw [List.length_set]; exact s1, set_pt s2, List.getElem?_set_self hql3, (List.getElem?_set_ne (by omega)).trans s4, s5.set2 (by omega) _, s6.set2 (by omega) _⟩ (by show n - (k + 1) < n - k; omega) _ _ (by simp [keep]) rfl⟩⟩
        · exact ⟨⟨by omega, by omega⟩, by omega, hnext m2 _ _ _ _ s1 s2 s5 s6 s4 _ (by simp [keep]; exact ⟨rfl, rfl, rfl⟩)⟩
      · exact ⟨⟨by omega, by omega⟩, by omega, hnext m _ _ _ _ q1 q2 p4 hK4 hob _ (by simp [keep]; exact ⟨rfl, rfl, rfl⟩)⟩
    · exact ⟨⟨by omega, by omega⟩, by omega, hnext m _ _ _ _ q1 q2 (q3.app _) (hK3.trans (Kept.app _ _ _)) (hap _) _ (by simp [keep]; exact ⟨rfl, rfl, rfl⟩)⟩
  · obtain rfl : j = 0 := by omega
    exact Kv.Fin.giveAt ho (.inl (Imm.refa (solo_get ho))) (hK t _ (by omega) (by omega) ht (hS1.set2 (by omega) _) (hK1.set2 (Nat.le_refl _) _))
end Go.Proofs.YtodmbkceindakaaGreat
