/- Several texts of this session as one, less what the claim does not need. -/
import Derived.Test.YthbbjbfbeaiphaaGreatCb
import Derived.Test.YthbbjbfbeaiphaaGreatZ10
import Derived.Test.YthbbjbfbeaiphaaGreatZ7
import Derived.Test.YthbbjbfbeaiphaaGreatZ8
import Derived.Test.YthbbjbfbeaiphaaGreatG1
section
/- The draws of lists of maps. -/
namespace Go.Proofs.YthbbjbfbeaiphaaGreat
open Go.Kv
set_option maxRecDepth 100000
def k69_b0 : KC := (.seq (.seq (.ops [mV 30 8, mV 31 1, oP 32 (.bin .lss (.t 30) (.t 31))])
  (.cond (.t 32) .skip (.exit 2)))
  (.seq (.block 3 (.ops [mV 35 8, mV 36 8, oP 37 (.fieldA 1 (.t 7)), oP 38 (.idxA 5 1 (.t 37) (.t 36)), oP 39 (.load false 1 (.t 38)), mV 40 8, oP 41 (.mnmx false (.t 39) [(.t 40)]), oP 42 (.fieldA 1 (.t 7)), oP 43 (.idxA 5 1 (.t 42) (.t 35)), ⟨none, none, .store 1 (.t 43) (.t 41)⟩]))
  (.ops [mV 33 8, oP 34 (.bin .add (.t 33) (iC 1)), mV 8 34])))
def k69_b1 : KC := (.seq (.seq (.ops [mV 16 6, oP 17 (.bin .gtr (.t 16) (iC 0))])
  (.cond (.t 17) .skip (.exit 0)))
  (.seq (.block 1 (.seq (.ops [mV 20 0, mV 21 1, oP 22 (.call (fC 135) [(.t 20), (.t 21)]), oP 7 (.alloc [.int .i64 0, .int .i64 0, .int .i64 0, .int .i64 0, .int .i64 0, .int .i64 0]), ⟨none, none, .store 6 (.t 7) (.t 22)⟩])
  (.seq (.seq (.ops [mV 23 1, oP 24 (.bin .eql (.t 23) (iC 5)), mV 25 24, ⟨(some 26), some (25, true), .mv (.t 0)⟩, ⟨(some 27), some (25, true), .call (fC 56) [(.t 26), (iC 3)]⟩, ⟨(some 28), some (25, true), .bin .gtr (.t 27) (iC 0)⟩, oP 29 (.pick (.t 25) (.t 28) (.c (.bool false)))])
  (.cond (.t 29) (.seq (.ops [oP 8 (.mv (iC 0))])
  (.block 2 (.loop k69_b0))) .skip))
  (.ops [mV 44 5, oP 45 (.load true 6 (.t 7)), oP 46 (.bsl true 60 6 [(.t 45)]), oP 47 (.app (.t 44) (.t 46) 60 6), mV 5 47]))))
  (.ops [mV 18 6, oP 19 (.bin .sub (.t 18) (iC 1)), mV 6 19])))
def k69 : KC := (.seq (.ops [oP 4 (.mv (.c (.nils)))])
  (.seq (.ops [oP 9 (.bsl false 60 6 []), mV 5 9])
  (.seq (.seq (.ops [mV 10 0, mV 11 0, oP 12 (.bsl false 2 1 [(iC 1), (iC 2), (iC 3), (iC 6)]), oP 13 (.call (fC 58) [(.t 11), (.t 12)]), oP 14 (.call (fC 56) [(.t 10), (.t 13)]), oP 15 (.bin .add (iC 1) (.t 14)), mV 6 15])
  (.block 0 (.loop k69_b1)))
  (.seq (.ops [mV 48 5, mV 4 48])
  .ret))))
theorem e69 : Ent 69 49 [46] [.t 4] k69 := ent Tryz.func69 (by kernel_rfl) (by kernel_rfl) (by kernel_rfl) (fun _ => by kernel_rfl) (by kernel_rfl)
end Go.Proofs.YthbbjbfbeaiphaaGreat
namespace Go.Proofs.YthbbjbfbeaiphaaGreat
open Go.Kv
set_option linter.unusedVariables false
set_option linter.unusedSimpArgs false
attribute [local irreducible] ACall PCall KL
/-- Lists of small maps. -/
def Mps (t : List (List Int)) : Prop := ∀ r ∈ t, r.length = 6 ∧ 0 ≤ r.getD 0 0 ∧ r.getD 0 0 ≤ 5
def Mp6 (t : List (List Int)) : Prop := ∀ r ∈ t, r.length = 6
theorem ok6 {m : List Int} (hm : m.length = 6) : okL 6 [PV.agg (ints m)] = True := by
  have := okL_aggs 6 [m]
  simp only [List.mem_singleton, forall_eq, hm] at this
  simpa [aggs] using this
theorem take_aggs (t : List (List Int)) (m : List Int) : (aggs t).take t.length ++ [PV.agg (ints m)] = aggs (t ++ [m]) := by
  rw [List.take_of_length_le (by rw [aggs_length]; exact Nat.le_refl _)]; simp [aggs]
theorem Kept.set2 {σ τ : Heap} {b id : Nat} (h : Kept σ τ b) (hid : σ.length ≤ id) (o : AObj) : Kept σ (τ.set id o) b :=
  ⟨by rw [List.length_set]; exact h.1, fun j hj hb => (List.getElem?_set_ne (by omega)).trans (h.2 j hj hb)⟩
theorem Src.set2 {τ : Heap} {b id : Nat} {l : List Int} (h : Src τ b l) (hid : id ≠ b) (o : AObj) : Src (τ.set id o) b l := h.keep (List.getElem?_set_ne hid)
theorem set_pt5 {m : List Int} {k : Nat} {v : Int} (h : 0 ≤ m.getD 0 0 ∧ m.getD 0 0 ≤ 5) : 0 ≤ (m.set (k + 1) v).getD 0 0 ∧ (m.set (k + 1) v).getD 0 0 ≤ 5 := by
  cases m with
  | nil => exact h
  | cons a m => exact h
theorem p69 {l : List Int} (hl : Byt l) {σ : Heap} {b : Nat} (hS : Src σ b l) (n : Nat) (hn1 : 1 ≤ n) (hn : n ≤ 5) {K : PV → Heap → Prop}
    (hK : ∀ (t : List (List Int)) σ', 1 ≤ t.length → t.length ≤ 6 → Mps t → Src σ' b l → Kept σ σ' b → K (.list (aggs t)) σ') : ACall Tryz.prog 69 [.ptr b 0, .int .i64 n] σ K := by
  have hlt := hS.lt
  refine e69 (by simp) fun _ _ => ?_
  simp only [k69, argEnv, take6, List.drop_zero, Int.cast_ofNat_Int, go_sem, ↓reduceIte, Nat.reduceEqDiff, Nat.reduceAdd, Nat.reduceMul, Nat.reduceLeDiff, Nat.reduceLT, Int.reduceLE, Int.reduceLT, reduceCtorEq]
  try simp only [OpK_eq, HKv, take6, List.drop_zero, Int.cast_ofNat_Int, go_sem, ↓reduceIte, Nat.reduceEqDiff, Nat.reduceAdd, Nat.reduceMul, Nat.reduceLeDiff, Nat.reduceLT, Int.reduceLE, Int.reduceLT, reduceCtorEq]
  refine p58 hl ((hS.app _).app _) [1, 2, 3, 6] (by simp) (id := σ.length + 1) (ver := 0) (e := 2) (by rw [List.getElem?_append_right (by simp)]; simp [ints]) (by omega) 4 rfl fun r1 τ1 h2 h4 h5 h6 => ?_
  have ho1 : τ1[σ.length]? = some (.arr 0 60 6 []) := by
    rw [h5.2 _ (by simp) (by omega), List.getElem?_append_left (by simp)]; simp
  have hk1 : Kept σ τ1 b := ((Kept.app _ _ _).trans (Kept.app _ _ _)).trans h5
  have hr1 : 1 ≤ r1 ∧ r1 ≤ 6 := by
    simp only [List.mem_cons, List.not_mem_nil, or_false] at h2
    omega
  clear h2 h5 h6
  try simp only [OpK_eq, HKv, take6, List.drop_zero, Int.cast_ofNat_Int, go_sem, ↓reduceIte, Nat.reduceEqDiff, Nat.reduceAdd, Nat.reduceMul, Nat.reduceLeDiff, Nat.reduceLT, Int.reduceLE, Int.reduceLT, reduceCtorEq]
  refine p56 hl h4 _ fun r2 τ2 h2 h3 h4' h5 h6 => ?_
  have h3 := h3 (by omega)
  have ho2 : τ2[σ.length]? = some (.arr 0 60 6 []) := (h5.2 _ (List.getElem?_eq_some_iff.1 ho1).1 (by omega)).trans ho1
  have hk2 := hk1.trans h5
  obtain ⟨c, hc, hc1⟩ : ∃ c : Nat, (1 : Int) + r2 = (c : Int) ∧ (1 ≤ c ∧ c ≤ 6) := ⟨(1 + r2).toNat, by omega, by omega⟩
  clear h5 h6 ho1 hk1 h4
  try simp only [OpK_eq, HKv, take6, List.drop_zero, Int.cast_ofNat_Int, go_sem, ↓reduceIte, Nat.reduceEqDiff, Nat.reduceAdd, Nat.reduceMul, Nat.reduceLeDiff, Nat.reduceLT, Int.reduceLE, Int.reduceLT, reduceCtorEq]
  rw [hc]
  refine ⟨by omega, ?_⟩
  refine KL_ind k69_b1.eq_1 (fun y : Nat × List (List Int) × Nat × Heap × PV × PV × PV => [(0, .ptr b 0), (1, .int .i64 n), (5, .ref σ.length y.2.2.1 0 y.2.1.length), (6, .int .i64 y.1), (26, y.2.2.2.2.1), (27, y.2.2.2.2.2.1), (28, y.2.2.2.2.2.2)]) (fun y => y.2.2.2.1)
    (fun y => y.2.1.length + y.1 = c ∧ Mps y.2.1 ∧ y.2.2.2.1[σ.length]? = some (.arr y.2.2.1 60 6 (aggs y.2.1)) ∧ Src y.2.2.2.1 b l ∧ Kept σ y.2.2.2.1 b) (fun y => y.1) [0, 1, 5, 6, 26, 27, 28] (c, [], 0, τ2, .undef, .undef, .undef) (by simp [keep]) rfl ⟨by simp, fun r hr => (by cases hr), ho2, h4', hk2⟩ fun ⟨j, t, ver, τ, v1, v2, v3⟩ ⟨hj, ht, ho, hS1, hK1⟩ ih => ?_
  simp only at hj ht ho hS1 hK1
  try simp only [OpK_eq, HKv, take6, List.drop_zero, Int.cast_ofNat_Int, go_sem, ↓reduceIte, Nat.reduceEqDiff, Nat.reduceAdd, Nat.reduceMul, Nat.reduceLeDiff, Nat.reduceLT, Int.reduceLE, Int.reduceLT, reduceCtorEq]
  refine ⟨fun g1 => ?_, fun g1 => ?_⟩
  · refine p135 hl hS1 n hn1 hn fun m ρ q1 q2 q3 q4 => ?_
    have hm := q1
    have hil : (ints m).length = 6 := by rw [ints_length, q1]
    have ho3 : ρ[σ.length]? = some (.arr ver 60 6 (aggs t)) := (q4.2 _ (List.getElem?_eq_some_iff.1 ho).1 (by omega)).trans ho
    have hK3 := hK1.trans q4
    have hgb : ∀ (s : Heap) (a : AObj), (s ++ [a])[s.length]? = some a := fun s a => by simp
    have hsb : ∀ (s : Heap) (a b : AObj), (s ++ [a]).set s.length b = s ++ [b] := fun s a b => by simp [List.set_append_right]
    have hap : ∀ X, (ρ ++ X)[σ.length]? = some (.arr ver 60 6 (aggs t)) := fun X => (List.getElem?_append_left (List.getElem?_eq_some_iff.1 ho3).1).trans ho3
    have hnext : ∀ (m : List Int) (ρ' : Heap) w1 w2 w3, m.length = 6 → (0 ≤ m.getD 0 0 ∧ m.getD 0 0 ≤ 5) → Src ρ' b l → Kept σ ρ' b → ρ'[σ.length]? = some (.arr ver 60 6 (aggs t)) → ∀ env, keep [0, 1, 5, 6, 26, 27, 28] env = [(0, .ptr b 0), (1, .int .i64 n), (5, .ref σ.length (ver + 1) 0 (t.length + 1)), (6, .int .i64 ((j : Int) - 1)), (26, w1), (27, w2), (28, w3)] → KL (mkCfg Tryz.prog mixed [46] 49 σ.length) k69_b1 _ env (ρ'.set σ.length (.arr (ver + 1) 60 6 (aggs (t ++ [m])))) := fun m ρ' w1 w2 w3 a1 a2 a3 a4 a5 env a6 =>
      ih (j - 1, t ++ [m], ver + 1, _, w1, w2, w3) ⟨by show (t ++ [m]).length + (j - 1) = c; rw [List.length_append, List.length_singleton]; omega, fun r hr => by
        rcases List.mem_append.1 hr with hr | hr
        · exact ht r hr
        · simp only [List.mem_singleton] at hr; subst hr; exact ⟨a1, a2⟩, List.getElem?_set_self (List.getElem?_eq_some_iff.1 a5).1, a3.set2 (by omega) _, a4.set2 (Nat.le_refl _) _⟩ (by show j - 1 < j; omega) env _ (by
          rw [a6, List.length_append, List.length_singleton]
          have : ((j - 1 : Nat) : Int) = (j : Int) - 1 := by omega
          show _ = [(0, PV.ptr b 0), (1, PV.int .i64 n), (5, PV.ref σ.length (ver + 1) 0 (t.length + 1)), (6, PV.int .i64 ((j - 1 : Nat) : Int)), (26, w1), (27, w2), (28, w3)]
          rw [this]) rfl
    clear ih
    have hok := ok6 q1
    try simp only [OpK_eq, HKv, hgb, hsb, hil, q1, hap, hok, take_aggs, aggs_length, take6, List.drop_zero, Int.cast_ofNat_Int, go_sem, ↓reduceIte, Nat.reduceEqDiff, Nat.reduceAdd, Nat.reduceMul, Nat.reduceLeDiff, Nat.reduceLT, Int.reduceLE, Int.reduceLT, reduceCtorEq]
    refine ⟨fun h5n => ?_, fun h5n => ?_⟩
    · have hql : σ.length < ρ.length := (List.getElem?_eq_some_iff.1 ho3).1
      refine p56 hl (q3.app _) _ fun r3 ρ2 p2 p3 p4 p5 p6 => ?_
      have hqb : ρ2[ρ.length]? = some (.box (ints m)) := by rw [p5.2 _ (by simp) (by omega)]; simp
      have hob : ρ2[σ.length]? = some (.arr ver 60 6 (aggs t)) := (p5.2 _ (by simp; omega) (by omega)).trans (hap _)
      have hK4 := (hK3.trans (Kept.app ρ _ b)).trans p5
      generalize hq : ρ.length = q at *
      clear hap hgb hsb p5 p6 ho3 hK3 q3 q4 hK1 hS1 ho ho2 h4' hk2 hq
      try simp only [OpK_eq, HKv, hil, q1, hqb, hob, hok, take_aggs, aggs_length, take6, List.drop_zero, Int.cast_ofNat_Int, go_sem, ↓reduceIte, Nat.reduceEqDiff, Nat.reduceAdd, Nat.reduceMul, Nat.reduceLeDiff, Nat.reduceLT, Int.reduceLE, Int.reduceLT, reduceCtorEq]
      refine ⟨fun g2 => ?_, fun g2 => ?_⟩
      · refine KL_ind k69_b0.eq_1 (fun y : Nat × List Int × Heap => [(0, .ptr b 0), (1, .int .i64 n), (5, .ref σ.length ver 0 t.length), (6, .int .i64 j), (7, .ptr q 0), (8, .int .i64 y.1), (26, .ptr b 0), (27, .int .i64 r3), (28, .bool (decide (0 < r3)))]) (fun y => y.2.2) (fun y => y.1 ≤ n ∧ y.2.1.length = 6 ∧ (0 ≤ y.2.1.getD 0 0 ∧ y.2.1.getD 0 0 ≤ 5) ∧ y.2.2[q]? = some (.box (ints y.2.1)) ∧ y.2.2[σ.length]? = some (.arr ver 60 6 (aggs t)) ∧ Src y.2.2 b l ∧ Kept σ y.2.2 b) (fun y => n - y.1) [0, 1, 5, 6, 7, 8, 26, 27, 28] (0, m, ρ2) (by simp [keep]) rfl ⟨Nat.zero_le _, q1, q2, hqb, hob, p4, hK4⟩ fun ⟨k, m2, ρ3⟩ ⟨hk, s1, s2, s3, s4, s5, s6⟩ ihk => ?_
        simp only at hk s1 s2 s3 s4 s5 s6
        have hil2 : (ints m2).length = 6 := by rw [ints_length, s1]
        have hok2 := ok6 s1
        try simp only [OpK_eq, HKv, s3, s4, hil2, s1, hok2, take_aggs, aggs_length, ints_set1, take6, List.drop_zero, Int.cast_ofNat_Int, go_sem, ↓reduceIte, Nat.reduceEqDiff, Nat.reduceAdd, Nat.reduceMul, Nat.reduceLeDiff, Nat.reduceLT, Int.reduceLE, Int.reduceLT, reduceCtorEq]
        refine ⟨fun g3 => ?_, fun g3 => ?_⟩
        · have hql3 := (List.getElem?_eq_some_iff.1 s3).1
          exact ⟨by omega, by omega, fun _ => ⟨by omega, by omega, by omega, ihk (k + 1, m2.set (k + 1) _, _) ⟨by show k + 1 ≤ n; omega, by rw [List.length_set]; exact s1, set_pt5 s2, List.getElem?_set_self hql3, (List.getElem?_set_ne (by omega)).trans s4, s5.set2 (by omega) _, s6.set2 (by omega) _⟩ (by show n - (k + 1) < n - k; omega) _ _ (by simp [keep]) rfl⟩⟩
        · exact ⟨⟨by omega, by omega⟩, by omega, hnext m2 _ _ _ _ s1 s2 s5 s6 s4 _ (by simp [keep]; exact ⟨rfl, rfl, rfl⟩)⟩
      · exact ⟨⟨by omega, by omega⟩, by omega, hnext m _ _ _ _ q1 q2 p4 hK4 hob _ (by simp [keep]; exact ⟨rfl, rfl, rfl⟩)⟩
    · exact ⟨⟨by omega, by omega⟩, by omega, hnext m _ _ _ _ q1 q2 (q3.app _) (hK3.trans (Kept.app _ _ _)) (hap _) _ (by simp [keep]; exact ⟨rfl, rfl, rfl⟩)⟩
  · obtain rfl : j = 0 := by omega
    exact Kv.Fin.giveAt ho (.inl (Imm.refa (solo_get ho))) (hK t _ (by omega) (by omega) ht (hS1.set2 (by omega) _) (hK1.set2 (Nat.le_refl _) _))
end Go.Proofs.YthbbjbfbeaiphaaGreat
end
section
/- The draws of lists of maps that may be spoilt. -/
namespace Go.Proofs.YthbbjbfbeaiphaaGreat
open Go.Kv
set_option maxRecDepth 100000
def k132 : KC := (.seq (.ops [oP 2 (.mv (.c (.nils)))])
  (.seq (.ops [mV 3 0, mV 4 0, oP 5 (.bsl false 2 1 [(iC 1), (iC 2), (iC 2), (iC 3), (iC 3), (iC 3), (iC 4), (iC 4), (iC 5)]), oP 6 (.call (fC 58) [(.t 4), (.t 5)]), oP 7 (.call (fC 69) [(.t 3), (.t 6)]), mV 2 7])
  .ret))
theorem e132 : Ent 132 8 [] [.t 2] k132 := ent Tryz.func132 (by kernel_rfl) (by kernel_rfl) (by kernel_rfl) (fun _ => by kernel_rfl) (by kernel_rfl)
def k68_b0 : KC := (.seq (.seq (.ops [mV 23 5, oP 24 (.len false (.t 23)), oP 25 (.bin .leq (.t 24) (iC 6))])
  (.cond (.t 25) .skip (.exit 1)))
  (.block 2 (.ops [mV 26 5, mV 27 1, oP 28 (.idxS 6 (.t 27) (iC 0)), oP 29 (.load true 6 (.t 28)), oP 30 (.bsl true 60 6 [(.t 29)]), oP 31 (.app (.t 26) (.t 30) 60 6), mV 5 31])))
def k68 : KC := (.seq (.ops [oP 4 (.mv (.c (.nils)))])
  (.seq (.ops [oP 6 (.bsl false 60 6 []), mV 7 1, oP 8 (.app (.t 6) (.t 7) 60 6), mV 5 8])
  (.seq (.seq (.ops [mV 9 0, oP 10 (.call (fC 56) [(.t 9), (iC 40)])])
  (.block 0 (.seq (.ops [oP 12 (.bin .eql (.t 10) (iC 0)), mV 11 12])
  (.cond (.t 11) (.seq (.ops [oP 13 (.bsl false 60 6 []), mV 4 13])
  .ret) (.seq (.ops [oP 15 (.bin .eql (.t 10) (iC 1)), mV 14 15])
  (.cond (.t 14) (.seq (.ops [mV 16 5, mV 17 0, oP 18 (.call (fC 133) [(.t 17)]), oP 19 (.bsl true 60 6 [(.t 18)]), oP 20 (.app (.t 16) (.t 19) 60 6), mV 4 20])
  .ret) (.seq (.ops [oP 22 (.bin .eql (.t 10) (iC 2)), mV 21 22])
  (.cond (.t 21) (.seq (.block 1 (.loop k68_b0))
  (.seq (.ops [mV 32 5, mV 4 32])
  .ret)) (.seq (.ops [oP 34 (.bin .eql (.t 10) (iC 3)), mV 33 34])
  (.cond (.t 33) (.seq (.tree (.op (mV 35 5) (.op (mV 36 0) (.op (mV 37 5) (.op (mV 40 0) (.op (mV 41 1) (.alt (.op (oP 38 (.len false (.t 37))) (.alt (.op (oP 39 (.call (fC 56) [(.t 36), (.t 38)])) (.op (oP 42 (.idxS 6 (.t 41) (iC 0))) (.op (oP 43 (.load true 6 (.t 42))) (.op (oP 44 (.call (fC 134) [(.t 40), (.t 43)])) (.op (oP 45 (.idxS 6 (.t 35) (.t 39))) (.op ⟨none, none, .store 6 (.t 45) (.t 44)⟩ .fin)))))) (.op (oP 42 (.idxS 6 (.t 41) (iC 0))) (.alt (.op (oP 39 (.call (fC 56) [(.t 36), (.t 38)])) (.op (oP 43 (.load true 6 (.t 42))) (.op (oP 44 (.call (fC 134) [(.t 40), (.t 43)])) (.op (oP 45 (.idxS 6 (.t 35) (.t 39))) (.op ⟨none, none, .store 6 (.t 45) (.t 44)⟩ .fin))))) (.op (oP 43 (.load true 6 (.t 42))) (.op (oP 39 (.call (fC 56) [(.t 36), (.t 38)])) (.op (oP 44 (.call (fC 134) [(.t 40), (.t 43)])) (.op (oP 45 (.idxS 6 (.t 35) (.t 39))) (.op ⟨none, none, .store 6 (.t 45) (.t 44)⟩ .fin))))))))) (.op (oP 42 (.idxS 6 (.t 41) (iC 0))) (.alt (.op (oP 38 (.len false (.t 37))) (.alt (.op (oP 39 (.call (fC 56) [(.t 36), (.t 38)])) (.op (oP 43 (.load true 6 (.t 42))) (.op (oP 44 (.call (fC 134) [(.t 40), (.t 43)])) (.op (oP 45 (.idxS 6 (.t 35) (.t 39))) (.op ⟨none, none, .store 6 (.t 45) (.t 44)⟩ .fin))))) (.op (oP 43 (.load true 6 (.t 42))) (.op (oP 39 (.call (fC 56) [(.t 36), (.t 38)])) (.op (oP 44 (.call (fC 134) [(.t 40), (.t 43)])) (.op (oP 45 (.idxS 6 (.t 35) (.t 39))) (.op ⟨none, none, .store 6 (.t 45) (.t 44)⟩ .fin))))))) (.op (oP 43 (.load true 6 (.t 42))) (.op (oP 38 (.len false (.t 37))) (.op (oP 39 (.call (fC 56) [(.t 36), (.t 38)])) (.op (oP 44 (.call (fC 134) [(.t 40), (.t 43)])) (.op (oP 45 (.idxS 6 (.t 35) (.t 39))) (.op ⟨none, none, .store 6 (.t 45) (.t 44)⟩ .fin)))))))))))))))
  (.seq (.ops [mV 46 5, mV 4 46])
  .ret)) .skip))))))))))
  (.seq (.ops [mV 47 1, mV 4 47])
  .ret))))
theorem e68 : Ent 68 48 [19, 30, 1000000] [.t 4] k68 := ent Tryz.func68 (by kernel_rfl) (by kernel_rfl) (by kernel_rfl) (fun _ => by kernel_rfl) (by kernel_rfl)
def k67 : KC := (.seq (.ops [oP 2 (.mv (.c (.nils)))])
  (.seq (.ops [mV 3 0, mV 4 0, oP 5 (.call (fC 132) [(.t 4)]), oP 6 (.call (fC 68) [(.t 3), (.t 5)]), mV 2 6])
  .ret))
theorem e67 : Ent 67 7 [] [.t 2] k67 := ent Tryz.func67 (by kernel_rfl) (by kernel_rfl) (by kernel_rfl) (fun _ => by kernel_rfl) (by kernel_rfl)
end Go.Proofs.YthbbjbfbeaiphaaGreat
namespace Go.Proofs.YthbbjbfbeaiphaaGreat
open Go.Kv
set_option linter.unusedVariables false
set_option linter.unusedSimpArgs false
attribute [local irreducible] ACall PCall KL
theorem p132 {l : List Int} (hl : Byt l) {σ : Heap} {b : Nat} (hS : Src σ b l) {K : PV → Heap → Prop}
    (hK : ∀ (t : List (List Int)) σ', 1 ≤ t.length → t.length ≤ 6 → Mps t → Src σ' b l → Kept σ σ' b → K (.list (aggs t)) σ') : ACall Tryz.prog 132 [.ptr b 0] σ K := by
  have hlt := hS.lt
  refine e132 (by simp) fun _ _ => ?_
  simp only [k132, argEnv, take6, List.drop_zero, Int.cast_ofNat_Int, go_sem, ↓reduceIte, Nat.reduceEqDiff, Nat.reduceAdd, Nat.reduceMul, Nat.reduceLeDiff, Nat.reduceLT, Int.reduceLE, Int.reduceLT, reduceCtorEq]
  try simp only [OpK_eq, HKv, take6, List.drop_zero, Int.cast_ofNat_Int, go_sem, ↓reduceIte, Nat.reduceEqDiff, Nat.reduceAdd, Nat.reduceMul, Nat.reduceLeDiff, Nat.reduceLT, Int.reduceLE, Int.reduceLT, reduceCtorEq]
  refine p58 hl (hS.app _) [1, 2, 2, 3, 3, 3, 4, 4, 5] (by simp) (id := σ.length) (ver := 0) (e := 2) (by simp [ints]) (by omega) 9 rfl fun r τ h2 h4 h5 h6 => ?_
  have hr : ∃ n : Nat, r = n ∧ 1 ≤ n ∧ n ≤ 5 := by
    simp only [List.mem_cons, List.not_mem_nil, or_false] at h2
    exact ⟨r.toNat, by omega, by omega, by omega⟩
  obtain ⟨n, rfl, hn1, hn5⟩ := hr
  have hk1 : Kept σ τ b := (Kept.app _ _ _).trans h5
  try simp only [OpK_eq, HKv, take6, List.drop_zero, Int.cast_ofNat_Int, go_sem, ↓reduceIte, Nat.reduceEqDiff, Nat.reduceAdd, Nat.reduceMul, Nat.reduceLeDiff, Nat.reduceLT, Int.reduceLE, Int.reduceLT, reduceCtorEq]
  refine p69 hl h4 n hn1 hn5 fun t ρ q1 q2 q3 q4 q5 => ?_
  try simp only [OpK_eq, HKv, take6, List.drop_zero, Int.cast_ofNat_Int, go_sem, ↓reduceIte, Nat.reduceEqDiff, Nat.reduceAdd, Nat.reduceMul, Nat.reduceLeDiff, Nat.reduceLT, Int.reduceLE, Int.reduceLT, reduceCtorEq]
  exact Kv.Fin.now (hK t _ q1 q2 q3 q4 (hk1.trans q5))
/-- A list of maps of one's own, beside the source. -/
structure LT (σ τ : Heap) (b : Nat) (l : List Int) (t : List (List Int)) : Prop where
  src : Src τ b l
  kept : Kept σ τ b
  arr : τ[σ.length]? = some (.arr 1 60 6 (aggs t))
  lt : b < σ.length
theorem LT.step {σ τ τ' : Heap} {b : Nat} {l : List Int} {t : List (List Int)} (h : LT σ τ b l t) (hS : Src τ' b l) (hK : Kept τ τ' b) : LT σ τ' b l t :=
  have h3 := h.lt
  ⟨hS, h.kept.trans hK, (hK.2 _ (List.getElem?_eq_some_iff.1 h.arr).1 (by omega)).trans h.arr, h.lt⟩
theorem nextL {l : List Int} (hl : Byt l) {σ ρ : Heap} {b : Nat} {t : List (List Int)} (h : LT σ ρ b l t) (n : Int) {K : PV → Heap → Prop} (hK : ∀ (r : Int) ρ', 0 ≤ r → (1 ≤ n → r < n) → LT σ ρ' b l t → K (.int .i64 r) ρ') : ACall Tryz.prog 56 [.ptr b 0, .int .i64 n] ρ K :=
  p56 hl h.src n fun r ρ' h1 h2 h3 h4 _ => hK r ρ' h1 h2 (h.step h3 h4)
theorem badL {l : List Int} (hl : Byt l) {σ ρ : Heap} {b : Nat} {t : List (List Int)} (h : LT σ ρ b l t) {f : List Int} (h6 : f.length = 6) (hp : 0 ≤ f.getD 0 0 ∧ f.getD 0 0 ≤ 5) {K : PV → Heap → Prop} (hK : ∀ (m : List Int) ρ', m.length = 6 → LT σ ρ' b l t → K (.agg (ints m)) ρ') : ACall Tryz.prog 134 [.ptr b 0, .agg (ints f)] ρ K :=
  p134 hl h.src f h6 hp fun m ρ' h1 h2 h3 => hK m ρ' h1 (h.step h2 h3)
theorem p68 {l : List Int} (hl : Byt l) {σ : Heap} {b : Nat} (hS : Src σ b l) (t : List (List Int)) (h1 : 1 ≤ t.length) (h6 : t.length ≤ 6) (ht : Mps t) {K : PV → Heap → Prop}
    (hK : ∀ (t' : List (List Int)) σ', t'.length ≤ 7 → Mp6 t' → Src σ' b l → Kept σ σ' b → K (.list (aggs t')) σ') : ACall Tryz.prog 68 [.ptr b 0, .list (aggs t)] σ K := by
  have hlt := hS.lt
  have ht6 : ∀ r ∈ t, r.length = 6 := fun r hr => (ht r hr).1
  have hgb : ∀ (s : Heap) (a : AObj), (s ++ [a])[s.length]? = some a := fun s a => by simp
  have hsb : ∀ (s : Heap) (a b : AObj), (s ++ [a]).set s.length b = s ++ [b] := fun s a b => by simp [List.set_append_right]
  refine e68 (by simp) fun _ _ => ?_
  simp only [k68, argEnv, take6, List.drop_zero, Int.cast_ofNat_Int, go_sem, ↓reduceIte, Nat.reduceEqDiff, Nat.reduceAdd, Nat.reduceMul, Nat.reduceLeDiff, Nat.reduceLT, Int.reduceLE, Int.reduceLT, reduceCtorEq]
  try simp only [OpK_eq, HKv, hgb, hsb, take6, List.drop_zero, Int.cast_ofNat_Int, go_sem, ↓reduceIte, Nat.reduceEqDiff, Nat.reduceAdd, Nat.reduceMul, Nat.reduceLeDiff, Nat.reduceLT, Int.reduceLE, Int.reduceLT, reduceCtorEq]
  refine ⟨by rw [okL_aggs]; exact ht6, by omega, ?_⟩
  refine p56 hl (hS.app _) _ fun r τ h2 h3 h4 h5 h7 => ?_
  have h3 := h3 (by omega)
  have ho : τ[σ.length]? = some (.arr 1 60 6 (aggs t)) := by
    rw [h5.2 _ (by simp) (by omega)]; simp
  have hk1 : Kept σ τ b := (Kept.app _ _ _).trans h5
  have hol := (List.getElem?_eq_some_iff.1 ho).1
  clear h5 h7
  try simp only [OpK_eq, HKv, take6, List.drop_zero, Int.cast_ofNat_Int, go_sem, ↓reduceIte, Nat.reduceEqDiff, Nat.reduceAdd, Nat.reduceMul, Nat.reduceLeDiff, Nat.reduceLT, Int.reduceLE, Int.reduceLT, reduceCtorEq]
  refine ⟨fun _ => ?_, fun _ => ⟨fun _ => ?_, fun _ => ⟨fun _ => ?_, fun _ => ⟨fun _ => ?_, fun _ => ?_⟩⟩⟩⟩
  · have hid : (τ ++ [AObj.arr 0 60 6 []])[τ.length]? = some (.arr 0 60 6 (aggs [])) := by simp [aggs]
    exact Kv.Fin.giveAt hid (.inl (Imm.refa (solo_get hid))) (hK [] _ (by simp) (fun r hr => by cases hr) ((h4.app _).set2 (by omega) _) ((hk1.trans (Kept.app _ _ _)).set2 (by omega) _))
  · refine p133 hl h4 fun m ρ q1 q2 q3 => ?_
    have ho2 : ρ[σ.length]? = some (.arr 1 60 6 (aggs t)) := (q3.2 _ hol (by omega)).trans ho
    have hol2 := (List.getElem?_eq_some_iff.1 ho2).1
    have hok := ok6 q1
    try simp only [OpK_eq, HKv, ho2, hok, take_aggs, aggs_length, take6, List.drop_zero, Int.cast_ofNat_Int, go_sem, ↓reduceIte, Nat.reduceEqDiff, Nat.reduceAdd, Nat.reduceMul, Nat.reduceLeDiff, Nat.reduceLT, Int.reduceLE, Int.reduceLT, reduceCtorEq]
    refine ⟨⟨by omega, by omega⟩, ?_⟩
    have hid : (ρ.set σ.length (.arr 2 60 6 (aggs (t ++ [m]))))[σ.length]? = some (.arr 2 60 6 (aggs (t ++ [m]))) := List.getElem?_set_self hol2
    have hl7 : t.length + 1 = (t ++ [m]).length := by simp
    rw [hl7]
    exact Kv.Fin.giveAt hid (.inl (Imm.refa (solo_get hid))) (hK (t ++ [m]) _ (by simp; omega) (fun r hr => by
      rcases List.mem_append.1 hr with hr | hr
      · exact ht6 r hr
      · simp only [List.mem_singleton] at hr; rw [hr]; exact q1) ((q2.set2 (by omega) _).set2 (by omega) _) (((hk1.trans q3).set2 (by omega) _).set2 (by omega) _))
  · refine KL_ind k68_b0.eq_1 (fun y : List (List Int) × Nat × Heap => [(1, .list (aggs t)), (5, .ref σ.length y.2.1 0 y.1.length)]) (fun y => y.2.2) (fun y => y.1.length ≤ 7 ∧ Mp6 y.1 ∧ y.2.2[σ.length]? = some (.arr y.2.1 60 6 (aggs y.1)) ∧ Src y.2.2 b l ∧ Kept σ y.2.2 b) (fun y => 7 - y.1.length) [1, 5] (t, 1, τ) (by simp [keep]) rfl ⟨by show t.length ≤ 7; omega, ht6, ho, h4, hk1⟩ fun ⟨t2, ver, ρ⟩ ⟨s1, s2, s3, s4, s5⟩ ih => ?_
    simp only at s1 s2 s3 s4 s5
    have h0 : t[0]? = some (t.getD 0 []) := by
      rw [List.getD_eq_getElem?_getD, List.getElem?_eq_getElem (by omega)]; rfl
    have h06 : (t.getD 0 []).length = 6 := ht6 _ (List.mem_of_getElem? h0)
    have hok := ok6 h06
    have hol3 := (List.getElem?_eq_some_iff.1 s3).1
    try simp only [OpK_eq, HKv, s3, hok, take_aggs, aggs_length, h06, take6, List.drop_zero, Int.cast_ofNat_Int, go_sem, ↓reduceIte, Nat.reduceEqDiff, Nat.reduceAdd, Nat.reduceMul, Nat.reduceLeDiff, Nat.reduceLT, Int.reduceLE, Int.reduceLT, reduceCtorEq]
    refine ⟨fun g1 => ?_, fun g1 => ?_⟩
    · refine ⟨by omega, fun _ => ⟨⟨by omega, by omega⟩, ih (t2 ++ [t.getD 0 []], ver + 1, _) ⟨by show (t2 ++ [t.getD 0 []]).length ≤ 7; simp; omega, fun r hr => ?_, List.getElem?_set_self hol3, s4.set2 (by omega) _, s5.set2 (Nat.le_refl _) _⟩ (by show 7 - (t2 ++ [t.getD 0 []]).length < 7 - t2.length; simp; omega) _ _ (by simp [keep]) rfl⟩⟩
      rcases List.mem_append.1 hr with hr | hr
      · exact s2 r hr
      · simp only [List.mem_singleton] at hr; rw [hr]; exact h06
    · exact Kv.Fin.giveAt s3 (.inl (Imm.refa (solo_get s3))) (hK t2 _ s1 s2 (s4.set2 (by omega) _) (s5.set2 (by omega) _))
  · have hL : LT σ τ b l t := ⟨h4, hk1, ho, hlt⟩
    have hc : ∀ ρ, LT σ ρ b l t → ρ[σ.length]? = some (.arr 1 60 6 (aggs t)) := fun ρ h => h.arr
    have h0 : t[0]? = some (t.getD 0 []) := by
      rw [List.getD_eq_getElem?_getD, List.getElem?_eq_getElem (by omega)]; rfl
    have h06 := ht _ (List.mem_of_getElem? h0)
    have h066 := h06.1
    have hil0 : (ints (t.getD 0 [])).length = 6 := by rw [ints_length, h066]
    have hs6 : subC (ints (t.getD 0 [])) 0 6 = ints (t.getD 0 []) := sub6 hil0
    have ht66 : List.take 6 (t.getD 0 []) = t.getD 0 [] := take6 h066
    have hg6 : ∀ i : Nat, i < t.length → (t.getD i []).length = 6 := fun i hi => by
      rw [List.getD_eq_getElem?_getD, List.getElem?_eq_getElem hi]
      exact ht6 _ (List.getElem_mem hi)
    have hlen : ∀ i : Nat, i < t.length → 6 ≤ (t.getD i []).length := fun i hi => by rw [hg6 i hi]; exact Nat.le_refl _
    have hfin : ∀ (i : Nat) (m : List Int) ρ, i < t.length → m.length = 6 → LT σ ρ b l t → Kv.Fin σ.length K (.ref σ.length 1 0 t.length) (ρ.set σ.length (.arr 1 60 6 ((aggs t).set i (.agg (putC (ints (t.getD i [])) 0 (ints m)))))) := fun i m ρ hi hm hLT => by
      have e1 : putC (ints (t.getD i [])) 0 (ints m) = ints m := put6 (by rw [ints_length, hm]) (by rw [ints_length, hg6 i hi])
      have e2 : (aggs t).set i (.agg (ints m)) = aggs (t.set i m) := by simp [aggs, List.map_set]
      have e3 : t.length = (t.set i m).length := by simp
      rw [e1, e2, e3]
      have hid : (ρ.set σ.length (AObj.arr 1 60 6 (aggs (t.set i m))))[σ.length]? = some (.arr 1 60 6 (aggs (t.set i m))) := List.getElem?_set_self (List.getElem?_eq_some_iff.1 hLT.arr).1
      exact Kv.Fin.giveAt hid (.inl (Imm.refa (solo_get hid))) (hK (t.set i m) _ (by simp; omega) (fun r hr => by
        rcases List.mem_or_eq_of_mem_set hr with hr | rfl
        · exact ht6 r hr
        · exact hm) ((hLT.src.set2 (by omega) _).set2 (by omega) _) ((hLT.kept.set2 (Nat.le_refl _) _).set2 (Nat.le_refl _) _))
    clear ho hol
    repeat' (first
      | omega
      | (rw [vT_alt]; refine ⟨?_, ?_⟩)
      | (refine nextL hl (σ := σ) (t := t) (by assumption) _ fun r2 ρ h4 h5 hB2 => ?_)
      | (refine badL hl (σ := σ) (t := t) (by assumption) h066 h06.2 fun m ρ h7 hB3 => ?_)
      | (with_reducible refine And.intro ?_ ?_)
      | (with_reducible intro _)
      | (simp (disch := assumption) only [hc, OpK_eq, HKv, hil0, hs6, ht66, h066, aggs_length, take6, List.drop_zero, Int.cast_ofNat_Int, go_sem, ↓reduceIte, Nat.reduceEqDiff, Nat.reduceAdd, Nat.reduceMul, Nat.reduceLeDiff, Nat.reduceLT, Int.reduceLE, Int.reduceLT, reduceCtorEq]))
    all_goals (first | exact hlen _ (by omega) | exact hfin _ _ _ (by omega) (by assumption) (by assumption))
  · exact Kv.Fin.now (hK t _ (by omega) ht6 h4 hk1)
theorem p67 {l : List Int} (hl : Byt l) {σ : Heap} {b : Nat} (hS : Src σ b l) {K : PV → Heap → Prop}
    (hK : ∀ (t' : List (List Int)) σ', t'.length ≤ 7 → Mp6 t' → Src σ' b l → Kept σ σ' b → K (.list (aggs t')) σ') : ACall Tryz.prog 67 [.ptr b 0] σ K := by
  refine e67 (by simp) fun _ _ => ?_
  simp only [k67, argEnv, take6, List.drop_zero, Int.cast_ofNat_Int, go_sem, ↓reduceIte, Nat.reduceEqDiff, Nat.reduceAdd, Nat.reduceMul, Nat.reduceLeDiff, Nat.reduceLT, Int.reduceLE, Int.reduceLT, reduceCtorEq]
  try simp only [OpK_eq, HKv, take6, List.drop_zero, Int.cast_ofNat_Int, go_sem, ↓reduceIte, Nat.reduceEqDiff, Nat.reduceAdd, Nat.reduceMul, Nat.reduceLeDiff, Nat.reduceLT, Int.reduceLE, Int.reduceLT, reduceCtorEq]
  refine p132 hl hS fun t τ q1 q2 q3 q4 q5 => ?_
  try simp only [OpK_eq, HKv, take6, List.drop_zero, Int.cast_ofNat_Int, go_sem, ↓reduceIte, Nat.reduceEqDiff, Nat.reduceAdd, Nat.reduceMul, Nat.reduceLeDiff, Nat.reduceLT, Int.reduceLE, Int.reduceLT, reduceCtorEq]
  refine p68 hl q4 t q1 q2 q3 fun t' ρ p1 p2 p3 p4 => ?_
  try simp only [OpK_eq, HKv, take6, List.drop_zero, Int.cast_ofNat_Int, go_sem, ↓reduceIte, Nat.reduceEqDiff, Nat.reduceAdd, Nat.reduceMul, Nat.reduceLeDiff, Nat.reduceLT, Int.reduceLE, Int.reduceLT, reduceCtorEq]
  exact Kv.Fin.now (hK t' _ p1 p2 p3 (q5.trans p4))
end Go.Proofs.YthbbjbfbeaiphaaGreat
end
section
/- All permutations of few points: the specification's recursion, and that they are the maps whose images differ. -/
namespace Go.Proofs.YthbbjbfbeaiphaaGreat
open Go.Kv
set_option linter.unusedVariables false
set_option linter.unusedSimpArgs false
attribute [local irreducible] ACall PCall KL
def ords (n : Nat) : Nat → List Nat → List (List Nat)
  | 0, p => [p]
  | d + 1, p => ((List.range n).map fun q => if q ∈ p then [] else ords n d (p ++ [q])).flatten
theorem ords_mem (n : Nat) : ∀ (d : Nat) (p : List Nat), (∀ x ∈ p, x < n) → ∀ f ∈ ords n d p, f.length = p.length + d ∧ ∀ x ∈ f, x < n
  | 0, p, hp, f, hf => by
    simp only [ords, List.mem_singleton] at hf
    subst hf; exact ⟨rfl, hp⟩
  | d + 1, p, hp, f, hf => by
    simp only [ords, List.mem_flatten, List.mem_map, List.mem_range] at hf
    obtain ⟨l, ⟨q, hq, rfl⟩, hf⟩ := hf
    split at hf
    · simp at hf
    · obtain ⟨h1, h2⟩ := ords_mem n d (p ++ [q]) (fun x hx => by
        rcases List.mem_append.1 hx with hx | hx
        · exact hp x hx
        · simp at hx; omega) f hf
      exact ⟨by simp at h1; omega, h2⟩
/-- All lists of d numbers below n, in order. -/
def wds (n : Nat) : Nat → List (List Nat)
  | 0 => [[]]
  | d + 1 => ((List.range n).map fun q => (wds n d).map (q :: ·)).flatten
theorem dg_mod (n : Nat) (hn : 1 ≤ n) : ∀ (d k q : Nat), dg n d (q * n ^ d + k) = dg n d k
  | 0, k, q => rfl
  | d + 1, k, q => by
    have hp : 0 < n ^ d := Nat.pow_pos hn
    have e : q * n ^ (d + 1) + k = (q * n) * n ^ d + k := by rw [Nat.pow_succ, Nat.mul_assoc, Nat.mul_comm n]
    simp only [dg]
    rw [e, dg_mod n hn d k (q * n)]
    congr 1
    rw [Nat.add_comm, Nat.add_mul_div_right _ _ hp, Nat.add_mul_mod_self_right]
theorem range_mul (a b : Nat) : List.range (a * b) = ((List.range a).map fun q => (List.range b).map fun k => q * b + k).flatten := by
  induction a with
  | zero => simp
  | succ a ih =>
    rw [Nat.succ_mul, List.range_add, ih, List.range_succ, List.map_append, List.flatten_append]
    simp
theorem wds_dg (n : Nat) (hn : 1 ≤ n) : ∀ d, (List.range (n ^ d)).map (dg n d) = wds n d
  | 0 => rfl
  | d + 1 => by
    have hp : 0 < n ^ d := Nat.pow_pos hn
    rw [Nat.pow_succ, Nat.mul_comm, range_mul, wds, ← wds_dg n hn d, List.map_flatten, List.map_map]
    congr 1
    refine List.map_congr_left fun q hq => ?_
    rw [List.mem_range] at hq
    simp only [Function.comp_def, List.map_map]
    refine List.map_congr_left fun k hk => ?_
    rw [List.mem_range] at hk
    show dg n (d + 1) (q * n ^ d + k) = q :: dg n d k
    simp only [dg]
    rw [dg_mod n hn d k q, Nat.add_comm, Nat.add_mul_div_right _ _ hp, Nat.div_eq_of_lt hk, Nat.zero_add, Nat.mod_eq_of_lt hq]
/-- The permutations of n points, in order. -/
def prm (n : Nat) : List (List Nat) := (allM n).filter fun f => decide f.Nodup
theorem Imm.refa' {σ : Heap} {id ver k : Nat} {e : TypeId} {n : Nat} {l : List (List Int)} (h : σ[id]? = some (.arr ver e n (aggs l))) (hk : k = l.length) : Imm σ (.ref id ver 0 k) (.list (aggs l)) := hk ▸ Imm.refa h
theorem wds_mem (n : Nat) : ∀ f : List Nat, (∀ x ∈ f, x < n) → f ∈ wds n f.length
  | [], _ => by simp [wds]
  | a :: f, h => by
    simp only [List.length_cons, wds, List.mem_flatten, List.mem_map, List.mem_range]
    exact ⟨_, ⟨a, h a (by simp), rfl⟩, List.mem_map.2 ⟨f, wds_mem n f fun x hx => h x (by simp [hx]), rfl⟩⟩
theorem allM_mem {n : Nat} (hn : 1 ≤ n) {f : List Nat} (hl : f.length = n) (h : ∀ x ∈ f, x < n) : f ∈ allM n := by
  have := wds_mem n f h
  rw [hl, ← wds_dg n hn n] at this
  exact this
end Go.Proofs.YthbbjbfbeaiphaaGreat
end
section
/- Numbers of commuting maps: both sides, and the law's function. -/
end
section
/- Numbers of maps of the same shape: both sides. -/
namespace Go.Proofs.YthbbjbfbeaiphaaGreat
open Go.Kv
set_option linter.unusedVariables false
set_option linter.unusedSimpArgs false
attribute [local irreducible] ACall PCall KL
def kept (f : List Nat) (n x : Nat) : Nat := (((prm n).take x).filter fun g => decide (mul f g = mul g f)).length
end Go.Proofs.YthbbjbfbeaiphaaGreat
end
section
/- Inverses of permutations, renumbered maps, comparing of maps: both sides. -/
namespace Go.Proofs.YthbbjbfbeaiphaaGreat
open Go.Kv
set_option maxRecDepth 100000
def k228_b0 : KC := (.seq (.seq (.ops [mV 16 5, oP 17 (.fieldA 0 (.t 2)), oP 18 (.load false 1 (.t 17)), oP 19 (.bin .lss (.t 16) (.t 18))])
  (.cond (.t 19) .skip (.exit 0)))
  (.seq (.block 1 (.seq (.draw [mV 22 5, oP 23 (.fieldA 1 (.t 2)), oP 24 (.idxA 5 1 (.t 23) (.t 22)), oP 25 (.load false 1 (.t 24)), mV 26 5, oP 27 (.fieldA 1 (.t 3)), oP 28 (.idxA 5 1 (.t 27) (.t 26)), oP 29 (.load false 1 (.t 28)), oP 30 (.bin .neq (.t 25) (.t 29))])
  (.cond (.t 30) (.seq (.draw [mV 31 5, oP 32 (.fieldA 1 (.t 2)), oP 33 (.idxA 5 1 (.t 32) (.t 31)), oP 34 (.load false 1 (.t 33)), mV 35 5, oP 36 (.fieldA 1 (.t 3)), oP 37 (.idxA 5 1 (.t 36) (.t 35)), oP 38 (.load false 1 (.t 37)), oP 39 (.bin .lss (.t 34) (.t 38)), mV 4 39])
  .ret) .skip)))
  (.ops [mV 20 5, oP 21 (.bin .add (.t 20) (iC 1)), mV 5 21])))
def k228 : KC := (.seq (.ops [oP 2 (.box true (.t 0)), oP 3 (.box true (.t 1)), oP 4 (.mv (.c (.bool false)))])
  (.seq (.seq (.ops [oP 6 (.fieldA 0 (.t 2)), oP 7 (.load false 1 (.t 6)), oP 8 (.fieldA 0 (.t 3)), oP 9 (.load false 1 (.t 8)), oP 10 (.bin .neq (.t 7) (.t 9))])
  (.cond (.t 10) (.seq (.ops [oP 11 (.fieldA 0 (.t 2)), oP 12 (.load false 1 (.t 11)), oP 13 (.fieldA 0 (.t 3)), oP 14 (.load false 1 (.t 13)), oP 15 (.bin .lss (.t 12) (.t 14)), mV 4 15])
  .ret) .skip))
  (.seq (.seq (.ops [oP 5 (.mv (iC 0))])
  (.block 0 (.loop k228_b0)))
  (.seq (.ops [oP 4 (.mv (.c (.bool false)))])
  .ret))))
theorem e228 : Ent 228 40 [2, 3] [.t 4] k228 := ent Tryz.func228 (by kernel_rfl) (by kernel_rfl) (by kernel_rfl) (fun _ => by kernel_rfl) (by kernel_rfl)
end Go.Proofs.YthbbjbfbeaiphaaGreat
namespace Go.Proofs.YthbbjbfbeaiphaaGreat
open Go.Kv
set_option linter.unusedVariables false
set_option linter.unusedSimpArgs false
attribute [local irreducible] ACall PCall KL
/-- The inverse, as far as it is told by the first i points; the rest stands as it did. -/
def invS (p : List Nat) (b : Nat → Nat) (i : Nat) : List Nat := (List.range p.length).map fun y => if y ∈ p.take i then p.idxOf y else b y
@[simp] theorem invS_length (p : List Nat) (b : Nat → Nat) (i : Nat) : (invS p b i).length = p.length := by simp [invS]
def cmpL : List Int → List Int → Int
  | a :: xs, b :: ys => if a < b then -1 else if b < a then 1 else cmpL xs ys
  | _, _ => 0
theorem cmpL_same : ∀ l, cmpL l l = 0
  | [] => rfl
  | a :: l => by simp [cmpL, cmpL_same l]
theorem cmpL_app : ∀ (xs ys zs : List Int), xs.length = ys.length → cmpL (xs ++ zs) (ys ++ zs) = cmpL xs ys
  | [], [], zs, _ => by simp [cmpL, cmpL_same]
  | a :: xs, b :: ys, zs, h => by
    simp only [List.cons_append, cmpL]
    rw [cmpL_app xs ys zs (by simpa using h)]
  | [], _ :: _, _, h => by simp at h
  | _ :: _, [], _, h => by simp at h
theorem cmpL_drop {xs ys : List Int} {i : Nat} (h1 : i < xs.length) (h2 : i < ys.length) : cmpL (xs.drop i) (ys.drop i) = if xs.getD i 0 < ys.getD i 0 then -1 else if ys.getD i 0 < xs.getD i 0 then 1 else cmpL (xs.drop (i + 1)) (ys.drop (i + 1)) := by
  rw [List.drop_eq_getElem_cons h1, List.drop_eq_getElem_cons h2, cmpL]
  simp [List.getD_eq_getElem?_getD, h1, h2]
/-- What comes first. -/
def ltM (f g : List Nat) : Bool := decide (cmpL (f.map fun x : Nat => (x : Int)) (g.map fun x : Nat => (x : Int)) < 0)
theorem p228 (f g : List Nat) (n : Nat) (hf : Ok f n) (hg : Ok g n) : Pure Tryz.prog 228 [.agg (ints (mp f)), .agg (ints (mp g))] (.bool (ltM f g)) := by
  have hlf := hf.mp_len
  have hlg := hg.mp_len
  have h5 := hf.le
  have hml : (f.map fun x : Nat => (x : Int)).length = n := by simp [hf.len]
  have hmg : (g.map fun x : Nat => (x : Int)).length = n := by simp [hg.len]
  have hgf : ∀ x, x < n → (f.map fun x : Nat => (x : Int)).getD x 0 = (f.getD x 0 : Int) := fun x _ => natD f x
  have hgg : ∀ x, x < n → (g.map fun x : Nat => (x : Int)).getD x 0 = (g.getD x 0 : Int) := fun x _ => natD g x
  refine e228 (by simp) fun _ _ => ?_
  simp only [k228, argEnv, hlf, hlg, hf.len, hg.len, take6, List.drop_zero, Int.cast_ofNat_Int, go_sem, ↓reduceIte, Nat.reduceEqDiff, Nat.reduceAdd, Nat.reduceMul, Nat.reduceLeDiff, Nat.reduceLT, Int.reduceLE, Int.reduceLT, reduceCtorEq]
  refine KL_ind k228_b0.eq_1 (fun x : Nat => [(2, .fptr (ints (mp f)) 0), (3, .fptr (ints (mp g)) 0), (5, .int .i64 x)]) (fun _ => []) (fun x => x ≤ n ∧ cmpL (f.map fun x : Nat => (x : Int)) (g.map fun x : Nat => (x : Int)) = cmpL ((f.map fun x : Nat => (x : Int)).drop x) ((g.map fun x : Nat => (x : Int)).drop x)) (fun x => n - x) [2, 3, 5] 0 (by simp [keep]) rfl ⟨Nat.zero_le _, by simp⟩ fun x ⟨hx, hc⟩ ih => ?_
  try simp only [hlf, hlg, hf.len, hg.len, take6, List.drop_zero, Int.cast_ofNat_Int, go_sem, ↓reduceIte, Nat.reduceEqDiff, Nat.reduceAdd, Nat.reduceMul, Nat.reduceLeDiff, Nat.reduceLT, Int.reduceLE, Int.reduceLT, reduceCtorEq]
  refine ⟨fun h1 => ?_, fun h1 => ?_⟩
  · have hxn : x < n := by omega
    have hd := cmpL_drop (xs := f.map fun x : Nat => (x : Int)) (ys := g.map fun x : Nat => (x : Int)) (i := x) (by omega) (by omega)
    rw [hgf x hxn, hgg x hxn] at hd
    refine ⟨by omega, by omega, fun _ => ⟨by omega, by omega, fun _ => ⟨fun h2 => ⟨by omega, by omega, fun _ => ⟨by omega, by omega, fun _ => Kv.Fin.still ⟨?_, rfl⟩⟩⟩, fun h2 => ⟨by omega, ih (x + 1) ⟨by omega, ?_⟩ (by omega) _ _ (by simp [keep]) rfl⟩⟩⟩⟩
    · unfold ltM
      rw [hc, hd]
      by_cases h3 : (f.getD x 0 : Int) < g.getD x 0
      · rw [if_pos h3]; simp only [h3]; rfl
      · rw [if_neg h3, if_pos (by omega)]; simp only [h3]; rfl
    · rw [hc, hd, if_neg (by omega), if_neg (by omega)]
  · obtain rfl : x = n := by omega
    have e : cmpL (f.map fun x : Nat => (x : Int)) (g.map fun x : Nat => (x : Int)) = 0 := by
      rw [hc, List.drop_of_length_le (by omega), List.drop_of_length_le (by omega)]; rfl
    refine Kv.Fin.still ⟨?_, rfl⟩
    unfold ltM; rw [e]; rfl
end Go.Proofs.YthbbjbfbeaiphaaGreat
end
section
/- Least forms of maps: both sides of LeastForm and AreSameShape. -/
end
section
/- The classes of maps: plain laws. -/
namespace Go.Proofs.YthbbjbfbeaiphaaGreat
open Go.Kv
set_option linter.unusedVariables false
set_option linter.unusedSimpArgs false
attribute [local irreducible] ACall PCall KL
/-- The number of a map. -/
def nbl (n : Nat) : List Nat → Nat
  | [] => 0
  | a :: r => a * n ^ r.length + nbl n r
theorem nbl_lt {n : Nat} : ∀ {l : List Nat}, (∀ x ∈ l, x < n) → nbl n l < n ^ l.length
  | [], _ => by simp [nbl]
  | a :: r, h => by
    have h1 := nbl_lt (l := r) fun x hx => h x (by simp [hx])
    have h2 := h a (by simp)
    simp only [nbl, List.length_cons, Nat.pow_succ]
    have h3 : (a + 1) * n ^ r.length ≤ n * n ^ r.length := Nat.mul_le_mul_right _ h2
    rw [Nat.succ_mul] at h3
    rw [Nat.mul_comm (n ^ r.length) n]
    omega
theorem cmp_nbl {n : Nat} : ∀ (f g : List Nat), f.length = g.length → (∀ x ∈ f, x < n) → (∀ x ∈ g, x < n) → (cmpL (f.map fun x : Nat => (x : Int)) (g.map fun x : Nat => (x : Int)) < 0 ↔ nbl n f < nbl n g)
  | [], [], _, _, _ => by simp [cmpL]
  | [], _ :: _, h, _, _ => by simp at h
  | _ :: _, [], h, _, _ => by simp at h
  | a :: r, b :: s, h, hf, hg => by
    have hl : r.length = s.length := by simpa using h
    have ih := cmp_nbl r s hl (fun x hx => hf x (by simp [hx])) (fun x hx => hg x (by simp [hx]))
    have h1 := nbl_lt (l := r) fun x hx => hf x (by simp [hx])
    have h2 := nbl_lt (l := s) fun x hx => hg x (by simp [hx])
    simp only [List.map_cons, cmpL, nbl]
    rw [hl] at h1 ⊢
    by_cases e1 : a < b
    · have h3 : (a + 1) * n ^ s.length ≤ b * n ^ s.length := Nat.mul_le_mul_right _ e1
      rw [Nat.succ_mul] at h3
      rw [if_pos (by omega)]
      constructor
      · intro _; omega
      · intro _; omega
    · by_cases e2 : b < a
      · have h3 : (b + 1) * n ^ s.length ≤ a * n ^ s.length := Nat.mul_le_mul_right _ e2
        rw [Nat.succ_mul] at h3
        rw [if_neg (by omega), if_pos (by omega)]
        constructor
        · intro h; omega
        · intro _; omega
      · obtain rfl : a = b := by omega
        rw [if_neg (by omega), if_neg (by omega), ih]
        omega
theorem ltM_nbl {f g : List Nat} {n : Nat} (hf : Ok f n) (hg : Ok g n) : ltM f g = true ↔ nbl n f < nbl n g := by
  unfold ltM
  rw [decide_eq_true_iff]
  exact cmp_nbl f g (by rw [hf.len, hg.len]) hf.lt hg.lt
theorem nbl_dg {n : Nat} (hn : 1 ≤ n) : ∀ j k, nbl n (dg n j k) = k % n ^ j
  | 0, k => by simp [dg, nbl, Nat.mod_one]
  | j + 1, k => by
    simp only [dg, nbl, dg_length, nbl_dg hn j k]
    rw [Nat.pow_succ, Nat.mod_mul, Nat.mul_comm, Nat.add_comm]
theorem nbl_at {n k : Nat} (hn : 1 ≤ n) (hk : k < n ^ n) : nbl n (dg n n k) = k := by rw [nbl_dg hn, Nat.mod_eq_of_lt hk]
theorem dg_nbl {n : Nat} {f : List Nat} (hf : Ok f n) : nbl n f < n ^ n ∧ dg n n (nbl n f) = f := by
  have h := allM_mem hf.pos hf.len hf.lt
  simp only [allM, List.mem_map, List.mem_range] at h
  obtain ⟨k, hk, rfl⟩ := h
  rw [nbl_at hf.pos hk]
  exact ⟨hk, rfl⟩
theorem nbl_inj {n : Nat} {f g : List Nat} (hf : Ok f n) (hg : Ok g n) (h : nbl n f = nbl n g) : f = g := by
  rw [← (dg_nbl hf).2, h, (dg_nbl hg).2]
end Go.Proofs.YthbbjbfbeaiphaaGreat
end
section
/- Maps in order: the specification. -/
namespace Go.Proofs.YthbbjbfbeaiphaaGreat
open Go.Kv
set_option maxRecDepth 100000
def k216_b0 : KC := (.seq (.seq (.ops [mV 10 5, mV 11 6, oP 12 (.bin .lss (.t 10) (.t 11))])
  (.cond (.t 12) .skip (.exit 0)))
  (.block 1 (.seq (.ops [mV 13 5, mV 14 6, oP 15 (.bin .add (.t 13) (.t 14)), oP 16 (.bin .quo (.t 15) (iC 2)), mV 7 16])
  (.seq (.draw [mV 17 0, mV 18 7, oP 19 (.idxS 6 (.t 17) (.t 18)), oP 20 (.load true 6 (.t 19)), oP 21 (.load true 6 (.t 3)), oP 22 (.pcall (fC 228) [(.t 20), (.t 21)])])
  (.cond (.t 22) (.ops [mV 23 7, oP 24 (.bin .add (.t 23) (iC 1)), mV 5 24]) (.ops [mV 25 7, mV 6 25]))))))
def k216 : KC := (.seq (.ops [oP 3 (.box true (.t 1)), oP 4 (.mv (iC 0))])
  (.seq (.ops [mV 8 0, oP 9 (.len false (.t 8)), oP 5 (.mv (iC 0)), mV 6 9])
  (.seq (.block 0 (.loop k216_b0))
  (.seq (.seq (.draw [mV 26 5, mV 27 0, oP 28 (.len false (.t 27)), oP 29 (.bin .lss (.t 26) (.t 28)), mV 30 29, ⟨(some 31), some (30, true), .mv (.t 0)⟩, ⟨(some 32), some (30, true), .mv (.t 5)⟩, ⟨(some 33), some (30, true), .idxS 6 (.t 31) (.t 32)⟩, ⟨(some 34), some (30, true), .load true 6 (.t 33)⟩, ⟨(some 35), some (30, true), .load true 6 (.t 3)⟩, ⟨(some 36), some (30, true), .aeq false 6 (.t 34) (.t 35)⟩, oP 37 (.pick (.t 30) (.t 36) (.c (.bool false)))])
  (.cond (.t 37) (.seq (.ops [mV 38 5, mV 4 38])
  .ret) .skip))
  (.seq (.ops [oP 4 (.mv (iC (-1)))])
  .ret)))))
theorem e216 : Ent 216 39 [3] [.t 4] k216 := ent Tryz.func216 (by kernel_rfl) (by kernel_rfl) (by kernel_rfl) (fun _ => by kernel_rfl) (by kernel_rfl)
def k215_b0 : KC := (.seq (.seq (.ops [mV 11 5, mV 12 6, oP 13 (.bin .lss (.t 11) (.t 12))])
  (.cond (.t 13) .skip (.exit 0)))
  (.block 1 (.seq (.ops [mV 14 5, mV 15 6, oP 16 (.bin .add (.t 14) (.t 15)), oP 17 (.bin .quo (.t 16) (iC 2)), mV 7 17])
  (.seq (.draw [mV 18 0, mV 19 7, oP 20 (.idxS 6 (.t 18) (.t 19)), oP 21 (.load true 6 (.t 20)), oP 22 (.load true 6 (.t 3)), oP 23 (.pcall (fC 228) [(.t 21), (.t 22)])])
  (.cond (.t 23) (.ops [mV 24 7, oP 25 (.bin .add (.t 24) (iC 1)), mV 5 25]) (.ops [mV 26 7, mV 6 26]))))))
def k215 : KC := (.seq (.ops [oP 3 (.box true (.t 1)), oP 4 (.mv (.c (.nils)))])
  (.seq (.ops [mV 9 0, oP 10 (.len false (.t 9)), oP 5 (.mv (iC 0)), mV 6 10])
  (.seq (.block 0 (.loop k215_b0))
  (.seq (.seq (.draw [mV 27 5, mV 28 0, oP 29 (.len false (.t 28)), oP 30 (.bin .lss (.t 27) (.t 29)), mV 31 30, ⟨(some 32), some (31, true), .mv (.t 0)⟩, ⟨(some 33), some (31, true), .mv (.t 5)⟩, ⟨(some 34), some (31, true), .idxS 6 (.t 32) (.t 33)⟩, ⟨(some 35), some (31, true), .load true 6 (.t 34)⟩, ⟨(some 36), some (31, true), .load true 6 (.t 3)⟩, ⟨(some 37), some (31, true), .aeq false 6 (.t 35) (.t 36)⟩, oP 38 (.pick (.t 31) (.t 37) (.c (.bool false)))])
  (.cond (.t 38) (.seq (.ops [mV 39 0, mV 4 39])
  .ret) .skip))
  (.seq (.tree (.op (mV 41 0) (.op (mV 42 5) (.alt (.op (oP 40 (.bsl false 60 6 [])) (.alt (.op (oP 43 (.sls 6 (.t 41) none (some (.t 42)))) (.alt (.op (oP 44 (.app (.t 40) (.t 43) 60 6)) (.op (oP 45 (.load true 6 (.t 3))) (.op (oP 46 (.bsl true 60 6 [(.t 45)])) (.op (oP 47 (.app (.t 44) (.t 46) 60 6)) (.op (mV 8 47) .fin))))) (.op (oP 45 (.load true 6 (.t 3))) (.alt (.op (oP 44 (.app (.t 40) (.t 43) 60 6)) (.op (oP 46 (.bsl true 60 6 [(.t 45)])) (.op (oP 47 (.app (.t 44) (.t 46) 60 6)) (.op (mV 8 47) .fin)))) (.op (oP 46 (.bsl true 60 6 [(.t 45)])) (.op (oP 44 (.app (.t 40) (.t 43) 60 6)) (.op (oP 47 (.app (.t 44) (.t 46) 60 6)) (.op (mV 8 47) .fin)))))))) (.op (oP 45 (.load true 6 (.t 3))) (.alt (.op (oP 43 (.sls 6 (.t 41) none (some (.t 42)))) (.alt (.op (oP 44 (.app (.t 40) (.t 43) 60 6)) (.op (oP 46 (.bsl true 60 6 [(.t 45)])) (.op (oP 47 (.app (.t 44) (.t 46) 60 6)) (.op (mV 8 47) .fin)))) (.op (oP 46 (.bsl true 60 6 [(.t 45)])) (.op (oP 44 (.app (.t 40) (.t 43) 60 6)) (.op (oP 47 (.app (.t 44) (.t 46) 60 6)) (.op (mV 8 47) .fin)))))) (.op (oP 46 (.bsl true 60 6 [(.t 45)])) (.op (oP 43 (.sls 6 (.t 41) none (some (.t 42)))) (.op (oP 44 (.app (.t 40) (.t 43) 60 6)) (.op (oP 47 (.app (.t 44) (.t 46) 60 6)) (.op (mV 8 47) .fin))))))))) (.alt (.op (oP 43 (.sls 6 (.t 41) none (some (.t 42)))) (.alt (.op (oP 40 (.bsl false 60 6 [])) (.alt (.op (oP 44 (.app (.t 40) (.t 43) 60 6)) (.op (oP 45 (.load true 6 (.t 3))) (.op (oP 46 (.bsl true 60 6 [(.t 45)])) (.op (oP 47 (.app (.t 44) (.t 46) 60 6)) (.op (mV 8 47) .fin))))) (.op (oP 45 (.load true 6 (.t 3))) (.alt (.op (oP 44 (.app (.t 40) (.t 43) 60 6)) (.op (oP 46 (.bsl true 60 6 [(.t 45)])) (.op (oP 47 (.app (.t 44) (.t 46) 60 6)) (.op (mV 8 47) .fin)))) (.op (oP 46 (.bsl true 60 6 [(.t 45)])) (.op (oP 44 (.app (.t 40) (.t 43) 60 6)) (.op (oP 47 (.app (.t 44) (.t 46) 60 6)) (.op (mV 8 47) .fin)))))))) (.op (oP 45 (.load true 6 (.t 3))) (.alt (.op (oP 40 (.bsl false 60 6 [])) (.alt (.op (oP 44 (.app (.t 40) (.t 43) 60 6)) (.op (oP 46 (.bsl true 60 6 [(.t 45)])) (.op (oP 47 (.app (.t 44) (.t 46) 60 6)) (.op (mV 8 47) .fin)))) (.op (oP 46 (.bsl true 60 6 [(.t 45)])) (.op (oP 44 (.app (.t 40) (.t 43) 60 6)) (.op (oP 47 (.app (.t 44) (.t 46) 60 6)) (.op (mV 8 47) .fin)))))) (.op (oP 46 (.bsl true 60 6 [(.t 45)])) (.op (oP 40 (.bsl false 60 6 [])) (.op (oP 44 (.app (.t 40) (.t 43) 60 6)) (.op (oP 47 (.app (.t 44) (.t 46) 60 6)) (.op (mV 8 47) .fin))))))))) (.op (oP 45 (.load true 6 (.t 3))) (.alt (.op (oP 40 (.bsl false 60 6 [])) (.alt (.op (oP 43 (.sls 6 (.t 41) none (some (.t 42)))) (.alt (.op (oP 44 (.app (.t 40) (.t 43) 60 6)) (.op (oP 46 (.bsl true 60 6 [(.t 45)])) (.op (oP 47 (.app (.t 44) (.t 46) 60 6)) (.op (mV 8 47) .fin)))) (.op (oP 46 (.bsl true 60 6 [(.t 45)])) (.op (oP 44 (.app (.t 40) (.t 43) 60 6)) (.op (oP 47 (.app (.t 44) (.t 46) 60 6)) (.op (mV 8 47) .fin)))))) (.op (oP 46 (.bsl true 60 6 [(.t 45)])) (.op (oP 43 (.sls 6 (.t 41) none (some (.t 42)))) (.op (oP 44 (.app (.t 40) (.t 43) 60 6)) (.op (oP 47 (.app (.t 44) (.t 46) 60 6)) (.op (mV 8 47) .fin))))))) (.alt (.op (oP 43 (.sls 6 (.t 41) none (some (.t 42)))) (.alt (.op (oP 40 (.bsl false 60 6 [])) (.alt (.op (oP 44 (.app (.t 40) (.t 43) 60 6)) (.op (oP 46 (.bsl true 60 6 [(.t 45)])) (.op (oP 47 (.app (.t 44) (.t 46) 60 6)) (.op (mV 8 47) .fin)))) (.op (oP 46 (.bsl true 60 6 [(.t 45)])) (.op (oP 44 (.app (.t 40) (.t 43) 60 6)) (.op (oP 47 (.app (.t 44) (.t 46) 60 6)) (.op (mV 8 47) .fin)))))) (.op (oP 46 (.bsl true 60 6 [(.t 45)])) (.op (oP 40 (.bsl false 60 6 [])) (.op (oP 44 (.app (.t 40) (.t 43) 60 6)) (.op (oP 47 (.app (.t 44) (.t 46) 60 6)) (.op (mV 8 47) .fin))))))) (.op (oP 46 (.bsl true 60 6 [(.t 45)])) (.alt (.op (oP 40 (.bsl false 60 6 [])) (.op (oP 43 (.sls 6 (.t 41) none (some (.t 42)))) (.op (oP 44 (.app (.t 40) (.t 43) 60 6)) (.op (oP 47 (.app (.t 44) (.t 46) 60 6)) (.op (mV 8 47) .fin))))) (.op (oP 43 (.sls 6 (.t 41) none (some (.t 42)))) (.op (oP 40 (.bsl false 60 6 [])) (.op (oP 44 (.app (.t 40) (.t 43) 60 6)) (.op (oP 47 (.app (.t 44) (.t 46) 60 6)) (.op (mV 8 47) .fin)))))))))))))))
  (.seq (.ops [mV 48 8, mV 49 0, mV 50 5, oP 51 (.sls 6 (.t 49) (some (.t 50)) none), oP 52 (.app (.t 48) (.t 51) 60 6), mV 4 52])
  .ret))))))
theorem e215 : Ent 215 53 [3, 46] [.t 4] k215 := ent Tryz.func215 (by kernel_rfl) (by kernel_rfl) (by kernel_rfl) (fun _ => by kernel_rfl) (by kernel_rfl)
end Go.Proofs.YthbbjbfbeaiphaaGreat
namespace Go.Proofs.YthbbjbfbeaiphaaGreat
open Go.Kv
set_option linter.unusedVariables false
set_option linter.unusedSimpArgs false
attribute [local irreducible] ACall PCall KL
/-- Maps in ascending order. -/
def SrM (n : Nat) (S : List (List Nat)) : Prop := (∀ f ∈ S, Ok f n) ∧ S.Pairwise (fun a b => nbl n a < nbl n b)
/-- How many come ahead of a map. -/
def loM (n : Nat) (S : List (List Nat)) (f : List Nat) : Nat := (S.takeWhile fun x => decide (nbl n x < nbl n f)).length
theorem loM_le (n : Nat) (S : List (List Nat)) (f : List Nat) : loM n S f ≤ S.length := by
  unfold loM
  exact (List.takeWhile_sublist _).length_le
theorem loM_iff {n : Nat} : ∀ {S : List (List Nat)} (f : List Nat), S.Pairwise (fun a b => nbl n a < nbl n b) → ∀ i (h : i < S.length), nbl n S[i] < nbl n f ↔ i < loM n S f
  | [], f, _, i, h => by simp at h
  | a :: S, f, hp, i, h => by
    rw [List.pairwise_cons] at hp
    unfold loM
    rw [List.takeWhile_cons]
    by_cases ha : nbl n a < nbl n f
    · rw [if_pos (by simpa using ha), List.length_cons]
      cases i with
      | zero => simp [ha]
      | succ i =>
        have := loM_iff f hp.2 i (by simpa using h)
        simp only [List.getElem_cons_succ]
        rw [this]; unfold loM; omega
    · rw [if_neg (by simpa using ha)]
      simp only [List.length_nil, Nat.not_lt_zero, iff_false]
      cases i with
      | zero => exact ha
      | succ i =>
        have := hp.1 _ (List.getElem_mem (by simpa using h : i < S.length))
        simp only [List.getElem_cons_succ]
        omega
theorem p216 (n : Nat) (S : List (List Nat)) (hS : SrM n S) (hl : S.length ≤ 100000) (f : List Nat) (hf : Ok f n) : Pure Tryz.prog 216 [.list (aggs (S.map mp)), .agg (ints (mp f))] (.int .i64 (if loM n S f < S.length ∧ S.getD (loM n S f) [] = f then loM n S f else -1)) := by
  have hlf := hf.mp_len
  have hle := loM_le n S f
  refine e216 (by simp) fun _ _ => ?_
  simp only [k216, argEnv, hlf, take6, List.drop_zero, Int.cast_ofNat_Int, go_sem, ↓reduceIte, Nat.reduceEqDiff, Nat.reduceAdd, Nat.reduceMul, Nat.reduceLeDiff, Nat.reduceLT, Int.reduceLE, Int.reduceLT, reduceCtorEq]
  try simp only [OpK_eq, HKv, hlf, aggs_length, List.length_map, take6, List.drop_zero, Int.cast_ofNat_Int, go_sem, ↓reduceIte, Nat.reduceEqDiff, Nat.reduceAdd, Nat.reduceMul, Nat.reduceLeDiff, Nat.reduceLT, Int.reduceLE, Int.reduceLT, reduceCtorEq]
  have hSl : (S.map mp).length = S.length := List.length_map _
  refine KL_ind k216_b0.eq_1 (fun y : Nat × Nat => [(0, .list (aggs (S.map mp))), (3, .fptr (ints (mp f)) 0), (5, .int .i64 y.1), (6, .int .i64 y.2), (31, .undef), (32, .undef), (33, .undef), (34, .undef), (35, .undef), (36, .undef)]) (fun _ => []) (fun y => y.1 ≤ loM n S f ∧ loM n S f ≤ y.2 ∧ y.2 ≤ S.length) (fun y => y.2 - y.1) [0, 3, 5, 6, 31, 32, 33, 34, 35, 36] (0, S.length) (by simp [keep]) rfl ⟨Nat.zero_le _, hle, Nat.le_refl _⟩ fun ⟨lw, hg⟩ ⟨h1, h2, h3⟩ ih => ?_
  simp only at h1 h2 h3
  try simp only [OpK_eq, HKv, hlf, aggs_length, List.length_map, take6, List.drop_zero, Int.cast_ofNat_Int, go_sem, ↓reduceIte, Nat.reduceEqDiff, Nat.reduceAdd, Nat.reduceMul, Nat.reduceLeDiff, Nat.reduceLT, Int.reduceLE, Int.reduceLT, reduceCtorEq]
  refine ⟨fun g1 => ?_, fun g1 => ?_⟩
  · have hm : ((lw : Int) + hg) / 2 = (((lw + hg) / 2 : Nat) : Int) := by omega
    rw [hm]
    have hmS : (lw + hg) / 2 < S.length := by omega
    have hgm : (S.map mp).getD ((lw + hg) / 2) [] = mp S[(lw + hg) / 2] := by simp [List.getD_eq_getElem?_getD, hmS]
    have hOk := hS.1 _ (List.getElem_mem hmS)
    have h6m := hOk.mp_len
    have hiff := loM_iff f hS.2 ((lw + hg) / 2) hmS
    have hlt := ltM_nbl hOk hf
    generalize (lw + hg) / 2 = m at *
    try simp only [OpK_eq, HKv, hlf, aggs_length, List.length_map, hgm, h6m, take6, List.drop_zero, Int.cast_ofNat_Int, go_sem, ↓reduceIte, Nat.reduceEqDiff, Nat.reduceAdd, Nat.reduceMul, Nat.reduceLeDiff, Nat.reduceLT, Int.reduceLE, Int.reduceLT, reduceCtorEq]
    refine ⟨by omega, by omega, by omega, by omega, fun _ => ?_⟩
    refine (p228 S[m] f n hOk hf).pgo ?_
    by_cases hb : nbl n S[m] < nbl n f
    · have e : ltM S[m] f = true := hlt.2 hb
      have := hiff.1 hb
      rw [e]
      try simp only [OpK_eq, HKv, take6, List.drop_zero, Int.cast_ofNat_Int, go_sem, ↓reduceIte, Nat.reduceEqDiff, Nat.reduceAdd, Nat.reduceMul, Nat.reduceLeDiff, Nat.reduceLT, Int.reduceLE, Int.reduceLT, reduceCtorEq]
      exact ⟨by omega, ih (m + 1, hg) ⟨by show m + 1 ≤ loM n S f; omega, h2, h3⟩ (by show hg - (m + 1) < hg - lw; omega) _ _ (by simp [keep]) rfl⟩
    · have e : ltM S[m] f = false := by
        cases hc : ltM S[m] f with
        | true => exact absurd (hlt.1 hc) hb
        | false => rfl
      have : ¬ m < loM n S f := fun h => hb (hiff.2 h)
      rw [e]
      try simp only [OpK_eq, HKv, take6, List.drop_zero, Int.cast_ofNat_Int, go_sem, ↓reduceIte, Nat.reduceEqDiff, Nat.reduceAdd, Nat.reduceMul, Nat.reduceLeDiff, Nat.reduceLT, Int.reduceLE, Int.reduceLT, reduceCtorEq]
      exact ih (lw, m) ⟨h1, by show loM n S f ≤ m; omega, by show m ≤ S.length; omega⟩ (by show m - lw < hg - lw; omega) _ _ (by simp [keep]) rfl
  · obtain rfl : lw = loM n S f := by omega
    by_cases hlo : loM n S f < S.length
    · have hgm : (S.map mp).getD (loM n S f) [] = mp S[loM n S f] := by simp [List.getD_eq_getElem?_getD, hlo]
      have hgs : S.getD (loM n S f) [] = S[loM n S f] := by simp [List.getD_eq_getElem?_getD, hlo]
      have hOk := hS.1 _ (List.getElem_mem hlo)
      have h6m := hOk.mp_len
      rw [hgm, hgs, take6 h6m]
      refine ⟨fun _ => ⟨by omega, fun _ => ⟨h6m, by omega, h6m, fun he => Kv.Fin.still ⟨?_, rfl⟩, fun he => Kv.Fin.still ⟨?_, rfl⟩⟩⟩, fun h => absurd hlo (by omega)⟩
      · rw [if_pos ⟨hlo, mp_inj he⟩]
      · rw [if_neg (fun h => he (by rw [h.2]))]
    · refine ⟨fun h => absurd (by omega) hlo, fun _ => Kv.Fin.still ⟨by rw [if_neg (fun h => hlo h.1)], rfl⟩⟩
theorem ok6' {m : List Int} (hm : m.length = 6) : okL 6 [PV.agg (ints m)] := by
  have := okL_aggs 6 [m]
  simp only [List.mem_singleton, forall_eq, hm] at this
  simpa [aggs] using this
/-- A map is put in its place. -/
def putM (n : Nat) (S : List (List Nat)) (f : List Nat) : List (List Nat) := if loM n S f < S.length ∧ S.getD (loM n S f) [] = f then S else S.take (loM n S f) ++ f :: S.drop (loM n S f)
set_option maxHeartbeats 4000000 in
theorem p215 (n : Nat) (S : List (List Nat)) (hS : SrM n S) (hl : S.length ≤ 100000) (f : List Nat) (hf : Ok f n) : Pure Tryz.prog 215 [.list (aggs (S.map mp)), .agg (ints (mp f))] (.list (aggs ((putM n S f).map mp))) := by
  have hlf := hf.mp_len
  have hle := loM_le n S f
  refine e215 (by simp) fun _ _ => ?_
  simp only [k215, argEnv, hlf, take6, List.drop_zero, Int.cast_ofNat_Int, go_sem, ↓reduceIte, Nat.reduceEqDiff, Nat.reduceAdd, Nat.reduceMul, Nat.reduceLeDiff, Nat.reduceLT, Int.reduceLE, Int.reduceLT, reduceCtorEq]
  try simp only [OpK_eq, HKv, hlf, aggs_length, List.length_map, take6, List.drop_zero, Int.cast_ofNat_Int, go_sem, ↓reduceIte, Nat.reduceEqDiff, Nat.reduceAdd, Nat.reduceMul, Nat.reduceLeDiff, Nat.reduceLT, Int.reduceLE, Int.reduceLT, reduceCtorEq]
  have hSl : (S.map mp).length = S.length := List.length_map _
  refine KL_ind k215_b0.eq_1 (fun y : Nat × Nat => [(0, .list (aggs (S.map mp))), (3, .fptr (ints (mp f)) 0), (5, .int .i64 y.1), (6, .int .i64 y.2), (32, .undef), (33, .undef), (34, .undef), (35, .undef), (36, .undef), (37, .undef)]) (fun _ => []) (fun y => y.1 ≤ loM n S f ∧ loM n S f ≤ y.2 ∧ y.2 ≤ S.length) (fun y => y.2 - y.1) [0, 3, 5, 6, 32, 33, 34, 35, 36, 37] (0, S.length) (by simp [keep]) rfl ⟨Nat.zero_le _, hle, Nat.le_refl _⟩ fun ⟨lw, hg⟩ ⟨h1, h2, h3⟩ ih => ?_
  simp only at h1 h2 h3
  try simp only [OpK_eq, HKv, hlf, aggs_length, List.length_map, take6, List.drop_zero, Int.cast_ofNat_Int, go_sem, ↓reduceIte, Nat.reduceEqDiff, Nat.reduceAdd, Nat.reduceMul, Nat.reduceLeDiff, Nat.reduceLT, Int.reduceLE, Int.reduceLT, reduceCtorEq]
  refine ⟨fun g1 => ?_, fun g1 => ?_⟩
  · have hm : ((lw : Int) + hg) / 2 = (((lw + hg) / 2 : Nat) : Int) := by omega
    rw [hm]
    have hmS : (lw + hg) / 2 < S.length := by omega
    have hgm : (S.map mp).getD ((lw + hg) / 2) [] = mp S[(lw + hg) / 2] := by simp [List.getD_eq_getElem?_getD, hmS]
    have hOk := hS.1 _ (List.getElem_mem hmS)
    have h6m := hOk.mp_len
    have hiff := loM_iff f hS.2 ((lw + hg) / 2) hmS
    have hlt := ltM_nbl hOk hf
    generalize (lw + hg) / 2 = m at *
    try simp only [OpK_eq, HKv, hlf, aggs_length, List.length_map, hgm, h6m, take6, List.drop_zero, Int.cast_ofNat_Int, go_sem, ↓reduceIte, Nat.reduceEqDiff, Nat.reduceAdd, Nat.reduceMul, Nat.reduceLeDiff, Nat.reduceLT, Int.reduceLE, Int.reduceLT, reduceCtorEq]
    refine ⟨by omega, by omega, by omega, by omega, fun _ => ?_⟩
    refine (p228 S[m] f n hOk hf).pgo ?_
    by_cases hb : nbl n S[m] < nbl n f
    · have e : ltM S[m] f = true := hlt.2 hb
      have := hiff.1 hb
      rw [e]
      try simp only [OpK_eq, HKv, take6, List.drop_zero, Int.cast_ofNat_Int, go_sem, ↓reduceIte, Nat.reduceEqDiff, Nat.reduceAdd, Nat.reduceMul, Nat.reduceLeDiff, Nat.reduceLT, Int.reduceLE, Int.reduceLT, reduceCtorEq]
      exact ⟨by omega, ih (m + 1, hg) ⟨by show m + 1 ≤ loM n S f; omega, h2, h3⟩ (by show hg - (m + 1) < hg - lw; omega) _ _ (by simp [keep]) rfl⟩
    · have e : ltM S[m] f = false := by
        cases hc : ltM S[m] f with
        | true => exact absurd (hlt.1 hc) hb
        | false => rfl
      have : ¬ m < loM n S f := fun h => hb (hiff.2 h)
      rw [e]
      try simp only [OpK_eq, HKv, take6, List.drop_zero, Int.cast_ofNat_Int, go_sem, ↓reduceIte, Nat.reduceEqDiff, Nat.reduceAdd, Nat.reduceMul, Nat.reduceLeDiff, Nat.reduceLT, Int.reduceLE, Int.reduceLT, reduceCtorEq]
      exact ih (lw, m) ⟨h1, by show loM n S f ≤ m; omega, by show m ≤ S.length; omega⟩ (by show m - lw < hg - lw; omega) _ _ (by simp [keep]) rfl
  · obtain rfl : lw = loM n S f := by omega
    have hnew : ¬ (loM n S f < S.length ∧ S.getD (loM n S f) [] = f) → putM n S f = S.take (loM n S f) ++ f :: S.drop (loM n S f) := fun h => by unfold putM; rw [if_neg h]
    generalize hlo' : loM n S f = lo at *
    by_cases hc : lo < S.length ∧ S.getD lo [] = f
    · have hgm : (S.map mp).getD lo [] = mp f := by
        have : (S.map mp).getD lo [] = mp (S.getD lo []) := by simp [List.getD_eq_getElem?_getD, hc.1]
        rw [this, hc.2]
      have hp : putM n S f = S := by unfold putM; rw [hlo', if_pos hc]
      rw [hgm, take6 hlf, hp]
      exact ⟨fun _ => ⟨by omega, fun _ => ⟨hlf, by omega, hlf, fun _ => Kv.Fin.still ⟨rfl, rfl⟩, fun h => absurd rfl h⟩⟩, fun h => absurd hc.1 (by omega)⟩
    · rw [hnew hc]
      have hS6 : ∀ r ∈ S.map mp, r.length = 6 := fun r hr => by
        obtain ⟨g, hg', rfl⟩ := List.mem_map.1 hr
        exact (hS.1 g hg').mp_len
      have hget : lo < S.length → (S.map mp).getD lo [] = mp (S.getD lo []) ∧ Ok (S.getD lo []) n := fun h => by
        have e : S.getD lo [] = S[lo] := by simp [List.getD_eq_getElem?_getD, h]
        rw [e]
        exact ⟨by simp [List.getD_eq_getElem?_getD, h], hS.1 _ (List.getElem_mem h)⟩
      have hg6 : lo < S.length → ((S.map mp).getD lo []).length = 6 := fun h => by rw [(hget h).1]; exact (hget h).2.mp_len
      have hne : lo < S.length → List.take 6 ((S.map mp).getD lo []) ≠ mp f := fun h e => by
        rw [take6 (hg6 h), (hget h).1] at e
        exact hc ⟨h, mp_inj e⟩
      obtain ⟨A, hA⟩ : ∃ A, A = (S.map mp).take lo := ⟨_, rfl⟩
      obtain ⟨B, hB⟩ : ∃ B, B = (S.map mp).drop lo := ⟨_, rfl⟩
      have a1 : List.take (lo - 0) (S.map mp) = A := by rw [Nat.sub_zero, hA]
      have a2 : List.take lo (S.map mp) = A := hA.symm
      have b1 : List.take (S.length - lo) (List.drop lo (S.map mp)) = B := by rw [hB, List.take_of_length_le (by rw [List.length_drop, List.length_map]; exact Nat.le_refl _)]
      have hAl : A.length = lo := by rw [hA, List.length_take, List.length_map]; omega
      have hBl : B.length = S.length - lo := by rw [hB, List.length_drop, List.length_map]
      have hokA : okL 6 (aggs A) := by rw [okL_aggs, hA]; exact fun r hr => hS6 r (List.mem_of_mem_take hr)
      have hokB : okL 6 (aggs B) := by rw [okL_aggs, hB]; exact fun r hr => hS6 r (List.mem_of_mem_drop hr)
      have hokS : okL 6 (aggs (S.map mp)) := by rw [okL_aggs]; exact hS6
      have hlen4 : lo + 1 + (S.length - lo) = (A ++ mp f :: B).length := by rw [List.length_append, List.length_cons]; omega
      have t0 : (List.take 0 ([] : List PV)) ++ aggs A = aggs A := rfl
      have t1 : (aggs A).take lo ++ [PV.agg (ints (mp f))] = aggs (A ++ [mp f]) := by
        rw [List.take_of_length_le (by rw [aggs_length]; omega)]; simp [aggs]
      have t2 : (aggs (A ++ [mp f])).take (lo + 1) ++ aggs B = aggs (A ++ mp f :: B) := by
        rw [List.take_of_length_le (by rw [aggs_length, List.length_append, List.length_singleton]; omega)]; simp [aggs]
      have t3 : List.take lo A = A := List.take_of_length_le (by omega)
      have t4 : List.take (lo + 1) (A ++ [mp f]) = A ++ [mp f] := List.take_of_length_le (by rw [List.length_append, List.length_singleton]; omega)
      have t5 : aggs A ++ [PV.agg (ints (mp f))] = aggs (A ++ [mp f]) := by simp [aggs]
      have t6 : aggs (A ++ [mp f]) ++ aggs B = aggs (A ++ mp f :: B) := by simp [aggs]
      have hfin : (S.take lo ++ f :: S.drop lo).map mp = A ++ mp f :: B := by rw [hA, hB, List.map_append, List.map_cons, List.map_take, List.map_drop]
      have hlen3 : (A ++ [mp f]).length = lo + 1 := by rw [List.length_append, List.length_singleton]; omega
      rw [hfin]
      clear hfin hA hB
      have hok1 := ok6' hlf
      have hil : (ints (mp f)).length = 6 := by rw [ints_length, hlf]
      repeat' (first
        | omega
        | (rw [vT_alt]; refine ⟨?_, ?_⟩)
        | exact hg6 (by omega)
        | (have h6' := hg6 (by omega); omega)
        | (rw [take6 (hg6 (by omega))]; exact hg6 (by omega))
        | exact hokA
        | exact hokS
        | exact hokB
        | exact hok1
        | (exfalso; exact hne (by omega) (by assumption))
        | (with_reducible refine And.intro ?_ ?_)
        | (with_reducible intro _)
        | (simp only [OpK_eq, HKv, a1, a2, b1, hAl, hBl, hlen3, t0, t1, t2, t3, t4, t5, t6, hlf, hil, aggs_take, aggs_drop, aggs_length, List.length_map, take6, List.drop_zero, Int.cast_ofNat_Int, go_sem, ↓reduceIte, Nat.reduceEqDiff, Nat.reduceAdd, Nat.reduceMul, Nat.reduceLeDiff, Nat.reduceLT, Int.reduceLE, Int.reduceLT, reduceCtorEq]))
      all_goals exact Kv.Fin.freeze (Imm.refa' rfl hlen4) ⟨rfl, rfl⟩
end Go.Proofs.YthbbjbfbeaiphaaGreat
end
section
/- Maps in order: plain laws, and the table of products. -/
namespace Go.Proofs.YthbbjbfbeaiphaaGreat
open Go.Kv
set_option maxRecDepth 100000
def k202_b0 : KC := (.seq (.seq (.ops [mV 15 6, mV 16 0, oP 17 (.len false (.t 16)), oP 18 (.bin .lss (.t 15) (.t 17))])
  (.cond (.t 18) .skip (.exit 2)))
  (.seq (.block 3 (.draw [mV 21 5, mV 22 0, mV 23 0, mV 24 4, oP 25 (.idxS 6 (.t 23) (.t 24)), oP 26 (.load true 6 (.t 25)), mV 27 0, mV 28 6, oP 29 (.idxS 6 (.t 27) (.t 28)), oP 30 (.load true 6 (.t 29)), oP 31 (.pcall (fC 217) [(.t 26), (.t 30)]), oP 32 (.pcall (fC 216) [(.t 22), (.t 31)]), oP 33 (.bsl true 2 1 [(.t 32)]), oP 34 (.app (.t 21) (.t 33) 2 1), mV 5 34]))
  (.ops [mV 19 6, oP 20 (.bin .add (.t 19) (iC 1)), mV 6 20])))
def k202_b1 : KC := (.seq (.seq (.ops [mV 8 4, mV 9 0, oP 10 (.len false (.t 9)), oP 11 (.bin .lss (.t 8) (.t 10))])
  (.cond (.t 11) .skip (.exit 0)))
  (.seq (.block 1 (.seq (.ops [oP 14 (.bsl false 2 1 []), mV 5 14])
  (.seq (.seq (.ops [oP 6 (.mv (iC 0))])
  (.block 2 (.loop k202_b0)))
  (.ops [mV 35 3, mV 36 5, oP 37 (.bsl true 27 1 [(.t 36)]), oP 38 (.app (.t 35) (.t 37) 27 1), mV 3 38]))))
  (.ops [mV 12 4, oP 13 (.bin .add (.t 12) (iC 1)), mV 4 13])))
def k202 : KC := (.seq (.ops [oP 2 (.mv (.c (.nils)))])
  (.seq (.ops [oP 7 (.bsl false 27 1 []), mV 3 7])
  (.seq (.seq (.ops [oP 4 (.mv (iC 0))])
  (.block 0 (.loop k202_b1)))
  (.seq (.ops [mV 39 3, mV 2 39])
  .ret))))
theorem e202 : Ent 202 40 [33, 37] [.t 2] k202 := ent Tryz.func202 (by kernel_rfl) (by kernel_rfl) (by kernel_rfl) (fun _ => by kernel_rfl) (by kernel_rfl)
end Go.Proofs.YthbbjbfbeaiphaaGreat
namespace Go.Proofs.YthbbjbfbeaiphaaGreat
open Go.Kv
set_option linter.unusedVariables false
set_option linter.unusedSimpArgs false
attribute [local irreducible] ACall PCall KL
theorem lo_mem {n : Nat} {S : List (List Nat)} (hS : SrM n S) {f : List Nat} (hf : Ok f n) : (loM n S f < S.length ∧ S.getD (loM n S f) [] = f) ↔ f ∈ S := by
  constructor
  · rintro ⟨h1, h2⟩
    rw [← h2, List.getD_eq_getElem?_getD, List.getElem?_eq_getElem h1]
    exact List.getElem_mem _
  · intro h
    obtain ⟨i, hi, e⟩ := List.getElem_of_mem h
    have hle := loM_le n S f
    have h1 : ¬ i < loM n S f := fun hh => by
      have := (loM_iff f hS.2 i hi).2 hh
      rw [e] at this; omega
    have hlo : loM n S f < S.length := by omega
    have h2 : ¬ nbl n S[loM n S f] < nbl n f := fun hh => by
      have := (loM_iff f hS.2 _ hlo).1 hh
      omega
    have h3 : loM n S f = i := by
      refine Classical.byContradiction fun hne => ?_
      have := List.pairwise_iff_getElem.1 hS.2 (loM n S f) i hlo hi (by omega)
      rw [e] at this
      exact h2 this
    refine ⟨hlo, ?_⟩
    rw [List.getD_eq_getElem?_getD, List.getElem?_eq_getElem hlo]
    simp only [h3, Option.getD_some]
    exact e
theorem putM_mem {n : Nat} {S : List (List Nat)} (hS : SrM n S) {f : List Nat} (hf : Ok f n) {x : List Nat} : x ∈ putM n S f ↔ x = f ∨ x ∈ S := by
  unfold putM
  split
  · rename_i h
    have := (lo_mem hS hf).1 h
    exact ⟨fun h => .inr h, fun h => by rcases h with rfl | h <;> assumption⟩
  · rw [List.mem_append, List.mem_cons]
    constructor
    · rintro (h | h | h)
      · exact .inr (List.mem_of_mem_take h)
      · exact .inl h
      · exact .inr (List.mem_of_mem_drop h)
    · rintro (h | h)
      · exact .inr (.inl h)
      · rw [← List.take_append_drop (loM n S f) S, List.mem_append] at h
        rcases h with h | h
        · exact .inl h
        · exact .inr (.inr h)
theorem putM_srm {n : Nat} {S : List (List Nat)} (hS : SrM n S) {f : List Nat} (hf : Ok f n) : SrM n (putM n S f) := by
  refine ⟨fun g hg => ?_, ?_⟩
  · rcases (putM_mem hS hf).1 hg with rfl | hg
    · exact hf
    · exact hS.1 g hg
  · unfold putM
    split
    · exact hS.2
    · rename_i hno
      have hnm : f ∉ S := fun h => hno ((lo_mem hS hf).2 h)
      have hle := loM_le n S f
      have hfr : ∀ x ∈ S.take (loM n S f), nbl n x < nbl n f := fun x hx => by
        obtain ⟨i, hi, rfl⟩ := List.getElem_of_mem hx
        rw [List.length_take] at hi
        rw [List.getElem_take]
        exact (loM_iff f hS.2 i (by omega)).2 (by omega)
      have hbk : ∀ x ∈ S.drop (loM n S f), nbl n f < nbl n x := fun x hx => by
        obtain ⟨i, hi, rfl⟩ := List.getElem_of_mem hx
        rw [List.length_drop] at hi
        rw [List.getElem_drop]
        have h1 : ¬ nbl n S[loM n S f + i] < nbl n f := fun hh => by
          have := (loM_iff f hS.2 _ (by omega)).1 hh
          omega
        have h2 : nbl n S[loM n S f + i] ≠ nbl n f := fun hh => hnm (by
          rw [← nbl_inj (hS.1 _ (List.getElem_mem (by omega))) hf hh]
          exact List.getElem_mem _)
        omega
      rw [List.pairwise_append, List.pairwise_cons]
      refine ⟨hS.2.sublist (List.take_sublist _ _), ⟨hbk, hS.2.sublist (List.drop_sublist _ _)⟩, fun a ha b hb => ?_⟩
      have h1 := hfr a ha
      rcases List.mem_cons.1 hb with rfl | hb
      · exact h1
      · have := hbk b hb; omega
theorem putM_len {n : Nat} {S : List (List Nat)} (f : List Nat) : (putM n S f).length ≤ S.length + 1 := by
  have hle := loM_le n S f
  unfold putM
  split
  · omega
  · rw [List.length_append, List.length_cons, List.length_take, List.length_drop]; omega
/-- The place of a map, or -1. -/
def plM (n : Nat) (S : List (List Nat)) (f : List Nat) : Int := if loM n S f < S.length ∧ S.getD (loM n S f) [] = f then loM n S f else -1
/-- The table of products. -/
def rowM (n : Nat) (S : List (List Nat)) (f : List Nat) : List Int := S.map fun g => plM n S (mul f g)
def tabM (n : Nat) (S : List (List Nat)) : List (List Int) := S.map fun f => rowM n S f
theorem p202o (n : Nat) (S : List (List Nat)) (hS : SrM n S) (hl : S.length ≤ 1000) : ACall Tryz.prog 202 [.list (aggs (S.map mp))] [] fun v s => TabN 27 2 s v (tabM n S) ∧ Free s := by
  refine e202 (by simp) fun _ _ => ?_
  simp only [k202, argEnv, take6, List.drop_zero, Int.cast_ofNat_Int, go_sem, ↓reduceIte, Nat.reduceEqDiff, Nat.reduceAdd, Nat.reduceMul, Nat.reduceLeDiff, Nat.reduceLT, Int.reduceLE, Int.reduceLT, reduceCtorEq]
  have hS6 : ∀ i, i < S.length → (S.map mp).getD i [] = mp (S.getD i []) ∧ Ok (S.getD i []) n := fun i h => by
    have e : S.getD i [] = S[i] := by simp [List.getD_eq_getElem?_getD, h]
    rw [e]
    exact ⟨by simp [List.getD_eq_getElem?_getD, h], hS.1 _ (List.getElem_mem h)⟩
  refine KL_ind k202_b1.eq_1 (fun y : Nat × PV × Heap => [(0, .list (aggs (S.map mp))), (3, y.2.1), (4, .int .i64 y.1)]) (fun y => y.2.2) (fun y => y.1 ≤ S.length ∧ TabN 27 2 y.2.2 y.2.1 ((tabM n S).take y.1) ∧ Free y.2.2) (fun y => S.length - y.1) [0, 3, 4] (0, .ref 0 0 0 0, [.arr 0 27 1 []]) (by simp [keep]) rfl ⟨Nat.zero_le _, by rw [List.take_zero]; exact TabN.empty, Free.empty _ _ _⟩ fun ⟨x, v, σ⟩ ⟨hx, hT, hF⟩ ih => ?_
  simp only at hx hT hF
  try simp only [OpK_eq, HKv, aggs_length, List.length_map, take6, List.drop_zero, Int.cast_ofNat_Int, go_sem, ↓reduceIte, Nat.reduceEqDiff, Nat.reduceAdd, Nat.reduceMul, Nat.reduceLeDiff, Nat.reduceLT, Int.reduceLE, Int.reduceLT, reduceCtorEq]
  refine ⟨fun g1 => ?_, fun g1 => ?_⟩
  · have hxl : x < S.length := by omega
    obtain ⟨e1, o1⟩ := hS6 x hxl
    have h61 := o1.mp_len
    have hrl : (rowM n S (S.getD x [])).length = S.length := List.length_map _
    have hself : ∀ a : AObj, (σ ++ [a])[σ.length]? = some a := fun a => by simp
    have hset : ∀ a b : AObj, (σ ++ [a]).set σ.length b = σ ++ [b] := fun a b => by simp [List.set_append_right]
    refine KL_ind k202_b0.eq_1 (fun y : Nat => [(0, .list (aggs (S.map mp))), (3, v), (4, .int .i64 x), (5, .ref σ.length y 0 y), (6, .int .i64 y)]) (fun y => σ ++ [.arr y 2 1 (ints ((rowM n S (S.getD x [])).take y))]) (fun y => y ≤ S.length) (fun y => S.length - y) [0, 3, 4, 5, 6] 0 (by simp [keep]) rfl (Nat.zero_le _) fun y hy ihy => ?_
    have htl : ((rowM n S (S.getD x [])).take y).length = y := by rw [List.length_take]; omega
    try simp only [OpK_eq, HKv, aggs_length, List.length_map, e1, h61, take6, List.drop_zero, Int.cast_ofNat_Int, go_sem, ↓reduceIte, Nat.reduceEqDiff, Nat.reduceAdd, Nat.reduceMul, Nat.reduceLeDiff, Nat.reduceLT, Int.reduceLE, Int.reduceLT, reduceCtorEq]
    refine ⟨fun g2 => ?_, fun g2 => ?_⟩
    · have hyl : y < S.length := by omega
      obtain ⟨e2, o2⟩ := hS6 y hyl
      have h62 := o2.mp_len
      try simp only [OpK_eq, HKv, aggs_length, List.length_map, e1, h61, e2, h62, hself, hset, take6, List.drop_zero, Int.cast_ofNat_Int, go_sem, ↓reduceIte, Nat.reduceEqDiff, Nat.reduceAdd, Nat.reduceMul, Nat.reduceLeDiff, Nat.reduceLT, Int.reduceLE, Int.reduceLT, reduceCtorEq]
      refine ⟨by omega, fun _ => ⟨by omega, fun _ => ?_⟩⟩
      refine (p217 _ _ n o1 o2).pgo ?_
      have hFd := p216 n S hS (by omega) (mul (S.getD x []) (S.getD y [])) (o1.mul o2)
      have hpl : (if loM n S (mul (S.getD x []) (S.getD y [])) < S.length ∧ S.getD (loM n S (mul (S.getD x []) (S.getD y []))) [] = mul (S.getD x []) (S.getD y []) then (loM n S (mul (S.getD x []) (S.getD y [])) : Int) else -1) = plM n S (mul (S.getD x []) (S.getD y [])) := rfl
      rw [hpl] at hFd
      try simp only [OpK_eq, HKv, take6, List.drop_zero, Int.cast_ofNat_Int, go_sem, ↓reduceIte, Nat.reduceEqDiff, Nat.reduceAdd, Nat.reduceMul, Nat.reduceLeDiff, Nat.reduceLT, Int.reduceLE, Int.reduceLT, reduceCtorEq]
      refine hFd.pgo ?_
      have hts : (rowM n S (S.getD x [])).take (y + 1) = (rowM n S (S.getD x [])).take y ++ [plM n S (mul (S.getD x []) (S.getD y []))] := by
        have hyr : y < (rowM n S (S.getD x [])).length := by omega
        rw [List.take_succ_eq_append_getElem hyr]
        have : (rowM n S (S.getD x []))[y] = plM n S (mul (S.getD x []) S[y]) := by simp [rowM]
        rw [this]
        simp [List.getD_eq_getElem?_getD, hyl]
      have ht2 : List.take y ((rowM n S (S.getD x [])).take y) = (rowM n S (S.getD x [])).take y := List.take_of_length_le (by omega)
      try simp only [OpK_eq, HKv, hself, hset, htl, ht2, take6, List.drop_zero, Int.cast_ofNat_Int, go_sem, ↓reduceIte, Nat.reduceEqDiff, Nat.reduceAdd, Nat.reduceMul, Nat.reduceLeDiff, Nat.reduceLT, Int.reduceLE, Int.reduceLT, reduceCtorEq]
      refine ⟨⟨by omega, by omega⟩, by omega, ihy (y + 1) (by omega) (by omega) _ _ (by simp [keep]) ?_⟩
      rw [hts]
    · obtain rfl : y = S.length := by omega
      have htx : (tabM n S).take (x + 1) = (tabM n S).take x ++ [rowM n S (S.getD x [])] := by
        have hxt : x < (tabM n S).length := by rw [tabM, List.length_map]; exact hxl
        rw [List.take_succ_eq_append_getElem hxt]
        have : (tabM n S)[x] = rowM n S S[x] := by simp [tabM]
        rw [this]
        simp [List.getD_eq_getElem?_getD, hxl]
      rw [List.take_of_length_le (by omega : (rowM n S (S.getD x [])).length ≤ S.length)]
      refine hT.pushRow hF (rowM n S (S.getD x [])) (by omega) (by rw [List.length_take]; omega) fun v' σ' q1 q2 => ?_
      try simp only [OpK_eq, HKv, take6, List.drop_zero, Int.cast_ofNat_Int, go_sem, ↓reduceIte, Nat.reduceEqDiff, Nat.reduceAdd, Nat.reduceMul, Nat.reduceLeDiff, Nat.reduceLT, Int.reduceLE, Int.reduceLT, reduceCtorEq]
      exact ⟨by omega, ih (x + 1, v', σ') ⟨by show x + 1 ≤ S.length; omega, by show TabN _ _ σ' v' ((tabM n S).take (x + 1)); rw [htx]; exact q1, q2⟩ (by show S.length - (x + 1) < S.length - x; omega) _ _ (by simp [keep]) rfl⟩
  · obtain rfl : x = S.length := by omega
    rw [List.take_of_length_le (by rw [tabM, List.length_map]; exact Nat.le_refl _)] at hT
    try simp only [OpK_eq, HKv, take6, List.drop_zero, Int.cast_ofNat_Int, go_sem, ↓reduceIte, Nat.reduceEqDiff, Nat.reduceAdd, Nat.reduceMul, Nat.reduceLeDiff, Nat.reduceLT, Int.reduceLE, Int.reduceLT, reduceCtorEq]
    exact Kv.Fin.now ⟨hT, hF⟩
theorem p202 (n : Nat) (S : List (List Nat)) (hS : SrM n S) (hl : S.length ≤ 1000) : Pure Tryz.prog 202 [.list (aggs (S.map mp))] (.list (rows (tabM n S))) :=
  (p202o n S hS hl).ret fun v s ⟨hT, _⟩ => Kv.Fin.freeze hT.imm ⟨rfl, rfl⟩
end Go.Proofs.YthbbjbfbeaiphaaGreat
end
section
/- A table of words, in the heap. -/
namespace Go.Proofs.YthbbjbfbeaiphaaGreat
open Go.Kv
set_option linter.unusedVariables false
set_option linter.unusedSimpArgs false
attribute [local irreducible] ACall PCall KL
/-- The words' table, in the heap. -/
structure WG (σ : Heap) (A : Nat → Prop) (q ver : Nat) (ws : List PV) (L : List (List Int)) : Prop where
  out : σ[q]? = some (.arr ver 27 1 ws)
  len : ws.length = L.length
  row : ∀ (i : Nat) (w : PV) (l : List Int), ws[i]? = some w → L[i]? = some l → Wd σ (fun id => A id ∨ id = q) w l
theorem WG.cell {σ : Heap} {A : Nat → Prop} {q ver : Nat} {ws : List PV} {L : List (List Int)} (h : WG σ A q ver ws L) {i : Nat} (hi : i < L.length) : ∃ w, ws[i]? = some w ∧ Wd σ (fun id => A id ∨ id = q) w L[i] := by
  have hw : i < ws.length := by rw [h.len]; exact hi
  exact ⟨ws[i], by simp [hw], h.row i _ _ (by simp [hw]) (by simp [hi])⟩
theorem WG.keep {σ σ' : Heap} {A : Nat → Prop} {q ver : Nat} {ws : List PV} {L : List (List Int)} (h : WG σ A q ver ws L) (hk : ∀ id, id < σ.length → ¬ A id → σ'[id]? = σ[id]?) (hq : ¬ A q) : WG σ' A q ver ws L where
  out := (hk q (List.getElem?_eq_some_iff.1 h.out).1 hq).trans h.out
  len := h.len
  row := fun i w m hw hm => (h.row i w m hw hm).keep fun id hid hA => ⟨hk id hid (fun h => hA (.inl h)), hA⟩
theorem WG.push {σ : Heap} {A : Nat → Prop} {q ver : Nat} {ws : List PV} {L : List (List Int)} (h : WG σ A q ver ws L) {l : List Int} {w : PV} (hw : Wd σ (fun id => A id ∨ id = q) w l) (hl : L.length ≤ 1000) {K : PV → Heap → Prop}
    (hK : WG (σ.set q (.arr (ver + 1) 27 1 (ws ++ [w]))) A q (ver + 1) (ws ++ [w]) (L ++ [l]) → K (.ref q (ver + 1) 0 (L.length + 1)) (σ.set q (.arr (ver + 1) 27 1 (ws ++ [w])))) :
    aApp 27 1 (.ref q ver 0 L.length) (.list [w]) σ K := by
  have hlt := (List.getElem?_eq_some_iff.1 h.out).1
  have hzl := h.len
  have hok : okL 1 [w] = True := by
    rcases hw with ⟨rfl, rfl⟩ | ⟨id, ver, rfl, _, _⟩ <;> simp [okL, PV.cs, PV.ok]
  have hset : ∀ id, id < σ.length → ¬ (A id ∨ id = q) → (σ.set q (.arr (ver + 1) 27 1 (ws ++ [w])))[id]? = σ[id]? ∧ ¬ (A id ∨ id = q) := fun id _ hA => by
    refine ⟨List.getElem?_set_ne ?_, hA⟩
    rintro rfl; exact hA (.inr rfl)
  have hQ : WG (σ.set q (.arr (ver + 1) 27 1 (ws ++ [w]))) A q (ver + 1) (ws ++ [w]) (L ++ [l]) := by
    refine ⟨List.getElem?_set_self hlt, by simp [h.len], fun i w' m hw' hm => ?_⟩
    rw [List.getElem?_append] at hw' hm
    split at hw'
    · rename_i hi
      rw [if_pos (by rw [← h.len]; exact hi)] at hm
      exact (h.row i w' m hw' hm).keep hset
    · rename_i hi
      rw [if_neg (by rw [← h.len]; exact hi)] at hm
      have e1 := List.mem_of_getElem? hw'
      have e2 := List.mem_of_getElem? hm
      simp only [List.mem_singleton] at e1 e2
      subst e1; subst e2
      exact hw.keep hset
  simp only [aApp_ref, h.out, AppR_arr, aNews_list, hok, true_and, AppM_def]
  rw [List.take_of_length_le (by omega)]
  exact ⟨⟨by omega, by simp; omega⟩, hK hQ⟩
end Go.Proofs.YthbbjbfbeaiphaaGreat
end
