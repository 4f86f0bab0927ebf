/- Several texts of this session as one, less what the claim does not need. -/
import Derived.Test.YtpfapiiinkkcgaaGreatCb
import Derived.Test.YtpfapiiinkkcgaaGreatZ8
import Derived.Test.YtpfapiiinkkcgaaGreatZ5
import Derived.Test.YtpfapiiinkkcgaaGreatFC
import Derived.Test.YtpfapiiinkkcgaaGreatZ7
import Derived.Test.YtpfapiiinkkcgaaGreatG2
section
/- The draws of lists of maps. -/
namespace Go.Proofs.YtpfapiiinkkcgaaGreat
open Go.Kv
set_option maxRecDepth 100000
/- spec.l01DrawList -/
/- live [0, 1, 5, 6, 7, 8, 26, 27, 28] -/
def k151_b0 : KC := (.seq (.seq (.ops [⟨(some 30), none, .mv (.t 8)⟩, ⟨(some 31), none, .mv (.t 1)⟩, ⟨(some 32), none, .bin .lss (.t 30) (.t 31)⟩])
  (.cond (.t 32) .skip (.exit 2)))
  (.seq (.block 3 (.ops [⟨(some 35), none, .mv (.t 8)⟩, ⟨(some 36), none, .mv (.t 8)⟩, ⟨(some 37), none, .fieldA 1 (.t 7)⟩, ⟨(some 38), none, .idxA 5 1 (.t 37) (.t 36)⟩, ⟨(some 39), none, .load false 1 (.t 38)⟩, ⟨(some 40), none, .mv (.t 8)⟩, ⟨(some 41), none, .mnmx false (.t 39) [(.t 40)]⟩, ⟨(some 42), none, .fieldA 1 (.t 7)⟩, ⟨(some 43), none, .idxA 5 1 (.t 42) (.t 35)⟩, ⟨none, none, .store 1 (.t 43) (.t 41)⟩]))
  (.ops [⟨(some 33), none, .mv (.t 8)⟩, ⟨(some 34), none, .bin .add (.t 33) (.c (.int .i64 1))⟩, ⟨(some 8), none, .mv (.t 34)⟩])))
/- live [0, 1, 5, 6, 26, 27, 28] -/
def k151_b1 : KC := (.seq (.seq (.ops [⟨(some 16), none, .mv (.t 6)⟩, ⟨(some 17), none, .bin .gtr (.t 16) (.c (.int .i64 0))⟩])
  (.cond (.t 17) .skip (.exit 0)))
  (.seq (.block 1 (.seq (.ops [⟨(some 20), none, .mv (.t 0)⟩, ⟨(some 21), none, .mv (.t 1)⟩, ⟨(some 22), none, .call (.c (.fn (.func 125) [] [])) [(.t 20), (.t 21)]⟩, ⟨(some 7), none, .alloc [.int .i64 0, .int .i64 0, .int .i64 0, .int .i64 0, .int .i64 0, .int .i64 0]⟩, ⟨none, none, .store 6 (.t 7) (.t 22)⟩])
  (.seq (.seq (.ops [⟨(some 23), none, .mv (.t 1)⟩, ⟨(some 24), none, .bin .eql (.t 23) (.c (.int .i64 5))⟩, ⟨(some 25), none, .mv (.t 24)⟩, ⟨(some 26), some (25, true), .mv (.t 0)⟩, ⟨(some 27), some (25, true), .call (.c (.fn (.func 124) [] [])) [(.t 26), (.c (.int .i64 3))]⟩, ⟨(some 28), some (25, true), .bin .gtr (.t 27) (.c (.int .i64 0))⟩, ⟨(some 29), none, .pick (.t 25) (.t 28) (.c (.bool false))⟩])
  (.cond (.t 29) (.seq (.ops [⟨(some 8), none, .mv (.c (.int .i64 0))⟩])
  (.block 2 (.loop k151_b0))) .skip))
  (.ops [⟨(some 44), none, .mv (.t 5)⟩, ⟨(some 45), none, .load true 6 (.t 7)⟩, ⟨(some 46), none, .bsl true 34 6 [(.t 45)]⟩, ⟨(some 47), none, .app (.t 44) (.t 46) 34 6⟩, ⟨(some 5), none, .mv (.t 47)⟩]))))
  (.ops [⟨(some 18), none, .mv (.t 6)⟩, ⟨(some 19), none, .bin .sub (.t 18) (.c (.int .i64 1))⟩, ⟨(some 6), none, .mv (.t 19)⟩])))
def k151 : KC := (.seq (.ops [⟨(some 4), none, .mv (.c (.nils))⟩])
  (.seq (.ops [⟨(some 9), none, .bsl false 34 6 []⟩, ⟨(some 5), none, .mv (.t 9)⟩])
  (.seq (.seq (.ops [⟨(some 10), none, .mv (.t 0)⟩, ⟨(some 11), none, .mv (.t 0)⟩, ⟨(some 12), none, .bsl false 2 1 [(.c (.int .i64 1)), (.c (.int .i64 2)), (.c (.int .i64 3)), (.c (.int .i64 6))]⟩, ⟨(some 13), none, .call (.c (.fn (.func 76) [] [])) [(.t 11), (.t 12)]⟩, ⟨(some 14), none, .call (.c (.fn (.func 124) [] [])) [(.t 10), (.t 13)]⟩, ⟨(some 15), none, .bin .add (.c (.int .i64 1)) (.t 14)⟩, ⟨(some 6), none, .mv (.t 15)⟩])
  (.block 0 (.loop k151_b1)))
  (.seq (.ops [⟨(some 48), none, .mv (.t 5)⟩, ⟨(some 4), none, .mv (.t 48)⟩])
  .ret))))
theorem e151 {args : List PV} {σ : Heap} {K : PV → Heap → Prop} (hl : args.length ≤ 49) (h : Wf σ → (∀ a ∈ args, PV.upto σ.length a) → vc (mkCfg Tryz.prog mixed [46] 49 σ.length) k151 (FinK σ.length [.t 4] K) (argEnv 0 args) σ) : ACall Tryz.prog 151 args σ K :=
  ACall_enter (C := mkCfg Tryz.prog mixed [46] 49 σ.length) (c := Tryz.f151.body.getD .skip) Tryz.func151 (by kernel_rfl) (by kernel_rfl) (by kernel_rfl) rfl hl (by kernel_rfl) (by kernel_rfl) h
end Go.Proofs.YtpfapiiinkkcgaaGreat
namespace Go.Proofs.YtpfapiiinkkcgaaGreat
open Go.Kv
set_option linter.unusedVariables false
set_option linter.unusedSimpArgs false
attribute [local irreducible] ACall PCall KL
/-- Lists of small maps. -/
def Mps (t : List (List Int)) : Prop := ∀ r ∈ t, r.length = 6 ∧ 0 ≤ r.getD 0 0 ∧ r.getD 0 0 ≤ 5
def Mp6 (t : List (List Int)) : Prop := ∀ r ∈ t, r.length = 6
theorem ok6 {m : List Int} (hm : m.length = 6) : okL 6 [PV.agg (ints m)] = True := by
  have := okL_aggs 6 [m]
  simp only [List.mem_singleton, forall_eq, hm] at this
  simpa [aggs] using this
theorem take_aggs (t : List (List Int)) (m : List Int) : (aggs t).take t.length ++ [PV.agg (ints m)] = aggs (t ++ [m]) := by
  rw [List.take_of_length_le (by rw [aggs_length]; exact Nat.le_refl _)]; simp [aggs]
theorem Kept.set2 {σ τ : Heap} {b id : Nat} (h : Kept σ τ b) (hid : σ.length ≤ id) (o : AObj) : Kept σ (τ.set id o) b :=
  ⟨by rw [List.length_set]; exact h.1, fun j hj hb => (List.getElem?_set_ne (by omega)).trans (h.2 j hj hb)⟩
theorem Src.set2 {τ : Heap} {b id : Nat} {l : List Int} (h : Src τ b l) (hid : id ≠ b) (o : AObj) : Src (τ.set id o) b l := h.keep (List.getElem?_set_ne hid)
theorem set_pt5 {m : List Int} {k : Nat} {v : Int} (h : 0 ≤ m.getD 0 0 ∧ m.getD 0 0 ≤ 5) : 0 ≤ (m.set (k + 1) v).getD 0 0 ∧ (m.set (k + 1) v).getD 0 0 ≤ 5 := by
  cases m with
  | nil => exact h
  | cons a m => exact h
theorem p151 {l : List Int} (hl : Byt l) {σ : Heap} {b : Nat} (hS : Src σ b l) (n : Nat) (hn1 : 1 ≤ n) (hn : n ≤ 5) {K : PV → Heap → Prop}
    (hK : ∀ (t : List (List Int)) σ', 1 ≤ t.length → t.length ≤ 6 → Mps t → Src σ' b l → Kept σ σ' b → K (.list (aggs t)) σ') : ACall Tryz.prog 151 [.ptr b 0, .int .i64 n] σ K := by
  have hlt := hS.lt
  refine e151 (by simp) fun _ _ => ?_
  simp only [k151, argEnv, take6, List.drop_zero, Int.cast_ofNat_Int, go_sem, ↓reduceIte, Nat.reduceEqDiff, Nat.reduceAdd, Nat.reduceMul, Nat.reduceLeDiff, Nat.reduceLT, Int.reduceLE, Int.reduceLT, reduceCtorEq]
  try simp only [OpK_eq, HKv, take6, List.drop_zero, Int.cast_ofNat_Int, go_sem, ↓reduceIte, Nat.reduceEqDiff, Nat.reduceAdd, Nat.reduceMul, Nat.reduceLeDiff, Nat.reduceLT, Int.reduceLE, Int.reduceLT, reduceCtorEq]
  refine p76 hl ((hS.app _).app _) [1, 2, 3, 6] (by simp) (id := σ.length + 1) (ver := 0) (e := 2) (by rw [List.getElem?_append_right (by simp)]; simp [ints]) (by omega) 4 rfl fun r1 τ1 h2 h4 h5 h6 => ?_
  have ho1 : τ1[σ.length]? = some (.arr 0 34 6 []) := by
    rw [h5.2 _ (by simp) (by omega), List.getElem?_append_left (by simp)]; simp
  have hk1 : Kept σ τ1 b := ((Kept.app _ _ _).trans (Kept.app _ _ _)).trans h5
  have hr1 : 1 ≤ r1 ∧ r1 ≤ 6 := by
    simp only [List.mem_cons, List.not_mem_nil, or_false] at h2
    omega
  clear h2 h5 h6
  try simp only [OpK_eq, HKv, take6, List.drop_zero, Int.cast_ofNat_Int, go_sem, ↓reduceIte, Nat.reduceEqDiff, Nat.reduceAdd, Nat.reduceMul, Nat.reduceLeDiff, Nat.reduceLT, Int.reduceLE, Int.reduceLT, reduceCtorEq]
  refine p124 hl h4 _ fun r2 τ2 h2 h3 h4' h5 h6 => ?_
  have h3 := h3 (by omega)
  have ho2 : τ2[σ.length]? = some (.arr 0 34 6 []) := (h5.2 _ (List.getElem?_eq_some_iff.1 ho1).1 (by omega)).trans ho1
  have hk2 := hk1.trans h5
  obtain ⟨c, hc, hc1⟩ : ∃ c : Nat, (1 : Int) + r2 = (c : Int) ∧ (1 ≤ c ∧ c ≤ 6) := ⟨(1 + r2).toNat, by omega, by omega⟩
  clear h5 h6 ho1 hk1 h4
  try simp only [OpK_eq, HKv, take6, List.drop_zero, Int.cast_ofNat_Int, go_sem, ↓reduceIte, Nat.reduceEqDiff, Nat.reduceAdd, Nat.reduceMul, Nat.reduceLeDiff, Nat.reduceLT, Int.reduceLE, Int.reduceLT, reduceCtorEq]
  rw [hc]
  refine ⟨by omega, ?_⟩
  refine KL_ind k151_b1.eq_1 (fun y : Nat × List (List Int) × Nat × Heap × PV × PV × PV => [(0, .ptr b 0), (1, .int .i64 n), (5, .ref σ.length y.2.2.1 0 y.2.1.length), (6, .int .i64 y.1), (26, y.2.2.2.2.1), (27, y.2.2.2.2.2.1), (28, y.2.2.2.2.2.2)]) (fun y => y.2.2.2.1)
    (fun y => y.2.1.length + y.1 = c ∧ Mps y.2.1 ∧ y.2.2.2.1[σ.length]? = some (.arr y.2.2.1 34 6 (aggs y.2.1)) ∧ Src y.2.2.2.1 b l ∧ Kept σ y.2.2.2.1 b) (fun y => y.1) [0, 1, 5, 6, 26, 27, 28] (c, [], 0, τ2, .undef, .undef, .undef) (by simp [keep]) rfl ⟨by simp, fun r hr => (by cases hr), ho2, h4', hk2⟩ fun ⟨j, t, ver, τ, v1, v2, v3⟩ ⟨hj, ht, ho, hS1, hK1⟩ ih => ?_
  simp only at hj ht ho hS1 hK1
  try simp only [OpK_eq, HKv, take6, List.drop_zero, Int.cast_ofNat_Int, go_sem, ↓reduceIte, Nat.reduceEqDiff, Nat.reduceAdd, Nat.reduceMul, Nat.reduceLeDiff, Nat.reduceLT, Int.reduceLE, Int.reduceLT, reduceCtorEq]
  refine ⟨fun g1 => ?_, fun g1 => ?_⟩
  · refine p125 hl hS1 n hn1 hn fun m ρ q1 q2 q3 q4 => ?_
    have hm := q1
    have hil : (ints m).length = 6 := by rw [ints_length, q1]
    have ho3 : ρ[σ.length]? = some (.arr ver 34 6 (aggs t)) := (q4.2 _ (List.getElem?_eq_some_iff.1 ho).1 (by omega)).trans ho
    have hK3 := hK1.trans q4
    have hgb : ∀ (s : Heap) (a : AObj), (s ++ [a])[s.length]? = some a := fun s a => by simp
    have hsb : ∀ (s : Heap) (a b : AObj), (s ++ [a]).set s.length b = s ++ [b] := fun s a b => by simp [List.set_append_right]
    have hap : ∀ X, (ρ ++ X)[σ.length]? = some (.arr ver 34 6 (aggs t)) := fun X => (List.getElem?_append_left (List.getElem?_eq_some_iff.1 ho3).1).trans ho3
    have hnext : ∀ (m : List Int) (ρ' : Heap) w1 w2 w3, m.length = 6 → (0 ≤ m.getD 0 0 ∧ m.getD 0 0 ≤ 5) → Src ρ' b l → Kept σ ρ' b → ρ'[σ.length]? = some (.arr ver 34 6 (aggs t)) → ∀ env, keep [0, 1, 5, 6, 26, 27, 28] env = [(0, .ptr b 0), (1, .int .i64 n), (5, .ref σ.length (ver + 1) 0 (t.length + 1)), (6, .int .i64 ((j : Int) - 1)), (26, w1), (27, w2), (28, w3)] → KL (mkCfg Tryz.prog mixed [46] 49 σ.length) k151_b1 _ env (ρ'.set σ.length (.arr (ver + 1) 34 6 (aggs (t ++ [m])))) := fun m ρ' w1 w2 w3 a1 a2 a3 a4 a5 env a6 =>
      ih (j - 1, t ++ [m], ver + 1, _, w1, w2, w3) ⟨by show (t ++ [m]).length + (j - 1) = c; rw [List.length_append, List.length_singleton]; omega, fun r hr => by
        rcases List.mem_append.1 hr with hr | hr
        · exact ht r hr
        · simp only [List.mem_singleton] at hr; subst hr; exact ⟨a1, a2⟩, List.getElem?_set_self (List.getElem?_eq_some_iff.1 a5).1, a3.set2 (by omega) _, a4.set2 (Nat.le_refl _) _⟩ (by show j - 1 < j; omega) env _ (by
          rw [a6, List.length_append, List.length_singleton]
          have : ((j - 1 : Nat) : Int) = (j : Int) - 1 := by omega
          show _ = [(0, PV.ptr b 0), (1, PV.int .i64 n), (5, PV.ref σ.length (ver + 1) 0 (t.length + 1)), (6, PV.int .i64 ((j - 1 : Nat) : Int)), (26, w1), (27, w2), (28, w3)]
          rw [this]) rfl
    clear ih
    have hok := ok6 q1
    try simp only [OpK_eq, HKv, hgb, hsb, hil, q1, hap, hok, take_aggs, aggs_length, take6, List.drop_zero, Int.cast_ofNat_Int, go_sem, ↓reduceIte, Nat.reduceEqDiff, Nat.reduceAdd, Nat.reduceMul, Nat.reduceLeDiff, Nat.reduceLT, Int.reduceLE, Int.reduceLT, reduceCtorEq]
    refine ⟨fun h5n => ?_, fun h5n => ?_⟩
    · have hql : σ.length < ρ.length := (List.getElem?_eq_some_iff.1 ho3).1
      refine p124 hl (q3.app _) _ fun r3 ρ2 p2 p3 p4 p5 p6 => ?_
      have hqb : ρ2[ρ.length]? = some (.box (ints m)) := by rw [p5.2 _ (by simp) (by omega)]; simp
      have hob : ρ2[σ.length]? = some (.arr ver 34 6 (aggs t)) := (p5.2 _ (by simp; omega) (by omega)).trans (hap _)
      have hK4 := (hK3.trans (Kept.app ρ _ b)).trans p5
      generalize hq : ρ.length = q at *
      clear hap hgb hsb p5 p6 ho3 hK3 q3 q4 hK1 hS1 ho ho2 h4' hk2 hq
      try simp only [OpK_eq, HKv, hil, q1, hqb, hob, hok, take_aggs, aggs_length, take6, List.drop_zero, Int.cast_ofNat_Int, go_sem, ↓reduceIte, Nat.reduceEqDiff, Nat.reduceAdd, Nat.reduceMul, Nat.reduceLeDiff, Nat.reduceLT, Int.reduceLE, Int.reduceLT, reduceCtorEq]
      refine ⟨fun g2 => ?_, fun g2 => ?_⟩
      · refine KL_ind k151_b0.eq_1 (fun y : Nat × List Int × Heap => [(0, .ptr b 0), (1, .int .i64 n), (5, .ref σ.length ver 0 t.length), (6, .int .i64 j), (7, .ptr q 0), (8, .int .i64 y.1), (26, .ptr b 0), (27, .int .i64 r3), (28, .bool (decide (0 < r3)))]) (fun y => y.2.2) (fun y => y.1 ≤ n ∧ y.2.1.length = 6 ∧ (0 ≤ y.2.1.getD 0 0 ∧ y.2.1.getD 0 0 ≤ 5) ∧ y.2.2[q]? = some (.box (ints y.2.1)) ∧ y.2.2[σ.length]? = some (.arr ver 34 6 (aggs t)) ∧ Src y.2.2 b l ∧ Kept σ y.2.2 b) (fun y => n - y.1) [0, 1, 5, 6, 7, 8, 26, 27, 28] (0, m, ρ2) (by simp [keep]) rfl ⟨Nat.zero_le _, q1, q2, hqb, hob, p4, hK4⟩ fun ⟨k, m2, ρ3⟩ ⟨hk, s1, s2, s3, s4, s5, s6⟩ ihk => ?_
        simp only at hk s1 s2 s3 s4 s5 s6
        have hil2 : (ints m2).length = 6 := by rw [ints_length, s1]
        have hok2 := ok6 s1
        try simp only [OpK_eq, HKv, s3, s4, hil2, s1, hok2, take_aggs, aggs_length, ints_set1, take6, List.drop_zero, Int.cast_ofNat_Int, go_sem, ↓reduceIte, Nat.reduceEqDiff, Nat.reduceAdd, Nat.reduceMul, Nat.reduceLeDiff, Nat.reduceLT, Int.reduceLE, Int.reduceLT, reduceCtorEq]
        refine ⟨fun g3 => ?_, fun g3 => ?_⟩
        · have hql3 := (List.getElem?_eq_some_iff.1 s3).1
          exact ⟨by omega, by omega, fun _ => ⟨by omega, by omega, by omega, ihk (k + 1, m2.set (k + 1) _, _) ⟨by show k + 1 ≤ n; omega, by rw [List.length_set]; exact s1, set_pt5 s2, List.getElem?_set_self hql3, (List.getElem?_set_ne (by omega)).trans s4, s5.set2 (by omega) _, s6.set2 (by omega) _⟩ (by show n - (k + 1) < n - k; omega) _ _ (by simp [keep]) rfl⟩⟩
        · exact ⟨⟨by omega, by omega⟩, by omega, hnext m2 _ _ _ _ s1 s2 s5 s6 s4 _ (by simp [keep]; exact ⟨rfl, rfl, rfl⟩)⟩
      · exact ⟨⟨by omega, by omega⟩, by omega, hnext m _ _ _ _ q1 q2 p4 hK4 hob _ (by simp [keep]; exact ⟨rfl, rfl, rfl⟩)⟩
    · exact ⟨⟨by omega, by omega⟩, by omega, hnext m _ _ _ _ q1 q2 (q3.app _) (hK3.trans (Kept.app _ _ _)) (hap _) _ (by simp [keep]; exact ⟨rfl, rfl, rfl⟩)⟩
  · obtain rfl : j = 0 := by omega
    exact Kv.Fin.giveAt ho (.inl (Imm.refa (solo_get ho))) (hK t _ (by omega) (by omega) ht (hS1.set2 (by omega) _) (hK1.set2 (Nat.le_refl _) _))
end Go.Proofs.YtpfapiiinkkcgaaGreat
end
section
/- The draws of lists of maps that may be spoilt. -/
namespace Go.Proofs.YtpfapiiinkkcgaaGreat
open Go.Kv
set_option maxRecDepth 100000
/- spec.l01Lists -/
def k188 : KC := (.seq (.ops [⟨(some 2), none, .mv (.c (.nils))⟩])
  (.seq (.ops [⟨(some 3), none, .mv (.t 0)⟩, ⟨(some 4), none, .mv (.t 0)⟩, ⟨(some 5), none, .bsl false 2 1 [(.c (.int .i64 1)), (.c (.int .i64 2)), (.c (.int .i64 2)), (.c (.int .i64 3)), (.c (.int .i64 3)), (.c (.int .i64 3)), (.c (.int .i64 4)), (.c (.int .i64 4)), (.c (.int .i64 5))]⟩, ⟨(some 6), none, .call (.c (.fn (.func 76) [] [])) [(.t 4), (.t 5)]⟩, ⟨(some 7), none, .call (.c (.fn (.func 151) [] [])) [(.t 3), (.t 6)]⟩, ⟨(some 2), none, .mv (.t 7)⟩])
  .ret))
theorem e188 {args : List PV} {σ : Heap} {K : PV → Heap → Prop} (hl : args.length ≤ 8) (h : Wf σ → (∀ a ∈ args, PV.upto σ.length a) → vc (mkCfg Tryz.prog mixed [] 8 σ.length) k188 (FinK σ.length [.t 2] K) (argEnv 0 args) σ) : ACall Tryz.prog 188 args σ K :=
  ACall_enter (C := mkCfg Tryz.prog mixed [] 8 σ.length) (c := Tryz.f188.body.getD .skip) Tryz.func188 (by kernel_rfl) (by kernel_rfl) (by kernel_rfl) rfl hl (by kernel_rfl) (by kernel_rfl) h
/- spec.l01BadList -/
/- live [1, 5] -/
def k187_b0 : KC := (.seq (.seq (.ops [⟨(some 23), none, .mv (.t 5)⟩, ⟨(some 24), none, .len false (.t 23)⟩, ⟨(some 25), none, .bin .leq (.t 24) (.c (.int .i64 6))⟩])
  (.cond (.t 25) .skip (.exit 1)))
  (.block 2 (.ops [⟨(some 26), none, .mv (.t 5)⟩, ⟨(some 27), none, .mv (.t 1)⟩, ⟨(some 28), none, .idxS 6 (.t 27) (.c (.int .i64 0))⟩, ⟨(some 29), none, .load true 6 (.t 28)⟩, ⟨(some 30), none, .bsl true 34 6 [(.t 29)]⟩, ⟨(some 31), none, .app (.t 26) (.t 30) 34 6⟩, ⟨(some 5), none, .mv (.t 31)⟩])))
def k187 : KC := (.seq (.ops [⟨(some 4), none, .mv (.c (.nils))⟩])
  (.seq (.ops [⟨(some 6), none, .bsl false 34 6 []⟩, ⟨(some 7), none, .mv (.t 1)⟩, ⟨(some 8), none, .app (.t 6) (.t 7) 34 6⟩, ⟨(some 5), none, .mv (.t 8)⟩])
  (.seq (.seq (.ops [⟨(some 9), none, .mv (.t 0)⟩, ⟨(some 10), none, .call (.c (.fn (.func 124) [] [])) [(.t 9), (.c (.int .i64 40))]⟩])
  (.block 0 (.seq (.ops [⟨(some 12), none, .bin .eql (.t 10) (.c (.int .i64 0))⟩, ⟨(some 11), none, .mv (.t 12)⟩])
  (.cond (.t 11) (.seq (.ops [⟨(some 13), none, .bsl false 34 6 []⟩, ⟨(some 4), none, .mv (.t 13)⟩])
  .ret) (.seq (.ops [⟨(some 15), none, .bin .eql (.t 10) (.c (.int .i64 1))⟩, ⟨(some 14), none, .mv (.t 15)⟩])
  (.cond (.t 14) (.seq (.ops [⟨(some 16), none, .mv (.t 5)⟩, ⟨(some 17), none, .mv (.t 0)⟩, ⟨(some 18), none, .call (.c (.fn (.func 84) [] [])) [(.t 17)]⟩, ⟨(some 19), none, .bsl true 34 6 [(.t 18)]⟩, ⟨(some 20), none, .app (.t 16) (.t 19) 34 6⟩, ⟨(some 4), none, .mv (.t 20)⟩])
  .ret) (.seq (.ops [⟨(some 22), none, .bin .eql (.t 10) (.c (.int .i64 2))⟩, ⟨(some 21), none, .mv (.t 22)⟩])
  (.cond (.t 21) (.seq (.block 1 (.loop k187_b0))
  (.seq (.ops [⟨(some 32), none, .mv (.t 5)⟩, ⟨(some 4), none, .mv (.t 32)⟩])
  .ret)) (.seq (.ops [⟨(some 34), none, .bin .eql (.t 10) (.c (.int .i64 3))⟩, ⟨(some 33), none, .mv (.t 34)⟩])
  (.cond (.t 33) (.seq (.tree (.op ⟨(some 35), none, .mv (.t 5)⟩ (.op ⟨(some 36), none, .mv (.t 0)⟩ (.op ⟨(some 37), none, .mv (.t 5)⟩ (.op ⟨(some 40), none, .mv (.t 0)⟩ (.op ⟨(some 41), none, .mv (.t 1)⟩ (.alt (.op ⟨(some 38), none, .len false (.t 37)⟩ (.alt (.op ⟨(some 39), none, .call (.c (.fn (.func 124) [] [])) [(.t 36), (.t 38)]⟩ (.op ⟨(some 42), none, .idxS 6 (.t 41) (.c (.int .i64 0))⟩ (.op ⟨(some 43), none, .load true 6 (.t 42)⟩ (.op ⟨(some 44), none, .call (.c (.fn (.func 126) [] [])) [(.t 40), (.t 43)]⟩ (.op ⟨(some 45), none, .idxS 6 (.t 35) (.t 39)⟩ (.op ⟨none, none, .store 6 (.t 45) (.t 44)⟩ .fin)))))) (.op ⟨(some 42), none, .idxS 6 (.t 41) (.c (.int .i64 0))⟩ (.alt (.op ⟨(some 39), none, .call (.c (.fn (.func 124) [] [])) [(.t 36), (.t 38)]⟩ (.op ⟨(some 43), none, .load true 6 (.t 42)⟩ (.op ⟨(some 44), none, .call (.c (.fn (.func 126) [] [])) [(.t 40), (.t 43)]⟩ (.op ⟨(some 45), none, .idxS 6 (.t 35) (.t 39)⟩ (.op ⟨none, none, .store 6 (.t 45) (.t 44)⟩ .fin))))) (.op ⟨(some 43), none, .load true 6 (.t 42)⟩ (.op ⟨(some 39), none, .call (.c (.fn (.func 124) [] [])) [(.t 36), (.t 38)]⟩ (.op ⟨(some 44), none, .call (.c (.fn (.func 126) [] [])) [(.t 40), (.t 43)]⟩ (.op ⟨(some 45), none, .idxS 6 (.t 35) (.t 39)⟩ (.op ⟨none, none, .store 6 (.t 45) (.t 44)⟩ .fin))))))))) (.op ⟨(some 42), none, .idxS 6 (.t 41) (.c (.int .i64 0))⟩ (.alt (.op ⟨(some 38), none, .len false (.t 37)⟩ (.alt (.op ⟨(some 39), none, .call (.c (.fn (.func 124) [] [])) [(.t 36), (.t 38)]⟩ (.op ⟨(some 43), none, .load true 6 (.t 42)⟩ (.op ⟨(some 44), none, .call (.c (.fn (.func 126) [] [])) [(.t 40), (.t 43)]⟩ (.op ⟨(some 45), none, .idxS 6 (.t 35) (.t 39)⟩ (.op ⟨none, none, .store 6 (.t 45) (.t 44)⟩ .fin))))) (.op ⟨(some 43), none, .load true 6 (.t 42)⟩ (.op ⟨(some 39), none, .call (.c (.fn (.func 124) [] [])) [(.t 36), (.t 38)]⟩ (.op ⟨(some 44), none, .call (.c (.fn (.func 126) [] [])) [(.t 40), (.t 43)]⟩ (.op ⟨(some 45), none, .idxS 6 (.t 35) (.t 39)⟩ (.op ⟨none, none, .store 6 (.t 45) (.t 44)⟩ .fin))))))) (.op ⟨(some 43), none, .load true 6 (.t 42)⟩ (.op ⟨(some 38), none, .len false (.t 37)⟩ (.op ⟨(some 39), none, .call (.c (.fn (.func 124) [] [])) [(.t 36), (.t 38)]⟩ (.op ⟨(some 44), none, .call (.c (.fn (.func 126) [] [])) [(.t 40), (.t 43)]⟩ (.op ⟨(some 45), none, .idxS 6 (.t 35) (.t 39)⟩ (.op ⟨none, none, .store 6 (.t 45) (.t 44)⟩ .fin)))))))))))))))
  (.seq (.ops [⟨(some 46), none, .mv (.t 5)⟩, ⟨(some 4), none, .mv (.t 46)⟩])
  .ret)) .skip))))))))))
  (.seq (.ops [⟨(some 47), none, .mv (.t 1)⟩, ⟨(some 4), none, .mv (.t 47)⟩])
  .ret))))
theorem e187 {args : List PV} {σ : Heap} {K : PV → Heap → Prop} (hl : args.length ≤ 48) (h : Wf σ → (∀ a ∈ args, PV.upto σ.length a) → vc (mkCfg Tryz.prog mixed [19, 30, 1000000] 48 σ.length) k187 (FinK σ.length [.t 4] K) (argEnv 0 args) σ) : ACall Tryz.prog 187 args σ K :=
  ACall_enter (C := mkCfg Tryz.prog mixed [19, 30, 1000000] 48 σ.length) (c := Tryz.f187.body.getD .skip) Tryz.func187 (by kernel_rfl) (by kernel_rfl) (by kernel_rfl) rfl hl (by kernel_rfl) (by kernel_rfl) h
/- spec.l02Draw -/
def k150 : KC := (.seq (.ops [⟨(some 2), none, .mv (.c (.nils))⟩])
  (.seq (.ops [⟨(some 3), none, .mv (.t 0)⟩, ⟨(some 4), none, .mv (.t 0)⟩, ⟨(some 5), none, .call (.c (.fn (.func 188) [] [])) [(.t 4)]⟩, ⟨(some 6), none, .call (.c (.fn (.func 187) [] [])) [(.t 3), (.t 5)]⟩, ⟨(some 2), none, .mv (.t 6)⟩])
  .ret))
theorem e150 {args : List PV} {σ : Heap} {K : PV → Heap → Prop} (hl : args.length ≤ 7) (h : Wf σ → (∀ a ∈ args, PV.upto σ.length a) → vc (mkCfg Tryz.prog mixed [] 7 σ.length) k150 (FinK σ.length [.t 2] K) (argEnv 0 args) σ) : ACall Tryz.prog 150 args σ K :=
  ACall_enter (C := mkCfg Tryz.prog mixed [] 7 σ.length) (c := Tryz.f150.body.getD .skip) Tryz.func150 (by kernel_rfl) (by kernel_rfl) (by kernel_rfl) rfl hl (by kernel_rfl) (by kernel_rfl) h
end Go.Proofs.YtpfapiiinkkcgaaGreat
namespace Go.Proofs.YtpfapiiinkkcgaaGreat
open Go.Kv
set_option linter.unusedVariables false
set_option linter.unusedSimpArgs false
attribute [local irreducible] ACall PCall KL
theorem p188 {l : List Int} (hl : Byt l) {σ : Heap} {b : Nat} (hS : Src σ b l) {K : PV → Heap → Prop}
    (hK : ∀ (t : List (List Int)) σ', 1 ≤ t.length → t.length ≤ 6 → Mps t → Src σ' b l → Kept σ σ' b → K (.list (aggs t)) σ') : ACall Tryz.prog 188 [.ptr b 0] σ K := by
  have hlt := hS.lt
  refine e188 (by simp) fun _ _ => ?_
  simp only [k188, argEnv, take6, List.drop_zero, Int.cast_ofNat_Int, go_sem, ↓reduceIte, Nat.reduceEqDiff, Nat.reduceAdd, Nat.reduceMul, Nat.reduceLeDiff, Nat.reduceLT, Int.reduceLE, Int.reduceLT, reduceCtorEq]
  try simp only [OpK_eq, HKv, take6, List.drop_zero, Int.cast_ofNat_Int, go_sem, ↓reduceIte, Nat.reduceEqDiff, Nat.reduceAdd, Nat.reduceMul, Nat.reduceLeDiff, Nat.reduceLT, Int.reduceLE, Int.reduceLT, reduceCtorEq]
  refine p76 hl (hS.app _) [1, 2, 2, 3, 3, 3, 4, 4, 5] (by simp) (id := σ.length) (ver := 0) (e := 2) (by simp [ints]) (by omega) 9 rfl fun r τ h2 h4 h5 h6 => ?_
  have hr : ∃ n : Nat, r = n ∧ 1 ≤ n ∧ n ≤ 5 := by
    simp only [List.mem_cons, List.not_mem_nil, or_false] at h2
    exact ⟨r.toNat, by omega, by omega, by omega⟩
  obtain ⟨n, rfl, hn1, hn5⟩ := hr
  have hk1 : Kept σ τ b := (Kept.app _ _ _).trans h5
  try simp only [OpK_eq, HKv, take6, List.drop_zero, Int.cast_ofNat_Int, go_sem, ↓reduceIte, Nat.reduceEqDiff, Nat.reduceAdd, Nat.reduceMul, Nat.reduceLeDiff, Nat.reduceLT, Int.reduceLE, Int.reduceLT, reduceCtorEq]
  refine p151 hl h4 n hn1 hn5 fun t ρ q1 q2 q3 q4 q5 => ?_
  try simp only [OpK_eq, HKv, take6, List.drop_zero, Int.cast_ofNat_Int, go_sem, ↓reduceIte, Nat.reduceEqDiff, Nat.reduceAdd, Nat.reduceMul, Nat.reduceLeDiff, Nat.reduceLT, Int.reduceLE, Int.reduceLT, reduceCtorEq]
  exact Kv.Fin.now (hK t _ q1 q2 q3 q4 (hk1.trans q5))
/-- A list of maps of one's own, beside the source. -/
structure LT (σ τ : Heap) (b : Nat) (l : List Int) (t : List (List Int)) : Prop where
  src : Src τ b l
  kept : Kept σ τ b
  arr : τ[σ.length]? = some (.arr 1 34 6 (aggs t))
  lt : b < σ.length
theorem LT.step {σ τ τ' : Heap} {b : Nat} {l : List Int} {t : List (List Int)} (h : LT σ τ b l t) (hS : Src τ' b l) (hK : Kept τ τ' b) : LT σ τ' b l t :=
  have h3 := h.lt
  ⟨hS, h.kept.trans hK, (hK.2 _ (List.getElem?_eq_some_iff.1 h.arr).1 (by omega)).trans h.arr, h.lt⟩
theorem nextL {l : List Int} (hl : Byt l) {σ ρ : Heap} {b : Nat} {t : List (List Int)} (h : LT σ ρ b l t) (n : Int) {K : PV → Heap → Prop} (hK : ∀ (r : Int) ρ', 0 ≤ r → (1 ≤ n → r < n) → LT σ ρ' b l t → K (.int .i64 r) ρ') : ACall Tryz.prog 124 [.ptr b 0, .int .i64 n] ρ K :=
  p124 hl h.src n fun r ρ' h1 h2 h3 h4 _ => hK r ρ' h1 h2 (h.step h3 h4)
theorem badL {l : List Int} (hl : Byt l) {σ ρ : Heap} {b : Nat} {t : List (List Int)} (h : LT σ ρ b l t) {f : List Int} (h6 : f.length = 6) (hp : 0 ≤ f.getD 0 0 ∧ f.getD 0 0 ≤ 5) {K : PV → Heap → Prop} (hK : ∀ (m : List Int) ρ', m.length = 6 → LT σ ρ' b l t → K (.agg (ints m)) ρ') : ACall Tryz.prog 126 [.ptr b 0, .agg (ints f)] ρ K :=
  p126 hl h.src f h6 hp fun m ρ' h1 h2 h3 => hK m ρ' h1 (h.step h2 h3)
theorem p187 {l : List Int} (hl : Byt l) {σ : Heap} {b : Nat} (hS : Src σ b l) (t : List (List Int)) (h1 : 1 ≤ t.length) (h6 : t.length ≤ 6) (ht : Mps t) {K : PV → Heap → Prop}
    (hK : ∀ (t' : List (List Int)) σ', t'.length ≤ 7 → Mp6 t' → Src σ' b l → Kept σ σ' b → K (.list (aggs t')) σ') : ACall Tryz.prog 187 [.ptr b 0, .list (aggs t)] σ K := by
  have hlt := hS.lt
  have ht6 : ∀ r ∈ t, r.length = 6 := fun r hr => (ht r hr).1
  have hgb : ∀ (s : Heap) (a : AObj), (s ++ [a])[s.length]? = some a := fun s a => by simp
  have hsb : ∀ (s : Heap) (a b : AObj), (s ++ [a]).set s.length b = s ++ [b] := fun s a b => by simp [List.set_append_right]
  refine e187 (by simp) fun _ _ => ?_
  simp only [k187, argEnv, take6, List.drop_zero, Int.cast_ofNat_Int, go_sem, ↓reduceIte, Nat.reduceEqDiff, Nat.reduceAdd, Nat.reduceMul, Nat.reduceLeDiff, Nat.reduceLT, Int.reduceLE, Int.reduceLT, reduceCtorEq]
  try simp only [OpK_eq, HKv, hgb, hsb, take6, List.drop_zero, Int.cast_ofNat_Int, go_sem, ↓reduceIte, Nat.reduceEqDiff, Nat.reduceAdd, Nat.reduceMul, Nat.reduceLeDiff, Nat.reduceLT, Int.reduceLE, Int.reduceLT, reduceCtorEq]
  refine ⟨by rw [okL_aggs]; exact ht6, by omega, ?_⟩
  refine p124 hl (hS.app _) _ fun r τ h2 h3 h4 h5 h7 => ?_
  have h3 := h3 (by omega)
  have ho : τ[σ.length]? = some (.arr 1 34 6 (aggs t)) := by
    rw [h5.2 _ (by simp) (by omega)]; simp
  have hk1 : Kept σ τ b := (Kept.app _ _ _).trans h5
  have hol := (List.getElem?_eq_some_iff.1 ho).1
  clear h5 h7
  try simp only [OpK_eq, HKv, take6, List.drop_zero, Int.cast_ofNat_Int, go_sem, ↓reduceIte, Nat.reduceEqDiff, Nat.reduceAdd, Nat.reduceMul, Nat.reduceLeDiff, Nat.reduceLT, Int.reduceLE, Int.reduceLT, reduceCtorEq]
  refine ⟨fun _ => ?_, fun _ => ⟨fun _ => ?_, fun _ => ⟨fun _ => ?_, fun _ => ⟨fun _ => ?_, fun _ => ?_⟩⟩⟩⟩
  · have hid : (τ ++ [AObj.arr 0 34 6 []])[τ.length]? = some (.arr 0 34 6 (aggs [])) := by simp [aggs]
    exact Kv.Fin.giveAt hid (.inl (Imm.refa (solo_get hid))) (hK [] _ (by simp) (fun r hr => by cases hr) ((h4.app _).set2 (by omega) _) ((hk1.trans (Kept.app _ _ _)).set2 (by omega) _))
  · refine p84 hl h4 fun m ρ q1 q2 q3 => ?_
    have ho2 : ρ[σ.length]? = some (.arr 1 34 6 (aggs t)) := (q3.2 _ hol (by omega)).trans ho
    have hol2 := (List.getElem?_eq_some_iff.1 ho2).1
    have hok := ok6 q1
    try simp only [OpK_eq, HKv, ho2, hok, take_aggs, aggs_length, take6, List.drop_zero, Int.cast_ofNat_Int, go_sem, ↓reduceIte, Nat.reduceEqDiff, Nat.reduceAdd, Nat.reduceMul, Nat.reduceLeDiff, Nat.reduceLT, Int.reduceLE, Int.reduceLT, reduceCtorEq]
    refine ⟨⟨by omega, by omega⟩, ?_⟩
    have hid : (ρ.set σ.length (.arr 2 34 6 (aggs (t ++ [m]))))[σ.length]? = some (.arr 2 34 6 (aggs (t ++ [m]))) := List.getElem?_set_self hol2
    have hl7 : t.length + 1 = (t ++ [m]).length := by simp
    rw [hl7]
    exact Kv.Fin.giveAt hid (.inl (Imm.refa (solo_get hid))) (hK (t ++ [m]) _ (by simp; omega) (fun r hr => by
      rcases List.mem_append.1 hr with hr | hr
      · exact ht6 r hr
      · simp only [List.mem_singleton] at hr; rw [hr]; exact q1) ((q2.set2 (by omega) _).set2 (by omega) _) (((hk1.trans q3).set2 (by omega) _).set2 (by omega) _))
  · refine KL_ind k187_b0.eq_1 (fun y : List (List Int) × Nat × Heap => [(1, .list (aggs t)), (5, .ref σ.length y.2.1 0 y.1.length)]) (fun y => y.2.2) (fun y => y.1.length ≤ 7 ∧ Mp6 y.1 ∧ y.2.2[σ.length]? = some (.arr y.2.1 34 6 (aggs y.1)) ∧ Src y.2.2 b l ∧ Kept σ y.2.2 b) (fun y => 7 - y.1.length) [1, 5] (t, 1, τ) (by simp [keep]) rfl ⟨by show t.length ≤ 7; omega, ht6, ho, h4, hk1⟩ fun ⟨t2, ver, ρ⟩ ⟨s1, s2, s3, s4, s5⟩ ih => ?_
    simp only at s1 s2 s3 s4 s5
    have h0 : t[0]? = some (t.getD 0 []) := by
      rw [List.getD_eq_getElem?_getD, List.getElem?_eq_getElem (by omega)]; rfl
    have h06 : (t.getD 0 []).length = 6 := ht6 _ (List.mem_of_getElem? h0)
    have hok := ok6 h06
    have hol3 := (List.getElem?_eq_some_iff.1 s3).1
    try simp only [OpK_eq, HKv, s3, hok, take_aggs, aggs_length, h06, take6, List.drop_zero, Int.cast_ofNat_Int, go_sem, ↓reduceIte, Nat.reduceEqDiff, Nat.reduceAdd, Nat.reduceMul, Nat.reduceLeDiff, Nat.reduceLT, Int.reduceLE, Int.reduceLT, reduceCtorEq]
    refine ⟨fun g1 => ?_, fun g1 => ?_⟩
    · refine ⟨by omega, fun _ => ⟨⟨by omega, by omega⟩, ih (t2 ++ [t.getD 0 []], ver + 1, _) ⟨by show (t2 ++ [t.getD 0 []]).length ≤ 7; simp; omega, fun r hr => ?_, List.getElem?_set_self hol3, s4.set2 (by omega) _, s5.set2 (Nat.le_refl _) _⟩ (by show 7 - (t2 ++ [t.getD 0 []]).length < 7 - t2.length; simp; omega) _ _ (by simp [keep]) rfl⟩⟩
      rcases List.mem_append.1 hr with hr | hr
      · exact s2 r hr
      · simp only [List.mem_singleton] at hr; rw [hr]; exact h06
    · exact Kv.Fin.giveAt s3 (.inl (Imm.refa (solo_get s3))) (hK t2 _ s1 s2 (s4.set2 (by omega) _) (s5.set2 (by omega) _))
  · have hL : LT σ τ b l t := ⟨h4, hk1, ho, hlt⟩
    have hc : ∀ ρ, LT σ ρ b l t → ρ[σ.length]? = some (.arr 1 34 6 (aggs t)) := fun ρ h => h.arr
    have h0 : t[0]? = some (t.getD 0 []) := by
      rw [List.getD_eq_getElem?_getD, List.getElem?_eq_getElem (by omega)]; rfl
    have h06 := ht _ (List.mem_of_getElem? h0)
    have h066 := h06.1
    have hil0 : (ints (t.getD 0 [])).length = 6 := by rw [ints_length, h066]
    have hs6 : subC (ints (t.getD 0 [])) 0 6 = ints (t.getD 0 []) := sub6 hil0
    have ht66 : List.take 6 (t.getD 0 []) = t.getD 0 [] := take6 h066
    have hg6 : ∀ i : Nat, i < t.length → (t.getD i []).length = 6 := fun i hi => by
      rw [List.getD_eq_getElem?_getD, List.getElem?_eq_getElem hi]
      exact ht6 _ (List.getElem_mem hi)
    have hlen : ∀ i : Nat, i < t.length → 6 ≤ (t.getD i []).length := fun i hi => by rw [hg6 i hi]; exact Nat.le_refl _
    have hfin : ∀ (i : Nat) (m : List Int) ρ, i < t.length → m.length = 6 → LT σ ρ b l t → Kv.Fin σ.length K (.ref σ.length 1 0 t.length) (ρ.set σ.length (.arr 1 34 6 ((aggs t).set i (.agg (putC (ints (t.getD i [])) 0 (ints m)))))) := fun i m ρ hi hm hLT => by
      have e1 : putC (ints (t.getD i [])) 0 (ints m) = ints m := put6 (by rw [ints_length, hm]) (by rw [ints_length, hg6 i hi])
      have e2 : (aggs t).set i (.agg (ints m)) = aggs (t.set i m) := by simp [aggs, List.map_set]
      have e3 : t.length = (t.set i m).length := by simp
      rw [e1, e2, e3]
      have hid : (ρ.set σ.length (AObj.arr 1 34 6 (aggs (t.set i m))))[σ.length]? = some (.arr 1 34 6 (aggs (t.set i m))) := List.getElem?_set_self (List.getElem?_eq_some_iff.1 hLT.arr).1
      exact Kv.Fin.giveAt hid (.inl (Imm.refa (solo_get hid))) (hK (t.set i m) _ (by simp; omega) (fun r hr => by
        rcases List.mem_or_eq_of_mem_set hr with hr | rfl
        · exact ht6 r hr
        · exact hm) ((hLT.src.set2 (by omega) _).set2 (by omega) _) ((hLT.kept.set2 (Nat.le_refl _) _).set2 (Nat.le_refl _) _))
    clear ho hol
    repeat' (first
      | omega
      | (rw [vT_alt]; refine ⟨?_, ?_⟩)
      | (refine nextL hl (σ := σ) (t := t) (by assumption) _ fun r2 ρ h4 h5 hB2 => ?_)
      | (refine badL hl (σ := σ) (t := t) (by assumption) h066 h06.2 fun m ρ h7 hB3 => ?_)
      | (with_reducible refine And.intro ?_ ?_)
      | (with_reducible intro _)
      | (simp (disch := assumption) only [hc, OpK_eq, HKv, hil0, hs6, ht66, h066, aggs_length, take6, List.drop_zero, Int.cast_ofNat_Int, go_sem, ↓reduceIte, Nat.reduceEqDiff, Nat.reduceAdd, Nat.reduceMul, Nat.reduceLeDiff, Nat.reduceLT, Int.reduceLE, Int.reduceLT, reduceCtorEq]))
    all_goals (first | exact hlen _ (by omega) | exact hfin _ _ _ (by omega) (by assumption) (by assumption))
  · exact Kv.Fin.now (hK t _ (by omega) ht6 h4 hk1)
theorem p150 {l : List Int} (hl : Byt l) {σ : Heap} {b : Nat} (hS : Src σ b l) {K : PV → Heap → Prop}
    (hK : ∀ (t' : List (List Int)) σ', t'.length ≤ 7 → Mp6 t' → Src σ' b l → Kept σ σ' b → K (.list (aggs t')) σ') : ACall Tryz.prog 150 [.ptr b 0] σ K := by
  refine e150 (by simp) fun _ _ => ?_
  simp only [k150, argEnv, take6, List.drop_zero, Int.cast_ofNat_Int, go_sem, ↓reduceIte, Nat.reduceEqDiff, Nat.reduceAdd, Nat.reduceMul, Nat.reduceLeDiff, Nat.reduceLT, Int.reduceLE, Int.reduceLT, reduceCtorEq]
  try simp only [OpK_eq, HKv, take6, List.drop_zero, Int.cast_ofNat_Int, go_sem, ↓reduceIte, Nat.reduceEqDiff, Nat.reduceAdd, Nat.reduceMul, Nat.reduceLeDiff, Nat.reduceLT, Int.reduceLE, Int.reduceLT, reduceCtorEq]
  refine p188 hl hS fun t τ q1 q2 q3 q4 q5 => ?_
  try simp only [OpK_eq, HKv, take6, List.drop_zero, Int.cast_ofNat_Int, go_sem, ↓reduceIte, Nat.reduceEqDiff, Nat.reduceAdd, Nat.reduceMul, Nat.reduceLeDiff, Nat.reduceLT, Int.reduceLE, Int.reduceLT, reduceCtorEq]
  refine p187 hl q4 t q1 q2 q3 fun t' ρ p1 p2 p3 p4 => ?_
  try simp only [OpK_eq, HKv, take6, List.drop_zero, Int.cast_ofNat_Int, go_sem, ↓reduceIte, Nat.reduceEqDiff, Nat.reduceAdd, Nat.reduceMul, Nat.reduceLeDiff, Nat.reduceLT, Int.reduceLE, Int.reduceLT, reduceCtorEq]
  exact Kv.Fin.now (hK t' _ p1 p2 p3 (q5.trans p4))
end Go.Proofs.YtpfapiiinkkcgaaGreat
end
section
/- Several texts of this session as one. -/
section
/- Iterates of a map, powers, cyclic points, heights, least points of orbits: plain laws. -/
namespace Go.Kv
set_option linter.unusedVariables false
set_option linter.unusedSimpArgs false
/-- Where k steps lead a point. -/
def it (f : List Nat) : Nat → Nat → Nat
  | 0, p => p
  | k + 1, p => f.getD (it f k p) 0
theorem it_add (f : List Nat) (p : Nat) (a : Nat) : ∀ b, it f (a + b) p = it f b (it f a p)
  | 0 => rfl
  | b + 1 => by
    show f.getD (it f (a + b) p) 0 = _
    rw [it_add f p a b]; rfl
theorem it_lt {f : List Nat} {n p : Nat} (hf : Ok f n) (hp : p < n) : ∀ k, it f k p < n
  | 0 => hp
  | k + 1 => hf.get' _
theorem it_mul {f : List Nat} {p d : Nat} (h : it f d p = p) : ∀ k, it f (d * k) p = p
  | 0 => rfl
  | k + 1 => by rw [Nat.mul_succ, it_add, it_mul h k, h]
/-- The k-th power. -/
def itM (f : List Nat) (n k : Nat) : List Nat := (List.range n).map (it f k)
theorem itM_ok {f : List Nat} {n : Nat} (hf : Ok f n) (k : Nat) : Ok (itM f n k) n := ⟨by simp [itM], hf.pos, hf.le, fun x hx => by
  simp only [itM, List.mem_map, List.mem_range] at hx
  obtain ⟨p, hp, rfl⟩ := hx
  exact it_lt hf hp k⟩
/-- Whether a point comes back to itself. -/
def cyc (f : List Nat) (n p : Nat) : Bool := (List.range n).any fun k => decide (it f (k + 1) p = p)
theorem cyc_iff {f : List Nat} {n p : Nat} : cyc f n p = true ↔ ∃ d, 1 ≤ d ∧ d ≤ n ∧ it f d p = p := by
  simp only [cyc, List.any_eq_true, List.mem_range, decide_eq_true_eq]
  constructor
  · rintro ⟨k, hk, h⟩; exact ⟨k + 1, by omega, by omega, h⟩
  · rintro ⟨d, h1, h2, h⟩; exact ⟨d - 1, by omega, by rw [Nat.sub_add_cancel h1]; exact h⟩
/-- How many steps lead to a cyclic point. -/
def hgt (f : List Nat) (n p : Nat) : Nat := (List.range 61).findIdx fun k => cyc f n (it f k p)
/-- v is the least point that the steps from p meet. -/
def IsMin (f : List Nat) (p v : Nat) : Prop := (∃ k, v = it f k p) ∧ ∀ k, v ≤ it f k p
theorem IsMin.move {f : List Nat} {n p j v : Nat} (hc : cyc f n p = true) (h : IsMin f (it f j p) v) : IsMin f p v := by
  obtain ⟨d, h1, h2, h3⟩ := cyc_iff.1 hc
  obtain ⟨⟨a, ha⟩, hb⟩ := h
  refine ⟨⟨j + a, by rw [it_add]; exact ha⟩, fun k => ?_⟩
  have e : it f k p = it f (d * j - j + k) (it f j p) := by
    have hj : j ≤ d * j := by
      have := Nat.mul_le_mul_right j h1
      omega
    rw [← it_add, ← Nat.add_assoc, show j + (d * j - j) = d * j by omega, it_add, it_mul h3]
  rw [e]; exact hb _
/-- The least of the first m iterates. -/
def lo (f : List Nat) (p : Nat) : Nat → Nat
  | 0 => p
  | m + 1 => min (lo f p m) (it f (m + 1) p)
theorem lo_mem (f : List Nat) (p : Nat) : ∀ m, ∃ k, k ≤ m ∧ lo f p m = it f k p
  | 0 => ⟨0, Nat.le_refl _, rfl⟩
  | m + 1 => by
    obtain ⟨k, hk, h⟩ := lo_mem f p m
    simp only [lo]
    by_cases hle : lo f p m ≤ it f (m + 1) p
    · exact ⟨k, by omega, by rw [Nat.min_eq_left hle]; exact h⟩
    · exact ⟨m + 1, Nat.le_refl _, by rw [Nat.min_eq_right (by omega)]⟩
/-- The points of a list, as the bits of a number. -/
def sb : List Nat → Nat
  | [] => 0
  | p :: l => sb l ||| 2 ^ p
end Go.Kv
end
section
/- Maps: cyclic points, ends, cycles, powers, images. -/
namespace Go.Proofs.YtpfapiiinkkcgaaGreat
open Go.Kv
set_option maxRecDepth 100000
/- (impl.Map).isCyclic -/
/- live [1, 2, 5, 11, 12] -/
/- (impl.Map).end -/
/- live [1, 2, 6] -/
/- (impl.Map).cycleOf -/
/- live [1, 2, 5, 6] -/
/- slices.Min[[]int64,int64] -/
/- live [0, 3, 4] -/
/- spec.l01Power -/
/- live [1, 2, 4, 5] -/
/- spec.l01Image -/
/- live [1, 3, 4] -/
end Go.Proofs.YtpfapiiinkkcgaaGreat
namespace Go.Proofs.YtpfapiiinkkcgaaGreat
open Go.Kv
set_option linter.unusedVariables false
set_option linter.unusedSimpArgs false
attribute [local irreducible] ACall PCall KL
/-- The first steps from p. -/
def its (f : List Nat) (p m : Nat) : List Int := (List.range m).map fun k => (it f k p : Int)
@[simp] theorem its_length (f : List Nat) (p m : Nat) : (its f p m).length = m := by simp [its]
end Go.Proofs.YtpfapiiinkkcgaaGreat
end
section
/- Sorting of at most twelve numbers; what is left when neighbours that are equal are one. -/
namespace Go.Proofs.YtpfapiiinkkcgaaGreat
open Go.Kv
set_option maxRecDepth 100000
/- cmp.isNaN[int64] -/
/- cmp.Less[int64] -/
/- slices.insertionSortOrdered[int64] -/
/- live [0, 1, 2, 6, 7, 20, 21, 22, 23, 24, 25, 26, 27, 28, 29] -/
/- live [0, 1, 2, 6, 20, 21, 22, 23, 24, 25, 26, 27, 28, 29] -/
/- slices.pdqsortOrdered[int64] -/
/- live [0, 1, 2, 3, 8, 9, 63, 66, 67, 76, 77, 78, 79, 80, 81, 82, 83, 84, 85, 86] -/
/- slices.Sort[[]int64,int64] -/
/- math/bits.Len -/
/- math/bits.Len64 -/
end Go.Proofs.YtpfapiiinkkcgaaGreat
namespace Go.Proofs.YtpfapiiinkkcgaaGreat
open Go.Kv
set_option linter.unusedVariables false
set_option linter.unusedSimpArgs false
attribute [local irreducible] ACall PCall KL
/-- The numbers up to place i are in order, but for the one at place j, which is ahead of all behind it. -/
def Jn (m : List Int) (i j : Nat) : Prop := (∀ x y, x < y → y ≤ i → x ≠ j → y ≠ j → m.getD x 0 ≤ m.getD y 0) ∧ ∀ y, j < y → y ≤ i → m.getD j 0 ≤ m.getD y 0
def Sn (m : List Int) (i : Nat) : Prop := ∀ x y, x < y → y < i → m.getD x 0 ≤ m.getD y 0
theorem getD_setI (m : List Int) (i : Nat) (v : Int) (k : Nat) (h : i < m.length) : (m.set i v).getD k 0 = if k = i then v else m.getD k 0 := by
  rw [List.getD_eq_getElem?_getD]
  by_cases e : k = i
  · subst e; rw [List.getElem?_set_self h]; simp
  · rw [List.getElem?_set_ne (Ne.symm e), if_neg e, List.getD_eq_getElem?_getD]
theorem Jn.zero {m : List Int} {i : Nat} (h : Sn m i) : Jn m i i := ⟨fun x y h1 h2 h3 h4 => h x y h1 (by omega), fun y h1 h2 => by omega⟩
theorem Jn.done {m : List Int} {i j : Nat} (h : Jn m i j) (hj : j ≤ i) (hs : j = 0 ∨ m.getD (j - 1) 0 ≤ m.getD j 0) : Sn m (i + 1) := fun x y h1 h2 => by
  by_cases ex : x = j
  · subst ex; exact h.2 y h1 (by omega)
  · by_cases ey : y = j
    · subst ey
      rcases hs with hs | hs
      · omega
      · by_cases e : x = y - 1
        · rw [e]; exact hs
        · exact Int.le_trans (h.1 x (y - 1) (by omega) (by omega) ex (by omega)) hs
    · exact h.1 x y h1 (by omega) ex ey
def swap1 (m : List Int) (j : Nat) : List Int := (m.set j (m.getD (j - 1) 0)).set (j - 1) (m.getD j 0)
@[simp] theorem swap1_length (m : List Int) (j : Nat) : (swap1 m j).length = m.length := by simp [swap1]
theorem swap1_getD {m : List Int} {j : Nat} (h : j < m.length) (k : Nat) : (swap1 m j).getD k 0 = if k = j - 1 then m.getD j 0 else if k = j then m.getD (j - 1) 0 else m.getD k 0 := by
  rw [swap1, getD_setI _ _ _ _ (by simp; omega), getD_setI _ _ _ _ h]
theorem Jn.step {m : List Int} {i j : Nat} (h : Jn m i j) (hi : i < m.length) (hj : j ≤ i) (h0 : 0 < j) (hl : m.getD j 0 < m.getD (j - 1) 0) : Jn (swap1 m j) i (j - 1) := by
  have hg := swap1_getD (m := m) (j := j) (by omega)
  refine ⟨fun x y h1 h2 h3 h4 => ?_, fun y h1 h2 => ?_⟩
  · rw [hg, hg, if_neg h3, if_neg h4]
    by_cases ex : x = j
    · rw [if_pos ex, if_neg (by omega)]
      exact h.1 (j - 1) y (by omega) h2 (by omega) (by omega)
    · rw [if_neg ex]
      by_cases ey : y = j
      · rw [if_pos ey]
        exact h.1 x (j - 1) (by omega) (by omega) ex (by omega)
      · rw [if_neg ey]; exact h.1 x y h1 h2 ex ey
  · rw [hg, hg, if_pos rfl, if_neg (by omega)]
    by_cases ey : y = j
    · rw [if_pos ey]; omega
    · rw [if_neg ey]; exact h.2 y (by omega) h2
end Go.Proofs.YtpfapiiinkkcgaaGreat
end
section
/- Neighbours that are equal become one. -/
namespace Go.Proofs.YtpfapiiinkkcgaaGreat
open Go.Kv
set_option maxRecDepth 100000
/- slices.Compact[[]int64,int64] -/
/- live [0, 3, 4, 5] -/
/- live [0, 3] -/
end Go.Proofs.YtpfapiiinkkcgaaGreat
namespace Go.Proofs.YtpfapiiinkkcgaaGreat
open Go.Kv
set_option linter.unusedVariables false
set_option linter.unusedSimpArgs false
attribute [local irreducible] ACall PCall KL
/-- The list with one of each run. -/
def cpt : List Int → List Int
  | [] => []
  | a :: l => match l with
    | [] => [a]
    | b :: _ => if a = b then cpt l else a :: cpt l
end Go.Proofs.YtpfapiiinkkcgaaGreat
end
section
/- The idempotents of a table: points, deletion, both sides. -/
namespace Go.Proofs.YtpfapiiinkkcgaaGreat
open Go.Kv
set_option maxRecDepth 100000
/- spec.IdempotentNumbers -/
/- live [0, 4, 5] -/
def k38_b0 : KC := (.seq (.seq (.ops [⟨(some 10), none, .mv (.t 5)⟩, ⟨(some 11), none, .mv (.t 0)⟩, ⟨(some 12), none, .len false (.t 11)⟩, ⟨(some 13), none, .bin .lss (.t 10) (.t 12)⟩])
  (.cond (.t 13) .skip (.exit 0)))
  (.seq (.block 1 (.seq (.ops [⟨(some 16), none, .mv (.t 0)⟩, ⟨(some 17), none, .mv (.t 5)⟩, ⟨(some 18), none, .idxS 1 (.t 16) (.t 17)⟩, ⟨(some 19), none, .load false 1 (.t 18)⟩, ⟨(some 20), none, .mv (.t 5)⟩, ⟨(some 21), none, .idxS 1 (.t 19) (.t 20)⟩, ⟨(some 22), none, .load false 1 (.t 21)⟩, ⟨(some 23), none, .mv (.t 5)⟩, ⟨(some 24), none, .bin .eql (.t 22) (.t 23)⟩])
  (.cond (.t 24) (.ops [⟨(some 25), none, .mv (.t 4)⟩, ⟨(some 26), none, .mv (.t 5)⟩, ⟨(some 27), none, .bsl true 2 1 [(.t 26)]⟩, ⟨(some 28), none, .app (.t 25) (.t 27) 2 1⟩, ⟨(some 4), none, .mv (.t 28)⟩]) .skip)))
  (.ops [⟨(some 14), none, .mv (.t 5)⟩, ⟨(some 15), none, .bin .add (.t 14) (.c (.int .i64 1))⟩, ⟨(some 5), none, .mv (.t 15)⟩])))
def k38 : KC := (.seq (.ops [⟨(some 2), none, .mv (.c (.nils))⟩, ⟨(some 3), none, .mv (.c (.int .i64 0))⟩])
  (.seq (.seq (.ops [⟨(some 6), none, .mv (.t 0)⟩, ⟨(some 7), none, .call (.c (.fn (.func 107) [] [])) [(.t 6)]⟩, ⟨(some 8), none, .not (.t 7)⟩])
  (.cond (.t 8) (.seq (.ops [⟨(some 2), none, .mv (.c (.nils))⟩, ⟨(some 3), none, .mv (.c (.int .i64 2))⟩])
  .ret) .skip))
  (.seq (.ops [⟨(some 9), none, .bsl false 2 1 []⟩, ⟨(some 4), none, .mv (.t 9)⟩])
  (.seq (.seq (.ops [⟨(some 5), none, .mv (.c (.int .i64 0))⟩])
  (.block 0 (.loop k38_b0)))
  (.seq (.ops [⟨(some 29), none, .mv (.t 4)⟩, ⟨(some 2), none, .mv (.t 29)⟩, ⟨(some 3), none, .mv (.c (.int .i64 0))⟩])
  .ret)))))
theorem e38 {args : List PV} {σ : Heap} {K : PV → Heap → Prop} (hl : args.length ≤ 30) (h : Wf σ → (∀ a ∈ args, PV.upto σ.length a) → vc (mkCfg Tryz.prog mixed [27] 30 σ.length) k38 (FinK σ.length [.t 2, .t 3] K) (argEnv 0 args) σ) : ACall Tryz.prog 38 args σ K :=
  ACall_enter (C := mkCfg Tryz.prog mixed [27] 30 σ.length) (c := Tryz.f38.body.getD .skip) Tryz.func38 (by kernel_rfl) (by kernel_rfl) (by kernel_rfl) rfl hl (by kernel_rfl) (by kernel_rfl) h
/- impl.IdempotentNumbers -/
def k37 : KC := (.seq (.ops [⟨(some 1), none, .box true (.t 0)⟩, ⟨(some 2), none, .mv (.c (.nils))⟩, ⟨(some 3), none, .mv (.c (.int .i64 0))⟩])
  (.seq (.seq (.ops [⟨(some 4), none, .load false 1 (.t 1)⟩, ⟨(some 5), none, .call (.c (.fn (.func 105) [] [])) [(.t 4)]⟩, ⟨(some 6), none, .not (.t 5)⟩])
  (.cond (.t 6) (.seq (.ops [⟨(some 2), none, .mv (.c (.nils))⟩, ⟨(some 3), none, .mv (.c (.int .i64 2))⟩])
  .ret) .skip))
  (.seq (.ops [⟨(some 7), none, .load false 1 (.t 1)⟩, ⟨(some 8), none, .len false (.t 7)⟩, ⟨(some 9), none, .call (.c (.fn (.func 112) [] [])) [(.t 8)]⟩, ⟨(some 10), none, .mkfn (.func 113) [] [(.t 1)]⟩, ⟨(some 11), none, .call (.c (.fn (.func 111) [] [])) [(.t 9), (.t 10)]⟩, ⟨(some 2), none, .mv (.t 11)⟩, ⟨(some 3), none, .mv (.c (.int .i64 0))⟩])
  .ret)))
theorem e37 {args : List PV} {σ : Heap} {K : PV → Heap → Prop} (hl : args.length ≤ 12) (h : Wf σ → (∀ a ∈ args, PV.upto σ.length a) → vc (mkCfg Tryz.prog mixed [1] 12 σ.length) k37 (FinK σ.length [.t 2, .t 3] K) (argEnv 0 args) σ) : ACall Tryz.prog 37 args σ K :=
  ACall_enter (C := mkCfg Tryz.prog mixed [1] 12 σ.length) (c := Tryz.f37.body.getD .skip) Tryz.func37 (by kernel_rfl) (by kernel_rfl) (by kernel_rfl) rfl hl (by kernel_rfl) (by kernel_rfl) h
/- slices.DeleteFunc[[]int64,int64] -/
/- live [0, 1, 5, 6] -/
def k111_b0 : KC := (.seq (.seq (.ops [⟨(some 16), none, .mv (.t 6)⟩, ⟨(some 17), none, .mv (.t 0)⟩, ⟨(some 18), none, .len false (.t 17)⟩, ⟨(some 19), none, .bin .lss (.t 16) (.t 18)⟩])
  (.cond (.t 19) .skip (.exit 0)))
  (.seq (.block 1 (.seq (.ops [⟨(some 22), none, .mv (.t 0)⟩, ⟨(some 23), none, .mv (.t 6)⟩, ⟨(some 24), none, .idxS 1 (.t 22) (.t 23)⟩, ⟨(some 25), none, .load false 1 (.t 24)⟩, ⟨(some 7), none, .mv (.t 25)⟩])
  (.seq (.ops [⟨(some 26), none, .mv (.t 1)⟩, ⟨(some 27), none, .mv (.t 7)⟩, ⟨(some 28), none, .call (.t 26) [(.t 27)]⟩, ⟨(some 29), none, .not (.t 28)⟩])
  (.cond (.t 29) (.seq (.ops [⟨(some 30), none, .mv (.t 0)⟩, ⟨(some 31), none, .mv (.t 5)⟩, ⟨(some 32), none, .mv (.t 7)⟩, ⟨(some 33), none, .idxS 1 (.t 30) (.t 31)⟩, ⟨none, none, .store 1 (.t 33) (.t 32)⟩])
  (.ops [⟨(some 34), none, .mv (.t 5)⟩, ⟨(some 35), none, .bin .add (.t 34) (.c (.int .i64 1))⟩, ⟨(some 5), none, .mv (.t 35)⟩])) .skip))))
  (.ops [⟨(some 20), none, .mv (.t 6)⟩, ⟨(some 21), none, .bin .add (.t 20) (.c (.int .i64 1))⟩, ⟨(some 6), none, .mv (.t 21)⟩])))
def k111 : KC := (.seq (.ops [⟨(some 4), none, .mv (.c (.nils))⟩])
  (.seq (.ops [⟨(some 8), none, .mv (.t 0)⟩, ⟨(some 9), none, .mv (.t 1)⟩, ⟨(some 10), none, .call (.c (.fn (.func 167) [] [])) [(.t 8), (.t 9)]⟩, ⟨(some 5), none, .mv (.t 10)⟩])
  (.seq (.seq (.ops [⟨(some 11), none, .mv (.t 5)⟩, ⟨(some 12), none, .bin .eql (.t 11) (.c (.int .i64 (-1)))⟩])
  (.cond (.t 12) (.seq (.ops [⟨(some 13), none, .mv (.t 0)⟩, ⟨(some 4), none, .mv (.t 13)⟩])
  .ret) .skip))
  (.seq (.seq (.ops [⟨(some 14), none, .mv (.t 5)⟩, ⟨(some 15), none, .bin .add (.t 14) (.c (.int .i64 1))⟩, ⟨(some 6), none, .mv (.t 15)⟩])
  (.block 0 (.loop k111_b0)))
  (.seq (.ops [⟨(some 36), none, .mv (.t 0)⟩, ⟨(some 37), none, .mv (.t 5)⟩, ⟨(some 38), none, .sls 1 (.t 36) (some (.t 37)) none⟩, ⟨none, none, .clr 1 (.int .i64 0) (.t 38)⟩])
  (.seq (.ops [⟨(some 39), none, .mv (.t 0)⟩, ⟨(some 40), none, .mv (.t 5)⟩, ⟨(some 41), none, .sls 1 (.t 39) none (some (.t 40))⟩, ⟨(some 4), none, .mv (.t 41)⟩])
  .ret))))))
theorem e111 {args : List PV} {σ : Heap} {K : PV → Heap → Prop} (hl : args.length ≤ 42) (h : Wf σ → (∀ a ∈ args, PV.upto σ.length a) → vc (mkCfg Tryz.prog mixed [] 42 σ.length) k111 (FinK σ.length [.t 4] K) (argEnv 0 args) σ) : ACall Tryz.prog 111 args σ K :=
  ACall_enter (C := mkCfg Tryz.prog mixed [] 42 σ.length) (c := Tryz.f111.body.getD .skip) Tryz.func111 (by kernel_rfl) (by kernel_rfl) (by kernel_rfl) rfl hl (by kernel_rfl) (by kernel_rfl) h
/- impl.points -/
/- live [3, 5, 6] -/
def k112_b0 : KC := (.seq (.ops [⟨(some 7), none, .bin .lss (.t 6) (.t 5)⟩])
  (.seq (.cond (.t 7) .skip (.exit 0))
  (.seq (.block 1 (.seq (.ops [⟨(some 8), none, .mv (.t 6)⟩, ⟨(some 4), none, .mv (.t 8)⟩])
  (.ops [⟨(some 9), none, .mv (.t 3)⟩, ⟨(some 10), none, .mv (.t 4)⟩, ⟨(some 11), none, .bsl true 2 1 [(.t 10)]⟩, ⟨(some 12), none, .app (.t 9) (.t 11) 2 1⟩, ⟨(some 3), none, .mv (.t 12)⟩])))
  (.ops [⟨(some 13), none, .bin .add (.t 6) (.c (.int .i64 1))⟩, ⟨(some 6), none, .mv (.t 13)⟩]))))
def k112 : KC := (.seq (.ops [⟨(some 2), none, .mv (.c (.nils))⟩])
  (.seq (.ops [⟨(some 3), none, .mv (.c (.nils))⟩])
  (.seq (.seq (.ops [⟨(some 5), none, .mv (.t 0)⟩, ⟨(some 6), none, .mv (.c (.int .i64 0))⟩])
  (.block 0 (.loop k112_b0)))
  (.seq (.ops [⟨(some 14), none, .mv (.t 3)⟩, ⟨(some 2), none, .mv (.t 14)⟩])
  .ret))))
theorem e112 {args : List PV} {σ : Heap} {K : PV → Heap → Prop} (hl : args.length ≤ 15) (h : Wf σ → (∀ a ∈ args, PV.upto σ.length a) → vc (mkCfg Tryz.prog mixed [11] 15 σ.length) k112 (FinK σ.length [.t 2] K) (argEnv 0 args) σ) : ACall Tryz.prog 112 args σ K :=
  ACall_enter (C := mkCfg Tryz.prog mixed [11] 15 σ.length) (c := Tryz.f112.body.getD .skip) Tryz.func112 (by kernel_rfl) (by kernel_rfl) (by kernel_rfl) rfl hl (by kernel_rfl) (by kernel_rfl) h
/- impl.IdempotentNumbers$1 -/
def k113 : KC := (.seq (.ops [⟨(some 3), none, .mv (.c (.bool false))⟩])
  (.seq (.ops [⟨(some 4), none, .load false 1 (.t 1)⟩, ⟨(some 5), none, .mv (.t 0)⟩, ⟨(some 6), none, .idxS 1 (.t 4) (.t 5)⟩, ⟨(some 7), none, .load false 1 (.t 6)⟩, ⟨(some 8), none, .mv (.t 0)⟩, ⟨(some 9), none, .idxS 1 (.t 7) (.t 8)⟩, ⟨(some 10), none, .load false 1 (.t 9)⟩, ⟨(some 11), none, .mv (.t 0)⟩, ⟨(some 12), none, .bin .neq (.t 10) (.t 11)⟩, ⟨(some 3), none, .mv (.t 12)⟩])
  .ret))
theorem e113 {args : List PV} {σ : Heap} {K : PV → Heap → Prop} (hl : args.length ≤ 13) (h : Wf σ → (∀ a ∈ args, PV.upto σ.length a) → vc (mkCfg Tryz.prog mixed [] 13 σ.length) k113 (FinK σ.length [.t 3] K) (argEnv 0 args) σ) : ACall Tryz.prog 113 args σ K :=
  ACall_enter (C := mkCfg Tryz.prog mixed [] 13 σ.length) (c := Tryz.f113.body.getD .skip) Tryz.func113 (by kernel_rfl) (by kernel_rfl) (by kernel_rfl) rfl hl (by kernel_rfl) (by kernel_rfl) h
end Go.Proofs.YtpfapiiinkkcgaaGreat
namespace Go.Proofs.YtpfapiiinkkcgaaGreat
open Go.Kv
set_option linter.unusedVariables false
set_option linter.unusedSimpArgs false
attribute [local irreducible] ACall PCall KL
/-- The numbers below n. -/
def pts (n : Nat) : List Int := mk n fun i => (i : Int)
theorem p112 (n : Nat) (hn : 1 ≤ n ∧ n ≤ 4294967296) : ACall Tryz.prog 112 [.int .i64 n] [] (fun v s => v = .ref 0 (n - 1) 0 (pts n).length ∧ s = [.arr (n - 1) 2 1 (ints (pts n))]) := by
  refine e112 (by simp) fun _ _ => ?_
  simp only [k112, argEnv, go_sem, ↓reduceIte, Nat.reduceEqDiff, Nat.reduceAdd, reduceCtorEq]
  refine KL_ind k112_b0.eq_1 (fun x : Nat => [(6, .int .i64 x), (5, .int .i64 n), (3, if x = 0 then .nils else .ref 0 (x - 1) 0 x)]) (fun x => if x = 0 then [] else [.arr (x - 1) 2 1 (ints (pts x))]) (fun x => x ≤ n) (fun x => n - x) [6, 5, 3] 0 rfl (by simp) (Nat.zero_le _) fun x hi ih => ?_
  simp only [go_sem, ↓reduceIte, Nat.reduceEqDiff, Nat.reduceAdd, reduceCtorEq]
  refine ⟨fun hx => ?_, fun hx => ?_⟩
  · rcases x with _ | x
    · simp only [go_sem, ↓reduceIte, Nat.reduceEqDiff, Nat.reduceAdd, reduceCtorEq]
      repeat' (first | refine And.intro ?_ ?_ | intro _)
      all_goals (try omega)
      refine ih 1 (by omega) (by omega) _ _ ?_ ?_
      · simp [keep]
      · simp [pts, mk, ints]
    · have hne : ¬ (x + 1 = 0) := by omega
      simp only [hne, if_false, Nat.add_sub_cancel]
      simp only [go_sem, ↓reduceIte, Nat.reduceEqDiff, Nat.reduceAdd, reduceCtorEq]
      have hl : (pts (x + 1)).length = x + 1 := by simp [pts]
      repeat' (first | refine And.intro ?_ ?_ | intro _)
      all_goals (try omega)
      refine ih (x + 1 + 1) (by omega) (by omega) _ _ ?_ ?_
      · simp [keep]
      · rw [List.take_of_length_le (by omega)]
        have := mk_succ (x + 1) fun i => (i : Int)
        simp only [pts] at this ⊢
        rw [this]
        rfl
  · obtain rfl : x = n := by omega
    have hne : ¬ (x = 0) := by omega
    simp only [hne, if_false]
    simp only [go_sem, ↓reduceIte, Nat.reduceEqDiff, Nat.reduceAdd, reduceCtorEq]
    refine Kv.Fin.now ⟨?_, rfl⟩
    simp [pts]
theorem p111 (ver : Nat) (l : List Int) (hl : l.length ≤ 4294967296) (fid : FuncId) (caps : List PV) (hc : ∀ c ∈ caps, PV.upto 0 c) (p : Int → Bool) (hp : ∀ x ∈ l, Pure Tryz.prog fid (.int .i64 x :: caps) (.bool (p x))) :
    ACall Tryz.prog 111 [.ref 0 ver 0 l.length, .fn (.func fid) [] caps] [.arr ver 2 1 (ints l)] (fun v s => v = .ref 0 ver 0 (l.filter fun x => !p x).length ∧ ∃ post, s = [.arr ver 2 1 (ints ((l.filter fun x => !p x) ++ post))]) := by
  refine e111 (by simp) fun _ _ => ?_
  simp only [k111, argEnv, go_sem, ↓reduceIte, Nat.reduceEqDiff, Nat.reduceAdd, reduceCtorEq]
  refine (p167 l hl fid caps hc p hp).use (.int _ _) (.cons (.refi rfl) (.cons (Imm.fnc _ (up_self hc)) (.nil _))) ?_
  simp only [go_sem, ↓reduceIte, Nat.reduceEqDiff, Nat.reduceAdd, reduceCtorEq]
  cases hany : l.any p with
  | false =>
    rw [idx_none hany]
    repeat' (first | refine And.intro ?_ ?_ | intro _)
    all_goals (try omega)
    refine Kv.Fin.now ⟨by rw [filter_none hany], [], by rw [filter_none hany, List.append_nil]⟩
  | true =>
    obtain ⟨i0, hi0, hno, hyes⟩ := any_split hany
    rw [idx_some hi0 hno hyes]
    refine ⟨fun h => by omega, fun h => ⟨by omega, ?_⟩⟩
    refine KL_ind k111_b0.eq_1 (fun x : Nat × List Int => [(6, .int .i64 x.1), (5, .int .i64 ((l.take x.1).filter fun x => !p x).length), (0, .ref 0 ver 0 l.length), (1, .fn (.func fid) [] caps)])
      (fun x => [.arr ver 2 1 (ints (((l.take x.1).filter fun x => !p x) ++ x.2 ++ l.drop x.1))])
      (fun x => x.1 ≤ l.length ∧ ((l.take x.1).filter fun x => !p x).length + x.2.length = x.1 ∧ 1 ≤ x.2.length) (fun x => l.length - x.1) [6, 5, 0, 1] (i0 + 1, [l[i0]]) ?_ ?_ ?_ fun ⟨x, J⟩ ⟨hx, hJ, hJ1⟩ ih => ?_
    · simp [keep, filter_take_succ hi0, hyes, filter_none hno]; omega
    · simp only [filter_take_succ hi0, hyes, filter_none hno]
      simp
    · refine ⟨by show i0 + 1 ≤ l.length; omega, ?_, by simp⟩
      simp [filter_take_succ hi0, hyes, filter_none hno]; omega
    · simp only at hx hJ hJ1
      generalize hF : (l.take x).filter (fun x => !p x) = F at *
      have hdl : (l.drop x).length = l.length - x := by simp
      have hJe : J = J.headD 0 :: J.tail := by
        cases J with
        | nil => simp at hJ1
        | cons a J => rfl
      simp only [go_sem, hdl, ↓reduceIte, Nat.reduceEqDiff, Nat.reduceAdd, reduceCtorEq]
      refine ⟨fun h1 => ?_, fun h1 => ?_⟩
      · have hxl : x < l.length := by omega
        have hg : (F ++ J ++ l.drop x).getD x 0 = l[x] := by
          rw [List.getD_eq_getElem?_getD, List.getElem?_append_right (by simp; omega)]
          have : x - (F ++ J).length = 0 := by simp; omega
          rw [this, List.getElem?_drop, Nat.add_zero, List.getElem?_eq_getElem hxl]; rfl
        rw [hg]
        refine ⟨by omega, by omega, fun h2 => ?_⟩
        refine (hp _ (List.getElem_mem hxl)).use (.bool _) (.cons (.int _ _ _) (up_self hc)) ?_
        simp only [go_sem, hdl, ↓reduceIte, Nat.reduceEqDiff, Nat.reduceAdd, reduceCtorEq]
        refine ⟨fun h3 => ?_, fun h3 => ⟨by omega, ?_⟩⟩
        · have hset : (F ++ J ++ l.drop x).set F.length l[x] = (F ++ [l[x]]) ++ J.tail ++ l.drop x := by
            rw [List.append_assoc, List.set_append_right _ _ (Nat.le_refl _), Nat.sub_self, hJe]
            simp
          have hf1 : ((l.take (x + 1)).filter fun x => !p x) = F ++ [l[x]] := by rw [filter_take_succ hxl, hF, if_pos (by simp [h3])]
          rw [hset]
          repeat' (first | refine And.intro ?_ ?_ | intro _)
          all_goals (try omega)
          refine ih (x + 1, J.tail ++ [l[x]]) ⟨by show x + 1 ≤ l.length; omega, ?_, by simp⟩ (by show l.length - (x + 1) < l.length - x; omega) _ _ ?_ ?_
          · show ((l.take (x + 1)).filter fun x => !p x).length + (J.tail ++ [l[x]]).length = x + 1
            rw [hf1]
            simp only [List.length_append, List.length_tail, List.length_cons, List.length_nil]; omega
          · simp only [keep, hf1, List.map_cons, List.map_nil, look_cons, ↓reduceIte, Nat.reduceEqDiff, reduceCtorEq, List.length_append, List.length_cons, List.length_nil]
            rfl
          · rw [hf1, List.drop_eq_getElem_cons hxl]; simp
        · have hf1 : ((l.take (x + 1)).filter fun x => !p x) = F := by rw [filter_take_succ hxl, hF, if_neg (by simp [h3]), List.append_nil]
          refine ih (x + 1, J ++ [l[x]]) ⟨by show x + 1 ≤ l.length; omega, ?_, by simp⟩ (by show l.length - (x + 1) < l.length - x; omega) _ _ ?_ ?_
          · show ((l.take (x + 1)).filter fun x => !p x).length + (J ++ [l[x]]).length = x + 1
            rw [hf1]
            simp only [List.length_append, List.length_cons, List.length_nil]; omega
          · simp only [keep, hf1, List.map_cons, List.map_nil, look_cons, ↓reduceIte, Nat.reduceEqDiff, reduceCtorEq]
            rfl
          · rw [hf1, List.drop_eq_getElem_cons hxl]; simp
      · obtain rfl : x = l.length := by omega
        rw [List.take_length] at hF
        rw [hF]
        repeat' (first | refine And.intro ?_ ?_ | intro _)
        all_goals (try omega)
        have e : (F ++ J ++ l.drop l.length).take F.length = F := by rw [List.append_assoc, List.take_left]
        rw [e]
        exact Kv.Fin.now ⟨rfl, _, by rw [List.append_assoc]⟩
def isI (t : List (List Int)) (v : Int) : Bool := decide (tat t v.toNat v.toNat = v)
def idl (t : List (List Int)) (x : Nat) : List Int := (pts x).filter (isI t)
theorem idl_succ (t : List (List Int)) (x : Nat) : idl t (x + 1) = idl t x ++ (if tat t x x = x then [(x : Int)] else []) := by
  simp only [idl, pts, mk_succ, List.filter_append]
  congr 1
  by_cases h : tat t x x = x <;> simp [isI, h]
theorem idl_len (t : List (List Int)) (x : Nat) : (idl t x).length ≤ x := by
  have := List.length_filter_le (isI t) (pts x)
  simpa [idl, pts] using this
theorem upto_fptr' {cs : List PV} (o : Nat) (h : ∀ c ∈ cs, PV.upto 0 c) : PV.upto 0 (.fptr cs o) := fun φ ι v hr => by
  cases hr with
  | fptr _ _ b o' C hb hok g hg hh => exact .fptr cs o b o' C hb hok g hg fun j c hc => h c (List.mem_of_getElem? hc) _ _ _ (hh j c hc)
theorem up_rows (t : List (List Int)) : ∀ c ∈ [PV.fptr [.list (rows t)] 0], PV.upto 0 c := up1 (upto_fptr' 0 (up1 (upto_rows 0 t)))
theorem p113 (t : List (List Int)) (h : isTab t = true) (x : Nat) (hx : x < t.length) : Pure Tryz.prog 113 [.int .i64 x, .fptr [.list (rows t)] 0] (.bool (!isI t x)) := by
  obtain ⟨hn, hsq⟩ := tab_sq h
  have hs := hsq x hx
  refine e113 (by simp) fun _ _ => ?_
  simp only [k113, argEnv, go_sem, ↓reduceIte, Nat.reduceEqDiff, Nat.reduceAdd, reduceCtorEq]
  repeat' (first | refine And.intro ?_ ?_ | intro _)
  all_goals (try omega)
  exact Kv.Fin.now ⟨rfl, rfl⟩
theorem p38_out (t : List (List Int)) (ht : t.length ≤ 1048576) (hl : ∀ r ∈ t, r.length ≤ 1048576) (h : ¬ isTab t = true) : Pure Tryz.prog 38 [.list (rows t)] (.tup [.nils, .int .i64 2]) := by
  refine e38 (by simp) fun _ _ => ?_
  simp only [k38, argEnv, go_sem, ↓reduceIte, Nat.reduceEqDiff, Nat.reduceAdd, reduceCtorEq]
  refine (p107 t ht hl).use (.bool _) (.cons (.listr _ _) (.nil _)) ?_
  simp only [go_sem, ↓reduceIte, Nat.reduceEqDiff, Nat.reduceAdd, reduceCtorEq]
  simp only [h, not_false_eq_true, true_implies, not_true_eq_false, false_implies, and_true]
  exact ⟨Kv.Fin.now ⟨rfl, rfl⟩, fun h2 => by cases h2⟩
theorem p37_out (t : List (List Int)) (ht : t.length ≤ 1048576) (hl : ∀ r ∈ t, r.length ≤ 1048576) (h : ¬ isTab t = true) : Pure Tryz.prog 37 [.list (rows t)] (.tup [.nils, .int .i64 2]) := by
  refine e37 (by simp) fun _ _ => ?_
  simp only [k37, argEnv, go_sem, ↓reduceIte, Nat.reduceEqDiff, Nat.reduceAdd, reduceCtorEq]
  refine (p105 t ht hl).use (.bool _) (.cons (.listr _ _) (.nil _)) ?_
  simp only [go_sem, ↓reduceIte, Nat.reduceEqDiff, Nat.reduceAdd, reduceCtorEq]
  simp only [h, not_false_eq_true, true_implies, not_true_eq_false, false_implies, and_true]
  exact ⟨Kv.Fin.now ⟨rfl, rfl⟩, fun h2 => by cases h2⟩
theorem p38_in (t : List (List Int)) (ht : t.length ≤ 1048576) (hl : ∀ r ∈ t, r.length ≤ 1048576) (h : isTab t = true) : NewI Tryz.prog 38 [.list (rows t)] 2 (idl t t.length) 0 := by
  obtain ⟨hn, hsq⟩ := tab_sq h
  refine NewI.mk (idl t t.length).length [] [] ?_
  refine e38 (by simp) fun _ _ => ?_
  simp only [k38, argEnv, go_sem, ↓reduceIte, Nat.reduceEqDiff, Nat.reduceAdd, reduceCtorEq]
  refine (p107 t ht hl).use (.bool _) (.cons (.listr _ _) (.nil _)) ?_
  simp only [go_sem, ↓reduceIte, Nat.reduceEqDiff, Nat.reduceAdd, reduceCtorEq]
  refine ⟨fun h2 => absurd h (by simp [h2]), fun _ => ?_⟩
  refine KL_ind k38_b0.eq_1 (fun x : Nat => [(5, .int .i64 x), (4, .ref 0 (idl t x).length 0 (idl t x).length), (0, .list (rows t))]) (fun x => [.arr (idl t x).length 2 1 (ints (idl t x))]) (fun x => x ≤ t.length) (fun x => t.length - x) [5, 4, 0] 0 rfl (by simp [idl, pts, mk, ints]) (Nat.zero_le _) fun x hi ih => ?_
  have hle := idl_len t x
  simp only [go_sem, ↓reduceIte, Nat.reduceEqDiff, Nat.reduceAdd, reduceCtorEq]
  refine ⟨fun h1 => ⟨by omega, fun h2 => ?_⟩, fun h1 => ?_⟩
  · have hs := hsq x h2
    have hsuc := idl_succ t x
    unfold tat at hsuc
    repeat' (first | refine And.intro ?_ ?_ | intro _)
    all_goals (try omega)
    · rename_i h3
      rw [if_pos h3] at hsuc
      refine ih (x + 1) (by omega) (by omega) _ _ ?_ ?_
      · rw [hsuc]; simp [keep]
      · rw [hsuc]; simp
    · rename_i h3
      rw [if_neg h3, List.append_nil] at hsuc
      refine ih (x + 1) (by omega) (by omega) _ _ ?_ ?_
      · rw [hsuc]; simp [keep]
      · rw [hsuc]
  · obtain rfl : x = t.length := by omega
    exact Kv.Fin.now ⟨rfl, rfl⟩
theorem p37_in (t : List (List Int)) (ht : t.length ≤ 1048576) (hl : ∀ r ∈ t, r.length ≤ 1048576) (h : isTab t = true) : NewI Tryz.prog 37 [.list (rows t)] 2 (idl t t.length) 0 := by
  obtain ⟨hn, hsq⟩ := tab_sq h
  have hq : (pts t.length).filter (fun x => !(!isI t x)) = idl t t.length := by simp [idl]
  unfold NewI
  refine e37 (by simp) fun _ _ => ?_
  simp only [k37, argEnv, go_sem, ↓reduceIte, Nat.reduceEqDiff, Nat.reduceAdd, reduceCtorEq]
  refine (p105 t ht hl).use (.bool _) (.cons (.listr _ _) (.nil _)) ?_
  simp only [go_sem, ↓reduceIte, Nat.reduceEqDiff, Nat.reduceAdd, reduceCtorEq]
  refine ⟨fun h2 => absurd h (by simp [h2]), fun _ => ?_⟩
  refine (p112 t.length (by omega)).mono fun v s ⟨hv, hs⟩ => ?_
  subst hv; subst hs
  simp only [go_sem, ↓reduceIte, Nat.reduceEqDiff, Nat.reduceAdd, reduceCtorEq]
  refine (p111 (t.length - 1) (pts t.length) (by simp [pts]; omega) 113 [.fptr [.list (rows t)] 0] (up_rows t) (fun x => !isI t x) (fun x hx => ?_)).mono fun v s ⟨hv, post, hs⟩ => ?_
  · obtain ⟨i, hi, rfl⟩ : ∃ i, i < t.length ∧ x = (i : Int) := by
      simp only [pts, mk, List.mem_map, List.mem_range] at hx
      obtain ⟨i, hi, rfl⟩ := hx
      exact ⟨i, hi, rfl⟩
    exact p113 t h i hi
  subst hv; subst hs
  simp only [go_sem, ↓reduceIte, Nat.reduceEqDiff, Nat.reduceAdd, reduceCtorEq]
  rw [hq]
  exact Kv.Fin.now ⟨t.length - 1, [], post, rfl, rfl⟩
end Go.Proofs.YtpfapiiinkkcgaaGreat
end
section
/- All maps of n points. -/
namespace Go.Proofs.YtpfapiiinkkcgaaGreat
open Go.Kv
set_option maxRecDepth 100000
/- spec.l01All -/
/- live [0, 3, 4, 5] -/
/- live [0, 3, 4, 6, 7, 8, 9] -/
/- live [0, 3, 4, 6] -/
/- impl.maps -/
/- live [0, 3, 4, 5, 6, 9, 10] -/
/- live [0, 3, 9, 10] -/
end Go.Proofs.YtpfapiiinkkcgaaGreat
namespace Go.Proofs.YtpfapiiinkkcgaaGreat
open Go.Kv
set_option linter.unusedVariables false
set_option linter.unusedSimpArgs false
attribute [local irreducible] ACall PCall KL
/-- The last j digits of k in base n, the greatest first. -/
def dg (n : Nat) : Nat → Nat → List Nat
  | 0, _ => []
  | j + 1, k => (k / n ^ j % n) :: dg n j k
@[simp] theorem dg_length (n : Nat) : ∀ j k, (dg n j k).length = j
  | 0, k => rfl
  | j + 1, k => by simp [dg, dg_length n j k]
/-- All maps of n points, in order. -/
def allM (n : Nat) : List (List Nat) := (List.range (n ^ n)).map (dg n n)
def fstM (n x : Nat) : List (List Int) := (List.range x).map fun k => mp (dg n n k)
@[simp] theorem fstM_length (n x : Nat) : (fstM n x).length = x := by simp [fstM]
end Go.Proofs.YtpfapiiinkkcgaaGreat
end
section
/- Images of sets of points, ranks, permutations. -/
namespace Go.Proofs.YtpfapiiinkkcgaaGreat
open Go.Kv
set_option maxRecDepth 100000
/- (impl.Map).image -/
/- live [2, 5, 8, 9, 10] -/
/- (impl.Map).rank -/
/- (impl.Map).isPermutation -/
/- impl.permutations -/
/- impl.permutations$1 -/
end Go.Proofs.YtpfapiiinkkcgaaGreat
namespace Go.Proofs.YtpfapiiinkkcgaaGreat
open Go.Kv
set_option linter.unusedVariables false
set_option linter.unusedSimpArgs false
attribute [local irreducible] ACall PCall KL
def insI (x : Int) : List Int → List Int
  | [] => [x]
  | y :: l => if x ≤ y then x :: y :: l else y :: insI x l
/-- The list in order. -/
def srt : List Int → List Int
  | [] => []
  | x :: l => insI x (srt l)
theorem insI_perm (x : Int) : ∀ l, (insI x l).Perm (x :: l)
  | [] => .refl _
  | y :: l => by
    unfold insI
    split
    · exact .refl _
    · exact ((insI_perm x l).cons y).trans (.swap x y l)
theorem srt_perm : ∀ l, (srt l).Perm l
  | [] => .refl _
  | x :: l => (insI_perm x _).trans ((srt_perm l).cons x)
@[simp] theorem srt_length (l : List Int) : (srt l).length = l.length := (srt_perm l).length_eq
end Go.Proofs.YtpfapiiinkkcgaaGreat
end
end
section
/- All permutations of few points: the specification's recursion, and that they are the maps whose images differ. -/
namespace Go.Proofs.YtpfapiiinkkcgaaGreat
open Go.Kv
set_option maxRecDepth 100000
/- spec.l09Orders -/
/- live [0, 1, 5, 6, 7, 8, 30, 31, 32, 33, 34, 35] -/
/- live [0, 1, 5, 6, 30, 31, 32, 33, 34, 35] -/
end Go.Proofs.YtpfapiiinkkcgaaGreat
namespace Go.Proofs.YtpfapiiinkkcgaaGreat
open Go.Kv
set_option linter.unusedVariables false
set_option linter.unusedSimpArgs false
attribute [local irreducible] ACall PCall KL
def ords (n : Nat) : Nat → List Nat → List (List Nat)
  | 0, p => [p]
  | d + 1, p => ((List.range n).map fun q => if q ∈ p then [] else ords n d (p ++ [q])).flatten
theorem ords_mem (n : Nat) : ∀ (d : Nat) (p : List Nat), (∀ x ∈ p, x < n) → ∀ f ∈ ords n d p, f.length = p.length + d ∧ ∀ x ∈ f, x < n
  | 0, p, hp, f, hf => by
    simp only [ords, List.mem_singleton] at hf
    subst hf; exact ⟨rfl, hp⟩
  | d + 1, p, hp, f, hf => by
    simp only [ords, List.mem_flatten, List.mem_map, List.mem_range] at hf
    obtain ⟨l, ⟨q, hq, rfl⟩, hf⟩ := hf
    split at hf
    · simp at hf
    · obtain ⟨h1, h2⟩ := ords_mem n d (p ++ [q]) (fun x hx => by
        rcases List.mem_append.1 hx with hx | hx
        · exact hp x hx
        · simp at hx; omega) f hf
      exact ⟨by simp at h1; omega, h2⟩
/-- All lists of d numbers below n, in order. -/
def wds (n : Nat) : Nat → List (List Nat)
  | 0 => [[]]
  | d + 1 => ((List.range n).map fun q => (wds n d).map (q :: ·)).flatten
theorem dg_mod (n : Nat) (hn : 1 ≤ n) : ∀ (d k q : Nat), dg n d (q * n ^ d + k) = dg n d k
  | 0, k, q => rfl
  | d + 1, k, q => by
    have hp : 0 < n ^ d := Nat.pow_pos hn
    have e : q * n ^ (d + 1) + k = (q * n) * n ^ d + k := by rw [Nat.pow_succ, Nat.mul_assoc, Nat.mul_comm n]
    simp only [dg]
    rw [e, dg_mod n hn d k (q * n)]
    congr 1
    rw [Nat.add_comm, Nat.add_mul_div_right _ _ hp, Nat.add_mul_mod_self_right]
theorem range_mul (a b : Nat) : List.range (a * b) = ((List.range a).map fun q => (List.range b).map fun k => q * b + k).flatten := by
  induction a with
  | zero => simp
  | succ a ih =>
    rw [Nat.succ_mul, List.range_add, ih, List.range_succ, List.map_append, List.flatten_append]
    simp
theorem wds_dg (n : Nat) (hn : 1 ≤ n) : ∀ d, (List.range (n ^ d)).map (dg n d) = wds n d
  | 0 => rfl
  | d + 1 => by
    have hp : 0 < n ^ d := Nat.pow_pos hn
    rw [Nat.pow_succ, Nat.mul_comm, range_mul, wds, ← wds_dg n hn d, List.map_flatten, List.map_map]
    congr 1
    refine List.map_congr_left fun q hq => ?_
    rw [List.mem_range] at hq
    simp only [Function.comp_def, List.map_map]
    refine List.map_congr_left fun k hk => ?_
    rw [List.mem_range] at hk
    show dg n (d + 1) (q * n ^ d + k) = q :: dg n d k
    simp only [dg]
    rw [dg_mod n hn d k q, Nat.add_comm, Nat.add_mul_div_right _ _ hp, Nat.div_eq_of_lt hk, Nat.zero_add, Nat.mod_eq_of_lt hq]
/-- The permutations of n points, in order. -/
def prm (n : Nat) : List (List Nat) := (allM n).filter fun f => decide f.Nodup
theorem Imm.refa' {σ : Heap} {id ver k : Nat} {e : TypeId} {n : Nat} {l : List (List Int)} (h : σ[id]? = some (.arr ver e n (aggs l))) (hk : k = l.length) : Imm σ (.ref id ver 0 k) (.list (aggs l)) := hk ▸ Imm.refa h
theorem wds_mem (n : Nat) : ∀ f : List Nat, (∀ x ∈ f, x < n) → f ∈ wds n f.length
  | [], _ => by simp [wds]
  | a :: f, h => by
    simp only [List.length_cons, wds, List.mem_flatten, List.mem_map, List.mem_range]
    exact ⟨_, ⟨a, h a (by simp), rfl⟩, List.mem_map.2 ⟨f, wds_mem n f fun x hx => h x (by simp [hx]), rfl⟩⟩
theorem allM_mem {n : Nat} (hn : 1 ≤ n) {f : List Nat} (hl : f.length = n) (h : ∀ x ∈ f, x < n) : f ∈ allM n := by
  have := wds_mem n f h
  rw [hl, ← wds_dg n hn n] at this
  exact this
end Go.Proofs.YtpfapiiinkkcgaaGreat
end
section
/- Numbers of commuting maps: both sides, and the law's function. -/
namespace Go.Proofs.YtpfapiiinkkcgaaGreat
open Go.Kv
set_option maxRecDepth 100000
/- spec.CountCommuting -/
/- live [1, 4, 5, 6] -/
/- impl.CountCommuting -/
/- impl.CountCommuting$1 -/
/- impl.commute -/
end Go.Proofs.YtpfapiiinkkcgaaGreat
namespace Go.Proofs.YtpfapiiinkkcgaaGreat
open Go.Kv
set_option linter.unusedVariables false
set_option linter.unusedSimpArgs false
attribute [local irreducible] ACall PCall KL
end Go.Proofs.YtpfapiiinkkcgaaGreat
end
section
/- Numbers of maps of the same shape: both sides. -/
namespace Go.Proofs.YtpfapiiinkkcgaaGreat
open Go.Kv
set_option maxRecDepth 100000
/- impl.CountSameShape -/
/- live [1, 5, 6, 15, 16, 17] -/
/- spec.CountSameShape -/
/- live [1, 5, 6, 7] -/
end Go.Proofs.YtpfapiiinkkcgaaGreat
namespace Go.Proofs.YtpfapiiinkkcgaaGreat
open Go.Kv
set_option linter.unusedVariables false
set_option linter.unusedSimpArgs false
attribute [local irreducible] ACall PCall KL
def kept (f : List Nat) (n x : Nat) : Nat := (((prm n).take x).filter fun g => decide (mul f g = mul g f)).length
end Go.Proofs.YtpfapiiinkkcgaaGreat
end
section
/- Inverses of permutations, renumbered maps, comparing of maps: both sides. -/
namespace Go.Proofs.YtpfapiiinkkcgaaGreat
open Go.Kv
set_option maxRecDepth 100000
/- (impl.Map).inverse -/
/- live [1, 2, 3, 7, 8] -/
/- spec.l01Inverse -/
/- live [1, 2, 3, 4] -/
/- (impl.Map).renumbered -/
/- spec.l01Renamed -/
/- cmp.Compare[int64] -/
/- slices.Compare[[]int64,int64] -/
/- live [0, 1, 9, 10, 11] -/
/- cmp.Or[int] -/
/- live [3, 6, 7, 8] -/
/- (impl.Map).compare -/
/- spec.l01Less -/
/- live [2, 3, 5] -/
def k170_b0 : KC := (.seq (.seq (.ops [⟨(some 16), none, .mv (.t 5)⟩, ⟨(some 17), none, .fieldA 0 (.t 2)⟩, ⟨(some 18), none, .load false 1 (.t 17)⟩, ⟨(some 19), none, .bin .lss (.t 16) (.t 18)⟩])
  (.cond (.t 19) .skip (.exit 0)))
  (.seq (.block 1 (.seq (.draw [⟨(some 22), none, .mv (.t 5)⟩, ⟨(some 23), none, .fieldA 1 (.t 2)⟩, ⟨(some 24), none, .idxA 5 1 (.t 23) (.t 22)⟩, ⟨(some 25), none, .load false 1 (.t 24)⟩, ⟨(some 26), none, .mv (.t 5)⟩, ⟨(some 27), none, .fieldA 1 (.t 3)⟩, ⟨(some 28), none, .idxA 5 1 (.t 27) (.t 26)⟩, ⟨(some 29), none, .load false 1 (.t 28)⟩, ⟨(some 30), none, .bin .neq (.t 25) (.t 29)⟩])
  (.cond (.t 30) (.seq (.draw [⟨(some 31), none, .mv (.t 5)⟩, ⟨(some 32), none, .fieldA 1 (.t 2)⟩, ⟨(some 33), none, .idxA 5 1 (.t 32) (.t 31)⟩, ⟨(some 34), none, .load false 1 (.t 33)⟩, ⟨(some 35), none, .mv (.t 5)⟩, ⟨(some 36), none, .fieldA 1 (.t 3)⟩, ⟨(some 37), none, .idxA 5 1 (.t 36) (.t 35)⟩, ⟨(some 38), none, .load false 1 (.t 37)⟩, ⟨(some 39), none, .bin .lss (.t 34) (.t 38)⟩, ⟨(some 4), none, .mv (.t 39)⟩])
  .ret) .skip)))
  (.ops [⟨(some 20), none, .mv (.t 5)⟩, ⟨(some 21), none, .bin .add (.t 20) (.c (.int .i64 1))⟩, ⟨(some 5), none, .mv (.t 21)⟩])))
def k170 : KC := (.seq (.ops [⟨(some 2), none, .box true (.t 0)⟩, ⟨(some 3), none, .box true (.t 1)⟩, ⟨(some 4), none, .mv (.c (.bool false))⟩])
  (.seq (.seq (.ops [⟨(some 6), none, .fieldA 0 (.t 2)⟩, ⟨(some 7), none, .load false 1 (.t 6)⟩, ⟨(some 8), none, .fieldA 0 (.t 3)⟩, ⟨(some 9), none, .load false 1 (.t 8)⟩, ⟨(some 10), none, .bin .neq (.t 7) (.t 9)⟩])
  (.cond (.t 10) (.seq (.ops [⟨(some 11), none, .fieldA 0 (.t 2)⟩, ⟨(some 12), none, .load false 1 (.t 11)⟩, ⟨(some 13), none, .fieldA 0 (.t 3)⟩, ⟨(some 14), none, .load false 1 (.t 13)⟩, ⟨(some 15), none, .bin .lss (.t 12) (.t 14)⟩, ⟨(some 4), none, .mv (.t 15)⟩])
  .ret) .skip))
  (.seq (.seq (.ops [⟨(some 5), none, .mv (.c (.int .i64 0))⟩])
  (.block 0 (.loop k170_b0)))
  (.seq (.ops [⟨(some 4), none, .mv (.c (.bool false))⟩])
  .ret))))
theorem e170 {args : List PV} {σ : Heap} {K : PV → Heap → Prop} (hl : args.length ≤ 40) (h : Wf σ → (∀ a ∈ args, PV.upto σ.length a) → vc (mkCfg Tryz.prog mixed [2, 3] 40 σ.length) k170 (FinK σ.length [.t 4] K) (argEnv 0 args) σ) : ACall Tryz.prog 170 args σ K :=
  ACall_enter (C := mkCfg Tryz.prog mixed [2, 3] 40 σ.length) (c := Tryz.f170.body.getD .skip) Tryz.func170 (by kernel_rfl) (by kernel_rfl) (by kernel_rfl) rfl hl (by kernel_rfl) (by kernel_rfl) h
end Go.Proofs.YtpfapiiinkkcgaaGreat
namespace Go.Proofs.YtpfapiiinkkcgaaGreat
open Go.Kv
set_option linter.unusedVariables false
set_option linter.unusedSimpArgs false
attribute [local irreducible] ACall PCall KL
/-- The inverse, as far as it is told by the first i points; the rest stands as it did. -/
def invS (p : List Nat) (b : Nat → Nat) (i : Nat) : List Nat := (List.range p.length).map fun y => if y ∈ p.take i then p.idxOf y else b y
@[simp] theorem invS_length (p : List Nat) (b : Nat → Nat) (i : Nat) : (invS p b i).length = p.length := by simp [invS]
def cmpL : List Int → List Int → Int
  | a :: xs, b :: ys => if a < b then -1 else if b < a then 1 else cmpL xs ys
  | _, _ => 0
theorem cmpL_same : ∀ l, cmpL l l = 0
  | [] => rfl
  | a :: l => by simp [cmpL, cmpL_same l]
theorem cmpL_app : ∀ (xs ys zs : List Int), xs.length = ys.length → cmpL (xs ++ zs) (ys ++ zs) = cmpL xs ys
  | [], [], zs, _ => by simp [cmpL, cmpL_same]
  | a :: xs, b :: ys, zs, h => by
    simp only [List.cons_append, cmpL]
    rw [cmpL_app xs ys zs (by simpa using h)]
  | [], _ :: _, _, h => by simp at h
  | _ :: _, [], _, h => by simp at h
theorem cmpL_drop {xs ys : List Int} {i : Nat} (h1 : i < xs.length) (h2 : i < ys.length) : cmpL (xs.drop i) (ys.drop i) = if xs.getD i 0 < ys.getD i 0 then -1 else if ys.getD i 0 < xs.getD i 0 then 1 else cmpL (xs.drop (i + 1)) (ys.drop (i + 1)) := by
  rw [List.drop_eq_getElem_cons h1, List.drop_eq_getElem_cons h2, cmpL]
  simp [List.getD_eq_getElem?_getD, h1, h2]
/-- What comes first. -/
def ltM (f g : List Nat) : Bool := decide (cmpL (f.map fun x : Nat => (x : Int)) (g.map fun x : Nat => (x : Int)) < 0)
theorem p170 (f g : List Nat) (n : Nat) (hf : Ok f n) (hg : Ok g n) : Pure Tryz.prog 170 [.agg (ints (mp f)), .agg (ints (mp g))] (.bool (ltM f g)) := by
  have hlf := hf.mp_len
  have hlg := hg.mp_len
  have h5 := hf.le
  have hml : (f.map fun x : Nat => (x : Int)).length = n := by simp [hf.len]
  have hmg : (g.map fun x : Nat => (x : Int)).length = n := by simp [hg.len]
  have hgf : ∀ x, x < n → (f.map fun x : Nat => (x : Int)).getD x 0 = (f.getD x 0 : Int) := fun x _ => natD f x
  have hgg : ∀ x, x < n → (g.map fun x : Nat => (x : Int)).getD x 0 = (g.getD x 0 : Int) := fun x _ => natD g x
  refine e170 (by simp) fun _ _ => ?_
  simp only [k170, argEnv, hlf, hlg, hf.len, hg.len, take6, List.drop_zero, Int.cast_ofNat_Int, go_sem, ↓reduceIte, Nat.reduceEqDiff, Nat.reduceAdd, Nat.reduceMul, Nat.reduceLeDiff, Nat.reduceLT, Int.reduceLE, Int.reduceLT, reduceCtorEq]
  refine KL_ind k170_b0.eq_1 (fun x : Nat => [(2, .fptr (ints (mp f)) 0), (3, .fptr (ints (mp g)) 0), (5, .int .i64 x)]) (fun _ => []) (fun x => x ≤ n ∧ cmpL (f.map fun x : Nat => (x : Int)) (g.map fun x : Nat => (x : Int)) = cmpL ((f.map fun x : Nat => (x : Int)).drop x) ((g.map fun x : Nat => (x : Int)).drop x)) (fun x => n - x) [2, 3, 5] 0 (by simp [keep]) rfl ⟨Nat.zero_le _, by simp⟩ fun x ⟨hx, hc⟩ ih => ?_
  try simp only [hlf, hlg, hf.len, hg.len, take6, List.drop_zero, Int.cast_ofNat_Int, go_sem, ↓reduceIte, Nat.reduceEqDiff, Nat.reduceAdd, Nat.reduceMul, Nat.reduceLeDiff, Nat.reduceLT, Int.reduceLE, Int.reduceLT, reduceCtorEq]
  refine ⟨fun h1 => ?_, fun h1 => ?_⟩
  · have hxn : x < n := by omega
    have hd := cmpL_drop (xs := f.map fun x : Nat => (x : Int)) (ys := g.map fun x : Nat => (x : Int)) (i := x) (by omega) (by omega)
    rw [hgf x hxn, hgg x hxn] at hd
    refine ⟨by omega, by omega, fun _ => ⟨by omega, by omega, fun _ => ⟨fun h2 => ⟨by omega, by omega, fun _ => ⟨by omega, by omega, fun _ => Kv.Fin.still ⟨?_, rfl⟩⟩⟩, fun h2 => ⟨by omega, ih (x + 1) ⟨by omega, ?_⟩ (by omega) _ _ (by simp [keep]) rfl⟩⟩⟩⟩
    · unfold ltM
      rw [hc, hd]
      by_cases h3 : (f.getD x 0 : Int) < g.getD x 0
      · rw [if_pos h3]; simp only [h3]; rfl
      · rw [if_neg h3, if_pos (by omega)]; simp only [h3]; rfl
    · rw [hc, hd, if_neg (by omega), if_neg (by omega)]
  · obtain rfl : x = n := by omega
    have e : cmpL (f.map fun x : Nat => (x : Int)) (g.map fun x : Nat => (x : Int)) = 0 := by
      rw [hc, List.drop_of_length_le (by omega), List.drop_of_length_le (by omega)]; rfl
    refine Kv.Fin.still ⟨?_, rfl⟩
    unfold ltM; rw [e]; rfl
end Go.Proofs.YtpfapiiinkkcgaaGreat
end
section
/- Least forms of maps: both sides of LeastForm and AreSameShape. -/
namespace Go.Proofs.YtpfapiiinkkcgaaGreat
open Go.Kv
set_option maxRecDepth 100000
/- impl.leastForm -/
/- live [2, 4, 5, 10, 11, 12] -/
/- spec.l09Least -/
/- live [1, 2, 4, 5, 6] -/
/- impl.LeastForm -/
/- spec.LeastForm -/
/- impl.AreSameShape -/
/- spec.AreSameShape -/
/- impl.pairCode -/
def k117 : KC := (.seq (.ops [⟨(some 2), none, .box true (.t 0)⟩, ⟨(some 3), none, .box true (.t 1)⟩, ⟨(some 4), none, .mv (.c (.int .i64 0))⟩])
  (.seq (.block 0 (.seq (.ops [⟨(some 6), none, .load true 6 (.t 2)⟩, ⟨(some 7), none, .call (.c (.fn (.func 85) [] [])) [(.t 6)]⟩, ⟨(some 8), none, .not (.t 7)⟩, ⟨(some 9), none, .mv (.t 8)⟩, ⟨(some 10), some (9, false), .load true 6 (.t 3)⟩, ⟨(some 11), some (9, false), .call (.c (.fn (.func 85) [] [])) [(.t 10)]⟩, ⟨(some 12), some (9, false), .not (.t 11)⟩, ⟨(some 13), none, .pick (.t 9) (.c (.bool true)) (.t 12)⟩, ⟨(some 5), none, .mv (.t 13)⟩])
  (.cond (.t 5) (.seq (.ops [⟨(some 4), none, .mv (.c (.int .i64 1))⟩])
  .ret) (.seq (.ops [⟨(some 15), none, .fieldA 0 (.t 2)⟩, ⟨(some 16), none, .load false 1 (.t 15)⟩, ⟨(some 17), none, .fieldA 0 (.t 3)⟩, ⟨(some 18), none, .load false 1 (.t 17)⟩, ⟨(some 19), none, .bin .neq (.t 16) (.t 18)⟩, ⟨(some 14), none, .mv (.t 19)⟩])
  (.cond (.t 14) (.seq (.ops [⟨(some 4), none, .mv (.c (.int .i64 2))⟩])
  .ret) .skip)))))
  (.seq (.ops [⟨(some 4), none, .mv (.c (.int .i64 0))⟩])
  .ret)))
theorem e117 {args : List PV} {σ : Heap} {K : PV → Heap → Prop} (hl : args.length ≤ 20) (h : Wf σ → (∀ a ∈ args, PV.upto σ.length a) → vc (mkCfg Tryz.prog mixed [2, 3] 20 σ.length) k117 (FinK σ.length [.t 4] K) (argEnv 0 args) σ) : ACall Tryz.prog 117 args σ K :=
  ACall_enter (C := mkCfg Tryz.prog mixed [2, 3] 20 σ.length) (c := Tryz.f117.body.getD .skip) Tryz.func117 (by kernel_rfl) (by kernel_rfl) (by kernel_rfl) rfl hl (by kernel_rfl) (by kernel_rfl) h
/- spec.l01Like -/
end Go.Proofs.YtpfapiiinkkcgaaGreat
namespace Go.Proofs.YtpfapiiinkkcgaaGreat
open Go.Kv
set_option linter.unusedVariables false
set_option linter.unusedSimpArgs false
attribute [local irreducible] ACall PCall KL
def pcd (m k : List Int) : Int := if isM m = false ∨ isM k = false then 1 else if m.getD 0 0 = k.getD 0 0 then 0 else 2
theorem p117 (m k : List Int) (h6 : m.length = 6) (h6' : k.length = 6) : Pure Tryz.prog 117 [.agg (ints m), .agg (ints k)] (.int .i64 (pcd m k)) := by
  refine e117 (by simp) fun _ _ => ?_
  simp only [k117, argEnv, h6, h6', take6, List.drop_zero, Int.cast_ofNat_Int, go_sem, ↓reduceIte, Nat.reduceEqDiff, Nat.reduceAdd, Nat.reduceMul, Nat.reduceLeDiff, Nat.reduceLT, Int.reduceLE, Int.reduceLT, reduceCtorEq]
  refine (p85 m h6).go ?_
  cases hm : isM m with
  | false =>
    try simp only [take6, List.drop_zero, Int.cast_ofNat_Int, go_sem, ↓reduceIte, Nat.reduceEqDiff, Nat.reduceAdd, Nat.reduceMul, Nat.reduceLeDiff, Nat.reduceLT, Int.reduceLE, Int.reduceLT, reduceCtorEq]
    exact Kv.Fin.still ⟨by simp [pcd, hm], rfl⟩
  | true =>
    try simp only [h6, h6', take6, List.drop_zero, Int.cast_ofNat_Int, go_sem, ↓reduceIte, Nat.reduceEqDiff, Nat.reduceAdd, Nat.reduceMul, Nat.reduceLeDiff, Nat.reduceLT, Int.reduceLE, Int.reduceLT, reduceCtorEq]
    refine (p85 k h6').go ?_
    cases hk : isM k with
    | false =>
      try simp only [take6, List.drop_zero, Int.cast_ofNat_Int, go_sem, ↓reduceIte, Nat.reduceEqDiff, Nat.reduceAdd, Nat.reduceMul, Nat.reduceLeDiff, Nat.reduceLT, Int.reduceLE, Int.reduceLT, reduceCtorEq]
      exact Kv.Fin.still ⟨by simp [pcd, hk], rfl⟩
    | true =>
      try simp only [h6, h6', take6, List.drop_zero, Int.cast_ofNat_Int, go_sem, ↓reduceIte, Nat.reduceEqDiff, Nat.reduceAdd, Nat.reduceMul, Nat.reduceLeDiff, Nat.reduceLT, Int.reduceLE, Int.reduceLT, reduceCtorEq]
      have e : pcd m k = if m.getD 0 0 = k.getD 0 0 then 0 else 2 := by unfold pcd; rw [if_neg (by simp [hm, hk])]
      exact ⟨fun h => Kv.Fin.still ⟨by rw [e, if_neg h], rfl⟩, fun h => Kv.Fin.still ⟨by rw [e, if_pos h], rfl⟩⟩
end Go.Proofs.YtpfapiiinkkcgaaGreat
end
section
/- The classes of maps: plain laws. -/
namespace Go.Proofs.YtpfapiiinkkcgaaGreat
open Go.Kv
set_option maxRecDepth 100000
end Go.Proofs.YtpfapiiinkkcgaaGreat
namespace Go.Proofs.YtpfapiiinkkcgaaGreat
open Go.Kv
set_option linter.unusedVariables false
set_option linter.unusedSimpArgs false
attribute [local irreducible] ACall PCall KL
/-- The number of a map. -/
def nbl (n : Nat) : List Nat → Nat
  | [] => 0
  | a :: r => a * n ^ r.length + nbl n r
theorem nbl_lt {n : Nat} : ∀ {l : List Nat}, (∀ x ∈ l, x < n) → nbl n l < n ^ l.length
  | [], _ => by simp [nbl]
  | a :: r, h => by
    have h1 := nbl_lt (l := r) fun x hx => h x (by simp [hx])
    have h2 := h a (by simp)
    simp only [nbl, List.length_cons, Nat.pow_succ]
    have h3 : (a + 1) * n ^ r.length ≤ n * n ^ r.length := Nat.mul_le_mul_right _ h2
    rw [Nat.succ_mul] at h3
    rw [Nat.mul_comm (n ^ r.length) n]
    omega
theorem cmp_nbl {n : Nat} : ∀ (f g : List Nat), f.length = g.length → (∀ x ∈ f, x < n) → (∀ x ∈ g, x < n) → (cmpL (f.map fun x : Nat => (x : Int)) (g.map fun x : Nat => (x : Int)) < 0 ↔ nbl n f < nbl n g)
  | [], [], _, _, _ => by simp [cmpL]
  | [], _ :: _, h, _, _ => by simp at h
  | _ :: _, [], h, _, _ => by simp at h
  | a :: r, b :: s, h, hf, hg => by
    have hl : r.length = s.length := by simpa using h
    have ih := cmp_nbl r s hl (fun x hx => hf x (by simp [hx])) (fun x hx => hg x (by simp [hx]))
    have h1 := nbl_lt (l := r) fun x hx => hf x (by simp [hx])
    have h2 := nbl_lt (l := s) fun x hx => hg x (by simp [hx])
    simp only [List.map_cons, cmpL, nbl]
    rw [hl] at h1 ⊢
    by_cases e1 : a < b
    · have h3 : (a + 1) * n ^ s.length ≤ b * n ^ s.length := Nat.mul_le_mul_right _ e1
      rw [Nat.succ_mul] at h3
      rw [if_pos (by omega)]
      constructor
      · intro _; omega
      · intro _; omega
    · by_cases e2 : b < a
      · have h3 : (b + 1) * n ^ s.length ≤ a * n ^ s.length := Nat.mul_le_mul_right _ e2
        rw [Nat.succ_mul] at h3
        rw [if_neg (by omega), if_pos (by omega)]
        constructor
        · intro h; omega
        · intro _; omega
      · obtain rfl : a = b := by omega
        rw [if_neg (by omega), if_neg (by omega), ih]
        omega
theorem ltM_nbl {f g : List Nat} {n : Nat} (hf : Ok f n) (hg : Ok g n) : ltM f g = true ↔ nbl n f < nbl n g := by
  unfold ltM
  rw [decide_eq_true_iff]
  exact cmp_nbl f g (by rw [hf.len, hg.len]) hf.lt hg.lt
theorem nbl_dg {n : Nat} (hn : 1 ≤ n) : ∀ j k, nbl n (dg n j k) = k % n ^ j
  | 0, k => by simp [dg, nbl, Nat.mod_one]
  | j + 1, k => by
    simp only [dg, nbl, dg_length, nbl_dg hn j k]
    rw [Nat.pow_succ, Nat.mod_mul, Nat.mul_comm, Nat.add_comm]
theorem nbl_at {n k : Nat} (hn : 1 ≤ n) (hk : k < n ^ n) : nbl n (dg n n k) = k := by rw [nbl_dg hn, Nat.mod_eq_of_lt hk]
theorem dg_nbl {n : Nat} {f : List Nat} (hf : Ok f n) : nbl n f < n ^ n ∧ dg n n (nbl n f) = f := by
  have h := allM_mem hf.pos hf.len hf.lt
  simp only [allM, List.mem_map, List.mem_range] at h
  obtain ⟨k, hk, rfl⟩ := h
  rw [nbl_at hf.pos hk]
  exact ⟨hk, rfl⟩
theorem nbl_inj {n : Nat} {f g : List Nat} (hf : Ok f n) (hg : Ok g n) (h : nbl n f = nbl n g) : f = g := by
  rw [← (dg_nbl hf).2, h, (dg_nbl hg).2]
end Go.Proofs.YtpfapiiinkkcgaaGreat
end
