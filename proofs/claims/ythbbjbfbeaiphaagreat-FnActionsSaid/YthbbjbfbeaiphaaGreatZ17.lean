/- Several texts of this session as one, less what the claim does not need. -/
import Derived.Test.YthbbjbfbeaiphaaGreatZ16
section
namespace Go.Proofs.YthbbjbfbeaiphaaGreat
open Go.Kv
set_option linter.unusedVariables false
set_option linter.unusedSimpArgs false
attribute [local irreducible] ACall PCall KL
attribute [local go_sem] take6 List.drop_zero Int.cast_ofNat_Int OpK_eq HKv bne_self_eq_false decide_true Bool.not_true beq_self_eq_true Bool.not_false
section
variable {K : PV → Heap → Prop}
theorem rest20 {a : List (List Int)} {P Q w : List Int} {c5 : Int} (hQ : Q.length ≤ 6) (hc : c5 = 0 → ∃ m : List Int, m.length = 6 ∧ Pure Tryz.prog 43 [.list (aggs a), .list (ints w)] (.tup [.agg (ints m), .int .i64 0]) ∧ Pure Tryz.prog 44 [.agg (ints m), .list (ints P)] (.tup [.list (ints Q), .int .i64 0])) {env : Env} {σ : Heap}
  (u21 : Kv.look env 21 = .list (aggs a)) (u22 : Kv.look env 22 = .list (ints P)) (u23 : Kv.look env 23 = .list (ints Q)) (u24 : Kv.look env 24 = .list (ints w)) (u25 : Kv.look env 25 = .int .i64 c5) {u3 u4 u5 u6 u9 u10 u13 u14 u17 u18 u34 u35 : PV} (h3 : Kv.look env 3 = u3) (h4 : Kv.look env 4 = u4) (h5 : Kv.look env 5 = u5) (h6 : Kv.look env 6 = u6) (h9 : Kv.look env 9 = u9) (h10 : Kv.look env 10 = u10) (h13 : Kv.look env 13 = u13) (h14 : Kv.look env 14 = u14) (h17 : Kv.look env 17 = u17) (h18 : Kv.look env 18 = u18) (h34 : Kv.look env 34 = u34) (h35 : Kv.look env 35 = u35)
  (hr : ∀ (env : Env) (σ : Heap), Kv.look env 3 = u3 → Kv.look env 4 = u4 → Kv.look env 5 = u5 → Kv.look env 6 = u6 → Kv.look env 9 = u9 → Kv.look env 10 = u10 → Kv.look env 13 = u13 → Kv.look env 14 = u14 → Kv.look env 17 = u17 → Kv.look env 18 = u18 → Kv.look env 34 = u34 → Kv.look env 35 = u35 → Rest K 21 env σ) : Rest K 20 env σ := by
 unfold Rest at hr ⊢
 rw [show drK 20 k4 = upK 1 (drK 20 k4) (drK 21 k4) from rfl]
 generalize drK 21 k4 = t at hr ⊢
 simp only [upK, hdK, drK, tlK, k4]
 by_cases h : c5 = 0
 ·obtain ⟨m, hm, i1, i2⟩ := hc h
  subst h
  have hi : (ints m).length = 6 := by rw [ints_length, hm]
  have hgb : ∀ (s : Heap) (a : AObj), (s ++ [a])[s.length]? = some a := fun s a => by simp
  have hsb : ∀ (s : Heap) (a b : AObj), (s ++ [a]).set s.length b = s ++ [b] := fun s a b => by simp [List.set_append_right]
  try simp only [u25, go_sem]
  try simp only [u21, u22, u23, u24, go_sem]
  refine i1.go ?_
  try simp only [u21, u22, u23, u24, hi, hm, hgb, hsb, go_sem]
  refine i2.go ?_
  try simp only [u21, u22, u23, u24, go_sem]
  refine (p9 Q (by omega)).go ?_
  try simp only [go_sem]
  exact hr _ _ (by simp [h3]) (by simp [h4]) (by simp [h5]) (by simp [h6]) (by simp [h9]) (by simp [h10]) (by simp [h13]) (by simp [h14]) (by simp [h17]) (by simp [h18]) (by simp [h34]) (by simp [h35])
 ·try simp only [u25, h, decide_false, go_sem]
  exact hr _ _ (by simp [h3]) (by simp [h4]) (by simp [h5]) (by simp [h6]) (by simp [h9]) (by simp [h10]) (by simp [h13]) (by simp [h14]) (by simp [h17]) (by simp [h18]) (by simp [h34]) (by simp [h35])
end
end Go.Proofs.YthbbjbfbeaiphaaGreat
end
section
namespace Go.Proofs.YthbbjbfbeaiphaaGreat
open Go.Kv
set_option linter.unusedVariables false
set_option linter.unusedSimpArgs false
attribute [local irreducible] ACall PCall KL
attribute [local go_sem] take6 List.drop_zero Int.cast_ofNat_Int OpK_eq HKv bne_self_eq_false decide_true Bool.not_true beq_self_eq_true Bool.not_false
def thK : KC → KC
 | .cond _ a _ => a
 | k => k
def opsK : KC → List KO
 | .ops l => l
 | _ => []
theorem vOps_app {P : Program} {Q : Exit → Env → Heap → Prop} (l2 : List KO) : ∀ (l1 : List KO) (env : Env) (σ : Heap), vOps P (l1 ++ l2) Q env σ = vOps P l1 (fun _ env σ => vOps P l2 Q env σ) env σ
 | [], env, σ => rfl
 | o :: l1, env, σ => by
  simp only [List.cons_append, vOps, vOps_app l2 l1]
def C21 : KC := drK 2 (thK (tlK (hdK (drK 21 k4))))
def L21 : List KO := opsK (hdK (hdK C21))
section
variable {Q : Exit → Env → Heap → Prop} {env : Env} {σ : Heap} {v3 v4 v5 v6 v17 : PV}
theorem sgC {T7 : List (List Int)} (h7 : decide ((T7.length : Int) = 0) = false) (u3 : Kv.look env 3 = v3) (u4 : Kv.look env 4 = v4) (u5 : Kv.look env 5 = v5) (u6 : Kv.look env 6 = v6) (u17 : Kv.look env 17 = v17) (u34 : Kv.look env 34 = .list (rows T7)) (u35 : Kv.look env 35 = .int .i64 0) (u298 : Kv.look env 298 = .bool false)
  (hr : ∀ env : Env, Kv.look env 3 = v3 → Kv.look env 4 = v4 → Kv.look env 5 = v5 → Kv.look env 6 = v6 → Kv.look env 17 = v17 → Kv.look env 34 = .list (rows T7) → Kv.look env 306 = .bool false → Q .normal env σ) : vOps Tryz.prog (L21.drop 29) Q env σ := by
 simp only [L21, opsK, C21, thK, hdK, drK, tlK, k4, List.drop_succ_cons]
 try simp only [u34, u35, u298, h7, go_sem]
 exact hr _ (by simp [u3]) (by simp [u4]) (by simp [u5]) (by simp [u6]) (by simp [u17]) (by simp [u34]) (by simp)
theorem sgB {T4 : List (List Int)} {g : Bool} (h4 : decide ((T4.length : Int) = 1) = g) {v34 v35 : PV} (u3 : Kv.look env 3 = v3) (u4 : Kv.look env 4 = v4) (u5 : Kv.look env 5 = v5) (u6 : Kv.look env 6 = v6) (u13 : Kv.look env 13 = .bool g) (u17 : Kv.look env 17 = .list (rows T4)) (u18 : Kv.look env 18 = .int .i64 0) (u34 : Kv.look env 34 = v34) (u35 : Kv.look env 35 = v35) (u286 : Kv.look env 286 = .bool false)
  (hr : ∀ env : Env, Kv.look env 3 = v3 → Kv.look env 4 = v4 → Kv.look env 5 = v5 → Kv.look env 6 = v6 → Kv.look env 17 = .list (rows T4) → Kv.look env 34 = v34 → Kv.look env 35 = v35 → Kv.look env 298 = .bool false → vOps Tryz.prog (L21.drop 29) Q env σ) : vOps Tryz.prog (L21.drop 17) Q env σ := by
 have hC : L21.drop 17 = (L21.drop 17).take 12 ++ L21.drop 29 := by
  have := (List.take_append_drop 12 (L21.drop 17)).symm
  rwa [List.drop_drop] at this
 rw [hC, vOps_app]
 generalize L21.drop 29 = t at hr ⊢
 simp only [L21, opsK, C21, thK, hdK, drK, tlK, k4, List.drop_succ_cons, List.drop_zero, List.take_succ_cons, List.take_zero]
 cases g
 all_goals (try simp only [u13, u17, u18, u286, h4, go_sem] )
 all_goals exact hr _ (by simp [u3]) (by simp [u4]) (by simp [u5]) (by simp [u6]) (by simp [u17]) (by simp [u34]) (by simp [u35]) (by simp)
theorem sgA {a T2 : List (List Int)} {n : Nat} {g : Bool} (ha0 : 0 < a.length) (h60 : (a.getD 0 []).length = 6) (hn : (a.getD 0 []).getD 0 0 = (n : Int)) (h2 : decide ((T2.length : Int) = 1) = g) {v18 v34 v35 : PV} (u3 : Kv.look env 3 = .list (aggs a)) (u4 : Kv.look env 4 = v4) (u5 : Kv.look env 5 = v5) (u6 : Kv.look env 6 = v6) (u9 : Kv.look env 9 = .list (rows T2)) (u13 : Kv.look env 13 = .bool g) (u14 : Kv.look env 14 = .int .i64 0) (u17 : Kv.look env 17 = v17) (u18 : Kv.look env 18 = v18) (u34 : Kv.look env 34 = v34) (u35 : Kv.look env 35 = v35) (u44 : Kv.look env 44 = .int .i64 n)
  (hr : ∀ env : Env, Kv.look env 3 = .list (aggs a) → Kv.look env 4 = v4 → Kv.look env 5 = v5 → Kv.look env 6 = v6 → Kv.look env 13 = .bool g → Kv.look env 17 = v17 → Kv.look env 18 = v18 → Kv.look env 34 = v34 → Kv.look env 35 = v35 → Kv.look env 286 = .bool false → vOps Tryz.prog (L21.drop 17) Q env σ) : vOps Tryz.prog L21 Q env σ := by
 have ha0' : (0 : Int) < (a.length : Int) := by omega
 have hC : L21 = L21.take 17 ++ L21.drop 17 := (List.take_append_drop 17 L21).symm
 rw [hC, vOps_app]
 generalize L21.drop 17 = t at hr ⊢
 simp only [L21, opsK, C21, thK, hdK, drK, tlK, k4, List.take_succ_cons, List.take_zero]
 cases g
 all_goals (try simp only [u3, u9, u13, u14, u44, ha0', ha0, h60, hn, h2, aggs_length, true_implies, true_and, go_sem] )
 all_goals exact hr _ (by simp [u3]) (by simp [u4]) (by simp [u5]) (by simp [u6]) (by simp [u13]) (by simp [u17]) (by simp [u18]) (by simp [u34]) (by simp [u35]) (by simp)
theorem chain21 {a : List (List Int)} {T2 T4 T7 : List (List Int)} {n : Nat} {g : Bool} (ha0 : 0 < a.length) (h60 : (a.getD 0 []).length = 6) (hn : (a.getD 0 []).getD 0 0 = (n : Int)) (h2 : decide ((T2.length : Int) = 1) = g) (h4 : decide ((T4.length : Int) = 1) = g) (h7 : decide ((T7.length : Int) = 0) = false)
  (u3 : Kv.look env 3 = .list (aggs a)) (u9 : Kv.look env 9 = .list (rows T2)) (u13 : Kv.look env 13 = .bool g) (u14 : Kv.look env 14 = .int .i64 0) (u17 : Kv.look env 17 = .list (rows T4)) (u18 : Kv.look env 18 = .int .i64 0) (u34 : Kv.look env 34 = .list (rows T7)) (u35 : Kv.look env 35 = .int .i64 0) (u44 : Kv.look env 44 = .int .i64 n)
  (u4 : Kv.look env 4 = v4) (u5 : Kv.look env 5 = v5) (u6 : Kv.look env 6 = v6)
  (hr : ∀ (env : Env), Kv.look env 3 = .list (aggs a) → Kv.look env 4 = v4 → Kv.look env 5 = v5 → Kv.look env 6 = v6 → Kv.look env 17 = .list (rows T4) → Kv.look env 34 = .list (rows T7) → vc (mkCfg Tryz.prog mixed [] 357 0) (tlK C21) Q env σ) : vc (mkCfg Tryz.prog mixed [] 357 0) C21 Q env σ := by
 have hC : C21 = .seq (.seq (.ops L21) (tlK (hdK C21))) (tlK C21) := by simp only [L21, opsK, C21, thK, hdK, drK, tlK, k4]
 rw [hC, vc_seq', vc_seq']
 refine sgA ha0 h60 hn h2 u3 u4 u5 u6 u9 u13 u14 u17 u18 u34 u35 u44 fun env u3 u4 u5 u6 u13 u17 u18 u34 u35 u286 => ?_
 refine sgB h4 u3 u4 u5 u6 u13 u17 u18 u34 u35 u286 fun env u3 u4 u5 u6 u17 u34 u35 u298 => ?_
 refine sgC h7 u3 u4 u5 u6 u17 u34 u35 u298 fun env u3 u4 u5 u6 u17 u34 u306 => ?_
 generalize tlK C21 = t at hr ⊢
 simp only [C21, thK, hdK, drK, tlK, k4]
 try simp only [u306, go_sem]
 exact hr _ u3 u4 u5 u6 u17 u34
theorem ideal21 {a T7 : List (List Int)} {V : PV} {c : Int} (hV : Still V) (h71 : 1 ≤ T7.length) (iI : Pure Tryz.prog 45 [.list (aggs a)] (.tup [V, .int .i64 c]))
  (hcI : c = 0 → ∃ A : List (List Nat), V = .list (aggs (A.map mp)) ∧ 1 ≤ A.length ∧ (A.map mp).getD 0 [] = mp (A.getD 0 []) ∧ (mp (A.getD 0 [])).length = 6 ∧ Pure Tryz.prog 46 [.agg (ints (mp (A.getD 0 [])))] (.tup [.int .i64 (T7.getD 0 []).length, .int .i64 0]))
  (u3 : Kv.look env 3 = .list (aggs a)) (u4 : Kv.look env 4 = v4) (u5 : Kv.look env 5 = v5) (u6 : Kv.look env 6 = v6) (u17 : Kv.look env 17 = v17) (u34 : Kv.look env 34 = .list (rows T7))
  (hr : ∀ (env : Env), Kv.look env 4 = v4 → Kv.look env 5 = v5 → Kv.look env 6 = v6 → Kv.look env 17 = v17 → Q .normal env σ) : vc (mkCfg Tryz.prog mixed [] 357 0) (tlK C21) Q env σ := by
 simp only [C21, thK, hdK, drK, tlK, k4]
 try simp only [u3, go_sem]
 refine iI.go ?_
 have h70 : 0 < T7.length := h71
 have h70' : (0 : Int) < (T7.length : Int) := by omega
 by_cases h : c = 0
 ·obtain ⟨A, rfl, hA, g1, g2, iR⟩ := hcI h
  subst h
  have hA0 : 0 < A.length := hA
  have hA0' : (0 : Int) < (A.length : Int) := by omega
  try simp only [u34, hA0, hA0', g1, g2, aggs_length, List.length_map, true_implies, true_and, go_sem]
  refine iR.go ?_
  try simp only [u34, h70, h70', true_implies, true_and, go_sem]
  exact hr _ (by simp [u4]) (by simp [u5]) (by simp [u6]) (by simp [u17])
 ·try simp only [h, decide_false, go_sem]
  exact hr _ (by simp [u4]) (by simp [u5]) (by simp [u6]) (by simp [u17])
end
end Go.Proofs.YthbbjbfbeaiphaaGreat
end
section
namespace Go.Proofs.YthbbjbfbeaiphaaGreat
open Go.Kv
set_option linter.unusedVariables false
set_option linter.unusedSimpArgs false
attribute [local irreducible] ACall PCall KL
attribute [local go_sem] take6 List.drop_zero Int.cast_ofNat_Int OpK_eq HKv bne_self_eq_false decide_true Bool.not_true beq_self_eq_true Bool.not_false
section
variable {K : PV → Heap → Prop}
set_option maxHeartbeats 2000000 in
theorem rest21 {a : List (List Int)} (hI : ∀ fs n, Lst a fs n → ∃ (V : PV) (c : Int), Still V ∧ Pure Tryz.prog 45 [.list (aggs a)] (.tup [V, .int .i64 c]) ∧ (c = 0 → ∃ (A : List (List Nat)) (r : Int), V = .list (aggs (A.map mp)) ∧ 1 ≤ A.length ∧ (A.map mp).getD 0 [] = mp (A.getD 0 []) ∧ (mp (A.getD 0 [])).length = 6 ∧ Pure Tryz.prog 46 [.agg (ints (mp (A.getD 0 [])))] (.tup [.int .i64 r, .int .i64 0]) ∧ r = ((pof ((imS fs n (2 ^ n - 1)).getD 0 0) 62).length : Int)))
  {V4 V7 : PV} {c4 c7 : Int} (h6 : Mp6 a) (hc4 : (c4 = 0 ∧ ∃ fs n, Lst a fs n ∧ V4 = .list (rows (rowsB (insS fs n (2 ^ n)))) ∧ (insS fs n (2 ^ n)).length ≤ 32 ∧ ∀ r ∈ rowsB (insS fs n (2 ^ n)), r.length ≤ 5) ∨ (c4 = lcode a [] ∧ c4 ≠ 0 ∧ V4 = .nils))
  (hc7 : (c7 = 0 ∧ ∃ fs n T, Lst a fs n ∧ V7 = .list (rows T) ∧ 1 ≤ T.length ∧ T.length ≤ 32 ∧ (T.getD 0 []).length = (pof ((imS fs n (2 ^ n - 1)).getD 0 0) 62).length) ∨ (c7 = lcode a [] ∧ c7 ≠ 0 ∧ V7 = .nils))
  {env : Env} {σ : Heap} (u3 : Kv.look env 3 = .list (aggs a)) (u9 : Kv.look env 9 = .list (rows (spc a))) (u10 : Kv.look env 10 = .int .i64 (lcode a [])) (u13 : Kv.look env 13 = .bool (trn a)) (u14 : Kv.look env 14 = .int .i64 (lcode a [])) (u17 : Kv.look env 17 = V4) (u18 : Kv.look env 18 = .int .i64 c4) (u34 : Kv.look env 34 = V7) (u35 : Kv.look env 35 = .int .i64 c7)
  {u4 u5 u6 : PV} (h4 : Kv.look env 4 = u4) (h5 : Kv.look env 5 = u5) (h6' : Kv.look env 6 = u6)
  (hr : ∀ (env : Env) (σ : Heap), Kv.look env 4 = u4 → Kv.look env 5 = u5 → Kv.look env 6 = u6 → Kv.look env 17 = V4 → Rest K 22 env σ) : Rest K 21 env σ := by
 unfold Rest at hr ⊢
 have hX : drK 21 k4 = .seq (.seq (.ops [mV 255 10, oP 256 (.bin .eql (.t 255) (iC 0))]) (.cond (.t 256) (.seq (.ops [oP 44 (.mv (iC 0))]) (.seq (.seq (.ops [oP 45 (.mv (iC 0))]) (.block 2 (.loop k4_b1))) C21)) .skip)) (drK 22 k4) := by simp only [C21, thK, hdK, drK, tlK, k4]
 rw [hX]
 generalize drK 22 k4 = t at hr ⊢
 by_cases h : lcode a [] = 0
 ·rcases hc4 with ⟨rfl, fs, n, hL, rfl, b1, b2⟩ | ⟨e1, e2, _⟩
  rotate_left
  exact absurd (e1.trans h) e2
  rcases hc7 with ⟨rfl, gs, m, T7, hL', rfl, d1, d2, d3⟩ | ⟨e1, e2, _⟩
  rotate_left
  exact absurd (e1.trans h) e2
  obtain ⟨rfl, rfl⟩ := lst_uniq hL hL'
  obtain ⟨VI, cI, hVI, iI, hcI⟩ := hI fs n hL
  have htot := strong_tot hL.ok hL.n5
  have hT2l := strong_len fs n
  have hti := trn_ins hL.n1 hL.n5 hL.ok
  have hsp : spc a = strong fs n := by
   have := spc_in hL.hl (by rw [← hL.eq]; exact hL.hn)
   rwa [← hL.eq] at this
  have htr : trn a = decide ((strong fs n).length = 1) := by unfold trn; rw [h, hsp]; simp
  rw [hsp] at u9
  rw [htr] at u13
  rw [h] at u10 u14
  have ha0 : 0 < a.length := by have := hL.l1; have := congrArg List.length hL.eq; simp at this; omega
  have h60 : (a.getD 0 []).length = 6 := h6 _ (getD_memR ha0)
  have hn := hL.hn
  have hn5 := hL.n5
  generalize strong fs n = T2 at *
  generalize hT4 : insS fs n (2 ^ n) = S4 at *
  try simp only [u10, go_sem]
  refine KL_ind k4_b1.eq_1 (fun x : Nat × Nat => [(3, .list (aggs a)), (4, u4), (5, u5), (6, u6), (9, .list (rows T2)), (13, .bool (decide (T2.length = 1))), (14, .int .i64 0), (17, .list (rows (rowsB S4))), (18, .int .i64 0), (34, .list (rows T7)), (35, .int .i64 0), (44, .int .i64 x.2), (45, .int .i64 x.1)]) (fun _ => σ) (fun x => x.1 ≤ T2.length ∧ x.2 + ((T2.drop x.1).map List.length).sum = n) (fun x => T2.length - x.1) [3, 4, 5, 6, 9, 13, 14, 17, 18, 34, 35, 44, 45] (0, 0) (by simp [keep, u3, h4, h5, h6', u9, u13, u14, u17, u18, u34, u35]) rfl ⟨Nat.zero_le _, by simpa using htot⟩ fun ⟨x, s⟩ ⟨hx, hs⟩ ih => ?_
  simp only at hx hs
  by_cases g1 : x < T2.length
  ·have g1' : (x : Int) < (T2.length : Int) := by omega
   have hgx : T2.getD x [] = T2[x] := by simp [List.getD_eq_getElem?_getD, g1]
   rw [List.drop_eq_getElem_cons g1, List.map_cons, List.sum_cons] at hs
   try simp only [g1', g1, hgx, true_implies, true_and, and_true, not_true_eq_false, false_implies, go_sem]
   exact ⟨by omega, by omega, ih (x + 1, s + T2[x].length) ⟨by show x + 1 ≤ T2.length; omega, by show s + T2[x].length + ((T2.drop (x + 1)).map List.length).sum = n; omega⟩ (by show T2.length - (x + 1) < T2.length - x; omega) _ _ (by simp [keep]) rfl⟩
  ·obtain rfl : x = T2.length := by omega
   obtain rfl : s = n := by simpa using hs
   have h4l : (rowsB S4).length = S4.length := by simp [rowsB]
   have hge : ¬ ((T2.length : Int) < (T2.length : Int)) := by omega
   have h7f : decide ((T7.length : Int) = 0) = false := decide_eq_false (by omega)
   obtain ⟨gb, g0, g2, g4⟩ : ∃ gb : Bool, decide (T2.length = 1) = gb ∧ decide ((T2.length : Int) = 1) = gb ∧ decide (((rowsB S4).length : Int) = 1) = gb := by
    refine ⟨decide (T2.length = 1), rfl, decide_eq_decide.2 (by omega), ?_⟩
    rw [h4l]
    exact decide_eq_decide.2 ⟨fun e => hti.2 (by omega), fun e => by have := hti.1 e; omega⟩
   try simp only [hge, decide_false, go_sem]
   refine chain21 ha0 h60 hn g2 g4 h7f (by simp) (by simp) (by simp [g0]) (by simp) (by simp) (by simp) (by simp) (by simp) (by simp) (by simp; rfl) (by simp; rfl) (by simp; rfl) fun env w3 w4 w5 w6 w17 w34 => ?_
   refine ideal21 hVI d1 iI (fun e => ?_) w3 w4 w5 w6 w17 w34 fun env w4 w5 w6 w17 => ?_
   ·obtain ⟨A, r, x1, x2, x3, x4, x5, x6⟩ := hcI e
    refine ⟨A, x1, x2, x3, x4, ?_⟩
    rw [d3, ← x6]; exact x5
   ·exact hr _ _ w4 w5 w6 w17
 ·try simp only [u10, h, decide_false, go_sem]
  exact hr _ _ (by simp [h4]) (by simp [h5]) (by simp [h6']) (by simp [u17])
end
end Go.Proofs.YthbbjbfbeaiphaaGreat
end
section
namespace Go.Proofs.YthbbjbfbeaiphaaGreat
open Go.Kv
set_option linter.unusedVariables false
set_option linter.unusedSimpArgs false
attribute [local irreducible] ACall PCall KL
attribute [local go_sem] take6 List.drop_zero Int.cast_ofNat_Int OpK_eq HKv bne_self_eq_false decide_true Bool.not_true beq_self_eq_true Bool.not_false
theorem take_in {α : Type} [DecidableEq α] {T : List α} {a : α} {x : Nat} (h : x < T.length) : a ∈ T.take (x + 1) ↔ a ∈ T.take x ∨ a = T[x] := by
 rw [List.take_succ_eq_append_getElem h, List.mem_append, List.mem_singleton]
section
variable {K : PV → Heap → Prop}
theorem rest22 (hK : K (.bool true) []) {V1 : PV} {c1 p : Int} {T4 : List (List Int)} (hc : (c1 = 0 ∧ ∃ l1 : List Int, V1 = .list (ints l1) ∧ l1.length ≤ 5 ∧ p ∈ l1 ∧ l1 ∈ T4 ∧ T4.length ≤ 32 ∧ ∀ r ∈ T4, r.length ≤ 5) ∨ (c1 ≠ 0 ∧ V1 = .nils)) {V4 : PV} (h4 : c1 = 0 → V4 = .list (rows T4)) {env : Env} {σ : Heap}
  (u4 : Kv.look env 4 = .int .i64 p) (u5 : Kv.look env 5 = V1) (u6 : Kv.look env 6 = .int .i64 c1) (u17 : Kv.look env 17 = V4) : Rest K 22 env σ := by
 unfold Rest
 simp only [drK, tlK, k4]
 rcases hc with ⟨rfl, l1, rfl, q1, q2, q3, q4, q5⟩ | ⟨h, rfl⟩
 ·have h4 := h4 rfl
  subst h4
  try simp only [u6, go_sem]
  refine KL_ind k4_b2.eq_1 (fun x : Nat => [(4, .int .i64 p), (5, .list (ints l1)), (17, .list (rows T4)), (50, .bool (decide (l1 ∈ T4.take x))), (51, .int .i64 x)]) (fun _ => σ) (fun x => x ≤ T4.length) (fun x => T4.length - x) [4, 5, 17, 50, 51] 0 (by simp [keep, u4, u5, u17]) rfl (Nat.zero_le _) fun x hx ih => ?_
  have hI := p47 l1 (by omega) p
  rw [decide_eq_true q2] at hI
  try simp only [go_sem]
  refine ⟨fun g1 => ?_, fun g1 => ?_⟩
  ·have hxl : x < T4.length := by omega
   have hgx : T4.getD x [] = T4[x] := by simp [List.getD_eq_getElem?_getD, hxl]
   have hrx := q5 _ (List.getElem_mem hxl)
   have hin := take_in (a := l1) hxl
   rw [hgx]
   have hG := p9G T4[x] l1 (by omega) (by omega)
   refine ⟨fun g2 => ⟨g1, fun _ => hG.go ?_⟩, fun g2 => ?_⟩
   ·try simp only [go_sem]
    refine ⟨by omega, ih (x + 1) (by omega) (by omega) _ _ ?_ rfl⟩
    simp [keep, hin, g2, eq_comm]
   ·try simp only [go_sem]
    refine ⟨by omega, ih (x + 1) (by omega) (by omega) _ _ ?_ rfl⟩
    simp [keep, hin, g2]
  ·obtain rfl : x = T4.length := by omega
   rw [List.take_length]
   try simp only [q3, go_sem]
   refine hI.go ?_
   try simp only [go_sem]
   exact Kv.Fin.freeze .still hK
 ·try simp only [u5, u6, h, decide_false, go_sem]
  exact Kv.Fin.freeze .still hK
end
end Go.Proofs.YthbbjbfbeaiphaaGreat
end
section
namespace Go.Proofs.YthbbjbfbeaiphaaGreat
open Go.Kv
set_option linter.unusedVariables false
set_option linter.unusedSimpArgs false
attribute [local irreducible] ACall PCall KL
attribute [local go_sem] take6 List.drop_zero Int.cast_ofNat_Int OpK_eq HKv bne_self_eq_false decide_true Bool.not_true beq_self_eq_true Bool.not_false
section
variable {K : PV → Heap → Prop}
theorem rest19 {P : List Int} {V6 : PV} {c6 : Int} (hP : P.length ≤ 6) (hc : (c6 = 0 ∧ ∃ T, V6 = .list (rows T) ∧ P ∈ T ∧ T.length ≤ 32 ∧ ∀ r ∈ T, r.length ≤ 5) ∨ (c6 ≠ 0 ∧ V6 = .nils)) {env : Env} {σ : Heap} (u29 : Kv.look env 29 = .list (ints P)) (u30 : Kv.look env 30 = V6) (u31 : Kv.look env 31 = .int .i64 c6) {u3 u4 u5 u6 u9 u10 u13 u14 u17 u18 u21 u22 u23 u24 u25 u34 u35 : PV} (h3 : Kv.look env 3 = u3) (h4 : Kv.look env 4 = u4) (h5 : Kv.look env 5 = u5) (h6 : Kv.look env 6 = u6) (h9 : Kv.look env 9 = u9) (h10 : Kv.look env 10 = u10) (h13 : Kv.look env 13 = u13) (h14 : Kv.look env 14 = u14) (h17 : Kv.look env 17 = u17) (h18 : Kv.look env 18 = u18) (h21 : Kv.look env 21 = u21) (h22 : Kv.look env 22 = u22) (h23 : Kv.look env 23 = u23) (h24 : Kv.look env 24 = u24) (h25 : Kv.look env 25 = u25) (h34 : Kv.look env 34 = u34) (h35 : Kv.look env 35 = u35)
  (hr : ∀ (env : Env) (σ : Heap), Kv.look env 3 = u3 → Kv.look env 4 = u4 → Kv.look env 5 = u5 → Kv.look env 6 = u6 → Kv.look env 9 = u9 → Kv.look env 10 = u10 → Kv.look env 13 = u13 → Kv.look env 14 = u14 → Kv.look env 17 = u17 → Kv.look env 18 = u18 → Kv.look env 21 = u21 → Kv.look env 22 = u22 → Kv.look env 23 = u23 → Kv.look env 24 = u24 → Kv.look env 25 = u25 → Kv.look env 34 = u34 → Kv.look env 35 = u35 → Rest K 20 env σ) : Rest K 19 env σ := by
 unfold Rest at hr ⊢
 rw [show drK 19 k4 = upK 1 (drK 19 k4) (drK 20 k4) from rfl]
 generalize drK 20 k4 = t at hr ⊢
 simp only [upK, hdK, drK, tlK, k4]
 rcases hc with ⟨rfl, T, rfl, q3, q4, q5⟩ | ⟨h, rfl⟩
 ·try simp only [u31, go_sem]
  refine KL_ind k4_b0.eq_1 (fun x : Nat => [(3, u3), (4, u4), (5, u5), (6, u6), (9, u9), (10, u10), (13, u13), (14, u14), (17, u17), (18, u18), (21, u21), (22, u22), (23, u23), (24, u24), (25, u25), (29, .list (ints P)), (30, .list (rows T)), (34, u34), (35, u35), (38, .bool (decide (P ∈ T.take x))), (39, .int .i64 x)]) (fun _ => σ) (fun x => x ≤ T.length) (fun x => T.length - x) [3, 4, 5, 6, 9, 10, 13, 14, 17, 18, 21, 22, 23, 24, 25, 29, 30, 34, 35, 38, 39] 0 (by simp [keep, h3, h4, h5, h6, h9, h10, h13, h14, h17, h18, h21, h22, h23, h24, h25, h34, h35, u29, u30]) rfl (Nat.zero_le _) fun x hx ih => ?_
  try simp only [go_sem]
  refine ⟨fun g1 => ?_, fun g1 => ?_⟩
  ·have hxl : x < T.length := by omega
   have hgx : T.getD x [] = T[x] := by simp [List.getD_eq_getElem?_getD, hxl]
   have hrx := q5 _ (List.getElem_mem hxl)
   have hin := take_in (a := P) hxl
   rw [hgx]
   have hG := p9G T[x] P (by omega) (by omega)
   refine ⟨fun g2 => ⟨g1, fun _ => hG.go ?_⟩, fun g2 => ?_⟩
   ·try simp only [go_sem]
    refine ⟨by omega, ih (x + 1) (by omega) (by omega) _ _ ?_ rfl⟩
    simp [keep, hin, g2, eq_comm]
   ·try simp only [go_sem]
    refine ⟨by omega, ih (x + 1) (by omega) (by omega) _ _ ?_ rfl⟩
    simp [keep, hin, g2]
  ·obtain rfl : x = T.length := by omega
   rw [List.take_length]
   try simp only [q3, go_sem]
   exact hr _ _ (by simp) (by simp) (by simp) (by simp) (by simp) (by simp) (by simp) (by simp) (by simp) (by simp) (by simp) (by simp) (by simp) (by simp) (by simp) (by simp) (by simp)
 ·try simp only [u31, h, decide_false, go_sem]
  exact hr _ _ (by simp [h3]) (by simp [h4]) (by simp [h5]) (by simp [h6]) (by simp [h9]) (by simp [h10]) (by simp [h13]) (by simp [h14]) (by simp [h17]) (by simp [h18]) (by simp [h21]) (by simp [h22]) (by simp [h23]) (by simp [h24]) (by simp [h25]) (by simp [h34]) (by simp [h35])
end
end Go.Proofs.YthbbjbfbeaiphaaGreat
end
section
namespace Go.Proofs.YthbbjbfbeaiphaaGreat
open Go.Kv
set_option linter.unusedVariables false
set_option linter.unusedSimpArgs false
attribute [local irreducible] ACall PCall KL
attribute [local go_sem] take6 List.drop_zero Int.cast_ofNat_Int OpK_eq HKv bne_self_eq_false decide_true Bool.not_true beq_self_eq_true Bool.not_false
set_option maxRecDepth 100000 in
set_option maxHeartbeats 8000000 in
theorem p4 (l : List Int) (hl : l.length ≤ 9223372036854775807) (hb : ∀ z ∈ l, 0 ≤ z ∧ z ≤ 255) : Pure Tryz.prog 4 [.list (u8s l)] (.bool true) := by
 refine e4 (by simp) fun _ _ => ?_
 have hK : (fun (v : PV) (σ : Heap) => v = .bool true ∧ σ = []) (.bool true) [] := ⟨rfl, rfl⟩
 have r19 := @rest19 (fun (v : PV) (σ : Heap) => v = .bool true ∧ σ = [])
 have r20 := @rest20 (fun (v : PV) (σ : Heap) => v = .bool true ∧ σ = [])
 have r21 := @rest21 (fun (v : PV) (σ : Heap) => v = .bool true ∧ σ = [])
 have r22 := @rest22 (fun (v : PV) (σ : Heap) => v = .bool true ∧ σ = []) hK
 unfold Rest at r19
 show vc (mkCfg Tryz.prog mixed [] 357 0) (upK 19 k4 (drK 19 k4)) (FinK 0 [.t 2] fun v σ => v = .bool true ∧ σ = []) (argEnv 0 [.list (u8s l)]) []
 generalize drK 19 k4 = t at r19 ⊢
 simp only [upK, hdK, drK, tlK, k4]
 try simp only [argEnv, go_sem]
 refine (p5 l hl).go ?_
 try simp only [go_sem]
 refine ⟨fun h => Kv.Fin.still ⟨rfl, rfl⟩, fun hbig => ?_⟩
 have hB : Byt l := ⟨by omega, hb⟩
 refine p26 hB fun a p a7 a6 p1 p2 => ?_
 obtain ⟨V1, c1, hV1, i1, s1, m1, h1⟩ := or_loc a a7 a6 p
 obtain ⟨W2, hW2, i2, s2, m2⟩ := sp_loc a a7 a6
 have i3 := p31 a (by omega) a6
 have s3 := p32 a (by omega) a6
 obtain ⟨V4, c4, hV4, i4, s4, m4, h4⟩ := iv_loc a a7 a6
 obtain ⟨V7, c7, hV7, i7, s7, m7, h7⟩ := li_loc a a7 a6
 try simp only [go_sem]
 refine i1.go ?_
 try simp only [go_sem]
 refine s1.go ?_
 try simp only [go_sem]
 refine m1.go ?_
 try simp only [go_sem]
 refine i2.go ?_
 try simp only [go_sem]
 refine s2.go ?_
 try simp only [go_sem]
 refine m2.go ?_
 try simp only [go_sem]
 refine i3.go ?_
 try simp only [go_sem]
 refine s3.go ?_
 try simp only [go_sem]
 refine i4.go ?_
 try simp only [go_sem]
 refine s4.go ?_
 try simp only [go_sem]
 refine m4.go ?_
 try simp only [go_sem]
 refine p35 hB fun b P Q b7 b6 hP hQ => ?_
 obtain ⟨T5, W5, c5, hW5, hT5, i5, s5, m5, h5⟩ := ws_loc b b7 b6 P Q hP hQ
 try simp only [go_sem]
 refine i5.go ?_
 try simp only [go_sem]
 refine s5.go ?_
 try simp only [go_sem]
 refine m5.go ?_
 try simp only [go_sem]
 refine p38 hB fun d M d7 d6 hM => ?_
 obtain ⟨V6, c6, hV6, i6, s6, h6⟩ := is_loc d d7 d6 M hM
 have m6 : Pure Tryz.prog 19 [V6, V6] (.bool true) := by
  rcases h6 with ⟨_, T, rfl, _, x1, x2⟩ | ⟨_, rfl⟩
  ·exact p19 _ (by omega) fun r hr => by have := x2 r hr; omega
  ·exact p19nn
 try simp only [go_sem]
 refine i6.go ?_
 try simp only [go_sem]
 refine s6.go ?_
 try simp only [go_sem]
 refine m6.go ?_
 try simp only [go_sem]
 refine i7.go ?_
 try simp only [go_sem]
 refine s7.go ?_
 try simp only [go_sem]
 refine m7.go ?_
 try simp only [go_sem]
 refine r19 hM h6 (by simp) (by simp) (by simp) (by simp; rfl) (by simp; rfl) (by simp; rfl) (by simp; rfl) (by simp; rfl) (by simp; rfl) (by simp; rfl) (by simp; rfl) (by simp; rfl) (by simp; rfl) (by simp; rfl) (by simp; rfl) (by simp; rfl) (by simp; rfl) (by simp; rfl) (by simp; rfl) (by simp; rfl) fun env τ x3 x4 x5 x6 x9 x10 x13 x14 x17 x18 x21 x22 x23 x24 x25 x34 x35 => ?_
 refine r20 hQ h5 x21 x22 x23 x24 x25 x3 x4 x5 x6 x9 x10 x13 x14 x17 x18 x34 x35 fun env τ x3 x4 x5 x6 x9 x10 x13 x14 x17 x18 x34 x35 => ?_
 refine r21 (fun fs n hL => id_loc hL) a6 h4 h7 x3 x9 x10 x13 x14 x17 x18 x34 x35 x4 x5 x6 fun env τ x4 x5 x6 x17 => ?_
 rcases h1 with ⟨e1, fs, n, q, hL, hq, rfl, rfl⟩ | ⟨e1, rfl⟩
 ·rcases h4 with ⟨_, gs, m, hL', rfl, y1, y2⟩ | ⟨z1, z2, _⟩
  rotate_left
  exact absurd (z1.trans (by rw [hL.eq]; exact hL.hl)) z2
  obtain ⟨rfl, rfl⟩ := lst_uniq hL hL'
  have hol := orb_len fs q
  exact r22 (T4 := rowsB (insS fs n (2 ^ n))) (.inl ⟨e1, _, rfl, by rw [nz_len]; exact hol, (nz_mem _ _).2 ((orb_mem hL.ok hL.n5 hq q).2 .here), orb_row hL.ok hL.n5 hq, by simp [rowsB]; exact y1, y2⟩) (fun _ => rfl) x4 x5 x6 x17
 ·exact r22 (T4 := []) (.inr ⟨e1, rfl⟩) (fun e => absurd e e1) x4 x5 x6 x17
end Go.Proofs.YthbbjbfbeaiphaaGreat
end
