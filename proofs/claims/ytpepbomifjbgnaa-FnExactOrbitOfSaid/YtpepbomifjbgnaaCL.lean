/- The list of maps of the classes of an invariant partition: both sides. -/
import Derived.Test.YtpepbomifjbgnaaCb
import Derived.Test.YtpepbomifjbgnaaIV
import Derived.Test.YtpepbomifjbgnaaLB
namespace Go.Proofs.Ytpepbomifjbgnaa
open Go.Kv
set_option maxRecDepth 100000
/- impl.many -/
def k66 : KC := (.seq (.ops [⟨(some 2), none, .mv (.c (.int .i64 0))⟩])
  (.seq (.ops [⟨(some 3), none, .mv (.t 0)⟩, ⟨(some 4), none, .call (.c (.fn (.func 113) [] [])) [(.t 3)]⟩, ⟨(some 5), none, .bin .add (.t 4) (.c (.int .i64 1))⟩, ⟨(some 2), none, .mv (.t 5)⟩])
  .ret))
theorem e66 {args : List PV} {σ : Heap} {K : PV → Heap → Prop} (hl : args.length ≤ 6) (h : Wf σ → (∀ a ∈ args, PV.upto σ.length a) → vc (mkCfg Try.prog mixed [] 6 σ.length) k66 (FinK σ.length [.t 2] K) (argEnv 0 args) σ) : ACall Try.prog 66 args σ K :=
  ACall_enter (C := mkCfg Try.prog mixed [] 6 σ.length) (c := Try.f66.body.getD .skip) Try.func66 (by kernel_rfl) (by kernel_rfl) (by kernel_rfl) rfl hl (by kernel_rfl) (by kernel_rfl) h
/- slices.Max[[]int64,int64] -/
/- live [0, 3, 4] -/
def k113_b0 : KC := (.seq (.seq (.ops [⟨(some 12), none, .mv (.t 4)⟩, ⟨(some 13), none, .mv (.t 0)⟩, ⟨(some 14), none, .len false (.t 13)⟩, ⟨(some 15), none, .bin .lss (.t 12) (.t 14)⟩])
  (.cond (.t 15) .skip (.exit 0)))
  (.seq (.block 1 (.ops [⟨(some 18), none, .mv (.t 3)⟩, ⟨(some 19), none, .mv (.t 0)⟩, ⟨(some 20), none, .mv (.t 4)⟩, ⟨(some 21), none, .idxS 1 (.t 19) (.t 20)⟩, ⟨(some 22), none, .load false 1 (.t 21)⟩, ⟨(some 23), none, .mnmx true (.t 18) [(.t 22)]⟩, ⟨(some 3), none, .mv (.t 23)⟩]))
  (.ops [⟨(some 16), none, .mv (.t 4)⟩, ⟨(some 17), none, .bin .add (.t 16) (.c (.int .i64 1))⟩, ⟨(some 4), none, .mv (.t 17)⟩])))
def k113 : KC := (.seq (.ops [⟨(some 2), none, .mv (.c (.int .i64 0))⟩])
  (.seq (.seq (.ops [⟨(some 5), none, .mv (.t 0)⟩, ⟨(some 6), none, .len false (.t 5)⟩, ⟨(some 7), none, .bin .lss (.t 6) (.c (.int .i64 1))⟩])
  (.cond (.t 7) (.ops [⟨(some 8), none, .bad⟩, ⟨none, none, .bad⟩]) .skip))
  (.seq (.ops [⟨(some 9), none, .mv (.t 0)⟩, ⟨(some 10), none, .idxS 1 (.t 9) (.c (.int .i64 0))⟩, ⟨(some 11), none, .load false 1 (.t 10)⟩, ⟨(some 3), none, .mv (.t 11)⟩])
  (.seq (.seq (.ops [⟨(some 4), none, .mv (.c (.int .i64 1))⟩])
  (.block 0 (.loop k113_b0)))
  (.seq (.ops [⟨(some 24), none, .mv (.t 3)⟩, ⟨(some 2), none, .mv (.t 24)⟩])
  .ret)))))
theorem e113 {args : List PV} {σ : Heap} {K : PV → Heap → Prop} (hl : args.length ≤ 25) (h : Wf σ → (∀ a ∈ args, PV.upto σ.length a) → vc (mkCfg Try.prog mixed [] 25 σ.length) k113 (FinK σ.length [.t 2] K) (argEnv 0 args) σ) : ACall Try.prog 113 args σ K :=
  ACall_enter (C := mkCfg Try.prog mixed [] 25 σ.length) (c := Try.f113.body.getD .skip) Try.func113 (by kernel_rfl) (by kernel_rfl) (by kernel_rfl) rfl hl (by kernel_rfl) (by kernel_rfl) h
end Go.Proofs.Ytpepbomifjbgnaa
namespace Go.Proofs.Ytpepbomifjbgnaa
open Go.Kv
set_option linter.unusedVariables false
set_option linter.unusedSimpArgs false
attribute [local irreducible] ACall PCall KL
theorem clOk_bounds : ∀ (l : List Int) (v : Int), 0 ≤ v → clOk l v = true → ∀ k ∈ l, 0 ≤ k ∧ k < v + l.length
  | [], _, _, _, k, hk => by simp at hk
  | a :: r, v, hv, h, k, hk => by
    simp only [clOk, Bool.and_eq_true, decide_eq_true_eq] at h
    simp only [List.length_cons]
    rcases List.mem_cons.1 hk with rfl | hk
    · omega
    · by_cases e : a = v
      · rw [if_pos e] at h
        have := clOk_bounds r (v + 1) (by omega) h.2 k hk; omega
      · rw [if_neg e] at h
        have := clOk_bounds r v hv h.2 k hk; omega
/-- The greatest of numbers. -/
def mxl (P : List Int) : Int := P.foldl max (-1)
theorem mxl_snoc (P : List Int) (k : Int) : mxl (P ++ [k]) = max (mxl P) k := by simp [mxl]
theorem foldl_max_ge : ∀ (P : List Int) (v : Int), v ≤ P.foldl max v ∧ ∀ k ∈ P, k ≤ P.foldl max v
  | [], v => ⟨Int.le_refl _, by simp⟩
  | a :: r, v => by
    obtain ⟨h1, h2⟩ := foldl_max_ge r (max v a)
    simp only [List.foldl_cons]
    refine ⟨by omega, fun k hk => ?_⟩
    rcases List.mem_cons.1 hk with rfl | hk
    · omega
    · exact h2 k hk
theorem mxl_le {P : List Int} {b : Int} (h : ∀ k ∈ P, k ≤ b) (h0 : -1 ≤ b) : mxl P ≤ b := by
  have : ∀ (P : List Int) (v : Int), v ≤ b → (∀ k ∈ P, k ≤ b) → P.foldl max v ≤ b := fun P => by
    induction P with
    | nil => intro v h _; exact h
    | cons a r ih => intro v hv hr; exact ih _ (by have := hr a (by simp); omega) fun k hk => hr k (by simp [hk])
  exact this P _ h0 h
theorem p113 (P : List Int) (h1 : 1 ≤ P.length) (hl : P.length ≤ 1048576) (h0 : ∀ k ∈ P, 0 ≤ k) : Pure Try.prog 113 [.list (ints P)] (.int .i64 (mxl P)) := by
  have h01 : 0 < P.length := by omega
  have hP0 : 0 ≤ P[0] := h0 _ (List.getElem_mem h01)
  refine e113 (by simp) fun _ _ => ?_
  simp only [k113, argEnv, take6, List.drop_zero, Int.cast_ofNat_Int, go_sem, ↓reduceIte, Nat.reduceEqDiff, Nat.reduceAdd, Nat.reduceMul, Nat.reduceLeDiff, Nat.reduceLT, Int.reduceLE, Int.reduceLT, reduceCtorEq]
  refine ⟨fun h => absurd h (by omega), fun _ => ⟨by omega, fun _ => ?_⟩⟩
  rw [getD_eq h01]
  have e0 : mxl (P.take 1) = P[0] := by
    rw [show P.take 1 = [] ++ [P[0]] from by rw [List.take_succ_eq_append_getElem h01]; rfl, mxl_snoc]
    simp [mxl]; omega
  refine KL_ind k113_b0.eq_1 (fun x : Nat => [(0, .list (ints P)), (3, .int .i64 (mxl (P.take x))), (4, .int .i64 x)]) (fun _ => []) (fun x => 1 ≤ x ∧ x ≤ P.length) (fun x => P.length - x) [0, 3, 4] 1 (by simp [keep, e0]) rfl ⟨Nat.le_refl _, by omega⟩ fun x ⟨hx1, hx⟩ ih => ?_
  try simp only [take6, List.drop_zero, Int.cast_ofNat_Int, go_sem, ↓reduceIte, Nat.reduceEqDiff, Nat.reduceAdd, Nat.reduceMul, Nat.reduceLeDiff, Nat.reduceLT, Int.reduceLE, Int.reduceLT, reduceCtorEq]
  refine ⟨fun h3 => ⟨by omega, fun h4 => ?_⟩, fun h3 => ?_⟩
  · rw [getD_eq h4]
    try simp only [mnmxV, if_true]
    try simp only [take6, List.drop_zero, Int.cast_ofNat_Int, go_sem, ↓reduceIte, Nat.reduceEqDiff, Nat.reduceAdd, Nat.reduceMul, Nat.reduceLeDiff, Nat.reduceLT, Int.reduceLE, Int.reduceLT, reduceCtorEq]
    refine ⟨by omega, ?_⟩
    refine ih (x + 1) ⟨by omega, by omega⟩ (by omega) _ _ ?_ rfl
    rw [List.take_succ_eq_append_getElem h4, mxl_snoc]
    simp [keep]
  · obtain rfl : x = P.length := by omega
    rw [List.take_length]
    exact Kv.Fin.still ⟨rfl, rfl⟩
theorem p66 (P : List Int) (h1 : 1 ≤ P.length) (hl : P.length ≤ 1048576) (h0 : ∀ k ∈ P, 0 ≤ k) (hm : mxl P ≤ 1048576) : Pure Try.prog 66 [.list (ints P)] (.int .i64 (mxl P + 1)) := by
  have := (foldl_max_ge P (-1)).1
  have hm1 : -1 ≤ mxl P := this
  refine e66 (by simp) fun _ _ => ?_
  simp only [k66, argEnv, take6, List.drop_zero, Int.cast_ofNat_Int, go_sem, ↓reduceIte, Nat.reduceEqDiff, Nat.reduceAdd, Nat.reduceMul, Nat.reduceLeDiff, Nat.reduceLT, Int.reduceLE, Int.reduceLT, reduceCtorEq]
  refine (p113 P h1 hl h0).go ?_
  try simp only [take6, List.drop_zero, Int.cast_ofNat_Int, go_sem, ↓reduceIte, Nat.reduceEqDiff, Nat.reduceAdd, Nat.reduceMul, Nat.reduceLeDiff, Nat.reduceLT, Int.reduceLE, Int.reduceLT, reduceCtorEq]
  repeat' (first | refine And.intro ?_ ?_ | intro _)
  all_goals (try omega)
  exact Kv.Fin.still ⟨rfl, rfl⟩
theorem natD (l : List Nat) (x : Nat) : (l.map fun x : Nat => (x : Int)).getD x 0 = (l.getD x 0 : Int) := by
  simp only [List.getD_eq_getElem?_getD, List.getElem?_map]
  cases l[x]? <;> rfl
/-- The images of the classes, of the first x points. -/
def st (Q f : List Nat) (c x : Nat) : List Nat := (List.range x).foldl (fun s p => s.set (Q.getD p 0) (Q.getD (f.getD p 0) 0)) (List.replicate c 0)
theorem st_zero (Q f : List Nat) (c : Nat) : st Q f c 0 = List.replicate c 0 := rfl
theorem st_succ (Q f : List Nat) (c x : Nat) : st Q f c (x + 1) = (st Q f c x).set (Q.getD x 0) (Q.getD (f.getD x 0) 0) := by simp [st, List.range_succ]
@[simp] theorem st_length (Q f : List Nat) (c : Nat) : ∀ x, (st Q f c x).length = c
  | 0 => by simp [st_zero]
  | x + 1 => by rw [st_succ, List.length_set, st_length Q f c x]
/-- What a right list and an invariant partition give. -/
def lcl (Q : List Nat) (c : Nat) (fs : List (List Nat)) : List (List Int) := fs.map fun f => mp (st Q f c Q.length)
theorem lcl_snoc (Q : List Nat) (c : Nat) {fs : List (List Nat)} {x : Nat} (h : x < fs.length) : lcl Q c (fs.take x) ++ [mp (st Q fs[x] c Q.length)] = lcl Q c (fs.take (x + 1)) := by
  rw [List.take_succ_eq_append_getElem h]; simp only [lcl, List.map_append, List.map_cons, List.map_nil]
@[simp] theorem lcl_length (Q : List Nat) (c : Nat) (fs : List (List Nat)) : (lcl Q c fs).length = fs.length := by simp [lcl]
/-- The classes as natural numbers. -/
theorem clOk_nat {P : List Int} {n : Nat} (hP : P.length = n) (h1 : 1 ≤ n) (h5 : n ≤ 5) (h : clOk P 0 = true) : ∃ (Q : List Nat) (c : Nat), P = Q.map (fun x : Nat => (x : Int)) ∧ Q.length = n ∧ mxl P + 1 = c ∧ 1 ≤ c ∧ c ≤ 5 ∧ ∀ x, x < Q.length → Q.getD x 0 < c := by
  have hb := clOk_bounds P 0 (Int.le_refl _) h
  have hge := foldl_max_ge P (-1)
  have hmx : mxl P ≤ 4 := mxl_le (fun k hk => by have := hb k hk; omega) (by omega)
  have hmem : ∀ k ∈ P, k ≤ mxl P := hge.2
  have h0 : 0 < P.length := by omega
  have hx0 := hb _ (List.getElem_mem h0)
  have hx1 := hmem _ (List.getElem_mem h0)
  refine ⟨P.map Int.toNat, (mxl P + 1).toNat, ?_, by simpa using hP, by omega, by omega, by omega, fun x hx => ?_⟩
  · rw [List.map_map]
    conv => lhs; rw [← List.map_id P]
    exact List.map_congr_left fun k hk => by have := hb k hk; simp; omega
  · have hx' : x < P.length := by simpa using hx
    rw [getD_eq hx, List.getElem_map]
    have := hmem _ (List.getElem_mem hx')
    have := hb _ (List.getElem_mem hx')
    omega
/-- The code of a list of classes. -/
noncomputable def lcc (a : List (List Int)) (P : List Int) : Int := if (ivp a P).2 ≠ 0 then (ivp a P).2 else if (ivp a P).1 = false then 5 else 0
theorem ivp_pgc (a : List (List Int)) (P : List Int) : ivp a P = if pgc a P ≠ 0 then (false, pgc a P) else (iv (a.map um) P, 0) := by
  unfold ivp pgc
  generalize (clOk P 0 && decide ((P.length : Int) = (a.getD 0 []).getD 0 0)) = b
  by_cases h1 : lcode a [] = 0
  · simp only [h1, ne_eq, not_true_eq_false, if_false]
    cases b <;> simp
  · simp only [ne_eq, h1, not_false_eq_true, if_true]
end Go.Proofs.Ytpepbomifjbgnaa
