/- Partitions: whether they are, whether they are invariant; both sides. -/
import Derived.Test.YtpepbomifjbgnaaCb
import Derived.Test.YtpepbomifjbgnaaLC
namespace Go.Proofs.Ytpepbomifjbgnaa
open Go.Kv
set_option maxRecDepth 100000
/- impl.isInvariant -/
/- live [1, 6, 10, 11, 12, 16, 17, 18] -/
def k112_b0 : KC := (.seq (.ops [⟨(some 19), none, .bin .lss (.t 18) (.t 17)⟩])
  (.seq (.cond (.t 19) .skip (.exit 2))
  (.seq (.block 3 (.seq (.ops [⟨(some 20), none, .mv (.t 18)⟩, ⟨(some 21), none, .idxS 1 (.t 16) (.t 18)⟩, ⟨(some 22), none, .load false 1 (.t 21)⟩, ⟨(some 7), none, .mv (.t 20)⟩, ⟨(some 8), none, .mv (.t 22)⟩])
  (.seq (.ops [⟨(some 23), none, .mv (.t 1)⟩, ⟨(some 24), none, .mv (.t 8)⟩, ⟨(some 25), none, .call (.c (.fn (.func 138) [] [])) [(.t 23), (.t 24)]⟩, ⟨(some 9), none, .mv (.t 25)⟩])
  (.seq (.draw [⟨(some 26), none, .mv (.t 1)⟩, ⟨(some 27), none, .mv (.t 7)⟩, ⟨(some 28), none, .fieldA 1 (.t 6)⟩, ⟨(some 29), none, .idxA 5 1 (.t 28) (.t 27)⟩, ⟨(some 30), none, .load false 1 (.t 29)⟩, ⟨(some 31), none, .idxS 1 (.t 26) (.t 30)⟩, ⟨(some 32), none, .load false 1 (.t 31)⟩, ⟨(some 33), none, .mv (.t 1)⟩, ⟨(some 34), none, .mv (.t 9)⟩, ⟨(some 35), none, .fieldA 1 (.t 6)⟩, ⟨(some 36), none, .idxA 5 1 (.t 35) (.t 34)⟩, ⟨(some 37), none, .load false 1 (.t 36)⟩, ⟨(some 38), none, .idxS 1 (.t 33) (.t 37)⟩, ⟨(some 39), none, .load false 1 (.t 38)⟩, ⟨(some 40), none, .bin .neq (.t 32) (.t 39)⟩])
  (.cond (.t 40) (.seq (.ops [⟨(some 4), none, .mv (.c (.bool false))⟩])
  .ret) .skip)))))
  (.ops [⟨(some 41), none, .bin .add (.t 18) (.c (.int .i64 1))⟩, ⟨(some 18), none, .mv (.t 41)⟩]))))
/- live [1, 10, 11, 12] -/
def k112_b1 : KC := (.seq (.ops [⟨(some 13), none, .bin .lss (.t 12) (.t 11)⟩])
  (.seq (.cond (.t 13) .skip (.exit 0))
  (.seq (.block 1 (.seq (.ops [⟨(some 14), none, .idxS 6 (.t 10) (.t 12)⟩, ⟨(some 15), none, .load true 6 (.t 14)⟩, ⟨(some 6), none, .alloc [.int .i64 0, .int .i64 0, .int .i64 0, .int .i64 0, .int .i64 0, .int .i64 0]⟩, ⟨none, none, .store 6 (.t 6) (.t 15)⟩])
  (.seq (.ops [⟨(some 16), none, .mv (.t 1)⟩, ⟨(some 17), none, .len false (.t 16)⟩, ⟨(some 18), none, .mv (.c (.int .i64 0))⟩])
  (.block 2 (.loop k112_b0)))))
  (.ops [⟨(some 42), none, .bin .add (.t 12) (.c (.int .i64 1))⟩, ⟨(some 12), none, .mv (.t 42)⟩]))))
def k112 : KC := (.seq (.ops [⟨(some 4), none, .mv (.c (.bool false))⟩])
  (.seq (.seq (.ops [⟨(some 10), none, .mv (.t 0)⟩, ⟨(some 11), none, .len false (.t 10)⟩, ⟨(some 12), none, .mv (.c (.int .i64 0))⟩])
  (.block 0 (.loop k112_b1)))
  (.seq (.ops [⟨(some 4), none, .mv (.c (.bool true))⟩])
  .ret)))
theorem e112 {args : List PV} {σ : Heap} {K : PV → Heap → Prop} (hl : args.length ≤ 43) (h : Wf σ → (∀ a ∈ args, PV.upto σ.length a) → vc (mkCfg Try.prog mixed [] 43 σ.length) k112 (FinK σ.length [.t 4] K) (argEnv 0 args) σ) : ACall Try.prog 112 args σ K :=
  ACall_enter (C := mkCfg Try.prog mixed [] 43 σ.length) (c := Try.f112.body.getD .skip) Try.func112 (by kernel_rfl) (by kernel_rfl) (by kernel_rfl) rfl hl (by kernel_rfl) (by kernel_rfl) h
/- spec.l10Invariant -/
/- live [0, 1, 5, 6, 7, 35, 36, 37, 38, 39, 40, 41, 42, 43, 44, 45, 46, 47, 48, 49, 50, 51, 52, 53, 54, 55] -/
def k108_b0 : KC := (.seq (.seq (.ops [⟨(some 20), none, .mv (.t 7)⟩, ⟨(some 21), none, .mv (.t 6)⟩, ⟨(some 22), none, .bin .lss (.t 20) (.t 21)⟩])
  (.cond (.t 22) .skip (.exit 4)))
  (.seq (.block 5 (.seq (.draw [⟨(some 25), none, .mv (.t 1)⟩, ⟨(some 26), none, .mv (.t 6)⟩, ⟨(some 27), none, .idxS 1 (.t 25) (.t 26)⟩, ⟨(some 28), none, .load false 1 (.t 27)⟩, ⟨(some 29), none, .mv (.t 1)⟩, ⟨(some 30), none, .mv (.t 7)⟩, ⟨(some 31), none, .idxS 1 (.t 29) (.t 30)⟩, ⟨(some 32), none, .load false 1 (.t 31)⟩, ⟨(some 33), none, .bin .eql (.t 28) (.t 32)⟩, ⟨(some 34), none, .mv (.t 33)⟩, ⟨(some 35), some (34, true), .mv (.t 1)⟩, ⟨(some 36), some (34, true), .mv (.t 0)⟩, ⟨(some 37), some (34, true), .mv (.t 5)⟩, ⟨(some 38), some (34, true), .mv (.t 6)⟩, ⟨(some 39), some (34, true), .idxS 6 (.t 36) (.t 37)⟩, ⟨(some 40), some (34, true), .fieldA 1 (.t 39)⟩, ⟨(some 41), some (34, true), .idxA 5 1 (.t 40) (.t 38)⟩, ⟨(some 42), some (34, true), .load false 1 (.t 41)⟩, ⟨(some 43), some (34, true), .idxS 1 (.t 35) (.t 42)⟩, ⟨(some 44), some (34, true), .load false 1 (.t 43)⟩, ⟨(some 45), some (34, true), .mv (.t 1)⟩, ⟨(some 46), some (34, true), .mv (.t 0)⟩, ⟨(some 47), some (34, true), .mv (.t 5)⟩, ⟨(some 48), some (34, true), .mv (.t 7)⟩, ⟨(some 49), some (34, true), .idxS 6 (.t 46) (.t 47)⟩, ⟨(some 50), some (34, true), .fieldA 1 (.t 49)⟩, ⟨(some 51), some (34, true), .idxA 5 1 (.t 50) (.t 48)⟩, ⟨(some 52), some (34, true), .load false 1 (.t 51)⟩, ⟨(some 53), some (34, true), .idxS 1 (.t 45) (.t 52)⟩, ⟨(some 54), some (34, true), .load false 1 (.t 53)⟩, ⟨(some 55), some (34, true), .bin .neq (.t 44) (.t 54)⟩, ⟨(some 56), none, .pick (.t 34) (.t 55) (.c (.bool false))⟩])
  (.cond (.t 56) (.seq (.ops [⟨(some 4), none, .mv (.c (.bool false))⟩])
  .ret) .skip)))
  (.ops [⟨(some 23), none, .mv (.t 7)⟩, ⟨(some 24), none, .bin .add (.t 23) (.c (.int .i64 1))⟩, ⟨(some 7), none, .mv (.t 24)⟩])))
/- live [0, 1, 5, 6, 35, 36, 37, 38, 39, 40, 41, 42, 43, 44, 45, 46, 47, 48, 49, 50, 51, 52, 53, 54, 55] -/
def k108_b1 : KC := (.seq (.seq (.ops [⟨(some 14), none, .mv (.t 6)⟩, ⟨(some 15), none, .mv (.t 1)⟩, ⟨(some 16), none, .len false (.t 15)⟩, ⟨(some 17), none, .bin .lss (.t 14) (.t 16)⟩])
  (.cond (.t 17) .skip (.exit 2)))
  (.seq (.block 3 (.seq (.ops [⟨(some 7), none, .mv (.c (.int .i64 0))⟩])
  (.block 4 (.loop k108_b0))))
  (.ops [⟨(some 18), none, .mv (.t 6)⟩, ⟨(some 19), none, .bin .add (.t 18) (.c (.int .i64 1))⟩, ⟨(some 6), none, .mv (.t 19)⟩])))
/- live [0, 1, 5, 35, 36, 37, 38, 39, 40, 41, 42, 43, 44, 45, 46, 47, 48, 49, 50, 51, 52, 53, 54, 55] -/
def k108_b2 : KC := (.seq (.seq (.ops [⟨(some 8), none, .mv (.t 5)⟩, ⟨(some 9), none, .mv (.t 0)⟩, ⟨(some 10), none, .len false (.t 9)⟩, ⟨(some 11), none, .bin .lss (.t 8) (.t 10)⟩])
  (.cond (.t 11) .skip (.exit 0)))
  (.seq (.block 1 (.seq (.ops [⟨(some 6), none, .mv (.c (.int .i64 0))⟩])
  (.block 2 (.loop k108_b1))))
  (.ops [⟨(some 12), none, .mv (.t 5)⟩, ⟨(some 13), none, .bin .add (.t 12) (.c (.int .i64 1))⟩, ⟨(some 5), none, .mv (.t 13)⟩])))
def k108 : KC := (.seq (.ops [⟨(some 4), none, .mv (.c (.bool false))⟩])
  (.seq (.seq (.ops [⟨(some 5), none, .mv (.c (.int .i64 0))⟩])
  (.block 0 (.loop k108_b2)))
  (.seq (.ops [⟨(some 4), none, .mv (.c (.bool true))⟩])
  .ret)))
theorem e108 {args : List PV} {σ : Heap} {K : PV → Heap → Prop} (hl : args.length ≤ 57) (h : Wf σ → (∀ a ∈ args, PV.upto σ.length a) → vc (mkCfg Try.prog mixed [] 57 σ.length) k108 (FinK σ.length [.t 4] K) (argEnv 0 args) σ) : ACall Try.prog 108 args σ K :=
  ACall_enter (C := mkCfg Try.prog mixed [] 57 σ.length) (c := Try.f108.body.getD .skip) Try.func108 (by kernel_rfl) (by kernel_rfl) (by kernel_rfl) rfl hl (by kernel_rfl) (by kernel_rfl) h
/- slices.Index[[]int64,int64] -/
/- live [0, 1, 7, 8] -/
def k138_b0 : KC := (.seq (.ops [⟨(some 9), none, .bin .lss (.t 8) (.t 7)⟩])
  (.seq (.cond (.t 9) .skip (.exit 0))
  (.seq (.block 1 (.seq (.ops [⟨(some 10), none, .mv (.t 8)⟩, ⟨(some 5), none, .mv (.t 10)⟩])
  (.seq (.ops [⟨(some 11), none, .mv (.t 1)⟩, ⟨(some 12), none, .mv (.t 0)⟩, ⟨(some 13), none, .mv (.t 5)⟩, ⟨(some 14), none, .idxS 1 (.t 12) (.t 13)⟩, ⟨(some 15), none, .load false 1 (.t 14)⟩, ⟨(some 16), none, .bin .eql (.t 11) (.t 15)⟩])
  (.cond (.t 16) (.seq (.ops [⟨(some 17), none, .mv (.t 5)⟩, ⟨(some 4), none, .mv (.t 17)⟩])
  .ret) .skip))))
  (.ops [⟨(some 18), none, .bin .add (.t 8) (.c (.int .i64 1))⟩, ⟨(some 8), none, .mv (.t 18)⟩]))))
def k138 : KC := (.seq (.ops [⟨(some 4), none, .mv (.c (.int .i64 0))⟩])
  (.seq (.seq (.ops [⟨(some 6), none, .mv (.t 0)⟩, ⟨(some 7), none, .len false (.t 6)⟩, ⟨(some 8), none, .mv (.c (.int .i64 0))⟩])
  (.block 0 (.loop k138_b0)))
  (.seq (.ops [⟨(some 4), none, .mv (.c (.int .i64 (-1)))⟩])
  .ret)))
theorem e138 {args : List PV} {σ : Heap} {K : PV → Heap → Prop} (hl : args.length ≤ 19) (h : Wf σ → (∀ a ∈ args, PV.upto σ.length a) → vc (mkCfg Try.prog mixed [] 19 σ.length) k138 (FinK σ.length [.t 4] K) (argEnv 0 args) σ) : ACall Try.prog 138 args σ K :=
  ACall_enter (C := mkCfg Try.prog mixed [] 19 σ.length) (c := Try.f138.body.getD .skip) Try.func138 (by kernel_rfl) (by kernel_rfl) (by kernel_rfl) rfl hl (by kernel_rfl) (by kernel_rfl) h
end Go.Proofs.Ytpepbomifjbgnaa
namespace Go.Proofs.Ytpepbomifjbgnaa
open Go.Kv
set_option linter.unusedVariables false
set_option linter.unusedSimpArgs false
attribute [local irreducible] ACall PCall KL
/-- Numbers of classes, of which v is the least free one. -/
def clOk : List Int → Int → Bool
  | [], _ => true
  | k :: r, v => decide (0 ≤ k ∧ k ≤ v) && clOk r (if k = v then v + 1 else v)
theorem clOk_step {l : List Int} {x : Nat} (h : x < l.length) (v : Int) : clOk (l.drop x) v = (decide (0 ≤ l[x] ∧ l[x] ≤ v) && clOk (l.drop (x + 1)) (if l[x] = v then v + 1 else v)) := by
  rw [List.drop_eq_getElem_cons h]; rfl
theorem p138 (l : List Int) (k : Int) (hl : l.length ≤ 1048576) : Pure Try.prog 138 [.list (ints l), .int .i64 k] (.int .i64 (idx (fun y => decide (k = y)) l)) := by
  refine e138 (by simp) fun _ _ => ?_
  simp only [k138, argEnv, take6, List.drop_zero, Int.cast_ofNat_Int, go_sem, ↓reduceIte, Nat.reduceEqDiff, Nat.reduceAdd, Nat.reduceMul, Nat.reduceLeDiff, Nat.reduceLT, Int.reduceLE, Int.reduceLT, reduceCtorEq]
  refine KL_ind k138_b0.eq_1 (fun x : Nat => [(0, .list (ints l)), (1, .int .i64 k), (7, .int .i64 l.length), (8, .int .i64 x)]) (fun _ => []) (fun x => x ≤ l.length ∧ (l.take x).any (fun y => decide (k = y)) = false) (fun x => l.length - x) [0, 1, 7, 8] 0 (by rfl) rfl ⟨Nat.zero_le _, by simp⟩ fun x ⟨hx, hall⟩ ih => ?_
  try simp only [take6, List.drop_zero, Int.cast_ofNat_Int, go_sem, ↓reduceIte, Nat.reduceEqDiff, Nat.reduceAdd, Nat.reduceMul, Nat.reduceLeDiff, Nat.reduceLT, Int.reduceLE, Int.reduceLT, reduceCtorEq]
  refine ⟨fun h1 => ⟨by omega, fun h2 => ?_⟩, fun h1 => ?_⟩
  · rw [getD_eq h2]
    refine ⟨fun h3 => ?_, fun h3 => ⟨by omega, ?_⟩⟩
    · exact Kv.Fin.still ⟨by rw [idx_some h2 hall (by simpa using h3)], rfl⟩
    · refine ih (x + 1) ⟨by omega, ?_⟩ (by omega) _ _ (by rfl) rfl
      rw [any_take_succ _ h2, hall, decide_eq_false h3]; rfl
  · obtain rfl : x = l.length := by omega
    rw [List.take_length] at hall
    exact Kv.Fin.still ⟨by rw [idx_none hall], rfl⟩
theorem idx_of {l : List Int} {p : Nat} (h : p < l.length) : ∃ q : Nat, idx (fun y => decide (l.getD p 0 = y)) l = q ∧ q < l.length ∧ l.getD q 0 = l.getD p 0 := by
  have ha : l.any (fun y => decide (l.getD p 0 = y)) = true := by
    rw [List.any_eq_true]
    exact ⟨l[p], List.getElem_mem h, by rw [getD_eq h]; simp⟩
  obtain ⟨q, hq, h1, h2⟩ := any_split ha
  refine ⟨q, idx_some hq h1 h2, hq, ?_⟩
  rw [getD_eq hq]
  exact (of_decide_eq_true h2).symm
/-- What a right list of maps is. -/
theorem lcode_maps {a : List (List Int)} (h6 : ∀ r ∈ a, r.length = 6) (h : lcode a [] = 0) : ∃ (fs : List (List Nat)) (n : Nat), a = fs.map mp ∧ (∀ f ∈ fs, Ok f n) ∧ 1 ≤ fs.length ∧ fs.length ≤ 6 ∧ (a.getD 0 []).getD 0 0 = n ∧ 1 ≤ n ∧ n ≤ 5 := by
  unfold lcode at h
  rw [List.append_nil] at h
  split at h
  · omega
  rename_i h1
  split at h
  · omega
  rename_i h2
  split at h
  · omega
  rename_i h3
  simp only [Bool.not_eq_false, List.all_eq_true, decide_eq_true_eq] at h1 h3
  have h2' : 1 ≤ a.length ∧ a.length ≤ 6 := by omega
  have h0 : 0 < a.length := by omega
  obtain ⟨f0, n, hf0, e0⟩ := isM_ok (h6 _ (List.getElem_mem h0)) (h1 _ (List.getElem_mem h0))
  have hn : (a.getD 0 []).getD 0 0 = n := by rw [getD_eq h0, e0, mp_get0, hf0.len]
  have key : ∀ r ∈ a, r = mp (um r) ∧ Ok (um r) n := fun r hr => by
    obtain ⟨f, n', hf, e⟩ := isM_ok (h6 r hr) (h1 r hr)
    have h4 := h3 r hr
    rw [hn, e, mp_get0, hf.len] at h4
    obtain rfl : n' = n := by omega
    rw [e, um_mp]
    exact ⟨rfl, hf⟩
  refine ⟨a.map um, n, ?_, ?_, by simpa using h2'.1, by simpa using h2'.2, hn, hf0.pos, hf0.le⟩
  · rw [List.map_map]
    conv => lhs; rw [← List.map_id a]
    exact List.map_congr_left fun r hr => by simpa using (key r hr).1
  · intro f hf
    obtain ⟨r, hr, rfl⟩ := List.mem_map.1 hf
    exact (key r hr).2
/-- A map keeps a partition. -/
def Iv (P : List Int) (f : List Nat) : Prop := ∀ a b, a < P.length → b < P.length → P.getD a 0 = P.getD b 0 → P.getD (f.getD a 0) 0 = P.getD (f.getD b 0) 0
noncomputable def iv (fs : List (List Nat)) (P : List Int) : Bool := @decide (∀ f ∈ fs, Iv P f) (Classical.propDecidable _)
theorem iv_true {fs : List (List Nat)} {P : List Int} (h : ∀ f ∈ fs, Iv P f) : iv fs P = true := by
  unfold iv; exact @decide_eq_true _ (Classical.propDecidable _) h
theorem iv_all {fs : List (List Nat)} {P : List Int} (h : iv fs P = true) : ∀ f ∈ fs, Iv P f := by
  unfold iv at h; exact @of_decide_eq_true _ (Classical.propDecidable _) h
theorem iv_false {fs : List (List Nat)} {P : List Int} {x : Nat} (h : x < fs.length) (h' : ¬ Iv P fs[x]) : iv fs P = false := by
  unfold iv; exact @decide_eq_false _ (Classical.propDecidable _) fun g => h' (g _ (List.getElem_mem h))
theorem take_mem_succ {fs : List (List Nat)} {x : Nat} {Q : List Nat → Prop} (h : x < fs.length) (h1 : ∀ f ∈ fs.take x, Q f) (h2 : Q fs[x]) : ∀ f ∈ fs.take (x + 1), Q f := fun f hf => by
  rw [List.take_succ_eq_append_getElem h, List.mem_append, List.mem_singleton] at hf
  rcases hf with hf | rfl
  · exact h1 f hf
  · exact h2
theorem map_getD {fs : List (List Nat)} {x : Nat} (h : x < fs.length) : (fs.map mp).getD x [] = mp fs[x] := by simp [List.getD_eq_getElem?_getD, h]
theorem p112 (fs : List (List Nat)) (n : Nat) (P : List Int) (hP : P.length = n) (h5 : n ≤ 5) (hf : ∀ f ∈ fs, Ok f n) (hl : fs.length ≤ 1048576) : Pure Try.prog 112 [.list (aggs (fs.map mp)), .list (ints P)] (.bool (iv fs P)) := by
  subst hP
  refine e112 (by simp) fun _ _ => ?_
  simp only [k112, argEnv, take6, List.drop_zero, Int.cast_ofNat_Int, go_sem, ↓reduceIte, Nat.reduceEqDiff, Nat.reduceAdd, Nat.reduceMul, Nat.reduceLeDiff, Nat.reduceLT, Int.reduceLE, Int.reduceLT, reduceCtorEq]
  refine KL_indD k112_b1.eq_1 (fun x : Nat => [(1, .list (ints P)), (10, .list (aggs (fs.map mp))), (11, .int .i64 fs.length), (12, .int .i64 x)]) (fun _ => []) (fun x => x ≤ fs.length ∧ ∀ f ∈ fs.take x, Iv P f) (fun x => fs.length - x) [1, 10, 11, 12] 0 (by simp [keep]) ⟨[], rfl⟩ ⟨Nat.zero_le _, by simp⟩ (fun x hx => ?_) fun x ⟨hx, hall⟩ ih => ?_
  · exact ⟨Nat.zero_le _, Env.undr_upto (by simp [Env.undr, PV.undr, undrX_ints, undrX_aggs]), .nil _⟩
  try simp only [List.length_map, take6, List.drop_zero, Int.cast_ofNat_Int, go_sem, ↓reduceIte, Nat.reduceEqDiff, Nat.reduceAdd, Nat.reduceMul, Nat.reduceLeDiff, Nat.reduceLT, Int.reduceLE, Int.reduceLT, reduceCtorEq]
  refine ⟨fun h1 => ⟨by omega, fun h2 => ?_⟩, fun h1 => ?_⟩
  · have hk := hf _ (List.getElem_mem h2)
    have h6 := hk.mp_len
    rw [map_getD h2]
    try simp only [h6, take6, List.drop_zero, Int.cast_ofNat_Int, go_sem, ↓reduceIte, Nat.reduceEqDiff, Nat.reduceAdd, Nat.reduceMul, Nat.reduceLeDiff, Nat.reduceLT, Int.reduceLE, Int.reduceLT, reduceCtorEq]
    refine KL_ind k112_b0.eq_1 (fun p : Nat => [(1, .list (ints P)), (6, .ptr 0 0), (10, .list (aggs (fs.map mp))), (11, .int .i64 fs.length), (12, .int .i64 x), (16, .list (ints P)), (17, .int .i64 P.length), (18, .int .i64 p)]) (fun _ => [.box (ints (mp fs[x]))]) (fun p => p ≤ P.length ∧ ∀ a, a < p → ∀ q : Nat, idx (fun y => decide (P.getD a 0 = y)) P = q → P.getD (fs[x].getD a 0) 0 = P.getD (fs[x].getD q 0) 0) (fun p => P.length - p) [1, 6, 10, 11, 12, 16, 17, 18] 0 (by rfl) rfl ⟨Nat.zero_le _, fun a ha => by omega⟩ fun p ⟨hp, hpa⟩ ihp => ?_
    try simp only [take6, List.drop_zero, Int.cast_ofNat_Int, go_sem, ↓reduceIte, Nat.reduceEqDiff, Nat.reduceAdd, Nat.reduceMul, Nat.reduceLeDiff, Nat.reduceLT, Int.reduceLE, Int.reduceLT, reduceCtorEq]
    refine ⟨fun h3 => ⟨by omega, fun h4 => ?_⟩, fun h3 => ?_⟩
    · refine (p138 P _ (by omega)).go ?_
      obtain ⟨q, hq, hql, hqe⟩ := idx_of h4
      rw [hq]
      have hg1 := hk.get' p
      have hg2 := hk.get' q
      try simp only [h6, hg1, hg2, take6, List.drop_zero, Int.cast_ofNat_Int, go_sem, ↓reduceIte, Nat.reduceEqDiff, Nat.reduceAdd, Nat.reduceMul, Nat.reduceLeDiff, Nat.reduceLT, Int.reduceLE, Int.reduceLT, reduceCtorEq]
      refine ⟨by omega, by omega, fun _ => ⟨by omega, by omega, by omega, fun _ => ⟨by omega, fun h7 => ?_, fun h7 => ⟨by omega, ?_⟩⟩⟩⟩
      · exact Kv.Fin.still ⟨by rw [iv_false h2 fun h => h7 (h p q h4 hql hqe.symm)], rfl⟩
      · refine ihp (p + 1) ⟨by omega, fun a ha q' hq' => ?_⟩ (by omega) _ _ (by rfl) rfl
        by_cases e : a = p
        · subst e
          rw [hq] at hq'
          obtain rfl : q = q' := by omega
          exact h7
        · exact hpa a (by omega) q' hq'
    · obtain rfl : p = P.length := by omega
      refine ⟨by omega, ?_⟩
      refine ih (x + 1) ⟨by omega, take_mem_succ h2 hall fun a b ha hb he => ?_⟩ (by omega) _ _ (by simp [keep]) ⟨[_], rfl⟩
      obtain ⟨q, hq, _, _⟩ := idx_of ha
      rw [hpa a ha q hq, hpa b hb q (by rw [← he]; exact hq)]
  · obtain rfl : x = fs.length := by omega
    rw [List.take_length] at hall
    exact Kv.Fin.still ⟨by rw [iv_true hall], rfl⟩
theorem p108 (fs : List (List Nat)) (n : Nat) (P : List Int) (hP : P.length = n) (h5 : n ≤ 5) (hf : ∀ f ∈ fs, Ok f n) (hl : fs.length ≤ 1048576) : Pure Try.prog 108 [.list (aggs (fs.map mp)), .list (ints P)] (.bool (iv fs P)) := by
  subst hP
  refine e108 (by simp) fun _ _ => ?_
  simp only [k108, argEnv, take6, List.drop_zero, Int.cast_ofNat_Int, go_sem, ↓reduceIte, Nat.reduceEqDiff, Nat.reduceAdd, Nat.reduceMul, Nat.reduceLeDiff, Nat.reduceLT, Int.reduceLE, Int.reduceLT, reduceCtorEq]
  refine KL_ind k108_b2.eq_1 (fun x : Nat => [(0, .list (aggs (fs.map mp))), (1, .list (ints P)), (5, .int .i64 x)]) (fun _ => []) (fun x => x ≤ fs.length ∧ ∀ f ∈ fs.take x, Iv P f) (fun x => fs.length - x) [0, 1, 5] 0 (by simp [keep]) rfl ⟨Nat.zero_le _, by simp⟩ fun x ⟨hx, hall⟩ ih => ?_
  try simp only [List.length_map, take6, List.drop_zero, Int.cast_ofNat_Int, go_sem, ↓reduceIte, Nat.reduceEqDiff, Nat.reduceAdd, Nat.reduceMul, Nat.reduceLeDiff, Nat.reduceLT, Int.reduceLE, Int.reduceLT, reduceCtorEq]
  refine ⟨fun h1 => ?_, fun h1 => ?_⟩
  · have h2 : x < fs.length := by omega
    have hk := hf _ (List.getElem_mem h2)
    have h6 := hk.mp_len
    refine KL_ind k108_b1.eq_1 (fun a : Nat => [(0, .list (aggs (fs.map mp))), (1, .list (ints P)), (5, .int .i64 x), (6, .int .i64 a)]) (fun _ => []) (fun a => a ≤ P.length ∧ ∀ c d, c < a → d < c → P.getD c 0 = P.getD d 0 → P.getD (fs[x].getD c 0) 0 = P.getD (fs[x].getD d 0) 0) (fun a => P.length - a) [0, 1, 5, 6] 0 (by simp [keep]) rfl ⟨Nat.zero_le _, fun c d hc => by omega⟩ fun a ⟨ha, hac⟩ iha => ?_
    try simp only [take6, List.drop_zero, Int.cast_ofNat_Int, go_sem, ↓reduceIte, Nat.reduceEqDiff, Nat.reduceAdd, Nat.reduceMul, Nat.reduceLeDiff, Nat.reduceLT, Int.reduceLE, Int.reduceLT, reduceCtorEq]
    refine ⟨fun h3 => ?_, fun h3 => ?_⟩
    · refine KL_ind k108_b0.eq_1 (fun b : Nat => [(0, .list (aggs (fs.map mp))), (1, .list (ints P)), (5, .int .i64 x), (6, .int .i64 a), (7, .int .i64 b)]) (fun _ => []) (fun b => b ≤ a ∧ ∀ d, d < b → P.getD a 0 = P.getD d 0 → P.getD (fs[x].getD a 0) 0 = P.getD (fs[x].getD d 0) 0) (fun b => a - b) [0, 1, 5, 6, 7] 0 (by simp [keep]) rfl ⟨Nat.zero_le _, fun d hd => by omega⟩ fun b ⟨hb, hbd⟩ ihb => ?_
      have hg1 := hk.get' a
      have hg2 := hk.get' b
      have h4 : a < P.length := by omega
      try simp only [h6, hg1, hg2, map_getD h2, List.length_map, take6, List.drop_zero, Int.cast_ofNat_Int, go_sem, ↓reduceIte, Nat.reduceEqDiff, Nat.reduceAdd, Nat.reduceMul, Nat.reduceLeDiff, Nat.reduceLT, Int.reduceLE, Int.reduceLT, reduceCtorEq]
      have hit : (P.getD a 0 = P.getD b 0 → P.getD (fs[x].getD a 0) 0 = P.getD (fs[x].getD b 0) 0) → ∀ d, d < b + 1 → P.getD a 0 = P.getD d 0 → P.getD (fs[x].getD a 0) 0 = P.getD (fs[x].getD d 0) 0 := fun h d hd => by
        by_cases e : d = b
        · rw [e]; exact h
        · exact hbd d (by omega)
      refine ⟨fun h5 => ⟨by omega, fun _ => ⟨by omega, fun h8 => ⟨fun h9 => ⟨by omega, fun _ => ⟨by omega, by omega, fun _ => ⟨by omega, by omega, fun _ => ⟨by omega, by omega, fun _ => ⟨by omega, fun h10 => ?_, fun h10 => ⟨by omega, ?_⟩⟩⟩⟩⟩⟩, fun h9 => ⟨by omega, ?_⟩⟩⟩⟩, fun h5 => ⟨by omega, ?_⟩⟩
      · exact Kv.Fin.still ⟨by rw [iv_false h2 fun h => h10 (h a b h4 h8 h9)], rfl⟩
      · exact ihb (b + 1) ⟨by omega, hit fun _ => h10⟩ (by omega) _ _ (by simp [keep]) rfl
      · exact ihb (b + 1) ⟨by omega, hit fun h => absurd h h9⟩ (by omega) _ _ (by simp [keep]) rfl
      · obtain rfl : b = a := by omega
        refine iha (b + 1) ⟨by omega, fun c d hc hd he => ?_⟩ (by omega) _ _ (by simp [keep]) rfl
        by_cases e : c = b
        · subst e; exact hbd d hd he
        · exact hac c d (by omega) hd he
    · obtain rfl : a = P.length := by omega
      refine ⟨by omega, ?_⟩
      refine ih (x + 1) ⟨by omega, take_mem_succ h2 hall fun c d hc hd he => ?_⟩ (by omega) _ _ (by simp [keep]) rfl
      rcases Nat.lt_trichotomy c d with h | h | h
      · exact (hac d c hd h he.symm).symm
      · rw [h]
      · exact hac c d hc h he
  · obtain rfl : x = fs.length := by omega
    rw [List.take_length] at hall
    exact Kv.Fin.still ⟨by rw [iv_true hall], rfl⟩
/-- What comes to pass: the code, or whether. -/
noncomputable def ivp (a : List (List Int)) (P : List Int) : Bool × Int :=
  if lcode a [] ≠ 0 then (false, lcode a []) else if (clOk P 0 && decide ((P.length : Int) = (a.getD 0 []).getD 0 0)) = false then (false, 2) else (iv (a.map um) P, 0)
theorem map_um (fs : List (List Nat)) : (fs.map mp).map um = fs := by
  rw [List.map_map]
  conv => rhs; rw [← List.map_id fs]
  exact List.map_congr_left fun f _ => um_mp f
/-- The code of a list and a partition. -/
def pgc (a : List (List Int)) (P : List Int) : Int :=
  if lcode a [] ≠ 0 then lcode a [] else if (clOk P 0 && decide ((P.length : Int) = (a.getD 0 []).getD 0 0)) = false then 2 else 0
theorem pgc_zero {a : List (List Int)} {P : List Int} (h : pgc a P = 0) : lcode a [] = 0 ∧ (clOk P 0 && decide ((P.length : Int) = (a.getD 0 []).getD 0 0)) = true := by
  unfold pgc at h
  by_cases h1 : lcode a [] = 0
  · rw [if_neg (by simp [h1])] at h
    refine ⟨h1, ?_⟩
    cases h2 : (clOk P 0 && decide ((P.length : Int) = (a.getD 0 []).getD 0 0)) with
    | true => rfl
    | false => rw [h2] at h; simp at h
  · rw [if_pos h1] at h; exact absurd h h1
end Go.Proofs.Ytpepbomifjbgnaa
