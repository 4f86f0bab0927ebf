/- Several texts of this session as one. -/
import Derived.Test.YtodmbkceindakaaGreatCb
import Derived.Test.YtodmbkceindakaaGreatG1
section
/- Maps, compared by the laws' functions. -/
namespace Go.Proofs.YtodmbkceindakaaGreat
open Go.Kv
set_option maxRecDepth 100000
end Go.Proofs.YtodmbkceindakaaGreat
namespace Go.Proofs.YtodmbkceindakaaGreat
open Go.Kv
set_option linter.unusedVariables false
set_option linter.unusedSimpArgs false
attribute [local irreducible] ACall PCall KL
theorem eq_of_drop {a b : List Int} (ha : a.length = 6) (hb : b.length = 6) : (a = b) ↔ (a.getD 0 0 = b.getD 0 0 ∧ (a.drop 1).take 5 = (b.drop 1).take 5) := by
  obtain ⟨x, a, rfl⟩ : ∃ x l, a = x :: l := by
    match a, ha with
    | x :: l, _ => exact ⟨x, l, rfl⟩
  obtain ⟨y, b, rfl⟩ : ∃ x l, b = x :: l := by
    match b, hb with
    | x :: l, _ => exact ⟨x, l, rfl⟩
  simp only [List.length_cons] at ha hb
  simp only [List.drop_succ_cons, List.drop_zero, List.getD_cons_zero, List.cons.injEq]
  rw [List.take_of_length_le (by omega), List.take_of_length_le (by omega)]
end Go.Proofs.YtodmbkceindakaaGreat
end
section
/- Searching in lists of maps, and deleting from them. -/
namespace Go.Proofs.YtodmbkceindakaaGreat
open Go.Kv
set_option maxRecDepth 100000
end Go.Proofs.YtodmbkceindakaaGreat
namespace Go.Proofs.YtodmbkceindakaaGreat
open Go.Kv
set_option linter.unusedVariables false
set_option linter.unusedSimpArgs false
attribute [local irreducible] ACall PCall KL
end Go.Proofs.YtodmbkceindakaaGreat
end
section
/- Lists of maps: their size, their copies, their equality; the lists that are joined. -/
namespace Go.Proofs.YtodmbkceindakaaGreat
open Go.Kv
set_option maxRecDepth 100000
/- slices.Grow[[]impl.Map,impl.Map] -/
def k60 : KC := (.seq (.ops [⟨(some 4), none, .mv (.c (.nils))⟩])
  (.seq (.seq (.ops [⟨(some 5), none, .mv (.t 1)⟩, ⟨(some 6), none, .bin .lss (.t 5) (.c (.int .i64 0))⟩])
  (.cond (.t 6) (.ops [⟨(some 7), none, .bad⟩, ⟨none, none, .bad⟩]) .skip))
  (.seq (.seq (.ops [⟨(some 8), none, .mv (.t 1)⟩, ⟨(some 9), none, .mv (.t 0)⟩, ⟨(some 10), none, .cap0 (.t 9)⟩, ⟨(some 11), none, .mv (.t 0)⟩, ⟨(some 12), none, .len false (.t 11)⟩, ⟨(some 13), none, .bin .sub (.t 10) (.t 12)⟩, ⟨(some 14), none, .bin .sub (.t 8) (.t 13)⟩, ⟨(some 1), none, .mv (.t 14)⟩])
  (.seq (.ops [⟨(some 15), none, .mv (.t 1)⟩, ⟨(some 16), none, .bin .gtr (.t 15) (.c (.int .i64 0))⟩])
  (.cond (.t 16) (.ops [⟨(some 17), none, .mv (.t 0)⟩, ⟨(some 18), none, .mv (.t 0)⟩, ⟨(some 19), none, .cap0 (.t 18)⟩, ⟨(some 20), none, .sls 6 (.t 17) none (some (.t 19))⟩, ⟨(some 21), none, .mv (.t 1)⟩, ⟨(some 22), none, .apn (.t 20) (.t 21) 41 6 (.agg [.int .i64 0, .int .i64 0, .int .i64 0, .int .i64 0, .int .i64 0, .int .i64 0])⟩, ⟨(some 23), none, .mv (.t 0)⟩, ⟨(some 24), none, .len false (.t 23)⟩, ⟨(some 25), none, .sls 6 (.t 22) none (some (.t 24))⟩, ⟨(some 0), none, .mv (.t 25)⟩]) .skip)))
  (.seq (.ops [⟨(some 26), none, .mv (.t 0)⟩, ⟨(some 4), none, .mv (.t 26)⟩])
  .ret))))
theorem e60 {args : List PV} {σ : Heap} {K : PV → Heap → Prop} (hl : args.length ≤ 27) (h : Wf σ → (∀ a ∈ args, PV.upto σ.length a) → vc (mkCfg Tryz.prog mixed [] 27 σ.length) k60 (FinK σ.length [.t 4] K) (argEnv 0 args) σ) : ACall Tryz.prog 60 args σ K :=
  ACall_enter (C := mkCfg Tryz.prog mixed [] 27 σ.length) (c := Tryz.f60.body.getD .skip) Tryz.func60 (by kernel_rfl) (by kernel_rfl) (by kernel_rfl) rfl hl (by kernel_rfl) (by kernel_rfl) h
/- slices.Concat[[]impl.Map,impl.Map] -/
/- live [0, 3, 9, 10, 11] -/
def k41_b0 : KC := (.seq (.ops [⟨(some 12), none, .bin .lss (.t 11) (.t 10)⟩])
  (.seq (.cond (.t 12) .skip (.exit 0))
  (.seq (.block 1 (.seq (.ops [⟨(some 13), none, .idxS 1 (.t 9) (.t 11)⟩, ⟨(some 14), none, .load false 1 (.t 13)⟩, ⟨(some 5), none, .mv (.t 14)⟩])
  (.seq (.ops [⟨(some 15), none, .mv (.t 3)⟩, ⟨(some 16), none, .mv (.t 5)⟩, ⟨(some 17), none, .len false (.t 16)⟩, ⟨(some 18), none, .bin .add (.t 15) (.t 17)⟩, ⟨(some 3), none, .mv (.t 18)⟩])
  (.seq (.ops [⟨(some 19), none, .mv (.t 3)⟩, ⟨(some 20), none, .bin .lss (.t 19) (.c (.int .i64 0))⟩])
  (.cond (.t 20) (.ops [⟨(some 21), none, .bad⟩, ⟨none, none, .bad⟩]) .skip)))))
  (.ops [⟨(some 22), none, .bin .add (.t 11) (.c (.int .i64 1))⟩, ⟨(some 11), none, .mv (.t 22)⟩]))))
/- live [6, 25, 26, 27] -/
def k41_b1 : KC := (.seq (.ops [⟨(some 28), none, .bin .lss (.t 27) (.t 26)⟩])
  (.seq (.cond (.t 28) .skip (.exit 2))
  (.seq (.block 3 (.seq (.ops [⟨(some 29), none, .idxS 1 (.t 25) (.t 27)⟩, ⟨(some 30), none, .load false 1 (.t 29)⟩, ⟨(some 8), none, .mv (.t 30)⟩])
  (.ops [⟨(some 31), none, .mv (.t 6)⟩, ⟨(some 32), none, .mv (.t 8)⟩, ⟨(some 33), none, .app (.t 31) (.t 32) 41 6⟩, ⟨(some 6), none, .mv (.t 33)⟩])))
  (.ops [⟨(some 34), none, .bin .add (.t 27) (.c (.int .i64 1))⟩, ⟨(some 27), none, .mv (.t 34)⟩]))))
def k41 : KC := (.seq (.ops [⟨(some 2), none, .mv (.c (.nils))⟩])
  (.seq (.ops [⟨(some 3), none, .mv (.c (.int .i64 0))⟩])
  (.seq (.seq (.ops [⟨(some 9), none, .mv (.t 0)⟩, ⟨(some 10), none, .len false (.t 9)⟩, ⟨(some 11), none, .mv (.c (.int .i64 0))⟩])
  (.block 0 (.loop k41_b0)))
  (.seq (.ops [⟨(some 23), none, .mv (.t 3)⟩, ⟨(some 24), none, .call (.c (.fn (.func 60) [] [])) [(.c (.nils)), (.t 23)]⟩, ⟨(some 6), none, .mv (.t 24)⟩])
  (.seq (.seq (.ops [⟨(some 25), none, .mv (.t 0)⟩, ⟨(some 26), none, .len false (.t 25)⟩, ⟨(some 27), none, .mv (.c (.int .i64 0))⟩])
  (.block 2 (.loop k41_b1)))
  (.seq (.ops [⟨(some 35), none, .mv (.t 6)⟩, ⟨(some 2), none, .mv (.t 35)⟩])
  .ret))))))
theorem e41 {args : List PV} {σ : Heap} {K : PV → Heap → Prop} (hl : args.length ≤ 36) (h : Wf σ → (∀ a ∈ args, PV.upto σ.length a) → vc (mkCfg Tryz.prog mixed [] 36 σ.length) k41 (FinK σ.length [.t 2] K) (argEnv 0 args) σ) : ACall Tryz.prog 41 args σ K :=
  ACall_enter (C := mkCfg Tryz.prog mixed [] 36 σ.length) (c := Tryz.f41.body.getD .skip) Tryz.func41 (by kernel_rfl) (by kernel_rfl) (by kernel_rfl) rfl hl (by kernel_rfl) (by kernel_rfl) h
end Go.Proofs.YtodmbkceindakaaGreat
namespace Go.Proofs.YtodmbkceindakaaGreat
open Go.Kv
set_option linter.unusedVariables false
set_option linter.unusedSimpArgs false
attribute [local irreducible] ACall PCall KL
theorem aggs_repl (n : Nat) : List.replicate n (PV.agg [.int .i64 0, .int .i64 0, .int .i64 0, .int .i64 0, .int .i64 0, .int .i64 0]) = aggs (List.replicate n [0, 0, 0, 0, 0, 0]) := by simp [aggs, ints]
theorem copyA_step {l : List (List Int)} {x : Nat} (z : List Int) (h : x < l.length) : (l.take x ++ List.replicate (l.length - x) z).set x (l.getD x []) = l.take (x + 1) ++ List.replicate (l.length - (x + 1)) z := by
  have e : l.length - x = (l.length - (x + 1)) + 1 := by omega
  rw [e, List.replicate_succ, List.set_append_right _ _ (by simp; omega), List.length_take, Nat.min_eq_left (by omega), Nat.sub_self, List.set_cons_zero, List.take_succ_eq_append_getElem h, List.append_assoc]
  simp [List.getD_eq_getElem?_getD, h]
theorem mixA_get {l : List (List Int)} {x : Nat} (z : List Int) (h : x < l.length) : (l.take x ++ List.replicate (l.length - x) z).getD x [] = z := by
  have e : l.length - x = (l.length - (x + 1)) + 1 := by omega
  rw [List.getD_eq_getElem?_getD, List.getElem?_append_right (by simp; omega), List.length_take, Nat.min_eq_left (by omega), Nat.sub_self, e]
  rfl
theorem takeL_succ_eq {xs ys : List (List Int)} {x : Nat} (ht : xs.take x = ys.take x) (h1 : x < xs.length) (h2 : x < ys.length) (he : xs.getD x [] = ys.getD x []) : xs.take (x + 1) = ys.take (x + 1) := by
  rw [List.take_succ_eq_append_getElem h1, List.take_succ_eq_append_getElem h2, ht]
  simp [List.getD_eq_getElem?_getD, h1, h2] at he
  rw [he]
end Go.Proofs.YtodmbkceindakaaGreat
end
section
/- Lists of maps, joined. -/
namespace Go.Proofs.YtodmbkceindakaaGreat
open Go.Kv
set_option maxRecDepth 100000
end Go.Proofs.YtodmbkceindakaaGreat
namespace Go.Proofs.YtodmbkceindakaaGreat
open Go.Kv
set_option linter.unusedVariables false
set_option linter.unusedSimpArgs false
attribute [local irreducible] ACall PCall KL
theorem p60 (n : Int) (h00 : 0 ≤ n) (hn : n ≤ 4294967296) {K : PV → Heap → Prop} (h0 : n = 0 → K .nils []) (h1 : 0 < n → K (.ref 0 0 0 0) [.arr 0 41 6 (aggs (List.replicate n.toNat [0, 0, 0, 0, 0, 0]))]) :
    ACall Tryz.prog 60 [.nils, .int .i64 n] [] K := by
  refine e60 (by simp) fun _ _ => ?_
  simp only [k60, argEnv, take6, List.drop_zero, Int.cast_ofNat_Int, go_sem, ↓reduceIte, Nat.reduceEqDiff, Nat.reduceAdd, Nat.reduceMul, Nat.reduceLeDiff, Nat.reduceLT, Int.reduceLE, Int.reduceLT, reduceCtorEq]
  repeat' (first | refine And.intro ?_ ?_ | intro _)
  all_goals (try omega)
  · rename_i hp
    have e : n - (0 - 0) = n := by omega
    rw [e, aggs_repl]
    exact Kv.Fin.now (h1 (by omega))
  · exact Kv.Fin.now (h0 (by omega))
/-- A list of maps as a value: nil, or a list. -/
inductive Ms : PV → List (List Int) → Prop
  | nil : Ms .nils []
  | list (l : List (List Int)) : Ms (.list (aggs l)) l
theorem p41 (w : PV) (a b : List (List Int)) (hw : Ms w b) (ha : a.length ≤ 1048576) (hb : b.length ≤ 1048576) (hma : ∀ r ∈ a, r.length = 6) (hmb : ∀ r ∈ b, r.length = 6) :
    ACall Tryz.prog 41 [.list [.list (aggs a), w]] [] (fun v s => ∃ ver, v = .ref 0 ver 0 (a ++ b).length ∧ s = [.arr ver 41 6 (aggs (a ++ b))]) := by
  have hoa := okL_aggs 6 a
  have hob := okL_aggs 6 b
  rw [eq_true hma] at hoa
  rw [eq_true hmb] at hob
  have hap : aggs a ++ aggs b = aggs (a ++ b) := by simp [aggs]
  have hnil : aggs ([] : List (List Int)) = [] := rfl
  cases hw
  all_goals
    refine e41 (by simp) fun _ _ => ?_
    simp only [k41, argEnv, take6, List.drop_zero, Int.cast_ofNat_Int, go_sem, ↓reduceIte, Nat.reduceEqDiff, Nat.reduceAdd, Nat.reduceMul, Nat.reduceLeDiff, Nat.reduceLT, Int.reduceLE, Int.reduceLT, reduceCtorEq]
    refine KL_round ?_
    rw [k41_b0.eq_1]
    try simp only [take6, List.drop_zero, Int.cast_ofNat_Int, go_sem, ↓reduceIte, Nat.reduceEqDiff, Nat.reduceAdd, Nat.reduceMul, Nat.reduceLeDiff, Nat.reduceLT, Int.reduceLE, Int.reduceLT, reduceCtorEq]
    repeat' (first | refine And.intro ?_ ?_ | intro _)
    all_goals (try omega)
    refine KL_round ?_
    try simp only [Int.reduceAdd, Int.reduceToNat, Int.zero_add, take6, List.drop_zero, Int.cast_ofNat_Int, go_sem, ↓reduceIte, Nat.reduceEqDiff, Nat.reduceAdd, Nat.reduceMul, Nat.reduceLeDiff, Nat.reduceLT, Int.reduceLE, Int.reduceLT, reduceCtorEq]
    repeat' (first | refine And.intro ?_ ?_ | intro _)
    all_goals (try omega)
    refine KL_round ?_
    try simp only [Int.reduceAdd, Int.reduceToNat, Int.zero_add, take6, List.drop_zero, Int.cast_ofNat_Int, go_sem, ↓reduceIte, Nat.reduceEqDiff, Nat.reduceAdd, Nat.reduceMul, Nat.reduceLeDiff, Nat.reduceLT, Int.reduceLE, Int.reduceLT, reduceCtorEq]
    repeat' (first | refine And.intro ?_ ?_ | intro _)
    all_goals (try omega)
    refine (p60 _ (by omega) (by omega) (fun h0 => ?_) (fun h0 => ?_))
  all_goals
    try simp only [take6, List.drop_zero, Int.cast_ofNat_Int, go_sem, ↓reduceIte, Nat.reduceEqDiff, Nat.reduceAdd, Nat.reduceMul, Nat.reduceLeDiff, Nat.reduceLT, Int.reduceLE, Int.reduceLT, reduceCtorEq]
    refine KL_round ?_
    rw [k41_b1.eq_1]
    try simp only [hoa, hob, hap, hnil, take6, List.drop_zero, Int.cast_ofNat_Int, go_sem, ↓reduceIte, Nat.reduceEqDiff, Nat.reduceAdd, Nat.reduceMul, Nat.reduceLeDiff, Nat.reduceLT, Int.reduceLE, Int.reduceLT, reduceCtorEq]
    repeat' (first | refine And.intro ?_ ?_ | intro _)
    all_goals (try omega)
    refine KL_round ?_
    try simp only [Int.reduceAdd, Int.reduceToNat, Int.zero_add, hoa, hob, hap, hnil, take6, List.drop_zero, Int.cast_ofNat_Int, go_sem, ↓reduceIte, Nat.reduceEqDiff, Nat.reduceAdd, Nat.reduceMul, Nat.reduceLeDiff, Nat.reduceLT, Int.reduceLE, Int.reduceLT, reduceCtorEq]
    repeat' (first | refine And.intro ?_ ?_ | intro _)
    all_goals (try omega)
    refine KL_round ?_
    try simp only [Int.reduceAdd, Int.reduceToNat, Int.zero_add, hoa, hob, hap, hnil, take6, List.drop_zero, Int.cast_ofNat_Int, go_sem, ↓reduceIte, Nat.reduceEqDiff, Nat.reduceAdd, Nat.reduceMul, Nat.reduceLeDiff, Nat.reduceLT, Int.reduceLE, Int.reduceLT, reduceCtorEq]
    repeat' (first | refine And.intro ?_ ?_ | intro _)
    all_goals (try omega)
    refine Kv.Fin.now ?_
  · exact ⟨1, rfl, rfl⟩
  · exact ⟨2, rfl, by simp⟩
  · exact ⟨1, rfl, rfl⟩
  · exact ⟨2, rfl, by simp⟩
theorem Imm.refs {σ : Heap} {id ver n : Nat} {e : TypeId} {cs : List PV} (h : σ[id]? = some (.arr ver e 1 cs)) (hn : n = cs.length) (hc : ∀ c ∈ cs, c.cs = [c] ∧ c.ok = true ∧ Still c) : Imm σ (.ref id ver 0 n) (.list cs) := by
  subst hn
  exact .ref id ver 0 cs.length e 1 cs cs h (by simp) rfl
    (fun i x d hx hd => by simp only [Nat.zero_add, hd, Option.some.injEq] at hx; subst hx; have h1 := hc _ (List.mem_of_getElem? hd); rw [h1.1]; exact ⟨rfl, by simp [h1.2.1]⟩)
    (fun i x d j c c' hx hd hcc hc' => by
      simp only [Nat.zero_add, hd, Option.some.injEq] at hx; subst hx
      have h1 := hc _ (List.mem_of_getElem? hd)
      rw [hcc] at hc'; cases hc'
      rw [h1.1] at hcc
      have := List.mem_of_getElem? hcc
      simp only [List.mem_singleton] at this; subst this
      have := h1.2.2
      exact Imm.still)
theorem Ms.still {w : PV} {l : List (List Int)} (h : Ms w l) : w.cs = [w] ∧ w.ok = true ∧ Still w := by
  cases h
  · exact ⟨rfl, rfl, inferInstance⟩
  · exact ⟨rfl, rfl, inferInstance⟩
theorem p41L (σ : Heap) (id : Nat) (w : PV) (a b : List (List Int)) (hw : Ms w b) (hid : σ[id]? = some (.arr 0 24 1 [.list (aggs a), w])) (ha : a.length ≤ 1048576) (hb : b.length ≤ 1048576) (hma : ∀ r ∈ a, r.length = 6) (hmb : ∀ r ∈ b, r.length = 6) {K : PV → Heap → Prop}
    (hK : ∀ ver, K (.ref σ.length ver 0 (a ++ b).length) (σ ++ [.arr ver 41 6 (aggs (a ++ b))])) :
    ACall Tryz.prog 41 [.ref id 0 0 2] σ K := by
  have him : Imm σ (.ref id 0 0 2) (.list [.list (aggs a), w]) := Imm.refs hid rfl fun c hc => by
    simp only [List.mem_cons, List.not_mem_nil, or_false] at hc
    rcases hc with rfl | rfl
    · exact ⟨rfl, rfl, inferInstance⟩
    · exact hw.still
  refine ACall.lend (p41 w a b hw ha hb hma hmb) (.cons him (.nil _)) fun v s ⟨ver, hv, hs⟩ => ?_
  subst hv; subst hs
  refine ⟨⟨free_ref _ _ _ _, ?_⟩, ?_⟩
  · intro o ho
    simp only [List.mem_singleton] at ho; subst ho
    exact fun c hc => (flat_aggs c hc).fr
  · simpa only [ren_ref, ren_arr, ren_aggs, List.map_cons, List.map_nil, sh_def, Nat.zero_add] using hK ver
end Go.Proofs.YtodmbkceindakaaGreat
end
section
/- Counts by formula: choose, power, and the number of idempotents. -/
namespace Go.Proofs.YtodmbkceindakaaGreat
open Go.Kv
set_option maxRecDepth 100000
end Go.Proofs.YtodmbkceindakaaGreat
namespace Go.Proofs.YtodmbkceindakaaGreat
open Go.Kv
set_option linter.unusedVariables false
set_option linter.unusedSimpArgs false
attribute [local irreducible] ACall PCall KL
def ch (n : Nat) : Nat → Int
  | 0 => 1
  | i + 1 => ch n i * ((n : Int) - i) / ((i : Int) + 1)
theorem ch_bound : ∀ n < 13, ∀ i < 13, i ≤ n → 1 ≤ ch n i ∧ ch n i ≤ 1000 := by decide
theorem pow_bound : ∀ b < 13, ∀ i < 13, 0 ≤ ((b : Nat) : Int) ^ i ∧ ((b : Nat) : Int) ^ i ≤ 10000000000000 := by decide
def si (n : Nat) : Nat → Int
  | 0 => 0
  | k + 1 => si n k + ch n (k + 1) * (((k + 1 : Nat) : Int) ^ (n - (k + 1)))
theorem si_bound : ∀ n < 13, ∀ i < 13, i ≤ n → 0 ≤ si n i ∧ si n i ≤ 100000000000000 := by decide
theorem term_bound : ∀ n < 13, ∀ i < 13, i ≤ n → 0 ≤ ch n i * ((i : Int) ^ (n - i)) ∧ ch n i * ((i : Int) ^ (n - i)) ≤ 100000000000000 := by decide
def cnt (a : Int) : Int := if 1 ≤ a ∧ a ≤ 12 then si a.toNat a.toNat else 0
def cerr (a : Int) : Int := if 1 ≤ a ∧ a ≤ 12 then 0 else 2
theorem plain2 (a b : Int) : Plain (.tup [.int .i64 a, .int .i64 b]) := .tup fun c hc => by
  simp only [List.mem_cons, List.not_mem_nil, or_false] at hc
  rcases hc with rfl | rfl <;> exact .int _ _
end Go.Proofs.YtodmbkceindakaaGreat
end
section
/- The code of lists of maps: both sides. -/
namespace Go.Proofs.YtodmbkceindakaaGreat
open Go.Kv
set_option maxRecDepth 100000
/- impl.listCode -/
/- live [0, 1, 12, 13, 14] -/
def k24_b0 : KC := (.seq (.ops [⟨(some 15), none, .bin .lss (.t 14) (.t 13)⟩])
  (.seq (.cond (.t 15) .skip (.exit 0))
  (.seq (.block 1 (.seq (.ops [⟨(some 16), none, .idxS 6 (.t 12) (.t 14)⟩, ⟨(some 17), none, .load true 6 (.t 16)⟩, ⟨(some 6), none, .alloc [.int .i64 0, .int .i64 0, .int .i64 0, .int .i64 0, .int .i64 0, .int .i64 0]⟩, ⟨none, none, .store 6 (.t 6) (.t 17)⟩])
  (.seq (.ops [⟨(some 18), none, .load true 6 (.t 6)⟩, ⟨(some 19), none, .call (.c (.fn (.func 42) [] [])) [(.t 18)]⟩, ⟨(some 20), none, .not (.t 19)⟩])
  (.cond (.t 20) (.seq (.ops [⟨(some 4), none, .mv (.c (.int .i64 1))⟩])
  .ret) .skip))))
  (.ops [⟨(some 21), none, .bin .add (.t 14) (.c (.int .i64 1))⟩, ⟨(some 14), none, .mv (.t 21)⟩]))))
/- live [0, 29, 30, 31] -/
def k24_b1 : KC := (.seq (.ops [⟨(some 32), none, .bin .lss (.t 31) (.t 30)⟩])
  (.seq (.cond (.t 32) .skip (.exit 2))
  (.seq (.block 3 (.seq (.ops [⟨(some 33), none, .idxS 6 (.t 29) (.t 31)⟩, ⟨(some 34), none, .load true 6 (.t 33)⟩, ⟨(some 8), none, .alloc [.int .i64 0, .int .i64 0, .int .i64 0, .int .i64 0, .int .i64 0, .int .i64 0]⟩, ⟨none, none, .store 6 (.t 8) (.t 34)⟩])
  (.seq (.draw [⟨(some 35), none, .fieldA 0 (.t 8)⟩, ⟨(some 36), none, .load false 1 (.t 35)⟩, ⟨(some 37), none, .mv (.t 0)⟩, ⟨(some 38), none, .idxS 6 (.t 37) (.c (.int .i64 0))⟩, ⟨(some 39), none, .fieldA 0 (.t 38)⟩, ⟨(some 40), none, .load false 1 (.t 39)⟩, ⟨(some 41), none, .bin .neq (.t 36) (.t 40)⟩])
  (.cond (.t 41) (.seq (.ops [⟨(some 4), none, .mv (.c (.int .i64 2))⟩])
  .ret) .skip))))
  (.ops [⟨(some 42), none, .bin .add (.t 31) (.c (.int .i64 1))⟩, ⟨(some 31), none, .mv (.t 42)⟩]))))
def k24 : KC := (.seq (.ops [⟨(some 4), none, .mv (.c (.int .i64 0))⟩])
  (.seq (.seq (.ops [⟨(some 9), none, .mv (.t 0)⟩, ⟨(some 10), none, .mv (.t 1)⟩, ⟨(some 11), none, .bsl false 24 1 [(.t 9), (.t 10)]⟩, ⟨(some 12), none, .call (.c (.fn (.func 41) [] [])) [(.t 11)]⟩, ⟨(some 13), none, .len false (.t 12)⟩, ⟨(some 14), none, .mv (.c (.int .i64 0))⟩])
  (.block 0 (.loop k24_b0)))
  (.seq (.seq (.ops [⟨(some 22), none, .mv (.t 0)⟩, ⟨(some 23), none, .len false (.t 22)⟩, ⟨(some 24), none, .call (.c (.fn (.func 43) [] [])) [(.t 23), (.c (.int .i64 1)), (.c (.int .i64 6))]⟩, ⟨(some 25), none, .not (.t 24)⟩])
  (.cond (.t 25) (.seq (.ops [⟨(some 4), none, .mv (.c (.int .i64 2))⟩])
  .ret) .skip))
  (.seq (.seq (.ops [⟨(some 26), none, .mv (.t 0)⟩, ⟨(some 27), none, .mv (.t 1)⟩, ⟨(some 28), none, .bsl false 24 1 [(.t 26), (.t 27)]⟩, ⟨(some 29), none, .call (.c (.fn (.func 41) [] [])) [(.t 28)]⟩, ⟨(some 30), none, .len false (.t 29)⟩, ⟨(some 31), none, .mv (.c (.int .i64 0))⟩])
  (.block 2 (.loop k24_b1)))
  (.seq (.ops [⟨(some 4), none, .mv (.c (.int .i64 0))⟩])
  .ret)))))
theorem e24 {args : List PV} {σ : Heap} {K : PV → Heap → Prop} (hl : args.length ≤ 43) (h : Wf σ → (∀ a ∈ args, PV.upto σ.length a) → vc (mkCfg Tryz.prog mixed [] 43 σ.length) k24 (FinK σ.length [.t 4] K) (argEnv 0 args) σ) : ACall Tryz.prog 24 args σ K :=
  ACall_enter (C := mkCfg Tryz.prog mixed [] 43 σ.length) (c := Tryz.f24.body.getD .skip) Tryz.func24 (by kernel_rfl) (by kernel_rfl) (by kernel_rfl) rfl hl (by kernel_rfl) (by kernel_rfl) h
/- spec.l02Given -/
/- live [0, 1, 5] -/
def k30_b0 : KC := (.seq (.seq (.ops [⟨(some 8), none, .mv (.t 5)⟩, ⟨(some 9), none, .mv (.t 0)⟩, ⟨(some 10), none, .len false (.t 9)⟩, ⟨(some 11), none, .bin .lss (.t 8) (.t 10)⟩])
  (.cond (.t 11) .skip (.exit 0)))
  (.seq (.block 1 (.seq (.ops [⟨(some 14), none, .mv (.t 0)⟩, ⟨(some 15), none, .mv (.t 5)⟩, ⟨(some 16), none, .idxS 6 (.t 14) (.t 15)⟩, ⟨(some 17), none, .load true 6 (.t 16)⟩, ⟨(some 18), none, .call (.c (.fn (.func 50) [] [])) [(.t 17)]⟩, ⟨(some 19), none, .not (.t 18)⟩])
  (.cond (.t 19) (.seq (.ops [⟨(some 4), none, .mv (.c (.int .i64 1))⟩])
  .ret) .skip)))
  (.ops [⟨(some 12), none, .mv (.t 5)⟩, ⟨(some 13), none, .bin .add (.t 12) (.c (.int .i64 1))⟩, ⟨(some 5), none, .mv (.t 13)⟩])))
/- live [0, 1, 6] -/
def k30_b1 : KC := (.seq (.seq (.ops [⟨(some 20), none, .mv (.t 6)⟩, ⟨(some 21), none, .mv (.t 1)⟩, ⟨(some 22), none, .len false (.t 21)⟩, ⟨(some 23), none, .bin .lss (.t 20) (.t 22)⟩])
  (.cond (.t 23) .skip (.exit 2)))
  (.seq (.block 3 (.seq (.ops [⟨(some 26), none, .mv (.t 1)⟩, ⟨(some 27), none, .mv (.t 6)⟩, ⟨(some 28), none, .idxS 6 (.t 26) (.t 27)⟩, ⟨(some 29), none, .load true 6 (.t 28)⟩, ⟨(some 30), none, .call (.c (.fn (.func 50) [] [])) [(.t 29)]⟩, ⟨(some 31), none, .not (.t 30)⟩])
  (.cond (.t 31) (.seq (.ops [⟨(some 4), none, .mv (.c (.int .i64 1))⟩])
  .ret) .skip)))
  (.ops [⟨(some 24), none, .mv (.t 6)⟩, ⟨(some 25), none, .bin .add (.t 24) (.c (.int .i64 1))⟩, ⟨(some 6), none, .mv (.t 25)⟩])))
/- live [0, 1, 7] -/
def k30_b2 : KC := (.seq (.seq (.ops [⟨(some 35), none, .mv (.t 7)⟩, ⟨(some 36), none, .mv (.t 1)⟩, ⟨(some 37), none, .len false (.t 36)⟩, ⟨(some 38), none, .bin .lss (.t 35) (.t 37)⟩])
  (.cond (.t 38) .skip (.exit 4)))
  (.seq (.block 5 (.seq (.draw [⟨(some 41), none, .mv (.t 1)⟩, ⟨(some 42), none, .mv (.t 7)⟩, ⟨(some 43), none, .idxS 6 (.t 41) (.t 42)⟩, ⟨(some 44), none, .fieldA 0 (.t 43)⟩, ⟨(some 45), none, .load false 1 (.t 44)⟩, ⟨(some 46), none, .mv (.t 0)⟩, ⟨(some 47), none, .idxS 6 (.t 46) (.c (.int .i64 0))⟩, ⟨(some 48), none, .fieldA 0 (.t 47)⟩, ⟨(some 49), none, .load false 1 (.t 48)⟩, ⟨(some 50), none, .bin .neq (.t 45) (.t 49)⟩])
  (.cond (.t 50) (.seq (.ops [⟨(some 4), none, .mv (.c (.int .i64 2))⟩])
  .ret) .skip)))
  (.ops [⟨(some 39), none, .mv (.t 7)⟩, ⟨(some 40), none, .bin .add (.t 39) (.c (.int .i64 1))⟩, ⟨(some 7), none, .mv (.t 40)⟩])))
def k30 : KC := (.seq (.ops [⟨(some 4), none, .mv (.c (.int .i64 0))⟩])
  (.seq (.seq (.ops [⟨(some 5), none, .mv (.c (.int .i64 0))⟩])
  (.block 0 (.loop k30_b0)))
  (.seq (.seq (.ops [⟨(some 6), none, .mv (.c (.int .i64 0))⟩])
  (.block 2 (.loop k30_b1)))
  (.seq (.seq (.ops [⟨(some 32), none, .mv (.t 0)⟩, ⟨(some 33), none, .call (.c (.fn (.func 51) [] [])) [(.t 32)]⟩, ⟨(some 34), none, .not (.t 33)⟩])
  (.cond (.t 34) (.seq (.ops [⟨(some 4), none, .mv (.c (.int .i64 2))⟩])
  .ret) .skip))
  (.seq (.seq (.ops [⟨(some 7), none, .mv (.c (.int .i64 0))⟩])
  (.block 4 (.loop k30_b2)))
  (.seq (.ops [⟨(some 4), none, .mv (.c (.int .i64 0))⟩])
  .ret))))))
theorem e30 {args : List PV} {σ : Heap} {K : PV → Heap → Prop} (hl : args.length ≤ 51) (h : Wf σ → (∀ a ∈ args, PV.upto σ.length a) → vc (mkCfg Tryz.prog mixed [] 51 σ.length) k30 (FinK σ.length [.t 4] K) (argEnv 0 args) σ) : ACall Tryz.prog 30 args σ K :=
  ACall_enter (C := mkCfg Tryz.prog mixed [] 51 σ.length) (c := Tryz.f30.body.getD .skip) Tryz.func30 (by kernel_rfl) (by kernel_rfl) (by kernel_rfl) rfl hl (by kernel_rfl) (by kernel_rfl) h
/- spec.l01Same -/
/- live [0, 3, 25, 26, 27, 28, 29, 30, 31, 32, 33, 34] -/
def k51_b0 : KC := (.seq (.seq (.ops [⟨(some 12), none, .mv (.t 3)⟩, ⟨(some 13), none, .mv (.t 0)⟩, ⟨(some 14), none, .len false (.t 13)⟩, ⟨(some 15), none, .bin .lss (.t 12) (.t 14)⟩])
  (.cond (.t 15) .skip (.exit 0)))
  (.seq (.block 1 (.seq (.draw [⟨(some 18), none, .mv (.t 0)⟩, ⟨(some 19), none, .mv (.t 3)⟩, ⟨(some 20), none, .idxS 6 (.t 18) (.t 19)⟩, ⟨(some 21), none, .load true 6 (.t 20)⟩, ⟨(some 22), none, .pcall (.c (.fn (.func 50) [] [])) [(.t 21)]⟩, ⟨(some 23), none, .not (.t 22)⟩, ⟨(some 24), none, .mv (.t 23)⟩, ⟨(some 25), some (24, false), .mv (.t 0)⟩, ⟨(some 26), some (24, false), .mv (.t 3)⟩, ⟨(some 27), some (24, false), .idxS 6 (.t 25) (.t 26)⟩, ⟨(some 28), some (24, false), .fieldA 0 (.t 27)⟩, ⟨(some 29), some (24, false), .load false 1 (.t 28)⟩, ⟨(some 30), some (24, false), .mv (.t 0)⟩, ⟨(some 31), some (24, false), .idxS 6 (.t 30) (.c (.int .i64 0))⟩, ⟨(some 32), some (24, false), .fieldA 0 (.t 31)⟩, ⟨(some 33), some (24, false), .load false 1 (.t 32)⟩, ⟨(some 34), some (24, false), .bin .neq (.t 29) (.t 33)⟩, ⟨(some 35), none, .pick (.t 24) (.c (.bool true)) (.t 34)⟩])
  (.cond (.t 35) (.seq (.ops [⟨(some 2), none, .mv (.c (.bool false))⟩])
  .ret) .skip)))
  (.ops [⟨(some 16), none, .mv (.t 3)⟩, ⟨(some 17), none, .bin .add (.t 16) (.c (.int .i64 1))⟩, ⟨(some 3), none, .mv (.t 17)⟩])))
def k51 : KC := (.seq (.ops [⟨(some 2), none, .mv (.c (.bool false))⟩])
  (.seq (.seq (.ops [⟨(some 4), none, .mv (.t 0)⟩, ⟨(some 5), none, .len false (.t 4)⟩, ⟨(some 6), none, .bin .lss (.t 5) (.c (.int .i64 1))⟩, ⟨(some 7), none, .mv (.t 6)⟩, ⟨(some 8), some (7, false), .mv (.t 0)⟩, ⟨(some 9), some (7, false), .len false (.t 8)⟩, ⟨(some 10), some (7, false), .bin .gtr (.t 9) (.c (.int .i64 6))⟩, ⟨(some 11), none, .pick (.t 7) (.c (.bool true)) (.t 10)⟩])
  (.cond (.t 11) (.seq (.ops [⟨(some 2), none, .mv (.c (.bool false))⟩])
  .ret) .skip))
  (.seq (.seq (.ops [⟨(some 3), none, .mv (.c (.int .i64 0))⟩])
  (.block 0 (.loop k51_b0)))
  (.seq (.ops [⟨(some 2), none, .mv (.c (.bool true))⟩])
  .ret))))
theorem e51 {args : List PV} {σ : Heap} {K : PV → Heap → Prop} (hl : args.length ≤ 36) (h : Wf σ → (∀ a ∈ args, PV.upto σ.length a) → vc (mkCfg Tryz.prog mixed [] 36 σ.length) k51 (FinK σ.length [.t 2] K) (argEnv 0 args) σ) : ACall Tryz.prog 51 args σ K :=
  ACall_enter (C := mkCfg Tryz.prog mixed [] 36 σ.length) (c := Tryz.f51.body.getD .skip) Tryz.func51 (by kernel_rfl) (by kernel_rfl) (by kernel_rfl) rfl hl (by kernel_rfl) (by kernel_rfl) h
end Go.Proofs.YtodmbkceindakaaGreat
namespace Go.Proofs.YtodmbkceindakaaGreat
open Go.Kv
set_option linter.unusedVariables false
set_option linter.unusedSimpArgs false
attribute [local irreducible] ACall PCall KL
/-- What a list of maps and some more come to: none is no map, their number, their points. -/
def lcode (a b : List (List Int)) : Int :=
  if (a ++ b).all isM = false then 1 else if ¬ (1 ≤ a.length ∧ a.length ≤ 6) then 2 else if (a ++ b).all (fun r => decide (r.getD 0 0 = (a.getD 0 []).getD 0 0)) = false then 2 else 0
theorem all_false {α : Type} {l : List α} {x : Nat} {p : α → Bool} (h : x < l.length) (hp : p l[x] = false) : l.all p = false := by
  rw [List.all_eq_false]; exact ⟨l[x], List.getElem_mem h, by simp [hp]⟩
theorem p24 (w : PV) (a b : List (List Int)) (hw : Ms w b) (ha : a.length ≤ 1048576) (hb : b.length ≤ 1048576) (hma : ∀ r ∈ a, r.length = 6) (hmb : ∀ r ∈ b, r.length = 6) :
    Pure Tryz.prog 24 [.list (aggs a), w] (.int .i64 (lcode a b)) := by
  have hab : ∀ r ∈ a ++ b, r.length = 6 := fun r hr => (List.mem_append.1 hr).elim (hma r) (hmb r)
  have hlab : (a ++ b).length ≤ 2097152 := by simp; omega
  have hwu : ∀ n, w.undr n = true := fun n => by cases hw <;> simp [PV.undr, undrX_aggs]
  have hwc := hw.still
  have hwk : w.cs.length = 1 := by rw [hwc.1]; rfl
  have hwk2 : w.cs.all PV.ok = true := by rw [hwc.1]; simp [hwc.2.1]
  refine e24 (by simp) fun _ _ => ?_
  simp only [k24, argEnv, OpK_eq, hwk, hwk2, take6, List.drop_zero, Int.cast_ofNat_Int, go_sem, ↓reduceIte, Nat.reduceEqDiff, Nat.reduceAdd, Nat.reduceMul, Nat.reduceLeDiff, Nat.reduceLT, Int.reduceLE, Int.reduceLT, reduceCtorEq]
  refine p41L _ 0 w a b hw rfl ha hb hma hmb fun ver => ?_
  try simp only [take6, List.drop_zero, Int.cast_ofNat_Int, go_sem, ↓reduceIte, Nat.reduceEqDiff, Nat.reduceAdd, Nat.reduceMul, Nat.reduceLeDiff, Nat.reduceLT, Int.reduceLE, Int.reduceLT, reduceCtorEq]
  have hsum : a.length + b.length = (a ++ b).length := by simp
  rw [hsum]
  have hlc : lcode a b = if (a ++ b).all isM = false then 1 else if ¬ (1 ≤ a.length ∧ a.length ≤ 6) then 2 else if (a ++ b).all (fun r => decide (r.getD 0 0 = (a.getD 0 []).getD 0 0)) = false then 2 else 0 := rfl
  generalize hL : a ++ b = l at *
  refine KL_indD k24_b0.eq_1 (fun x : Nat => [(0, .list (aggs a)), (1, w), (12, .ref 1 ver 0 l.length), (13, .int .i64 l.length), (14, .int .i64 x)]) (fun _ => [.arr 0 24 1 [.list (aggs a), w], .arr ver 41 6 (aggs l)]) (fun x => x ≤ l.length ∧ (l.take x).all isM = true) (fun x => l.length - x) [0, 1, 12, 13, 14] 0 (by rfl) ⟨[], rfl⟩ ⟨Nat.zero_le _, by simp⟩ (fun x hx => ?_) fun x ⟨hx, hall⟩ ih => ?_
  · refine ⟨Nat.zero_le _, ?_, ?_⟩
    · exact Env.undr_upto (by simp [Env.undr, PV.undr, hwu, undrX_aggs])
    · exact .cons (by simp [AObj.undr, PV.undr, PV.undrX, hwu, undrX_aggs]) (.cons (by simp [AObj.undr, undrX_aggs]) (.nil _))
  try simp only [take6, List.drop_zero, Int.cast_ofNat_Int, go_sem, ↓reduceIte, Nat.reduceEqDiff, Nat.reduceAdd, Nat.reduceMul, Nat.reduceLeDiff, Nat.reduceLT, Int.reduceLE, Int.reduceLT, reduceCtorEq]
  refine ⟨fun h1 => ⟨by omega, by omega, fun h2 => ?_⟩, fun h1 => ?_⟩
  · have h6 := hab _ (List.getElem_mem h2)
    rw [getD_eq h2]
    try simp only [h6, take6, List.drop_zero, Int.cast_ofNat_Int, go_sem, ↓reduceIte, Nat.reduceEqDiff, Nat.reduceAdd, Nat.reduceMul, Nat.reduceLeDiff, Nat.reduceLT, Int.reduceLE, Int.reduceLT, reduceCtorEq]
    refine (p42 _ h6).go ?_
    try simp only [take6, List.drop_zero, Int.cast_ofNat_Int, go_sem, ↓reduceIte, Nat.reduceEqDiff, Nat.reduceAdd, Nat.reduceMul, Nat.reduceLeDiff, Nat.reduceLT, Int.reduceLE, Int.reduceLT, reduceCtorEq]
    refine ⟨fun h3 => ?_, fun h3 => ⟨by omega, ?_⟩⟩
    · refine Kv.Fin.still ⟨?_, rfl⟩
      rw [hlc, if_pos (all_false h2 h3)]
    · refine ih (x + 1) ⟨by omega, ?_⟩ (by omega) _ _ (by rfl) ⟨[_], rfl⟩
      rw [all_take_succ _ h2, hall, h3]; rfl
  · obtain rfl : x = l.length := by omega
    rw [List.take_length] at hall
    have hlc : lcode a b = if ¬ (1 ≤ a.length ∧ a.length ≤ 6) then 2 else if l.all (fun r => decide (r.getD 0 0 = (a.getD 0 []).getD 0 0)) = false then 2 else 0 := by rw [hlc, if_neg (by rw [hall]; simp)]
    refine (p43 _ _ _).go ?_
    try simp only [take6, List.drop_zero, Int.cast_ofNat_Int, go_sem, ↓reduceIte, Nat.reduceEqDiff, Nat.reduceAdd, Nat.reduceMul, Nat.reduceLeDiff, Nat.reduceLT, Int.reduceLE, Int.reduceLT, reduceCtorEq]
    refine ⟨fun h2 => Kv.Fin.still ⟨by rw [hlc, if_pos (by omega)], rfl⟩, fun h2 => ?_⟩
    have hlc : lcode a b = if l.all (fun r => decide (r.getD 0 0 = (a.getD 0 []).getD 0 0)) = false then 2 else 0 := by rw [hlc, if_neg (by omega)]
    try simp only [OpK_eq, hwk, hwk2, take6, List.drop_zero, Int.cast_ofNat_Int, go_sem, ↓reduceIte, Nat.reduceEqDiff, Nat.reduceAdd, Nat.reduceMul, Nat.reduceLeDiff, Nat.reduceLT, Int.reduceLE, Int.reduceLT, reduceCtorEq]
    refine p41L _ 2 w a b hw rfl ha hb hma hmb fun ver2 => ?_
    rw [hL]
    try simp only [take6, List.drop_zero, Int.cast_ofNat_Int, go_sem, ↓reduceIte, Nat.reduceEqDiff, Nat.reduceAdd, Nat.reduceMul, Nat.reduceLeDiff, Nat.reduceLT, Int.reduceLE, Int.reduceLT, reduceCtorEq]
    have h0 : 0 < a.length := by omega
    have h06 : (a.getD 0 []).length = 6 := by rw [getD_eq h0]; exact hma _ (List.getElem_mem h0)
    refine KL_indD k24_b1.eq_1 (fun x : Nat => [(0, .list (aggs a)), (29, .ref 3 ver2 0 l.length), (30, .int .i64 l.length), (31, .int .i64 x)]) (fun _ => [.arr 0 24 1 [.list (aggs a), w], .arr ver 41 6 (aggs l), .arr 0 24 1 [.list (aggs a), w], .arr ver2 41 6 (aggs l)]) (fun x => x ≤ l.length ∧ (l.take x).all (fun r => decide (r.getD 0 0 = (a.getD 0 []).getD 0 0)) = true) (fun x => l.length - x) [0, 29, 30, 31] 0 (by rfl) ⟨[], rfl⟩ ⟨Nat.zero_le _, by simp⟩ (fun x hx => ?_) fun x ⟨hx, hall⟩ ih => ?_
    · refine ⟨Nat.zero_le _, ?_, ?_⟩
      · exact Env.undr_upto (by simp [Env.undr, PV.undr, hwu, undrX_aggs])
      · exact .cons (by simp [AObj.undr, PV.undr, PV.undrX, hwu, undrX_aggs]) (.cons (by simp [AObj.undr, undrX_aggs]) (.cons (by simp [AObj.undr, PV.undr, PV.undrX, hwu, undrX_aggs]) (.cons (by simp [AObj.undr, undrX_aggs]) (.nil _))))
    try simp only [take6, List.drop_zero, Int.cast_ofNat_Int, go_sem, ↓reduceIte, Nat.reduceEqDiff, Nat.reduceAdd, Nat.reduceMul, Nat.reduceLeDiff, Nat.reduceLT, Int.reduceLE, Int.reduceLT, reduceCtorEq]
    refine ⟨fun h1 => ⟨by omega, by omega, fun h2 => ?_⟩, fun h1 => ?_⟩
    · have h6 := hab _ (List.getElem_mem h2)
      rw [getD_eq h2]
      try simp only [h6, h06, h0, take6, List.drop_zero, Int.cast_ofNat_Int, go_sem, ↓reduceIte, Nat.reduceEqDiff, Nat.reduceAdd, Nat.reduceMul, Nat.reduceLeDiff, Nat.reduceLT, Int.reduceLE, Int.reduceLT, reduceCtorEq]
      refine ⟨by omega, fun h3 => ?_, fun h3 => ⟨by omega, ?_⟩⟩
      · refine Kv.Fin.still ⟨?_, rfl⟩
        rw [hlc, if_pos (all_false h2 (by simpa using h3))]
      · refine ih (x + 1) ⟨by omega, ?_⟩ (by omega) _ _ (by rfl) ⟨[_], rfl⟩
        rw [all_take_succ _ h2, hall, h3]; simp
    · obtain rfl : x = l.length := by omega
      rw [List.take_length] at hall
      exact Kv.Fin.still ⟨by rw [hlc, if_neg (by rw [hall]; simp)], rfl⟩
/-- Maps of one number of points. -/
def same (l : List (List Int)) : Bool := decide (1 ≤ l.length ∧ l.length ≤ 6) && l.all fun r => isM r && decide (r.getD 0 0 = (l.getD 0 []).getD 0 0)
theorem p51 (l : List (List Int)) (hl : l.length ≤ 1048576) (hm : ∀ r ∈ l, r.length = 6) : Pure Tryz.prog 51 [.list (aggs l)] (.bool (same l)) := by
  have hsame : same l = (decide (1 ≤ l.length ∧ l.length ≤ 6) && l.all fun r => isM r && decide (r.getD 0 0 = (l.getD 0 []).getD 0 0)) := rfl
  refine e51 (by simp) fun _ _ => ?_
  simp only [k51, argEnv, take6, List.drop_zero, Int.cast_ofNat_Int, go_sem, ↓reduceIte, Nat.reduceEqDiff, Nat.reduceAdd, Nat.reduceMul, Nat.reduceLeDiff, Nat.reduceLT, Int.reduceLE, Int.reduceLT, reduceCtorEq]
  refine ⟨fun h1 => ⟨fun h2 => ?_, fun h2 => ?_⟩, fun h1 => ?_⟩
  · exact Kv.Fin.still ⟨by rw [hsame, decide_eq_false (by omega)]; rfl, rfl⟩
  · have hsame : same l = l.all fun r => isM r && decide (r.getD 0 0 = (l.getD 0 []).getD 0 0) := by rw [hsame, decide_eq_true (by omega), Bool.true_and]
    have h0 : 0 < l.length := by omega
    have h06 : (l.getD 0 []).length = 6 := by rw [getD_eq h0]; exact hm _ (List.getElem_mem h0)
    refine KL_ind k51_b0.eq_1 (fun x : Nat => [(0, .list (aggs l)), (3, .int .i64 x)]) (fun _ => []) (fun x => x ≤ l.length ∧ (l.take x).all (fun r => isM r && decide (r.getD 0 0 = (l.getD 0 []).getD 0 0)) = true) (fun x => l.length - x) [0, 3] 0 (by rfl) rfl ⟨Nat.zero_le _, by simp⟩ fun x ⟨hx, hall⟩ ih => ?_
    try simp only [take6, List.drop_zero, Int.cast_ofNat_Int, go_sem, ↓reduceIte, Nat.reduceEqDiff, Nat.reduceAdd, Nat.reduceMul, Nat.reduceLeDiff, Nat.reduceLT, Int.reduceLE, Int.reduceLT, reduceCtorEq]
    refine ⟨fun h3 => ⟨by omega, fun h4 => ?_⟩, fun h3 => ?_⟩
    · have h6 := hm _ (List.getElem_mem h4)
      rw [getD_eq h4]
      try simp only [h6, take6, List.drop_zero, Int.cast_ofNat_Int, go_sem, ↓reduceIte, Nat.reduceEqDiff, Nat.reduceAdd, Nat.reduceMul, Nat.reduceLeDiff, Nat.reduceLT, Int.reduceLE, Int.reduceLT, reduceCtorEq]
      refine (p50 _ h6).pgo ?_
      cases hM : isM l[x] with
      | false =>
        try simp only [take6, List.drop_zero, Int.cast_ofNat_Int, go_sem, ↓reduceIte, Nat.reduceEqDiff, Nat.reduceAdd, Nat.reduceMul, Nat.reduceLeDiff, Nat.reduceLT, Int.reduceLE, Int.reduceLT, reduceCtorEq]
        exact Kv.Fin.still ⟨by rw [hsame, all_false h4 (by simp [hM])], rfl⟩
      | true =>
        try simp only [take6, List.drop_zero, Int.cast_ofNat_Int, go_sem, ↓reduceIte, Nat.reduceEqDiff, Nat.reduceAdd, Nat.reduceMul, Nat.reduceLeDiff, Nat.reduceLT, Int.reduceLE, Int.reduceLT, reduceCtorEq]
        refine ⟨by omega, fun h5 => ?_⟩
        rw [getD_eq h4]
        try simp only [h6, h06, h0, take6, List.drop_zero, Int.cast_ofNat_Int, go_sem, ↓reduceIte, Nat.reduceEqDiff, Nat.reduceAdd, Nat.reduceMul, Nat.reduceLeDiff, Nat.reduceLT, Int.reduceLE, Int.reduceLT, reduceCtorEq]
        refine ⟨by omega, fun h7 => ?_, fun h7 => ⟨by omega, ?_⟩⟩
        · exact Kv.Fin.still ⟨by rw [hsame, all_false h4 (by simp only [hM, Bool.true_and]; exact decide_eq_false h7)], rfl⟩
        · refine ih (x + 1) ⟨by omega, ?_⟩ (by omega) _ _ (by rfl) rfl
          rw [all_take_succ _ h4, hall, hM, h7]; simp
    · obtain rfl : x = l.length := by omega
      rw [List.take_length] at hall
      exact Kv.Fin.still ⟨by rw [hsame, hall], rfl⟩
  · exact Kv.Fin.still ⟨by rw [hsame, decide_eq_false (by omega)]; rfl, rfl⟩
theorem lcode_eq (a b : List (List Int)) : lcode a b = if a.all isM = false then 1 else if b.all isM = false then 1 else if same a = false then 2 else if b.all (fun r => decide (r.getD 0 0 = (a.getD 0 []).getD 0 0)) = false then 2 else 0 := by
  have h3 : a.all isM = true → (a.all fun r => isM r && decide (r.getD 0 0 = (a.getD 0 []).getD 0 0)) = a.all fun r => decide (r.getD 0 0 = (a.getD 0 []).getD 0 0) := fun h1 => by
    rw [Bool.eq_iff_iff]
    simp only [List.all_eq_true, Bool.and_eq_true] at h1 ⊢
    exact ⟨fun h r hr => (h r hr).2, fun h r hr => ⟨h1 r hr, h r hr⟩⟩
  simp only [lcode, List.all_append]
  cases h1 : a.all isM
  · simp only [Bool.false_and, if_true]
  cases h2 : b.all isM
  · simp only [Bool.true_and, if_true, Bool.false_and, reduceCtorEq, if_false]
  have hs : same a = (decide (1 ≤ a.length ∧ a.length ≤ 6) && a.all fun r => decide (r.getD 0 0 = (a.getD 0 []).getD 0 0)) := by unfold same; rw [h3 h1]
  rw [hs]
  generalize (a.all fun r => decide (r.getD 0 0 = (a.getD 0 []).getD 0 0)) = x
  generalize (b.all fun r => decide (r.getD 0 0 = (a.getD 0 []).getD 0 0)) = y
  by_cases hc : (1 ≤ a.length ∧ a.length ≤ 6) <;> cases x <;> cases y <;> simp [hc]
theorem p30 (a b : List (List Int)) (ha : a.length ≤ 1048576) (hb : b.length ≤ 1048576) (hma : ∀ r ∈ a, r.length = 6) (hmb : ∀ r ∈ b, r.length = 6) :
    Pure Tryz.prog 30 [.list (aggs a), .list (aggs b)] (.int .i64 (lcode a b)) := by
  rw [lcode_eq]
  refine e30 (by simp) fun _ _ => ?_
  simp only [k30, argEnv, take6, List.drop_zero, Int.cast_ofNat_Int, go_sem, ↓reduceIte, Nat.reduceEqDiff, Nat.reduceAdd, Nat.reduceMul, Nat.reduceLeDiff, Nat.reduceLT, Int.reduceLE, Int.reduceLT, reduceCtorEq]
  refine KL_ind k30_b0.eq_1 (fun x : Nat => [(0, .list (aggs a)), (1, .list (aggs b)), (5, .int .i64 x)]) (fun _ => []) (fun x => x ≤ a.length ∧ (a.take x).all isM = true) (fun x => a.length - x) [0, 1, 5] 0 (by rfl) rfl ⟨Nat.zero_le _, by simp⟩ fun x ⟨hx, hall⟩ ih => ?_
  try simp only [take6, List.drop_zero, Int.cast_ofNat_Int, go_sem, ↓reduceIte, Nat.reduceEqDiff, Nat.reduceAdd, Nat.reduceMul, Nat.reduceLeDiff, Nat.reduceLT, Int.reduceLE, Int.reduceLT, reduceCtorEq]
  refine ⟨fun h3 => ⟨by omega, fun h4 => ?_⟩, fun h3 => ?_⟩
  · have h6 := hma _ (List.getElem_mem h4)
    rw [getD_eq h4]
    try simp only [h6, take6, List.drop_zero, Int.cast_ofNat_Int, go_sem, ↓reduceIte, Nat.reduceEqDiff, Nat.reduceAdd, Nat.reduceMul, Nat.reduceLeDiff, Nat.reduceLT, Int.reduceLE, Int.reduceLT, reduceCtorEq]
    refine (p50 _ h6).go ?_
    try simp only [take6, List.drop_zero, Int.cast_ofNat_Int, go_sem, ↓reduceIte, Nat.reduceEqDiff, Nat.reduceAdd, Nat.reduceMul, Nat.reduceLeDiff, Nat.reduceLT, Int.reduceLE, Int.reduceLT, reduceCtorEq]
    refine ⟨fun h5 => Kv.Fin.still ⟨by rw [if_pos (all_false h4 h5)], rfl⟩, fun h5 => ⟨by omega, ?_⟩⟩
    refine ih (x + 1) ⟨by omega, ?_⟩ (by omega) _ _ (by rfl) rfl
    rw [all_take_succ _ h4, hall, h5]; rfl
  obtain rfl : x = a.length := by omega
  rw [List.take_length] at hall
  rw [if_neg (by rw [hall]; simp)]
  clear ih
  refine KL_ind k30_b1.eq_1 (fun x : Nat => [(0, .list (aggs a)), (1, .list (aggs b)), (6, .int .i64 x)]) (fun _ => []) (fun x => x ≤ b.length ∧ (b.take x).all isM = true) (fun x => b.length - x) [0, 1, 6] 0 (by rfl) rfl ⟨Nat.zero_le _, by simp⟩ fun x ⟨hx, hallb⟩ ih => ?_
  try simp only [take6, List.drop_zero, Int.cast_ofNat_Int, go_sem, ↓reduceIte, Nat.reduceEqDiff, Nat.reduceAdd, Nat.reduceMul, Nat.reduceLeDiff, Nat.reduceLT, Int.reduceLE, Int.reduceLT, reduceCtorEq]
  refine ⟨fun h3 => ⟨by omega, fun h4 => ?_⟩, fun h3 => ?_⟩
  · have h6 := hmb _ (List.getElem_mem h4)
    rw [getD_eq h4]
    try simp only [h6, take6, List.drop_zero, Int.cast_ofNat_Int, go_sem, ↓reduceIte, Nat.reduceEqDiff, Nat.reduceAdd, Nat.reduceMul, Nat.reduceLeDiff, Nat.reduceLT, Int.reduceLE, Int.reduceLT, reduceCtorEq]
    refine (p50 _ h6).go ?_
    try simp only [take6, List.drop_zero, Int.cast_ofNat_Int, go_sem, ↓reduceIte, Nat.reduceEqDiff, Nat.reduceAdd, Nat.reduceMul, Nat.reduceLeDiff, Nat.reduceLT, Int.reduceLE, Int.reduceLT, reduceCtorEq]
    refine ⟨fun h5 => Kv.Fin.still ⟨by rw [if_pos (all_false h4 h5)], rfl⟩, fun h5 => ⟨by omega, ?_⟩⟩
    refine ih (x + 1) ⟨by omega, ?_⟩ (by omega) _ _ (by rfl) rfl
    rw [all_take_succ _ h4, hallb, h5]; rfl
  obtain rfl : x = b.length := by omega
  rw [List.take_length] at hallb
  rw [if_neg (by rw [hallb]; simp)]
  clear ih
  refine (p51 a ha hma).go ?_
  cases hs : same a with
  | false =>
    try simp only [take6, List.drop_zero, Int.cast_ofNat_Int, go_sem, ↓reduceIte, Nat.reduceEqDiff, Nat.reduceAdd, Nat.reduceMul, Nat.reduceLeDiff, Nat.reduceLT, Int.reduceLE, Int.reduceLT, reduceCtorEq]
    exact Kv.Fin.still ⟨by simp, rfl⟩
  | true =>
    try simp only [take6, List.drop_zero, Int.cast_ofNat_Int, go_sem, ↓reduceIte, Nat.reduceEqDiff, Nat.reduceAdd, Nat.reduceMul, Nat.reduceLeDiff, Nat.reduceLT, Int.reduceLE, Int.reduceLT, reduceCtorEq]
    have hs2 := hs
    simp only [same, Bool.and_eq_true, decide_eq_true_eq] at hs2
    have h0 : 0 < a.length := by omega
    have h06 : (a.getD 0 []).length = 6 := by rw [getD_eq h0]; exact hma _ (List.getElem_mem h0)
    refine KL_ind k30_b2.eq_1 (fun x : Nat => [(0, .list (aggs a)), (1, .list (aggs b)), (7, .int .i64 x)]) (fun _ => []) (fun x => x ≤ b.length ∧ (b.take x).all (fun r => decide (r.getD 0 0 = (a.getD 0 []).getD 0 0)) = true) (fun x => b.length - x) [0, 1, 7] 0 (by rfl) rfl ⟨Nat.zero_le _, by simp⟩ fun x ⟨hx, hallc⟩ ih => ?_
    try simp only [take6, List.drop_zero, Int.cast_ofNat_Int, go_sem, ↓reduceIte, Nat.reduceEqDiff, Nat.reduceAdd, Nat.reduceMul, Nat.reduceLeDiff, Nat.reduceLT, Int.reduceLE, Int.reduceLT, reduceCtorEq]
    refine ⟨fun h3 => ⟨by omega, fun h4 => ?_⟩, fun h3 => ?_⟩
    · have h6 := hmb _ (List.getElem_mem h4)
      rw [getD_eq h4]
      try simp only [h6, h06, h0, take6, List.drop_zero, Int.cast_ofNat_Int, go_sem, ↓reduceIte, Nat.reduceEqDiff, Nat.reduceAdd, Nat.reduceMul, Nat.reduceLeDiff, Nat.reduceLT, Int.reduceLE, Int.reduceLT, reduceCtorEq]
      refine ⟨by omega, fun h7 => ?_, fun h7 => ⟨by omega, ?_⟩⟩
      · exact Kv.Fin.still ⟨by rw [all_false h4 (decide_eq_false h7)]; simp, rfl⟩
      · refine ih (x + 1) ⟨by omega, ?_⟩ (by omega) _ _ (by rfl) rfl
        rw [all_take_succ _ h4, hallc, h7]; simp
    · obtain rfl : x = b.length := by omega
      rw [List.take_length] at hallc
      exact Kv.Fin.still ⟨by rw [hallc]; simp, rfl⟩
theorem p30n (a : List (List Int)) (ha : a.length ≤ 1048576) (hma : ∀ r ∈ a, r.length = 6) :
    Pure Tryz.prog 30 [.list (aggs a), .nils] (.int .i64 (lcode a [])) := by
  rw [lcode_eq]
  refine e30 (by simp) fun _ _ => ?_
  simp only [k30, argEnv, take6, List.drop_zero, Int.cast_ofNat_Int, go_sem, ↓reduceIte, Nat.reduceEqDiff, Nat.reduceAdd, Nat.reduceMul, Nat.reduceLeDiff, Nat.reduceLT, Int.reduceLE, Int.reduceLT, reduceCtorEq]
  refine KL_ind k30_b0.eq_1 (fun x : Nat => [(0, .list (aggs a)), (1, .nils), (5, .int .i64 x)]) (fun _ => []) (fun x => x ≤ a.length ∧ (a.take x).all isM = true) (fun x => a.length - x) [0, 1, 5] 0 (by rfl) rfl ⟨Nat.zero_le _, by simp⟩ fun x ⟨hx, hall⟩ ih => ?_
  try simp only [take6, List.drop_zero, Int.cast_ofNat_Int, go_sem, ↓reduceIte, Nat.reduceEqDiff, Nat.reduceAdd, Nat.reduceMul, Nat.reduceLeDiff, Nat.reduceLT, Int.reduceLE, Int.reduceLT, reduceCtorEq]
  refine ⟨fun h3 => ⟨by omega, fun h4 => ?_⟩, fun h3 => ?_⟩
  · have h6 := hma _ (List.getElem_mem h4)
    rw [getD_eq h4]
    try simp only [h6, take6, List.drop_zero, Int.cast_ofNat_Int, go_sem, ↓reduceIte, Nat.reduceEqDiff, Nat.reduceAdd, Nat.reduceMul, Nat.reduceLeDiff, Nat.reduceLT, Int.reduceLE, Int.reduceLT, reduceCtorEq]
    refine (p50 _ h6).go ?_
    try simp only [take6, List.drop_zero, Int.cast_ofNat_Int, go_sem, ↓reduceIte, Nat.reduceEqDiff, Nat.reduceAdd, Nat.reduceMul, Nat.reduceLeDiff, Nat.reduceLT, Int.reduceLE, Int.reduceLT, reduceCtorEq]
    refine ⟨fun h5 => Kv.Fin.still ⟨by rw [if_pos (all_false h4 h5)], rfl⟩, fun h5 => ⟨by omega, ?_⟩⟩
    refine ih (x + 1) ⟨by omega, ?_⟩ (by omega) _ _ (by rfl) rfl
    rw [all_take_succ _ h4, hall, h5]; rfl
  obtain rfl : x = a.length := by omega
  rw [List.take_length] at hall
  rw [if_neg (by rw [hall]; simp)]
  clear ih
  refine KL_round ?_
  rw [k30_b1.eq_1]
  try simp only [Int.reduceNeg, Int.lt_irrefl, take6, List.drop_zero, Int.cast_ofNat_Int, go_sem, ↓reduceIte, Nat.reduceEqDiff, Nat.reduceAdd, Nat.reduceMul, Nat.reduceLeDiff, Nat.reduceLT, Int.reduceLE, Int.reduceLT, reduceCtorEq]
  refine (p51 a ha hma).go ?_
  cases hs : same a with
  | false =>
    try simp only [take6, List.drop_zero, Int.cast_ofNat_Int, go_sem, ↓reduceIte, Nat.reduceEqDiff, Nat.reduceAdd, Nat.reduceMul, Nat.reduceLeDiff, Nat.reduceLT, Int.reduceLE, Int.reduceLT, reduceCtorEq]
    exact Kv.Fin.still ⟨by simp, rfl⟩
  | true =>
    try simp only [take6, List.drop_zero, Int.cast_ofNat_Int, go_sem, ↓reduceIte, Nat.reduceEqDiff, Nat.reduceAdd, Nat.reduceMul, Nat.reduceLeDiff, Nat.reduceLT, Int.reduceLE, Int.reduceLT, reduceCtorEq]
    refine KL_round ?_
    rw [k30_b2.eq_1]
    try simp only [Int.lt_irrefl, take6, List.drop_zero, Int.cast_ofNat_Int, go_sem, ↓reduceIte, Nat.reduceEqDiff, Nat.reduceAdd, Nat.reduceMul, Nat.reduceLeDiff, Nat.reduceLT, Int.reduceLE, Int.reduceLT, reduceCtorEq]
    exact Kv.Fin.still ⟨by simp, rfl⟩
end Go.Proofs.YtodmbkceindakaaGreat
end
section
/- Partitions: whether they are, whether they are invariant; both sides. -/
namespace Go.Proofs.YtodmbkceindakaaGreat
open Go.Kv
set_option maxRecDepth 100000
/- impl.isClasses -/
/- live [0, 1, 5, 8, 9, 10] -/
def k25_b0 : KC := (.seq (.ops [⟨(some 11), none, .bin .lss (.t 10) (.t 9)⟩])
  (.seq (.cond (.t 11) .skip (.exit 0))
  (.seq (.block 1 (.seq (.ops [⟨(some 12), none, .idxS 1 (.t 8) (.t 10)⟩, ⟨(some 13), none, .load false 1 (.t 12)⟩, ⟨(some 7), none, .mv (.t 13)⟩])
  (.seq (.seq (.ops [⟨(some 14), none, .mv (.t 7)⟩, ⟨(some 15), none, .mv (.t 5)⟩, ⟨(some 16), none, .call (.c (.fn (.func 43) [] [])) [(.t 14), (.c (.int .i64 0)), (.t 15)]⟩, ⟨(some 17), none, .not (.t 16)⟩])
  (.cond (.t 17) (.seq (.ops [⟨(some 4), none, .mv (.c (.bool false))⟩])
  .ret) .skip))
  (.seq (.ops [⟨(some 18), none, .mv (.t 7)⟩, ⟨(some 19), none, .mv (.t 5)⟩, ⟨(some 20), none, .bin .eql (.t 18) (.t 19)⟩])
  (.cond (.t 20) (.ops [⟨(some 21), none, .mv (.t 5)⟩, ⟨(some 22), none, .bin .add (.t 21) (.c (.int .i64 1))⟩, ⟨(some 5), none, .mv (.t 22)⟩]) .skip)))))
  (.ops [⟨(some 23), none, .bin .add (.t 10) (.c (.int .i64 1))⟩, ⟨(some 10), none, .mv (.t 23)⟩]))))
def k25 : KC := (.seq (.ops [⟨(some 4), none, .mv (.c (.bool false))⟩])
  (.seq (.ops [⟨(some 5), none, .mv (.c (.int .i64 0))⟩])
  (.seq (.seq (.ops [⟨(some 8), none, .mv (.t 0)⟩, ⟨(some 9), none, .len false (.t 8)⟩, ⟨(some 10), none, .mv (.c (.int .i64 0))⟩])
  (.block 0 (.loop k25_b0)))
  (.seq (.ops [⟨(some 24), none, .mv (.t 0)⟩, ⟨(some 25), none, .len false (.t 24)⟩, ⟨(some 26), none, .mv (.t 1)⟩, ⟨(some 27), none, .bin .eql (.t 25) (.t 26)⟩, ⟨(some 4), none, .mv (.t 27)⟩])
  .ret))))
theorem e25 {args : List PV} {σ : Heap} {K : PV → Heap → Prop} (hl : args.length ≤ 28) (h : Wf σ → (∀ a ∈ args, PV.upto σ.length a) → vc (mkCfg Tryz.prog mixed [] 28 σ.length) k25 (FinK σ.length [.t 4] K) (argEnv 0 args) σ) : ACall Tryz.prog 25 args σ K :=
  ACall_enter (C := mkCfg Tryz.prog mixed [] 28 σ.length) (c := Tryz.f25.body.getD .skip) Tryz.func25 (by kernel_rfl) (by kernel_rfl) (by kernel_rfl) rfl hl (by kernel_rfl) (by kernel_rfl) h
/- spec.l06Is -/
/- live [0, 1, 5, 6] -/
def k59_b0 : KC := (.seq (.seq (.ops [⟨(some 11), none, .mv (.t 6)⟩, ⟨(some 12), none, .mv (.t 1)⟩, ⟨(some 13), none, .bin .lss (.t 11) (.t 12)⟩])
  (.cond (.t 13) .skip (.exit 0)))
  (.seq (.block 1 (.seq (.seq (.ops [⟨(some 16), none, .mv (.t 0)⟩, ⟨(some 17), none, .mv (.t 6)⟩, ⟨(some 18), none, .idxS 1 (.t 16) (.t 17)⟩, ⟨(some 19), none, .load false 1 (.t 18)⟩, ⟨(some 20), none, .mv (.t 5)⟩, ⟨(some 21), none, .call (.c (.fn (.func 65) [] [])) [(.t 19), (.c (.int .i64 0)), (.t 20)]⟩, ⟨(some 22), none, .not (.t 21)⟩])
  (.cond (.t 22) (.seq (.ops [⟨(some 4), none, .mv (.c (.bool false))⟩])
  .ret) .skip))
  (.seq (.ops [⟨(some 23), none, .mv (.t 0)⟩, ⟨(some 24), none, .mv (.t 6)⟩, ⟨(some 25), none, .idxS 1 (.t 23) (.t 24)⟩, ⟨(some 26), none, .load false 1 (.t 25)⟩, ⟨(some 27), none, .mv (.t 5)⟩, ⟨(some 28), none, .bin .eql (.t 26) (.t 27)⟩])
  (.cond (.t 28) (.ops [⟨(some 29), none, .mv (.t 5)⟩, ⟨(some 30), none, .bin .add (.t 29) (.c (.int .i64 1))⟩, ⟨(some 5), none, .mv (.t 30)⟩]) .skip))))
  (.ops [⟨(some 14), none, .mv (.t 6)⟩, ⟨(some 15), none, .bin .add (.t 14) (.c (.int .i64 1))⟩, ⟨(some 6), none, .mv (.t 15)⟩])))
def k59 : KC := (.seq (.ops [⟨(some 4), none, .mv (.c (.bool false))⟩])
  (.seq (.seq (.ops [⟨(some 7), none, .mv (.t 0)⟩, ⟨(some 8), none, .len false (.t 7)⟩, ⟨(some 9), none, .mv (.t 1)⟩, ⟨(some 10), none, .bin .neq (.t 8) (.t 9)⟩])
  (.cond (.t 10) (.seq (.ops [⟨(some 4), none, .mv (.c (.bool false))⟩])
  .ret) .skip))
  (.seq (.ops [⟨(some 5), none, .mv (.c (.int .i64 0))⟩])
  (.seq (.seq (.ops [⟨(some 6), none, .mv (.c (.int .i64 0))⟩])
  (.block 0 (.loop k59_b0)))
  (.seq (.ops [⟨(some 4), none, .mv (.c (.bool true))⟩])
  .ret)))))
theorem e59 {args : List PV} {σ : Heap} {K : PV → Heap → Prop} (hl : args.length ≤ 31) (h : Wf σ → (∀ a ∈ args, PV.upto σ.length a) → vc (mkCfg Tryz.prog mixed [] 31 σ.length) k59 (FinK σ.length [.t 4] K) (argEnv 0 args) σ) : ACall Tryz.prog 59 args σ K :=
  ACall_enter (C := mkCfg Tryz.prog mixed [] 31 σ.length) (c := Tryz.f59.body.getD .skip) Tryz.func59 (by kernel_rfl) (by kernel_rfl) (by kernel_rfl) rfl hl (by kernel_rfl) (by kernel_rfl) h
/- spec.l10Partition -/
def k40 : KC := (.seq (.ops [⟨(some 4), none, .mv (.c (.bool false))⟩])
  (.seq (.ops [⟨(some 5), none, .mv (.t 0)⟩, ⟨(some 6), none, .mv (.t 1)⟩, ⟨(some 7), none, .call (.c (.fn (.func 59) [] [])) [(.t 5), (.t 6)]⟩, ⟨(some 4), none, .mv (.t 7)⟩])
  .ret))
theorem e40 {args : List PV} {σ : Heap} {K : PV → Heap → Prop} (hl : args.length ≤ 8) (h : Wf σ → (∀ a ∈ args, PV.upto σ.length a) → vc (mkCfg Tryz.prog mixed [] 8 σ.length) k40 (FinK σ.length [.t 4] K) (argEnv 0 args) σ) : ACall Tryz.prog 40 args σ K :=
  ACall_enter (C := mkCfg Tryz.prog mixed [] 8 σ.length) (c := Tryz.f40.body.getD .skip) Tryz.func40 (by kernel_rfl) (by kernel_rfl) (by kernel_rfl) rfl hl (by kernel_rfl) (by kernel_rfl) h
/- spec.l10Given -/
def k20 : KC := (.seq (.ops [⟨(some 4), none, .mv (.c (.int .i64 0))⟩])
  (.seq (.ops [⟨(some 6), none, .mv (.t 0)⟩, ⟨(some 7), none, .call (.c (.fn (.func 30) [] [])) [(.t 6), (.c (.nils))]⟩, ⟨(some 5), none, .mv (.t 7)⟩])
  (.seq (.seq (.ops [⟨(some 8), none, .mv (.t 5)⟩, ⟨(some 9), none, .bin .eql (.t 8) (.c (.int .i64 0))⟩, ⟨(some 10), none, .mv (.t 9)⟩, ⟨(some 11), some (10, true), .mv (.t 1)⟩, ⟨(some 12), some (10, true), .mv (.t 0)⟩, ⟨(some 13), some (10, true), .idxS 6 (.t 12) (.c (.int .i64 0))⟩, ⟨(some 14), some (10, true), .fieldA 0 (.t 13)⟩, ⟨(some 15), some (10, true), .load false 1 (.t 14)⟩, ⟨(some 16), some (10, true), .call (.c (.fn (.func 40) [] [])) [(.t 11), (.t 15)]⟩, ⟨(some 17), some (10, true), .not (.t 16)⟩, ⟨(some 18), none, .pick (.t 10) (.t 17) (.c (.bool false))⟩])
  (.cond (.t 18) (.ops [⟨(some 5), none, .mv (.c (.int .i64 2))⟩]) .skip))
  (.seq (.ops [⟨(some 19), none, .mv (.t 5)⟩, ⟨(some 4), none, .mv (.t 19)⟩])
  .ret))))
theorem e20 {args : List PV} {σ : Heap} {K : PV → Heap → Prop} (hl : args.length ≤ 20) (h : Wf σ → (∀ a ∈ args, PV.upto σ.length a) → vc (mkCfg Tryz.prog mixed [] 20 σ.length) k20 (FinK σ.length [.t 4] K) (argEnv 0 args) σ) : ACall Tryz.prog 20 args σ K :=
  ACall_enter (C := mkCfg Tryz.prog mixed [] 20 σ.length) (c := Tryz.f20.body.getD .skip) Tryz.func20 (by kernel_rfl) (by kernel_rfl) (by kernel_rfl) rfl hl (by kernel_rfl) (by kernel_rfl) h
/- impl.isInvariant -/
/- live [1, 6, 10, 11, 12, 16, 17, 18] -/
def k26_b0 : KC := (.seq (.ops [⟨(some 19), none, .bin .lss (.t 18) (.t 17)⟩])
  (.seq (.cond (.t 19) .skip (.exit 2))
  (.seq (.block 3 (.seq (.ops [⟨(some 20), none, .mv (.t 18)⟩, ⟨(some 21), none, .idxS 1 (.t 16) (.t 18)⟩, ⟨(some 22), none, .load false 1 (.t 21)⟩, ⟨(some 7), none, .mv (.t 20)⟩, ⟨(some 8), none, .mv (.t 22)⟩])
  (.seq (.ops [⟨(some 23), none, .mv (.t 1)⟩, ⟨(some 24), none, .mv (.t 8)⟩, ⟨(some 25), none, .call (.c (.fn (.func 44) [] [])) [(.t 23), (.t 24)]⟩, ⟨(some 9), none, .mv (.t 25)⟩])
  (.seq (.draw [⟨(some 26), none, .mv (.t 1)⟩, ⟨(some 27), none, .mv (.t 7)⟩, ⟨(some 28), none, .fieldA 1 (.t 6)⟩, ⟨(some 29), none, .idxA 5 1 (.t 28) (.t 27)⟩, ⟨(some 30), none, .load false 1 (.t 29)⟩, ⟨(some 31), none, .idxS 1 (.t 26) (.t 30)⟩, ⟨(some 32), none, .load false 1 (.t 31)⟩, ⟨(some 33), none, .mv (.t 1)⟩, ⟨(some 34), none, .mv (.t 9)⟩, ⟨(some 35), none, .fieldA 1 (.t 6)⟩, ⟨(some 36), none, .idxA 5 1 (.t 35) (.t 34)⟩, ⟨(some 37), none, .load false 1 (.t 36)⟩, ⟨(some 38), none, .idxS 1 (.t 33) (.t 37)⟩, ⟨(some 39), none, .load false 1 (.t 38)⟩, ⟨(some 40), none, .bin .neq (.t 32) (.t 39)⟩])
  (.cond (.t 40) (.seq (.ops [⟨(some 4), none, .mv (.c (.bool false))⟩])
  .ret) .skip)))))
  (.ops [⟨(some 41), none, .bin .add (.t 18) (.c (.int .i64 1))⟩, ⟨(some 18), none, .mv (.t 41)⟩]))))
/- live [1, 10, 11, 12] -/
def k26_b1 : KC := (.seq (.ops [⟨(some 13), none, .bin .lss (.t 12) (.t 11)⟩])
  (.seq (.cond (.t 13) .skip (.exit 0))
  (.seq (.block 1 (.seq (.ops [⟨(some 14), none, .idxS 6 (.t 10) (.t 12)⟩, ⟨(some 15), none, .load true 6 (.t 14)⟩, ⟨(some 6), none, .alloc [.int .i64 0, .int .i64 0, .int .i64 0, .int .i64 0, .int .i64 0, .int .i64 0]⟩, ⟨none, none, .store 6 (.t 6) (.t 15)⟩])
  (.seq (.ops [⟨(some 16), none, .mv (.t 1)⟩, ⟨(some 17), none, .len false (.t 16)⟩, ⟨(some 18), none, .mv (.c (.int .i64 0))⟩])
  (.block 2 (.loop k26_b0)))))
  (.ops [⟨(some 42), none, .bin .add (.t 12) (.c (.int .i64 1))⟩, ⟨(some 12), none, .mv (.t 42)⟩]))))
def k26 : KC := (.seq (.ops [⟨(some 4), none, .mv (.c (.bool false))⟩])
  (.seq (.seq (.ops [⟨(some 10), none, .mv (.t 0)⟩, ⟨(some 11), none, .len false (.t 10)⟩, ⟨(some 12), none, .mv (.c (.int .i64 0))⟩])
  (.block 0 (.loop k26_b1)))
  (.seq (.ops [⟨(some 4), none, .mv (.c (.bool true))⟩])
  .ret)))
theorem e26 {args : List PV} {σ : Heap} {K : PV → Heap → Prop} (hl : args.length ≤ 43) (h : Wf σ → (∀ a ∈ args, PV.upto σ.length a) → vc (mkCfg Tryz.prog mixed [] 43 σ.length) k26 (FinK σ.length [.t 4] K) (argEnv 0 args) σ) : ACall Tryz.prog 26 args σ K :=
  ACall_enter (C := mkCfg Tryz.prog mixed [] 43 σ.length) (c := Tryz.f26.body.getD .skip) Tryz.func26 (by kernel_rfl) (by kernel_rfl) (by kernel_rfl) rfl hl (by kernel_rfl) (by kernel_rfl) h
/- spec.l10Invariant -/
/- live [0, 1, 5, 6, 7, 35, 36, 37, 38, 39, 40, 41, 42, 43, 44, 45, 46, 47, 48, 49, 50, 51, 52, 53, 54, 55] -/
def k21_b0 : KC := (.seq (.seq (.ops [⟨(some 20), none, .mv (.t 7)⟩, ⟨(some 21), none, .mv (.t 6)⟩, ⟨(some 22), none, .bin .lss (.t 20) (.t 21)⟩])
  (.cond (.t 22) .skip (.exit 4)))
  (.seq (.block 5 (.seq (.draw [⟨(some 25), none, .mv (.t 1)⟩, ⟨(some 26), none, .mv (.t 6)⟩, ⟨(some 27), none, .idxS 1 (.t 25) (.t 26)⟩, ⟨(some 28), none, .load false 1 (.t 27)⟩, ⟨(some 29), none, .mv (.t 1)⟩, ⟨(some 30), none, .mv (.t 7)⟩, ⟨(some 31), none, .idxS 1 (.t 29) (.t 30)⟩, ⟨(some 32), none, .load false 1 (.t 31)⟩, ⟨(some 33), none, .bin .eql (.t 28) (.t 32)⟩, ⟨(some 34), none, .mv (.t 33)⟩, ⟨(some 35), some (34, true), .mv (.t 1)⟩, ⟨(some 36), some (34, true), .mv (.t 0)⟩, ⟨(some 37), some (34, true), .mv (.t 5)⟩, ⟨(some 38), some (34, true), .mv (.t 6)⟩, ⟨(some 39), some (34, true), .idxS 6 (.t 36) (.t 37)⟩, ⟨(some 40), some (34, true), .fieldA 1 (.t 39)⟩, ⟨(some 41), some (34, true), .idxA 5 1 (.t 40) (.t 38)⟩, ⟨(some 42), some (34, true), .load false 1 (.t 41)⟩, ⟨(some 43), some (34, true), .idxS 1 (.t 35) (.t 42)⟩, ⟨(some 44), some (34, true), .load false 1 (.t 43)⟩, ⟨(some 45), some (34, true), .mv (.t 1)⟩, ⟨(some 46), some (34, true), .mv (.t 0)⟩, ⟨(some 47), some (34, true), .mv (.t 5)⟩, ⟨(some 48), some (34, true), .mv (.t 7)⟩, ⟨(some 49), some (34, true), .idxS 6 (.t 46) (.t 47)⟩, ⟨(some 50), some (34, true), .fieldA 1 (.t 49)⟩, ⟨(some 51), some (34, true), .idxA 5 1 (.t 50) (.t 48)⟩, ⟨(some 52), some (34, true), .load false 1 (.t 51)⟩, ⟨(some 53), some (34, true), .idxS 1 (.t 45) (.t 52)⟩, ⟨(some 54), some (34, true), .load false 1 (.t 53)⟩, ⟨(some 55), some (34, true), .bin .neq (.t 44) (.t 54)⟩, ⟨(some 56), none, .pick (.t 34) (.t 55) (.c (.bool false))⟩])
  (.cond (.t 56) (.seq (.ops [⟨(some 4), none, .mv (.c (.bool false))⟩])
  .ret) .skip)))
  (.ops [⟨(some 23), none, .mv (.t 7)⟩, ⟨(some 24), none, .bin .add (.t 23) (.c (.int .i64 1))⟩, ⟨(some 7), none, .mv (.t 24)⟩])))
/- live [0, 1, 5, 6, 35, 36, 37, 38, 39, 40, 41, 42, 43, 44, 45, 46, 47, 48, 49, 50, 51, 52, 53, 54, 55] -/
def k21_b1 : KC := (.seq (.seq (.ops [⟨(some 14), none, .mv (.t 6)⟩, ⟨(some 15), none, .mv (.t 1)⟩, ⟨(some 16), none, .len false (.t 15)⟩, ⟨(some 17), none, .bin .lss (.t 14) (.t 16)⟩])
  (.cond (.t 17) .skip (.exit 2)))
  (.seq (.block 3 (.seq (.ops [⟨(some 7), none, .mv (.c (.int .i64 0))⟩])
  (.block 4 (.loop k21_b0))))
  (.ops [⟨(some 18), none, .mv (.t 6)⟩, ⟨(some 19), none, .bin .add (.t 18) (.c (.int .i64 1))⟩, ⟨(some 6), none, .mv (.t 19)⟩])))
/- live [0, 1, 5, 35, 36, 37, 38, 39, 40, 41, 42, 43, 44, 45, 46, 47, 48, 49, 50, 51, 52, 53, 54, 55] -/
def k21_b2 : KC := (.seq (.seq (.ops [⟨(some 8), none, .mv (.t 5)⟩, ⟨(some 9), none, .mv (.t 0)⟩, ⟨(some 10), none, .len false (.t 9)⟩, ⟨(some 11), none, .bin .lss (.t 8) (.t 10)⟩])
  (.cond (.t 11) .skip (.exit 0)))
  (.seq (.block 1 (.seq (.ops [⟨(some 6), none, .mv (.c (.int .i64 0))⟩])
  (.block 2 (.loop k21_b1))))
  (.ops [⟨(some 12), none, .mv (.t 5)⟩, ⟨(some 13), none, .bin .add (.t 12) (.c (.int .i64 1))⟩, ⟨(some 5), none, .mv (.t 13)⟩])))
def k21 : KC := (.seq (.ops [⟨(some 4), none, .mv (.c (.bool false))⟩])
  (.seq (.seq (.ops [⟨(some 5), none, .mv (.c (.int .i64 0))⟩])
  (.block 0 (.loop k21_b2)))
  (.seq (.ops [⟨(some 4), none, .mv (.c (.bool true))⟩])
  .ret)))
theorem e21 {args : List PV} {σ : Heap} {K : PV → Heap → Prop} (hl : args.length ≤ 57) (h : Wf σ → (∀ a ∈ args, PV.upto σ.length a) → vc (mkCfg Tryz.prog mixed [] 57 σ.length) k21 (FinK σ.length [.t 4] K) (argEnv 0 args) σ) : ACall Tryz.prog 21 args σ K :=
  ACall_enter (C := mkCfg Tryz.prog mixed [] 57 σ.length) (c := Tryz.f21.body.getD .skip) Tryz.func21 (by kernel_rfl) (by kernel_rfl) (by kernel_rfl) rfl hl (by kernel_rfl) (by kernel_rfl) h
/- slices.Index[[]int64,int64] -/
/- live [0, 1, 7, 8] -/
def k44_b0 : KC := (.seq (.ops [⟨(some 9), none, .bin .lss (.t 8) (.t 7)⟩])
  (.seq (.cond (.t 9) .skip (.exit 0))
  (.seq (.block 1 (.seq (.ops [⟨(some 10), none, .mv (.t 8)⟩, ⟨(some 5), none, .mv (.t 10)⟩])
  (.seq (.ops [⟨(some 11), none, .mv (.t 1)⟩, ⟨(some 12), none, .mv (.t 0)⟩, ⟨(some 13), none, .mv (.t 5)⟩, ⟨(some 14), none, .idxS 1 (.t 12) (.t 13)⟩, ⟨(some 15), none, .load false 1 (.t 14)⟩, ⟨(some 16), none, .bin .eql (.t 11) (.t 15)⟩])
  (.cond (.t 16) (.seq (.ops [⟨(some 17), none, .mv (.t 5)⟩, ⟨(some 4), none, .mv (.t 17)⟩])
  .ret) .skip))))
  (.ops [⟨(some 18), none, .bin .add (.t 8) (.c (.int .i64 1))⟩, ⟨(some 8), none, .mv (.t 18)⟩]))))
def k44 : KC := (.seq (.ops [⟨(some 4), none, .mv (.c (.int .i64 0))⟩])
  (.seq (.seq (.ops [⟨(some 6), none, .mv (.t 0)⟩, ⟨(some 7), none, .len false (.t 6)⟩, ⟨(some 8), none, .mv (.c (.int .i64 0))⟩])
  (.block 0 (.loop k44_b0)))
  (.seq (.ops [⟨(some 4), none, .mv (.c (.int .i64 (-1)))⟩])
  .ret)))
theorem e44 {args : List PV} {σ : Heap} {K : PV → Heap → Prop} (hl : args.length ≤ 19) (h : Wf σ → (∀ a ∈ args, PV.upto σ.length a) → vc (mkCfg Tryz.prog mixed [] 19 σ.length) k44 (FinK σ.length [.t 4] K) (argEnv 0 args) σ) : ACall Tryz.prog 44 args σ K :=
  ACall_enter (C := mkCfg Tryz.prog mixed [] 19 σ.length) (c := Tryz.f44.body.getD .skip) Tryz.func44 (by kernel_rfl) (by kernel_rfl) (by kernel_rfl) rfl hl (by kernel_rfl) (by kernel_rfl) h
/- impl.IsInvariantPartition -/
def k9 : KC := (.seq (.ops [⟨(some 4), none, .mv (.c (.bool false))⟩, ⟨(some 5), none, .mv (.c (.int .i64 0))⟩])
  (.seq (.seq (.ops [⟨(some 7), none, .mv (.t 0)⟩, ⟨(some 8), none, .call (.c (.fn (.func 24) [] [])) [(.t 7), (.c (.nils))]⟩, ⟨(some 6), none, .mv (.t 8)⟩])
  (.seq (.ops [⟨(some 9), none, .mv (.t 6)⟩, ⟨(some 10), none, .bin .neq (.t 9) (.c (.int .i64 0))⟩])
  (.cond (.t 10) (.seq (.ops [⟨(some 11), none, .mv (.t 6)⟩, ⟨(some 4), none, .mv (.c (.bool false))⟩, ⟨(some 5), none, .mv (.t 11)⟩])
  .ret) .skip)))
  (.seq (.seq (.ops [⟨(some 12), none, .mv (.t 1)⟩, ⟨(some 13), none, .mv (.t 0)⟩, ⟨(some 14), none, .idxS 6 (.t 13) (.c (.int .i64 0))⟩, ⟨(some 15), none, .fieldA 0 (.t 14)⟩, ⟨(some 16), none, .load false 1 (.t 15)⟩, ⟨(some 17), none, .call (.c (.fn (.func 25) [] [])) [(.t 12), (.t 16)]⟩, ⟨(some 18), none, .not (.t 17)⟩])
  (.cond (.t 18) (.seq (.ops [⟨(some 4), none, .mv (.c (.bool false))⟩, ⟨(some 5), none, .mv (.c (.int .i64 2))⟩])
  .ret) .skip))
  (.seq (.ops [⟨(some 19), none, .mv (.t 0)⟩, ⟨(some 20), none, .mv (.t 1)⟩, ⟨(some 21), none, .call (.c (.fn (.func 26) [] [])) [(.t 19), (.t 20)]⟩, ⟨(some 4), none, .mv (.t 21)⟩, ⟨(some 5), none, .mv (.c (.int .i64 0))⟩])
  .ret))))
theorem e9 {args : List PV} {σ : Heap} {K : PV → Heap → Prop} (hl : args.length ≤ 22) (h : Wf σ → (∀ a ∈ args, PV.upto σ.length a) → vc (mkCfg Tryz.prog mixed [] 22 σ.length) k9 (FinK σ.length [.t 4, .t 5] K) (argEnv 0 args) σ) : ACall Tryz.prog 9 args σ K :=
  ACall_enter (C := mkCfg Tryz.prog mixed [] 22 σ.length) (c := Tryz.f9.body.getD .skip) Tryz.func9 (by kernel_rfl) (by kernel_rfl) (by kernel_rfl) rfl hl (by kernel_rfl) (by kernel_rfl) h
/- spec.IsInvariantPartition -/
def k10 : KC := (.seq (.ops [⟨(some 4), none, .mv (.c (.bool false))⟩, ⟨(some 5), none, .mv (.c (.int .i64 0))⟩])
  (.seq (.seq (.ops [⟨(some 7), none, .mv (.t 0)⟩, ⟨(some 8), none, .mv (.t 1)⟩, ⟨(some 9), none, .call (.c (.fn (.func 20) [] [])) [(.t 7), (.t 8)]⟩, ⟨(some 6), none, .mv (.t 9)⟩])
  (.seq (.ops [⟨(some 10), none, .mv (.t 6)⟩, ⟨(some 11), none, .bin .neq (.t 10) (.c (.int .i64 0))⟩])
  (.cond (.t 11) (.seq (.ops [⟨(some 12), none, .mv (.t 6)⟩, ⟨(some 4), none, .mv (.c (.bool false))⟩, ⟨(some 5), none, .mv (.t 12)⟩])
  .ret) .skip)))
  (.seq (.ops [⟨(some 13), none, .mv (.t 0)⟩, ⟨(some 14), none, .mv (.t 1)⟩, ⟨(some 15), none, .call (.c (.fn (.func 21) [] [])) [(.t 13), (.t 14)]⟩, ⟨(some 4), none, .mv (.t 15)⟩, ⟨(some 5), none, .mv (.c (.int .i64 0))⟩])
  .ret)))
theorem e10 {args : List PV} {σ : Heap} {K : PV → Heap → Prop} (hl : args.length ≤ 16) (h : Wf σ → (∀ a ∈ args, PV.upto σ.length a) → vc (mkCfg Tryz.prog mixed [] 16 σ.length) k10 (FinK σ.length [.t 4, .t 5] K) (argEnv 0 args) σ) : ACall Tryz.prog 10 args σ K :=
  ACall_enter (C := mkCfg Tryz.prog mixed [] 16 σ.length) (c := Tryz.f10.body.getD .skip) Tryz.func10 (by kernel_rfl) (by kernel_rfl) (by kernel_rfl) rfl hl (by kernel_rfl) (by kernel_rfl) h
end Go.Proofs.YtodmbkceindakaaGreat
namespace Go.Proofs.YtodmbkceindakaaGreat
open Go.Kv
set_option linter.unusedVariables false
set_option linter.unusedSimpArgs false
attribute [local irreducible] ACall PCall KL
/-- Numbers of classes, of which v is the least free one. -/
def clOk : List Int → Int → Bool
  | [], _ => true
  | k :: r, v => decide (0 ≤ k ∧ k ≤ v) && clOk r (if k = v then v + 1 else v)
theorem clOk_step {l : List Int} {x : Nat} (h : x < l.length) (v : Int) : clOk (l.drop x) v = (decide (0 ≤ l[x] ∧ l[x] ≤ v) && clOk (l.drop (x + 1)) (if l[x] = v then v + 1 else v)) := by
  rw [List.drop_eq_getElem_cons h]; rfl
theorem p25 (l : List Int) (n : Int) (hl : l.length ≤ 1048576) : Pure Tryz.prog 25 [.list (ints l), .int .i64 n] (.bool (clOk l 0 && decide ((l.length : Int) = n))) := by
  refine e25 (by simp) fun _ _ => ?_
  simp only [k25, argEnv, take6, List.drop_zero, Int.cast_ofNat_Int, go_sem, ↓reduceIte, Nat.reduceEqDiff, Nat.reduceAdd, Nat.reduceMul, Nat.reduceLeDiff, Nat.reduceLT, Int.reduceLE, Int.reduceLT, reduceCtorEq]
  refine KL_ind k25_b0.eq_1 (fun x : Nat × Int => [(0, .list (ints l)), (1, .int .i64 n), (5, .int .i64 x.2), (8, .list (ints l)), (9, .int .i64 l.length), (10, .int .i64 x.1)]) (fun _ => []) (fun x => x.1 ≤ l.length ∧ clOk l 0 = clOk (l.drop x.1) x.2 ∧ 0 ≤ x.2 ∧ x.2 ≤ x.1) (fun x => l.length - x.1) [0, 1, 5, 8, 9, 10] (0, 0) (by rfl) rfl ⟨Nat.zero_le _, rfl, by simp, by simp⟩ fun ⟨x, v⟩ ⟨hx, hc, h0, hv⟩ ih => ?_
  simp only at hx hc h0 hv
  try simp only [take6, List.drop_zero, Int.cast_ofNat_Int, go_sem, ↓reduceIte, Nat.reduceEqDiff, Nat.reduceAdd, Nat.reduceMul, Nat.reduceLeDiff, Nat.reduceLT, Int.reduceLE, Int.reduceLT, reduceCtorEq]
  refine ⟨fun h1 => ⟨by omega, fun h2 => ?_⟩, fun h1 => ?_⟩
  · rw [getD_eq h2]
    rw [clOk_step h2] at hc
    refine (p43 _ _ _).go ?_
    try simp only [take6, List.drop_zero, Int.cast_ofNat_Int, go_sem, ↓reduceIte, Nat.reduceEqDiff, Nat.reduceAdd, Nat.reduceMul, Nat.reduceLeDiff, Nat.reduceLT, Int.reduceLE, Int.reduceLT, reduceCtorEq]
    refine ⟨fun h3 => ?_, fun h3 => ⟨fun h4 => ⟨by omega, by omega, ?_⟩, fun h4 => ⟨by omega, ?_⟩⟩⟩
    · rw [hc, decide_eq_false h3]
      exact Kv.Fin.still ⟨rfl, rfl⟩
    · rw [decide_eq_true h3, Bool.true_and, if_pos h4] at hc
      exact ih (x + 1, v + 1) ⟨by show x + 1 ≤ _; omega, hc, by show 0 ≤ v + 1; omega, by show v + 1 ≤ ((x + 1 : Nat) : Int); omega⟩ (by show l.length - (x + 1) < l.length - x; omega) _ _ (by rfl) rfl
    · rw [decide_eq_true h3, Bool.true_and, if_neg h4] at hc
      exact ih (x + 1, v) ⟨by show x + 1 ≤ _; omega, hc, h0, by show v ≤ ((x + 1 : Nat) : Int); omega⟩ (by show l.length - (x + 1) < l.length - x; omega) _ _ (by rfl) rfl
  · obtain rfl : x = l.length := by omega
    rw [List.drop_length] at hc
    rw [hc]
    exact Kv.Fin.still ⟨by simp [clOk], rfl⟩
theorem p59 (l : List Int) (n : Int) (hl : l.length ≤ 1048576) : Pure Tryz.prog 59 [.list (ints l), .int .i64 n] (.bool (clOk l 0 && decide ((l.length : Int) = n))) := by
  refine e59 (by simp) fun _ _ => ?_
  simp only [k59, argEnv, take6, List.drop_zero, Int.cast_ofNat_Int, go_sem, ↓reduceIte, Nat.reduceEqDiff, Nat.reduceAdd, Nat.reduceMul, Nat.reduceLeDiff, Nat.reduceLT, Int.reduceLE, Int.reduceLT, reduceCtorEq]
  refine ⟨fun h => Kv.Fin.still ⟨by rw [decide_eq_false h, Bool.and_false], rfl⟩, fun h => ?_⟩
  subst h
  rw [decide_eq_true rfl, Bool.and_true]
  refine KL_ind k59_b0.eq_1 (fun x : Nat × Int => [(0, .list (ints l)), (1, .int .i64 l.length), (5, .int .i64 x.2), (6, .int .i64 x.1)]) (fun _ => []) (fun x => x.1 ≤ l.length ∧ clOk l 0 = clOk (l.drop x.1) x.2 ∧ 0 ≤ x.2 ∧ x.2 ≤ x.1) (fun x => l.length - x.1) [0, 1, 5, 6] (0, 0) (by rfl) rfl ⟨Nat.zero_le _, rfl, by simp, by simp⟩ fun ⟨x, v⟩ ⟨hx, hc, h0, hv⟩ ih => ?_
  simp only at hx hc h0 hv
  try simp only [take6, List.drop_zero, Int.cast_ofNat_Int, go_sem, ↓reduceIte, Nat.reduceEqDiff, Nat.reduceAdd, Nat.reduceMul, Nat.reduceLeDiff, Nat.reduceLT, Int.reduceLE, Int.reduceLT, reduceCtorEq]
  refine ⟨fun h1 => ⟨by omega, fun h2 => ?_⟩, fun h1 => ?_⟩
  · rw [getD_eq h2]
    rw [clOk_step h2] at hc
    refine (p65 _ _ _).go ?_
    try simp only [take6, List.drop_zero, Int.cast_ofNat_Int, go_sem, ↓reduceIte, Nat.reduceEqDiff, Nat.reduceAdd, Nat.reduceMul, Nat.reduceLeDiff, Nat.reduceLT, Int.reduceLE, Int.reduceLT, reduceCtorEq]
    refine ⟨fun h3 => ?_, fun h3 => ⟨by omega, fun _ => ?_⟩⟩
    · rw [hc, decide_eq_false h3]
      exact Kv.Fin.still ⟨rfl, rfl⟩
    rw [getD_eq h2]
    refine ⟨fun h4 => ⟨by omega, by omega, ?_⟩, fun h4 => ⟨by omega, ?_⟩⟩
    · rw [decide_eq_true h3, Bool.true_and, if_pos h4] at hc
      exact ih (x + 1, v + 1) ⟨by show x + 1 ≤ _; omega, hc, by show 0 ≤ v + 1; omega, by show v + 1 ≤ ((x + 1 : Nat) : Int); omega⟩ (by show l.length - (x + 1) < l.length - x; omega) _ _ (by rfl) rfl
    · rw [decide_eq_true h3, Bool.true_and, if_neg h4] at hc
      exact ih (x + 1, v) ⟨by show x + 1 ≤ _; omega, hc, h0, by show v ≤ ((x + 1 : Nat) : Int); omega⟩ (by show l.length - (x + 1) < l.length - x; omega) _ _ (by rfl) rfl
  · obtain rfl : x = l.length := by omega
    rw [List.drop_length] at hc
    rw [hc]
    exact Kv.Fin.still ⟨by simp [clOk], rfl⟩
theorem p40 (l : List Int) (n : Int) (hl : l.length ≤ 1048576) : Pure Tryz.prog 40 [.list (ints l), .int .i64 n] (.bool (clOk l 0 && decide ((l.length : Int) = n))) := by
  refine e40 (by simp) fun _ _ => ?_
  simp only [k40, argEnv, take6, List.drop_zero, Int.cast_ofNat_Int, go_sem, ↓reduceIte, Nat.reduceEqDiff, Nat.reduceAdd, Nat.reduceMul, Nat.reduceLeDiff, Nat.reduceLT, Int.reduceLE, Int.reduceLT, reduceCtorEq]
  refine (p59 l n hl).go ?_
  try simp only [take6, List.drop_zero, Int.cast_ofNat_Int, go_sem, ↓reduceIte, Nat.reduceEqDiff, Nat.reduceAdd, Nat.reduceMul, Nat.reduceLeDiff, Nat.reduceLT, Int.reduceLE, Int.reduceLT, reduceCtorEq]
  exact Kv.Fin.still ⟨rfl, rfl⟩
theorem p44 (l : List Int) (k : Int) (hl : l.length ≤ 1048576) : Pure Tryz.prog 44 [.list (ints l), .int .i64 k] (.int .i64 (idx (fun y => decide (k = y)) l)) := by
  refine e44 (by simp) fun _ _ => ?_
  simp only [k44, argEnv, take6, List.drop_zero, Int.cast_ofNat_Int, go_sem, ↓reduceIte, Nat.reduceEqDiff, Nat.reduceAdd, Nat.reduceMul, Nat.reduceLeDiff, Nat.reduceLT, Int.reduceLE, Int.reduceLT, reduceCtorEq]
  refine KL_ind k44_b0.eq_1 (fun x : Nat => [(0, .list (ints l)), (1, .int .i64 k), (7, .int .i64 l.length), (8, .int .i64 x)]) (fun _ => []) (fun x => x ≤ l.length ∧ (l.take x).any (fun y => decide (k = y)) = false) (fun x => l.length - x) [0, 1, 7, 8] 0 (by rfl) rfl ⟨Nat.zero_le _, by simp⟩ fun x ⟨hx, hall⟩ ih => ?_
  try simp only [take6, List.drop_zero, Int.cast_ofNat_Int, go_sem, ↓reduceIte, Nat.reduceEqDiff, Nat.reduceAdd, Nat.reduceMul, Nat.reduceLeDiff, Nat.reduceLT, Int.reduceLE, Int.reduceLT, reduceCtorEq]
  refine ⟨fun h1 => ⟨by omega, fun h2 => ?_⟩, fun h1 => ?_⟩
  · rw [getD_eq h2]
    refine ⟨fun h3 => ?_, fun h3 => ⟨by omega, ?_⟩⟩
    · exact Kv.Fin.still ⟨by rw [idx_some h2 hall (by simpa using h3)], rfl⟩
    · refine ih (x + 1) ⟨by omega, ?_⟩ (by omega) _ _ (by rfl) rfl
      rw [any_take_succ _ h2, hall, decide_eq_false h3]; rfl
  · obtain rfl : x = l.length := by omega
    rw [List.take_length] at hall
    exact Kv.Fin.still ⟨by rw [idx_none hall], rfl⟩
theorem idx_of {l : List Int} {p : Nat} (h : p < l.length) : ∃ q : Nat, idx (fun y => decide (l.getD p 0 = y)) l = q ∧ q < l.length ∧ l.getD q 0 = l.getD p 0 := by
  have ha : l.any (fun y => decide (l.getD p 0 = y)) = true := by
    rw [List.any_eq_true]
    exact ⟨l[p], List.getElem_mem h, by rw [getD_eq h]; simp⟩
  obtain ⟨q, hq, h1, h2⟩ := any_split ha
  refine ⟨q, idx_some hq h1 h2, hq, ?_⟩
  rw [getD_eq hq]
  exact (of_decide_eq_true h2).symm
/-- What a right list of maps is. -/
theorem lcode_maps {a : List (List Int)} (h6 : ∀ r ∈ a, r.length = 6) (h : lcode a [] = 0) : ∃ (fs : List (List Nat)) (n : Nat), a = fs.map mp ∧ (∀ f ∈ fs, Ok f n) ∧ 1 ≤ fs.length ∧ fs.length ≤ 6 ∧ (a.getD 0 []).getD 0 0 = n ∧ 1 ≤ n ∧ n ≤ 5 := by
  unfold lcode at h
  rw [List.append_nil] at h
  split at h
  · omega
  rename_i h1
  split at h
  · omega
  rename_i h2
  split at h
  · omega
  rename_i h3
  simp only [Bool.not_eq_false, List.all_eq_true, decide_eq_true_eq] at h1 h3
  have h2' : 1 ≤ a.length ∧ a.length ≤ 6 := by omega
  have h0 : 0 < a.length := by omega
  obtain ⟨f0, n, hf0, e0⟩ := isM_ok (h6 _ (List.getElem_mem h0)) (h1 _ (List.getElem_mem h0))
  have hn : (a.getD 0 []).getD 0 0 = n := by rw [getD_eq h0, e0, mp_get0, hf0.len]
  have key : ∀ r ∈ a, r = mp (um r) ∧ Ok (um r) n := fun r hr => by
    obtain ⟨f, n', hf, e⟩ := isM_ok (h6 r hr) (h1 r hr)
    have h4 := h3 r hr
    rw [hn, e, mp_get0, hf.len] at h4
    obtain rfl : n' = n := by omega
    rw [e, um_mp]
    exact ⟨rfl, hf⟩
  refine ⟨a.map um, n, ?_, ?_, by simpa using h2'.1, by simpa using h2'.2, hn, hf0.pos, hf0.le⟩
  · rw [List.map_map]
    conv => lhs; rw [← List.map_id a]
    exact List.map_congr_left fun r hr => by simpa using (key r hr).1
  · intro f hf
    obtain ⟨r, hr, rfl⟩ := List.mem_map.1 hf
    exact (key r hr).2
/-- A map keeps a partition. -/
def Iv (P : List Int) (f : List Nat) : Prop := ∀ a b, a < P.length → b < P.length → P.getD a 0 = P.getD b 0 → P.getD (f.getD a 0) 0 = P.getD (f.getD b 0) 0
noncomputable def iv (fs : List (List Nat)) (P : List Int) : Bool := @decide (∀ f ∈ fs, Iv P f) (Classical.propDecidable _)
theorem iv_true {fs : List (List Nat)} {P : List Int} (h : ∀ f ∈ fs, Iv P f) : iv fs P = true := by
  unfold iv; exact @decide_eq_true _ (Classical.propDecidable _) h
theorem iv_all {fs : List (List Nat)} {P : List Int} (h : iv fs P = true) : ∀ f ∈ fs, Iv P f := by
  unfold iv at h; exact @of_decide_eq_true _ (Classical.propDecidable _) h
theorem iv_false {fs : List (List Nat)} {P : List Int} {x : Nat} (h : x < fs.length) (h' : ¬ Iv P fs[x]) : iv fs P = false := by
  unfold iv; exact @decide_eq_false _ (Classical.propDecidable _) fun g => h' (g _ (List.getElem_mem h))
theorem take_mem_succ {fs : List (List Nat)} {x : Nat} {Q : List Nat → Prop} (h : x < fs.length) (h1 : ∀ f ∈ fs.take x, Q f) (h2 : Q fs[x]) : ∀ f ∈ fs.take (x + 1), Q f := fun f hf => by
  rw [List.take_succ_eq_append_getElem h, List.mem_append, List.mem_singleton] at hf
  rcases hf with hf | rfl
  · exact h1 f hf
  · exact h2
theorem map_getD {fs : List (List Nat)} {x : Nat} (h : x < fs.length) : (fs.map mp).getD x [] = mp fs[x] := by simp [List.getD_eq_getElem?_getD, h]
theorem p26 (fs : List (List Nat)) (n : Nat) (P : List Int) (hP : P.length = n) (h5 : n ≤ 5) (hf : ∀ f ∈ fs, Ok f n) (hl : fs.length ≤ 1048576) : Pure Tryz.prog 26 [.list (aggs (fs.map mp)), .list (ints P)] (.bool (iv fs P)) := by
  subst hP
  refine e26 (by simp) fun _ _ => ?_
  simp only [k26, argEnv, take6, List.drop_zero, Int.cast_ofNat_Int, go_sem, ↓reduceIte, Nat.reduceEqDiff, Nat.reduceAdd, Nat.reduceMul, Nat.reduceLeDiff, Nat.reduceLT, Int.reduceLE, Int.reduceLT, reduceCtorEq]
  refine KL_indD k26_b1.eq_1 (fun x : Nat => [(1, .list (ints P)), (10, .list (aggs (fs.map mp))), (11, .int .i64 fs.length), (12, .int .i64 x)]) (fun _ => []) (fun x => x ≤ fs.length ∧ ∀ f ∈ fs.take x, Iv P f) (fun x => fs.length - x) [1, 10, 11, 12] 0 (by simp [keep]) ⟨[], rfl⟩ ⟨Nat.zero_le _, by simp⟩ (fun x hx => ?_) fun x ⟨hx, hall⟩ ih => ?_
  · exact ⟨Nat.zero_le _, Env.undr_upto (by simp [Env.undr, PV.undr, undrX_ints, undrX_aggs]), .nil _⟩
  try simp only [List.length_map, take6, List.drop_zero, Int.cast_ofNat_Int, go_sem, ↓reduceIte, Nat.reduceEqDiff, Nat.reduceAdd, Nat.reduceMul, Nat.reduceLeDiff, Nat.reduceLT, Int.reduceLE, Int.reduceLT, reduceCtorEq]
  refine ⟨fun h1 => ⟨by omega, fun h2 => ?_⟩, fun h1 => ?_⟩
  · have hk := hf _ (List.getElem_mem h2)
    have h6 := hk.mp_len
    rw [map_getD h2]
    try simp only [h6, take6, List.drop_zero, Int.cast_ofNat_Int, go_sem, ↓reduceIte, Nat.reduceEqDiff, Nat.reduceAdd, Nat.reduceMul, Nat.reduceLeDiff, Nat.reduceLT, Int.reduceLE, Int.reduceLT, reduceCtorEq]
    refine KL_ind k26_b0.eq_1 (fun p : Nat => [(1, .list (ints P)), (6, .ptr 0 0), (10, .list (aggs (fs.map mp))), (11, .int .i64 fs.length), (12, .int .i64 x), (16, .list (ints P)), (17, .int .i64 P.length), (18, .int .i64 p)]) (fun _ => [.box (ints (mp fs[x]))]) (fun p => p ≤ P.length ∧ ∀ a, a < p → ∀ q : Nat, idx (fun y => decide (P.getD a 0 = y)) P = q → P.getD (fs[x].getD a 0) 0 = P.getD (fs[x].getD q 0) 0) (fun p => P.length - p) [1, 6, 10, 11, 12, 16, 17, 18] 0 (by rfl) rfl ⟨Nat.zero_le _, fun a ha => by omega⟩ fun p ⟨hp, hpa⟩ ihp => ?_
    try simp only [take6, List.drop_zero, Int.cast_ofNat_Int, go_sem, ↓reduceIte, Nat.reduceEqDiff, Nat.reduceAdd, Nat.reduceMul, Nat.reduceLeDiff, Nat.reduceLT, Int.reduceLE, Int.reduceLT, reduceCtorEq]
    refine ⟨fun h3 => ⟨by omega, fun h4 => ?_⟩, fun h3 => ?_⟩
    · refine (p44 P _ (by omega)).go ?_
      obtain ⟨q, hq, hql, hqe⟩ := idx_of h4
      rw [hq]
      have hg1 := hk.get' p
      have hg2 := hk.get' q
      try simp only [h6, hg1, hg2, take6, List.drop_zero, Int.cast_ofNat_Int, go_sem, ↓reduceIte, Nat.reduceEqDiff, Nat.reduceAdd, Nat.reduceMul, Nat.reduceLeDiff, Nat.reduceLT, Int.reduceLE, Int.reduceLT, reduceCtorEq]
      refine ⟨by omega, by omega, fun _ => ⟨by omega, by omega, by omega, fun _ => ⟨by omega, fun h7 => ?_, fun h7 => ⟨by omega, ?_⟩⟩⟩⟩
      · exact Kv.Fin.still ⟨by rw [iv_false h2 fun h => h7 (h p q h4 hql hqe.symm)], rfl⟩
      · refine ihp (p + 1) ⟨by omega, fun a ha q' hq' => ?_⟩ (by omega) _ _ (by rfl) rfl
        by_cases e : a = p
        · subst e
          rw [hq] at hq'
          obtain rfl : q = q' := by omega
          exact h7
        · exact hpa a (by omega) q' hq'
    · obtain rfl : p = P.length := by omega
      refine ⟨by omega, ?_⟩
      refine ih (x + 1) ⟨by omega, take_mem_succ h2 hall fun a b ha hb he => ?_⟩ (by omega) _ _ (by simp [keep]) ⟨[_], rfl⟩
      obtain ⟨q, hq, _, _⟩ := idx_of ha
      rw [hpa a ha q hq, hpa b hb q (by rw [← he]; exact hq)]
  · obtain rfl : x = fs.length := by omega
    rw [List.take_length] at hall
    exact Kv.Fin.still ⟨by rw [iv_true hall], rfl⟩
theorem p21 (fs : List (List Nat)) (n : Nat) (P : List Int) (hP : P.length = n) (h5 : n ≤ 5) (hf : ∀ f ∈ fs, Ok f n) (hl : fs.length ≤ 1048576) : Pure Tryz.prog 21 [.list (aggs (fs.map mp)), .list (ints P)] (.bool (iv fs P)) := by
  subst hP
  refine e21 (by simp) fun _ _ => ?_
  simp only [k21, argEnv, take6, List.drop_zero, Int.cast_ofNat_Int, go_sem, ↓reduceIte, Nat.reduceEqDiff, Nat.reduceAdd, Nat.reduceMul, Nat.reduceLeDiff, Nat.reduceLT, Int.reduceLE, Int.reduceLT, reduceCtorEq]
  refine KL_ind k21_b2.eq_1 (fun x : Nat => [(0, .list (aggs (fs.map mp))), (1, .list (ints P)), (5, .int .i64 x)]) (fun _ => []) (fun x => x ≤ fs.length ∧ ∀ f ∈ fs.take x, Iv P f) (fun x => fs.length - x) [0, 1, 5] 0 (by simp [keep]) rfl ⟨Nat.zero_le _, by simp⟩ fun x ⟨hx, hall⟩ ih => ?_
  try simp only [List.length_map, take6, List.drop_zero, Int.cast_ofNat_Int, go_sem, ↓reduceIte, Nat.reduceEqDiff, Nat.reduceAdd, Nat.reduceMul, Nat.reduceLeDiff, Nat.reduceLT, Int.reduceLE, Int.reduceLT, reduceCtorEq]
  refine ⟨fun h1 => ?_, fun h1 => ?_⟩
  · have h2 : x < fs.length := by omega
    have hk := hf _ (List.getElem_mem h2)
    have h6 := hk.mp_len
    refine KL_ind k21_b1.eq_1 (fun a : Nat => [(0, .list (aggs (fs.map mp))), (1, .list (ints P)), (5, .int .i64 x), (6, .int .i64 a)]) (fun _ => []) (fun a => a ≤ P.length ∧ ∀ c d, c < a → d < c → P.getD c 0 = P.getD d 0 → P.getD (fs[x].getD c 0) 0 = P.getD (fs[x].getD d 0) 0) (fun a => P.length - a) [0, 1, 5, 6] 0 (by simp [keep]) rfl ⟨Nat.zero_le _, fun c d hc => by omega⟩ fun a ⟨ha, hac⟩ iha => ?_
    try simp only [take6, List.drop_zero, Int.cast_ofNat_Int, go_sem, ↓reduceIte, Nat.reduceEqDiff, Nat.reduceAdd, Nat.reduceMul, Nat.reduceLeDiff, Nat.reduceLT, Int.reduceLE, Int.reduceLT, reduceCtorEq]
    refine ⟨fun h3 => ?_, fun h3 => ?_⟩
    · refine KL_ind k21_b0.eq_1 (fun b : Nat => [(0, .list (aggs (fs.map mp))), (1, .list (ints P)), (5, .int .i64 x), (6, .int .i64 a), (7, .int .i64 b)]) (fun _ => []) (fun b => b ≤ a ∧ ∀ d, d < b → P.getD a 0 = P.getD d 0 → P.getD (fs[x].getD a 0) 0 = P.getD (fs[x].getD d 0) 0) (fun b => a - b) [0, 1, 5, 6, 7] 0 (by simp [keep]) rfl ⟨Nat.zero_le _, fun d hd => by omega⟩ fun b ⟨hb, hbd⟩ ihb => ?_
      have hg1 := hk.get' a
      have hg2 := hk.get' b
      have h4 : a < P.length := by omega
      try simp only [h6, hg1, hg2, map_getD h2, List.length_map, take6, List.drop_zero, Int.cast_ofNat_Int, go_sem, ↓reduceIte, Nat.reduceEqDiff, Nat.reduceAdd, Nat.reduceMul, Nat.reduceLeDiff, Nat.reduceLT, Int.reduceLE, Int.reduceLT, reduceCtorEq]
      have hit : (P.getD a 0 = P.getD b 0 → P.getD (fs[x].getD a 0) 0 = P.getD (fs[x].getD b 0) 0) → ∀ d, d < b + 1 → P.getD a 0 = P.getD d 0 → P.getD (fs[x].getD a 0) 0 = P.getD (fs[x].getD d 0) 0 := fun h d hd => by
        by_cases e : d = b
        · rw [e]; exact h
        · exact hbd d (by omega)
      refine ⟨fun h5 => ⟨by omega, fun _ => ⟨by omega, fun h8 => ⟨fun h9 => ⟨by omega, fun _ => ⟨by omega, by omega, fun _ => ⟨by omega, by omega, fun _ => ⟨by omega, by omega, fun _ => ⟨by omega, fun h10 => ?_, fun h10 => ⟨by omega, ?_⟩⟩⟩⟩⟩⟩, fun h9 => ⟨by omega, ?_⟩⟩⟩⟩, fun h5 => ⟨by omega, ?_⟩⟩
      · exact Kv.Fin.still ⟨by rw [iv_false h2 fun h => h10 (h a b h4 h8 h9)], rfl⟩
      · exact ihb (b + 1) ⟨by omega, hit fun _ => h10⟩ (by omega) _ _ (by simp [keep]) rfl
      · exact ihb (b + 1) ⟨by omega, hit fun h => absurd h h9⟩ (by omega) _ _ (by simp [keep]) rfl
      · obtain rfl : b = a := by omega
        refine iha (b + 1) ⟨by omega, fun c d hc hd he => ?_⟩ (by omega) _ _ (by simp [keep]) rfl
        by_cases e : c = b
        · subst e; exact hbd d hd he
        · exact hac c d (by omega) hd he
    · obtain rfl : a = P.length := by omega
      refine ⟨by omega, ?_⟩
      refine ih (x + 1) ⟨by omega, take_mem_succ h2 hall fun c d hc hd he => ?_⟩ (by omega) _ _ (by simp [keep]) rfl
      rcases Nat.lt_trichotomy c d with h | h | h
      · exact (hac d c hd h he.symm).symm
      · rw [h]
      · exact hac c d hc h he
  · obtain rfl : x = fs.length := by omega
    rw [List.take_length] at hall
    exact Kv.Fin.still ⟨by rw [iv_true hall], rfl⟩
/-- What comes to pass: the code, or whether. -/
noncomputable def ivp (a : List (List Int)) (P : List Int) : Bool × Int :=
  if lcode a [] ≠ 0 then (false, lcode a []) else if (clOk P 0 && decide ((P.length : Int) = (a.getD 0 []).getD 0 0)) = false then (false, 2) else (iv (a.map um) P, 0)
theorem map_um (fs : List (List Nat)) : (fs.map mp).map um = fs := by
  rw [List.map_map]
  conv => rhs; rw [← List.map_id fs]
  exact List.map_congr_left fun f _ => um_mp f
theorem p9 (a : List (List Int)) (P : List Int) (ha : a.length ≤ 1048576) (h6 : ∀ r ∈ a, r.length = 6) (hP : P.length ≤ 1048576) : Pure Tryz.prog 9 [.list (aggs a), .list (ints P)] (.tup [.bool (ivp a P).1, .int .i64 (ivp a P).2]) := by
  refine e9 (by simp) fun _ _ => ?_
  simp only [k9, argEnv, take6, List.drop_zero, Int.cast_ofNat_Int, go_sem, ↓reduceIte, Nat.reduceEqDiff, Nat.reduceAdd, Nat.reduceMul, Nat.reduceLeDiff, Nat.reduceLT, Int.reduceLE, Int.reduceLT, reduceCtorEq]
  refine (p24 _ a [] .nil ha (by simp) h6 (by simp)).go ?_
  try simp only [take6, List.drop_zero, Int.cast_ofNat_Int, go_sem, ↓reduceIte, Nat.reduceEqDiff, Nat.reduceAdd, Nat.reduceMul, Nat.reduceLeDiff, Nat.reduceLT, Int.reduceLE, Int.reduceLT, reduceCtorEq]
  refine ⟨fun h1 => ?_, fun h1 => ?_⟩
  · exact Kv.Fin.still ⟨by simp [ivp, h1], rfl⟩
  · obtain ⟨fs, n, rfl, hf, hl1, hl2, hn, hn1, hn5⟩ := lcode_maps h6 h1
    have h0 : 0 < fs.length := by omega
    have hk := hf _ (List.getElem_mem h0)
    have h6k := hk.mp_len
    rw [map_getD h0] at hn
    try simp only [map_getD h0, h6k, hn, List.length_map, take6, List.drop_zero, Int.cast_ofNat_Int, go_sem, ↓reduceIte, Nat.reduceEqDiff, Nat.reduceAdd, Nat.reduceMul, Nat.reduceLeDiff, Nat.reduceLT, Int.reduceLE, Int.reduceLT, reduceCtorEq]
    refine ⟨by omega, fun _ => ?_⟩
    refine (p25 P _ hP).go ?_
    have hv : ivp (fs.map mp) P = if (clOk P 0 && decide ((P.length : Int) = n)) = false then (false, 2) else (iv fs P, 0) := by
      unfold ivp; rw [if_neg (by simp [h1]), map_um, map_getD h0, hn]
    cases hc : (clOk P 0 && decide ((P.length : Int) = n)) with
    | false =>
      try simp only [take6, List.drop_zero, Int.cast_ofNat_Int, go_sem, ↓reduceIte, Nat.reduceEqDiff, Nat.reduceAdd, Nat.reduceMul, Nat.reduceLeDiff, Nat.reduceLT, Int.reduceLE, Int.reduceLT, reduceCtorEq]
      exact Kv.Fin.still ⟨by rw [hv, hc]; rfl, rfl⟩
    | true =>
      have hPn : P.length = n := by
        simp only [Bool.and_eq_true, decide_eq_true_eq] at hc; omega
      try simp only [take6, List.drop_zero, Int.cast_ofNat_Int, go_sem, ↓reduceIte, Nat.reduceEqDiff, Nat.reduceAdd, Nat.reduceMul, Nat.reduceLeDiff, Nat.reduceLT, Int.reduceLE, Int.reduceLT, reduceCtorEq]
      refine (p26 fs n P hPn hn5 hf (by omega)).go ?_
      try simp only [take6, List.drop_zero, Int.cast_ofNat_Int, go_sem, ↓reduceIte, Nat.reduceEqDiff, Nat.reduceAdd, Nat.reduceMul, Nat.reduceLeDiff, Nat.reduceLT, Int.reduceLE, Int.reduceLT, reduceCtorEq]
      exact Kv.Fin.still ⟨by rw [hv, hc]; rfl, rfl⟩
/-- The code of a list and a partition. -/
def pgc (a : List (List Int)) (P : List Int) : Int :=
  if lcode a [] ≠ 0 then lcode a [] else if (clOk P 0 && decide ((P.length : Int) = (a.getD 0 []).getD 0 0)) = false then 2 else 0
theorem pgc_zero {a : List (List Int)} {P : List Int} (h : pgc a P = 0) : lcode a [] = 0 ∧ (clOk P 0 && decide ((P.length : Int) = (a.getD 0 []).getD 0 0)) = true := by
  unfold pgc at h
  by_cases h1 : lcode a [] = 0
  · rw [if_neg (by simp [h1])] at h
    refine ⟨h1, ?_⟩
    cases h2 : (clOk P 0 && decide ((P.length : Int) = (a.getD 0 []).getD 0 0)) with
    | true => rfl
    | false => rw [h2] at h; simp at h
  · rw [if_pos h1] at h; exact absurd h h1
theorem p20 (a : List (List Int)) (P : List Int) (ha : a.length ≤ 1048576) (h6 : ∀ r ∈ a, r.length = 6) (hP : P.length ≤ 1048576) : Pure Tryz.prog 20 [.list (aggs a), .list (ints P)] (.int .i64 (pgc a P)) := by
  refine e20 (by simp) fun _ _ => ?_
  simp only [k20, argEnv, take6, List.drop_zero, Int.cast_ofNat_Int, go_sem, ↓reduceIte, Nat.reduceEqDiff, Nat.reduceAdd, Nat.reduceMul, Nat.reduceLeDiff, Nat.reduceLT, Int.reduceLE, Int.reduceLT, reduceCtorEq]
  refine (p30n a ha h6).go ?_
  try simp only [take6, List.drop_zero, Int.cast_ofNat_Int, go_sem, ↓reduceIte, Nat.reduceEqDiff, Nat.reduceAdd, Nat.reduceMul, Nat.reduceLeDiff, Nat.reduceLT, Int.reduceLE, Int.reduceLT, reduceCtorEq]
  refine ⟨fun h1 => ?_, fun h1 => ?_⟩
  · obtain ⟨fs, n, rfl, hf, hl1, hl2, hn, hn1, hn5⟩ := lcode_maps h6 h1
    have h0 : 0 < fs.length := by omega
    have hk := hf _ (List.getElem_mem h0)
    have h6k := hk.mp_len
    have hv : pgc (fs.map mp) P = if (clOk P 0 && decide ((P.length : Int) = n)) = false then 2 else 0 := by
      unfold pgc; rw [if_neg (by simp [h1]), hn]
    rw [map_getD h0] at hn
    try simp only [map_getD h0, h6k, hn, List.length_map, take6, List.drop_zero, Int.cast_ofNat_Int, go_sem, ↓reduceIte, Nat.reduceEqDiff, Nat.reduceAdd, Nat.reduceMul, Nat.reduceLeDiff, Nat.reduceLT, Int.reduceLE, Int.reduceLT, reduceCtorEq]
    refine ⟨by omega, fun _ => ?_⟩
    refine (p40 P _ hP).go ?_
    cases hc : (clOk P 0 && decide ((P.length : Int) = n)) with
    | false =>
      try simp only [take6, List.drop_zero, Int.cast_ofNat_Int, go_sem, ↓reduceIte, Nat.reduceEqDiff, Nat.reduceAdd, Nat.reduceMul, Nat.reduceLeDiff, Nat.reduceLT, Int.reduceLE, Int.reduceLT, reduceCtorEq]
      exact Kv.Fin.still ⟨by rw [hv, hc]; rfl, rfl⟩
    | true =>
      try simp only [h1, take6, List.drop_zero, Int.cast_ofNat_Int, go_sem, ↓reduceIte, Nat.reduceEqDiff, Nat.reduceAdd, Nat.reduceMul, Nat.reduceLeDiff, Nat.reduceLT, Int.reduceLE, Int.reduceLT, reduceCtorEq]
      exact Kv.Fin.still ⟨by rw [hv, hc]; simp, rfl⟩
  · exact Kv.Fin.still ⟨by simp [pgc, h1], rfl⟩
theorem p10 (a : List (List Int)) (P : List Int) (ha : a.length ≤ 1048576) (h6 : ∀ r ∈ a, r.length = 6) (hP : P.length ≤ 1048576) : Pure Tryz.prog 10 [.list (aggs a), .list (ints P)] (.tup [.bool (ivp a P).1, .int .i64 (ivp a P).2]) := by
  refine e10 (by simp) fun _ _ => ?_
  simp only [k10, argEnv, take6, List.drop_zero, Int.cast_ofNat_Int, go_sem, ↓reduceIte, Nat.reduceEqDiff, Nat.reduceAdd, Nat.reduceMul, Nat.reduceLeDiff, Nat.reduceLT, Int.reduceLE, Int.reduceLT, reduceCtorEq]
  refine (p20 a P ha h6 hP).go ?_
  try simp only [take6, List.drop_zero, Int.cast_ofNat_Int, go_sem, ↓reduceIte, Nat.reduceEqDiff, Nat.reduceAdd, Nat.reduceMul, Nat.reduceLeDiff, Nat.reduceLT, Int.reduceLE, Int.reduceLT, reduceCtorEq]
  have hv : ivp a P = if pgc a P ≠ 0 then (false, pgc a P) else (iv (a.map um) P, 0) := by
    unfold ivp pgc
    generalize (clOk P 0 && decide ((P.length : Int) = (a.getD 0 []).getD 0 0)) = b
    by_cases h1 : lcode a [] = 0
    · simp only [h1, ne_eq, not_true_eq_false, if_false]
      cases b <;> simp
    · simp only [ne_eq, h1, not_false_eq_true, if_true]
  refine ⟨fun h1 => ?_, fun h1 => ?_⟩
  · exact Kv.Fin.still ⟨by rw [hv, if_pos h1], rfl⟩
  · obtain ⟨h2, h3⟩ := pgc_zero h1
    obtain ⟨fs, n, rfl, hf, hl1, hl2, hn, hn1, hn5⟩ := lcode_maps h6 h2
    rw [hn] at h3
    have hPn : P.length = n := by
      simp only [Bool.and_eq_true, decide_eq_true_eq] at h3; omega
    refine (p21 fs n P hPn hn5 hf (by omega)).go ?_
    try simp only [take6, List.drop_zero, Int.cast_ofNat_Int, go_sem, ↓reduceIte, Nat.reduceEqDiff, Nat.reduceAdd, Nat.reduceMul, Nat.reduceLeDiff, Nat.reduceLT, Int.reduceLE, Int.reduceLT, reduceCtorEq]
    exact Kv.Fin.still ⟨by rw [hv, if_neg (by simp [h1]), map_um], rfl⟩
end Go.Proofs.YtodmbkceindakaaGreat
end
section
/- Marking and holding of lists of maps. -/
namespace Go.Proofs.YtodmbkceindakaaGreat
open Go.Kv
set_option maxRecDepth 100000
end Go.Proofs.YtodmbkceindakaaGreat
namespace Go.Proofs.YtodmbkceindakaaGreat
open Go.Kv
set_option linter.unusedVariables false
set_option linter.unusedSimpArgs false
attribute [local irreducible] ACall PCall KL
/-- Maps whose numbers are those from k on. -/
def seqA (k : Int) (n : Nat) : List (List Int) := (List.range n).map fun i => seqI (k + 6 * (i : Nat)) 6
@[simp] theorem seqA_length (k : Int) (n : Nat) : (seqA k n).length = n := by simp [seqA]
theorem seqA_succ (k : Int) (n : Nat) : seqA k (n + 1) = seqA k n ++ [seqI (k + 6 * n) 6] := by simp [seqA, List.range_succ]
theorem seqA_mem {k : Int} {n : Nat} : ∀ r ∈ seqA k n, r.length = 6 := fun r hr => by
  simp only [seqA, List.mem_map] at hr
  obtain ⟨i, _, rfl⟩ := hr
  simp
theorem seqA_getD (k : Int) {n i : Nat} (h : i < n) : (seqA k n).getD i [] = seqI (k + 6 * i) 6 := by simp [seqA, List.getD_eq_getElem?_getD, h]
/-- The first x maps are marked. -/
def mixA (k : Int) (l : List (List Int)) (x : Nat) : List (List Int) := seqA k x ++ l.drop x
theorem mixA_length (k : Int) {l : List (List Int)} {x : Nat} (h : x ≤ l.length) : (mixA k l x).length = l.length := by simp [mixA]; omega
theorem mixA_getD (k : Int) {l : List (List Int)} {x : Nat} (h : x < l.length) (post : List (List Int)) : (mixA k l x ++ post).getD x [] = l.getD x [] := by
  simp only [mixA, List.append_assoc]
  rw [List.getD_eq_getElem?_getD, List.getElem?_append_right (by simp), seqA_length, Nat.sub_self, List.drop_eq_getElem_cons h, List.getD_eq_getElem?_getD, List.getElem?_eq_getElem h]
  rfl
theorem mixA_set (k : Int) {l : List (List Int)} {x : Nat} (h : x < l.length) (post : List (List Int)) : (mixA k l x ++ post).set x (seqI (k + 6 * x) 6) = mixA k l (x + 1) ++ post := by
  simp only [mixA, List.append_assoc]
  rw [List.set_append_right _ _ (by simp), seqA_length, Nat.sub_self, List.drop_eq_getElem_cons h, seqA_succ, List.append_assoc]
  rfl
/-- The first j numbers of a map are marked. -/
def mixM (k : Int) (m : List Int) (j : Nat) : List Int := seqI k j ++ m.drop j
theorem mixM_length (k : Int) {m : List Int} {j : Nat} (h : j ≤ m.length) : (mixM k m j).length = m.length := by simp [mixM]; omega
end Go.Proofs.YtodmbkceindakaaGreat
end
