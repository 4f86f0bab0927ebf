/- Several texts of this session as one, less what the claim does not need. -/
import Derived.Test.YthbbjbfbeaiphaaGreatCb
import Derived.Test.YthbbjbfbeaiphaaGreatZ5
import Derived.Test.YthbbjbfbeaiphaaGreatFC
section
section
namespace Go.Proofs.YthbbjbfbeaiphaaGreat
open Go.Kv
set_option maxRecDepth 100000
def k143_b0 : KC := (.seq (.ops [oP 9 (.bin .lss (.t 8) (.t 7))])
 (.seq (.cond (.t 9) .skip (.exit 0))
 (.seq (.block 1 (.seq (.ops [mV 10 8, mV 5 10])
 (.seq (.ops [mV 11 1, mV 12 0, mV 13 5, oP 14 (.idxS 6 (.t 12) (.t 13)), oP 15 (.load true 6 (.t 14)), oP 16 (.call (.t 11) [(.t 15)])])
 (.cond (.t 16) (.seq (.ops [mV 17 5, mV 4 17])
 .ret) .skip))))
 (.ops [oP 18 (.bin .add (.t 8) (iC 1)), mV 8 18]))))
def k143 : KC := (.seq (.ops [oP 4 (.mv (iC 0))])
 (.seq (.seq (.ops [mV 6 0, oP 7 (.len false (.t 6)), oP 8 (.mv (iC 0))])
 (.block 0 (.loop k143_b0)))
 (.seq (.ops [oP 4 (.mv (iC (-1)))])
 .ret)))
theorem e143 : Ent 143 19 [] [.t 4] k143 := ent Tryz.func143 (by kernel_rfl) (by kernel_rfl) (by kernel_rfl) (fun _ => by kernel_rfl) (by kernel_rfl)
end Go.Proofs.YthbbjbfbeaiphaaGreat
namespace Go.Proofs.YthbbjbfbeaiphaaGreat
open Go.Kv
set_option linter.unusedVariables false
set_option linter.unusedSimpArgs false
attribute [local irreducible] ACall PCall KL
theorem p143 (l : List (List Int)) (hm : ∀ x ∈ l, x.length = 6) (hl : l.length ≤ 4294967296) (fid : FuncId) (caps : List PV) [hc : StillL caps] (p : List Int → Bool) (hp : ∀ x ∈ l, Pure Tryz.prog fid (.agg (ints x) :: caps) (.bool (p x))) :
  Pure Tryz.prog 143 [.list (aggs l), .fn (.func fid) [] caps] (.int .i64 (idx p l)) := by
 refine e143 (by simp) fun _ _ => ?_
 simp only [k143, argEnv, go_sem]
 refine KL_ind k143_b0.eq_1 (fun x : Nat => [(0, .list (aggs l)), (1, .fn (.func fid) [] caps), (7, .int .i64 l.length), (8, .int .i64 x)]) (fun _ => []) (fun x => x ≤ l.length ∧ (l.take x).any p = false) (fun x => l.length - x) [0, 1, 7, 8] 0 rfl rfl ⟨Nat.zero_le _, by simp⟩ fun x ⟨hx, hall⟩ ih => ?_
 try simp only [go_sem]
 refine ⟨fun h1 => ⟨by omega, fun h2 => ?_⟩, fun h1 => ?_⟩
 ·rw [getD_eq h2]
  have h6 := hm _ (List.getElem_mem h2)
  try simp only [h6, go_sem]
  refine (hp _ (List.getElem_mem h2)).go ?_
  try simp only [go_sem]
  refine ⟨fun h3 => ?_, fun h3 => ⟨by omega, ?_⟩⟩
  ·exact Kv.Fin.now ⟨by rw [idx_some h2 hall h3], rfl⟩
  ·refine ih (x + 1) ⟨by omega, ?_⟩ (by omega) _ _ rfl rfl
   rw [any_take_succ _ h2, hall, h3]; rfl
 ·obtain rfl : x = l.length := by omega
  rw [List.take_length] at hall
  exact Kv.Fin.now ⟨by rw [idx_none hall], rfl⟩
end Go.Proofs.YthbbjbfbeaiphaaGreat
end
section
namespace Go.Proofs.YthbbjbfbeaiphaaGreat
open Go.Kv
set_option maxRecDepth 100000
def k136 : KC := (.seq (.ops [oP 4 (.mv (.c (.nils)))])
 (.seq (.seq (.ops [mV 5 1, oP 6 (.bin .lss (.t 5) (iC 0))])
 (.cond (.t 6) (.ops [oP 7 (.bad), ⟨none, none, .bad⟩]) .skip))
 (.seq (.seq (.ops [mV 8 1, mV 9 0, oP 10 (.cap0 (.t 9)), mV 11 0, oP 12 (.len false (.t 11)), oP 13 (.bin .sub (.t 10) (.t 12)), oP 14 (.bin .sub (.t 8) (.t 13)), mV 1 14])
 (.seq (.ops [mV 15 1, oP 16 (.bin .gtr (.t 15) (iC 0))])
 (.cond (.t 16) (.ops [mV 17 0, mV 18 0, oP 19 (.cap0 (.t 18)), oP 20 (.sls 6 (.t 17) none (some (.t 19))), mV 21 1, oP 22 (.apn (.t 20) (.t 21) 60 6 (.agg [.int .i64 0, .int .i64 0, .int .i64 0, .int .i64 0, .int .i64 0, .int .i64 0])), mV 23 0, oP 24 (.len false (.t 23)), oP 25 (.sls 6 (.t 22) none (some (.t 24))), mV 0 25]) .skip)))
 (.seq (.ops [mV 26 0, mV 4 26])
 .ret))))
theorem e136 : Ent 136 27 [] [.t 4] k136 := ent Tryz.func136 (by kernel_rfl) (by kernel_rfl) (by kernel_rfl) (fun _ => by kernel_rfl) (by kernel_rfl)
def k70_b0 : KC := (.seq (.ops [oP 12 (.bin .lss (.t 11) (.t 10))])
 (.seq (.cond (.t 12) .skip (.exit 0))
 (.seq (.block 1 (.seq (.ops [oP 13 (.idxS 1 (.t 9) (.t 11)), oP 14 (.load false 1 (.t 13)), mV 5 14])
 (.seq (.ops [mV 15 3, mV 16 5, oP 17 (.len false (.t 16)), oP 18 (.bin .add (.t 15) (.t 17)), mV 3 18])
 (.seq (.ops [mV 19 3, oP 20 (.bin .lss (.t 19) (iC 0))])
 (.cond (.t 20) (.ops [oP 21 (.bad), ⟨none, none, .bad⟩]) .skip)))))
 (.ops [oP 22 (.bin .add (.t 11) (iC 1)), mV 11 22]))))
def k70_b1 : KC := (.seq (.ops [oP 28 (.bin .lss (.t 27) (.t 26))])
 (.seq (.cond (.t 28) .skip (.exit 2))
 (.seq (.block 3 (.seq (.ops [oP 29 (.idxS 1 (.t 25) (.t 27)), oP 30 (.load false 1 (.t 29)), mV 8 30])
 (.ops [mV 31 6, mV 32 8, oP 33 (.app (.t 31) (.t 32) 60 6), mV 6 33])))
 (.ops [oP 34 (.bin .add (.t 27) (iC 1)), mV 27 34]))))
def k70 : KC := (.seq (.ops [oP 2 (.mv (.c (.nils)))])
 (.seq (.ops [oP 3 (.mv (iC 0))])
 (.seq (.seq (.ops [mV 9 0, oP 10 (.len false (.t 9)), oP 11 (.mv (iC 0))])
 (.block 0 (.loop k70_b0)))
 (.seq (.ops [mV 23 3, oP 24 (.call (fC 136) [(.c (.nils)), (.t 23)]), mV 6 24])
 (.seq (.seq (.ops [mV 25 0, oP 26 (.len false (.t 25)), oP 27 (.mv (iC 0))])
 (.block 2 (.loop k70_b1)))
 (.seq (.ops [mV 35 6, mV 2 35])
 .ret))))))
theorem e70 : Ent 70 36 [] [.t 2] k70 := ent Tryz.func70 (by kernel_rfl) (by kernel_rfl) (by kernel_rfl) (fun _ => by kernel_rfl) (by kernel_rfl)
end Go.Proofs.YthbbjbfbeaiphaaGreat
namespace Go.Proofs.YthbbjbfbeaiphaaGreat
open Go.Kv
set_option linter.unusedVariables false
set_option linter.unusedSimpArgs false
attribute [local irreducible] ACall PCall KL
theorem aggs_repl (n : Nat) : List.replicate n (PV.agg [.int .i64 0, .int .i64 0, .int .i64 0, .int .i64 0, .int .i64 0, .int .i64 0]) = aggs (List.replicate n [0, 0, 0, 0, 0, 0]) := by simp [aggs, ints]
end Go.Proofs.YthbbjbfbeaiphaaGreat
end
section
namespace Go.Proofs.YthbbjbfbeaiphaaGreat
open Go.Kv
set_option linter.unusedVariables false
set_option linter.unusedSimpArgs false
attribute [local irreducible] ACall PCall KL
theorem p136 (n : Int) (h00 : 0 ≤ n) (hn : n ≤ 4294967296) {K : PV → Heap → Prop} (h0 : n = 0 → K .nils []) (h1 : 0 < n → K (.ref 0 0 0 0) [.arr 0 60 6 (aggs (List.replicate n.toNat [0, 0, 0, 0, 0, 0]))]) :
  ACall Tryz.prog 136 [.nils, .int .i64 n] [] K := by
 refine e136 (by simp) fun _ _ => ?_
 simp only [k136, argEnv, go_sem]
 repeat' (first | refine And.intro ?_ ?_ | intro _)
 all_goals (try omega)
 ·rename_i hp
  have e : n - (0 - 0) = n := by omega
  rw [e, aggs_repl]
  exact Kv.Fin.now (h1 (by omega))
 ·exact Kv.Fin.now (h0 (by omega))
inductive Ms : PV → List (List Int) → Prop
 | nil : Ms .nils []
 | list (l : List (List Int)) : Ms (.list (aggs l)) l
theorem p70 (w : PV) (a b : List (List Int)) (hw : Ms w b) (ha : a.length ≤ 1048576) (hb : b.length ≤ 1048576) (hma : ∀ r ∈ a, r.length = 6) (hmb : ∀ r ∈ b, r.length = 6) :
  ACall Tryz.prog 70 [.list [.list (aggs a), w]] [] (fun v s => ∃ ver, v = .ref 0 ver 0 (a ++ b).length ∧ s = [.arr ver 60 6 (aggs (a ++ b))]) := by
 have hoa := okL_aggs 6 a
 have hob := okL_aggs 6 b
 rw [eq_true hma] at hoa
 rw [eq_true hmb] at hob
 have hap : aggs a ++ aggs b = aggs (a ++ b) := by simp [aggs]
 have hnil : aggs ([] : List (List Int)) = [] := rfl
 cases hw
 all_goals
  refine e70 (by simp) fun _ _ => ?_
  simp only [k70, argEnv, go_sem]
  refine KL_round ?_
  rw [k70_b0.eq_1]
  try simp only [go_sem]
  repeat' (first | refine And.intro ?_ ?_ | intro _)
  all_goals (try omega)
  refine KL_round ?_
  try simp only [Int.reduceAdd, Int.reduceToNat, Int.zero_add, go_sem]
  repeat' (first | refine And.intro ?_ ?_ | intro _)
  all_goals (try omega)
  refine KL_round ?_
  try simp only [Int.reduceAdd, Int.reduceToNat, Int.zero_add, go_sem]
  repeat' (first | refine And.intro ?_ ?_ | intro _)
  all_goals (try omega)
  refine (p136 _ (by omega) (by omega) (fun h0 => ?_) (fun h0 => ?_))
 all_goals
  try simp only [go_sem]
  refine KL_round ?_
  rw [k70_b1.eq_1]
  try simp only [hoa, hob, hap, hnil, go_sem]
  repeat' (first | refine And.intro ?_ ?_ | intro _)
  all_goals (try omega)
  refine KL_round ?_
  try simp only [Int.reduceAdd, Int.reduceToNat, Int.zero_add, hoa, hob, hap, hnil, go_sem]
  repeat' (first | refine And.intro ?_ ?_ | intro _)
  all_goals (try omega)
  refine KL_round ?_
  try simp only [Int.reduceAdd, Int.reduceToNat, Int.zero_add, hoa, hob, hap, hnil, go_sem]
  repeat' (first | refine And.intro ?_ ?_ | intro _)
  all_goals (try omega)
  refine Kv.Fin.now ?_
 ·exact ⟨1, rfl, rfl⟩
 ·exact ⟨2, rfl, by simp⟩
 ·exact ⟨1, rfl, rfl⟩
 ·exact ⟨2, rfl, by simp⟩
theorem Imm.refs {σ : Heap} {id ver n : Nat} {e : TypeId} {cs : List PV} (h : σ[id]? = some (.arr ver e 1 cs)) (hn : n = cs.length) (hc : ∀ c ∈ cs, c.cs = [c] ∧ c.ok = true ∧ Still c) : Imm σ (.ref id ver 0 n) (.list cs) := by
 subst hn
 exact .ref id ver 0 cs.length e 1 cs cs h (by simp) rfl
  (fun i x d hx hd => by simp only [Nat.zero_add, hd, Option.some.injEq] at hx; subst hx; have h1 := hc _ (List.mem_of_getElem? hd); rw [h1.1]; exact ⟨rfl, by simp [h1.2.1]⟩)
  (fun i x d j c c' hx hd hcc hc' => by
   simp only [Nat.zero_add, hd, Option.some.injEq] at hx; subst hx
   have h1 := hc _ (List.mem_of_getElem? hd)
   rw [hcc] at hc'; cases hc'
   rw [h1.1] at hcc
   have := List.mem_of_getElem? hcc
   simp only [List.mem_singleton] at this; subst this
   have := h1.2.2
   exact Imm.still)
theorem Ms.still {w : PV} {l : List (List Int)} (h : Ms w l) : w.cs = [w] ∧ w.ok = true ∧ Still w := by
 cases h
 ·exact ⟨rfl, rfl, inferInstance⟩
 ·exact ⟨rfl, rfl, inferInstance⟩
theorem p70L (σ : Heap) (id : Nat) (w : PV) (a b : List (List Int)) (hw : Ms w b) (hid : σ[id]? = some (.arr 0 41 1 [.list (aggs a), w])) (ha : a.length ≤ 1048576) (hb : b.length ≤ 1048576) (hma : ∀ r ∈ a, r.length = 6) (hmb : ∀ r ∈ b, r.length = 6) {K : PV → Heap → Prop}
  (hK : ∀ ver, K (.ref σ.length ver 0 (a ++ b).length) (σ ++ [.arr ver 60 6 (aggs (a ++ b))])) :
  ACall Tryz.prog 70 [.ref id 0 0 2] σ K := by
 have him : Imm σ (.ref id 0 0 2) (.list [.list (aggs a), w]) := Imm.refs hid rfl fun c hc => by
  simp only [List.mem_cons, List.not_mem_nil, or_false] at hc
  rcases hc with rfl | rfl
  ·exact ⟨rfl, rfl, inferInstance⟩
  ·exact hw.still
 refine ACall.lend (p70 w a b hw ha hb hma hmb) (.cons him (.nil _)) fun v s ⟨ver, hv, hs⟩ => ?_
 subst hv; subst hs
 refine ⟨⟨free_ref _ _ _ _, ?_⟩, ?_⟩
 ·intro o ho
  simp only [List.mem_singleton] at ho; subst ho
  exact fun c hc => (flat_aggs c hc).fr
 ·simpa only [ren_ref, ren_arr, ren_aggs, List.map_cons, List.map_nil, sh_def, Nat.zero_add] using hK ver
end Go.Proofs.YthbbjbfbeaiphaaGreat
end
section
namespace Go.Proofs.YthbbjbfbeaiphaaGreat
open Go.Kv
set_option linter.unusedVariables false
set_option linter.unusedSimpArgs false
attribute [local irreducible] ACall PCall KL
def ch (n : Nat) : Nat → Int
 | 0 => 1
 | i + 1 => ch n i * ((n : Int) - i) / ((i : Int) + 1)
def si (n : Nat) : Nat → Int
 | 0 => 0
 | k + 1 => si n k + ch n (k + 1) * (((k + 1 : Nat) : Int) ^ (n - (k + 1)))
end Go.Proofs.YthbbjbfbeaiphaaGreat
end
section
namespace Go.Proofs.YthbbjbfbeaiphaaGreat
open Go.Kv
set_option maxRecDepth 100000
def k72_b0 : KC := (.seq (.ops [oP 15 (.bin .lss (.t 14) (.t 13))])
 (.seq (.cond (.t 15) .skip (.exit 0))
 (.seq (.block 1 (.seq (.ops [oP 16 (.idxS 6 (.t 12) (.t 14)), oP 17 (.load true 6 (.t 16)), oP 6 (.alloc [.int .i64 0, .int .i64 0, .int .i64 0, .int .i64 0, .int .i64 0, .int .i64 0]), ⟨none, none, .store 6 (.t 6) (.t 17)⟩])
 (.seq (.ops [oP 18 (.load true 6 (.t 6)), oP 19 (.call (fC 71) [(.t 18)]), oP 20 (.not (.t 19))])
 (.cond (.t 20) (.seq (.ops [oP 4 (.mv (iC 1))])
 .ret) .skip))))
 (.ops [oP 21 (.bin .add (.t 14) (iC 1)), mV 14 21]))))
def k72_b1 : KC := (.seq (.ops [oP 32 (.bin .lss (.t 31) (.t 30))])
 (.seq (.cond (.t 32) .skip (.exit 2))
 (.seq (.block 3 (.seq (.ops [oP 33 (.idxS 6 (.t 29) (.t 31)), oP 34 (.load true 6 (.t 33)), oP 8 (.alloc [.int .i64 0, .int .i64 0, .int .i64 0, .int .i64 0, .int .i64 0, .int .i64 0]), ⟨none, none, .store 6 (.t 8) (.t 34)⟩])
 (.seq (.draw [oP 35 (.fieldA 0 (.t 8)), oP 36 (.load false 1 (.t 35)), mV 37 0, oP 38 (.idxS 6 (.t 37) (iC 0)), oP 39 (.fieldA 0 (.t 38)), oP 40 (.load false 1 (.t 39)), oP 41 (.bin .neq (.t 36) (.t 40))])
 (.cond (.t 41) (.seq (.ops [oP 4 (.mv (iC 2))])
 .ret) .skip))))
 (.ops [oP 42 (.bin .add (.t 31) (iC 1)), mV 31 42]))))
def k72 : KC := (.seq (.ops [oP 4 (.mv (iC 0))])
 (.seq (.seq (.ops [mV 9 0, mV 10 1, oP 11 (.bsl false 41 1 [(.t 9), (.t 10)]), oP 12 (.call (fC 70) [(.t 11)]), oP 13 (.len false (.t 12)), oP 14 (.mv (iC 0))])
 (.block 0 (.loop k72_b0)))
 (.seq (.seq (.ops [mV 22 0, oP 23 (.len false (.t 22)), oP 24 (.call (fC 120) [(.t 23), (iC 1), (iC 6)]), oP 25 (.not (.t 24))])
 (.cond (.t 25) (.seq (.ops [oP 4 (.mv (iC 2))])
 .ret) .skip))
 (.seq (.seq (.ops [mV 26 0, mV 27 1, oP 28 (.bsl false 41 1 [(.t 26), (.t 27)]), oP 29 (.call (fC 70) [(.t 28)]), oP 30 (.len false (.t 29)), oP 31 (.mv (iC 0))])
 (.block 2 (.loop k72_b1)))
 (.seq (.ops [oP 4 (.mv (iC 0))])
 .ret)))))
theorem e72 : Ent 72 43 [] [.t 4] k72 := ent Tryz.func72 (by kernel_rfl) (by kernel_rfl) (by kernel_rfl) (fun _ => by kernel_rfl) (by kernel_rfl)
def k74_b0 : KC := (.seq (.seq (.ops [mV 8 5, mV 9 0, oP 10 (.len false (.t 9)), oP 11 (.bin .lss (.t 8) (.t 10))])
 (.cond (.t 11) .skip (.exit 0)))
 (.seq (.block 1 (.seq (.ops [mV 14 0, mV 15 5, oP 16 (.idxS 6 (.t 14) (.t 15)), oP 17 (.load true 6 (.t 16)), oP 18 (.call (fC 137) [(.t 17)]), oP 19 (.not (.t 18))])
 (.cond (.t 19) (.seq (.ops [oP 4 (.mv (iC 1))])
 .ret) .skip)))
 (.ops [mV 12 5, oP 13 (.bin .add (.t 12) (iC 1)), mV 5 13])))
def k74_b1 : KC := (.seq (.seq (.ops [mV 20 6, mV 21 1, oP 22 (.len false (.t 21)), oP 23 (.bin .lss (.t 20) (.t 22))])
 (.cond (.t 23) .skip (.exit 2)))
 (.seq (.block 3 (.seq (.ops [mV 26 1, mV 27 6, oP 28 (.idxS 6 (.t 26) (.t 27)), oP 29 (.load true 6 (.t 28)), oP 30 (.call (fC 137) [(.t 29)]), oP 31 (.not (.t 30))])
 (.cond (.t 31) (.seq (.ops [oP 4 (.mv (iC 1))])
 .ret) .skip)))
 (.ops [mV 24 6, oP 25 (.bin .add (.t 24) (iC 1)), mV 6 25])))
def k74_b2 : KC := (.seq (.seq (.ops [mV 35 7, mV 36 1, oP 37 (.len false (.t 36)), oP 38 (.bin .lss (.t 35) (.t 37))])
 (.cond (.t 38) .skip (.exit 4)))
 (.seq (.block 5 (.seq (.draw [mV 41 1, mV 42 7, oP 43 (.idxS 6 (.t 41) (.t 42)), oP 44 (.fieldA 0 (.t 43)), oP 45 (.load false 1 (.t 44)), mV 46 0, oP 47 (.idxS 6 (.t 46) (iC 0)), oP 48 (.fieldA 0 (.t 47)), oP 49 (.load false 1 (.t 48)), oP 50 (.bin .neq (.t 45) (.t 49))])
 (.cond (.t 50) (.seq (.ops [oP 4 (.mv (iC 2))])
 .ret) .skip)))
 (.ops [mV 39 7, oP 40 (.bin .add (.t 39) (iC 1)), mV 7 40])))
def k74 : KC := (.seq (.ops [oP 4 (.mv (iC 0))])
 (.seq (.seq (.ops [oP 5 (.mv (iC 0))])
 (.block 0 (.loop k74_b0)))
 (.seq (.seq (.ops [oP 6 (.mv (iC 0))])
 (.block 2 (.loop k74_b1)))
 (.seq (.seq (.ops [mV 32 0, oP 33 (.call (fC 138) [(.t 32)]), oP 34 (.not (.t 33))])
 (.cond (.t 34) (.seq (.ops [oP 4 (.mv (iC 2))])
 .ret) .skip))
 (.seq (.seq (.ops [oP 7 (.mv (iC 0))])
 (.block 4 (.loop k74_b2)))
 (.seq (.ops [oP 4 (.mv (iC 0))])
 .ret))))))
theorem e74 : Ent 74 51 [] [.t 4] k74 := ent Tryz.func74 (by kernel_rfl) (by kernel_rfl) (by kernel_rfl) (fun _ => by kernel_rfl) (by kernel_rfl)
def k138_b0 : KC := (.seq (.seq (.ops [mV 12 3, mV 13 0, oP 14 (.len false (.t 13)), oP 15 (.bin .lss (.t 12) (.t 14))])
 (.cond (.t 15) .skip (.exit 0)))
 (.seq (.block 1 (.seq (.draw [mV 18 0, mV 19 3, oP 20 (.idxS 6 (.t 18) (.t 19)), oP 21 (.load true 6 (.t 20)), oP 22 (.pcall (fC 137) [(.t 21)]), oP 23 (.not (.t 22)), mV 24 23, ⟨(some 25), some (24, false), .mv (.t 0)⟩, ⟨(some 26), some (24, false), .mv (.t 3)⟩, ⟨(some 27), some (24, false), .idxS 6 (.t 25) (.t 26)⟩, ⟨(some 28), some (24, false), .fieldA 0 (.t 27)⟩, ⟨(some 29), some (24, false), .load false 1 (.t 28)⟩, ⟨(some 30), some (24, false), .mv (.t 0)⟩, ⟨(some 31), some (24, false), .idxS 6 (.t 30) (iC 0)⟩, ⟨(some 32), some (24, false), .fieldA 0 (.t 31)⟩, ⟨(some 33), some (24, false), .load false 1 (.t 32)⟩, ⟨(some 34), some (24, false), .bin .neq (.t 29) (.t 33)⟩, oP 35 (.pick (.t 24) (.c (.bool true)) (.t 34))])
 (.cond (.t 35) (.seq (.ops [oP 2 (.mv (.c (.bool false)))])
 .ret) .skip)))
 (.ops [mV 16 3, oP 17 (.bin .add (.t 16) (iC 1)), mV 3 17])))
def k138 : KC := (.seq (.ops [oP 2 (.mv (.c (.bool false)))])
 (.seq (.seq (.ops [mV 4 0, oP 5 (.len false (.t 4)), oP 6 (.bin .lss (.t 5) (iC 1)), mV 7 6, ⟨(some 8), some (7, false), .mv (.t 0)⟩, ⟨(some 9), some (7, false), .len false (.t 8)⟩, ⟨(some 10), some (7, false), .bin .gtr (.t 9) (iC 6)⟩, oP 11 (.pick (.t 7) (.c (.bool true)) (.t 10))])
 (.cond (.t 11) (.seq (.ops [oP 2 (.mv (.c (.bool false)))])
 .ret) .skip))
 (.seq (.seq (.ops [oP 3 (.mv (iC 0))])
 (.block 0 (.loop k138_b0)))
 (.seq (.ops [oP 2 (.mv (.c (.bool true)))])
 .ret))))
theorem e138 : Ent 138 36 [] [.t 2] k138 := ent Tryz.func138 (by kernel_rfl) (by kernel_rfl) (by kernel_rfl) (fun _ => by kernel_rfl) (by kernel_rfl)
end Go.Proofs.YthbbjbfbeaiphaaGreat
namespace Go.Proofs.YthbbjbfbeaiphaaGreat
open Go.Kv
set_option linter.unusedVariables false
set_option linter.unusedSimpArgs false
attribute [local irreducible] ACall PCall KL
def lcode (a b : List (List Int)) : Int :=
 if (a ++ b).all isM = false then 1 else if ¬ (1 ≤ a.length ∧ a.length ≤ 6) then 2 else if (a ++ b).all (fun r => decide (r.getD 0 0 = (a.getD 0 []).getD 0 0)) = false then 2 else 0
theorem all_false {α : Type} {l : List α} {x : Nat} {p : α → Bool} (h : x < l.length) (hp : p l[x] = false) : l.all p = false := by
 rw [List.all_eq_false]; exact ⟨l[x], List.getElem_mem h, by simp [hp]⟩
theorem p72 (w : PV) (a b : List (List Int)) (hw : Ms w b) (ha : a.length ≤ 1048576) (hb : b.length ≤ 1048576) (hma : ∀ r ∈ a, r.length = 6) (hmb : ∀ r ∈ b, r.length = 6) :
  Pure Tryz.prog 72 [.list (aggs a), w] (.int .i64 (lcode a b)) := by
 have hab : ∀ r ∈ a ++ b, r.length = 6 := fun r hr => (List.mem_append.1 hr).elim (hma r) (hmb r)
 have hlab : (a ++ b).length ≤ 2097152 := by simp; omega
 have hwu : ∀ n, w.undr n = true := fun n => by cases hw <;> simp [PV.undr, undrX_aggs]
 have hwc := hw.still
 have hwk : w.cs.length = 1 := by rw [hwc.1]; rfl
 have hwk2 : w.cs.all PV.ok = true := by rw [hwc.1]; simp [hwc.2.1]
 refine e72 (by simp) fun _ _ => ?_
 simp only [k72, argEnv, OpK_eq, hwk, hwk2, go_sem]
 refine p70L _ 0 w a b hw rfl ha hb hma hmb fun ver => ?_
 try simp only [go_sem]
 have hsum : a.length + b.length = (a ++ b).length := by simp
 rw [hsum]
 have hlc : lcode a b = if (a ++ b).all isM = false then 1 else if ¬ (1 ≤ a.length ∧ a.length ≤ 6) then 2 else if (a ++ b).all (fun r => decide (r.getD 0 0 = (a.getD 0 []).getD 0 0)) = false then 2 else 0 := rfl
 generalize hL : a ++ b = l at *
 refine KL_indD k72_b0.eq_1 (fun x : Nat => [(0, .list (aggs a)), (1, w), (12, .ref 1 ver 0 l.length), (13, .int .i64 l.length), (14, .int .i64 x)]) (fun _ => [.arr 0 41 1 [.list (aggs a), w], .arr ver 60 6 (aggs l)]) (fun x => x ≤ l.length ∧ (l.take x).all isM = true) (fun x => l.length - x) [0, 1, 12, 13, 14] 0 (by rfl) ⟨[], rfl⟩ ⟨Nat.zero_le _, by simp⟩ (fun x hx => ?_) fun x ⟨hx, hall⟩ ih => ?_
 ·refine ⟨Nat.zero_le _, ?_, ?_⟩
  ·exact Env.undr_upto (by simp [Env.undr, PV.undr, hwu, undrX_aggs])
  ·exact .cons (by simp [AObj.undr, PV.undr, PV.undrX, hwu, undrX_aggs]) (.cons (by simp [AObj.undr, undrX_aggs]) (.nil _))
 try simp only [go_sem]
 refine ⟨fun h1 => ⟨by omega, by omega, fun h2 => ?_⟩, fun h1 => ?_⟩
 ·have h6 := hab _ (List.getElem_mem h2)
  rw [getD_eq h2]
  try simp only [h6, go_sem]
  refine (p71 _ h6).go ?_
  try simp only [go_sem]
  refine ⟨fun h3 => ?_, fun h3 => ⟨by omega, ?_⟩⟩
  ·refine Kv.Fin.still ⟨?_, rfl⟩
   rw [hlc, if_pos (all_false h2 h3)]
  ·refine ih (x + 1) ⟨by omega, ?_⟩ (by omega) _ _ (by rfl) ⟨[_], rfl⟩
   rw [all_take_succ _ h2, hall, h3]; rfl
 ·obtain rfl : x = l.length := by omega
  rw [List.take_length] at hall
  have hlc : lcode a b = if ¬ (1 ≤ a.length ∧ a.length ≤ 6) then 2 else if l.all (fun r => decide (r.getD 0 0 = (a.getD 0 []).getD 0 0)) = false then 2 else 0 := by rw [hlc, if_neg (by rw [hall]; simp)]
  refine (p120 _ _ _).go ?_
  try simp only [go_sem]
  refine ⟨fun h2 => Kv.Fin.still ⟨by rw [hlc, if_pos (by omega)], rfl⟩, fun h2 => ?_⟩
  have hlc : lcode a b = if l.all (fun r => decide (r.getD 0 0 = (a.getD 0 []).getD 0 0)) = false then 2 else 0 := by rw [hlc, if_neg (by omega)]
  try simp only [OpK_eq, hwk, hwk2, go_sem]
  refine p70L _ 2 w a b hw rfl ha hb hma hmb fun ver2 => ?_
  rw [hL]
  try simp only [go_sem]
  have h0 : 0 < a.length := by omega
  have h06 : (a.getD 0 []).length = 6 := by rw [getD_eq h0]; exact hma _ (List.getElem_mem h0)
  refine KL_indD k72_b1.eq_1 (fun x : Nat => [(0, .list (aggs a)), (29, .ref 3 ver2 0 l.length), (30, .int .i64 l.length), (31, .int .i64 x)]) (fun _ => [.arr 0 41 1 [.list (aggs a), w], .arr ver 60 6 (aggs l), .arr 0 41 1 [.list (aggs a), w], .arr ver2 60 6 (aggs l)]) (fun x => x ≤ l.length ∧ (l.take x).all (fun r => decide (r.getD 0 0 = (a.getD 0 []).getD 0 0)) = true) (fun x => l.length - x) [0, 29, 30, 31] 0 (by rfl) ⟨[], rfl⟩ ⟨Nat.zero_le _, by simp⟩ (fun x hx => ?_) fun x ⟨hx, hall⟩ ih => ?_
  ·refine ⟨Nat.zero_le _, ?_, ?_⟩
   ·exact Env.undr_upto (by simp [Env.undr, PV.undr, hwu, undrX_aggs])
   ·exact .cons (by simp [AObj.undr, PV.undr, PV.undrX, hwu, undrX_aggs]) (.cons (by simp [AObj.undr, undrX_aggs]) (.cons (by simp [AObj.undr, PV.undr, PV.undrX, hwu, undrX_aggs]) (.cons (by simp [AObj.undr, undrX_aggs]) (.nil _))))
  try simp only [go_sem]
  refine ⟨fun h1 => ⟨by omega, by omega, fun h2 => ?_⟩, fun h1 => ?_⟩
  ·have h6 := hab _ (List.getElem_mem h2)
   rw [getD_eq h2]
   try simp only [h6, h06, h0, go_sem]
   refine ⟨by omega, fun h3 => ?_, fun h3 => ⟨by omega, ?_⟩⟩
   ·refine Kv.Fin.still ⟨?_, rfl⟩
    rw [hlc, if_pos (all_false h2 (by simpa using h3))]
   ·refine ih (x + 1) ⟨by omega, ?_⟩ (by omega) _ _ (by rfl) ⟨[_], rfl⟩
    rw [all_take_succ _ h2, hall, h3]; simp
  ·obtain rfl : x = l.length := by omega
   rw [List.take_length] at hall
   exact Kv.Fin.still ⟨by rw [hlc, if_neg (by rw [hall]; simp)], rfl⟩
def same (l : List (List Int)) : Bool := decide (1 ≤ l.length ∧ l.length ≤ 6) && l.all fun r => isM r && decide (r.getD 0 0 = (l.getD 0 []).getD 0 0)
theorem p138 (l : List (List Int)) (hl : l.length ≤ 1048576) (hm : ∀ r ∈ l, r.length = 6) : Pure Tryz.prog 138 [.list (aggs l)] (.bool (same l)) := by
 have hsame : same l = (decide (1 ≤ l.length ∧ l.length ≤ 6) && l.all fun r => isM r && decide (r.getD 0 0 = (l.getD 0 []).getD 0 0)) := rfl
 refine e138 (by simp) fun _ _ => ?_
 simp only [k138, argEnv, go_sem]
 refine ⟨fun h1 => ⟨fun h2 => ?_, fun h2 => ?_⟩, fun h1 => ?_⟩
 ·exact Kv.Fin.still ⟨by rw [hsame, decide_eq_false (by omega)]; rfl, rfl⟩
 ·have hsame : same l = l.all fun r => isM r && decide (r.getD 0 0 = (l.getD 0 []).getD 0 0) := by rw [hsame, decide_eq_true (by omega), Bool.true_and]
  have h0 : 0 < l.length := by omega
  have h06 : (l.getD 0 []).length = 6 := by rw [getD_eq h0]; exact hm _ (List.getElem_mem h0)
  refine KL_ind k138_b0.eq_1 (fun x : Nat => [(0, .list (aggs l)), (3, .int .i64 x)]) (fun _ => []) (fun x => x ≤ l.length ∧ (l.take x).all (fun r => isM r && decide (r.getD 0 0 = (l.getD 0 []).getD 0 0)) = true) (fun x => l.length - x) [0, 3] 0 (by rfl) rfl ⟨Nat.zero_le _, by simp⟩ fun x ⟨hx, hall⟩ ih => ?_
  try simp only [go_sem]
  refine ⟨fun h3 => ⟨by omega, fun h4 => ?_⟩, fun h3 => ?_⟩
  ·have h6 := hm _ (List.getElem_mem h4)
   rw [getD_eq h4]
   try simp only [h6, go_sem]
   refine (p137 _ h6).pgo ?_
   cases hM : isM l[x] with
   | false =>
    try simp only [go_sem]
    exact Kv.Fin.still ⟨by rw [hsame, all_false h4 (by simp [hM])], rfl⟩
   | true =>
    try simp only [go_sem]
    refine ⟨by omega, fun h5 => ?_⟩
    rw [getD_eq h4]
    try simp only [h6, h06, h0, go_sem]
    refine ⟨by omega, fun h7 => ?_, fun h7 => ⟨by omega, ?_⟩⟩
    ·exact Kv.Fin.still ⟨by rw [hsame, all_false h4 (by simp only [hM, Bool.true_and]; exact decide_eq_false h7)], rfl⟩
    ·refine ih (x + 1) ⟨by omega, ?_⟩ (by omega) _ _ (by rfl) rfl
     rw [all_take_succ _ h4, hall, hM, h7]; simp
  ·obtain rfl : x = l.length := by omega
   rw [List.take_length] at hall
   exact Kv.Fin.still ⟨by rw [hsame, hall], rfl⟩
 ·exact Kv.Fin.still ⟨by rw [hsame, decide_eq_false (by omega)]; rfl, rfl⟩
theorem lcode_eq (a b : List (List Int)) : lcode a b = if a.all isM = false then 1 else if b.all isM = false then 1 else if same a = false then 2 else if b.all (fun r => decide (r.getD 0 0 = (a.getD 0 []).getD 0 0)) = false then 2 else 0 := by
 have h3 : a.all isM = true → (a.all fun r => isM r && decide (r.getD 0 0 = (a.getD 0 []).getD 0 0)) = a.all fun r => decide (r.getD 0 0 = (a.getD 0 []).getD 0 0) := fun h1 => by
  rw [Bool.eq_iff_iff]
  simp only [List.all_eq_true, Bool.and_eq_true] at h1 ⊢
  exact ⟨fun h r hr => (h r hr).2, fun h r hr => ⟨h1 r hr, h r hr⟩⟩
 simp only [lcode, List.all_append]
 cases h1 : a.all isM
 ·simp only [Bool.false_and, if_true]
 cases h2 : b.all isM
 ·simp only [Bool.true_and, if_true, Bool.false_and, reduceCtorEq, if_false]
 have hs : same a = (decide (1 ≤ a.length ∧ a.length ≤ 6) && a.all fun r => decide (r.getD 0 0 = (a.getD 0 []).getD 0 0)) := by unfold same; rw [h3 h1]
 rw [hs]
 generalize (a.all fun r => decide (r.getD 0 0 = (a.getD 0 []).getD 0 0)) = x
 generalize (b.all fun r => decide (r.getD 0 0 = (a.getD 0 []).getD 0 0)) = y
 by_cases hc : (1 ≤ a.length ∧ a.length ≤ 6) <;> cases x <;> cases y <;> simp [hc]
theorem p74n (a : List (List Int)) (ha : a.length ≤ 1048576) (hma : ∀ r ∈ a, r.length = 6) :
  Pure Tryz.prog 74 [.list (aggs a), .nils] (.int .i64 (lcode a [])) := by
 rw [lcode_eq]
 refine e74 (by simp) fun _ _ => ?_
 simp only [k74, argEnv, go_sem]
 refine KL_ind k74_b0.eq_1 (fun x : Nat => [(0, .list (aggs a)), (1, .nils), (5, .int .i64 x)]) (fun _ => []) (fun x => x ≤ a.length ∧ (a.take x).all isM = true) (fun x => a.length - x) [0, 1, 5] 0 (by rfl) rfl ⟨Nat.zero_le _, by simp⟩ fun x ⟨hx, hall⟩ ih => ?_
 try simp only [go_sem]
 refine ⟨fun h3 => ⟨by omega, fun h4 => ?_⟩, fun h3 => ?_⟩
 ·have h6 := hma _ (List.getElem_mem h4)
  rw [getD_eq h4]
  try simp only [h6, go_sem]
  refine (p137 _ h6).go ?_
  try simp only [go_sem]
  refine ⟨fun h5 => Kv.Fin.still ⟨by rw [if_pos (all_false h4 h5)], rfl⟩, fun h5 => ⟨by omega, ?_⟩⟩
  refine ih (x + 1) ⟨by omega, ?_⟩ (by omega) _ _ (by rfl) rfl
  rw [all_take_succ _ h4, hall, h5]; rfl
 obtain rfl : x = a.length := by omega
 rw [List.take_length] at hall
 rw [if_neg (by rw [hall]; simp)]
 clear ih
 refine KL_round ?_
 rw [k74_b1.eq_1]
 try simp only [Int.reduceNeg, Int.lt_irrefl, go_sem]
 refine (p138 a ha hma).go ?_
 cases hs : same a with
 | false =>
  try simp only [go_sem]
  exact Kv.Fin.still ⟨by simp, rfl⟩
 | true =>
  try simp only [go_sem]
  refine KL_round ?_
  rw [k74_b2.eq_1]
  try simp only [Int.lt_irrefl, go_sem]
  exact Kv.Fin.still ⟨by simp, rfl⟩
end Go.Proofs.YthbbjbfbeaiphaaGreat
end
section
namespace Go.Proofs.YthbbjbfbeaiphaaGreat
open Go.Kv
set_option maxRecDepth 100000
def k172_b0 : KC := (.seq (.ops [oP 9 (.bin .lss (.t 8) (.t 7))])
 (.seq (.cond (.t 9) .skip (.exit 0))
 (.seq (.block 1 (.seq (.ops [mV 10 8, mV 5 10])
 (.seq (.ops [mV 11 1, mV 12 0, mV 13 5, oP 14 (.idxS 1 (.t 12) (.t 13)), oP 15 (.load false 1 (.t 14)), oP 16 (.bin .eql (.t 11) (.t 15))])
 (.cond (.t 16) (.seq (.ops [mV 17 5, mV 4 17])
 .ret) .skip))))
 (.ops [oP 18 (.bin .add (.t 8) (iC 1)), mV 8 18]))))
def k172 : KC := (.seq (.ops [oP 4 (.mv (iC 0))])
 (.seq (.seq (.ops [mV 6 0, oP 7 (.len false (.t 6)), oP 8 (.mv (iC 0))])
 (.block 0 (.loop k172_b0)))
 (.seq (.ops [oP 4 (.mv (iC (-1)))])
 .ret)))
theorem e172 : Ent 172 19 [] [.t 4] k172 := ent Tryz.func172 (by kernel_rfl) (by kernel_rfl) (by kernel_rfl) (fun _ => by kernel_rfl) (by kernel_rfl)
end Go.Proofs.YthbbjbfbeaiphaaGreat
namespace Go.Proofs.YthbbjbfbeaiphaaGreat
open Go.Kv
set_option linter.unusedVariables false
set_option linter.unusedSimpArgs false
attribute [local irreducible] ACall PCall KL
theorem p172 (l : List Int) (k : Int) (hl : l.length ≤ 1048576) : Pure Tryz.prog 172 [.list (ints l), .int .i64 k] (.int .i64 (idx (fun y => decide (k = y)) l)) := by
 refine e172 (by simp) fun _ _ => ?_
 simp only [k172, argEnv, go_sem]
 refine KL_ind k172_b0.eq_1 (fun x : Nat => [(0, .list (ints l)), (1, .int .i64 k), (7, .int .i64 l.length), (8, .int .i64 x)]) (fun _ => []) (fun x => x ≤ l.length ∧ (l.take x).any (fun y => decide (k = y)) = false) (fun x => l.length - x) [0, 1, 7, 8] 0 (by rfl) rfl ⟨Nat.zero_le _, by simp⟩ fun x ⟨hx, hall⟩ ih => ?_
 try simp only [go_sem]
 refine ⟨fun h1 => ⟨by omega, fun h2 => ?_⟩, fun h1 => ?_⟩
 ·rw [getD_eq h2]
  refine ⟨fun h3 => ?_, fun h3 => ⟨by omega, ?_⟩⟩
  ·exact Kv.Fin.still ⟨by rw [idx_some h2 hall (by simpa using h3)], rfl⟩
  ·refine ih (x + 1) ⟨by omega, ?_⟩ (by omega) _ _ (by rfl) rfl
   rw [any_take_succ _ h2, hall, decide_eq_false h3]; rfl
 ·obtain rfl : x = l.length := by omega
  rw [List.take_length] at hall
  exact Kv.Fin.still ⟨by rw [idx_none hall], rfl⟩
theorem lcode_maps {a : List (List Int)} (h6 : ∀ r ∈ a, r.length = 6) (h : lcode a [] = 0) : ∃ (fs : List (List Nat)) (n : Nat), a = fs.map mp ∧ (∀ f ∈ fs, Ok f n) ∧ 1 ≤ fs.length ∧ fs.length ≤ 6 ∧ (a.getD 0 []).getD 0 0 = n ∧ 1 ≤ n ∧ n ≤ 5 := by
 unfold lcode at h
 rw [List.append_nil] at h
 split at h
 ·omega
 rename_i h1
 split at h
 ·omega
 rename_i h2
 split at h
 ·omega
 rename_i h3
 simp only [Bool.not_eq_false, List.all_eq_true, decide_eq_true_eq] at h1 h3
 have h2' : 1 ≤ a.length ∧ a.length ≤ 6 := by omega
 have h0 : 0 < a.length := by omega
 obtain ⟨f0, n, hf0, e0⟩ := isM_ok (h6 _ (List.getElem_mem h0)) (h1 _ (List.getElem_mem h0))
 have hn : (a.getD 0 []).getD 0 0 = n := by rw [getD_eq h0, e0, mp_get0, hf0.len]
 have key : ∀ r ∈ a, r = mp (um r) ∧ Ok (um r) n := fun r hr => by
  obtain ⟨f, n', hf, e⟩ := isM_ok (h6 r hr) (h1 r hr)
  have h4 := h3 r hr
  rw [hn, e, mp_get0, hf.len] at h4
  obtain rfl : n' = n := by omega
  rw [e, um_mp]
  exact ⟨rfl, hf⟩
 refine ⟨a.map um, n, ?_, ?_, by simpa using h2'.1, by simpa using h2'.2, hn, hf0.pos, hf0.le⟩
 ·rw [List.map_map]
  conv => lhs; rw [← List.map_id a]
  exact List.map_congr_left fun r hr => by simpa using (key r hr).1
 ·intro f hf
  obtain ⟨r, hr, rfl⟩ := List.mem_map.1 hf
  exact (key r hr).2
theorem map_getD {fs : List (List Nat)} {x : Nat} (h : x < fs.length) : (fs.map mp).getD x [] = mp fs[x] := by simp [List.getD_eq_getElem?_getD, h]
theorem map_um (fs : List (List Nat)) : (fs.map mp).map um = fs := by
 rw [List.map_map]
 conv => rhs; rw [← List.map_id fs]
 exact List.map_congr_left fun f _ => um_mp f
end Go.Proofs.YthbbjbfbeaiphaaGreat
end
end
section
section
namespace Go.Proofs.YthbbjbfbeaiphaaGreat
open Go.Kv
set_option linter.unusedVariables false
set_option linter.unusedSimpArgs false
attribute [local irreducible] ACall PCall KL
def szR : List (List Int) → Int → Int
 | [], k => k
 | r :: t, k => if k - r.length < 0 then -1 else szR t (k - r.length)
def szT (t : List (List Int)) (k : Int) : Int := if k - t.length < 0 then -1 else szR t (k - t.length)
theorem Imm.refr {σ : Heap} {id ver n : Nat} {e : TypeId} {l : List (List Int)} (h : σ[id]? = some (.arr ver e 1 (rows l))) (hn : n = l.length) : Imm σ (.ref id ver 0 n) (.list (rows l)) := by
 subst hn
 exact .ref id ver 0 l.length e 1 (rows l) (rows l) h (by simp [rows_length]) (rows_length l)
  (fun i x d hx hd => by simp only [Nat.zero_add, hd, Option.some.injEq] at hx; subst hx; obtain ⟨y, _, rfl⟩ := rows_get hd; exact ⟨rfl, rfl⟩)
  (fun i x d j c c' hx hd hc hc' => by
   simp only [Nat.zero_add, hd, Option.some.injEq] at hx; subst hx
   obtain ⟨y, _, rfl⟩ := rows_get hd
   rw [hc] at hc'; cases hc'
   simp only [PV.cs] at hc
   have := List.mem_of_getElem? hc
   simp at this; subst this
   exact .listi _ _)
end Go.Proofs.YthbbjbfbeaiphaaGreat
end
section
namespace Go.Kv
set_option linter.unusedVariables false
set_option linter.unusedSimpArgs false
def refs (rs : List (Nat × Nat)) (t : List (List Int)) : List PV := List.zipWith (fun r l => PV.ref r.1 r.2 0 l.length) rs t
structure TabAt (e2 e1 : TypeId) (σ : Heap) (id ver : Nat) (rs : List (Nat × Nat)) (t : List (List Int)) : Prop where
 out : σ[id]? = some (.arr ver e2 1 (refs rs t))
 len : rs.length = t.length
 row : ∀ (i : Nat) (r : Nat × Nat) (l : List Int), rs[i]? = some r → t[i]? = some l → σ[r.1]? = some (.arr r.2 e1 1 (ints l))
 nd : (rs.map Prod.fst).Nodup
 ni : id ∉ rs.map Prod.fst
theorem refs_length {rs : List (Nat × Nat)} {t : List (List Int)} (h : rs.length = t.length) : (refs rs t).length = t.length := by simp [refs, h]
theorem refs_get {rs : List (Nat × Nat)} {t : List (List Int)} {i : Nat} {x : PV} (h : (refs rs t)[i]? = some x) : ∃ r l, rs[i]? = some r ∧ t[i]? = some l ∧ x = .ref r.1 r.2 0 l.length := by
 simp only [refs, List.getElem?_zipWith] at h
 cases hr : rs[i]? with
 | none => simp [hr] at h
 | some r =>
  cases hl : t[i]? with
  | none => simp [hr, hl] at h
  | some l => simp [hr, hl] at h; exact ⟨r, l, rfl, rfl, h.symm⟩
variable {e2 e1 : TypeId} {σ : Heap} {id ver : Nat} {rs : List (Nat × Nat)} {t : List (List Int)}
theorem TabAt.imm (h : TabAt e2 e1 σ id ver rs t) {n : Nat} (hn : n = t.length) : Imm σ (.ref id ver 0 n) (.list (rows t)) := by
 subst hn
 refine .ref id ver 0 t.length e2 1 (refs rs t) (rows t) h.out (by rw [refs_length h.len]; omega) (rows_length t) (fun i x d hx hd => ?_) (fun i x d j c c' hx hd hc hc' => ?_)
 ·obtain ⟨r, l, hr, hl, rfl⟩ := refs_get hx
  obtain ⟨y, _, rfl⟩ := rows_get hd
  exact ⟨rfl, rfl⟩
 ·rw [Nat.zero_add] at hx
  obtain ⟨r, l, hr, hl, rfl⟩ := refs_get hx
  obtain ⟨y, hy, rfl⟩ := rows_get hd
  rw [hl] at hy; cases hy
  have h1 := List.mem_of_getElem? hc
  have h2 := List.mem_of_getElem? hc'
  simp [PV.cs] at h1 h2; subst h1; subst h2
  exact .refi (h.row i r l hr hl)
theorem TabAt.append (h : TabAt e2 e1 σ id ver rs t) (τ : Heap) : TabAt e2 e1 (σ ++ τ) id ver rs t where
 out := by rw [List.getElem?_append_left (List.getElem?_eq_some_iff.1 h.out).1]; exact h.out
 len := h.len
 row := fun i r l hr hl => by
  have := h.row i r l hr hl
  rw [List.getElem?_append_left (List.getElem?_eq_some_iff.1 this).1]; exact this
 nd := h.nd
 ni := h.ni
def shR (n : Nat) (rs : List (Nat × Nat)) : List (Nat × Nat) := rs.map fun r => (r.1 + n, r.2)
theorem TabAt.shift (h : TabAt e2 e1 σ id ver rs t) (τ : Heap) : TabAt e2 e1 (τ ++ σ.map (AObj.ren (sh τ.length))) (id + τ.length) ver (shR τ.length rs) t where
 out := by
  rw [List.getElem?_append_right (by omega), Nat.add_sub_cancel, List.getElem?_map, h.out]
  simp only [Option.map_some, ren_arr, Option.some.injEq, AObj.arr.injEq, true_and]
  simp only [refs, shR, List.map_zipWith, List.zipWith_map_left, ren_ref, sh_def]
 len := by simp [shR, h.len]
 row := fun i r l hr hl => by
  simp only [shR, List.getElem?_map, Option.map_eq_some_iff] at hr
  obtain ⟨q, hq, rfl⟩ := hr
  rw [List.getElem?_append_right (by omega), Nat.add_sub_cancel, List.getElem?_map, h.row i q l hq hl]
  simp only [Option.map_some, ren_arr, ren_ints]
 nd := by
  have e : (shR τ.length rs).map Prod.fst = (rs.map Prod.fst).map (· + τ.length) := by simp [shR, List.map_map, Function.comp_def]
  rw [e]
  exact List.Pairwise.map _ (fun a b (hab : a ≠ b) => show a + τ.length ≠ b + τ.length by omega) h.nd
 ni := by
  have e : (shR τ.length rs).map Prod.fst = (rs.map Prod.fst).map (· + τ.length) := by simp [shR, List.map_map, Function.comp_def]
  rw [e]
  intro hm
  obtain ⟨x, hx, hxe⟩ := List.mem_map.1 hm
  have : x = id := by omega
  exact h.ni (this ▸ hx)
theorem TabAt.keep (h : TabAt e2 e1 σ id ver rs t) {σ' : Heap} (h1 : σ'[id]? = σ[id]?) (h2 : ∀ r ∈ rs, σ'[r.1]? = σ[r.1]?) : TabAt e2 e1 σ' id ver rs t where
 out := h1.trans h.out
 len := h.len
 row := fun i r l hr hl => (h2 r (List.mem_of_getElem? hr)).trans (h.row i r l hr hl)
 nd := h.nd
 ni := h.ni
theorem TabAt.set (h : TabAt e2 e1 σ id ver rs t) {i : Nat} {r : Nat × Nat} (hr : rs[i]? = some r) {l m : List Int} (hl : t[i]? = some l) (hm : m.length = l.length) : TabAt e2 e1 (σ.set r.1 (.arr r.2 e1 1 (ints m))) id ver rs (t.set i m) := by
 have hrm : r.1 ∈ rs.map Prod.fst := List.mem_map.2 ⟨r, List.mem_of_getElem? hr, rfl⟩
 have hit := (List.getElem?_eq_some_iff.1 hl).1
 refine ⟨?_, by rw [List.length_set]; exact h.len, fun j q n hq hn => ?_, h.nd, h.ni⟩
 ·rw [List.getElem?_set_ne (fun e : r.1 = id => h.ni (by rw [← e]; exact hrm)), h.out]
  congr 2
  apply List.ext_getElem?
  intro j
  simp only [refs, List.getElem?_zipWith, List.getElem?_set]
  by_cases e : i = j
  ·subst e
   rw [if_pos rfl, if_pos hit, hr, hl]
   simp [hm]
  ·rw [if_neg e]
 ·by_cases e : i = j
  ·subst e
   rw [hr] at hq; cases hq
   rw [List.getElem?_set_self hit] at hn; cases hn
   rw [List.getElem?_set_self (List.getElem?_eq_some_iff.1 (h.row i r l hr hl)).1]
  ·rw [List.getElem?_set_ne e] at hn
   have hne : r.1 ≠ q.1 := fun e2 => by
    have hi := (List.getElem?_eq_some_iff.1 hr)
    have hj := (List.getElem?_eq_some_iff.1 hq)
    have := (List.getElem_inj (h₀ := by simpa using hi.1) (h₁ := by simpa using hj.1) h.nd).1 (by simp [hi.2, hj.2, e2])
    exact e this
   rw [List.getElem?_set_ne hne]
   exact h.row j q n hq hn
theorem TabAt.lt (h : TabAt e2 e1 σ id ver rs t) : id < σ.length ∧ ∀ r ∈ rs, r.1 < σ.length := by
 refine ⟨(List.getElem?_eq_some_iff.1 h.out).1, fun r hr => ?_⟩
 obtain ⟨i, hi⟩ := List.getElem?_of_mem hr
 have hlt := (List.getElem?_eq_some_iff.1 hi).1
 exact (List.getElem?_eq_some_iff.1 (h.row i r (t[i]'(h.len ▸ hlt)) hi (List.getElem?_eq_getElem (h.len ▸ hlt)))).1
def NewT (P : Program) (f : FuncId) (args : List PV) (e2 e1 : TypeId) (T : List (List Int)) (r : Int) : Prop :=
 ACall P f args [] fun v s => ∃ id ver rs, v = .tup [.ref id ver 0 T.length, .int .i64 r] ∧ TabAt e2 e1 s id ver rs T ∧ ∀ o ∈ s, o.free
theorem shR_ge {n : Nat} {rs : List (Nat × Nat)} : ∀ r ∈ shR n rs, n ≤ r.1 := fun r hr => by
 simp only [shR, List.mem_map] at hr
 obtain ⟨q, _, rfl⟩ := hr
 simp
theorem NewT.call {P : Program} {f : FuncId} {args : List PV} {T : List (List Int)} {r : Int} (h : NewT P f args e2 e1 T r) {σ : Heap} {K : PV → Heap → Prop} (ha : ∀ a ∈ args, PV.upto 0 a)
  (hk : ∀ (id ver : Nat) (rs : List (Nat × Nat)) (s : Heap), TabAt e2 e1 (σ ++ s) id ver rs T → σ.length ≤ id → (∀ r ∈ rs, σ.length ≤ r.1) → K (.tup [.ref id ver 0 T.length, .int .i64 r]) (σ ++ s)) : ACall P f args σ K := by
 refine ACall.frame h ha fun v s ⟨id, ver, rs, hv, hT, _⟩ => ?_
 subst hv
 have := hk _ _ _ _ (hT.shift σ) (by omega) shR_ge
 simpa only [ren_tup, ren_ref, ren_int, List.map_cons, List.map_nil, sh_def] using this
theorem NewT.lend {P : Program} {f : FuncId} {args args' : List PV} {T : List (List Int)} {r : Int} (h : NewT P f args' e2 e1 T r) {σ : Heap} {K : PV → Heap → Prop} (ha : ImmL σ args args')
  (hk : ∀ (id ver : Nat) (rs : List (Nat × Nat)) (s : Heap), TabAt e2 e1 (σ ++ s) id ver rs T → σ.length ≤ id → (∀ r ∈ rs, σ.length ≤ r.1) → K (.tup [.ref id ver 0 T.length, .int .i64 r]) (σ ++ s)) : ACall P f args σ K := by
 refine ACall.lend h ha fun v s ⟨id, ver, rs, hv, hT, hf⟩ => ?_
 subst hv
 refine ⟨⟨free_tup fun c hc => ?_, hf⟩, ?_⟩
 ·simp only [List.mem_cons, List.not_mem_nil, or_false] at hc
  rcases hc with rfl | rfl
  ·exact free_ref _ _ _ _
  ·exact (Plain.int _ _).fr
 ·have := hk _ _ _ _ (hT.shift σ) (by omega) shR_ge
  simpa only [ren_tup, ren_ref, ren_int, List.map_cons, List.map_nil, sh_def] using this
end Go.Kv
end
section
namespace Go.Proofs.YthbbjbfbeaiphaaGreat
open Go.Kv
set_option linter.unusedVariables false
set_option linter.unusedSimpArgs false
attribute [local irreducible] ACall PCall KL
inductive OwnT (e2 e1 : TypeId) (σ : Heap) (lo hi : Nat) : PV → List (List Int) → Prop
 | nil : OwnT e2 e1 σ lo hi .nils []
 | tab (id ver : Nat) (rs : List Rw) (t : List (List Int)) (h : TabG e2 e1 σ id ver rs t) (h1 : lo ≤ id ∧ id < hi) (h2 : ∀ r ∈ rs, r.nil = false → lo ≤ r.id ∧ r.id < hi) : OwnT e2 e1 σ lo hi (.ref id ver 0 t.length) t
inductive OwnI (e : TypeId) (σ : Heap) (lo hi : Nat) : PV → List Int → Prop
 | nil : OwnI e σ lo hi .nils []
 | own (id ver : Nat) (pre l post : List Int) (h : σ[id]? = some (.arr ver e 1 (ints (pre ++ l ++ post)))) (h1 : lo ≤ id ∧ id < hi) : OwnI e σ lo hi (.ref id ver pre.length l.length) l
variable {e2 e1 e : TypeId} {σ : Heap} {lo hi : Nat} {x : PV} {t : List (List Int)} {l : List Int}
theorem OwnT.imm (h : OwnT e2 e1 σ lo hi x t) : Imm σ x (.list (rows t)) := by
 cases h with
 | nil => exact .nils
 | tab id ver rs t h _ _ => exact h.imm rfl
theorem OwnI.imm (h : OwnI e σ lo hi x l) : Imm σ x (.list (ints l)) := by
 cases h with
 | nil => exact .nils
 | own id ver pre l post h _ => exact .refp h rfl rfl
theorem OwnT.keep (h : OwnT e2 e1 σ lo hi x t) {σ' : Heap} (hk : ∀ j, lo ≤ j → j < hi → σ'[j]? = σ[j]?) : OwnT e2 e1 σ' lo hi x t := by
 cases h with
 | nil => exact .nil
 | tab id ver rs t h h1 h2 => exact .tab id ver rs t (h.keep (hk id h1.1 h1.2) fun r hr hn => hk _ (h2 r hr hn).1 (h2 r hr hn).2) h1 h2
theorem OwnI.keep (h : OwnI e σ lo hi x l) {σ' : Heap} (hk : ∀ j, lo ≤ j → j < hi → σ'[j]? = σ[j]?) : OwnI e σ' lo hi x l := by
 cases h with
 | nil => exact .nil
 | own id ver pre l post h h1 => exact .own id ver pre l post ((hk id h1.1 h1.2).trans h) h1
theorem OwnT.shift (h : OwnT e2 e1 σ lo hi x t) (τ : Heap) : OwnT e2 e1 (τ ++ σ.map (AObj.ren (Kv.sh τ.length))) (lo + τ.length) (hi + τ.length) (x.ren (Kv.sh τ.length)) t := by
 cases h with
 | nil => simp only [ren_nils]; exact .nil
 | tab id ver rs t h h1 h2 =>
  simp only [ren_ref, sh_def]
  refine .tab _ _ _ t (h.shift τ) (by omega) fun r hr hn => ?_
  obtain ⟨q, hq, rfl⟩ := List.mem_map.1 hr
  have := h2 q hq hn
  simp only [Rw.sh]; omega
theorem OwnI.shift (h : OwnI e σ lo hi x l) (τ : Heap) : OwnI e (τ ++ σ.map (AObj.ren (Kv.sh τ.length))) (lo + τ.length) (hi + τ.length) (x.ren (Kv.sh τ.length)) l := by
 cases h with
 | nil => simp only [ren_nils]; exact .nil
 | own id ver pre l post h h1 =>
  simp only [ren_ref, sh_def]
  refine .own _ ver pre l post ?_ (by omega)
  rw [List.getElem?_append_right (by omega), Nat.add_sub_cancel, List.getElem?_map, h]
  simp only [Option.map_some, ren_arr, ren_ints]
theorem OwnT.fr (h : OwnT e2 e1 σ lo hi x t) : x.free := by
 cases h with
 | nil => exact Plain.nils.fr
 | tab id ver rs t h _ _ => exact free_ref _ _ _ _
theorem OwnI.fr (h : OwnI e σ lo hi x l) : x.free := by
 cases h with
 | nil => exact Plain.nils.fr
 | own id ver pre l post h _ => exact free_ref _ _ _ _
def NewTO (P : Program) (f : FuncId) (args : List PV) (e2 e1 : TypeId) (T : List (List Int)) (r : Int) : Prop :=
 ACall P f args [] fun v s => ∃ x, v = .tup [x, .int .i64 r] ∧ OwnT e2 e1 s 0 s.length x T ∧ Free s
def NewIO (P : Program) (f : FuncId) (args : List PV) (e : TypeId) (l : List Int) (r : Int) : Prop :=
 ACall P f args [] fun v s => ∃ x, v = .tup [x, .int .i64 r] ∧ OwnI e s 0 s.length x l ∧ Free s
theorem NewTN.own {P : Program} {f : FuncId} {args : List PV} {T : List (List Int)} {r : Int} (h : NewTN P f args e2 e1 T r) : NewTO P f args e2 e1 T r :=
 ACall.mono h fun v s ⟨x, hv, hT, hf⟩ => ⟨x, hv, (by
  cases hT with
  | nil => exact .nil
  | tab id ver rs _ h => exact .tab id ver rs _ h ⟨Nat.zero_le _, h.lt.1⟩ fun r hr hn => ⟨Nat.zero_le _, h.lt.2 r hr hn⟩), hf⟩
theorem Pure.ownT {P : Program} {f : FuncId} {args : List PV} {r : Int} (h : Pure P f args (.tup [.nils, .int .i64 r])) : NewTO P f args e2 e1 [] r :=
 ACall.mono h fun v s ⟨hv, hs⟩ => ⟨.nils, hv, .nil, hs ▸ .nil⟩
theorem Pure.ownI {P : Program} {f : FuncId} {args : List PV} {r : Int} (h : Pure P f args (.tup [.nils, .int .i64 r])) : NewIO P f args e [] r :=
 ACall.mono h fun v s ⟨hv, hs⟩ => ⟨.nils, hv, .nil, hs ▸ .nil⟩
theorem NewI.own {P : Program} {f : FuncId} {args : List PV} {l : List Int} {r : Int} (h : NewI P f args e l r) : NewIO P f args e l r :=
 ACall.mono h fun v s ⟨ver, pre, post, hv, hs⟩ => ⟨_, hv, hs ▸ .own 0 ver pre l post rfl ⟨Nat.zero_le _, by simp⟩, hs ▸ .ints _ _ _ _⟩
theorem NewTO.frozen {P : Program} {f : FuncId} {args : List PV} {T : List (List Int)} {r : Int} (h : NewTO P f args e2 e1 T r) : Pure P f args (.tup [.list (rows T), .int .i64 r]) :=
 ACall.ret h fun v s ⟨x, hv, hT, _⟩ => by
  subst hv
  exact Fin.freeze (Imm.tupL (.cons hT.imm (.cons (.int _ _ _) (.nil _)))) ⟨rfl, rfl⟩
theorem NewIO.frozen {P : Program} {f : FuncId} {args : List PV} {l : List Int} {r : Int} (h : NewIO P f args e l r) : Pure P f args (.tup [.list (ints l), .int .i64 r]) :=
 ACall.ret h fun v s ⟨x, hv, hT, _⟩ => by
  subst hv
  exact Fin.freeze (Imm.tupL (.cons hT.imm (.cons (.int _ _ _) (.nil _)))) ⟨rfl, rfl⟩
theorem NewTO.lend {P : Program} {f : FuncId} {args args' : List PV} {T : List (List Int)} {r : Int} (h : NewTO P f args' e2 e1 T r) {σ : Heap} {K : PV → Heap → Prop} (ha : ImmL σ args args')
  (hk : ∀ (x : PV) (σ' : Heap), OwnT e2 e1 σ' σ.length σ'.length x T → (∀ j, j < σ.length → σ'[j]? = σ[j]?) → σ.length ≤ σ'.length → K (.tup [x, .int .i64 r]) σ') : ACall P f args σ K := by
 refine ACall.lend h ha fun v s ⟨x, hv, hT, hf⟩ => ?_
 subst hv
 refine ⟨⟨free_tup fun c hc => ?_, hf⟩, ?_⟩
 ·simp only [List.mem_cons, List.not_mem_nil, or_false] at hc
  rcases hc with rfl | rfl
  ·exact hT.fr
  ·exact (Plain.int _ _).fr
 ·have h1 := hT.shift σ
  have e : (σ ++ s.map (AObj.ren (Kv.sh σ.length))).length = s.length + σ.length := by simp; omega
  rw [Nat.zero_add, ← e] at h1
  have := hk _ _ h1 (fun j hj => List.getElem?_append_left hj) (by simp)
  simpa only [ren_tup, ren_int, List.map_cons, List.map_nil] using this
theorem NewIO.lend {P : Program} {f : FuncId} {args args' : List PV} {l : List Int} {r : Int} (h : NewIO P f args' e l r) {σ : Heap} {K : PV → Heap → Prop} (ha : ImmL σ args args')
  (hk : ∀ (x : PV) (σ' : Heap), OwnI e σ' σ.length σ'.length x l → (∀ j, j < σ.length → σ'[j]? = σ[j]?) → σ.length ≤ σ'.length → K (.tup [x, .int .i64 r]) σ') : ACall P f args σ K := by
 refine ACall.lend h ha fun v s ⟨x, hv, hT, hf⟩ => ?_
 subst hv
 refine ⟨⟨free_tup fun c hc => ?_, hf⟩, ?_⟩
 ·simp only [List.mem_cons, List.not_mem_nil, or_false] at hc
  rcases hc with rfl | rfl
  ·exact hT.fr
  ·exact (Plain.int _ _).fr
 ·have h1 := hT.shift σ
  have e : (σ ++ s.map (AObj.ren (Kv.sh σ.length))).length = s.length + σ.length := by simp; omega
  rw [Nat.zero_add, ← e] at h1
  have := hk _ _ h1 (fun j hj => List.getElem?_append_left hj) (by simp)
  simpa only [ren_tup, ren_int, List.map_cons, List.map_nil] using this
end Go.Proofs.YthbbjbfbeaiphaaGreat
end
section
namespace Go.Proofs.YthbbjbfbeaiphaaGreat
open Go.Kv
set_option linter.unusedVariables false
set_option linter.unusedSimpArgs false
attribute [local irreducible] ACall PCall KL
inductive OwnA (e : TypeId) (σ : Heap) (lo hi : Nat) : PV → List (List Int) → Prop
 | nil : OwnA e σ lo hi .nils []
 | own (id ver : Nat) (l post : List (List Int)) (h : σ[id]? = some (.arr ver e 6 (aggs (l ++ post)))) (h6 : ∀ r ∈ l, r.length = 6) (h1 : lo ≤ id ∧ id < hi) : OwnA e σ lo hi (.ref id ver 0 l.length) l
variable {e : TypeId} {σ : Heap} {lo hi : Nat} {x : PV} {l : List (List Int)}
theorem Imm.refap {σ : Heap} {id ver n : Nat} {e : TypeId} {l post : List (List Int)} (h : σ[id]? = some (.arr ver e 6 (aggs (l ++ post)))) (h6 : ∀ r ∈ l, r.length = 6) (hn : n = l.length) : Imm σ (.ref id ver 0 n) (.list (aggs l)) := by
 subst hn
 have hg : ∀ (i : Nat) (x d : PV), (aggs (l ++ post))[i]? = some x → (aggs l)[i]? = some d → x = d := fun i x d hx hd => by
  have hlt := (List.getElem?_eq_some_iff.1 hd).1
  rw [← aggs_append, List.getElem?_append_left hlt, hd] at hx
  exact (Option.some.inj hx).symm
 refine .ref id ver 0 l.length e 6 (aggs (l ++ post)) (aggs l) h (by simp [aggs_length]) (aggs_length l) (fun i x d hx hd => ?_) (fun i x d j c c' hx hd hc hc' => ?_)
 ·rw [Nat.zero_add] at hx
  obtain rfl := hg i x d hx hd
  obtain ⟨y, hy, rfl⟩ := aggs_get hd
  exact ⟨rfl, ints_ok y⟩
 ·rw [Nat.zero_add] at hx
  obtain rfl := hg i x d hx hd
  obtain ⟨y, _, rfl⟩ := aggs_get hd
  rw [hc] at hc'; cases hc'
  exact .refl _ ((Plain.ints y c (List.mem_of_getElem? hc)).up)
theorem OwnA.imm (h : OwnA e σ lo hi x l) : Imm σ x (.list (aggs l)) := by
 cases h with
 | nil => exact .nils
 | own id ver l post h h6 _ => exact Imm.refap h h6 rfl
theorem OwnA.keep (h : OwnA e σ lo hi x l) {σ' : Heap} (hk : ∀ j, lo ≤ j → j < hi → σ'[j]? = σ[j]?) : OwnA e σ' lo hi x l := by
 cases h with
 | nil => exact .nil
 | own id ver l post h h6 h1 => exact .own id ver l post ((hk id h1.1 h1.2).trans h) h6 h1
theorem OwnA.shift (h : OwnA e σ lo hi x l) (τ : Heap) : OwnA e (τ ++ σ.map (AObj.ren (Kv.sh τ.length))) (lo + τ.length) (hi + τ.length) (x.ren (Kv.sh τ.length)) l := by
 cases h with
 | nil => simp only [ren_nils]; exact .nil
 | own id ver l post h h6 h1 =>
  simp only [ren_ref, sh_def]
  refine .own _ ver l post ?_ h6 (by omega)
  rw [List.getElem?_append_right (by omega), Nat.add_sub_cancel, List.getElem?_map, h]
  simp only [Option.map_some, ren_arr, ren_aggs]
theorem OwnA.fr (h : OwnA e σ lo hi x l) : x.free := by
 cases h with
 | nil => exact Plain.nils.fr
 | own id ver l post h _ _ => exact free_ref _ _ _ _
theorem free_aggs {v : Nat} {e : TypeId} {s : Nat} (l : List (List Int)) : AObj.free (.arr v e s (aggs l)) := fun c hc => (flat_aggs c hc).fr
theorem Free.aggs (v : Nat) (e : TypeId) (s : Nat) (l : List (List Int)) : Free [.arr v e s (Kv.aggs l)] := fun o ho => by
 simp at ho; subst ho; exact free_aggs l
def NewAO (P : Program) (f : FuncId) (args : List PV) (e : TypeId) (l : List (List Int)) (r : Int) : Prop :=
 ACall P f args [] fun v s => ∃ x, v = .tup [x, .int .i64 r] ∧ OwnA e s 0 s.length x l ∧ Free s
theorem NewAO.frozen {P : Program} {f : FuncId} {args : List PV} {r : Int} (h : NewAO P f args e l r) : Pure P f args (.tup [.list (aggs l), .int .i64 r]) :=
 ACall.ret h fun v s ⟨x, hv, hT, _⟩ => by
  subst hv
  exact Fin.freeze (Imm.tupL (.cons hT.imm (.cons (.int _ _ _) (.nil _)))) ⟨rfl, rfl⟩
theorem NewAO.lend {P : Program} {f : FuncId} {args args' : List PV} {r : Int} (h : NewAO P f args' e l r) {σ : Heap} {K : PV → Heap → Prop} (ha : ImmL σ args args')
  (hk : ∀ (x : PV) (σ' : Heap), OwnA e σ' σ.length σ'.length x l → (∀ j, j < σ.length → σ'[j]? = σ[j]?) → σ.length ≤ σ'.length → K (.tup [x, .int .i64 r]) σ') : ACall P f args σ K := by
 refine ACall.lend h ha fun v s ⟨x, hv, hT, hf⟩ => ?_
 subst hv
 refine ⟨⟨free_tup fun c hc => ?_, hf⟩, ?_⟩
 ·simp only [List.mem_cons, List.not_mem_nil, or_false] at hc
  rcases hc with rfl | rfl
  ·exact hT.fr
  ·exact (Plain.int _ _).fr
 ·have h1 := hT.shift σ
  have e : (σ ++ s.map (AObj.ren (Kv.sh σ.length))).length = s.length + σ.length := by simp; omega
  rw [Nat.zero_add, ← e] at h1
  have := hk _ _ h1 (fun j hj => List.getElem?_append_left hj) (by simp)
  simpa only [ren_tup, ren_int, List.map_cons, List.map_nil] using this
end Go.Proofs.YthbbjbfbeaiphaaGreat
end
section
namespace Go.Proofs.YthbbjbfbeaiphaaGreat
open Go.Kv
set_option maxRecDepth 100000
def k169_b0 : KC := (.seq (.seq (.ops [mV 8 4, mV 9 0, oP 10 (.len false (.t 9)), oP 11 (.bin .lss (.t 8) (.t 10))])
 (.cond (.t 11) .skip (.exit 0)))
 (.seq (.block 1 (.ops [mV 14 4, mV 15 0, mV 16 4, oP 17 (.idxS 1 (.t 15) (.t 16)), oP 18 (.load false 1 (.t 17)), oP 19 (.fieldA 1 (.t 3)), oP 20 (.idxA 5 1 (.t 19) (.t 14)), ⟨none, none, .store 1 (.t 20) (.t 18)⟩]))
 (.ops [mV 12 4, oP 13 (.bin .add (.t 12) (iC 1)), mV 4 13])))
def k169 : KC := (.seq (.ops [oP 2 (.alloc [.int .i64 0, .int .i64 0, .int .i64 0, .int .i64 0, .int .i64 0, .int .i64 0])])
 (.seq (.ops [mV 5 0, oP 6 (.len false (.t 5)), oP 7 (.build [.int .i64 0, .int .i64 0, .int .i64 0, .int .i64 0, .int .i64 0, .int .i64 0] [(0, 1, (.t 6))]), oP 3 (.alloc [.int .i64 0, .int .i64 0, .int .i64 0, .int .i64 0, .int .i64 0, .int .i64 0]), ⟨none, none, .store 6 (.t 3) (.t 7)⟩])
 (.seq (.seq (.ops [oP 4 (.mv (iC 0))])
 (.block 0 (.loop k169_b0)))
 (.seq (.ops [oP 21 (.load true 6 (.t 3)), ⟨none, none, .store 6 (.t 2) (.t 21)⟩])
 .ret))))
theorem e169 : Ent 169 22 [] [.cell 2 true 6] k169 := ent Tryz.func169 (by kernel_rfl) (by kernel_rfl) (by kernel_rfl) (fun _ => by kernel_rfl) (by kernel_rfl)
end Go.Proofs.YthbbjbfbeaiphaaGreat
namespace Go.Proofs.YthbbjbfbeaiphaaGreat
open Go.Kv
set_option linter.unusedVariables false
set_option linter.unusedSimpArgs false
attribute [local irreducible] ACall PCall KL
def mxl (P : List Int) : Int := P.foldl max (-1)
theorem natD (l : List Nat) (x : Nat) : (l.map fun x : Nat => (x : Int)).getD x 0 = (l.getD x 0 : Int) := by
 simp only [List.getD_eq_getElem?_getD, List.getElem?_map]
 cases l[x]? <;> rfl
theorem p169 (l : List Nat) (hl : l.length ≤ 5) : Pure Tryz.prog 169 [.list (ints (l.map fun x : Nat => (x : Int)))] (.agg (ints (mp l))) := by
 refine e169 (by simp) fun _ _ => ?_
 simp only [k169, argEnv, List.length_map, go_sem]
 refine KL_ind k169_b0.eq_1 (fun x : Nat => [(0, .list (ints (l.map fun x : Nat => (x : Int)))), (2, .ptr 0 0), (3, .ptr 1 0), (4, .int .i64 x)]) (fun x => [.box (ints [0, 0, 0, 0, 0, 0]), .box (ints (mpN l.length (l.take x)))]) (fun x => x ≤ l.length) (fun x => l.length - x) [0, 2, 3, 4] 0 (by rfl) (by rfl) (Nat.zero_le _) fun x hx ih => ?_
 have h6 : (mpN (l.length : Int) (l.take x)).length = 6 := mpN_length (by simp; omega)
 try simp only [h6, List.length_map, go_sem]
 refine ⟨fun h3 => ?_, fun h3 => ?_⟩
 ·refine ⟨by omega, fun h4 => ⟨by omega, by omega, by omega, ?_⟩⟩
  refine ih (x + 1) (by omega) (by omega) _ _ (by rfl) ?_
  rw [natD, mpN_pushI (by simp; omega) (by simp; omega), List.take_succ_eq_append_getElem h4, getD_eq h4]
 ·obtain rfl : x = l.length := by omega
  rw [List.take_length]
  exact Kv.Fin.still ⟨rfl, rfl⟩
def st (Q f : List Nat) (c x : Nat) : List Nat := (List.range x).foldl (fun s p => s.set (Q.getD p 0) (Q.getD (f.getD p 0) 0)) (List.replicate c 0)
end Go.Proofs.YthbbjbfbeaiphaaGreat
end
section
namespace Go.Proofs.YthbbjbfbeaiphaaGreat
open Go.Kv
set_option maxRecDepth 100000
def k53_b0 : KC := (.seq (.seq (.ops [mV 26 5, mV 27 3, oP 28 (.bin .lss (.t 26) (.t 27))])
 (.cond (.t 28) .skip (.exit 2)))
 (.seq (.block 3 (.seq (.ops [mV 31 0, mV 32 4, oP 33 (.idxS 1 (.t 31) (.t 32)), oP 34 (.load false 1 (.t 33)), mV 35 5, oP 36 (.idxS 1 (.t 34) (.t 35)), oP 37 (.load false 1 (.t 36)), mV 38 3, oP 39 (.bin .sub (.t 38) (iC 1)), oP 40 (.call (fC 126) [(.t 37), (iC 0), (.t 39)]), oP 41 (.not (.t 40))])
 (.cond (.t 41) (.seq (.ops [oP 2 (.mv (.c (.bool false)))])
 .ret) .skip)))
 (.ops [mV 29 5, oP 30 (.bin .add (.t 29) (iC 1)), mV 5 30])))
def k53_b1 : KC := (.seq (.seq (.ops [mV 14 4, mV 15 3, oP 16 (.bin .lss (.t 14) (.t 15))])
 (.cond (.t 16) .skip (.exit 0)))
 (.seq (.block 1 (.seq (.seq (.ops [mV 19 0, mV 20 4, oP 21 (.idxS 1 (.t 19) (.t 20)), oP 22 (.load false 1 (.t 21)), oP 23 (.len false (.t 22)), mV 24 3, oP 25 (.bin .neq (.t 23) (.t 24))])
 (.cond (.t 25) (.seq (.ops [oP 2 (.mv (.c (.bool false)))])
 .ret) .skip))
 (.seq (.ops [oP 5 (.mv (iC 0))])
 (.block 2 (.loop k53_b0)))))
 (.ops [mV 17 4, oP 18 (.bin .add (.t 17) (iC 1)), mV 4 18])))
def k53 : KC := (.seq (.ops [oP 2 (.mv (.c (.bool false)))])
 (.seq (.ops [mV 6 0, oP 7 (.len false (.t 6)), mV 3 7])
 (.seq (.seq (.ops [mV 8 3, oP 9 (.bin .lss (.t 8) (iC 1)), mV 10 9, ⟨(some 11), some (10, false), .mv (.t 3)⟩, ⟨(some 12), some (10, false), .bin .gtr (.t 11) (iC 40)⟩, oP 13 (.pick (.t 10) (.c (.bool true)) (.t 12))])
 (.cond (.t 13) (.seq (.ops [oP 2 (.mv (.c (.bool false)))])
 .ret) .skip))
 (.seq (.seq (.ops [oP 4 (.mv (iC 0))])
 (.block 0 (.loop k53_b1)))
 (.seq (.ops [oP 2 (.mv (.c (.bool true)))])
 .ret)))))
theorem e53 : Ent 53 42 [] [.t 2] k53 := ent Tryz.func53 (by kernel_rfl) (by kernel_rfl) (by kernel_rfl) (fun _ => by kernel_rfl) (by kernel_rfl)
def k123 : KC := (.seq (.ops [oP 4 (.mv (.c (.bool false)))])
 (.seq (.ops [mV 5 0, mV 6 1, oP 7 (.call (fC 142) [(.t 5), (.t 6)]), oP 8 (.bin .geq (.t 7) (iC 0)), mV 4 8])
 .ret))
theorem e123 : Ent 123 9 [] [.t 4] k123 := ent Tryz.func123 (by kernel_rfl) (by kernel_rfl) (by kernel_rfl) (fun _ => by kernel_rfl) (by kernel_rfl)
def k142_b0 : KC := (.seq (.ops [oP 9 (.bin .lss (.t 8) (.t 7))])
 (.seq (.cond (.t 9) .skip (.exit 0))
 (.seq (.block 1 (.seq (.ops [mV 10 8, mV 5 10])
 (.seq (.ops [mV 11 1, mV 12 0, mV 13 5, oP 14 (.idxS 1 (.t 12) (.t 13)), oP 15 (.load false 1 (.t 14)), oP 16 (.call (.t 11) [(.t 15)])])
 (.cond (.t 16) (.seq (.ops [mV 17 5, mV 4 17])
 .ret) .skip))))
 (.ops [oP 18 (.bin .add (.t 8) (iC 1)), mV 8 18]))))
def k142 : KC := (.seq (.ops [oP 4 (.mv (iC 0))])
 (.seq (.seq (.ops [mV 6 0, oP 7 (.len false (.t 6)), oP 8 (.mv (iC 0))])
 (.block 0 (.loop k142_b0)))
 (.seq (.ops [oP 4 (.mv (iC (-1)))])
 .ret)))
theorem e142 : Ent 142 19 [] [.t 4] k142 := ent Tryz.func142 (by kernel_rfl) (by kernel_rfl) (by kernel_rfl) (fun _ => by kernel_rfl) (by kernel_rfl)
def k155_b0 : KC := (.seq (.ops [oP 9 (.bin .lss (.t 8) (.t 7))])
 (.seq (.cond (.t 9) .skip (.exit 0))
 (.seq (.block 1 (.seq (.ops [mV 10 8, mV 5 10])
 (.seq (.ops [mV 11 1, mV 12 0, mV 13 5, oP 14 (.idxS 1 (.t 12) (.t 13)), oP 15 (.load false 1 (.t 14)), oP 16 (.call (.t 11) [(.t 15)])])
 (.cond (.t 16) (.seq (.ops [mV 17 5, mV 4 17])
 .ret) .skip))))
 (.ops [oP 18 (.bin .add (.t 8) (iC 1)), mV 8 18]))))
def k155 : KC := (.seq (.ops [oP 4 (.mv (iC 0))])
 (.seq (.seq (.ops [mV 6 0, oP 7 (.len false (.t 6)), oP 8 (.mv (iC 0))])
 (.block 0 (.loop k155_b0)))
 (.seq (.ops [oP 4 (.mv (iC (-1)))])
 .ret)))
theorem e155 : Ent 155 19 [] [.t 4] k155 := ent Tryz.func155 (by kernel_rfl) (by kernel_rfl) (by kernel_rfl) (fun _ => by kernel_rfl) (by kernel_rfl)
end Go.Proofs.YthbbjbfbeaiphaaGreat
namespace Go.Proofs.YthbbjbfbeaiphaaGreat
open Go.Kv
set_option linter.unusedVariables false
set_option linter.unusedSimpArgs false
attribute [local irreducible] ACall PCall KL
theorem p142 (l : List Int) (hl : l.length ≤ 4294967296) (fid : FuncId) (caps : List PV) (hc : ∀ c ∈ caps, PV.upto 0 c) (p : Int → Bool) (hp : ∀ x ∈ l, Pure Tryz.prog fid (.int .i64 x :: caps) (.bool (p x))) :
  Pure Tryz.prog 142 [.list (ints l), .fn (.func fid) [] caps] (.int .i64 (idx p l)) := by
 refine e142 (by simp) fun _ _ => ?_
 simp only [k142, argEnv, go_sem, ↓reduceIte, Nat.reduceEqDiff, Nat.reduceAdd, reduceCtorEq]
 refine KL_ind k142_b0.eq_1 (fun x : Nat => [(8, .int .i64 x), (7, .int .i64 l.length), (0, .list (ints l)), (1, .fn (.func fid) [] caps)]) (fun _ => []) (fun x => x ≤ l.length ∧ (l.take x).any p = false) (fun x => l.length - x) [8, 7, 0, 1] 0 rfl rfl ⟨Nat.zero_le _, by simp⟩ fun x ⟨hx, hall⟩ ih => ?_
 simp only [go_sem, ↓reduceIte, Nat.reduceEqDiff, Nat.reduceAdd, reduceCtorEq]
 refine ⟨fun h1 => ⟨by omega, fun h2 => ?_⟩, fun h1 => ?_⟩
 ·rw [getD_eq h2]
  refine (hp _ (List.getElem_mem h2)).use (.bool _) (.cons (.int _ _ _) (up_self hc)) ?_
  simp only [go_sem, ↓reduceIte, Nat.reduceEqDiff, Nat.reduceAdd, reduceCtorEq]
  refine ⟨fun h3 => ?_, fun h3 => ⟨by omega, ?_⟩⟩
  ·exact Kv.Fin.now ⟨by rw [idx_some h2 hall h3], rfl⟩
  ·refine ih (x + 1) ⟨by omega, ?_⟩ (by omega) _ _ rfl rfl
   rw [any_take_succ _ h2, hall, h3]; rfl
 ·obtain rfl : x = l.length := by omega
  rw [List.take_length] at hall
  exact Kv.Fin.now ⟨by rw [idx_none hall], rfl⟩
theorem p155 (l : List (List Int)) (hl : l.length ≤ 4294967296) (fid : FuncId) (caps : List PV) (hc : ∀ c ∈ caps, PV.upto 0 c) (p : List Int → Bool) (hp : ∀ x ∈ l, Pure Tryz.prog fid (.list (ints x) :: caps) (.bool (p x))) :
  Pure Tryz.prog 155 [.list (rows l), .fn (.func fid) [] caps] (.int .i64 (idx p l)) := by
 refine e155 (by simp) fun _ _ => ?_
 simp only [k155, argEnv, go_sem, ↓reduceIte, Nat.reduceEqDiff, Nat.reduceAdd, reduceCtorEq]
 refine KL_ind k155_b0.eq_1 (fun x : Nat => [(8, .int .i64 x), (7, .int .i64 l.length), (0, .list (rows l)), (1, .fn (.func fid) [] caps)]) (fun _ => []) (fun x => x ≤ l.length ∧ (l.take x).any p = false) (fun x => l.length - x) [8, 7, 0, 1] 0 rfl rfl ⟨Nat.zero_le _, by simp⟩ fun x ⟨hx, hall⟩ ih => ?_
 simp only [go_sem, ↓reduceIte, Nat.reduceEqDiff, Nat.reduceAdd, reduceCtorEq]
 refine ⟨fun h1 => ⟨by omega, fun h2 => ?_⟩, fun h1 => ?_⟩
 ·rw [getD_eq h2]
  refine (hp _ (List.getElem_mem h2)).use (.bool _) (.cons (.listi _ _) (up_self hc)) ?_
  simp only [go_sem, ↓reduceIte, Nat.reduceEqDiff, Nat.reduceAdd, reduceCtorEq]
  refine ⟨fun h3 => ?_, fun h3 => ⟨by omega, ?_⟩⟩
  ·exact Kv.Fin.now ⟨by rw [idx_some h2 hall h3], rfl⟩
  ·refine ih (x + 1) ⟨by omega, ?_⟩ (by omega) _ _ rfl rfl
   rw [any_take_succ _ h2, hall, h3]; rfl
 ·obtain rfl : x = l.length := by omega
  rw [List.take_length] at hall
  exact Kv.Fin.now ⟨by rw [idx_none hall], rfl⟩
theorem p123 (l : List Int) (hl : l.length ≤ 4294967296) (fid : FuncId) (caps : List PV) (hc : ∀ c ∈ caps, PV.upto 0 c) (p : Int → Bool) (hp : ∀ x ∈ l, Pure Tryz.prog fid (.int .i64 x :: caps) (.bool (p x))) :
  Pure Tryz.prog 123 [.list (ints l), .fn (.func fid) [] caps] (.bool (l.any p)) := by
 refine e123 (by simp) fun _ _ => ?_
 simp only [k123, argEnv, go_sem, ↓reduceIte, Nat.reduceEqDiff, Nat.reduceAdd, reduceCtorEq]
 refine (p142 l hl fid caps hc p hp).use (.int _ _) (.cons (.listi _ _) (.cons (Imm.fnc _ (up_self hc)) (.nil _))) ?_
 simp only [go_sem, ↓reduceIte, Nat.reduceEqDiff, Nat.reduceAdd, reduceCtorEq]
 exact Kv.Fin.now ⟨by rw [idx_nonneg], rfl⟩
end Go.Proofs.YthbbjbfbeaiphaaGreat
end
section
namespace Go.Proofs.YthbbjbfbeaiphaaGreat
open Go.Kv
set_option linter.unusedVariables false
set_option linter.unusedSimpArgs false
attribute [local irreducible] ACall PCall KL
def tat (t : List (List Int)) (i j : Nat) : Int := (t.getD i []).getD j 0
end Go.Proofs.YthbbjbfbeaiphaaGreat
end
section
namespace Go.Proofs.YthbbjbfbeaiphaaGreat
open Go.Kv
set_option maxRecDepth 100000
def k105 : KC := (.seq (.ops [oP 2 (.mv (.c (.nils)))])
 (.seq (.ops [oP 3 (.bsl false 2 1 []), mV 4 0, oP 5 (.app (.t 3) (.t 4) 2 1), mV 2 5])
 .ret))
theorem e105 : Ent 105 6 [] [.t 2] k105 := ent Tryz.func105 (by kernel_rfl) (by kernel_rfl) (by kernel_rfl) (fun _ => by kernel_rfl) (by kernel_rfl)
end Go.Proofs.YthbbjbfbeaiphaaGreat
namespace Go.Proofs.YthbbjbfbeaiphaaGreat
open Go.Kv
set_option linter.unusedVariables false
set_option linter.unusedSimpArgs false
attribute [local irreducible] ACall PCall KL
theorem p105 (l : List Int) (hl : l.length ≤ 1048576) : ACall Tryz.prog 105 [.list (ints l)] [] (fun v s => v = .ref 0 1 0 l.length ∧ s = [.arr 1 2 1 (ints l)]) := by
 refine e105 (by simp) fun _ _ => ?_
 simp only [k105, argEnv, go_sem]
 repeat' (first | refine And.intro ?_ ?_ | intro _)
 all_goals (try omega)
 exact Kv.Fin.now ⟨rfl, rfl⟩
end Go.Proofs.YthbbjbfbeaiphaaGreat
end
end
section
namespace Go.Proofs.YthbbjbfbeaiphaaGreat
open Go.Kv
set_option maxRecDepth 100000
def k51 : KC := (.seq (.ops [oP 2 (.mv (.c (.nils)))])
 (.seq (.seq (.ops [mV 3 0, oP 4 (.isn false (.t 3))])
 (.cond (.t 4) (.seq (.ops [oP 2 (.mv (.c (.nils)))])
 .ret) .skip))
 (.seq (.ops [oP 5 (.bsl false 2 1 []), mV 6 0, oP 7 (.app (.t 5) (.t 6) 2 1), mV 2 7])
 .ret)))
theorem e51 : Ent 51 8 [] [.t 2] k51 := ent Tryz.func51 (by kernel_rfl) (by kernel_rfl) (by kernel_rfl) (fun _ => by kernel_rfl) (by kernel_rfl)
end Go.Proofs.YthbbjbfbeaiphaaGreat
namespace Go.Proofs.YthbbjbfbeaiphaaGreat
open Go.Kv
set_option linter.unusedVariables false
set_option linter.unusedSimpArgs false
attribute [local irreducible] ACall PCall KL
def okP (n : Nat) (P : List Int) : Bool := decide (P.length = n) && P.all (fun k => decide (0 ≤ k ∧ k ≤ 4)) && decide (P.length = 0 ∨ 0 ≤ mxl P) && decide (mxl P ≤ 4)
theorem tabLen {e2 e1 : TypeId} {σ : Heap} {v : PV} {T : List (List Int)} (h : TabN e2 e1 σ v T) (K : PV → Prop) : aLen v σ K = K (.int .i64 T.length) := by
 cases h with
 | nil => rfl
 | tab id ver rs t h =>
  obtain ⟨junk, ho⟩ := h.out
  simp [aLen, ho]
theorem HKv (σ : Heap) (K : PV → Heap → Prop) (v : PV) : HK σ K v = K v σ := rfl
theorem p51P (l : List Int) (hl : l.length ≤ 4294967296) : ACall Tryz.prog 51 [.list (ints l)] [] (fun v s => (v = .ref 0 1 0 l.length ∧ s = [.arr 1 2 1 (ints l)]) ∨ (l = [] ∧ v = .nils ∧ s = [])) := by
 cases l with
 | nil =>
  refine e51 (by simp) fun _ _ => ?_
  simp only [k51, argEnv, go_sem]
  have e : ∀ K : Bool → Prop, aIsn (.list (ints [])) K = (K true ∧ K false) := fun _ => rfl
  rw [e]
  exact ⟨⟨fun _ => Kv.Fin.now (.inr ⟨rfl, rfl⟩), fun h => by cases h⟩, ⟨fun h => (by cases h), fun _ => Kv.Fin.now (.inl ⟨rfl, rfl⟩)⟩⟩
 | cons x l =>
  refine e51 (by simp) fun _ _ => ?_
  simp only [k51, argEnv, go_sem]
  have e : ∀ K : Bool → Prop, aIsn (.list (ints (x :: l))) K = K false := fun _ => rfl
  rw [e]
  try simp only [go_sem]
  refine ⟨by simp at hl; omega, Kv.Fin.now (.inl ⟨rfl, ?_⟩)⟩
  simp
end Go.Proofs.YthbbjbfbeaiphaaGreat
end
section
namespace Go.Proofs.YthbbjbfbeaiphaaGreat
open Go.Kv
set_option maxRecDepth 100000
def k5 : KC := (.seq (.ops [oP 2 (.mv (.c (.bool false)))])
 (.seq (.ops [mV 3 0, oP 4 (.len false (.t 3)), oP 5 (.bin .gtr (.t 4) (iC 4096)), mV 2 5])
 .ret))
theorem e5 : Ent 5 6 [] [.t 2] k5 := ent Tryz.func5 (by kernel_rfl) (by kernel_rfl) (by kernel_rfl) (fun _ => by kernel_rfl) (by kernel_rfl)
def k55_b0 : KC := (.seq (.seq (.ops [mV 12 4, mV 13 0, oP 14 (.len false (.t 13)), oP 15 (.bin .lss (.t 12) (.t 14)), mV 16 15, ⟨(some 17), some (16, true), .mv (.t 4)⟩, ⟨(some 18), some (16, true), .bin .lss (.t 17) (iC 4096)⟩, oP 19 (.pick (.t 16) (.t 18) (.c (.bool false)))])
 (.cond (.t 19) .skip (.exit 0)))
 (.seq (.block 1 (.draw [mV 22 3, mV 23 3, oP 24 (.nilck (.t 23)), oP 25 (.fieldA 2 (.t 24)), oP 26 (.load false 1 (.t 25)), oP 27 (.bin .mul (.t 26) (.c (.int .u64 1099511628211))), mV 28 0, mV 29 4, oP 30 (.idxS 1 (.t 28) (.t 29)), oP 31 (.load false 1 (.t 30)), oP 32 (.conv .u64 (.t 31)), oP 33 (.bin .add (.t 27) (.t 32)), oP 34 (.bin .add (.t 33) (.c (.int .u64 181))), oP 35 (.nilck (.t 22)), oP 36 (.fieldA 2 (.t 35)), ⟨none, none, .store 1 (.t 36) (.t 34)⟩]))
 (.ops [mV 20 4, oP 21 (.bin .add (.t 20) (iC 1)), mV 4 21])))
def k55 : KC := (.seq (.ops [oP 2 (.mv (.c (.nilptr)))])
 (.seq (.ops [mV 5 0, mV 6 0, oP 7 (.len false (.t 6)), oP 8 (.conv .u64 (.t 7)), oP 9 (.bin .add (.c (.int .u64 13591)) (.t 8)), oP 10 (.build [.nils, .int .i64 0, .int .u64 0] [(0, 1, (.t 5)), (2, 1, (.t 9))]), oP 11 (.box false (.t 10)), mV 3 11])
 (.seq (.seq (.ops [oP 4 (.mv (iC 0))])
 (.block 0 (.loop k55_b0)))
 (.seq (.ops [mV 37 3, mV 2 37])
 .ret))))
theorem e55 : Ent 55 38 [] [.t 2] k55 := ent Tryz.func55 (by kernel_rfl) (by kernel_rfl) (by kernel_rfl) (fun _ => by kernel_rfl) (by kernel_rfl)
def k56 : KC := (.seq (.ops [oP 4 (.mv (iC 0))])
 (.seq (.seq (.ops [mV 6 1, oP 7 (.bin .lss (.t 6) (iC 1))])
 (.cond (.t 7) (.seq (.ops [oP 4 (.mv (iC 0))])
 .ret) .skip))
 (.seq (.ops [mV 8 0, mV 9 0, oP 10 (.nilck (.t 9)), oP 11 (.fieldA 2 (.t 10)), oP 12 (.load false 1 (.t 11)), oP 13 (.bin .mul (.t 12) (.c (.int .u64 6364136223846793005))), oP 14 (.bin .add (.t 13) (.c (.int .u64 1442695040888963407))), oP 15 (.nilck (.t 8)), oP 16 (.fieldA 2 (.t 15)), ⟨none, none, .store 1 (.t 16) (.t 14)⟩])
 (.seq (.ops [mV 17 0, oP 18 (.nilck (.t 17)), oP 19 (.fieldA 2 (.t 18)), oP 20 (.load false 1 (.t 19)), oP 21 (.bin .shr (.t 20) (.c (.int .u64 33))), oP 22 (.bin .and (.t 21) (.c (.int .u64 16777215))), oP 23 (.conv .i64 (.t 22)), mV 5 23])
 (.seq (.seq (.draw [mV 24 0, oP 25 (.nilck (.t 24)), oP 26 (.fieldA 1 (.t 25)), oP 27 (.load false 1 (.t 26)), mV 28 0, oP 29 (.nilck (.t 28)), oP 30 (.fieldA 0 (.t 29)), oP 31 (.load false 1 (.t 30)), oP 32 (.len false (.t 31)), oP 33 (.bin .lss (.t 27) (.t 32))])
 (.cond (.t 33) (.seq (.draw [mV 34 5, mV 35 0, oP 36 (.nilck (.t 35)), oP 37 (.fieldA 0 (.t 36)), oP 38 (.load false 1 (.t 37)), mV 39 0, oP 40 (.nilck (.t 39)), oP 41 (.fieldA 1 (.t 40)), oP 42 (.load false 1 (.t 41)), oP 43 (.idxS 1 (.t 38) (.t 42)), oP 44 (.load false 1 (.t 43)), oP 45 (.conv .i64 (.t 44)), oP 46 (.bin .add (.t 34) (.t 45)), mV 5 46])
 (.ops [mV 47 0, mV 48 0, oP 49 (.nilck (.t 48)), oP 50 (.fieldA 1 (.t 49)), oP 51 (.load false 1 (.t 50)), oP 52 (.bin .add (.t 51) (iC 1)), oP 53 (.nilck (.t 47)), oP 54 (.fieldA 1 (.t 53)), ⟨none, none, .store 1 (.t 54) (.t 52)⟩])) .skip))
 (.seq (.ops [mV 55 5, mV 56 1, oP 57 (.bin .rem (.t 55) (.t 56)), mV 4 57])
 .ret))))))
theorem e56 : Ent 56 58 [] [.t 4] k56 := ent Tryz.func56 (by kernel_rfl) (by kernel_rfl) (by kernel_rfl) (fun _ => by kernel_rfl) (by kernel_rfl)
def k58 : KC := (.seq (.ops [oP 4 (.mv (iC 0))])
 (.seq (.ops [mV 5 1, mV 6 0, mV 7 1, oP 8 (.len false (.t 7)), oP 9 (.call (fC 56) [(.t 6), (.t 8)]), oP 10 (.idxS 1 (.t 5) (.t 9)), oP 11 (.load false 1 (.t 10)), mV 4 11])
 .ret))
theorem e58 : Ent 58 12 [] [.t 4] k58 := ent Tryz.func58 (by kernel_rfl) (by kernel_rfl) (by kernel_rfl) (fun _ => by kernel_rfl) (by kernel_rfl)
end Go.Proofs.YthbbjbfbeaiphaaGreat
namespace Go.Proofs.YthbbjbfbeaiphaaGreat
open Go.Kv
set_option linter.unusedVariables false
set_option linter.unusedSimpArgs false
attribute [local irreducible] ACall PCall KL
def srcO (l : List Int) (p : Nat) (h : Int) : AObj := .box [.list (u8s l), .int .i64 p, .int .u64 h]
def Src (σ : Heap) (b : Nat) (l : List Int) : Prop := ∃ (p : Nat) (h : Int), σ[b]? = some (srcO l p h) ∧ p ≤ l.length
def Kept (σ σ' : Heap) (b : Nat) : Prop := σ.length ≤ σ'.length ∧ ∀ j, j < σ.length → j ≠ b → σ'[j]? = σ[j]?
def Byt (l : List Int) : Prop := l.length ≤ 4096 ∧ ∀ z ∈ l, 0 ≤ z ∧ z ≤ 255
theorem Kept.refl (σ : Heap) (b : Nat) : Kept σ σ b := ⟨Nat.le_refl _, fun _ _ _ => rfl⟩
theorem Kept.trans {σ τ ρ : Heap} {b : Nat} (h : Kept σ τ b) (h' : Kept τ ρ b) : Kept σ ρ b :=
 ⟨Nat.le_trans h.1 h'.1, fun j hj hb => (h'.2 j (Nat.lt_of_lt_of_le hj h.1) hb).trans (h.2 j hj hb)⟩
theorem Src.lt {σ : Heap} {b : Nat} {l : List Int} (h : Src σ b l) : b < σ.length := by
 obtain ⟨p, x, h, _⟩ := h
 exact (List.getElem?_eq_some_iff.1 h).1
theorem Kept.set {σ : Heap} {b : Nat} (o : AObj) : Kept σ (σ.set b o) b := ⟨by simp, fun j _ hb => List.getElem?_set_ne (Ne.symm hb)⟩
theorem Kept.app (σ τ : Heap) (b : Nat) : Kept σ (σ ++ τ) b := ⟨by simp, fun j hj _ => List.getElem?_append_left hj⟩
theorem Src.app {σ : Heap} {b : Nat} {l : List Int} (h : Src σ b l) (τ : Heap) : Src (σ ++ τ) b l := by
 have := h.lt
 obtain ⟨p, x, h, h2⟩ := h
 exact ⟨p, x, (List.getElem?_append_left this).trans h, h2⟩
theorem p5 (l : List Int) (hl : l.length ≤ 9223372036854775807) : Pure Tryz.prog 5 [.list (u8s l)] (.bool (decide (4096 < (l.length : Int)))) := by
 refine e5 (by simp) fun _ _ => ?_
 simp only [k5, argEnv, go_sem]
 exact Kv.Fin.still ⟨rfl, rfl⟩
theorem put3 (a b c d : PV) : putC [a, b, c] 2 [d] = [a, b, d] := by unfold putC; first | rfl | (split <;> rfl) | simp
theorem put31 (a b c d : PV) : putC [a, b, c] 1 [d] = [a, d, c] := by unfold putC; first | rfl | (split <;> rfl) | simp
def andV (a : Int) : Nat := (BitVec.ofInt 64 a &&& BitVec.ofInt 64 16777215).toNat
theorem andV_le (a : Int) : andV a ≤ 16777215 := by
 unfold andV
 rw [BitVec.toNat_and]
 exact Nat.le_trans Nat.and_le_right (by decide)
theorem wrapU64 {n : Nat} (h : n < 18446744073709551616) : IntKind.u64.wrap (n : Int) = n := by
 have : IntKind.u64.wrap (n : Int) = (n : Int) % 18446744073709551616 := by simp [IntKind.wrap, IntKind.bits, IntKind.signed]
 rw [this]; omega
theorem aInt_and24 (a : Int) (K : PV → Prop) : aInt .and .u64 a 16777215 K = K (.int .u64 (andV a)) := by
 have h := andV_le a
 have : IntKind.u64.wrap ((BitVec.ofInt 64 a &&& BitVec.ofInt 64 16777215).toNat : Int) = ((andV a : Nat) : Int) := wrapU64 (by omega)
 show K (.int .u64 (IntKind.u64.wrap ((BitVec.ofInt 64 a &&& BitVec.ofInt 64 16777215).toNat : Int))) = _
 rw [this]
theorem aInt_shrU (a b : Int) (K : PV → Prop) : aInt .shr .u64 a b K = ((0 ≤ b ∧ b ≤ (64 : Nat)) ∧ K (.int .u64 (a.fdiv (2 ^ b.toNat)))) := Eq.trans rfl rfl
theorem aWrapU (n : Int) (K : PV → Prop) : aWrap .u64 n K = K (.int .u64 (IntKind.u64.wrap n)) := Eq.trans rfl rfl
theorem u8s_getD {l : List Int} {i : Nat} (h : i < l.length) : (u8s l)[i]? = some (.int .u8 l[i]) := by simp [u8s, h]
theorem p56 {l : List Int} (hl : Byt l) {σ : Heap} {b : Nat} (hS : Src σ b l) (n : Int) {K : PV → Heap → Prop}
  (hK : ∀ (r : Int) σ', 0 ≤ r → (1 ≤ n → r < n) → Src σ' b l → Kept σ σ' b → σ'.length = σ.length → K (.int .i64 r) σ') : ACall Tryz.prog 56 [.ptr b 0, .int .i64 n] σ K := by
 have hlt := hS.lt
 obtain ⟨p, x, hb, hp⟩ := hS
 have hself : ∀ o, (σ.set b o)[b]? = some o := fun o => List.getElem?_set_self hlt
 have hset : ∀ o o', (σ.set b o).set b o' = σ.set b o' := fun o o' => List.set_set ..
 unfold srcO at hb
 refine e56 (by simp) fun _ _ => ?_
 simp only [k56, argEnv, go_sem]
 try simp only [OpK_eq, HKv, hb, hself, hset, put3, put31, aWrapU, aInt_and24, aInt_shrU, go_sem]
 generalize hV : andV _ = V
 have hV1 : V ≤ 16777215 := by rw [← hV]; exact andV_le _
 clear hV
 generalize IntKind.u64.wrap _ = x1
 refine ⟨fun h => ?_, fun h1 => ?_⟩
 ·exact Kv.Fin.now (hK 0 σ (by omega) (fun h' => by omega) ⟨p, x, hb, hp⟩ (Kept.refl _ _) rfl)
 refine ⟨by omega, fun h2 => ⟨h2, fun y hy => ?_⟩, fun h2 => ?_⟩
 ·have hpl : p < l.length := by omega
  rw [u8s_getD hpl] at hy; cases hy
  have hbt := hl.2 _ (List.getElem_mem hpl)
  have hcs : (PV.int .u8 l[p]).cs = [.int .u8 l[p]] := rfl
  rw [hcs]
  refine ⟨rfl, by simp, fun c hc => ?_⟩
  simp only [List.getElem?_cons_zero, Option.some.injEq] at hc
  subst hc
  have hpl2 := hl.1
  try simp only [OpK_eq, HKv, hself, hset, put3, put31, go_sem]
  iterate 6 (try refine ⟨by omega, ?_⟩)
  exact Kv.Fin.now (hK _ _ (Int.emod_nonneg _ (by omega)) (fun h' => Int.emod_lt_of_pos _ (by omega)) ⟨p + 1, x1, hself _, by omega⟩ (Kept.set _) (by simp))
 ·try simp only [OpK_eq, HKv, hself, hset, go_sem]
  iterate 6 (try refine ⟨by omega, ?_⟩)
  exact Kv.Fin.now (hK _ _ (Int.emod_nonneg _ (by omega)) (fun h' => Int.emod_lt_of_pos _ (by omega)) ⟨p, x1, hself _, hp⟩ (Kept.set _) (by simp))
theorem getD_memD {l : List Int} {i : Nat} (h : i < l.length) : l.getD i 0 ∈ l := by
 rw [List.getD_eq_getElem?_getD, List.getElem?_eq_getElem h]; exact List.getElem_mem _
theorem p58 {l : List Int} (hl : Byt l) {σ : Heap} {b : Nat} (hS : Src σ b l) (L : List Int) (h0 : 1 ≤ L.length ∧ L.length ≤ 1000) {id ver : Nat} {e : TypeId} (hid : σ[id]? = some (.arr ver e 1 (ints L))) (hne : id ≠ b) (k : Nat) (hk : k = L.length) {K : PV → Heap → Prop}
  (hK : ∀ (r : Int) σ', r ∈ L → Src σ' b l → Kept σ σ' b → σ'.length = σ.length → K (.int .i64 r) σ') : ACall Tryz.prog 58 [.ptr b 0, .ref id ver 0 k] σ K := by
 subst hk
 refine e58 (by simp) fun _ _ => ?_
 simp only [k58, argEnv, go_sem]
 try simp only [OpK_eq, HKv, hid, go_sem]
 refine p56 hl hS _ fun r σ' h1 h2 h3 h4 h5 => ?_
 have hid2 := (h4.2 id (List.getElem?_eq_some_iff.1 hid).1 hne).trans hid
 have hrl := h2 (by omega)
 try simp only [OpK_eq, HKv, hid2, go_sem]
 exact ⟨by omega, by omega, fun _ => Kv.Fin.now (hK _ σ' (getD_memD (by omega)) h3 h4 h5)⟩
theorem p55 {l : List Int} (hl : Byt l) {K : PV → Heap → Prop} (hK : ∀ h, K (.ptr 0 0) [srcO l 0 h]) : ACall Tryz.prog 55 [.list (u8s l)] [] K := by
 have hll := hl.1
 refine e55 (by simp) fun _ _ => ?_
 simp only [k55, argEnv, aWrapU, go_sem]
 generalize IntKind.u64.wrap _ = h0
 refine KL_ind k55_b0.eq_1 (fun y : Nat × Int × PV × PV => [(0, .list (u8s l)), (3, .ptr 0 0), (4, .int .i64 y.1), (17, y.2.2.1), (18, y.2.2.2)]) (fun y => [srcO l 0 y.2.1]) (fun y => y.1 ≤ l.length) (fun y => l.length - y.1) [0, 3, 4, 17, 18] (0, h0, .undef, .undef) (by simp [keep]) (by rfl) (Nat.zero_le _) fun ⟨k, h, v1, v2⟩ hk ih => ?_
 simp only at hk
 have hb : ∀ h, [srcO l 0 h][0]? = some (.box [.list (u8s l), .int .i64 (0 : Nat), .int .u64 h]) := fun h => rfl
 have hset : ∀ o o' : AObj, [o].set 0 o' = [o'] := fun o o' => rfl
 try simp only [OpK_eq, HKv, hb, hset, put3, aWrapU, go_sem]
 refine ⟨fun h1 => ⟨fun h2 => ⟨h1, fun y hy => ?_⟩, fun h2 => Kv.Fin.now (hK h)⟩, fun h1 => Kv.Fin.now (hK h)⟩
 have hkl : k < l.length := by omega
 rw [u8s_getD hkl] at hy; cases hy
 have hcs : (PV.int .u8 l[k]).cs = [.int .u8 l[k]] := rfl
 rw [hcs]
 refine ⟨rfl, by simp, fun c hc => ?_⟩
 simp only [List.getElem?_cons_zero, Option.some.injEq] at hc
 subst hc
 try simp only [OpK_eq, HKv, hb, hset, put3, aWrapU, go_sem]
 iterate 4 (try refine ⟨by omega, ?_⟩)
 exact ih (k + 1, _, _, _) (by show k + 1 ≤ l.length; omega) (by show l.length - (k + 1) < l.length - k; omega) _ _ (by simp [keep]; exact ⟨rfl, rfl⟩) rfl
end Go.Proofs.YthbbjbfbeaiphaaGreat
end
section
namespace Go.Proofs.YthbbjbfbeaiphaaGreat
open Go.Kv
set_option maxRecDepth 100000
abbrev k57_b0s0 : KT := (.op (oP 28 (.app (.t 24) (.t 27) 2 1)) (.op (mV 5 28) .fin))
abbrev k57_b0s1 : KT := (.op (oP 24 (.app (.t 21) (.t 23) 2 1)) k57_b0s0)
abbrev k57_b0s2 : KT := (.alt (.op (oP 24 (.app (.t 21) (.t 23) 2 1)) (.op (oP 27 (.sls 1 (.t 25) (some (.t 26)) none)) k57_b0s0)) (.op (oP 27 (.sls 1 (.t 25) (some (.t 26)) none)) k57_b0s1))
abbrev k57_b0s3 : KT := (.op (oP 23 (.bsl true 2 1 [(.t 22)])) k57_b0s1)
abbrev k57_b0s4 : KT := (.op (oP 21 (.call (fC 105) [(.t 20)])) k57_b0s1)
abbrev k57_b0s5 : KT := (.alt (.op (oP 21 (.call (fC 105) [(.t 20)])) k57_b0s2) (.op (oP 27 (.sls 1 (.t 25) (some (.t 26)) none)) k57_b0s4))
abbrev k57_b0s6 : KT := (.alt (.op (oP 21 (.call (fC 105) [(.t 20)])) k57_b0s3) (.op (oP 23 (.bsl true 2 1 [(.t 22)])) k57_b0s4))
abbrev k57_b0s7 : KT := (.op (oP 20 (.sls 1 (.t 18) none (some (.t 19)))) k57_b0s4)
def k57_b0 : KC := (.seq (.seq (.ops [mV 9 6, mV 10 1, oP 11 (.bin .lss (.t 9) (.t 10))])
 (.cond (.t 11) .skip (.exit 0)))
 (.seq (.block 1 (.seq (.ops [mV 14 0, mV 15 6, oP 16 (.bin .add (.t 15) (iC 1)), oP 17 (.call (fC 56) [(.t 14), (.t 16)]), mV 7 17])
 (.tree (.op (mV 18 5) (.op (mV 19 7) (.op (mV 22 6) (.op (mV 25 5) (.op (mV 26 7) (.alt (.op (oP 20 (.sls 1 (.t 18) none (some (.t 19)))) (.alt (.op (oP 21 (.call (fC 105) [(.t 20)])) (.alt (.op (oP 23 (.bsl true 2 1 [(.t 22)])) k57_b0s2) (.op (oP 27 (.sls 1 (.t 25) (some (.t 26)) none)) k57_b0s3))) (.alt (.op (oP 23 (.bsl true 2 1 [(.t 22)])) k57_b0s5) (.op (oP 27 (.sls 1 (.t 25) (some (.t 26)) none)) k57_b0s6)))) (.alt (.op (oP 23 (.bsl true 2 1 [(.t 22)])) (.alt (.op (oP 20 (.sls 1 (.t 18) none (some (.t 19)))) k57_b0s5) (.op (oP 27 (.sls 1 (.t 25) (some (.t 26)) none)) k57_b0s7))) (.op (oP 27 (.sls 1 (.t 25) (some (.t 26)) none)) (.alt (.op (oP 20 (.sls 1 (.t 18) none (some (.t 19)))) k57_b0s6) (.op (oP 23 (.bsl true 2 1 [(.t 22)])) k57_b0s7)))))))))))))
 (.ops [mV 12 6, oP 13 (.bin .add (.t 12) (iC 1)), mV 6 13])))
def k57 : KC := (.seq (.ops [oP 4 (.mv (.c (.nils)))])
 (.seq (.ops [oP 8 (.bsl false 2 1 []), mV 5 8])
 (.seq (.seq (.ops [oP 6 (.mv (iC 0))])
 (.block 0 (.loop k57_b0)))
 (.seq (.ops [mV 29 5, mV 4 29])
 .ret))))
theorem e57 : Ent 57 30 [23] [.t 4] k57 := ent Tryz.func57 (by kernel_rfl) (by kernel_rfl) (by kernel_rfl) (fun _ => by kernel_rfl) (by kernel_rfl)
end Go.Proofs.YthbbjbfbeaiphaaGreat
namespace Go.Proofs.YthbbjbfbeaiphaaGreat
open Go.Kv
set_option linter.unusedVariables false
set_option linter.unusedSimpArgs false
attribute [local irreducible] ACall PCall KL
theorem Src.keep {σ σ' : Heap} {b : Nat} {l : List Int} (h : Src σ b l) (hk : σ'[b]? = σ[b]?) : Src σ' b l := by
 obtain ⟨p, x, h, h2⟩ := h
 exact ⟨p, x, hk.trans h, h2⟩
theorem p57S {l : List Int} (hl : Byt l) {σ : Heap} {b : Nat} (hS : Src σ b l) (n : Nat) (hn : n ≤ 1000) {K : PV → Heap → Prop}
    (hK : ∀ (L : List Int) id ver σ', L.length = n → ((∀ x ∈ L, 0 ≤ x ∧ x < n) ∧ L.Nodup) → Src σ' b l → Kept σ σ' b → σ.length ≤ id → σ'[id]? = some (.arr ver 2 1 (ints L)) → K (.ref id ver 0 n) σ') : ACall Tryz.prog 57 [.ptr b 0, .int .i64 n] σ K := by
  have hlt := hS.lt
  refine e57 (by simp) fun _ _ => ?_
  simp only [k57, argEnv, go_sem]
  refine KL_ind k57_b0.eq_1 (fun y : Nat × List Int × Nat × Nat × Heap => [(0, .ptr b 0), (1, .int .i64 n), (5, .ref y.2.2.1 y.2.2.2.1 0 y.1), (6, .int .i64 y.1)]) (fun y => y.2.2.2.2) (fun y => y.1 ≤ n ∧ y.2.1.length = y.1 ∧ ((∀ x ∈ y.2.1, 0 ≤ x ∧ x < y.1) ∧ y.2.1.Nodup) ∧ Src y.2.2.2.2 b l ∧ Kept σ y.2.2.2.2 b ∧ σ.length ≤ y.2.2.1 ∧ y.2.2.2.2[y.2.2.1]? = some (.arr y.2.2.2.1 2 1 (ints y.2.1))) (fun y => n - y.1) [0, 1, 5, 6] (0, [], σ.length, 0, σ ++ [.arr 0 2 1 []]) (by simp [keep]) rfl ⟨Nat.zero_le _, rfl, ⟨by simp, by simp⟩, hS.app _, Kept.app _ _ _, Nat.le_refl _, by simp; rfl⟩ fun ⟨k, L, id, ver, τ⟩ ⟨hk, hLl, ⟨hLx, hLn⟩, hS1, hKp, hid1, hid⟩ ih => ?_
  simp only at hk hLl hLx hLn hS1 hKp hid1 hid
  try simp only [OpK_eq, HKv, go_sem]
  refine ⟨fun h1 => ⟨by omega, ?_⟩, fun h1 => ?_⟩
  · refine p56 hl hS1 _ fun r τ' h2 h3 h4 h5 h6 => ?_
    have h3 := h3 (by omega)
    have hne : id ≠ b := by omega
    have hid2 := (h5.2 id (List.getElem?_eq_some_iff.1 hid).1 hne).trans hid
    have hlt2 := (List.getElem?_eq_some_iff.1 hid2).1
    have hap : ∀ X, (τ' ++ X)[id]? = some (.arr ver 2 1 (ints L)) := fun X => (List.getElem?_append_left hlt2).trans hid2
    try simp only [OpK_eq, HKv, hid2, hap, go_sem]
    have hr0 : ((k : Int) + 1) = ((k + 1 : Nat) : Int) := by omega
    have hrk : r.toNat ≤ k := by omega
    have hri : (r.toNat : Int) = r := by omega
    have hLk : L.length = k := hLl
    have htl : (L.take r.toNat).length = r.toNat := by rw [List.length_take]; omega
    have himm : Imm τ' (.ref id ver 0 (r.toNat - 0)) (.list (ints (L.take r.toNat))) := by
      refine Imm.refp (pre := []) (l := L.take r.toNat) (post := L.drop r.toNat) (by rw [List.nil_append, List.take_append_drop]; exact hid2) (by rw [htl]; rfl) rfl
    have hs0 : ∀ (x y : AObj), (τ' ++ [x]).set τ'.length y = τ' ++ [y] := fun x y => by
      rw [List.set_append_right _ _ (Nat.le_refl _)]; simp
    have ht0 : ∀ (x : AObj), (τ' ++ [x])[τ'.length]? = some x := fun x => by simp
    have e1 : List.take (r.toNat + 1) (List.take r.toNat (List.take r.toNat L) ++ [(k : Int)]) = L.take r.toNat ++ [(k : Int)] := by
      rw [List.take_take, Nat.min_self, List.take_of_length_le (by rw [List.length_append, htl]; exact Nat.le_refl _)]
    have e2 : List.take (k - r.toNat) (List.drop r.toNat L) = L.drop r.toNat := List.take_of_length_le (by rw [List.length_drop]; omega)
    have e3 : (L.take r.toNat ++ [(k : Int)]) ++ L.drop r.toNat = L.take r.toNat ++ (k : Int) :: L.drop r.toNat := by simp
    have e4 : r.toNat + 1 + (L.drop r.toNat).length = k + 1 := by rw [List.length_drop]; omega
    have hx2 : ∀ x ∈ L.take r.toNat ++ (k : Int) :: L.drop r.toNat, 0 ≤ x ∧ x < (k + 1 : Nat) := fun x hx => by
      rcases List.mem_append.1 hx with hx | hx
      · have := hLx x (List.mem_of_mem_take hx); omega
      · rcases List.mem_cons.1 hx with rfl | hx
        · omega
        · have := hLx x (List.mem_of_mem_drop hx); omega
    have hnd2 : (L.take r.toNat ++ (k : Int) :: L.drop r.toNat).Nodup := by
      refine List.perm_middle.nodup_iff.2 (List.nodup_cons.2 ⟨fun h => ?_, by rw [List.take_append_drop]; exact hLn⟩)
      rw [List.take_append_drop] at h
      have := hLx _ h; omega
    repeat' (first
      | omega
      | (rw [vT_alt]; refine ⟨?_, ?_⟩)
      | (refine ACall.lend (p105 (L.take r.toNat) (by rw [htl]; omega)) (.cons himm (.nil _)) fun v s hv => ?_
         obtain ⟨rfl, rfl⟩ := hv
         refine ⟨⟨free_ref _ _ _ _, Free.ints _ _ _ _⟩, ?_⟩)
      | (with_reducible refine And.intro ?_ ?_)
      | (simp only [OpK_eq, HKv, hid2, hap, hs0, ht0, htl, ren_ref, ren_arr, ren_ints, Nat.zero_add, List.map_cons, List.map_nil, go_sem]))
    all_goals (try (first | (show _ ≤ _; simp only [List.length_take, List.length_drop, List.length_append, List.length_singleton]; omega)))
    all_goals (rw [e1, e2, e3, e4])
    all_goals exact ih (k + 1, L.take r.toNat ++ (k : Int) :: L.drop r.toNat, τ'.length, 3, _) ⟨by show k + 1 ≤ n; omega, by show (L.take r.toNat ++ (k : Int) :: L.drop r.toNat).length = k + 1; rw [List.length_append, List.length_cons, List.length_drop, htl]; omega, ⟨hx2, hnd2⟩, h4.app _, (hKp.trans h5).trans (Kept.app _ _ _), by show σ.length ≤ τ'.length; have := hKp.1; omega, ht0 _⟩ (by show n - (k + 1) < n - k; omega) _ _ (by simp [keep]) rfl
  · obtain rfl : k = n := by omega
    exact Kv.Fin.now (hK L id ver τ hLl ⟨hLx, hLn⟩ hS1 hKp hid1 hid)
theorem p57 {l : List Int} (hl : Byt l) {σ : Heap} {b : Nat} (hS : Src σ b l) (n : Nat) (hn : n ≤ 5) {K : PV → Heap → Prop}
  (hK : ∀ (L : List Int) id ver σ', L.length = n → (∀ x ∈ L, 0 ≤ x ∧ x < n) → Src σ' b l → Kept σ σ' b → σ.length ≤ id → σ'[id]? = some (.arr ver 2 1 (ints L)) → K (.ref id ver 0 n) σ') : ACall Tryz.prog 57 [.ptr b 0, .int .i64 n] σ K :=
 p57S hl hS n (by omega) fun L id ver σ' h1 h2 h3 h4 h5 h6 => hK L id ver σ' h1 h2.1 h3 h4 h5 h6
end Go.Proofs.YthbbjbfbeaiphaaGreat
end
