/- Tables: what a table is, by both sides; searching by a predicate. -/
import Derived.Test.YtpkddcjecfogeaaCb
import Derived.Test.YtpkddcjecfogeaaT
import Derived.Test.YtpkddcjecfogeaaA
import Derived.Test.YtpkddcjecfogeaaSq
namespace Go.Proofs.Ytpkddcjecfogeaa
open Go.Kv
set_option maxRecDepth 100000
/- slices.ContainsFunc[[][]int64,[]int64] -/
def k92 : KC := (.seq (.ops [⟨(some 4), none, .mv (.c (.bool false))⟩])
  (.seq (.ops [⟨(some 5), none, .mv (.t 0)⟩, ⟨(some 6), none, .mv (.t 1)⟩, ⟨(some 7), none, .call (.c (.fn (.func 139) [] [])) [(.t 5), (.t 6)]⟩, ⟨(some 8), none, .bin .geq (.t 7) (.c (.int .i64 0))⟩, ⟨(some 4), none, .mv (.t 8)⟩])
  .ret))
theorem e92 {args : List PV} {σ : Heap} {K : PV → Heap → Prop} (hl : args.length ≤ 9) (h : Wf σ → (∀ a ∈ args, PV.upto σ.length a) → vc (mkCfg Try.prog mixed [] 9 σ.length) k92 (FinK σ.length [.t 4] K) (argEnv 0 args) σ) : ACall Try.prog 92 args σ K :=
  ACall_enter (C := mkCfg Try.prog mixed [] 9 σ.length) (c := Try.f92.body.getD .skip) Try.func92 (by kernel_rfl) (by kernel_rfl) (by kernel_rfl) rfl hl (by kernel_rfl) (by kernel_rfl) h
/- slices.IndexFunc[[]int64,int64] -/
/- live [0, 1, 7, 8] -/
def k152_b0 : KC := (.seq (.ops [⟨(some 9), none, .bin .lss (.t 8) (.t 7)⟩])
  (.seq (.cond (.t 9) .skip (.exit 0))
  (.seq (.block 1 (.seq (.ops [⟨(some 10), none, .mv (.t 8)⟩, ⟨(some 5), none, .mv (.t 10)⟩])
  (.seq (.ops [⟨(some 11), none, .mv (.t 1)⟩, ⟨(some 12), none, .mv (.t 0)⟩, ⟨(some 13), none, .mv (.t 5)⟩, ⟨(some 14), none, .idxS 1 (.t 12) (.t 13)⟩, ⟨(some 15), none, .load false 1 (.t 14)⟩, ⟨(some 16), none, .call (.t 11) [(.t 15)]⟩])
  (.cond (.t 16) (.seq (.ops [⟨(some 17), none, .mv (.t 5)⟩, ⟨(some 4), none, .mv (.t 17)⟩])
  .ret) .skip))))
  (.ops [⟨(some 18), none, .bin .add (.t 8) (.c (.int .i64 1))⟩, ⟨(some 8), none, .mv (.t 18)⟩]))))
def k152 : KC := (.seq (.ops [⟨(some 4), none, .mv (.c (.int .i64 0))⟩])
  (.seq (.seq (.ops [⟨(some 6), none, .mv (.t 0)⟩, ⟨(some 7), none, .len false (.t 6)⟩, ⟨(some 8), none, .mv (.c (.int .i64 0))⟩])
  (.block 0 (.loop k152_b0)))
  (.seq (.ops [⟨(some 4), none, .mv (.c (.int .i64 (-1)))⟩])
  .ret)))
theorem e152 {args : List PV} {σ : Heap} {K : PV → Heap → Prop} (hl : args.length ≤ 19) (h : Wf σ → (∀ a ∈ args, PV.upto σ.length a) → vc (mkCfg Try.prog mixed [] 19 σ.length) k152 (FinK σ.length [.t 4] K) (argEnv 0 args) σ) : ACall Try.prog 152 args σ K :=
  ACall_enter (C := mkCfg Try.prog mixed [] 19 σ.length) (c := Try.f152.body.getD .skip) Try.func152 (by kernel_rfl) (by kernel_rfl) (by kernel_rfl) rfl hl (by kernel_rfl) (by kernel_rfl) h
/- slices.IndexFunc[[][]int64,[]int64] -/
/- live [0, 1, 7, 8] -/
def k139_b0 : KC := (.seq (.ops [⟨(some 9), none, .bin .lss (.t 8) (.t 7)⟩])
  (.seq (.cond (.t 9) .skip (.exit 0))
  (.seq (.block 1 (.seq (.ops [⟨(some 10), none, .mv (.t 8)⟩, ⟨(some 5), none, .mv (.t 10)⟩])
  (.seq (.ops [⟨(some 11), none, .mv (.t 1)⟩, ⟨(some 12), none, .mv (.t 0)⟩, ⟨(some 13), none, .mv (.t 5)⟩, ⟨(some 14), none, .idxS 1 (.t 12) (.t 13)⟩, ⟨(some 15), none, .load false 1 (.t 14)⟩, ⟨(some 16), none, .call (.t 11) [(.t 15)]⟩])
  (.cond (.t 16) (.seq (.ops [⟨(some 17), none, .mv (.t 5)⟩, ⟨(some 4), none, .mv (.t 17)⟩])
  .ret) .skip))))
  (.ops [⟨(some 18), none, .bin .add (.t 8) (.c (.int .i64 1))⟩, ⟨(some 8), none, .mv (.t 18)⟩]))))
def k139 : KC := (.seq (.ops [⟨(some 4), none, .mv (.c (.int .i64 0))⟩])
  (.seq (.seq (.ops [⟨(some 6), none, .mv (.t 0)⟩, ⟨(some 7), none, .len false (.t 6)⟩, ⟨(some 8), none, .mv (.c (.int .i64 0))⟩])
  (.block 0 (.loop k139_b0)))
  (.seq (.ops [⟨(some 4), none, .mv (.c (.int .i64 (-1)))⟩])
  .ret)))
theorem e139 {args : List PV} {σ : Heap} {K : PV → Heap → Prop} (hl : args.length ≤ 19) (h : Wf σ → (∀ a ∈ args, PV.upto σ.length a) → vc (mkCfg Try.prog mixed [] 19 σ.length) k139 (FinK σ.length [.t 4] K) (argEnv 0 args) σ) : ACall Try.prog 139 args σ K :=
  ACall_enter (C := mkCfg Try.prog mixed [] 19 σ.length) (c := Try.f139.body.getD .skip) Try.func139 (by kernel_rfl) (by kernel_rfl) (by kernel_rfl) rfl hl (by kernel_rfl) (by kernel_rfl) h
end Go.Proofs.Ytpkddcjecfogeaa
namespace Go.Proofs.Ytpkddcjecfogeaa
open Go.Kv
set_option linter.unusedVariables false
set_option linter.unusedSimpArgs false
attribute [local irreducible] ACall PCall KL
/-- A row is one of a table of n: its length, its members. -/
def rowOk (n : Nat) (r : List Int) : Bool := decide (r.length = n) && r.all fun x => decide (0 ≤ x ∧ x ≤ (n : Int) - 1)
def isTab (t : List (List Int)) : Bool := decide (1 ≤ t.length ∧ t.length ≤ 40) && t.all (rowOk t.length)
theorem Imm.boxi {σ : Heap} {id : Nat} {n : Int} (h : σ[id]? = some (.box [.int .i64 n])) : Imm σ (.ptr id 0) (.fptr [.int .i64 n] 0) := .ptr id 0 [.int .i64 n] [.int .i64 n] h rfl rfl (fun i c d h1 h2 => by
  rw [h1] at h2; cases h2
  have := List.mem_of_getElem? h1
  simp at this; subst this
  exact .int _ _ _)
theorem up_fi (n : Int) : ∀ c ∈ [PV.fptr [.int .i64 n] 0], PV.upto 0 c := up1 (upto_fptr 0 0 fun c hc => by simp at hc; subst hc; exact .int _ _)
theorem p152 (l : List Int) (hl : l.length ≤ 4294967296) (fid : FuncId) (caps : List PV) (hc : ∀ c ∈ caps, PV.upto 0 c) (p : Int → Bool) (hp : ∀ x ∈ l, Pure Try.prog fid (.int .i64 x :: caps) (.bool (p x))) :
    Pure Try.prog 152 [.list (ints l), .fn (.func fid) [] caps] (.int .i64 (idx p l)) := by
  refine e152 (by simp) fun _ _ => ?_
  simp only [k152, argEnv, go_sem, ↓reduceIte, Nat.reduceEqDiff, Nat.reduceAdd, reduceCtorEq]
  refine KL_ind k152_b0.eq_1 (fun x : Nat => [(8, .int .i64 x), (7, .int .i64 l.length), (0, .list (ints l)), (1, .fn (.func fid) [] caps)]) (fun _ => []) (fun x => x ≤ l.length ∧ (l.take x).any p = false) (fun x => l.length - x) [8, 7, 0, 1] 0 rfl rfl ⟨Nat.zero_le _, by simp⟩ fun x ⟨hx, hall⟩ ih => ?_
  simp only [go_sem, ↓reduceIte, Nat.reduceEqDiff, Nat.reduceAdd, reduceCtorEq]
  refine ⟨fun h1 => ⟨by omega, fun h2 => ?_⟩, fun h1 => ?_⟩
  · rw [getD_eq h2]
    refine (hp _ (List.getElem_mem h2)).use (.bool _) (.cons (.int _ _ _) (up_self hc)) ?_
    simp only [go_sem, ↓reduceIte, Nat.reduceEqDiff, Nat.reduceAdd, reduceCtorEq]
    refine ⟨fun h3 => ?_, fun h3 => ⟨by omega, ?_⟩⟩
    · exact Kv.Fin.now ⟨by rw [idx_some h2 hall h3], rfl⟩
    · refine ih (x + 1) ⟨by omega, ?_⟩ (by omega) _ _ rfl rfl
      rw [any_take_succ _ h2, hall, h3]; rfl
  · obtain rfl : x = l.length := by omega
    rw [List.take_length] at hall
    exact Kv.Fin.now ⟨by rw [idx_none hall], rfl⟩
theorem p139 (l : List (List Int)) (hl : l.length ≤ 4294967296) (fid : FuncId) (caps : List PV) (hc : ∀ c ∈ caps, PV.upto 0 c) (p : List Int → Bool) (hp : ∀ x ∈ l, Pure Try.prog fid (.list (ints x) :: caps) (.bool (p x))) :
    Pure Try.prog 139 [.list (rows l), .fn (.func fid) [] caps] (.int .i64 (idx p l)) := by
  refine e139 (by simp) fun _ _ => ?_
  simp only [k139, argEnv, go_sem, ↓reduceIte, Nat.reduceEqDiff, Nat.reduceAdd, reduceCtorEq]
  refine KL_ind k139_b0.eq_1 (fun x : Nat => [(8, .int .i64 x), (7, .int .i64 l.length), (0, .list (rows l)), (1, .fn (.func fid) [] caps)]) (fun _ => []) (fun x => x ≤ l.length ∧ (l.take x).any p = false) (fun x => l.length - x) [8, 7, 0, 1] 0 rfl rfl ⟨Nat.zero_le _, by simp⟩ fun x ⟨hx, hall⟩ ih => ?_
  simp only [go_sem, ↓reduceIte, Nat.reduceEqDiff, Nat.reduceAdd, reduceCtorEq]
  refine ⟨fun h1 => ⟨by omega, fun h2 => ?_⟩, fun h1 => ?_⟩
  · rw [getD_eq h2]
    refine (hp _ (List.getElem_mem h2)).use (.bool _) (.cons (.listi _ _) (up_self hc)) ?_
    simp only [go_sem, ↓reduceIte, Nat.reduceEqDiff, Nat.reduceAdd, reduceCtorEq]
    refine ⟨fun h3 => ?_, fun h3 => ⟨by omega, ?_⟩⟩
    · exact Kv.Fin.now ⟨by rw [idx_some h2 hall h3], rfl⟩
    · refine ih (x + 1) ⟨by omega, ?_⟩ (by omega) _ _ rfl rfl
      rw [any_take_succ _ h2, hall, h3]; rfl
  · obtain rfl : x = l.length := by omega
    rw [List.take_length] at hall
    exact Kv.Fin.now ⟨by rw [idx_none hall], rfl⟩
theorem p92 (l : List (List Int)) (hl : l.length ≤ 4294967296) (fid : FuncId) (caps : List PV) (hc : ∀ c ∈ caps, PV.upto 0 c) (p : List Int → Bool) (hp : ∀ x ∈ l, Pure Try.prog fid (.list (ints x) :: caps) (.bool (p x))) :
    Pure Try.prog 92 [.list (rows l), .fn (.func fid) [] caps] (.bool (l.any p)) := by
  refine e92 (by simp) fun _ _ => ?_
  simp only [k92, argEnv, go_sem, ↓reduceIte, Nat.reduceEqDiff, Nat.reduceAdd, reduceCtorEq]
  refine (p139 l hl fid caps hc p hp).use (.int _ _) (.cons (.listr _ _) (.cons (Imm.fnc _ (up_self hc)) (.nil _))) ?_
  simp only [go_sem, ↓reduceIte, Nat.reduceEqDiff, Nat.reduceAdd, reduceCtorEq]
  exact Kv.Fin.now ⟨by rw [idx_nonneg], rfl⟩
end Go.Proofs.Ytpkddcjecfogeaa
