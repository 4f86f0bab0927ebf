/- The idempotents of a table: points, deletion, both sides. -/
import Derived.Test.YtkljidghocnllaaCb
import Derived.Test.YtkljidghocnllaaT3
import Derived.Test.YtkljidghocnllaaO
namespace Go.Proofs.Ytkljidghocnllaa
open Go.Kv
set_option maxRecDepth 100000
/- impl.points -/
/- live [3, 5, 6] -/
def k96_b0 : KC := (.seq (.ops [⟨(some 7), none, .bin .lss (.t 6) (.t 5)⟩])
  (.seq (.cond (.t 7) .skip (.exit 0))
  (.seq (.block 1 (.seq (.ops [⟨(some 8), none, .mv (.t 6)⟩, ⟨(some 4), none, .mv (.t 8)⟩])
  (.ops [⟨(some 9), none, .mv (.t 3)⟩, ⟨(some 10), none, .mv (.t 4)⟩, ⟨(some 11), none, .bsl true 2 1 [(.t 10)]⟩, ⟨(some 12), none, .app (.t 9) (.t 11) 2 1⟩, ⟨(some 3), none, .mv (.t 12)⟩])))
  (.ops [⟨(some 13), none, .bin .add (.t 6) (.c (.int .i64 1))⟩, ⟨(some 6), none, .mv (.t 13)⟩]))))
def k96 : KC := (.seq (.ops [⟨(some 2), none, .mv (.c (.nils))⟩])
  (.seq (.ops [⟨(some 3), none, .mv (.c (.nils))⟩])
  (.seq (.seq (.ops [⟨(some 5), none, .mv (.t 0)⟩, ⟨(some 6), none, .mv (.c (.int .i64 0))⟩])
  (.block 0 (.loop k96_b0)))
  (.seq (.ops [⟨(some 14), none, .mv (.t 3)⟩, ⟨(some 2), none, .mv (.t 14)⟩])
  .ret))))
theorem e96 {args : List PV} {σ : Heap} {K : PV → Heap → Prop} (hl : args.length ≤ 15) (h : Wf σ → (∀ a ∈ args, PV.upto σ.length a) → vc (mkCfg Try.prog mixed [11] 15 σ.length) k96 (FinK σ.length [.t 2] K) (argEnv 0 args) σ) : ACall Try.prog 96 args σ K :=
  ACall_enter (C := mkCfg Try.prog mixed [11] 15 σ.length) (c := Try.f96.body.getD .skip) Try.func96 (by kernel_rfl) (by kernel_rfl) (by kernel_rfl) rfl hl (by kernel_rfl) (by kernel_rfl) h
end Go.Proofs.Ytkljidghocnllaa
namespace Go.Proofs.Ytkljidghocnllaa
open Go.Kv
set_option linter.unusedVariables false
set_option linter.unusedSimpArgs false
attribute [local irreducible] ACall PCall KL
/-- The numbers below n. -/
def pts (n : Nat) : List Int := mk n fun i => (i : Int)
theorem p96 (n : Nat) (hn : 1 ≤ n ∧ n ≤ 4294967296) : ACall Try.prog 96 [.int .i64 n] [] (fun v s => v = .ref 0 (n - 1) 0 (pts n).length ∧ s = [.arr (n - 1) 2 1 (ints (pts n))]) := by
  refine e96 (by simp) fun _ _ => ?_
  simp only [k96, argEnv, go_sem, ↓reduceIte, Nat.reduceEqDiff, Nat.reduceAdd, reduceCtorEq]
  refine KL_ind k96_b0.eq_1 (fun x : Nat => [(6, .int .i64 x), (5, .int .i64 n), (3, if x = 0 then .nils else .ref 0 (x - 1) 0 x)]) (fun x => if x = 0 then [] else [.arr (x - 1) 2 1 (ints (pts x))]) (fun x => x ≤ n) (fun x => n - x) [6, 5, 3] 0 rfl (by simp) (Nat.zero_le _) fun x hi ih => ?_
  simp only [go_sem, ↓reduceIte, Nat.reduceEqDiff, Nat.reduceAdd, reduceCtorEq]
  refine ⟨fun hx => ?_, fun hx => ?_⟩
  · rcases x with _ | x
    · simp only [go_sem, ↓reduceIte, Nat.reduceEqDiff, Nat.reduceAdd, reduceCtorEq]
      repeat' (first | refine And.intro ?_ ?_ | intro _)
      all_goals (try omega)
      refine ih 1 (by omega) (by omega) _ _ ?_ ?_
      · simp [keep]
      · simp [pts, mk, ints]
    · have hne : ¬ (x + 1 = 0) := by omega
      simp only [hne, if_false, Nat.add_sub_cancel]
      simp only [go_sem, ↓reduceIte, Nat.reduceEqDiff, Nat.reduceAdd, reduceCtorEq]
      have hl : (pts (x + 1)).length = x + 1 := by simp [pts]
      repeat' (first | refine And.intro ?_ ?_ | intro _)
      all_goals (try omega)
      refine ih (x + 1 + 1) (by omega) (by omega) _ _ ?_ ?_
      · simp [keep]
      · rw [List.take_of_length_le (by omega)]
        have := mk_succ (x + 1) fun i => (i : Int)
        simp only [pts] at this ⊢
        rw [this]
        rfl
  · obtain rfl : x = n := by omega
    have hne : ¬ (x = 0) := by omega
    simp only [hne, if_false]
    simp only [go_sem, ↓reduceIte, Nat.reduceEqDiff, Nat.reduceAdd, reduceCtorEq]
    refine Kv.Fin.now ⟨?_, rfl⟩
    simp [pts]
def isI (t : List (List Int)) (v : Int) : Bool := decide (tat t v.toNat v.toNat = v)
def idl (t : List (List Int)) (x : Nat) : List Int := (pts x).filter (isI t)
theorem idl_succ (t : List (List Int)) (x : Nat) : idl t (x + 1) = idl t x ++ (if tat t x x = x then [(x : Int)] else []) := by
  simp only [idl, pts, mk_succ, List.filter_append]
  congr 1
  by_cases h : tat t x x = x <;> simp [isI, h]
theorem idl_len (t : List (List Int)) (x : Nat) : (idl t x).length ≤ x := by
  have := List.length_filter_le (isI t) (pts x)
  simpa [idl, pts] using this
theorem upto_fptr' {cs : List PV} (o : Nat) (h : ∀ c ∈ cs, PV.upto 0 c) : PV.upto 0 (.fptr cs o) := fun φ ι v hr => by
  cases hr with
  | fptr _ _ b o' C hb hok g hg hh => exact .fptr cs o b o' C hb hok g hg fun j c hc => h c (List.mem_of_getElem? hc) _ _ _ (hh j c hc)
theorem up_rows (t : List (List Int)) : ∀ c ∈ [PV.fptr [.list (rows t)] 0], PV.upto 0 c := up1 (upto_fptr' 0 (up1 (upto_rows 0 t)))
end Go.Proofs.Ytkljidghocnllaa
