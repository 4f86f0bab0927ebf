/- Tables: what a table is, by both sides; searching by a predicate. -/
import Derived.Test.YtkljidghocnllaaT2c
import Derived.Test.YtkljidghocnllaaT
import Derived.Test.YtkljidghocnllaaA
import Derived.Test.YtkljidghocnllaaSq
namespace Go.Proofs.Ytkljidghocnllaa
open Go.Kv
set_option linter.unusedVariables false
set_option linter.unusedSimpArgs false
attribute [local irreducible] ACall PCall KL
/-- A row is one of a table of n: its length, its members. -/
def rowOk (n : Nat) (r : List Int) : Bool := decide (r.length = n) && r.all fun x => decide (0 ≤ x ∧ x ≤ (n : Int) - 1)
def isTab (t : List (List Int)) : Bool := decide (1 ≤ t.length ∧ t.length ≤ 40) && t.all (rowOk t.length)
theorem p66 (t : List (List Int)) (ht : t.length ≤ 1048576) (hl : ∀ r ∈ t, r.length ≤ 1048576) : Pure Try.prog 66 [.list (rows t)] (.bool (isTab t)) := by
  refine e66 (by simp) fun _ _ => ?_
  simp only [k66, argEnv, go_sem, ↓reduceIte, Nat.reduceEqDiff, Nat.reduceAdd, reduceCtorEq]
  by_cases h0 : (t.length : Int) < 1
  · have : isTab t = false := by simp [isTab]; omega
    simp only [h0, this, decide_true, true_implies, not_true_eq_false, false_implies, and_true]
    repeat' (first | refine And.intro ?_ ?_ | intro _)
    all_goals (try first | exact True.intro | contradiction)
    exact Kv.Fin.now ⟨rfl, rfl⟩
  by_cases h1 : 40 < (t.length : Int)
  · have : isTab t = false := by simp [isTab]; omega
    simp only [h0, h1, this, decide_true, true_implies, not_false_eq_true, not_true_eq_false, false_implies, and_true, true_and]
    exact Kv.Fin.now ⟨rfl, rfl⟩
  simp only [h0, h1, decide_false, not_false_eq_true, true_implies, not_true_eq_false, false_implies, and_true, true_and]
  have hT : isTab t = t.all (rowOk t.length) := by
    have : 1 ≤ t.length ∧ t.length ≤ 40 := by omega
    simp [isTab, this]
  rw [hT]
  refine KL_ind k66_b1.eq_1 (fun x : Nat => [(4, .int .i64 x), (3, .int .i64 t.length), (0, .list (rows t))]) (fun _ => []) (fun x => x ≤ t.length ∧ (t.take x).all (rowOk t.length) = true) (fun x => t.length - x) [4, 3, 0] 0 rfl rfl ⟨Nat.zero_le _, by simp⟩ fun x ⟨hx, hall⟩ ihx => ?_
  simp only [go_sem, ↓reduceIte, Nat.reduceEqDiff, Nat.reduceAdd, reduceCtorEq]
  refine ⟨fun h2 => ⟨by omega, fun h3 => ?_⟩, fun h2 => ?_⟩
  · have hr := getD_eq h3 ([] : List Int)
    rw [hr]
    have hlen := hl _ (List.getElem_mem h3)
    refine ⟨fun h4 => ?_, fun h4 => ?_⟩
    · refine Kv.Fin.now ⟨?_, rfl⟩
      rw [not_all h3 (by simp [rowOk]; omega)]
    · have h4' : t[x].length = t.length := by omega
      refine KL_ind k66_b0.eq_1 (fun y : Nat => [(5, .int .i64 y), (4, .int .i64 x), (3, .int .i64 t.length), (0, .list (rows t))]) (fun _ => []) (fun y => y ≤ t.length ∧ (t[x].take y).all (fun x => decide (0 ≤ x ∧ x ≤ (t.length : Int) - 1)) = true) (fun y => t.length - y) [5, 4, 3, 0] 0 rfl rfl ⟨Nat.zero_le _, by simp⟩ fun y ⟨hy, hyall⟩ ihy => ?_
      simp only [go_sem, ↓reduceIte, Nat.reduceEqDiff, Nat.reduceAdd, reduceCtorEq]
      refine ⟨fun h5 => ⟨by omega, fun h6 => ?_⟩, fun h5 => ?_⟩
      · rw [hr]
        refine ⟨by omega, fun h7 => ?_⟩
        rw [getD_eq h7]
        refine ⟨by omega, ?_⟩
        refine (p102 _ _ _).use (.bool _) (.cons (.int _ _ _) (.cons (.int _ _ _) (.cons (.int _ _ _) (.nil _)))) ?_
        simp only [go_sem, ↓reduceIte, Nat.reduceEqDiff, Nat.reduceAdd, reduceCtorEq]
        refine ⟨fun h8 => ?_, fun h8 => ⟨by omega, ?_⟩⟩
        · refine Kv.Fin.now ⟨?_, rfl⟩
          rw [not_all h3 (by simp only [rowOk]; rw [not_all h7 (by simpa using h8), Bool.and_false])]
        · refine ihy (y + 1) ⟨by omega, ?_⟩ (by omega) _ _ rfl rfl
          rw [all_take_succ _ h7, hyall]
          simpa using h8
      · obtain rfl : y = t.length := by omega
        refine ⟨by omega, ?_⟩
        refine ihx (x + 1) ⟨by omega, ?_⟩ (by omega) _ _ rfl rfl
        rw [all_take_succ _ h3, hall]
        rw [← h4', List.take_length] at hyall
        rw [h4'] at hyall
        simp only [rowOk, h4', decide_true, Bool.true_and, hyall]
  · obtain rfl : x = t.length := by omega
    rw [List.take_length] at hall
    exact Kv.Fin.now ⟨by rw [hall], rfl⟩

theorem Imm.boxi {σ : Heap} {id : Nat} {n : Int} (h : σ[id]? = some (.box [.int .i64 n])) : Imm σ (.ptr id 0) (.fptr [.int .i64 n] 0) := .ptr id 0 [.int .i64 n] [.int .i64 n] h rfl rfl (fun i c d h1 h2 => by
  rw [h1] at h2; cases h2
  have := List.mem_of_getElem? h1
  simp at this; subst this
  exact .int _ _ _)
theorem up_fi (n : Int) : ∀ c ∈ [PV.fptr [.int .i64 n] 0], PV.upto 0 c := up1 (upto_fptr 0 0 fun c hc => by simp at hc; subst hc; exact .int _ _)
theorem p135 (l : List Int) (hl : l.length ≤ 4294967296) (fid : FuncId) (caps : List PV) (hc : ∀ c ∈ caps, PV.upto 0 c) (p : Int → Bool) (hp : ∀ x ∈ l, Pure Try.prog fid (.int .i64 x :: caps) (.bool (p x))) :
    Pure Try.prog 135 [.list (ints l), .fn (.func fid) [] caps] (.int .i64 (idx p l)) := by
  refine e135 (by simp) fun _ _ => ?_
  simp only [k135, argEnv, go_sem, ↓reduceIte, Nat.reduceEqDiff, Nat.reduceAdd, reduceCtorEq]
  refine KL_ind k135_b0.eq_1 (fun x : Nat => [(8, .int .i64 x), (7, .int .i64 l.length), (0, .list (ints l)), (1, .fn (.func fid) [] caps)]) (fun _ => []) (fun x => x ≤ l.length ∧ (l.take x).any p = false) (fun x => l.length - x) [8, 7, 0, 1] 0 rfl rfl ⟨Nat.zero_le _, by simp⟩ fun x ⟨hx, hall⟩ ih => ?_
  simp only [go_sem, ↓reduceIte, Nat.reduceEqDiff, Nat.reduceAdd, reduceCtorEq]
  refine ⟨fun h1 => ⟨by omega, fun h2 => ?_⟩, fun h1 => ?_⟩
  · rw [getD_eq h2]
    refine (hp _ (List.getElem_mem h2)).use (.bool _) (.cons (.int _ _ _) (up_self hc)) ?_
    simp only [go_sem, ↓reduceIte, Nat.reduceEqDiff, Nat.reduceAdd, reduceCtorEq]
    refine ⟨fun h3 => ?_, fun h3 => ⟨by omega, ?_⟩⟩
    · exact Kv.Fin.now ⟨by rw [idx_some h2 hall h3], rfl⟩
    · refine ih (x + 1) ⟨by omega, ?_⟩ (by omega) _ _ rfl rfl
      rw [any_take_succ _ h2, hall, h3]; rfl
  · obtain rfl : x = l.length := by omega
    rw [List.take_length] at hall
    exact Kv.Fin.now ⟨by rw [idx_none hall], rfl⟩
theorem p134 (l : List (List Int)) (hl : l.length ≤ 4294967296) (fid : FuncId) (caps : List PV) (hc : ∀ c ∈ caps, PV.upto 0 c) (p : List Int → Bool) (hp : ∀ x ∈ l, Pure Try.prog fid (.list (ints x) :: caps) (.bool (p x))) :
    Pure Try.prog 134 [.list (rows l), .fn (.func fid) [] caps] (.int .i64 (idx p l)) := by
  refine e134 (by simp) fun _ _ => ?_
  simp only [k134, argEnv, go_sem, ↓reduceIte, Nat.reduceEqDiff, Nat.reduceAdd, reduceCtorEq]
  refine KL_ind k134_b0.eq_1 (fun x : Nat => [(8, .int .i64 x), (7, .int .i64 l.length), (0, .list (rows l)), (1, .fn (.func fid) [] caps)]) (fun _ => []) (fun x => x ≤ l.length ∧ (l.take x).any p = false) (fun x => l.length - x) [8, 7, 0, 1] 0 rfl rfl ⟨Nat.zero_le _, by simp⟩ fun x ⟨hx, hall⟩ ih => ?_
  simp only [go_sem, ↓reduceIte, Nat.reduceEqDiff, Nat.reduceAdd, reduceCtorEq]
  refine ⟨fun h1 => ⟨by omega, fun h2 => ?_⟩, fun h1 => ?_⟩
  · rw [getD_eq h2]
    refine (hp _ (List.getElem_mem h2)).use (.bool _) (.cons (.listi _ _) (up_self hc)) ?_
    simp only [go_sem, ↓reduceIte, Nat.reduceEqDiff, Nat.reduceAdd, reduceCtorEq]
    refine ⟨fun h3 => ?_, fun h3 => ⟨by omega, ?_⟩⟩
    · exact Kv.Fin.now ⟨by rw [idx_some h2 hall h3], rfl⟩
    · refine ih (x + 1) ⟨by omega, ?_⟩ (by omega) _ _ rfl rfl
      rw [any_take_succ _ h2, hall, h3]; rfl
  · obtain rfl : x = l.length := by omega
    rw [List.take_length] at hall
    exact Kv.Fin.now ⟨by rw [idx_none hall], rfl⟩
theorem p113 (l : List Int) (hl : l.length ≤ 4294967296) (fid : FuncId) (caps : List PV) (hc : ∀ c ∈ caps, PV.upto 0 c) (p : Int → Bool) (hp : ∀ x ∈ l, Pure Try.prog fid (.int .i64 x :: caps) (.bool (p x))) :
    Pure Try.prog 113 [.list (ints l), .fn (.func fid) [] caps] (.bool (l.any p)) := by
  refine e113 (by simp) fun _ _ => ?_
  simp only [k113, argEnv, go_sem, ↓reduceIte, Nat.reduceEqDiff, Nat.reduceAdd, reduceCtorEq]
  refine (p135 l hl fid caps hc p hp).use (.int _ _) (.cons (.listi _ _) (.cons (Imm.fnc _ (up_self hc)) (.nil _))) ?_
  simp only [go_sem, ↓reduceIte, Nat.reduceEqDiff, Nat.reduceAdd, reduceCtorEq]
  exact Kv.Fin.now ⟨by rw [idx_nonneg], rfl⟩
theorem p111 (l : List (List Int)) (hl : l.length ≤ 4294967296) (fid : FuncId) (caps : List PV) (hc : ∀ c ∈ caps, PV.upto 0 c) (p : List Int → Bool) (hp : ∀ x ∈ l, Pure Try.prog fid (.list (ints x) :: caps) (.bool (p x))) :
    Pure Try.prog 111 [.list (rows l), .fn (.func fid) [] caps] (.bool (l.any p)) := by
  refine e111 (by simp) fun _ _ => ?_
  simp only [k111, argEnv, go_sem, ↓reduceIte, Nat.reduceEqDiff, Nat.reduceAdd, reduceCtorEq]
  refine (p134 l hl fid caps hc p hp).use (.int _ _) (.cons (.listr _ _) (.cons (Imm.fnc _ (up_self hc)) (.nil _))) ?_
  simp only [go_sem, ↓reduceIte, Nat.reduceEqDiff, Nat.reduceAdd, reduceCtorEq]
  exact Kv.Fin.now ⟨by rw [idx_nonneg], rfl⟩
theorem p114 (x : Int) (n : Nat) (hn : n ≤ 1048576) : Pure Try.prog 114 [.int .i64 x, .fptr [.int .i64 n] 0] (.bool (!decide (0 ≤ x ∧ x ≤ (n : Int) - 1))) := by
  refine e114 (by simp) fun _ _ => ?_
  simp only [k114, argEnv, go_sem, ↓reduceIte, Nat.reduceEqDiff, Nat.reduceAdd, reduceCtorEq]
  refine ⟨by omega, ?_⟩
  refine (p103 _ _ _).use (.bool _) (.cons (.int _ _ _) (.cons (.int _ _ _) (.cons (.int _ _ _) (.nil _)))) ?_
  simp only [go_sem, ↓reduceIte, Nat.reduceEqDiff, Nat.reduceAdd, reduceCtorEq]
  exact Kv.Fin.now ⟨rfl, rfl⟩
theorem p112 (r : List Int) (n : Nat) (hn : n ≤ 1048576) (hr : r.length ≤ 1048576) : Pure Try.prog 112 [.list (ints r), .fptr [.int .i64 n] 0] (.bool (!rowOk n r)) := by
  refine e112 (by simp) fun _ _ => ?_
  simp only [k112, argEnv, go_sem, ↓reduceIte, Nat.reduceEqDiff, Nat.reduceAdd, reduceCtorEq]
  by_cases h : (r.length : Int) = n
  · have h' : r.length = n := by omega
    simp only [h, h', not_true_eq_false, decide_false, false_implies, true_implies, true_and, and_true]
    refine (p113 r (by omega) 114 [.fptr [.int .i64 n] 0] (up_fi n) (fun x => !decide (0 ≤ x ∧ x ≤ (n : Int) - 1)) fun x _ => p114 x n hn).use (.bool _) (.cons (.listi _ _) (.cons (Imm.fnc _ (up_self (up_fi n))) (.nil _))) ?_
    simp only [go_sem, ↓reduceIte, Nat.reduceEqDiff, Nat.reduceAdd, reduceCtorEq]
    refine Kv.Fin.now ⟨?_, rfl⟩
    simp [rowOk, h', List.any_eq_not_all_not]
  · have h' : ¬ r.length = n := by omega
    simp only [h, h', not_false_eq_true, decide_true, false_implies, true_implies, true_and, and_true, not_true_eq_false]
    repeat' (first | refine And.intro ?_ ?_ | intro _)
    all_goals (try contradiction)
    refine Kv.Fin.now ⟨?_, rfl⟩
    simp [rowOk, h']
theorem p68 (t : List (List Int)) (ht : t.length ≤ 1048576) (hl : ∀ r ∈ t, r.length ≤ 1048576) : Pure Try.prog 68 [.list (rows t)] (.bool (isTab t)) := by
  refine e68 (by simp) fun _ _ => ?_
  simp only [k68, argEnv, go_sem, ↓reduceIte, Nat.reduceEqDiff, Nat.reduceAdd, reduceCtorEq]
  refine ⟨by omega, ?_⟩
  refine (p103 _ _ _).use (.bool _) (.cons (.int _ _ _) (.cons (.int _ _ _) (.cons (.int _ _ _) (.nil _)))) ?_
  simp only [go_sem, ↓reduceIte, Nat.reduceEqDiff, Nat.reduceAdd, reduceCtorEq]
  refine ⟨fun h => ?_, fun h => ?_⟩
  · have h' : 1 ≤ t.length ∧ t.length ≤ 40 := by omega
    refine (p111 t (by omega) 112 [.fptr [.int .i64 t.length] 0] (up_fi _) (fun r => !rowOk t.length r) fun r hr => p112 r t.length ht (hl r hr)).use (.bool _) (.cons (.listr _ _) (.cons (Imm.fnc _ (.cons (Imm.boxi rfl) (.nil _))) (.nil _))) ?_
    simp only [go_sem, ↓reduceIte, Nat.reduceEqDiff, Nat.reduceAdd, reduceCtorEq]
    refine Kv.Fin.clean (Plain.bool _).up ⟨?_, rfl⟩
    simp [isTab, h', List.any_eq_not_all_not]
  · have h' : ¬ (1 ≤ t.length ∧ t.length ≤ 40) := by omega
    repeat' (first | refine And.intro ?_ ?_ | intro _)
    refine Kv.Fin.clean (Plain.bool _).up ⟨?_, rfl⟩
    simp [isTab, h']
end Go.Proofs.Ytkljidghocnllaa
