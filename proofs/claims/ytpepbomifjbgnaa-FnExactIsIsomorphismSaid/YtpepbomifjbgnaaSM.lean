/- slices.Sort of numbers, at whatever length. -/
import Derived.Shelf.SortM.Plain
import Derived.Shelf.SortM.SortNone
import Derived.Shelf.SlGeneric
import Derived.Ground.SlgmProg
import Derived.Test.YtpepbomifjbgnaaG1
namespace Go.Proofs
open Go.Shelf Go.RowKit Go.Lib Go.Sort
shelf_lay_g SlLaysM.n5 Slgm 5 at Try 96 as Ytpepbomifjbgnaa.sortInts
end Go.Proofs
namespace Go.Proofs.Ytpepbomifjbgnaa
open Go.Shelf Go.RowKit Go.Lib Go.Sort
set_option linter.unusedVariables false
theorem sortI_heap {w : World} {g n : Nat} {os : Array Obj} {cur : Array Value} {e : TypeId} {fr : Nat × Nat} (d : Array Int) (hb : w.heap[g]? = some (.cells cur e fr)) : (grow (putRow (Value.int .i64) (Sort.ahead w n) g 0 d) os).heap[g]? = some (.cells (putCells (Value.int .i64) 0 d cur) e fr) := by
  have hg : g < w.heap.size := (Array.getElem?_eq_some_iff.1 hb).1
  rw [heap_grow_old _ _ (by simpa using hg)]
  simp [putRow, mapBlock, Sort.ahead, Array.getElem?_modify, hb, onCells]
theorem sortI_world {w : World} {g cap : Nat} {e : TypeId} {cur : Array Value} (hb : w.heap[g]? = some (.cells cur e (0, 0))) (l : List Int) (hn : l.length ≤ 4294967296) (hcur : cur.toList.take l.length = l.map (Value.int .i64)) :
    Calls Try.prog 96 #[.slice (some ⟨g, 0, none⟩) l.length cap] w fun en w' => en = .returned (.tuple #[]) ∧ ∃ r : List Int, r.Perm l ∧ r.Pairwise (· ≤ ·) ∧
      (∃ cur', w'.heap[g]? = some (.cells cur' e (0, 0)) ∧ cur'.size = cur.size ∧ cur'.toList.take l.length = r.map (Value.int .i64)) ∧ (∀ k, k < w.heap.size → k ≠ g → w'.heap[k]? = w.heap[k]?) ∧ w.heap.size ≤ w'.heap.size ∧ w'.os = w.os ∧ w'.tape = w.tape ∧ w'.output = w.output := by
  have hcs : l.length ≤ cur.size := by
    have := congrArg List.length hcur
    rw [List.length_take, List.length_map] at this
    simp at this; omega
  have hH : Holds (Value.int .i64) w g 0 l.toArray := fun j hj => by
    have hj' : j < l.length := by simpa using hj
    refine ⟨?_, by simp [World.frozen?, hb]⟩
    have h1 : (cur.toList.take l.length)[j]? = (l.map (Value.int .i64))[j]? := by rw [hcur]
    rw [List.getElem?_take_of_lt hj'] at h1
    simp only [World.cell?, hb, Nat.zero_add]
    simp only [Option.isSome_none, Bool.false_eq_true, if_false]
    rw [← Array.getElem?_toList, h1]
    simp [hj']
  have hcon := AnyM.slices_Sort_int sortInts g 0 cap l w hH (Array.getElem?_eq_some_iff.1 hb).1 (by omega)
  change Calls Try.prog 96 _ _ _ at hcon
  refine hcon.mono ?_
  rintro en w' ⟨rfl, nn, os, rfl⟩
  have hperm : (l.mergeSort fun x y => decide (x ≤ y)).Perm l := List.mergeSort_perm l _
  have hsort : (l.mergeSort fun x y => decide (x ≤ y)).Pairwise (fun a b : Int => decide (a ≤ b) = true) := List.pairwise_mergeSort (le := fun a b : Int => decide (a ≤ b)) (fun a b c h1 h2 => by simp only [decide_eq_true_eq] at *; omega) (fun a b => by simp only [Bool.or_eq_true, decide_eq_true_eq]; omega) l
  generalize (l.mergeSort fun x y => decide (x ≤ y)) = r at hperm hsort ⊢
  have hrl := hperm.length_eq
  refine ⟨rfl, r, hperm, hsort.imp fun h => of_decide_eq_true h, ⟨_, sortI_heap r.toArray hb, by simp [putCells], ?_⟩, fun k hk hne => ?_, by simp, rfl, rfl, rfl⟩
  · apply List.ext_getElem?
    intro j
    by_cases hj : j < l.length
    · rw [List.getElem?_take_of_lt hj, Array.getElem?_toList]
      have hj2 : j < r.length := by omega
      simp [putCells, hj2, show j < cur.size by omega]
    · rw [List.getElem?_take_eq_none (by omega), List.getElem?_eq_none (by simp; omega)]
  · rw [heap_grow_old _ _ (by simpa using hk)]
    have : g ≠ k := fun e => hne e.symm
    simp [putRow, mapBlock, Sort.ahead, Array.getElem?_modify, this]
end Go.Proofs.Ytpepbomifjbgnaa
