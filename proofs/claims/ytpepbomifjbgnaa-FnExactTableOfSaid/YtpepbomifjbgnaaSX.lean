/- slices.SortFunc at rows: in the machine's own terms. -/
import Derived.Shelf.SlSortCmp.NoneTotal
import Derived.Shelf.SlGeneric
import Derived.Ground.SlsfProg
import Derived.Test.YtpepbomifjbgnaaCM
namespace Go.Proofs
open Go.Shelf Go.RowKit Go.Lib Go.Sort
shelf_lay_g SlLaysF.n6 Slsf 6 at Try 80 as Ytpepbomifjbgnaa.sortRows
end Go.Proofs
namespace Go.Proofs.Ytpepbomifjbgnaa
open Go.Shelf Go.RowKit Go.Lib Go.Sort
set_option linter.unusedVariables false
set_option linter.unusedSimpArgs false
theorem slc_self : ∀ xs, slc xs xs = 0
  | [] => rfl
  | x :: xs => by rw [slc, if_neg (by omega), if_neg (by omega)]; exact slc_self xs
theorem slc_anti : ∀ xs ys, slc ys xs = - slc xs ys
  | [], [] => rfl
  | [], _ :: _ => rfl
  | _ :: _, [] => rfl
  | x :: xs, y :: ys => by
    have := slc_anti xs ys
    rw [slc, slc]
    (repeat' split) <;> omega
theorem slc_eq : ∀ {xs ys}, slc xs ys = 0 → xs = ys
  | [], [], _ => rfl
  | [], _ :: _, h => by cases h
  | _ :: _, [], h => by cases h
  | x :: xs, y :: ys, h => by
    rw [slc] at h
    split at h
    · cases h
    · split at h
      · cases h
      · rw [slc_eq h, show x = y by omega]
theorem slc_trans : ∀ {xs ys zs}, slc xs ys ≤ 0 → slc ys zs ≤ 0 → slc xs zs ≤ 0
  | [], _, [], _, _ => by simp [slc]
  | [], _, _ :: _, _, _ => by simp [slc]
  | _ :: _, [], _, h, _ => by simp [slc] at h
  | _ :: _, _ :: _, [], _, h => by simp [slc] at h
  | x :: xs, y :: ys, z :: zs, h1, h2 => by
    rw [slc] at h1 h2 ⊢
    split at h1
    · split at h2
      · rw [if_pos (by omega)]; omega
      · split at h2
        · omega
        · rw [if_pos (by omega)]; omega
    · split at h1
      · omega
      · split at h2
        · rw [if_pos (by omega)]; omega
        · split at h2
          · omega
          · rw [if_neg (by omega), if_neg (by omega)]
            exact slc_trans h1 h2
theorem stc_le {xs ys : List Int} : stc xs ys ≤ 0 ↔ xs.length < ys.length ∨ (xs.length = ys.length ∧ slc xs ys ≤ 0) := by
  unfold stc cI orV
  by_cases h1 : xs.length < ys.length
  · rw [if_pos (by omega : (xs.length : Int) < ys.length)]; simp [h1]
  · by_cases h2 : ys.length < xs.length
    · rw [if_neg (by omega : ¬ (xs.length : Int) < ys.length), if_pos (by omega : (ys.length : Int) < xs.length)]
      simp; omega
    · rw [if_neg (by omega : ¬ (xs.length : Int) < ys.length), if_neg (by omega : ¬ (ys.length : Int) < xs.length)]
      simp; omega
theorem cI_anti (x y : Int) : cI y x = - cI x y := by
  unfold cI
  (repeat' split) <;> omega
theorem stc_anti (xs ys : List Int) : stc ys xs = - stc xs ys := by
  unfold stc orV
  have h1 := cI_anti xs.length ys.length
  have h2 := slc_anti xs ys
  (repeat' split) <;> omega
theorem stc_trans {xs ys zs : List Int} (h1 : stc xs ys ≤ 0) (h2 : stc ys zs ≤ 0) : stc xs zs ≤ 0 := by
  rw [stc_le] at *
  rcases h1 with h1 | ⟨e1, h1⟩ <;> rcases h2 with h2 | ⟨e2, h2⟩
  · exact .inl (by omega)
  · exact .inl (by omega)
  · exact .inl (by omega)
  · exact .inr ⟨by omega, slc_trans h1 h2⟩
theorem stc_eq {xs ys : List Int} (h : stc xs ys = 0) : xs = ys := by
  have h1 := stc_anti xs ys
  have h2 := (stc_le (xs := xs) (ys := ys)).1 (by omega)
  have h3 := (stc_le (xs := ys) (ys := xs)).1 (by omega)
  rcases h2 with h2 | ⟨e2, h2⟩
  · rcases h3 with h3 | ⟨e3, h3⟩ <;> omega
  · rcases h3 with h3 | ⟨e3, h3⟩
    · omega
    · have := slc_anti xs ys
      exact slc_eq (by omega)
theorem stc_swo {α : Type} (f : α → List Int) : SWO (ltOf fun x y => stc (f x) (f y)) where
  irrefl x := by
    dsimp only [ltOf]
    have := stc_anti (f x) (f x)
    exact decide_eq_false (by omega)
  trans x y z h1 h2 := by
    dsimp only [ltOf] at *
    rw [decide_eq_true_iff] at *
    have a1 := stc_anti (f y) (f z)
    have a2 := stc_anti (f x) (f z)
    refine Classical.byContradiction fun hn => ?_
    have h3 := stc_trans (xs := f z) (ys := f x) (zs := f y) (by omega) (by omega)
    omega
  ntrans x y z h1 h2 := by
    dsimp only [ltOf] at *
    rw [decide_eq_false_iff_not] at *
    have a1 := stc_anti (f x) (f y)
    have a2 := stc_anti (f y) (f z)
    have a3 := stc_anti (f x) (f z)
    have h3 := stc_trans (xs := f z) (ys := f y) (zs := f x) (by omega) (by omega)
    omega
section
variable {α : Type} [Inhabited α] (enc : α → Value) {w : World} {g n : Nat} {os : Array Obj}
theorem sorted_heap {cur : Array Value} {e : TypeId} {fr : Nat × Nat} (d : Array α) (hb : w.heap[g]? = some (.cells cur e fr)) : (sortWorld enc w g 0 n d os).heap[g]? = some (.cells (putCells enc 0 d cur) e fr) := by
  have hg : g < w.heap.size := (Array.getElem?_eq_some_iff.1 hb).1
  unfold sortWorld
  rw [heap_grow_old _ _ (by simpa using hg)]
  simp [putRow, mapBlock, Sort.ahead, Array.getElem?_modify, hb, onCells]
theorem sorted_other (d : Array α) {k : Nat} (hk : k < w.heap.size) (hne : k ≠ g) : (sortWorld enc w g 0 n d os).heap[k]? = w.heap[k]? := by
  unfold sortWorld
  rw [heap_grow_old _ _ (by simpa using hk)]
  have : g ≠ k := fun e => hne e.symm
  simp [putRow, mapBlock, Sort.ahead, Array.getElem?_modify, this]
theorem sorted_size (d : Array α) : w.heap.size ≤ (sortWorld enc w g 0 n d os).heap.size := by
  unfold sortWorld; simp
theorem sorted_take (cur : Array Value) (d : Array α) (h : d.size ≤ cur.size) : (putCells enc 0 d cur).toList.take d.size = d.toList.map enc := by
  apply List.ext_getElem?
  intro j
  by_cases hj : j < d.size
  · rw [List.getElem?_take_of_lt hj, Array.getElem?_toList]
    simp [putCells, hj, show j < cur.size by omega]
  · rw [List.getElem?_take_eq_none (by omega), List.getElem?_eq_none (by simp; omega)]
end
theorem sorted_drop {α : Type} [Inhabited α] (enc : α → Value) (cur : Array Value) (d : Array α) : (putCells enc 0 d cur).toList.drop d.size = cur.toList.drop d.size := by
  apply List.ext_getElem?
  intro j
  rw [List.getElem?_drop, List.getElem?_drop, Array.getElem?_toList, Array.getElem?_toList]
  have h : ¬ d.size + j < d.size := by omega
  simp [putCells, h]
theorem sortRows_world {w : World} {g cap : Nat} {e : TypeId} {cur : Array Value} (hb : w.heap[g]? = some (.cells cur e (0, 0))) (ys : List Value) (hn : 0 < ys.length) (hn2 : ys.length ≤ 1000) (hcur : cur.toList.take ys.length = ys) (hone : ∀ v ∈ ys, v.oneCell' = true) (ks : List (List Int))
    (hk : ∀ i, i < ys.length → ∃ b o c, ys.getD i Go.undef = .slice (some ⟨b, o, none⟩) (ks.getD i []).length c ∧ b ≠ g ∧ b < w.heap.size ∧ (ks.getD i []).length ≤ 1000000 ∧ ∀ j, j < (ks.getD i []).length → w.cell? ⟨b, o + j, none⟩ = some (.int .i64 ((ks.getD i [])[j]?.getD 0))) :
    Calls Try.prog 80 #[.slice (some ⟨g, 0, none⟩) ys.length cap, .func (.func 81) #[] #[]] w fun en w' => en = .returned (.tuple #[]) ∧ ∃ p : List Nat, p.Perm (List.range ys.length) ∧ p.Pairwise (fun a b => ¬ stc (ks.getD b []) (ks.getD a []) < 0) ∧
      (∃ cur', w'.heap[g]? = some (.cells cur' e (0, 0)) ∧ cur'.size = cur.size ∧ cur'.toList.take ys.length = (p.map fun i => ys.getD i Go.undef) ∧ cur'.toList.drop ys.length = cur.toList.drop ys.length) ∧ (∀ k, k < w.heap.size → k ≠ g → w'.heap[k]? = w.heap[k]?) ∧ w.heap.size ≤ w'.heap.size ∧ w'.os = w.os ∧ w'.tape = w.tape ∧ w'.output = w.output := by
  let ix : Nat → Nat := fun i => if i < ys.length then i else 0
  have hix : ∀ i, ix i < ys.length := fun i => by show (if i < ys.length then i else 0) < _; split <;> omega
  have hix' : ∀ i, i < ys.length → ix i = i := fun i hi => if_pos hi
  let enc : Nat → Value := fun i => ys.getD (ix i) Go.undef
  have hds : (List.range ys.length).toArray.size = ys.length := by simp
  have hcs : ys.length ≤ cur.size := by
    have := congrArg List.length hcur
    rw [List.length_take] at this
    simp at this; omega
  have h1 : OneCell enc := fun i => by
    refine hone _ ?_
    show ys.getD (ix i) Go.undef ∈ ys
    rw [List.getD_eq_getElem?_getD, List.getElem?_eq_getElem (hix i)]
    exact List.getElem_mem _
  have hH : Holds enc w g 0 (List.range ys.length).toArray := fun j hj => by
    rw [hds] at hj
    refine ⟨?_, by simp [World.frozen?, hb]⟩
    have h3 : (cur.toList.take ys.length)[j]? = ys[j]? := by rw [hcur]
    rw [List.getElem?_take_of_lt hj] at h3
    simp only [World.cell?, hb, Nat.zero_add]
    simp only [Option.isSome_none, Bool.false_eq_true, if_false]
    rw [← Array.getElem?_toList, h3]
    have : ((List.range ys.length).toArray)[j]! = j := by simp [hj]
    rw [this]
    show _ = some (ys.getD (ix j) Go.undef)
    rw [hix' j hj, List.getD_eq_getElem?_getD, List.getElem?_eq_getElem hj]; rfl
  have hcmp : CmpLays1 Try.prog 81 #[] enc (fun x y => stc (ks.getD (ix x) []) (ks.getD (ix y) [])) g 0 (List.range ys.length).toArray.size w := fun m os dk hdk x y => by
    obtain ⟨b1, o1, c1, e1, n1, l1, k1, q1⟩ := hk (ix x) (hix x)
    obtain ⟨b2, o2, c2, e2, n2, l2, k2, q2⟩ := hk (ix y) (hix y)
    have hcell : ∀ b o v, b ≠ g → b < w.heap.size → w.cell? ⟨b, o, none⟩ = some v → (sortWorld enc w g 0 m dk os).cell? ⟨b, o, none⟩ = some v := fun b o v hne hlt hc => by
      unfold World.cell? at hc ⊢
      rw [sorted_other enc dk hlt hne]; exact hc
    show Calls Try.prog 81 #[ys.getD (ix x) Go.undef, ys.getD (ix y) Go.undef] _ _
    rw [e1, e2]
    refine ((callsIn_wide (n := 3)).1 (stc_in Fence.wide 3 trivial trivial trivial trivial trivial trivial trivial rfl (by decide) b1 o1 c1 b2 o2 c2 _ _ k1 k2 _ (fun j hj => hcell _ _ _ n1 l1 (q1 j hj)) (fun j hj => hcell _ _ _ n2 l2 (q2 j hj)))).mono ?_
    rintro en w' ⟨rfl, o, rfl⟩
    exact ⟨rfl, 0, #[o], by rw [alloc_eq_grow]; rfl⟩
  have hcon := Any.slices_SortFunc sortRows enc h1 _ (stc_swo fun i => ks.getD (ix i) []) 81 #[] g 0 cap (List.range ys.length).toArray w (enters_of Try.func81 (by kernel_rfl) rfl) hcmp hH (Array.getElem?_eq_some_iff.1 hb).1 (by rw [hds]; omega)
  rw [hds] at hcon
  change Calls Try.prog 80 _ _ _ at hcon
  refine hcon.mono ?_
  rintro en w' ⟨rfl, d', nn, os, ⟨hs, _, hp⟩, hS, rfl⟩
  rw [hds] at hs
  have ed' : d'.extract 0 ys.length = d' := by rw [← hs]; simp
  have ed : (List.range ys.length).toArray.extract 0 ys.length = (List.range ys.length).toArray := by
    have := Array.extract_size (xs := (List.range ys.length).toArray)
    rwa [hds] at this
  rw [ed', ed] at hp
  refine ⟨rfl, d'.toList, hp, ?_, ⟨_, sorted_heap enc d' hb, by simp [putCells], ?_, by rw [← hs]; exact sorted_drop enc cur d'⟩, fun k hk hne => sorted_other enc d' hk hne, sorted_size enc d', rfl, rfl, rfl⟩
  · have hlt : ∀ x ∈ d'.toList, x < ys.length := fun x hx => by simpa using hp.mem_iff.1 hx
    rw [List.pairwise_iff_getElem]
    intro i j hi hj hij
    have hj' : j < ys.length := by rw [← hs]; simpa using hj
    have h4 := hS i j (Nat.zero_le _) hij hj'
    have hgi : d'[i]! = d'.toList[i] := by rw [getElem!_pos d' i (by omega)]; simp
    have hgj : d'[j]! = d'.toList[j] := by rw [getElem!_pos d' j (by omega)]; simp
    rw [hgi, hgj] at h4
    unfold ltOf at h4
    have h4 := of_decide_eq_false h4
    dsimp only at h4
    rwa [hix' _ (hlt _ (List.getElem_mem hi)), hix' _ (hlt _ (List.getElem_mem hj))] at h4
  · have h5 := sorted_take enc cur d' (by omega)
    rw [hs] at h5
    rw [h5]
    refine List.map_congr_left fun x hx => ?_
    show ys.getD (ix x) Go.undef = _
    rw [hix' x (by simpa using hp.mem_iff.1 hx)]
end Go.Proofs.Ytpepbomifjbgnaa
