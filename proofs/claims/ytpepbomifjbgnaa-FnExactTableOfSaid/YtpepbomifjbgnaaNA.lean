/- Map.compare and slices.SortFunc of maps, in the machine's own terms. -/
import Derived.StillTailTactics
import Derived.KernelRfl
import Derived.Test.YtpepbomifjbgnaaSX
namespace Go.Proofs
open Go.Shelf Go.RowKit Go.Lib Go.Sort
shelf_lay_g SlLaysF0.n6 Slsf 6 at Try 148 as Ytpepbomifjbgnaa.sortMaps
end Go.Proofs
namespace Go.Proofs.Ytpepbomifjbgnaa
open Go.Shelf Go.RowKit Go.Lib Go.Sort
set_option linter.unusedVariables false
set_option linter.unusedSimpArgs false
attribute [local go_sem] Oper.semAt_some
theorem slc_or (x y : Int) (xs ys : List Int) : orV (cI x y) (slc xs ys) = slc (x :: xs) (y :: ys) := by
  rw [slc]
  unfold orV cI
  (repeat' split) <;> first | rfl | omega
theorem slc_swo {α : Type} (f : α → List Int) : SWO (ltOf fun x y => slc (f x) (f y)) where
  irrefl x := by
    dsimp only [ltOf]
    exact decide_eq_false (by rw [slc_self]; decide)
  trans x y z h1 h2 := by
    dsimp only [ltOf] at *
    rw [decide_eq_true_iff] at *
    have a1 := slc_anti (f y) (f z)
    have a2 := slc_anti (f x) (f z)
    refine Classical.byContradiction fun hn => ?_
    have h3 := slc_trans (xs := f z) (ys := f x) (zs := f y) (by omega) (by omega)
    omega
  ntrans x y z h1 h2 := by
    dsimp only [ltOf] at *
    rw [decide_eq_false_iff_not] at *
    have a1 := slc_anti (f x) (f y)
    have a2 := slc_anti (f y) (f z)
    have a3 := slc_anti (f x) (f z)
    have h3 := slc_trans (xs := f z) (ys := f y) (zs := f x) (by omega) (by omega)
    omega
theorem fm_idx {α : Type} {enc : α → List Value} {k : Nat} (hk : 0 < k) (he : ∀ x, (enc x).length = k) : ∀ (L : List α) (t : Nat), (L.flatMap enc)[t]? = (L[t / k]?).bind fun x => (enc x)[t % k]?
  | [], t => by simp
  | a :: L, t => by
    rw [List.flatMap_cons]
    by_cases h : t < k
    · rw [List.getElem?_append_left (by rw [he]; exact h), Nat.div_eq_of_lt h, Nat.mod_eq_of_lt h]; rfl
    · rw [List.getElem?_append_right (by rw [he]; omega), he, fm_idx hk he L (t - k)]
      have e1 : t / k = (t - k) / k + 1 := Nat.div_eq_sub_div hk (by omega)
      have e2 : t % k = (t - k) % k := Nat.mod_eq_sub_mod (by omega)
      rw [e1, e2]; rfl
theorem fm_flatK {α : Type} [Inhabited α] {enc : α → List Value} {k : Nat} (hk : 0 < k) (he : ∀ x, (enc x).length = k) (d : Array α) : (flatK enc k d).toList = d.toList.flatMap enc := by
  apply List.ext_getElem?
  intro t
  rw [fm_idx hk he]
  by_cases h : t < d.size * k
  · have h1 : t / k < d.size := (Nat.div_lt_iff_lt_mul hk).2 h
    have h2 : t % k < k := Nat.mod_lt _ hk
    have h3 : t < (flatK enc k d).size := by simpa using h
    have hg := get_flatK enc k d t h
    rw [getElem!_pos _ t h3] at hg
    have e1 : d.toList[t / k]? = some d[t / k] := by rw [Array.getElem?_toList, Array.getElem?_eq_getElem h1]
    rw [Array.getElem?_toList, Array.getElem?_eq_getElem h3, hg, e1]
    have e2 : d[t / k]! = d[t / k] := getElem!_pos d (t / k) h1
    rw [e2]
    show _ = (enc d[t / k])[t % k]?
    have h4 : t % k < (enc d[t / k]).length := by rw [he]; exact h2
    rw [List.getElem?_eq_getElem h4, getElem!_pos (enc d[t / k]) (t % k) h4]
  · have h1 : ¬ t / k < d.size := fun c => h ((Nat.div_lt_iff_lt_mul hk).1 c)
    rw [List.getElem?_eq_none (by simp; omega), List.getElem?_eq_none (by simp; omega)]; rfl
abbrev M6 := {l : List Int // l.length = 6}
instance : Inhabited M6 := ⟨⟨[0, 0, 0, 0, 0, 0], rfl⟩⟩
/-- A map's six cells. -/
def e6 (x : M6) : List Value := x.1.map (Value.int .i64)
theorem e6_len (x : M6) : (e6 x).length = 6 := by rw [e6, List.length_map, x.2]
theorem m6_out (x : M6) : ∃ a0 a1 a2 a3 a4 a5, x.1 = [a0, a1, a2, a3, a4, a5] := by
  obtain ⟨l, h⟩ := x
  match l, h with
  | [a0, a1, a2, a3, a4, a5], _ => exact ⟨a0, a1, a2, a3, a4, a5, rfl⟩
theorem cell_six (w w' : World) (a0 a1 a2 a3 a4 a5 : Int) (t : TypeId) (b : Nat) (h : w'.heap[b]? = some (.cells #[.int .i64 a0, .int .i64 a1, .int .i64 a2, .int .i64 a3, .int .i64 a4, .int .i64 a5] t (0, 0))) : ∀ j, j < 5 → w'.cell? ⟨b, 1 + j, none⟩ = some (.int .i64 (([a1, a2, a3, a4, a5] : List Int)[j]?.getD 0)) := fun j hj => by
  unfold World.cell?; rw [h]
  match j, hj with
  | 0, _ => rfl
  | 1, _ => rfl
  | 2, _ => rfl
  | 3, _ => rfl
  | 4, _ => rfl
theorem mixedW : Try.prog.follows .mixedOrders = true := by kernel_rfl
theorem heap_two1 (w : World) (x y : Obj) : ((w.alloc x).alloc y).heap[w.heap.size]? = some x := by
  rw [alloc_eq_grow, alloc_eq_grow, grow_grow]; show (w.heap ++ (#[x] ++ #[y]))[_]? = _; simp
theorem heap_two2 (w : World) (x y : Obj) : ((w.alloc x).alloc y).heap[w.heap.size + 1]? = some y := by
  rw [alloc_eq_grow, alloc_eq_grow, grow_grow]; show (w.heap ++ (#[x] ++ #[y]))[_]? = _; simp
set_option maxRecDepth 100000 in
set_option maxHeartbeats 2000000 in
theorem mcmp_calls (a0 a1 a2 a3 a4 a5 b0 b1 b2 b3 b4 b5 : Int) (w : World) :
    Calls Try.prog 149 #[.agg #[.int .i64 a0, .int .i64 a1, .int .i64 a2, .int .i64 a3, .int .i64 a4, .int .i64 a5], .agg #[.int .i64 b0, .int .i64 b1, .int .i64 b2, .int .i64 b3, .int .i64 b4, .int .i64 b5]] w fun e w' => e = .returned (.int .i64 (slc [a0, a1, a2, a3, a4, a5] [b0, b1, b2, b3, b4, b5])) ∧ ∃ q os, w' = grow (w.drewN q) os := by
  have c1 : ∀ w', Calls Try.prog 161 #[.int .i64 a0, .int .i64 b0] w' fun e w'' => e = .returned (.int .i64 (cI a0 b0)) ∧ w'' = w' := fun w' => (callsIn_wide (n := 1)).1 (cmp64_in Fence.wide 1 trivial trivial rfl (by decide) a0 b0 w')
  rw [← slc_or]
  go_enter Try.func149, Try.ntmps149
  go_wp2_with fail
  have g1 := heap_two1 w (Obj.cells #[.int .i64 a0, .int .i64 a1, .int .i64 a2, .int .i64 a3, .int .i64 a4, .int .i64 a5] 59) (Obj.cells #[.int .i64 b0, .int .i64 b1, .int .i64 b2, .int .i64 b3, .int .i64 b4, .int .i64 b5] 59)
  have g2 := heap_two2 w (Obj.cells #[.int .i64 a0, .int .i64 a1, .int .i64 a2, .int .i64 a3, .int .i64 a4, .int .i64 a5] 59) (Obj.cells #[.int .i64 b0, .int .i64 b1, .int .i64 b2, .int .i64 b3, .int .i64 b4, .int .i64 b5] 59)
  have gW : ∃ os, ((w.alloc (.cells #[.int .i64 a0, .int .i64 a1, .int .i64 a2, .int .i64 a3, .int .i64 a4, .int .i64 a5] 59)).alloc (.cells #[.int .i64 b0, .int .i64 b1, .int .i64 b2, .int .i64 b3, .int .i64 b4, .int .i64 b5] 59)) = grow w os := ⟨_, by rw [alloc_eq_grow, alloc_eq_grow, grow_grow]⟩
  generalize ((w.alloc (.cells #[.int .i64 a0, .int .i64 a1, .int .i64 a2, .int .i64 a3, .int .i64 a4, .int .i64 a5] 59)).alloc (.cells #[.int .i64 b0, .int .i64 b1, .int .i64 b2, .int .i64 b3, .int .i64 b4, .int .i64 b5] 59)) = wq at *
  obtain ⟨osq, hq⟩ := gW
  refine wp_region_still_tail 10 mixedW (by kernel_rfl) ?_
  simp only [List.take_succ_cons, List.take_zero, List.drop_succ_cons, List.drop_zero]
  change wpStill _ _ wq.drew _ _ _
  have g1' : wq.drew.heap[w.heap.size]? = _ := g1
  have g2' : wq.drew.heap[w.heap.size + 1]? = _ := g2
  have f1 : wq.drew.cell? ⟨w.heap.size, 0, none⟩ = some (.int .i64 a0) := by unfold World.cell?; rw [g1']; rfl
  have f2 : wq.drew.cell? ⟨w.heap.size + 1, 0, none⟩ = some (.int .i64 b0) := by unfold World.cell?; rw [g2']; rfl
  have c2 := (callsIn_wide (n := 2)).1 (slc_in Fence.wide 2 trivial trivial trivial rfl (by decide) w.heap.size 1 5 (w.heap.size + 1) 1 5 [a1, a2, a3, a4, a5] [b1, b2, b3, b4, b5] (by simp) (by simp) wq.drew (cell_six wq wq.drew a0 a1 a2 a3 a4 a5 59 _ g1') (cell_six wq wq.drew b0 b1 b2 b3 b4 b5 59 _ g2'))
  have hq' : ∃ os, wq = grow w os := ⟨osq, hq⟩
  clear hq g1 g2
  generalize wq.drew = wd at *
  repeat still_step
  still_call (c1 _)
  repeat still_step
  still_call c2
  refine wpStill_nil ?_
  go_wp2_with fail
  refine ((callsIn_wide (n := 1)).1 (or_in Fence.wide 1 trivial rfl wq.heap.size (cI a0 b0) (slc [a1, a2, a3, a4, a5] [b1, b2, b3, b4, b5]) (wq.alloc (.cells #[.int .i64 (cI a0 b0), .int .i64 (slc [a1, a2, a3, a4, a5] [b1, b2, b3, b4, b5])] 3)).drew (cell_two wq _ _ _).1 (cell_two wq _ _ _).2)).mono ?_
  rintro e w' ⟨rfl, rfl⟩
  go_wp2_with fail
  go_ret
  obtain ⟨os, rfl⟩ := hq'
  exact ⟨rfl, 1, _, by rw [alloc_eq_grow, grow_grow]; rfl⟩
theorem sortMaps_world {w : World} {g cap : Nat} {e : TypeId} {cur : Array Value} (hb : w.heap[g]? = some (.cells cur e (0, 0))) (ds : List M6) (hn : ds.length ≤ 1000) (hcur : cur.toList.take (ds.length * 6) = ds.flatMap e6) :
    Calls Try.prog 148 #[.slice (some ⟨g, 0, none⟩) ds.length cap, .func (.func 149) #[] #[]] w fun en w' => en = .returned (.tuple #[]) ∧ ∃ r : List M6, r.Perm ds ∧ r.Pairwise (fun a b => slc a.1 b.1 ≤ 0) ∧
      (∃ cur', w'.heap[g]? = some (.cells cur' e (0, 0)) ∧ cur'.size = cur.size ∧ cur'.toList.take (ds.length * 6) = r.flatMap e6 ∧ cur'.toList.drop (ds.length * 6) = cur.toList.drop (ds.length * 6)) ∧ (∀ k, k < w.heap.size → k ≠ g → w'.heap[k]? = w.heap[k]?) ∧ w.heap.size ≤ w'.heap.size ∧ w'.os = w.os ∧ w'.tape = w.tape ∧ w'.output = w.output := by
  have hds : ds.toArray.size = ds.length := by simp
  have hfm : (ds.flatMap e6).length = ds.length * 6 := by
    clear hcur hds
    induction ds with
    | nil => rfl
    | cons a l ih =>
      have := ih (by simp at hn; omega) 
      rw [List.flatMap_cons, List.length_append, e6_len, this, List.length_cons]; omega
  have hcs : ds.length * 6 ≤ cur.size := by
    have := congrArg List.length hcur
    rw [List.length_take, hfm] at this
    simp at this; omega
  have hfl : (flatK e6 6 ds.toArray).toList = ds.flatMap e6 := fm_flatK (by decide) e6_len ds.toArray
  have hone : ∀ x, ∀ v ∈ e6 x, v.oneCell' = true := fun x v hv => by
    simp only [e6, List.mem_map] at hv
    obtain ⟨y, _, rfl⟩ := hv; rfl
  have hH : HoldsK e6 6 w g 0 ds.toArray := fun j hj => by
    rw [size_flatK, hds] at hj
    refine ⟨?_, by simp [World.frozen?, hb]⟩
    have h3 : (cur.toList.take (ds.length * 6))[j]? = (flatK e6 6 ds.toArray).toList[j]? := by rw [hcur, hfl]
    rw [List.getElem?_take_of_lt hj, Array.getElem?_toList, Array.getElem?_toList] at h3
    have hj2 : j < (flatK e6 6 ds.toArray).size := by rw [size_flatK, hds]; exact hj
    simp only [World.cell?, hb, Nat.zero_add]
    simp only [Option.isSome_none, Bool.false_eq_true, if_false]
    rw [h3, Array.getElem?_eq_getElem hj2]
    show _ = some (flatK e6 6 ds.toArray)[j]!
    rw [getElem!_pos (flatK e6 6 ds.toArray) j hj2]
  have hcmp : CmpLays Try.prog 149 #[] e6 6 (fun x y => slc x.1 y.1) g 0 ds.toArray.size w := fun m os dk hdk x y => by
    obtain ⟨a0, a1, a2, a3, a4, a5, ex⟩ := m6_out x
    obtain ⟨b0, b1, b2, b3, b4, b5, ey⟩ := m6_out y
    have e1 : e6 x = [.int .i64 a0, .int .i64 a1, .int .i64 a2, .int .i64 a3, .int .i64 a4, .int .i64 a5] := by rw [e6, ex]; rfl
    have e2 : e6 y = [.int .i64 b0, .int .i64 b1, .int .i64 b2, .int .i64 b3, .int .i64 b4, .int .i64 b5] := by rw [e6, ey]; rfl
    show Calls Try.prog 149 #[.agg (e6 x).toArray, .agg (e6 y).toArray] _ _
    rw [e1, e2]
    refine (mcmp_calls a0 a1 a2 a3 a4 a5 b0 b1 b2 b3 b4 b5 _).mono ?_
    rintro en w' ⟨rfl, q, os', rfl⟩
    exact ⟨by show _ = Ending.returned (Value.int .i64 (slc x.1 y.1)); rw [ex, ey], q, os', rfl⟩
  have hcon := AnyQ.slices_SortFunc sortMaps 6 Try.isAgg59 Try.sizeOf59 e6 e6_len hone _ (slc_swo fun x : M6 => x.1) 149 #[] g 0 cap ds.toArray w (enters_of Try.func149 (by kernel_rfl) rfl) hcmp hH (Array.getElem?_eq_some_iff.1 hb).1 (by rw [hds]; omega)
  rw [hds] at hcon
  change Calls Try.prog 148 _ _ _ at hcon
  refine hcon.mono ?_
  rintro en w' ⟨rfl, d', nn, os, ⟨hs, _, hp⟩, hS, rfl⟩
  rw [hds] at hs
  have ed' : d'.extract 0 ds.length = d' := by rw [← hs]; simp
  have ed : ds.toArray.extract 0 ds.length = ds.toArray := by
    have := Array.extract_size (xs := ds.toArray)
    rwa [hds] at this
  rw [ed', ed] at hp
  have hfs : (flatK e6 6 d').size = ds.length * 6 := by rw [size_flatK, hs]
  have hfl' : (flatK e6 6 d').toList = d'.toList.flatMap e6 := fm_flatK (by decide) e6_len d'
  have hcv : sortWorldK e6 6 w g 0 nn d' os = sortWorld id w g 0 nn (flatK e6 6 d') os := rfl
  rw [hcv]
  refine ⟨rfl, d'.toList, by simpa using hp, ?_, ⟨_, sorted_heap id (flatK e6 6 d') hb, by simp [putCells], ?_, by rw [← hfs]; exact sorted_drop id cur _⟩, fun k hk hne => sorted_other id _ hk hne, sorted_size id _, rfl, rfl, rfl⟩
  · rw [List.pairwise_iff_getElem]
    intro i j hi hj hij
    have hj' : j < ds.length := by rw [← hs]; simpa using hj
    have h4 := hS i j (Nat.zero_le _) hij hj'
    have hgi : d'[i]! = d'.toList[i] := by rw [getElem!_pos d' i (by simpa using hi)]; simp
    have hgj : d'[j]! = d'.toList[j] := by rw [getElem!_pos d' j (by simpa using hj)]; simp
    rw [hgi, hgj] at h4
    have h5 := slc_anti d'.toList[i].1 d'.toList[j].1
    simp only [ltOf, decide_eq_false_iff_not] at h4
    omega
  · have := sorted_take id cur (flatK e6 6 d') (by rw [hfs]; exact hcs)
    rw [hfs, hfl'] at this
    simpa using this
end Go.Proofs.Ytpepbomifjbgnaa
