/- The arguments of a law, as abstract values: lists of numbers, of maps; a desk. -/
import Derived.Test.YtpfapiiinkkcgaaGreatFC
import Derived.OpenShut
import Derived.DataElems
namespace Go.Kv
open Go.ChangeShapes
set_option linter.unusedVariables false
set_option linter.unusedSimpArgs false
variable {H : Type} {enc : TypeId × Value → H} {P : Program} {W : World} {sp : Nat → Bool} {held : Bool}
theorem arg_ints {r : Reach} {b : Nat} {t e : TypeId} {v : Value} {d : DataW H} {ps : List MemPlace} (ht : P.underlying t = some (.slice e)) (he : P.underlying e = some (.int .i64)) (hc : P.cellsOf e = 1)
    (hv : Value.okWide P W r b t v) (h : DataW.Trod enc P W 0 sp held t v d ps) : ∃ l : List Int, Rel (allFrz W) [] (.list (ints l)) v ∧ l.length ≤ maxLen := by
  obtain ⟨fuel, h⟩ := h
  rw [arg_slice ht hv] at h
  obtain ⟨u, l, hu, h1, h2⟩ := rel_ints ht he hc h
  cases hu
  exact ⟨l, h1, h2⟩
/-- The six cells of a map are numbers. -/
theorem trod_map6 {t k : TypeId} {f0 f1 : Field} {fuel : Nat} {cs : List Value} {x : DataW H × List MemPlace} (ht : P.underlying t = some (.struct #[f0, f1])) (hf0 : P.underlying f0.type = some (.int .i64)) (hf1 : P.underlying f1.type = some (.array 5 k)) (hk : P.underlying k = some (.int .i64))
    (o0 : f0.offset = 0) (o1 : f1.offset = 1) (c0 : P.cellsOf f0.type = 1) (c1 : P.cellsOf f1.type = 5) (ck : P.cellsOf k = 1) (ct : P.cellsOf t = 6)
    (h : DataW.trod enc P W 0 sp held fuel t cs = some x) : ∃ m : List Int, m.length = 6 ∧ cs = m.map (Value.int .i64) := by
  obtain ⟨y0, y1, n, _, hl, h0, h1⟩ := trod_struct2 ht h
  rw [ct] at hl
  rw [o0, c0, List.drop_zero] at h0
  rw [o1, c1] at h1
  obtain ⟨n0, hn0, _, _⟩ := DataW.trod_int hf0 h0
  obtain ⟨xs, m', _, _, _, hxl, hxs⟩ := DataW.trod_array hf1 h1
  have key : ∀ i, i < 6 → ∃ z : Int, cs[i]? = some (.int .i64 z) := fun i hi => by
    cases i with
    | zero =>
      have := congrArg (fun l => l[0]?) hn0
      simp only [List.getElem?_take, Nat.zero_lt_one, if_true, List.getElem?_cons_zero] at this
      exact ⟨n0, this⟩
    | succ i =>
      have h2 := hxs i (by omega)
      rw [ck, List.getElem?_eq_getElem (by omega), Nat.mul_one] at h2
      obtain ⟨z, hz, _, _⟩ := DataW.trod_int hk h2
      have := congrArg (fun l => l[0]?) hz
      simp only [List.getElem?_take, Nat.zero_lt_one, if_true, List.getElem?_cons_zero, List.getElem?_drop, Nat.add_zero] at this
      rw [if_pos (by omega)] at this
      exact ⟨z, by rw [Nat.add_comm] at this; exact this⟩
  obtain ⟨m, hm, hq⟩ := choose_list (0 : Int) (fun i z => cs[i]? = some (.int .i64 z)) 6 key
  refine ⟨m, hm, List.ext_getElem? fun i => ?_⟩
  by_cases hi : i < 6
  · rw [hq i hi, List.getElem?_map, List.getElem?_eq_getElem (by omega), List.getD_eq_getElem?_getD, List.getElem?_eq_getElem (by omega)]
    rfl
  · rw [List.getElem?_eq_none (by omega), List.getElem?_eq_none (by simp; omega)]
theorem rel_aggs {t e k : TypeId} {f0 f1 : Field} {fuel : Nat} {cs : List Value} {x : DataW H × List MemPlace} (ht0 : P.underlying t = some (.slice e)) (ht : P.underlying e = some (.struct #[f0, f1])) (hf0 : P.underlying f0.type = some (.int .i64)) (hf1 : P.underlying f1.type = some (.array 5 k)) (hk : P.underlying k = some (.int .i64))
    (o0 : f0.offset = 0) (o1 : f1.offset = 1) (c0 : P.cellsOf f0.type = 1) (c1 : P.cellsOf f1.type = 5) (ck : P.cellsOf k = 1) (ct : P.cellsOf e = 6)
    (h : DataW.trod enc P W 0 sp held fuel t cs = some x) : ∃ (v : Value) (l : List (List Int)), cs = [v] ∧ Rel (allFrz W) [] (.list (aggs l)) v ∧ l.length ≤ maxLen ∧ ∀ r ∈ l, r.length = 6 := by
  rcases DataW.trod_slice ht0 h with ⟨rfl, _⟩ | ⟨a, len, cap, elems, rest, n, _, rfl, _, _, hlc, hcm, hel, hget, _, _⟩
  · exact ⟨_, [], rfl, .listn, by simp, by simp⟩
  · obtain ⟨l, hll, hq⟩ := choose_list ([] : List Int) (fun i r => r.length = 6 ∧ ∀ j, j < 6 → W.cell? (a.add (i * 6 + j)) = some (.int .i64 (r.getD j 0))) len (fun i hi => by
      have hg := hget i hi
      rw [List.getElem?_eq_getElem (by omega), ct, Option.bind_eq_some_iff] at hg
      obtain ⟨cs', hcs, htr⟩ := hg
      obtain ⟨m, hm, rfl⟩ := trod_map6 ht hf0 hf1 hk o0 o1 c0 c1 ck ct htr
      refine ⟨m, hm, fun j hj => ?_⟩
      have := (World.cells?_some hcs).2.2 j (by omega)
      rw [Addr.add_add] at this
      rw [this, List.getElem?_map, List.getElem?_eq_getElem (by omega), List.getD_eq_getElem?_getD, List.getElem?_eq_getElem (by omega)]
      rfl)
    refine ⟨_, l, rfl, ?_, by omega, fun r hr => ?_⟩
    · have := list_rel (W := W) (a := a) (cap := cap) (esz := 6) (xs := aggs l) (by rw [aggs_length, hll]; exact hlc) (by omega) (fun x hx => by
        simp only [aggs, List.mem_map] at hx
        obtain ⟨y, hy, rfl⟩ := hx
        obtain ⟨i, hi⟩ := List.getElem?_of_mem hy
        have hlt := (List.getElem?_eq_some_iff.1 hi).1
        have := (hq i (by omega)).1
        rw [List.getD_eq_getElem?_getD, hi] at this
        exact ⟨by simpa [PV.cs, ints_length] using this, ints_ok y⟩) (fun i x j c hx hcj => by
        simp only [aggs, List.getElem?_map, Option.map_eq_some_iff] at hx
        obtain ⟨y, hy, rfl⟩ := hx
        obtain ⟨z, hz, rfl⟩ := ints_get (l := y) hcj
        have hi := (List.getElem?_eq_some_iff.1 hy).1
        have hj := (List.getElem?_eq_some_iff.1 hz).1
        obtain ⟨h6, hv⟩ := hq i (by omega)
        rw [List.getD_eq_getElem?_getD, hy] at h6 hv
        simp only [Option.getD_some] at h6 hv
        refine ⟨.int .i64 z, ?_, .int _ _⟩
        rw [hv j (by omega), List.getD_eq_getElem?_getD, hz]; rfl)
      rw [aggs_length, hll] at this
      exact this
    · obtain ⟨i, hi⟩ := List.getElem?_of_mem hr
      have hlt := (List.getElem?_eq_some_iff.1 hi).1
      have := (hq i (by omega)).1
      rw [List.getD_eq_getElem?_getD, hi] at this
      exact this
theorem arg_aggs {r : Reach} {b : Nat} {t e k : TypeId} {f0 f1 : Field} {v : Value} {d : DataW H} {ps : List MemPlace} (ht0 : P.underlying t = some (.slice e)) (ht : P.underlying e = some (.struct #[f0, f1])) (hf0 : P.underlying f0.type = some (.int .i64)) (hf1 : P.underlying f1.type = some (.array 5 k)) (hk : P.underlying k = some (.int .i64))
    (o0 : f0.offset = 0) (o1 : f1.offset = 1) (c0 : P.cellsOf f0.type = 1) (c1 : P.cellsOf f1.type = 5) (ck : P.cellsOf k = 1) (ct : P.cellsOf e = 6)
    (hv : Value.okWide P W r b t v) (h : DataW.Trod enc P W 0 sp held t v d ps) : ∃ l : List (List Int), Rel (allFrz W) [] (.list (aggs l)) v ∧ l.length ≤ maxLen ∧ ∀ r ∈ l, r.length = 6 := by
  obtain ⟨fuel, h⟩ := h
  rw [arg_slice ht0 hv] at h
  obtain ⟨u, l, hu, h1, h2, h3⟩ := rel_aggs ht0 ht hf0 hf1 hk o0 o1 c0 c1 ck ct h
  cases hu
  exact ⟨l, h1, h2, h3⟩
/-- A list of maps, and a map: one struct of seven cells. -/
theorem arg_desk {r : Reach} {b : Nat} {t e k : TypeId} {g0 g1 f0 f1 : Field} {v : Value} {d : DataW H} {ps : List MemPlace} (hd : P.underlying t = some (.struct #[g0, g1])) (ht0 : P.underlying g0.type = some (.slice e)) (ht : P.underlying e = some (.struct #[f0, f1])) (he : g1.type = e) (hf0 : P.underlying f0.type = some (.int .i64)) (hf1 : P.underlying f1.type = some (.array 5 k)) (hk : P.underlying k = some (.int .i64))
    (q0 : g0.offset = 0) (q1 : g1.offset = 1) (cs0 : P.cellsOf g0.type = 1) (cd : P.cellsOf t = 7) (o0 : f0.offset = 0) (o1 : f1.offset = 1) (c0 : P.cellsOf f0.type = 1) (c1 : P.cellsOf f1.type = 5) (ck : P.cellsOf k = 1) (ct : P.cellsOf e = 6)
    (hv : Value.okWide P W r b t v) (h : DataW.Trod enc P W 0 sp held t v d ps) : ∃ (l : List (List Int)) (m : List Int), Rel (allFrz W) [] (.agg (.list (aggs l) :: ints m)) v ∧ l.length ≤ maxLen ∧ (∀ r ∈ l, r.length = 6) ∧ m.length = 6 := by
  obtain ⟨fuel, h⟩ := h
  unfold Value.okWide at hv
  rw [hd] at hv
  obtain ⟨cs, rfl, hsz, hrow⟩ := hv
  have hcs : (Value.agg cs).cells.toList = cs.toList := rfl
  rw [hcs] at h
  obtain ⟨y0, y1, n, _, hl, h0, h1⟩ := trod_struct2 hd h
  rw [q0, cs0, List.drop_zero] at h0
  rw [q1, he, ct] at h1
  rw [cd] at hl
  obtain ⟨u, l, hu, k1, k2, k3⟩ := rel_aggs ht0 ht hf0 hf1 hk o0 o1 c0 c1 ck ct h0
  obtain ⟨m, hm, hms⟩ := trod_map6 ht hf0 hf1 hk o0 o1 c0 c1 ck ct h1
  refine ⟨l, m, ?_, k2, k3, hm⟩
  have e1 : cs.toList = u :: m.map (Value.int .i64) := by
    have : cs.toList = cs.toList.take 1 ++ (cs.toList.drop 1).take 6 := by
      rw [List.take_of_length_le (l := cs.toList.drop 1) (by simp at hl ⊢; omega), List.take_append_drop]
    rw [this, hu, hms]; rfl
  have e2 : cs = (u :: m.map (Value.int .i64)).toArray := by rw [← e1]
  rw [e2]
  refine .agg _ _ (by simp [ints]) (by simp [PV.ok, ints_ok m]) fun i c v hc hv => ?_
  cases i with
  | zero =>
    simp only [List.getElem?_cons_zero, Option.some.injEq] at hc hv
    subst hc; subst hv; exact k1
  | succ i =>
    simp only [List.getElem?_cons_succ] at hc hv
    obtain ⟨z, hz, rfl⟩ := ints_get hc
    simp only [List.getElem?_map, hz, Option.map_some, Option.some.injEq] at hv
    subst hv; exact .int _ _
end Go.Kv
