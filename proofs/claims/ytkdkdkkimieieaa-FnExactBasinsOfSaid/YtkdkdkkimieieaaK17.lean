/- The arguments of a law, as abstract values: slices of numbers, of slices, read off what the row says of them. -/
import Derived.Test.YtkdkdkkimieieaaK16
import Derived.ChangeSlices
namespace Go.Kv
open Go.ChangeShapes
set_option linter.unusedVariables false
set_option linter.unusedSimpArgs false
variable {H : Type} {enc : TypeId × Value → H} {P : Program} {W : World} {sp : Nat → Bool} {held : Bool}

theorem cell_spot {a : Addr} {v : Value} (h : W.cell? a = some v) : ∃ C e f, W.heap[a.block]? = some (.cells C e f) ∧ a.spot = none ∧ C[a.off]? = some v := by
  unfold World.cell? at h
  split at h
  · rename_i C e f hb
    split at h
    · cases h
    · rename_i hs
      exact ⟨C, e, f, hb, by simpa using hs, h⟩
  · cases h
theorem add_zero' (a : Addr) : a.add 0 = a := by simp [Addr.add]
/-- A slice whose cells stand in the world, as a list. -/
theorem list_rel {a : Addr} {cap esz : Nat} {xs : List PV} (hcap : xs.length ≤ cap) (hpos : 0 < esz) (hsz : ∀ x ∈ xs, x.cs.length = esz ∧ x.cs.all PV.ok = true)
    (h : ∀ (i : Nat) (x : PV) (j : Nat) (c : PV), xs[i]? = some x → x.cs[j]? = some c → ∃ v, W.cell? (a.add (i * esz + j)) = some v ∧ Rel (allFrz W) [] c v) : Rel (allFrz W) [] (.list xs) (.slice (some a) xs.length cap) := by
  cases xs with
  | nil => exact .list0 _ _
  | cons x0 xs =>
    have hx0 := hsz x0 (by simp)
    obtain ⟨c0, hc0⟩ : ∃ c, x0.cs[0]? = some c := ⟨x0.cs[0]'(by omega), List.getElem?_eq_getElem (by omega)⟩
    obtain ⟨v0, hv0, _⟩ := h 0 x0 0 c0 rfl hc0
    rw [show 0 * esz + 0 = 0 by omega, add_zero'] at hv0
    obtain ⟨C, e, f, hb, hs, _⟩ := cell_spot hv0
    obtain ⟨b, o, s⟩ := a
    simp only at hs hb; subst hs
    have key : ∀ (i : Nat) (x : PV) (j : Nat) (c : PV), (x0 :: xs)[i]? = some x → x.cs[j]? = some c → ∃ v, C[o + i * esz + j]? = some v ∧ Rel (allFrz W) [] c v := fun i x j c hx hc => by
      obtain ⟨v, hv, hr⟩ := h i x j c hx hc
      refine ⟨v, ?_, hr⟩
      unfold World.cell? at hv
      by_cases hz : i * esz + j = 0
      · have h1 : i * esz = 0 := by omega
        have h2 : j = 0 := by omega
        rw [hz, add_zero'] at hv
        rw [h1, h2]
        simpa [hb] using hv
      · have : (⟨b, o, none⟩ : Addr).add (i * esz + j) = ⟨b, o + (i * esz + j), none⟩ := by simp [Addr.add, hz]
        rw [this] at hv
        simp only [hb] at hv
        rw [Nat.add_assoc]
        simpa using hv
    refine .list (x0 :: xs) esz b o _ cap C rfl hcap (allFrz_own hb) (fun i x hx => hsz x (List.mem_of_getElem? hx)) (fun i j => (C[o + i * esz + j]?).getD Go.undef) (fun i x j c hx hc => ?_) (fun i x j c hx hc => ?_)
    · obtain ⟨v, hv, _⟩ := key i x j c hx hc
      rw [hv]; rfl
    · obtain ⟨v, hv, hr⟩ := key i x j c hx hc
      rw [hv]; exact hr
theorem choose_list {α : Type} (d : α) (Q : Nat → α → Prop) : ∀ n : Nat, (∀ i, i < n → ∃ x, Q i x) → ∃ l : List α, l.length = n ∧ ∀ i, i < n → Q i (l.getD i d)
  | 0, _ => ⟨[], rfl, fun i h => by omega⟩
  | n + 1, h => by
    obtain ⟨l, hl, hq⟩ := choose_list d Q n fun i hi => h i (by omega)
    obtain ⟨x, hx⟩ := h n (by omega)
    refine ⟨l ++ [x], by simp [hl], fun i hi => ?_⟩
    by_cases e : i < n
    · have := hq i e
      rw [List.getD_eq_getElem?_getD, List.getElem?_append_left (by omega), ← List.getD_eq_getElem?_getD]; exact this
    · obtain rfl : i = n := by omega
      rw [List.getD_eq_getElem?_getD, List.getElem?_append_right (by omega), hl, Nat.sub_self]
      exact hx
theorem rel_ints {t e : TypeId} {fuel : Nat} {cs : List Value} {x : DataW H × List MemPlace} (ht : P.underlying t = some (.slice e)) (he : P.underlying e = some (.int .i64)) (hc : P.cellsOf e = 1)
    (h : DataW.trod enc P W 0 sp held fuel t cs = some x) : ∃ (v : Value) (l : List Int), cs = [v] ∧ Rel (allFrz W) [] (.list (ints l)) v ∧ l.length ≤ maxLen := by
  rcases open_ints ht he hc h with ⟨rfl, _⟩ | ⟨a, len, cap, zs, rfl, _, hlc, hcm, hzl, _, hcell, _⟩
  · exact ⟨_, [], rfl, .listn, by simp⟩
  · have hle : len ≤ zs.length := by rw [hzl]; split <;> omega
    have hl : (zs.take len).length = len := by simp; omega
    refine ⟨_, zs.take len, rfl, ?_, by omega⟩
    have := list_rel (W := W) (a := a) (cap := cap) (esz := 1) (xs := ints (zs.take len)) (by rw [ints_length, hl]; exact hlc) (by omega) (fun x hx => by
      simp only [ints, List.mem_map] at hx
      obtain ⟨y, _, rfl⟩ := hx
      exact ⟨rfl, rfl⟩) (fun i x j c hx hcj => by
      obtain ⟨y, hy, rfl⟩ := ints_get hx
      have hj : j = 0 ∧ c = .int .i64 y := by
        cases j with
        | zero => simp [PV.cs] at hcj; exact ⟨rfl, hcj.symm⟩
        | succ j => simp [PV.cs] at hcj
      obtain ⟨rfl, rfl⟩ := hj
      have hi : i < len := by
        have := (List.getElem?_eq_some_iff.1 hy).1
        omega
      refine ⟨.int .i64 y, ?_, .int _ _⟩
      rw [show i * 1 + 0 = i by omega, hcell i (by omega)]
      rw [List.getElem?_take, if_pos hi] at hy
      simp [List.getD_eq_getElem?_getD, hy])
    rw [ints_length, hl] at this
    exact this
theorem rel_rows {t e k : TypeId} {fuel : Nat} {cs : List Value} {x : DataW H × List MemPlace} (ht : P.underlying t = some (.slice e)) (he : P.underlying e = some (.slice k)) (hk : P.underlying k = some (.int .i64)) (hc : P.cellsOf e = 1) (hc' : P.cellsOf k = 1)
    (h : DataW.trod enc P W 0 sp held fuel t cs = some x) : ∃ (v : Value) (l : List (List Int)), cs = [v] ∧ Rel (allFrz W) [] (.list (rows l)) v ∧ l.length ≤ maxLen ∧ ∀ r ∈ l, r.length ≤ maxLen := by
  rcases DataW.trod_slice ht h with ⟨rfl, _⟩ | ⟨a, len, cap, elems, rest, n, _, rfl, _, _, hlc, hcm, hel, hget, _, _⟩
  · exact ⟨_, [], rfl, .listn, by simp, by simp⟩
  · obtain ⟨l, hll, hq⟩ := choose_list ([] : List Int) (fun i r => ∃ v, W.cell? (a.add i) = some v ∧ Rel (allFrz W) [] (.list (ints r)) v ∧ r.length ≤ maxLen) len (fun i hi => by
      have hg := hget i hi
      rw [List.getElem?_eq_getElem (by omega), hc, Nat.mul_one, Option.bind_eq_some_iff] at hg
      obtain ⟨cs', hcs, htr⟩ := hg
      obtain ⟨v, r, rfl, hr, hl⟩ := rel_ints he hk hc' htr
      exact ⟨r, v, cell_of_cells?_one hcs, hr, hl⟩)
    refine ⟨_, l, rfl, ?_, by omega, fun r hr => ?_⟩
    · have := list_rel (W := W) (a := a) (cap := cap) (esz := 1) (xs := rows l) (by rw [rows_length, hll]; exact hlc) (by omega) (fun x hx => by
        simp only [rows, List.mem_map] at hx
        obtain ⟨y, _, rfl⟩ := hx
        exact ⟨rfl, rfl⟩) (fun i x j c hx hcj => by
        obtain ⟨y, hy, rfl⟩ := rows_get hx
        have hj : j = 0 ∧ c = .list (ints y) := by
          cases j with
          | zero => simp [PV.cs] at hcj; exact ⟨rfl, hcj.symm⟩
          | succ j => simp [PV.cs] at hcj
        obtain ⟨rfl, rfl⟩ := hj
        have hi := (List.getElem?_eq_some_iff.1 hy).1
        obtain ⟨v, hv, hr, _⟩ := hq i (by omega)
        refine ⟨v, by rw [show i * 1 + 0 = i by omega]; exact hv, ?_⟩
        rw [List.getD_eq_getElem?_getD, hy] at hr
        exact hr)
      rw [rows_length, hll] at this
      exact this
    · obtain ⟨i, hi⟩ := List.getElem?_of_mem hr
      have hlt := (List.getElem?_eq_some_iff.1 hi).1
      obtain ⟨_, _, _, hlen⟩ := hq i (by omega)
      rw [List.getD_eq_getElem?_getD, hi] at hlen
      exact hlen
theorem arg_slice {r : Reach} {b : Nat} {t e : TypeId} {v : Value} (ht : P.underlying t = some (.slice e)) (hv : Value.okWide P W r b t v) : v.cells.toList = [v] := by
  unfold Value.okWide at hv
  rw [ht] at hv
  simp only [Cell.okWide, ht, Cell.ok] at hv
  cases v <;> first | rfl | (exact hv.elim) | (simp at hv)
theorem arg_rows {r : Reach} {b : Nat} {t e k : TypeId} {v : Value} {d : DataW H} {ps : List MemPlace} (ht : P.underlying t = some (.slice e)) (he : P.underlying e = some (.slice k)) (hk : P.underlying k = some (.int .i64)) (hc : P.cellsOf e = 1) (hc' : P.cellsOf k = 1)
    (hv : Value.okWide P W r b t v) (h : DataW.Trod enc P W 0 sp held t v d ps) : ∃ l : List (List Int), Rel (allFrz W) [] (.list (rows l)) v ∧ l.length ≤ maxLen ∧ ∀ r ∈ l, r.length ≤ maxLen := by
  obtain ⟨fuel, h⟩ := h
  rw [arg_slice ht hv] at h
  obtain ⟨u, l, hu, h1, h2, h3⟩ := rel_rows ht he hk hc hc' h
  cases hu
  exact ⟨l, h1, h2, h3⟩
end Go.Kv
