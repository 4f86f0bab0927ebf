/- Bytes as a law's argument, and as abstract values. -/
import Derived.Test.YtpfapiiinkkcgaaGreatAR
namespace Go.Kv
open Go.ChangeShapes
set_option linter.unusedVariables false
set_option linter.unusedSimpArgs false
/-- Bytes. -/
def u8s (l : List Int) : List PV := l.map (PV.int .u8)
@[simp] theorem u8s_length (l : List Int) : (u8s l).length = l.length := by simp [u8s]
attribute [go_sem] u8s_length
theorem u8s_get {l : List Int} {i : Nat} {x : PV} (h : (u8s l)[i]? = some x) : ∃ z, l[i]? = some z ∧ x = .int .u8 z := by
  simp only [u8s, List.getElem?_map, Option.map_eq_some_iff] at h
  obtain ⟨y, hy, rfl⟩ := h
  exact ⟨y, hy, rfl⟩
instance (l : List Int) : Still (.list (u8s l)) := Still.list fun x hx => by
  obtain ⟨m, _, rfl⟩ := List.mem_map.1 hx
  refine ⟨⟨(Plain.int _ _).up, (Plain.int _ _).rn⟩, fun c hc => ?_⟩
  simp only [PV.cs, List.mem_singleton] at hc
  subst hc
  exact (Plain.int _ _).up
variable {H : Type} {enc : TypeId × Value → H} {P : Program} {W : World} {sp : Nat → Bool} {held : Bool}
theorem rel_bytes {t e : TypeId} {fuel : Nat} {cs : List Value} {x : DataW H × List MemPlace} (ht : P.underlying t = some (.slice e)) (he : P.underlying e = some (.int .u8)) (hc : P.cellsOf e = 1)
    (h : DataW.trod enc P W 0 sp held fuel t cs = some x) : ∃ (v : Value) (l : List Int), cs = [v] ∧ Rel (allFrz W) [] (.list (u8s l)) v ∧ l.length ≤ maxLen ∧ ∀ z ∈ l, 0 ≤ z ∧ z ≤ 255 := by
  rcases DataW.trod_slice ht h with ⟨rfl, _⟩ | ⟨a, len, cap, elems, rest, n, _, rfl, _, _, hlc, hcm, hel, hget, _, _⟩
  · exact ⟨_, [], rfl, .listn, by simp, by simp⟩
  · obtain ⟨l, hll, hq⟩ := choose_list (0 : Int) (fun i z => (0 ≤ z ∧ z ≤ 255) ∧ W.cell? (a.add (i * 1 + 0)) = some (.int .u8 z)) len (fun i hi => by
      have hg := hget i hi
      rw [List.getElem?_eq_getElem (by omega), hc, Option.bind_eq_some_iff] at hg
      obtain ⟨cs', hcs, htr⟩ := hg
      obtain ⟨z, hz, _, hw⟩ := DataW.trod_int he htr
      refine ⟨z, ?_, ?_⟩
      · simp only [Lit.wf, Bool.and_eq_true, decide_eq_true_eq] at hw
        exact hw
      · have := (World.cells?_some hcs).2.2 0 (by omega)
        rw [hz] at this
        rw [Addr.add_add] at this
        exact this)
    refine ⟨_, l, rfl, ?_, by omega, fun z hz => ?_⟩
    · have := list_rel (W := W) (a := a) (cap := cap) (esz := 1) (xs := u8s l) (by rw [u8s_length, hll]; exact hlc) (by omega) (fun x hx => by
        simp only [u8s, List.mem_map] at hx
        obtain ⟨y, _, rfl⟩ := hx
        exact ⟨rfl, rfl⟩) (fun i x j c hx hcj => by
        obtain ⟨y, hy, rfl⟩ := u8s_get hx
        have hj : j = 0 ∧ c = .int .u8 y := by
          cases j with
          | zero => simp [PV.cs] at hcj; exact ⟨rfl, hcj.symm⟩
          | succ j => simp [PV.cs] at hcj
        obtain ⟨rfl, rfl⟩ := hj
        have hi := (List.getElem?_eq_some_iff.1 hy).1
        have h2 := (hq i (by omega)).2
        rw [List.getD_eq_getElem?_getD, hy] at h2
        exact ⟨.int .u8 y, h2, .int _ _⟩)
      rw [u8s_length, hll] at this
      exact this
    · obtain ⟨i, hi⟩ := List.getElem?_of_mem hz
      have hlt := (List.getElem?_eq_some_iff.1 hi).1
      have := (hq i (by omega)).1
      rw [List.getD_eq_getElem?_getD, hi] at this
      exact this
theorem arg_bytes {r : Reach} {b : Nat} {t e : TypeId} {v : Value} {d : DataW H} {ps : List MemPlace} (ht : P.underlying t = some (.slice e)) (he : P.underlying e = some (.int .u8)) (hc : P.cellsOf e = 1)
    (hv : Value.okWide P W r b t v) (h : DataW.Trod enc P W 0 sp held t v d ps) : ∃ l : List Int, Rel (allFrz W) [] (.list (u8s l)) v ∧ l.length ≤ maxLen ∧ ∀ z ∈ l, 0 ≤ z ∧ z ≤ 255 := by
  obtain ⟨fuel, h⟩ := h
  rw [arg_slice ht hv] at h
  obtain ⟨u, l, hu, h1, h2, h3⟩ := rel_bytes ht he hc h
  cases hu
  exact ⟨l, h1, h2, h3⟩
end Go.Kv
