/- Arguments that are plain numbers in rows: maps. -/
import Derived.Test.YtkdkdkkimieieaaK17
import Derived.Test.YtkdkdkkimieieaaK18
namespace Go.Kv
set_option linter.unusedVariables false
set_option linter.unusedSimpArgs false
theorem cell_int {P : Program} {W : World} {r : Reach} {b : Nat} {k : TypeId} {v : Value} (hk : P.underlying k = some (.int .i64)) (h : Cell.okWide P W r b k v) : ∃ n, v = .int .i64 n := by
  unfold Cell.okWide at h
  rw [hk] at h
  simp only [Cell.ok, hk] at h
  cases v with
  | int k' n =>
    obtain ⟨rfl, _⟩ := (by simpa using h : k' = .i64 ∧ _)
    exact ⟨n, rfl⟩
  | _ => simp at h
theorem row_ints {P : Program} {W : World} {r : Reach} {b n : Nat} {t k : TypeId} {cs : Array Value} (hc : P.cellTypes P.depth t = some (List.replicate n k)) (hn : 0 < n) (hk : P.underlying k = some (.int .i64)) (h : Row.okWide P W r b t cs) : ∃ m : List Int, cs.toList = m.map fun x => Value.int .i64 x := by
  obtain ⟨ts, hts, _, hall⟩ := h
  rw [hc] at hts; cases hts
  have key : ∀ l : List Value, (∀ v ∈ l, ∃ n, v = Value.int .i64 n) → ∃ m : List Int, l = m.map fun x => Value.int .i64 x := by
    intro l
    induction l with
    | nil => intro _; exact ⟨[], rfl⟩
    | cons a l ih =>
      intro h
      obtain ⟨x, rfl⟩ := h a (by simp)
      obtain ⟨m, hm⟩ := ih fun v hv => h v (by simp [hv])
      exact ⟨x :: m, by simp [hm]⟩
  refine key _ fun v hv => ?_
  obtain ⟨i, hi⟩ := List.getElem?_of_mem hv
  obtain ⟨u, hu, ho⟩ := hall i v (by simpa using hi)
  have hu2 := List.mem_of_getElem? hu
  rw [List.mem_replicate] at hu2
  exact cell_int hk (hu2.2 ▸ ho)
theorem rel_aggi {φ : Frz} {ι : List KLoc} (m : List Int) : Rel φ ι (.agg (ints m)) (.agg (m.map fun x => Value.int .i64 x).toArray) := by
  refine .agg _ _ (by simp [ints]) (ints_ok m) fun i c v hc hv => ?_
  obtain ⟨x, hx, rfl⟩ := ints_get hc
  simp only [List.getElem?_map, hx, Option.map_some, Option.some.injEq] at hv
  subst hv; exact .int _ _
/-- An argument that is a struct of n numbers. -/
theorem arg_flat {P : Program} {W : World} {r : Reach} {b n : Nat} {t k : TypeId} {fs : Array Field} {v : Value} (hu : P.underlying t = some (.struct fs)) (hcs : P.cellsOf t = n) (hc : P.cellTypes P.depth t = some (List.replicate n k)) (hn : 0 < n) (hk : P.underlying k = some (.int .i64)) (h : Value.okWide P W r b t v) :
    ∃ m : List Int, m.length = n ∧ Rel (allFrz W) [] (.agg (ints m)) v := by
  unfold Value.okWide at h
  rw [hu] at h
  obtain ⟨cs, rfl, hsz, hrow⟩ := h
  obtain ⟨m, hm⟩ := row_ints hc hn hk hrow
  have hl : m.length = n := by rw [← hcs, ← hsz, ← Array.length_toList, hm]; simp
  refine ⟨m, hl, ?_⟩
  have := rel_aggi (φ := allFrz W) (ι := []) m
  rw [← hm] at this
  simpa using this
end Go.Kv
