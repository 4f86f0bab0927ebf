/- What a computation that only reads comes to, in every world that has the same cells. -/
import Derived.Laws.Sem
set_option linter.unusedVariables false
namespace Go
/-- What a computation that only reads comes to. -/
def Sem.calm {α : Type} (P : Program) (w : World) : Sem α → Option α
  | .pure a => some a
  | .load _ a k => (match w.cell? a with | some v => (k v).calm P w | none => none)
  | .program k => (k P).calm P w
  | .mark _ k => k.calm P w
  | _ => none
end Go
namespace Go.Kv
def Same (w w' : World) : Prop := ∀ b, b < w.heap.size → w'.heap[b]? = w.heap[b]?
theorem Same.cell {w w' : World} (h : Same w w') {a : Addr} {v : Value} (hc : w.cell? a = some v) : w'.cell? a = some v := by
  have hb : a.block < w.heap.size := by
    rcases Nat.lt_or_ge a.block w.heap.size with h1 | h1
    · exact h1
    · unfold World.cell? at hc
      rw [Array.getElem?_eq_none h1] at hc
      cases hc
  unfold World.cell? at hc ⊢
  rw [h _ hb]; exact hc
theorem calm_run {α : Type} {P : Program} {w w' : World} (hs : Same w w') : ∀ {s : Sem α} {a : α}, s.calm P w = some a → s.run P w' = .ok a w' := by
  intro s
  induction s with
  | pure a => intro b h; simp only [Sem.calm, Option.some.injEq] at h; subst h; rfl
  | load m x k ih =>
    intro b h
    simp only [Sem.calm] at h
    split at h
    · rename_i v hv
      simp only [Sem.run, hs.cell hv]
      exact ih v h
    · cases h
  | program k ih => intro b h; exact ih P h
  | mark m k ih => intro b h; exact ih h
  | _ => intro b h; simp [Sem.calm] at h
variable {α β : Type} {P : Program} {w : World}
@[simp] theorem calm_pure (a : α) : (Pure.pure a : Sem α).calm P w = some a := rfl
@[simp] theorem calm_pure' (a : α) : (Sem.pure a : Sem α).calm P w = some a := rfl
theorem calm_bind' (x : Sem α) (f : α → Sem β) : (x.bind f).calm P w = (x.calm P w).bind fun a => (f a).calm P w := by
  induction x with
  | pure a => rfl
  | load m a k ih =>
    simp only [Sem.bind, Sem.calm]
    split
    · exact ih _
    · rfl
  | program k ih => exact ih P
  | mark m k ih => exact ih
  | _ => rfl
@[simp] theorem calm_bind (x : Sem α) (f : α → Sem β) : (x >>= f).calm P w = (x.calm P w).bind fun a => (f a).calm P w := calm_bind' x f
@[simp] theorem calm_map (x : Sem α) (f : α → β) : (f <$> x).calm P w = (x.calm P w).map f := by
  show (x.bind _).calm P w = _
  rw [calm_bind']; cases x.calm P w <;> rfl
@[simp] theorem calm_ite (c : Prop) [Decidable c] (x y : Sem α) : (if c then x else y).calm P w = if c then x.calm P w else y.calm P w := by split <;> rfl
@[simp] theorem calm_load (a : Addr) (m : Mode) : (load a m).calm P w = w.cell? a := by
  simp only [load, Sem.calm]; cases w.cell? a <;> rfl
@[simp] theorem calm_program : program.calm P w = some P := rfl
@[simp] theorem calm_stuck (s : String) : (stuck s : Sem α).calm P w = none := rfl
@[simp] theorem calm_unsupported (u : Unsupported) : (unsupported u : Sem α).calm P w = none := rfl
theorem calm_underlying {t : TypeId} {d : TypeDesc} (h : P.underlying t = some d) : (underlying t).calm P w = some d := by simp [underlying, h]
theorem calm_loadCellsFrom (a : Addr) : ∀ (cs : List Value) (i : Nat) (acc : Array Value), (∀ (j : Nat) (v : Value), cs[j]? = some v → w.cell? (a.add (i + j)) = some v) → (loadCellsFrom a i cs.length acc).calm P w = some (acc ++ cs.toArray)
  | [], i, acc, _ => by simp [loadCellsFrom]
  | c :: cs, i, acc, h => by
    have h0 := h 0 c rfl
    simp only [Nat.add_zero] at h0
    have ih := calm_loadCellsFrom a cs (i + 1) (acc.push c) (fun j v hj => by have := h (j + 1) v (by simpa using hj); rwa [show i + (j + 1) = i + 1 + j by omega] at this)
    simp only [List.length_cons, loadCellsFrom, calm_bind, calm_load, h0, Option.bind_some, ih]
    congr 1
    apply Array.ext'; simp
theorem calm_loadCells (a : Addr) (cs : List Value) (h : ∀ (j : Nat) (v : Value), cs[j]? = some v → w.cell? (a.add j) = some v) : (loadCells a cs.length).calm P w = some cs.toArray := by
  have := calm_loadCellsFrom (P := P) (w := w) a cs 0 #[] (fun j v hj => by simpa using h j v hj)
  simpa [loadCells] using this
theorem calm_ok {α : Type} {s : Sem α} {a : α} (h : s.calm P w = some a) : s.run P w = .ok a w := calm_run (fun _ _ => rfl) h
end Go.Kv
