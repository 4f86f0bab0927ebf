/- Heaps that grow, cells that are read and written, under the relation. -/
import Derived.Test.YtkdkdkkimieieaaK2
import Derived.Laws.Rows
import Derived.Laws.IdiomCopy
namespace Go.Kv
set_option linter.unusedVariables false

theorem ObjOK.keep {φ φ' : Frz} {ι ι' : List KLoc} {w w' : World} {o : AObj} {l : KLoc} (h : ObjOK φ ι w o l) (hf : FLe φ φ') (hl : LLe ι ι') (hw : ∀ b, l.block = some b → w'.heap[b]? = w.heap[b]?) : ObjOK φ' ι' w' o l := by
  cases o with
  | dead => cases l <;> simp [ObjOK]
  | box cs =>
    cases l <;> simp only [ObjOK] at h ⊢
    obtain ⟨C, e, h1, h2, h3⟩ := h
    exact ⟨C, e, (hw _ rfl).trans h1, h2.mono hf hl, h3⟩
  | arr ver e es xs =>
    cases l <;> simp only [ObjOK] at h ⊢
    obtain ⟨h1, h2, h2', h3, ys, h4, h5, h6⟩ := h
    refine ⟨h1, h2, h2', h3, ys, ⟨h4.1, ?_⟩, h5.mono hf hl, h6⟩
    rcases h4.2 with hn | ⟨g, cap, cur, rfl, hb, hg, rest⟩
    · exact .inl hn
    · exact .inr ⟨g, cap, cur, rfl, hb, (hw g rfl).trans hg, rest⟩

theorem heap_lt {w : World} {b : Nat} {o : Obj} (h : w.heap[b]? = some o) : b < w.heap.size := (Array.getElem?_eq_some_iff.1 h).1

/-- The world has changed nowhere that matters. -/
theorem HOK.keep {φ : Frz} {ι : List KLoc} {σ : Heap} {w w' : World} (h : HOK φ ι σ w) (hw : ∀ b, b < w.heap.size → w'.heap[b]? = w.heap[b]?) (hs : w.heap.size ≤ w'.heap.size) : HOK φ ι σ w' where
  len := h.len
  fz := fun b C hb => by
    obtain ⟨e, f, g⟩ := h.fz b C hb
    exact ⟨e, f, (hw b (heap_lt g)).trans g⟩
  nf := h.nf
  dis := h.dis
  lt := fun id l b h1 h2 => Nat.lt_of_lt_of_le (h.lt id l b h1 h2) hs
  obj := fun id o l h1 h2 => (h.obj id o l h1 h2).keep (.refl _) (.refl _) (fun b hb => hw b (h.lt id l b h2 hb))

theorem Tr.keep {n : Nat} {φ : Frz} {ι : List KLoc} {w w' : World} (hw : ∀ b, b < w.heap.size → w'.heap[b]? = w.heap[b]?) (hs : w.heap.size ≤ w'.heap.size) (h1 : w'.os = w.os) (h2 : w'.tape = w.tape) (h3 : w'.output = w.output) : Tr n φ ι w φ ι w' :=
  ⟨.refl _, (LLe.refl _).of_take n, fun b hb _ => hw b hb, hs, fun _ h => .inl h, h1, h2, h3, fun _ _ h => .inl h⟩

theorem HOK.drew {φ : Frz} {ι : List KLoc} {σ : Heap} {w : World} (h : HOK φ ι σ w) : HOK φ ι σ { w with drawn := w.drawn + 1 } := h.keep (fun _ _ => rfl) (Nat.le_refl _)
theorem Tr.drew (n : Nat) (φ : Frz) (ι : List KLoc) (w : World) : Tr n φ ι w φ ι { w with drawn := w.drawn + 1 } := Tr.keep (fun _ _ => rfl) (Nat.le_refl _) rfl rfl rfl

theorem alloc_old (w : World) (o : Obj) {b : Nat} (hb : b < w.heap.size) : (w.alloc o).heap[b]? = w.heap[b]? := by
  show (w.heap.push o)[b]? = _
  simp [Array.getElem?_push, Nat.ne_of_lt hb]
theorem alloc_new (w : World) (o : Obj) : (w.alloc o).heap[w.heap.size]? = some o := by
  show (w.heap.push o)[w.heap.size]? = _
  simp
theorem alloc_size (w : World) (o : Obj) : (w.alloc o).heap.size = w.heap.size + 1 := by
  show (w.heap.push o).size = _
  simp

/-- A new object of one's own. -/
theorem HOK.push {φ : Frz} {ι : List KLoc} {σ : Heap} {w w' : World} (h : HOK φ ι σ w) (hw : ∀ b, b < w.heap.size → w'.heap[b]? = w.heap[b]?) (hs : w.heap.size ≤ w'.heap.size) {o : AObj} {l : KLoc}
    (hb : ∀ b, l.block = some b → w.heap.size ≤ b ∧ b < w'.heap.size) (ho : ObjOK φ ι w' o l) : HOK φ (ι ++ [l]) (σ ++ [o]) w' := by
  have hk := h.keep hw hs
  have hin : ∀ (id : Nat) (x : KLoc), (ι ++ [l])[id]? = some x → ι[id]? = some x ∨ (id = ι.length ∧ x = l) := fun id x hx => by
    rw [List.getElem?_append] at hx
    split at hx
    · exact .inl hx
    · rename_i hn
      have : id - ι.length = 0 := by
        have := (List.getElem?_eq_some_iff.1 hx).1
        simp at this; omega
      rw [this] at hx; simp at hx
      exact .inr ⟨by omega, hx.symm⟩
  refine ⟨by simp [h.len], hk.fz, fun id x b h1 h2 => ?_, fun id id' x x' b h1 h2 h3 h4 => ?_, fun id x b h1 h2 => ?_, fun id o' x h1 h2 => ?_⟩
  · rcases hin _ _ h1 with h1 | ⟨_, rfl⟩
    · exact h.nf id x b h1 h2
    · cases hp : φ b with
      | none => rfl
      | some C =>
        obtain ⟨e, f, g⟩ := h.fz b C hp
        have := heap_lt g
        have := (hb b h2).1
        omega
  · rcases hin _ _ h1 with h1 | ⟨e1, e2⟩ <;> rcases hin _ _ h2 with h2 | ⟨e3, e4⟩
    · exact h.dis id id' x x' b h1 h2 h3 h4
    · have := h.lt id x b h1 h3; rw [e4] at h4; have := (hb b h4).1; omega
    · have := h.lt id' x' b h2 h4; rw [e2] at h3; have := (hb b h3).1; omega
    · omega
  · rcases hin _ _ h1 with h1 | ⟨_, rfl⟩
    · exact hk.lt id x b h1 h2
    · exact (hb b h2).2
  · rcases hin _ _ h2 with h2 | ⟨e1, e2⟩
    · have h3 : σ[id]? = some o' := by
        have hid := (List.getElem?_eq_some_iff.1 h2).1
        rw [List.getElem?_append_left (by rw [← h.len]; exact hid)] at h1
        exact h1
      exact (hk.obj id o' x h3 h2).keep (.refl _) (.append _ _) (fun _ _ => rfl)
    · subst e1; subst e2
      rw [h.len, List.getElem?_append_right (Nat.le_refl _)] at h1
      simp at h1; subst h1
      exact ho.keep (.refl _) (.append _ _) (fun _ _ => rfl)

theorem Tr.push {φ : Frz} {ι : List KLoc} {w w' : World} (n : Nat) (hw : ∀ b, b < w.heap.size → w'.heap[b]? = w.heap[b]?) (hs : w.heap.size ≤ w'.heap.size) (h1 : w'.os = w.os) (h2 : w'.tape = w.tape) (h3 : w'.output = w.output) {l : KLoc}
    (hb : ∀ b, l.block = some b → w.heap.size ≤ b) : Tr n φ ι w φ (ι ++ [l]) w' where
  f := .refl _
  l := (LLe.append _ _).of_take n
  fr := fun b hb _ => hw b hb
  sz := hs
  ow := fun b ⟨id, x, hx, hb'⟩ => by
    rw [List.getElem?_append] at hx
    split at hx
    · exact .inl ⟨id, x, hx, hb'⟩
    · have hm := List.mem_of_getElem? hx
      simp at hm; subst hm
      exact .inr (hb b hb')
  os := h1
  tp := h2
  out := h3
  fn := fun _ _ h => .inl h

/-- A new block that nobody will write. -/
def addFrz (φ : Frz) (b : Nat) (C : Array Value) : Frz := fun x => if x = b then some C else φ x
theorem HOK.frz {φ : Frz} {ι : List KLoc} {σ : Heap} {w w' : World} (h : HOK φ ι σ w) (hw : ∀ b, b < w.heap.size → w'.heap[b]? = w.heap[b]?) (hs : w.heap.size ≤ w'.heap.size) {b : Nat} {C : Array Value} {e : TypeId} {f : Nat × Nat}
    (hb : w.heap.size ≤ b) (hn : w'.heap[b]? = some (.cells C e f)) : HOK (addFrz φ b C) ι σ w' ∧ FLe φ (addFrz φ b C) ∧ ∀ x D, addFrz φ b C x = some D → φ x = some D ∨ w.heap.size ≤ x := by
  have hk := h.keep hw hs
  have hle : FLe φ (addFrz φ b C) := fun x D hx => by
    unfold addFrz
    split
    · rename_i e1; subst e1
      obtain ⟨_, _, g⟩ := h.fz _ _ hx
      have := heap_lt g; omega
    · exact hx
  refine ⟨⟨h.len, fun x D hx => ?_, fun id l x h1 h2 => ?_, h.dis, hk.lt, fun id o l h1 h2 => (hk.obj id o l h1 h2).keep hle (.refl _) (fun _ _ => rfl)⟩, hle, fun x D hx => by
    unfold addFrz at hx
    split at hx
    · rename_i e1; subst e1; exact .inr hb
    · exact .inl hx⟩
  · unfold addFrz at hx
    split at hx
    · rename_i e1; subst e1; simp at hx; subst hx; exact ⟨e, f, hn⟩
    · exact hk.fz x D hx
  · have h3 := h.lt id l x h1 h2
    unfold addFrz
    rw [if_neg (by omega)]
    exact h.nf id l x h1 h2
theorem Tr.frz {φ φ' : Frz} {ι : List KLoc} {w w' : World} (n : Nat) (hf : FLe φ φ' ∧ ∀ x D, φ' x = some D → φ x = some D ∨ w.heap.size ≤ x) (hw : ∀ b, b < w.heap.size → w'.heap[b]? = w.heap[b]?) (hs : w.heap.size ≤ w'.heap.size) (h1 : w'.os = w.os) (h2 : w'.tape = w.tape) (h3 : w'.output = w.output) : Tr n φ ι w φ' ι w' :=
  ⟨hf.1, (LLe.refl _).of_take n, fun b hb _ => hw b hb, hs, fun _ h => .inl h, h1, h2, h3, fun x D h => (hf.2 x D h).imp id .inr⟩

/-- One object changes in place. -/
theorem HOK.upd {φ : Frz} {ι : List KLoc} {σ : Heap} {w w' : World} (h : HOK φ ι σ w) {id : Nat} {l l' : KLoc} {o : AObj} (hl : ι[id]? = some l) (hle : l.le l') (hs : w.heap.size ≤ w'.heap.size)
    (hw : ∀ b, b < w.heap.size → l.block ≠ some b → w'.heap[b]? = w.heap[b]?)
    (hb : ∀ b, l'.block = some b → l.block = some b ∨ w.heap.size ≤ b) (hb2 : ∀ b, l'.block = some b → b < w'.heap.size) (ho : ObjOK φ (ι.set id l') w' o l') : HOK φ (ι.set id l') (σ.set id o) w' ∧ LLe ι (ι.set id l') := by
  have hid := (List.getElem?_eq_some_iff.1 hl).1
  have hLe : LLe ι (ι.set id l') := fun j x hx => by
    by_cases e : id = j
    · subst e; rw [hl] at hx; cases hx
      exact ⟨l', by simp [hid], hle⟩
    · exact ⟨x, by rw [List.getElem?_set_ne e]; exact hx, x.le_refl⟩
  have hin : ∀ (j : Nat) (x : KLoc), (ι.set id l')[j]? = some x → (j ≠ id ∧ ι[j]? = some x) ∨ (j = id ∧ x = l') := fun j x hx => by
    by_cases e : id = j
    · subst e; rw [List.getElem?_set_self hid] at hx; exact .inr ⟨rfl, (Option.some.inj hx).symm⟩
    · rw [List.getElem?_set_ne e] at hx; exact .inl ⟨fun h => e h.symm, hx⟩
  have hother : ∀ (j : Nat) (x : KLoc), j ≠ id → ι[j]? = some x → ∀ b, x.block = some b → w'.heap[b]? = w.heap[b]? := fun j x hj hx b hb' =>
    hw b (h.lt j x b hx hb') (fun e => hj (h.dis j id x l b hx hl hb' e))
  refine ⟨⟨by simp [h.len], fun b C hc => ?_, fun j x b h1 h2 => ?_, fun j j' x x' b h1 h2 h3 h4 => ?_, fun j x b h1 h2 => ?_, fun j o' x h1 h2 => ?_⟩, hLe⟩
  · obtain ⟨e, f, g⟩ := h.fz b C hc
    refine ⟨e, f, (hw b (heap_lt g) fun e1 => ?_).trans g⟩
    have := h.nf id l b hl e1
    rw [hc] at this; cases this
  · rcases hin j x h1 with ⟨_, h1⟩ | ⟨_, rfl⟩
    · exact h.nf j x b h1 h2
    · rcases hb b h2 with h3 | h3
      · exact h.nf id l b hl h3
      · cases hp : φ b with
        | none => rfl
        | some C => obtain ⟨e, f, g⟩ := h.fz b C hp; have := heap_lt g; omega
  · rcases hin j x h1 with ⟨n1, h1⟩ | ⟨n1, e1⟩ <;> rcases hin j' x' h2 with ⟨n2, h2⟩ | ⟨n2, e2⟩
    · exact h.dis j j' x x' b h1 h2 h3 h4
    · rw [e2] at h4
      rcases hb b h4 with h5 | h5
      · exact absurd (h.dis j id x l b h1 hl h3 h5) n1
      · have := h.lt j x b h1 h3; omega
    · rw [e1] at h3
      rcases hb b h3 with h5 | h5
      · exact absurd (h.dis j' id x' l b h2 hl h4 h5) n2
      · have := h.lt j' x' b h2 h4; omega
    · omega
  · rcases hin j x h1 with ⟨_, h1⟩ | ⟨_, rfl⟩
    · exact Nat.lt_of_lt_of_le (h.lt j x b h1 h2) hs
    · exact hb2 b h2
  · rcases hin j x h2 with ⟨n1, h2⟩ | ⟨rfl, rfl⟩
    · rw [List.getElem?_set_ne (fun e => n1 e.symm)] at h1
      exact (h.obj j o' x h1 h2).keep (.refl _) hLe (hother j x n1 h2)
    · have hid' : j < σ.length := by rw [← h.len]; exact hid
      rw [List.getElem?_set_self hid'] at h1
      cases h1; exact ho

theorem Tr.upd {φ : Frz} {ι : List KLoc} {w w' : World} (n : Nat) {id : Nat} {l l' : KLoc} (hl : ι[id]? = some l) (hle : LLe ι (ι.set id l')) (hs : w.heap.size ≤ w'.heap.size)
    (hw : ∀ b, b < w.heap.size → l.block ≠ some b → w'.heap[b]? = w.heap[b]?) (hb : ∀ b, l'.block = some b → l.block = some b ∨ w.heap.size ≤ b) (h1 : w'.os = w.os) (h2 : w'.tape = w.tape) (h3 : w'.output = w.output) : Tr n φ ι w φ (ι.set id l') w' where
  f := .refl _
  l := hle.of_take n
  fr := fun b hb' ho => hw b hb' (fun e => ho ⟨id, l, hl, e⟩)
  sz := hs
  ow := fun b ⟨j, x, hx, hb'⟩ => by
    by_cases e : id = j
    · subst e
      rw [List.getElem?_set_self (List.getElem?_eq_some_iff.1 hl).1] at hx
      cases hx
      rcases hb b hb' with h | h
      · exact .inl ⟨id, l, hl, h⟩
      · exact .inr h
    · rw [List.getElem?_set_ne e] at hx
      exact .inl ⟨j, x, hx, hb'⟩
  os := h1
  tp := h2
  out := h3
  fn := fun _ _ h => .inl h

end Go.Kv
