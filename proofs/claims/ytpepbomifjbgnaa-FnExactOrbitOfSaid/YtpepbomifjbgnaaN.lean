/- Tables that are owned: an outer slice of rows, each a slice of its own. -/
import Derived.Test.YtpepbomifjbgnaaFC
namespace Go.Kv
set_option linter.unusedVariables false
set_option linter.unusedSimpArgs false
def refs (rs : List (Nat × Nat)) (t : List (List Int)) : List PV := List.zipWith (fun r l => PV.ref r.1 r.2 0 l.length) rs t
/-- In heap σ, object id is a table t; its rows lie in the objects rs. e2, e1: the types of a row, of a number. -/
structure TabAt (e2 e1 : TypeId) (σ : Heap) (id ver : Nat) (rs : List (Nat × Nat)) (t : List (List Int)) : Prop where
  out : σ[id]? = some (.arr ver e2 1 (refs rs t))
  len : rs.length = t.length
  row : ∀ (i : Nat) (r : Nat × Nat) (l : List Int), rs[i]? = some r → t[i]? = some l → σ[r.1]? = some (.arr r.2 e1 1 (ints l))
  nd : (rs.map Prod.fst).Nodup
  ni : id ∉ rs.map Prod.fst
theorem refs_length {rs : List (Nat × Nat)} {t : List (List Int)} (h : rs.length = t.length) : (refs rs t).length = t.length := by simp [refs, h]
theorem refs_get {rs : List (Nat × Nat)} {t : List (List Int)} {i : Nat} {x : PV} (h : (refs rs t)[i]? = some x) : ∃ r l, rs[i]? = some r ∧ t[i]? = some l ∧ x = .ref r.1 r.2 0 l.length := by
  simp only [refs, List.getElem?_zipWith] at h
  cases hr : rs[i]? with
  | none => simp [hr] at h
  | some r =>
    cases hl : t[i]? with
    | none => simp [hr, hl] at h
    | some l => simp [hr, hl] at h; exact ⟨r, l, rfl, rfl, h.symm⟩
variable {e2 e1 : TypeId} {σ : Heap} {id ver : Nat} {rs : List (Nat × Nat)} {t : List (List Int)}
theorem TabAt.imm (h : TabAt e2 e1 σ id ver rs t) {n : Nat} (hn : n = t.length) : Imm σ (.ref id ver 0 n) (.list (rows t)) := by
  subst hn
  refine .ref id ver 0 t.length e2 1 (refs rs t) (rows t) h.out (by rw [refs_length h.len]; omega) (rows_length t) (fun i x d hx hd => ?_) (fun i x d j c c' hx hd hc hc' => ?_)
  · obtain ⟨r, l, hr, hl, rfl⟩ := refs_get hx
    obtain ⟨y, _, rfl⟩ := rows_get hd
    exact ⟨rfl, rfl⟩
  · rw [Nat.zero_add] at hx
    obtain ⟨r, l, hr, hl, rfl⟩ := refs_get hx
    obtain ⟨y, hy, rfl⟩ := rows_get hd
    rw [hl] at hy; cases hy
    have h1 := List.mem_of_getElem? hc
    have h2 := List.mem_of_getElem? hc'
    simp [PV.cs] at h1 h2; subst h1; subst h2
    exact .refi (h.row i r l hr hl)
theorem TabAt.append (h : TabAt e2 e1 σ id ver rs t) (τ : Heap) : TabAt e2 e1 (σ ++ τ) id ver rs t where
  out := by rw [List.getElem?_append_left (List.getElem?_eq_some_iff.1 h.out).1]; exact h.out
  len := h.len
  row := fun i r l hr hl => by
    have := h.row i r l hr hl
    rw [List.getElem?_append_left (List.getElem?_eq_some_iff.1 this).1]; exact this
  nd := h.nd
  ni := h.ni
def shR (n : Nat) (rs : List (Nat × Nat)) : List (Nat × Nat) := rs.map fun r => (r.1 + n, r.2)
theorem TabAt.shift (h : TabAt e2 e1 σ id ver rs t) (τ : Heap) : TabAt e2 e1 (τ ++ σ.map (AObj.ren (sh τ.length))) (id + τ.length) ver (shR τ.length rs) t where
  out := by
    rw [List.getElem?_append_right (by omega), Nat.add_sub_cancel, List.getElem?_map, h.out]
    simp only [Option.map_some, ren_arr, Option.some.injEq, AObj.arr.injEq, true_and]
    simp only [refs, shR, List.map_zipWith, List.zipWith_map_left, ren_ref, sh_def]
  len := by simp [shR, h.len]
  row := fun i r l hr hl => by
    simp only [shR, List.getElem?_map, Option.map_eq_some_iff] at hr
    obtain ⟨q, hq, rfl⟩ := hr
    rw [List.getElem?_append_right (by omega), Nat.add_sub_cancel, List.getElem?_map, h.row i q l hq hl]
    simp only [Option.map_some, ren_arr, ren_ints]
  nd := by
    have e : (shR τ.length rs).map Prod.fst = (rs.map Prod.fst).map (· + τ.length) := by simp [shR, List.map_map, Function.comp_def]
    rw [e]
    exact List.Pairwise.map _ (fun a b (hab : a ≠ b) => show a + τ.length ≠ b + τ.length by omega) h.nd
  ni := by
    have e : (shR τ.length rs).map Prod.fst = (rs.map Prod.fst).map (· + τ.length) := by simp [shR, List.map_map, Function.comp_def]
    rw [e]
    intro hm
    obtain ⟨x, hx, hxe⟩ := List.mem_map.1 hm
    have : x = id := by omega
    exact h.ni (this ▸ hx)
theorem TabAt.keep (h : TabAt e2 e1 σ id ver rs t) {σ' : Heap} (h1 : σ'[id]? = σ[id]?) (h2 : ∀ r ∈ rs, σ'[r.1]? = σ[r.1]?) : TabAt e2 e1 σ' id ver rs t where
  out := h1.trans h.out
  len := h.len
  row := fun i r l hr hl => (h2 r (List.mem_of_getElem? hr)).trans (h.row i r l hr hl)
  nd := h.nd
  ni := h.ni
/-- One row is written. -/
theorem TabAt.set (h : TabAt e2 e1 σ id ver rs t) {i : Nat} {r : Nat × Nat} (hr : rs[i]? = some r) {l m : List Int} (hl : t[i]? = some l) (hm : m.length = l.length) : TabAt e2 e1 (σ.set r.1 (.arr r.2 e1 1 (ints m))) id ver rs (t.set i m) := by
  have hrm : r.1 ∈ rs.map Prod.fst := List.mem_map.2 ⟨r, List.mem_of_getElem? hr, rfl⟩
  have hit := (List.getElem?_eq_some_iff.1 hl).1
  refine ⟨?_, by rw [List.length_set]; exact h.len, fun j q n hq hn => ?_, h.nd, h.ni⟩
  · rw [List.getElem?_set_ne (fun e : r.1 = id => h.ni (by rw [← e]; exact hrm)), h.out]
    congr 2
    apply List.ext_getElem?
    intro j
    simp only [refs, List.getElem?_zipWith, List.getElem?_set]
    by_cases e : i = j
    · subst e
      rw [if_pos rfl, if_pos hit, hr, hl]
      simp [hm]
    · rw [if_neg e]
  · by_cases e : i = j
    · subst e
      rw [hr] at hq; cases hq
      rw [List.getElem?_set_self hit] at hn; cases hn
      rw [List.getElem?_set_self (List.getElem?_eq_some_iff.1 (h.row i r l hr hl)).1]
    · rw [List.getElem?_set_ne e] at hn
      have hne : r.1 ≠ q.1 := fun e2 => by
        have hi := (List.getElem?_eq_some_iff.1 hr)
        have hj := (List.getElem?_eq_some_iff.1 hq)
        have := (List.getElem_inj (h₀ := by simpa using hi.1) (h₁ := by simpa using hj.1) h.nd).1 (by simp [hi.2, hj.2, e2])
        exact e this
      rw [List.getElem?_set_ne hne]
      exact h.row j q n hq hn
theorem TabAt.lt (h : TabAt e2 e1 σ id ver rs t) : id < σ.length ∧ ∀ r ∈ rs, r.1 < σ.length := by
  refine ⟨(List.getElem?_eq_some_iff.1 h.out).1, fun r hr => ?_⟩
  obtain ⟨i, hi⟩ := List.getElem?_of_mem hr
  have hlt := (List.getElem?_eq_some_iff.1 hi).1
  exact (List.getElem?_eq_some_iff.1 (h.row i r (t[i]'(h.len ▸ hlt)) hi (List.getElem?_eq_getElem (h.len ▸ hlt)))).1
/-- A call that hands back a new table of one's own, and a number. -/
def NewT (P : Program) (f : FuncId) (args : List PV) (e2 e1 : TypeId) (T : List (List Int)) (r : Int) : Prop :=
  ACall P f args [] fun v s => ∃ id ver rs, v = .tup [.ref id ver 0 T.length, .int .i64 r] ∧ TabAt e2 e1 s id ver rs T ∧ ∀ o ∈ s, o.free
theorem shR_ge {n : Nat} {rs : List (Nat × Nat)} : ∀ r ∈ shR n rs, n ≤ r.1 := fun r hr => by
  simp only [shR, List.mem_map] at hr
  obtain ⟨q, _, rfl⟩ := hr
  simp
theorem NewT.call {P : Program} {f : FuncId} {args : List PV} {T : List (List Int)} {r : Int} (h : NewT P f args e2 e1 T r) {σ : Heap} {K : PV → Heap → Prop} (ha : ∀ a ∈ args, PV.upto 0 a)
    (hk : ∀ (id ver : Nat) (rs : List (Nat × Nat)) (s : Heap), TabAt e2 e1 (σ ++ s) id ver rs T → σ.length ≤ id → (∀ r ∈ rs, σ.length ≤ r.1) → K (.tup [.ref id ver 0 T.length, .int .i64 r]) (σ ++ s)) : ACall P f args σ K := by
  refine ACall.frame h ha fun v s ⟨id, ver, rs, hv, hT, _⟩ => ?_
  subst hv
  have := hk _ _ _ _ (hT.shift σ) (by omega) shR_ge
  simpa only [ren_tup, ren_ref, ren_int, List.map_cons, List.map_nil, sh_def] using this
theorem NewT.lend {P : Program} {f : FuncId} {args args' : List PV} {T : List (List Int)} {r : Int} (h : NewT P f args' e2 e1 T r) {σ : Heap} {K : PV → Heap → Prop} (ha : ImmL σ args args')
    (hk : ∀ (id ver : Nat) (rs : List (Nat × Nat)) (s : Heap), TabAt e2 e1 (σ ++ s) id ver rs T → σ.length ≤ id → (∀ r ∈ rs, σ.length ≤ r.1) → K (.tup [.ref id ver 0 T.length, .int .i64 r]) (σ ++ s)) : ACall P f args σ K := by
  refine ACall.lend h ha fun v s ⟨id, ver, rs, hv, hT, hf⟩ => ?_
  subst hv
  refine ⟨⟨free_tup fun c hc => ?_, hf⟩, ?_⟩
  · simp only [List.mem_cons, List.not_mem_nil, or_false] at hc
    rcases hc with rfl | rfl
    · exact free_ref _ _ _ _
    · exact (Plain.int _ _).fr
  · have := hk _ _ _ _ (hT.shift σ) (by omega) shR_ge
    simpa only [ren_tup, ren_ref, ren_int, List.map_cons, List.map_nil, sh_def] using this
theorem free_ints {v : Nat} {e : TypeId} {s : Nat} (l : List Int) : AObj.free (.arr v e s (ints l)) := fun c hc => by
  rw [flat_ints] at hc; exact (Plain.ints _ c hc).fr
theorem free_refs {v : Nat} {e : TypeId} {s : Nat} {xs : List PV} (h : ∀ x ∈ xs, ∃ a b c d, x = .ref a b c d) : AObj.free (.arr v e s xs) := fun c hc => by
  obtain ⟨x, hx, hcx⟩ := List.mem_flatMap.1 hc
  obtain ⟨a, b, c', d, rfl⟩ := h x hx
  simp [PV.cs] at hcx; subst hcx
  exact free_ref _ _ _ _
end Go.Kv
