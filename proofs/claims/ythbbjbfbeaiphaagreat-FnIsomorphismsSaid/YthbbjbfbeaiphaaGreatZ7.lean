/- Several texts of this session as one, less what the claim does not need. -/
import Derived.Test.YthbbjbfbeaiphaaGreatCb
import Derived.Test.YthbbjbfbeaiphaaGreatG1
import Derived.Test.YthbbjbfbeaiphaaGreatFC
import Derived.Test.YthbbjbfbeaiphaaGreatG2
section
/- Several texts of this session as one. -/
section
/- Tables: their size, their copies, their equality. -/
namespace Go.Proofs.YthbbjbfbeaiphaaGreat
open Go.Kv
set_option linter.unusedVariables false
set_option linter.unusedSimpArgs false
attribute [local irreducible] ACall PCall KL
/-- What is left of k behind the rows. -/
def szR : List (List Int) → Int → Int
  | [], k => k
  | r :: t, k => if k - r.length < 0 then -1 else szR t (k - r.length)
def szT (t : List (List Int)) (k : Int) : Int := if k - t.length < 0 then -1 else szR t (k - t.length)
theorem rows_getD_len {t : List (List Int)} {x : Nat} (h : x < t.length) : t.getD x [] ∈ t := by
  rw [List.getD_eq_getElem?_getD, List.getElem?_eq_getElem h]; exact List.getElem_mem h
theorem Imm.refr {σ : Heap} {id ver n : Nat} {e : TypeId} {l : List (List Int)} (h : σ[id]? = some (.arr ver e 1 (rows l))) (hn : n = l.length) : Imm σ (.ref id ver 0 n) (.list (rows l)) := by
  subst hn
  exact .ref id ver 0 l.length e 1 (rows l) (rows l) h (by simp [rows_length]) (rows_length l)
    (fun i x d hx hd => by simp only [Nat.zero_add, hd, Option.some.injEq] at hx; subst hx; obtain ⟨y, _, rfl⟩ := rows_get hd; exact ⟨rfl, rfl⟩)
    (fun i x d j c c' hx hd hc hc' => by
      simp only [Nat.zero_add, hd, Option.some.injEq] at hx; subst hx
      obtain ⟨y, _, rfl⟩ := rows_get hd
      rw [hc] at hc'; cases hc'
      simp only [PV.cs] at hc
      have := List.mem_of_getElem? hc
      simp at this; subst this
      exact .listi _ _)
end Go.Proofs.YthbbjbfbeaiphaaGreat
end
section
/- Tables that are owned: an outer slice of rows, each a slice of its own. -/
namespace Go.Kv
set_option linter.unusedVariables false
set_option linter.unusedSimpArgs false
def refs (rs : List (Nat × Nat)) (t : List (List Int)) : List PV := List.zipWith (fun r l => PV.ref r.1 r.2 0 l.length) rs t
/-- In heap σ, object id is a table t; its rows lie in the objects rs. e2, e1: the types of a row, of a number. -/
structure TabAt (e2 e1 : TypeId) (σ : Heap) (id ver : Nat) (rs : List (Nat × Nat)) (t : List (List Int)) : Prop where
  out : σ[id]? = some (.arr ver e2 1 (refs rs t))
  len : rs.length = t.length
  row : ∀ (i : Nat) (r : Nat × Nat) (l : List Int), rs[i]? = some r → t[i]? = some l → σ[r.1]? = some (.arr r.2 e1 1 (ints l))
  nd : (rs.map Prod.fst).Nodup
  ni : id ∉ rs.map Prod.fst
theorem refs_length {rs : List (Nat × Nat)} {t : List (List Int)} (h : rs.length = t.length) : (refs rs t).length = t.length := by simp [refs, h]
theorem refs_get {rs : List (Nat × Nat)} {t : List (List Int)} {i : Nat} {x : PV} (h : (refs rs t)[i]? = some x) : ∃ r l, rs[i]? = some r ∧ t[i]? = some l ∧ x = .ref r.1 r.2 0 l.length := by
  simp only [refs, List.getElem?_zipWith] at h
  cases hr : rs[i]? with
  | none => simp [hr] at h
  | some r =>
    cases hl : t[i]? with
    | none => simp [hr, hl] at h
    | some l => simp [hr, hl] at h; exact ⟨r, l, rfl, rfl, h.symm⟩
variable {e2 e1 : TypeId} {σ : Heap} {id ver : Nat} {rs : List (Nat × Nat)} {t : List (List Int)}
theorem TabAt.imm (h : TabAt e2 e1 σ id ver rs t) {n : Nat} (hn : n = t.length) : Imm σ (.ref id ver 0 n) (.list (rows t)) := by
  subst hn
  refine .ref id ver 0 t.length e2 1 (refs rs t) (rows t) h.out (by rw [refs_length h.len]; omega) (rows_length t) (fun i x d hx hd => ?_) (fun i x d j c c' hx hd hc hc' => ?_)
  · obtain ⟨r, l, hr, hl, rfl⟩ := refs_get hx
    obtain ⟨y, _, rfl⟩ := rows_get hd
    exact ⟨rfl, rfl⟩
  · rw [Nat.zero_add] at hx
    obtain ⟨r, l, hr, hl, rfl⟩ := refs_get hx
    obtain ⟨y, hy, rfl⟩ := rows_get hd
    rw [hl] at hy; cases hy
    have h1 := List.mem_of_getElem? hc
    have h2 := List.mem_of_getElem? hc'
    simp [PV.cs] at h1 h2; subst h1; subst h2
    exact .refi (h.row i r l hr hl)
theorem TabAt.append (h : TabAt e2 e1 σ id ver rs t) (τ : Heap) : TabAt e2 e1 (σ ++ τ) id ver rs t where
  out := by rw [List.getElem?_append_left (List.getElem?_eq_some_iff.1 h.out).1]; exact h.out
  len := h.len
  row := fun i r l hr hl => by
    have := h.row i r l hr hl
    rw [List.getElem?_append_left (List.getElem?_eq_some_iff.1 this).1]; exact this
  nd := h.nd
  ni := h.ni
def shR (n : Nat) (rs : List (Nat × Nat)) : List (Nat × Nat) := rs.map fun r => (r.1 + n, r.2)
theorem TabAt.shift (h : TabAt e2 e1 σ id ver rs t) (τ : Heap) : TabAt e2 e1 (τ ++ σ.map (AObj.ren (sh τ.length))) (id + τ.length) ver (shR τ.length rs) t where
  out := by
    rw [List.getElem?_append_right (by omega), Nat.add_sub_cancel, List.getElem?_map, h.out]
    simp only [Option.map_some, ren_arr, Option.some.injEq, AObj.arr.injEq, true_and]
    simp only [refs, shR, List.map_zipWith, List.zipWith_map_left, ren_ref, sh_def]
  len := by simp [shR, h.len]
  row := fun i r l hr hl => by
    simp only [shR, List.getElem?_map, Option.map_eq_some_iff] at hr
    obtain ⟨q, hq, rfl⟩ := hr
    rw [List.getElem?_append_right (by omega), Nat.add_sub_cancel, List.getElem?_map, h.row i q l hq hl]
    simp only [Option.map_some, ren_arr, ren_ints]
  nd := by
    have e : (shR τ.length rs).map Prod.fst = (rs.map Prod.fst).map (· + τ.length) := by simp [shR, List.map_map, Function.comp_def]
    rw [e]
    exact List.Pairwise.map _ (fun a b (hab : a ≠ b) => show a + τ.length ≠ b + τ.length by omega) h.nd
  ni := by
    have e : (shR τ.length rs).map Prod.fst = (rs.map Prod.fst).map (· + τ.length) := by simp [shR, List.map_map, Function.comp_def]
    rw [e]
    intro hm
    obtain ⟨x, hx, hxe⟩ := List.mem_map.1 hm
    have : x = id := by omega
    exact h.ni (this ▸ hx)
theorem TabAt.keep (h : TabAt e2 e1 σ id ver rs t) {σ' : Heap} (h1 : σ'[id]? = σ[id]?) (h2 : ∀ r ∈ rs, σ'[r.1]? = σ[r.1]?) : TabAt e2 e1 σ' id ver rs t where
  out := h1.trans h.out
  len := h.len
  row := fun i r l hr hl => (h2 r (List.mem_of_getElem? hr)).trans (h.row i r l hr hl)
  nd := h.nd
  ni := h.ni
/-- One row is written. -/
theorem TabAt.set (h : TabAt e2 e1 σ id ver rs t) {i : Nat} {r : Nat × Nat} (hr : rs[i]? = some r) {l m : List Int} (hl : t[i]? = some l) (hm : m.length = l.length) : TabAt e2 e1 (σ.set r.1 (.arr r.2 e1 1 (ints m))) id ver rs (t.set i m) := by
  have hrm : r.1 ∈ rs.map Prod.fst := List.mem_map.2 ⟨r, List.mem_of_getElem? hr, rfl⟩
  have hit := (List.getElem?_eq_some_iff.1 hl).1
  refine ⟨?_, by rw [List.length_set]; exact h.len, fun j q n hq hn => ?_, h.nd, h.ni⟩
  · rw [List.getElem?_set_ne (fun e : r.1 = id => h.ni (by rw [← e]; exact hrm)), h.out]
    congr 2
    apply List.ext_getElem?
    intro j
    simp only [refs, List.getElem?_zipWith, List.getElem?_set]
    by_cases e : i = j
    · subst e
      rw [if_pos rfl, if_pos hit, hr, hl]
      simp [hm]
    · rw [if_neg e]
  · by_cases e : i = j
    · subst e
      rw [hr] at hq; cases hq
      rw [List.getElem?_set_self hit] at hn; cases hn
      rw [List.getElem?_set_self (List.getElem?_eq_some_iff.1 (h.row i r l hr hl)).1]
    · rw [List.getElem?_set_ne e] at hn
      have hne : r.1 ≠ q.1 := fun e2 => by
        have hi := (List.getElem?_eq_some_iff.1 hr)
        have hj := (List.getElem?_eq_some_iff.1 hq)
        have := (List.getElem_inj (h₀ := by simpa using hi.1) (h₁ := by simpa using hj.1) h.nd).1 (by simp [hi.2, hj.2, e2])
        exact e this
      rw [List.getElem?_set_ne hne]
      exact h.row j q n hq hn
theorem TabAt.lt (h : TabAt e2 e1 σ id ver rs t) : id < σ.length ∧ ∀ r ∈ rs, r.1 < σ.length := by
  refine ⟨(List.getElem?_eq_some_iff.1 h.out).1, fun r hr => ?_⟩
  obtain ⟨i, hi⟩ := List.getElem?_of_mem hr
  have hlt := (List.getElem?_eq_some_iff.1 hi).1
  exact (List.getElem?_eq_some_iff.1 (h.row i r (t[i]'(h.len ▸ hlt)) hi (List.getElem?_eq_getElem (h.len ▸ hlt)))).1
/-- A call that hands back a new table of one's own, and a number. -/
def NewT (P : Program) (f : FuncId) (args : List PV) (e2 e1 : TypeId) (T : List (List Int)) (r : Int) : Prop :=
  ACall P f args [] fun v s => ∃ id ver rs, v = .tup [.ref id ver 0 T.length, .int .i64 r] ∧ TabAt e2 e1 s id ver rs T ∧ ∀ o ∈ s, o.free
theorem shR_ge {n : Nat} {rs : List (Nat × Nat)} : ∀ r ∈ shR n rs, n ≤ r.1 := fun r hr => by
  simp only [shR, List.mem_map] at hr
  obtain ⟨q, _, rfl⟩ := hr
  simp
theorem NewT.call {P : Program} {f : FuncId} {args : List PV} {T : List (List Int)} {r : Int} (h : NewT P f args e2 e1 T r) {σ : Heap} {K : PV → Heap → Prop} (ha : ∀ a ∈ args, PV.upto 0 a)
    (hk : ∀ (id ver : Nat) (rs : List (Nat × Nat)) (s : Heap), TabAt e2 e1 (σ ++ s) id ver rs T → σ.length ≤ id → (∀ r ∈ rs, σ.length ≤ r.1) → K (.tup [.ref id ver 0 T.length, .int .i64 r]) (σ ++ s)) : ACall P f args σ K := by
  refine ACall.frame h ha fun v s ⟨id, ver, rs, hv, hT, _⟩ => ?_
  subst hv
  have := hk _ _ _ _ (hT.shift σ) (by omega) shR_ge
  simpa only [ren_tup, ren_ref, ren_int, List.map_cons, List.map_nil, sh_def] using this
theorem NewT.lend {P : Program} {f : FuncId} {args args' : List PV} {T : List (List Int)} {r : Int} (h : NewT P f args' e2 e1 T r) {σ : Heap} {K : PV → Heap → Prop} (ha : ImmL σ args args')
    (hk : ∀ (id ver : Nat) (rs : List (Nat × Nat)) (s : Heap), TabAt e2 e1 (σ ++ s) id ver rs T → σ.length ≤ id → (∀ r ∈ rs, σ.length ≤ r.1) → K (.tup [.ref id ver 0 T.length, .int .i64 r]) (σ ++ s)) : ACall P f args σ K := by
  refine ACall.lend h ha fun v s ⟨id, ver, rs, hv, hT, hf⟩ => ?_
  subst hv
  refine ⟨⟨free_tup fun c hc => ?_, hf⟩, ?_⟩
  · simp only [List.mem_cons, List.not_mem_nil, or_false] at hc
    rcases hc with rfl | rfl
    · exact free_ref _ _ _ _
    · exact (Plain.int _ _).fr
  · have := hk _ _ _ _ (hT.shift σ) (by omega) shR_ge
    simpa only [ren_tup, ren_ref, ren_int, List.map_cons, List.map_nil, sh_def] using this
end Go.Kv
end
section
/- What is owned within a part of the heap: rows, numbers; new, marked, kept. -/
namespace Go.Proofs.YthbbjbfbeaiphaaGreat
open Go.Kv
set_option linter.unusedVariables false
set_option linter.unusedSimpArgs false
attribute [local irreducible] ACall PCall KL
/-- Owned rows. -/
inductive OwnT (e2 e1 : TypeId) (σ : Heap) (lo hi : Nat) : PV → List (List Int) → Prop
  | nil : OwnT e2 e1 σ lo hi .nils []
  | tab (id ver : Nat) (rs : List Rw) (t : List (List Int)) (h : TabG e2 e1 σ id ver rs t) (h1 : lo ≤ id ∧ id < hi) (h2 : ∀ r ∈ rs, r.nil = false → lo ≤ r.id ∧ r.id < hi) : OwnT e2 e1 σ lo hi (.ref id ver 0 t.length) t
/-- Owned numbers. -/
inductive OwnI (e : TypeId) (σ : Heap) (lo hi : Nat) : PV → List Int → Prop
  | nil : OwnI e σ lo hi .nils []
  | own (id ver : Nat) (pre l post : List Int) (h : σ[id]? = some (.arr ver e 1 (ints (pre ++ l ++ post)))) (h1 : lo ≤ id ∧ id < hi) : OwnI e σ lo hi (.ref id ver pre.length l.length) l
variable {e2 e1 e : TypeId} {σ : Heap} {lo hi : Nat} {x : PV} {t : List (List Int)} {l : List Int}
theorem OwnT.imm (h : OwnT e2 e1 σ lo hi x t) : Imm σ x (.list (rows t)) := by
  cases h with
  | nil => exact .nils
  | tab id ver rs t h _ _ => exact h.imm rfl
theorem OwnI.imm (h : OwnI e σ lo hi x l) : Imm σ x (.list (ints l)) := by
  cases h with
  | nil => exact .nils
  | own id ver pre l post h _ => exact .refp h rfl rfl
theorem OwnT.keep (h : OwnT e2 e1 σ lo hi x t) {σ' : Heap} (hk : ∀ j, lo ≤ j → j < hi → σ'[j]? = σ[j]?) : OwnT e2 e1 σ' lo hi x t := by
  cases h with
  | nil => exact .nil
  | tab id ver rs t h h1 h2 => exact .tab id ver rs t (h.keep (hk id h1.1 h1.2) fun r hr hn => hk _ (h2 r hr hn).1 (h2 r hr hn).2) h1 h2
theorem OwnI.keep (h : OwnI e σ lo hi x l) {σ' : Heap} (hk : ∀ j, lo ≤ j → j < hi → σ'[j]? = σ[j]?) : OwnI e σ' lo hi x l := by
  cases h with
  | nil => exact .nil
  | own id ver pre l post h h1 => exact .own id ver pre l post ((hk id h1.1 h1.2).trans h) h1
theorem OwnT.shift (h : OwnT e2 e1 σ lo hi x t) (τ : Heap) : OwnT e2 e1 (τ ++ σ.map (AObj.ren (Kv.sh τ.length))) (lo + τ.length) (hi + τ.length) (x.ren (Kv.sh τ.length)) t := by
  cases h with
  | nil => simp only [ren_nils]; exact .nil
  | tab id ver rs t h h1 h2 =>
    simp only [ren_ref, sh_def]
    refine .tab _ _ _ t (h.shift τ) (by omega) fun r hr hn => ?_
    obtain ⟨q, hq, rfl⟩ := List.mem_map.1 hr
    have := h2 q hq hn
    simp only [Rw.sh]; omega
theorem OwnI.shift (h : OwnI e σ lo hi x l) (τ : Heap) : OwnI e (τ ++ σ.map (AObj.ren (Kv.sh τ.length))) (lo + τ.length) (hi + τ.length) (x.ren (Kv.sh τ.length)) l := by
  cases h with
  | nil => simp only [ren_nils]; exact .nil
  | own id ver pre l post h h1 =>
    simp only [ren_ref, sh_def]
    refine .own _ ver pre l post ?_ (by omega)
    rw [List.getElem?_append_right (by omega), Nat.add_sub_cancel, List.getElem?_map, h]
    simp only [Option.map_some, ren_arr, ren_ints]
theorem OwnT.fr (h : OwnT e2 e1 σ lo hi x t) : x.free := by
  cases h with
  | nil => exact Plain.nils.fr
  | tab id ver rs t h _ _ => exact free_ref _ _ _ _
theorem OwnI.fr (h : OwnI e σ lo hi x l) : x.free := by
  cases h with
  | nil => exact Plain.nils.fr
  | own id ver pre l post h _ => exact free_ref _ _ _ _
/-- New rows of one's own, and a number. -/
def NewTO (P : Program) (f : FuncId) (args : List PV) (e2 e1 : TypeId) (T : List (List Int)) (r : Int) : Prop :=
  ACall P f args [] fun v s => ∃ x, v = .tup [x, .int .i64 r] ∧ OwnT e2 e1 s 0 s.length x T ∧ Free s
def NewIO (P : Program) (f : FuncId) (args : List PV) (e : TypeId) (l : List Int) (r : Int) : Prop :=
  ACall P f args [] fun v s => ∃ x, v = .tup [x, .int .i64 r] ∧ OwnI e s 0 s.length x l ∧ Free s
theorem NewTN.own {P : Program} {f : FuncId} {args : List PV} {T : List (List Int)} {r : Int} (h : NewTN P f args e2 e1 T r) : NewTO P f args e2 e1 T r :=
  ACall.mono h fun v s ⟨x, hv, hT, hf⟩ => ⟨x, hv, (by
    cases hT with
    | nil => exact .nil
    | tab id ver rs _ h => exact .tab id ver rs _ h ⟨Nat.zero_le _, h.lt.1⟩ fun r hr hn => ⟨Nat.zero_le _, h.lt.2 r hr hn⟩), hf⟩
theorem NewI.own {P : Program} {f : FuncId} {args : List PV} {l : List Int} {r : Int} (h : NewI P f args e l r) : NewIO P f args e l r :=
  ACall.mono h fun v s ⟨ver, pre, post, hv, hs⟩ => ⟨_, hv, hs ▸ .own 0 ver pre l post rfl ⟨Nat.zero_le _, by simp⟩, hs ▸ .ints _ _ _ _⟩
theorem NewTO.frozen {P : Program} {f : FuncId} {args : List PV} {T : List (List Int)} {r : Int} (h : NewTO P f args e2 e1 T r) : Pure P f args (.tup [.list (rows T), .int .i64 r]) :=
  ACall.ret h fun v s ⟨x, hv, hT, _⟩ => by
    subst hv
    exact Fin.freeze (Imm.tupL (.cons hT.imm (.cons (.int _ _ _) (.nil _)))) ⟨rfl, rfl⟩
theorem NewIO.frozen {P : Program} {f : FuncId} {args : List PV} {l : List Int} {r : Int} (h : NewIO P f args e l r) : Pure P f args (.tup [.list (ints l), .int .i64 r]) :=
  ACall.ret h fun v s ⟨x, hv, hT, _⟩ => by
    subst hv
    exact Fin.freeze (Imm.tupL (.cons hT.imm (.cons (.int _ _ _) (.nil _)))) ⟨rfl, rfl⟩
theorem NewTO.lend {P : Program} {f : FuncId} {args args' : List PV} {T : List (List Int)} {r : Int} (h : NewTO P f args' e2 e1 T r) {σ : Heap} {K : PV → Heap → Prop} (ha : ImmL σ args args')
    (hk : ∀ (x : PV) (σ' : Heap), OwnT e2 e1 σ' σ.length σ'.length x T → (∀ j, j < σ.length → σ'[j]? = σ[j]?) → σ.length ≤ σ'.length → K (.tup [x, .int .i64 r]) σ') : ACall P f args σ K := by
  refine ACall.lend h ha fun v s ⟨x, hv, hT, hf⟩ => ?_
  subst hv
  refine ⟨⟨free_tup fun c hc => ?_, hf⟩, ?_⟩
  · simp only [List.mem_cons, List.not_mem_nil, or_false] at hc
    rcases hc with rfl | rfl
    · exact hT.fr
    · exact (Plain.int _ _).fr
  · have h1 := hT.shift σ
    have e : (σ ++ s.map (AObj.ren (Kv.sh σ.length))).length = s.length + σ.length := by simp; omega
    rw [Nat.zero_add, ← e] at h1
    have := hk _ _ h1 (fun j hj => List.getElem?_append_left hj) (by simp)
    simpa only [ren_tup, ren_int, List.map_cons, List.map_nil] using this
theorem NewIO.lend {P : Program} {f : FuncId} {args args' : List PV} {l : List Int} {r : Int} (h : NewIO P f args' e l r) {σ : Heap} {K : PV → Heap → Prop} (ha : ImmL σ args args')
    (hk : ∀ (x : PV) (σ' : Heap), OwnI e σ' σ.length σ'.length x l → (∀ j, j < σ.length → σ'[j]? = σ[j]?) → σ.length ≤ σ'.length → K (.tup [x, .int .i64 r]) σ') : ACall P f args σ K := by
  refine ACall.lend h ha fun v s ⟨x, hv, hT, hf⟩ => ?_
  subst hv
  refine ⟨⟨free_tup fun c hc => ?_, hf⟩, ?_⟩
  · simp only [List.mem_cons, List.not_mem_nil, or_false] at hc
    rcases hc with rfl | rfl
    · exact hT.fr
    · exact (Plain.int _ _).fr
  · have h1 := hT.shift σ
    have e : (σ ++ s.map (AObj.ren (Kv.sh σ.length))).length = s.length + σ.length := by simp; omega
    rw [Nat.zero_add, ← e] at h1
    have := hk _ _ h1 (fun j hj => List.getElem?_append_left hj) (by simp)
    simpa only [ren_tup, ren_int, List.map_cons, List.map_nil] using this
end Go.Proofs.YthbbjbfbeaiphaaGreat
end
section
/- Lists of maps that are owned within a part of the heap. -/
namespace Go.Proofs.YthbbjbfbeaiphaaGreat
open Go.Kv
set_option linter.unusedVariables false
set_option linter.unusedSimpArgs false
attribute [local irreducible] ACall PCall KL
inductive OwnA (e : TypeId) (σ : Heap) (lo hi : Nat) : PV → List (List Int) → Prop
  | nil : OwnA e σ lo hi .nils []
  | own (id ver : Nat) (l post : List (List Int)) (h : σ[id]? = some (.arr ver e 6 (aggs (l ++ post)))) (h6 : ∀ r ∈ l, r.length = 6) (h1 : lo ≤ id ∧ id < hi) : OwnA e σ lo hi (.ref id ver 0 l.length) l
variable {e : TypeId} {σ : Heap} {lo hi : Nat} {x : PV} {l : List (List Int)}
theorem Imm.refap {σ : Heap} {id ver n : Nat} {e : TypeId} {l post : List (List Int)} (h : σ[id]? = some (.arr ver e 6 (aggs (l ++ post)))) (h6 : ∀ r ∈ l, r.length = 6) (hn : n = l.length) : Imm σ (.ref id ver 0 n) (.list (aggs l)) := by
  subst hn
  have hg : ∀ (i : Nat) (x d : PV), (aggs (l ++ post))[i]? = some x → (aggs l)[i]? = some d → x = d := fun i x d hx hd => by
    have hlt := (List.getElem?_eq_some_iff.1 hd).1
    rw [← aggs_append, List.getElem?_append_left hlt, hd] at hx
    exact (Option.some.inj hx).symm
  refine .ref id ver 0 l.length e 6 (aggs (l ++ post)) (aggs l) h (by simp [aggs_length]) (aggs_length l) (fun i x d hx hd => ?_) (fun i x d j c c' hx hd hc hc' => ?_)
  · rw [Nat.zero_add] at hx
    obtain rfl := hg i x d hx hd
    obtain ⟨y, hy, rfl⟩ := aggs_get hd
    exact ⟨rfl, ints_ok y⟩
  · rw [Nat.zero_add] at hx
    obtain rfl := hg i x d hx hd
    obtain ⟨y, _, rfl⟩ := aggs_get hd
    rw [hc] at hc'; cases hc'
    exact .refl _ ((Plain.ints y c (List.mem_of_getElem? hc)).up)
theorem OwnA.imm (h : OwnA e σ lo hi x l) : Imm σ x (.list (aggs l)) := by
  cases h with
  | nil => exact .nils
  | own id ver l post h h6 _ => exact Imm.refap h h6 rfl
theorem OwnA.keep (h : OwnA e σ lo hi x l) {σ' : Heap} (hk : ∀ j, lo ≤ j → j < hi → σ'[j]? = σ[j]?) : OwnA e σ' lo hi x l := by
  cases h with
  | nil => exact .nil
  | own id ver l post h h6 h1 => exact .own id ver l post ((hk id h1.1 h1.2).trans h) h6 h1
theorem OwnA.shift (h : OwnA e σ lo hi x l) (τ : Heap) : OwnA e (τ ++ σ.map (AObj.ren (Kv.sh τ.length))) (lo + τ.length) (hi + τ.length) (x.ren (Kv.sh τ.length)) l := by
  cases h with
  | nil => simp only [ren_nils]; exact .nil
  | own id ver l post h h6 h1 =>
    simp only [ren_ref, sh_def]
    refine .own _ ver l post ?_ h6 (by omega)
    rw [List.getElem?_append_right (by omega), Nat.add_sub_cancel, List.getElem?_map, h]
    simp only [Option.map_some, ren_arr, ren_aggs]
theorem OwnA.fr (h : OwnA e σ lo hi x l) : x.free := by
  cases h with
  | nil => exact Plain.nils.fr
  | own id ver l post h _ _ => exact free_ref _ _ _ _
theorem free_aggs {v : Nat} {e : TypeId} {s : Nat} (l : List (List Int)) : AObj.free (.arr v e s (aggs l)) := fun c hc => (flat_aggs c hc).fr
theorem Free.aggs (v : Nat) (e : TypeId) (s : Nat) (l : List (List Int)) : Free [.arr v e s (Kv.aggs l)] := fun o ho => by
  simp at ho; subst ho; exact free_aggs l
/-- New maps of one's own, and a number. -/
def NewAO (P : Program) (f : FuncId) (args : List PV) (e : TypeId) (l : List (List Int)) (r : Int) : Prop :=
  ACall P f args [] fun v s => ∃ x, v = .tup [x, .int .i64 r] ∧ OwnA e s 0 s.length x l ∧ Free s
theorem NewAO.frozen {P : Program} {f : FuncId} {args : List PV} {r : Int} (h : NewAO P f args e l r) : Pure P f args (.tup [.list (aggs l), .int .i64 r]) :=
  ACall.ret h fun v s ⟨x, hv, hT, _⟩ => by
    subst hv
    exact Fin.freeze (Imm.tupL (.cons hT.imm (.cons (.int _ _ _) (.nil _)))) ⟨rfl, rfl⟩
theorem NewAO.lend {P : Program} {f : FuncId} {args args' : List PV} {r : Int} (h : NewAO P f args' e l r) {σ : Heap} {K : PV → Heap → Prop} (ha : ImmL σ args args')
    (hk : ∀ (x : PV) (σ' : Heap), OwnA e σ' σ.length σ'.length x l → (∀ j, j < σ.length → σ'[j]? = σ[j]?) → σ.length ≤ σ'.length → K (.tup [x, .int .i64 r]) σ') : ACall P f args σ K := by
  refine ACall.lend h ha fun v s ⟨x, hv, hT, hf⟩ => ?_
  subst hv
  refine ⟨⟨free_tup fun c hc => ?_, hf⟩, ?_⟩
  · simp only [List.mem_cons, List.not_mem_nil, or_false] at hc
    rcases hc with rfl | rfl
    · exact hT.fr
    · exact (Plain.int _ _).fr
  · have h1 := hT.shift σ
    have e : (σ ++ s.map (AObj.ren (Kv.sh σ.length))).length = s.length + σ.length := by simp; omega
    rw [Nat.zero_add, ← e] at h1
    have := hk _ _ h1 (fun j hj => List.getElem?_append_left hj) (by simp)
    simpa only [ren_tup, ren_int, List.map_cons, List.map_nil] using this
end Go.Proofs.YthbbjbfbeaiphaaGreat
end
section
/- The list of maps of the classes of an invariant partition: both sides. -/
namespace Go.Proofs.YthbbjbfbeaiphaaGreat
open Go.Kv
set_option maxRecDepth 100000
def k169_b0 : KC := (.seq (.seq (.ops [mV 8 4, mV 9 0, oP 10 (.len false (.t 9)), oP 11 (.bin .lss (.t 8) (.t 10))])
  (.cond (.t 11) .skip (.exit 0)))
  (.seq (.block 1 (.ops [mV 14 4, mV 15 0, mV 16 4, oP 17 (.idxS 1 (.t 15) (.t 16)), oP 18 (.load false 1 (.t 17)), oP 19 (.fieldA 1 (.t 3)), oP 20 (.idxA 5 1 (.t 19) (.t 14)), ⟨none, none, .store 1 (.t 20) (.t 18)⟩]))
  (.ops [mV 12 4, oP 13 (.bin .add (.t 12) (iC 1)), mV 4 13])))
def k169 : KC := (.seq (.ops [oP 2 (.alloc [.int .i64 0, .int .i64 0, .int .i64 0, .int .i64 0, .int .i64 0, .int .i64 0])])
  (.seq (.ops [mV 5 0, oP 6 (.len false (.t 5)), oP 7 (.build [.int .i64 0, .int .i64 0, .int .i64 0, .int .i64 0, .int .i64 0, .int .i64 0] [(0, 1, (.t 6))]), oP 3 (.alloc [.int .i64 0, .int .i64 0, .int .i64 0, .int .i64 0, .int .i64 0, .int .i64 0]), ⟨none, none, .store 6 (.t 3) (.t 7)⟩])
  (.seq (.seq (.ops [oP 4 (.mv (iC 0))])
  (.block 0 (.loop k169_b0)))
  (.seq (.ops [oP 21 (.load true 6 (.t 3)), ⟨none, none, .store 6 (.t 2) (.t 21)⟩])
  .ret))))
theorem e169 : Ent 169 22 [] [.cell 2 true 6] k169 := ent Tryz.func169 (by kernel_rfl) (by kernel_rfl) (by kernel_rfl) (fun _ => by kernel_rfl) (by kernel_rfl)
end Go.Proofs.YthbbjbfbeaiphaaGreat
namespace Go.Proofs.YthbbjbfbeaiphaaGreat
open Go.Kv
set_option linter.unusedVariables false
set_option linter.unusedSimpArgs false
attribute [local irreducible] ACall PCall KL
/-- The greatest of numbers. -/
def mxl (P : List Int) : Int := P.foldl max (-1)
theorem natD (l : List Nat) (x : Nat) : (l.map fun x : Nat => (x : Int)).getD x 0 = (l.getD x 0 : Int) := by
  simp only [List.getD_eq_getElem?_getD, List.getElem?_map]
  cases l[x]? <;> rfl
theorem p169 (l : List Nat) (hl : l.length ≤ 5) : Pure Tryz.prog 169 [.list (ints (l.map fun x : Nat => (x : Int)))] (.agg (ints (mp l))) := by
  refine e169 (by simp) fun _ _ => ?_
  simp only [k169, argEnv, List.length_map, take6, List.drop_zero, Int.cast_ofNat_Int, go_sem, ↓reduceIte, Nat.reduceEqDiff, Nat.reduceAdd, Nat.reduceMul, Nat.reduceLeDiff, Nat.reduceLT, Int.reduceLE, Int.reduceLT, reduceCtorEq]
  refine KL_ind k169_b0.eq_1 (fun x : Nat => [(0, .list (ints (l.map fun x : Nat => (x : Int)))), (2, .ptr 0 0), (3, .ptr 1 0), (4, .int .i64 x)]) (fun x => [.box (ints [0, 0, 0, 0, 0, 0]), .box (ints (mpN l.length (l.take x)))]) (fun x => x ≤ l.length) (fun x => l.length - x) [0, 2, 3, 4] 0 (by rfl) (by rfl) (Nat.zero_le _) fun x hx ih => ?_
  have h6 : (mpN (l.length : Int) (l.take x)).length = 6 := mpN_length (by simp; omega)
  try simp only [h6, List.length_map, take6, List.drop_zero, Int.cast_ofNat_Int, go_sem, ↓reduceIte, Nat.reduceEqDiff, Nat.reduceAdd, Nat.reduceMul, Nat.reduceLeDiff, Nat.reduceLT, Int.reduceLE, Int.reduceLT, reduceCtorEq]
  refine ⟨fun h3 => ?_, fun h3 => ?_⟩
  · refine ⟨by omega, fun h4 => ⟨by omega, by omega, by omega, ?_⟩⟩
    refine ih (x + 1) (by omega) (by omega) _ _ (by rfl) ?_
    rw [natD, mpN_pushI (by simp; omega) (by simp; omega), List.take_succ_eq_append_getElem h4, getD_eq h4]
  · obtain rfl : x = l.length := by omega
    rw [List.take_length]
    exact Kv.Fin.still ⟨rfl, rfl⟩
/-- The images of the classes, of the first x points. -/
def st (Q f : List Nat) (c x : Nat) : List Nat := (List.range x).foldl (fun s p => s.set (Q.getD p 0) (Q.getD (f.getD p 0) 0)) (List.replicate c 0)
theorem st_zero (Q f : List Nat) (c : Nat) : st Q f c 0 = List.replicate c 0 := rfl
theorem st_succ (Q f : List Nat) (c x : Nat) : st Q f c (x + 1) = (st Q f c x).set (Q.getD x 0) (Q.getD (f.getD x 0) 0) := by simp [st, List.range_succ]
@[simp] theorem st_length (Q f : List Nat) (c : Nat) : ∀ x, (st Q f c x).length = c
  | 0 => by simp [st_zero]
  | x + 1 => by rw [st_succ, List.length_set, st_length Q f c x]
/-- What a right list and an invariant partition give. -/
def lcl (Q : List Nat) (c : Nat) (fs : List (List Nat)) : List (List Int) := fs.map fun f => mp (st Q f c Q.length)
@[simp] theorem lcl_length (Q : List Nat) (c : Nat) (fs : List (List Nat)) : (lcl Q c fs).length = fs.length := by simp [lcl]
end Go.Proofs.YthbbjbfbeaiphaaGreat
end
section
/- Tables: what a table is, by both sides; searching by a predicate. -/
namespace Go.Proofs.YthbbjbfbeaiphaaGreat
open Go.Kv
set_option maxRecDepth 100000
def k53_b0 : KC := (.seq (.seq (.ops [mV 26 5, mV 27 3, oP 28 (.bin .lss (.t 26) (.t 27))])
  (.cond (.t 28) .skip (.exit 2)))
  (.seq (.block 3 (.seq (.ops [mV 31 0, mV 32 4, oP 33 (.idxS 1 (.t 31) (.t 32)), oP 34 (.load false 1 (.t 33)), mV 35 5, oP 36 (.idxS 1 (.t 34) (.t 35)), oP 37 (.load false 1 (.t 36)), mV 38 3, oP 39 (.bin .sub (.t 38) (iC 1)), oP 40 (.call (fC 126) [(.t 37), (iC 0), (.t 39)]), oP 41 (.not (.t 40))])
  (.cond (.t 41) (.seq (.ops [oP 2 (.mv (.c (.bool false)))])
  .ret) .skip)))
  (.ops [mV 29 5, oP 30 (.bin .add (.t 29) (iC 1)), mV 5 30])))
def k53_b1 : KC := (.seq (.seq (.ops [mV 14 4, mV 15 3, oP 16 (.bin .lss (.t 14) (.t 15))])
  (.cond (.t 16) .skip (.exit 0)))
  (.seq (.block 1 (.seq (.seq (.ops [mV 19 0, mV 20 4, oP 21 (.idxS 1 (.t 19) (.t 20)), oP 22 (.load false 1 (.t 21)), oP 23 (.len false (.t 22)), mV 24 3, oP 25 (.bin .neq (.t 23) (.t 24))])
  (.cond (.t 25) (.seq (.ops [oP 2 (.mv (.c (.bool false)))])
  .ret) .skip))
  (.seq (.ops [oP 5 (.mv (iC 0))])
  (.block 2 (.loop k53_b0)))))
  (.ops [mV 17 4, oP 18 (.bin .add (.t 17) (iC 1)), mV 4 18])))
def k53 : KC := (.seq (.ops [oP 2 (.mv (.c (.bool false)))])
  (.seq (.ops [mV 6 0, oP 7 (.len false (.t 6)), mV 3 7])
  (.seq (.seq (.ops [mV 8 3, oP 9 (.bin .lss (.t 8) (iC 1)), mV 10 9, ⟨(some 11), some (10, false), .mv (.t 3)⟩, ⟨(some 12), some (10, false), .bin .gtr (.t 11) (iC 40)⟩, oP 13 (.pick (.t 10) (.c (.bool true)) (.t 12))])
  (.cond (.t 13) (.seq (.ops [oP 2 (.mv (.c (.bool false)))])
  .ret) .skip))
  (.seq (.seq (.ops [oP 4 (.mv (iC 0))])
  (.block 0 (.loop k53_b1)))
  (.seq (.ops [oP 2 (.mv (.c (.bool true)))])
  .ret)))))
theorem e53 : Ent 53 42 [] [.t 2] k53 := ent Tryz.func53 (by kernel_rfl) (by kernel_rfl) (by kernel_rfl) (fun _ => by kernel_rfl) (by kernel_rfl)
def k49 : KC := (.seq (.ops [oP 2 (.mv (.c (.bool false)))])
  (.seq (.ops [mV 4 0, oP 5 (.len false (.t 4)), oP 3 (.alloc [.int .i64 0]), ⟨none, none, .store 1 (.t 3) (.t 5)⟩])
  (.seq (.ops [oP 6 (.load false 1 (.t 3)), oP 7 (.call (fC 120) [(.t 6), (iC 1), (iC 40)]), mV 8 7, ⟨(some 9), some (8, true), .mv (.t 0)⟩, ⟨(some 10), some (8, true), .mkfn (.func 122) [] [(.t 3)]⟩, ⟨(some 11), some (8, true), .call (fC 121) [(.t 9), (.t 10)]⟩, ⟨(some 12), some (8, true), .not (.t 11)⟩, oP 13 (.pick (.t 8) (.t 12) (.c (.bool false))), mV 2 13])
  .ret)))
theorem e49 : Ent 49 14 [] [.t 2] k49 := ent Tryz.func49 (by kernel_rfl) (by kernel_rfl) (by kernel_rfl) (fun _ => by kernel_rfl) (by kernel_rfl)
def k121 : KC := (.seq (.ops [oP 4 (.mv (.c (.bool false)))])
  (.seq (.ops [mV 5 0, mV 6 1, oP 7 (.call (fC 155) [(.t 5), (.t 6)]), oP 8 (.bin .geq (.t 7) (iC 0)), mV 4 8])
  .ret))
theorem e121 : Ent 121 9 [] [.t 4] k121 := ent Tryz.func121 (by kernel_rfl) (by kernel_rfl) (by kernel_rfl) (fun _ => by kernel_rfl) (by kernel_rfl)
def k122 : KC := (.seq (.ops [oP 3 (.mv (.c (.bool false)))])
  (.seq (.ops [mV 4 0, oP 5 (.len false (.t 4)), oP 6 (.load false 1 (.t 1)), oP 7 (.bin .neq (.t 5) (.t 6)), mV 8 7, ⟨(some 9), some (8, false), .mv (.t 0)⟩, ⟨(some 10), some (8, false), .mkfn (.func 124) [] [(.t 1)]⟩, ⟨(some 11), some (8, false), .call (fC 123) [(.t 9), (.t 10)]⟩, oP 12 (.pick (.t 8) (.c (.bool true)) (.t 11)), mV 3 12])
  .ret))
theorem e122 : Ent 122 13 [] [.t 3] k122 := ent Tryz.func122 (by kernel_rfl) (by kernel_rfl) (by kernel_rfl) (fun _ => by kernel_rfl) (by kernel_rfl)
def k123 : KC := (.seq (.ops [oP 4 (.mv (.c (.bool false)))])
  (.seq (.ops [mV 5 0, mV 6 1, oP 7 (.call (fC 142) [(.t 5), (.t 6)]), oP 8 (.bin .geq (.t 7) (iC 0)), mV 4 8])
  .ret))
theorem e123 : Ent 123 9 [] [.t 4] k123 := ent Tryz.func123 (by kernel_rfl) (by kernel_rfl) (by kernel_rfl) (fun _ => by kernel_rfl) (by kernel_rfl)
def k124 : KC := (.seq (.ops [oP 3 (.mv (.c (.bool false)))])
  (.seq (.ops [mV 4 0, oP 5 (.load false 1 (.t 1)), oP 6 (.bin .sub (.t 5) (iC 1)), oP 7 (.call (fC 120) [(.t 4), (iC 0), (.t 6)]), oP 8 (.not (.t 7)), mV 3 8])
  .ret))
theorem e124 : Ent 124 9 [] [.t 3] k124 := ent Tryz.func124 (by kernel_rfl) (by kernel_rfl) (by kernel_rfl) (fun _ => by kernel_rfl) (by kernel_rfl)
def k142_b0 : KC := (.seq (.ops [oP 9 (.bin .lss (.t 8) (.t 7))])
  (.seq (.cond (.t 9) .skip (.exit 0))
  (.seq (.block 1 (.seq (.ops [mV 10 8, mV 5 10])
  (.seq (.ops [mV 11 1, mV 12 0, mV 13 5, oP 14 (.idxS 1 (.t 12) (.t 13)), oP 15 (.load false 1 (.t 14)), oP 16 (.call (.t 11) [(.t 15)])])
  (.cond (.t 16) (.seq (.ops [mV 17 5, mV 4 17])
  .ret) .skip))))
  (.ops [oP 18 (.bin .add (.t 8) (iC 1)), mV 8 18]))))
def k142 : KC := (.seq (.ops [oP 4 (.mv (iC 0))])
  (.seq (.seq (.ops [mV 6 0, oP 7 (.len false (.t 6)), oP 8 (.mv (iC 0))])
  (.block 0 (.loop k142_b0)))
  (.seq (.ops [oP 4 (.mv (iC (-1)))])
  .ret)))
theorem e142 : Ent 142 19 [] [.t 4] k142 := ent Tryz.func142 (by kernel_rfl) (by kernel_rfl) (by kernel_rfl) (fun _ => by kernel_rfl) (by kernel_rfl)
def k155_b0 : KC := (.seq (.ops [oP 9 (.bin .lss (.t 8) (.t 7))])
  (.seq (.cond (.t 9) .skip (.exit 0))
  (.seq (.block 1 (.seq (.ops [mV 10 8, mV 5 10])
  (.seq (.ops [mV 11 1, mV 12 0, mV 13 5, oP 14 (.idxS 1 (.t 12) (.t 13)), oP 15 (.load false 1 (.t 14)), oP 16 (.call (.t 11) [(.t 15)])])
  (.cond (.t 16) (.seq (.ops [mV 17 5, mV 4 17])
  .ret) .skip))))
  (.ops [oP 18 (.bin .add (.t 8) (iC 1)), mV 8 18]))))
def k155 : KC := (.seq (.ops [oP 4 (.mv (iC 0))])
  (.seq (.seq (.ops [mV 6 0, oP 7 (.len false (.t 6)), oP 8 (.mv (iC 0))])
  (.block 0 (.loop k155_b0)))
  (.seq (.ops [oP 4 (.mv (iC (-1)))])
  .ret)))
theorem e155 : Ent 155 19 [] [.t 4] k155 := ent Tryz.func155 (by kernel_rfl) (by kernel_rfl) (by kernel_rfl) (fun _ => by kernel_rfl) (by kernel_rfl)
end Go.Proofs.YthbbjbfbeaiphaaGreat
namespace Go.Proofs.YthbbjbfbeaiphaaGreat
open Go.Kv
set_option linter.unusedVariables false
set_option linter.unusedSimpArgs false
attribute [local irreducible] ACall PCall KL
/-- A row is one of a table of n: its length, its members. -/
def rowOk (n : Nat) (r : List Int) : Bool := decide (r.length = n) && r.all fun x => decide (0 ≤ x ∧ x ≤ (n : Int) - 1)
def isTab (t : List (List Int)) : Bool := decide (1 ≤ t.length ∧ t.length ≤ 40) && t.all (rowOk t.length)
theorem p53 (t : List (List Int)) (ht : t.length ≤ 1048576) (hl : ∀ r ∈ t, r.length ≤ 1048576) : Pure Tryz.prog 53 [.list (rows t)] (.bool (isTab t)) := by
  refine e53 (by simp) fun _ _ => ?_
  simp only [k53, argEnv, go_sem, ↓reduceIte, Nat.reduceEqDiff, Nat.reduceAdd, reduceCtorEq]
  by_cases h0 : (t.length : Int) < 1
  · have : isTab t = false := by simp [isTab]; omega
    simp only [h0, this, decide_true, true_implies, not_true_eq_false, false_implies, and_true]
    repeat' (first | refine And.intro ?_ ?_ | intro _)
    all_goals (try first | exact True.intro | contradiction)
    exact Kv.Fin.now ⟨rfl, rfl⟩
  by_cases h1 : 40 < (t.length : Int)
  · have : isTab t = false := by simp [isTab]; omega
    simp only [h0, h1, this, decide_true, true_implies, not_false_eq_true, not_true_eq_false, false_implies, and_true, true_and]
    exact Kv.Fin.now ⟨rfl, rfl⟩
  simp only [h0, h1, decide_false, not_false_eq_true, true_implies, not_true_eq_false, false_implies, and_true, true_and]
  have hT : isTab t = t.all (rowOk t.length) := by
    have : 1 ≤ t.length ∧ t.length ≤ 40 := by omega
    simp [isTab, this]
  rw [hT]
  refine KL_ind k53_b1.eq_1 (fun x : Nat => [(4, .int .i64 x), (3, .int .i64 t.length), (0, .list (rows t))]) (fun _ => []) (fun x => x ≤ t.length ∧ (t.take x).all (rowOk t.length) = true) (fun x => t.length - x) [4, 3, 0] 0 rfl rfl ⟨Nat.zero_le _, by simp⟩ fun x ⟨hx, hall⟩ ihx => ?_
  simp only [go_sem, ↓reduceIte, Nat.reduceEqDiff, Nat.reduceAdd, reduceCtorEq]
  refine ⟨fun h2 => ⟨by omega, fun h3 => ?_⟩, fun h2 => ?_⟩
  · have hr := getD_eq h3 ([] : List Int)
    rw [hr]
    have hlen := hl _ (List.getElem_mem h3)
    refine ⟨fun h4 => ?_, fun h4 => ?_⟩
    · refine Kv.Fin.now ⟨?_, rfl⟩
      rw [not_all h3 (by simp [rowOk]; omega)]
    · have h4' : t[x].length = t.length := by omega
      refine KL_ind k53_b0.eq_1 (fun y : Nat => [(5, .int .i64 y), (4, .int .i64 x), (3, .int .i64 t.length), (0, .list (rows t))]) (fun _ => []) (fun y => y ≤ t.length ∧ (t[x].take y).all (fun x => decide (0 ≤ x ∧ x ≤ (t.length : Int) - 1)) = true) (fun y => t.length - y) [5, 4, 3, 0] 0 rfl rfl ⟨Nat.zero_le _, by simp⟩ fun y ⟨hy, hyall⟩ ihy => ?_
      simp only [go_sem, ↓reduceIte, Nat.reduceEqDiff, Nat.reduceAdd, reduceCtorEq]
      refine ⟨fun h5 => ⟨by omega, fun h6 => ?_⟩, fun h5 => ?_⟩
      · rw [hr]
        refine ⟨by omega, fun h7 => ?_⟩
        rw [getD_eq h7]
        refine ⟨by omega, ?_⟩
        refine (p126 _ _ _).use (.bool _) (.cons (.int _ _ _) (.cons (.int _ _ _) (.cons (.int _ _ _) (.nil _)))) ?_
        simp only [go_sem, ↓reduceIte, Nat.reduceEqDiff, Nat.reduceAdd, reduceCtorEq]
        refine ⟨fun h8 => ?_, fun h8 => ⟨by omega, ?_⟩⟩
        · refine Kv.Fin.now ⟨?_, rfl⟩
          rw [not_all h3 (by simp only [rowOk]; rw [not_all h7 (by simpa using h8), Bool.and_false])]
        · refine ihy (y + 1) ⟨by omega, ?_⟩ (by omega) _ _ rfl rfl
          rw [all_take_succ _ h7, hyall]
          simpa using h8
      · obtain rfl : y = t.length := by omega
        refine ⟨by omega, ?_⟩
        refine ihx (x + 1) ⟨by omega, ?_⟩ (by omega) _ _ rfl rfl
        rw [all_take_succ _ h3, hall]
        rw [← h4', List.take_length] at hyall
        rw [h4'] at hyall
        simp only [rowOk, h4', decide_true, Bool.true_and, hyall]
  · obtain rfl : x = t.length := by omega
    rw [List.take_length] at hall
    exact Kv.Fin.now ⟨by rw [hall], rfl⟩

theorem Imm.boxi {σ : Heap} {id : Nat} {n : Int} (h : σ[id]? = some (.box [.int .i64 n])) : Imm σ (.ptr id 0) (.fptr [.int .i64 n] 0) := .ptr id 0 [.int .i64 n] [.int .i64 n] h rfl rfl (fun i c d h1 h2 => by
  rw [h1] at h2; cases h2
  have := List.mem_of_getElem? h1
  simp at this; subst this
  exact .int _ _ _)
theorem up_fi (n : Int) : ∀ c ∈ [PV.fptr [.int .i64 n] 0], PV.upto 0 c := up1 (upto_fptr 0 0 fun c hc => by simp at hc; subst hc; exact .int _ _)
theorem p142 (l : List Int) (hl : l.length ≤ 4294967296) (fid : FuncId) (caps : List PV) (hc : ∀ c ∈ caps, PV.upto 0 c) (p : Int → Bool) (hp : ∀ x ∈ l, Pure Tryz.prog fid (.int .i64 x :: caps) (.bool (p x))) :
    Pure Tryz.prog 142 [.list (ints l), .fn (.func fid) [] caps] (.int .i64 (idx p l)) := by
  refine e142 (by simp) fun _ _ => ?_
  simp only [k142, argEnv, go_sem, ↓reduceIte, Nat.reduceEqDiff, Nat.reduceAdd, reduceCtorEq]
  refine KL_ind k142_b0.eq_1 (fun x : Nat => [(8, .int .i64 x), (7, .int .i64 l.length), (0, .list (ints l)), (1, .fn (.func fid) [] caps)]) (fun _ => []) (fun x => x ≤ l.length ∧ (l.take x).any p = false) (fun x => l.length - x) [8, 7, 0, 1] 0 rfl rfl ⟨Nat.zero_le _, by simp⟩ fun x ⟨hx, hall⟩ ih => ?_
  simp only [go_sem, ↓reduceIte, Nat.reduceEqDiff, Nat.reduceAdd, reduceCtorEq]
  refine ⟨fun h1 => ⟨by omega, fun h2 => ?_⟩, fun h1 => ?_⟩
  · rw [getD_eq h2]
    refine (hp _ (List.getElem_mem h2)).use (.bool _) (.cons (.int _ _ _) (up_self hc)) ?_
    simp only [go_sem, ↓reduceIte, Nat.reduceEqDiff, Nat.reduceAdd, reduceCtorEq]
    refine ⟨fun h3 => ?_, fun h3 => ⟨by omega, ?_⟩⟩
    · exact Kv.Fin.now ⟨by rw [idx_some h2 hall h3], rfl⟩
    · refine ih (x + 1) ⟨by omega, ?_⟩ (by omega) _ _ rfl rfl
      rw [any_take_succ _ h2, hall, h3]; rfl
  · obtain rfl : x = l.length := by omega
    rw [List.take_length] at hall
    exact Kv.Fin.now ⟨by rw [idx_none hall], rfl⟩
theorem p155 (l : List (List Int)) (hl : l.length ≤ 4294967296) (fid : FuncId) (caps : List PV) (hc : ∀ c ∈ caps, PV.upto 0 c) (p : List Int → Bool) (hp : ∀ x ∈ l, Pure Tryz.prog fid (.list (ints x) :: caps) (.bool (p x))) :
    Pure Tryz.prog 155 [.list (rows l), .fn (.func fid) [] caps] (.int .i64 (idx p l)) := by
  refine e155 (by simp) fun _ _ => ?_
  simp only [k155, argEnv, go_sem, ↓reduceIte, Nat.reduceEqDiff, Nat.reduceAdd, reduceCtorEq]
  refine KL_ind k155_b0.eq_1 (fun x : Nat => [(8, .int .i64 x), (7, .int .i64 l.length), (0, .list (rows l)), (1, .fn (.func fid) [] caps)]) (fun _ => []) (fun x => x ≤ l.length ∧ (l.take x).any p = false) (fun x => l.length - x) [8, 7, 0, 1] 0 rfl rfl ⟨Nat.zero_le _, by simp⟩ fun x ⟨hx, hall⟩ ih => ?_
  simp only [go_sem, ↓reduceIte, Nat.reduceEqDiff, Nat.reduceAdd, reduceCtorEq]
  refine ⟨fun h1 => ⟨by omega, fun h2 => ?_⟩, fun h1 => ?_⟩
  · rw [getD_eq h2]
    refine (hp _ (List.getElem_mem h2)).use (.bool _) (.cons (.listi _ _) (up_self hc)) ?_
    simp only [go_sem, ↓reduceIte, Nat.reduceEqDiff, Nat.reduceAdd, reduceCtorEq]
    refine ⟨fun h3 => ?_, fun h3 => ⟨by omega, ?_⟩⟩
    · exact Kv.Fin.now ⟨by rw [idx_some h2 hall h3], rfl⟩
    · refine ih (x + 1) ⟨by omega, ?_⟩ (by omega) _ _ rfl rfl
      rw [any_take_succ _ h2, hall, h3]; rfl
  · obtain rfl : x = l.length := by omega
    rw [List.take_length] at hall
    exact Kv.Fin.now ⟨by rw [idx_none hall], rfl⟩
theorem p123 (l : List Int) (hl : l.length ≤ 4294967296) (fid : FuncId) (caps : List PV) (hc : ∀ c ∈ caps, PV.upto 0 c) (p : Int → Bool) (hp : ∀ x ∈ l, Pure Tryz.prog fid (.int .i64 x :: caps) (.bool (p x))) :
    Pure Tryz.prog 123 [.list (ints l), .fn (.func fid) [] caps] (.bool (l.any p)) := by
  refine e123 (by simp) fun _ _ => ?_
  simp only [k123, argEnv, go_sem, ↓reduceIte, Nat.reduceEqDiff, Nat.reduceAdd, reduceCtorEq]
  refine (p142 l hl fid caps hc p hp).use (.int _ _) (.cons (.listi _ _) (.cons (Imm.fnc _ (up_self hc)) (.nil _))) ?_
  simp only [go_sem, ↓reduceIte, Nat.reduceEqDiff, Nat.reduceAdd, reduceCtorEq]
  exact Kv.Fin.now ⟨by rw [idx_nonneg], rfl⟩
theorem p121 (l : List (List Int)) (hl : l.length ≤ 4294967296) (fid : FuncId) (caps : List PV) (hc : ∀ c ∈ caps, PV.upto 0 c) (p : List Int → Bool) (hp : ∀ x ∈ l, Pure Tryz.prog fid (.list (ints x) :: caps) (.bool (p x))) :
    Pure Tryz.prog 121 [.list (rows l), .fn (.func fid) [] caps] (.bool (l.any p)) := by
  refine e121 (by simp) fun _ _ => ?_
  simp only [k121, argEnv, go_sem, ↓reduceIte, Nat.reduceEqDiff, Nat.reduceAdd, reduceCtorEq]
  refine (p155 l hl fid caps hc p hp).use (.int _ _) (.cons (.listr _ _) (.cons (Imm.fnc _ (up_self hc)) (.nil _))) ?_
  simp only [go_sem, ↓reduceIte, Nat.reduceEqDiff, Nat.reduceAdd, reduceCtorEq]
  exact Kv.Fin.now ⟨by rw [idx_nonneg], rfl⟩
theorem p124 (x : Int) (n : Nat) (hn : n ≤ 1048576) : Pure Tryz.prog 124 [.int .i64 x, .fptr [.int .i64 n] 0] (.bool (!decide (0 ≤ x ∧ x ≤ (n : Int) - 1))) := by
  refine e124 (by simp) fun _ _ => ?_
  simp only [k124, argEnv, go_sem, ↓reduceIte, Nat.reduceEqDiff, Nat.reduceAdd, reduceCtorEq]
  refine ⟨by omega, ?_⟩
  refine (p120 _ _ _).use (.bool _) (.cons (.int _ _ _) (.cons (.int _ _ _) (.cons (.int _ _ _) (.nil _)))) ?_
  simp only [go_sem, ↓reduceIte, Nat.reduceEqDiff, Nat.reduceAdd, reduceCtorEq]
  exact Kv.Fin.now ⟨rfl, rfl⟩
theorem p122 (r : List Int) (n : Nat) (hn : n ≤ 1048576) (hr : r.length ≤ 1048576) : Pure Tryz.prog 122 [.list (ints r), .fptr [.int .i64 n] 0] (.bool (!rowOk n r)) := by
  refine e122 (by simp) fun _ _ => ?_
  simp only [k122, argEnv, go_sem, ↓reduceIte, Nat.reduceEqDiff, Nat.reduceAdd, reduceCtorEq]
  by_cases h : (r.length : Int) = n
  · have h' : r.length = n := by omega
    simp only [h, h', not_true_eq_false, decide_false, false_implies, true_implies, true_and, and_true]
    refine (p123 r (by omega) 124 [.fptr [.int .i64 n] 0] (up_fi n) (fun x => !decide (0 ≤ x ∧ x ≤ (n : Int) - 1)) fun x _ => p124 x n hn).use (.bool _) (.cons (.listi _ _) (.cons (Imm.fnc _ (up_self (up_fi n))) (.nil _))) ?_
    simp only [go_sem, ↓reduceIte, Nat.reduceEqDiff, Nat.reduceAdd, reduceCtorEq]
    refine Kv.Fin.now ⟨?_, rfl⟩
    simp [rowOk, h', List.any_eq_not_all_not]
  · have h' : ¬ r.length = n := by omega
    simp only [h, h', not_false_eq_true, decide_true, false_implies, true_implies, true_and, and_true, not_true_eq_false]
    repeat' (first | refine And.intro ?_ ?_ | intro _)
    all_goals (try contradiction)
    refine Kv.Fin.now ⟨?_, rfl⟩
    simp [rowOk, h']
theorem p49 (t : List (List Int)) (ht : t.length ≤ 1048576) (hl : ∀ r ∈ t, r.length ≤ 1048576) : Pure Tryz.prog 49 [.list (rows t)] (.bool (isTab t)) := by
  refine e49 (by simp) fun _ _ => ?_
  simp only [k49, argEnv, go_sem, ↓reduceIte, Nat.reduceEqDiff, Nat.reduceAdd, reduceCtorEq]
  refine ⟨by omega, ?_⟩
  refine (p120 _ _ _).use (.bool _) (.cons (.int _ _ _) (.cons (.int _ _ _) (.cons (.int _ _ _) (.nil _)))) ?_
  simp only [go_sem, ↓reduceIte, Nat.reduceEqDiff, Nat.reduceAdd, reduceCtorEq]
  refine ⟨fun h => ?_, fun h => ?_⟩
  · have h' : 1 ≤ t.length ∧ t.length ≤ 40 := by omega
    refine (p121 t (by omega) 122 [.fptr [.int .i64 t.length] 0] (up_fi _) (fun r => !rowOk t.length r) fun r hr => p122 r t.length ht (hl r hr)).use (.bool _) (.cons (.listr _ _) (.cons (Imm.fnc _ (.cons (Imm.boxi rfl) (.nil _))) (.nil _))) ?_
    simp only [go_sem, ↓reduceIte, Nat.reduceEqDiff, Nat.reduceAdd, reduceCtorEq]
    refine Kv.Fin.clean (Plain.bool _).up ⟨?_, rfl⟩
    simp [isTab, h', List.any_eq_not_all_not]
  · have h' : ¬ (1 ≤ t.length ∧ t.length ≤ 40) := by omega
    repeat' (first | refine And.intro ?_ ?_ | intro _)
    refine Kv.Fin.clean (Plain.bool _).up ⟨?_, rfl⟩
    simp [isTab, h']
end Go.Proofs.YthbbjbfbeaiphaaGreat
end
section
/- The identity of a table: both sides, and the law's function. -/
namespace Go.Proofs.YthbbjbfbeaiphaaGreat
open Go.Kv
set_option maxRecDepth 100000
def k25 : KC := (.seq (.ops [oP 2 (.mv (iC 0)), oP 3 (.mv (iC 0))])
  (.seq (.seq (.ops [mV 5 0, oP 6 (.call (fC 49) [(.t 5)]), oP 7 (.not (.t 6))])
  (.cond (.t 7) (.seq (.ops [oP 2 (.mv (iC 0)), oP 3 (.mv (iC 2))])
  .ret) .skip))
  (.seq (.ops [mV 8 0, oP 9 (.call (fC 77) [(.t 8)]), mV 4 9])
  (.seq (.seq (.ops [mV 10 4, oP 11 (.bin .lss (.t 10) (iC 0))])
  (.cond (.t 11) (.seq (.ops [oP 2 (.mv (iC 0)), oP 3 (.mv (iC 4))])
  .ret) .skip))
  (.seq (.ops [mV 12 4, mV 2 12, oP 3 (.mv (iC 0))])
  .ret)))))
theorem e25 : Ent 25 13 [] [.t 2, .t 3] k25 := ent Tryz.func25 (by kernel_rfl) (by kernel_rfl) (by kernel_rfl) (fun _ => by kernel_rfl) (by kernel_rfl)
def k77_b0 : KC := (.seq (.ops [oP 17 (.bin .lss (.t 16) (.t 15))])
  (.seq (.cond (.t 17) .skip (.exit 2))
  (.seq (.block 3 (.seq (.ops [mV 18 16, mV 6 18])
  (.ops [mV 19 5, mV 20 19, ⟨(some 21), some (20, true), .mv (.t 4)⟩, ⟨(some 22), some (20, true), .mv (.t 6)⟩, ⟨(some 23), some (20, true), .idxS 1 (.t 21) (.t 22)⟩, ⟨(some 24), some (20, true), .load false 1 (.t 23)⟩, ⟨(some 25), some (20, true), .mv (.t 6)⟩, ⟨(some 26), some (20, true), .bin .eql (.t 24) (.t 25)⟩, oP 27 (.pick (.t 20) (.t 26) (.c (.bool false))), mV 28 27, ⟨(some 29), some (28, true), .mv (.t 0)⟩, ⟨(some 30), some (28, true), .mv (.t 6)⟩, ⟨(some 31), some (28, true), .idxS 1 (.t 29) (.t 30)⟩, ⟨(some 32), some (28, true), .load false 1 (.t 31)⟩, ⟨(some 33), some (28, true), .mv (.t 3)⟩, ⟨(some 34), some (28, true), .idxS 1 (.t 32) (.t 33)⟩, ⟨(some 35), some (28, true), .load false 1 (.t 34)⟩, ⟨(some 36), some (28, true), .mv (.t 6)⟩, ⟨(some 37), some (28, true), .bin .eql (.t 35) (.t 36)⟩, oP 38 (.pick (.t 28) (.t 37) (.c (.bool false))), mV 5 38])))
  (.ops [oP 39 (.bin .add (.t 16) (iC 1)), mV 16 39]))))
def k77_b1 : KC := (.seq (.ops [oP 10 (.bin .lss (.t 9) (.t 8))])
  (.seq (.cond (.t 10) .skip (.exit 0))
  (.seq (.block 1 (.seq (.ops [mV 11 9, oP 12 (.idxS 1 (.t 7) (.t 9)), oP 13 (.load false 1 (.t 12)), mV 3 11, mV 4 13])
  (.seq (.ops [oP 5 (.mv (.c (.bool true)))])
  (.seq (.seq (.ops [mV 14 0, oP 15 (.len false (.t 14)), oP 16 (.mv (iC 0))])
  (.block 2 (.loop k77_b0)))
  (.seq (.ops [mV 40 5])
  (.cond (.t 40) (.seq (.ops [mV 41 3, mV 2 41])
  .ret) .skip))))))
  (.ops [oP 42 (.bin .add (.t 9) (iC 1)), mV 9 42]))))
def k77 : KC := (.seq (.ops [oP 2 (.mv (iC 0))])
  (.seq (.seq (.ops [mV 7 0, oP 8 (.len false (.t 7)), oP 9 (.mv (iC 0))])
  (.block 0 (.loop k77_b1)))
  (.seq (.ops [oP 2 (.mv (iC (-1)))])
  .ret)))
theorem e77 : Ent 77 43 [] [.t 2] k77 := ent Tryz.func77 (by kernel_rfl) (by kernel_rfl) (by kernel_rfl) (fun _ => by kernel_rfl) (by kernel_rfl)
end Go.Proofs.YthbbjbfbeaiphaaGreat
namespace Go.Proofs.YthbbjbfbeaiphaaGreat
open Go.Kv
set_option linter.unusedVariables false
set_option linter.unusedSimpArgs false
attribute [local irreducible] ACall PCall KL
def tat (t : List (List Int)) (i j : Nat) : Int := (t.getD i []).getD j 0
def okE (t : List (List Int)) (e y : Nat) : Bool := (List.range y).all fun x => decide (tat t e x = x) && decide (tat t x e = x)
theorem okE_succ (t : List (List Int)) (e y : Nat) : okE t e (y + 1) = (okE t e y && (decide (tat t e y = y) && decide (tat t y e = y))) := by simp [okE, List.range_succ, List.all_append]
def idn (t : List (List Int)) : Int := idx (fun e => okE t e t.length) (List.range t.length)
theorem tab_sq {t : List (List Int)} (h : isTab t = true) : (1 ≤ t.length ∧ t.length ≤ 40) ∧ ∀ i, i < t.length → (t.getD i []).length = t.length := by
  simp only [isTab, Bool.and_eq_true, decide_eq_true_eq, List.all_eq_true] at h
  refine ⟨h.1, fun i hi => ?_⟩
  have := h.2 _ (rows_getD_len hi)
  simp only [rowOk, Bool.and_eq_true, decide_eq_true_eq] at this
  exact this.1
theorem tab_at {t : List (List Int)} (h : isTab t = true) {i j : Nat} (hi : i < t.length) (hj : j < t.length) : 0 ≤ tat t i j ∧ tat t i j ≤ (t.length : Int) - 1 := by
  have hs := (tab_sq h).2 i hi
  simp only [isTab, Bool.and_eq_true, decide_eq_true_eq, List.all_eq_true] at h
  have := h.2 _ (rows_getD_len hi)
  simp only [rowOk, Bool.and_eq_true, decide_eq_true_eq, List.all_eq_true] at this
  exact this.2 _ (by unfold tat; rw [getD_eq (l := t.getD i []) (by omega)]; exact List.getElem_mem _)
theorem p77 (t : List (List Int)) (h : isTab t = true) : Pure Tryz.prog 77 [.list (rows t)] (.int .i64 (idn t)) := by
  obtain ⟨hn, hsq⟩ := tab_sq h
  refine e77 (by simp) fun _ _ => ?_
  simp only [k77, argEnv, go_sem, ↓reduceIte, Nat.reduceEqDiff, Nat.reduceAdd, reduceCtorEq]
  refine KL_ind k77_b1.eq_1 (fun x : Nat => [(9, .int .i64 x), (8, .int .i64 t.length), (7, .list (rows t)), (0, .list (rows t))]) (fun _ => []) (fun x => x ≤ t.length ∧ ((List.range t.length).take x).any (fun e => okE t e t.length) = false) (fun x => t.length - x) [9, 8, 7, 0] 0 rfl rfl ⟨Nat.zero_le _, by simp⟩ fun x ⟨hx, hall⟩ ihx => ?_
  simp only [go_sem, ↓reduceIte, Nat.reduceEqDiff, Nat.reduceAdd, reduceCtorEq]
  refine ⟨fun h1 => ⟨by omega, fun h1' => ?_⟩, fun h1 => ?_⟩
  · have hxl : x < (List.range t.length).length := by simp; omega
    have hsx := hsq x (by omega)
    refine KL_ind k77_b0.eq_1 (fun y : Nat => [(16, .int .i64 y), (15, .int .i64 t.length), (5, .bool (okE t x y)), (4, .list (ints (t.getD x []))), (3, .int .i64 x), (9, .int .i64 x), (8, .int .i64 t.length), (7, .list (rows t)), (0, .list (rows t))]) (fun _ => []) (fun y => y ≤ t.length) (fun y => t.length - y) [16, 15, 5, 4, 3, 9, 8, 7, 0] 0 rfl rfl (Nat.zero_le _) fun y hy ihy => ?_
    simp only [go_sem, ↓reduceIte, Nat.reduceEqDiff, Nat.reduceAdd, reduceCtorEq]
    refine ⟨fun h2 => ?_, fun h2 => ?_⟩
    · have hsy := hsq y (by omega)
      have hs := okE_succ t x y
      unfold tat at hs
      repeat' (first | refine And.intro ?_ ?_ | intro _)
      all_goals (try omega)
      all_goals (try first | exact True.intro | contradiction)
      all_goals refine ihy (y + 1) (by omega) (by omega) _ _ ?_ rfl
      all_goals clear ihx ihy hall hsq h hn hx hsx hsy hy h2 h1
      all_goals rw [hs]
      all_goals clear hs
      all_goals simp only [keep, List.map_cons, List.map_nil, look_cons, ↓reduceIte, Nat.reduceEqDiff, reduceCtorEq, *, decide_true, decide_false, Bool.true_and, Bool.false_and, Bool.and_false, Bool.and_true]
      all_goals (try rfl)
    · obtain rfl : y = t.length := by omega
      refine ⟨fun h3 => ?_, fun h3 => ⟨by omega, ?_⟩⟩
      · refine Kv.Fin.now ⟨?_, rfl⟩
        rw [idn, idx_some hxl hall (by simpa using h3)]
      · refine ihx (x + 1) ⟨by omega, ?_⟩ (by omega) _ _ rfl rfl
        rw [any_take_succ _ hxl, hall]
        simpa using h3
  · obtain rfl : x = t.length := by omega
    rw [List.take_of_length_le (by simp)] at hall
    exact Kv.Fin.now ⟨by rw [idn, idx_none hall], rfl⟩
def idA (t : List (List Int)) : Int := if isTab t = true then (if idn t < 0 then 0 else idn t) else 0
def idB (t : List (List Int)) : Int := if isTab t = true then (if idn t < 0 then 4 else 0) else 2
theorem p25 (t : List (List Int)) (ht : t.length ≤ 1048576) (hl : ∀ r ∈ t, r.length ≤ 1048576) : Pure Tryz.prog 25 [.list (rows t)] (.tup [.int .i64 (idA t), .int .i64 (idB t)]) := by
  refine e25 (by simp) fun _ _ => ?_
  simp only [k25, argEnv, go_sem, ↓reduceIte, Nat.reduceEqDiff, Nat.reduceAdd, reduceCtorEq]
  refine (p49 t ht hl).use (.bool _) (.cons (.listr _ _) (.nil _)) ?_
  simp only [go_sem, ↓reduceIte, Nat.reduceEqDiff, Nat.reduceAdd, reduceCtorEq]
  refine ⟨fun h => ?_, fun h => ?_⟩
  · exact Kv.Fin.now ⟨by simp [idA, idB, h], rfl⟩
  · refine (p77 t h).use (.int _ _) (.cons (.listr _ _) (.nil _)) ?_
    simp only [go_sem, ↓reduceIte, Nat.reduceEqDiff, Nat.reduceAdd, reduceCtorEq]
    repeat' (first | refine And.intro ?_ ?_ | intro _)
    · rename_i h1
      exact Kv.Fin.now ⟨by simp [idA, idB, h, h1], rfl⟩
    · rename_i h1
      exact Kv.Fin.now ⟨by simp [idA, idB, h, h1], rfl⟩
end Go.Proofs.YthbbjbfbeaiphaaGreat
end
section
/- The symmetries of a table, counted: the specification's side. -/
namespace Go.Proofs.YthbbjbfbeaiphaaGreat
open Go.Kv
set_option maxRecDepth 100000
def k127_b0 : KC := (.seq (.seq (.ops [mV 14 8, oP 15 (.bin .add (.t 14) (iC 1)), mV 16 7, oP 17 (.bin .lss (.t 15) (.t 16))])
  (.cond (.t 17) .skip (.exit 0)))
  (.seq (.block 1 (.seq (.draw [mV 20 2, mV 21 8, oP 22 (.idxS 1 (.t 20) (.t 21)), oP 23 (.load false 1 (.t 22)), mV 24 2, mV 25 7, oP 26 (.bin .sub (.t 25) (iC 1)), oP 27 (.idxS 1 (.t 24) (.t 26)), oP 28 (.load false 1 (.t 27)), oP 29 (.bin .eql (.t 23) (.t 28))])
  (.cond (.t 29) (.seq (.ops [oP 6 (.mv (.c (.bool false)))])
  .ret) .skip)))
  (.ops [mV 18 8, oP 19 (.bin .add (.t 18) (iC 1)), mV 8 19])))
def k127_b1 : KC := (.seq (.seq (.ops [mV 35 10, mV 36 7, oP 37 (.bin .lss (.t 35) (.t 36))])
  (.cond (.t 37) .skip (.exit 4)))
  (.seq (.block 5 (.seq (.ops [mV 40 0, mV 41 9, oP 42 (.idxS 1 (.t 40) (.t 41)), oP 43 (.load false 1 (.t 42)), mV 44 10, oP 45 (.idxS 1 (.t 43) (.t 44)), oP 46 (.load false 1 (.t 45)), mV 11 46])
  (.seq (.draw [mV 47 11, mV 48 7, oP 49 (.bin .lss (.t 47) (.t 48)), mV 50 49, ⟨(some 51), some (50, true), .mv (.t 2)⟩, ⟨(some 52), some (50, true), .mv (.t 11)⟩, ⟨(some 53), some (50, true), .idxS 1 (.t 51) (.t 52)⟩, ⟨(some 54), some (50, true), .load false 1 (.t 53)⟩, ⟨(some 55), some (50, true), .mv (.t 1)⟩, ⟨(some 56), some (50, true), .mv (.t 2)⟩, ⟨(some 57), some (50, true), .mv (.t 9)⟩, ⟨(some 58), some (50, true), .idxS 1 (.t 56) (.t 57)⟩, ⟨(some 59), some (50, true), .load false 1 (.t 58)⟩, ⟨(some 60), some (50, true), .idxS 1 (.t 55) (.t 59)⟩, ⟨(some 61), some (50, true), .load false 1 (.t 60)⟩, ⟨(some 62), some (50, true), .mv (.t 2)⟩, ⟨(some 63), some (50, true), .mv (.t 10)⟩, ⟨(some 64), some (50, true), .idxS 1 (.t 62) (.t 63)⟩, ⟨(some 65), some (50, true), .load false 1 (.t 64)⟩, ⟨(some 66), some (50, true), .idxS 1 (.t 61) (.t 65)⟩, ⟨(some 67), some (50, true), .load false 1 (.t 66)⟩, ⟨(some 68), some (50, true), .bin .neq (.t 54) (.t 67)⟩, oP 69 (.pick (.t 50) (.t 68) (.c (.bool false)))])
  (.cond (.t 69) (.seq (.ops [oP 6 (.mv (.c (.bool false)))])
  .ret) .skip))))
  (.ops [mV 38 10, oP 39 (.bin .add (.t 38) (iC 1)), mV 10 39])))
def k127_b2 : KC := (.seq (.seq (.ops [mV 30 9, mV 31 7, oP 32 (.bin .lss (.t 30) (.t 31))])
  (.cond (.t 32) .skip (.exit 2)))
  (.seq (.block 3 (.seq (.ops [oP 10 (.mv (iC 0))])
  (.block 4 (.loop k127_b1))))
  (.ops [mV 33 9, oP 34 (.bin .add (.t 33) (iC 1)), mV 9 34])))
def k127 : KC := (.seq (.ops [oP 6 (.mv (.c (.bool false)))])
  (.seq (.ops [mV 12 2, oP 13 (.len false (.t 12)), mV 7 13])
  (.seq (.seq (.ops [oP 8 (.mv (iC 0))])
  (.block 0 (.loop k127_b0)))
  (.seq (.seq (.ops [oP 9 (.mv (iC 0))])
  (.block 2 (.loop k127_b2)))
  (.seq (.ops [oP 6 (.mv (.c (.bool true)))])
  .ret)))))
theorem e127 : Ent 127 70 [] [.t 6] k127 := ent Tryz.func127 (by kernel_rfl) (by kernel_rfl) (by kernel_rfl) (fun _ => by kernel_rfl) (by kernel_rfl)
def k105 : KC := (.seq (.ops [oP 2 (.mv (.c (.nils)))])
  (.seq (.ops [oP 3 (.bsl false 2 1 []), mV 4 0, oP 5 (.app (.t 3) (.t 4) 2 1), mV 2 5])
  .ret))
theorem e105 : Ent 105 6 [] [.t 2] k105 := ent Tryz.func105 (by kernel_rfl) (by kernel_rfl) (by kernel_rfl) (fun _ => by kernel_rfl) (by kernel_rfl)
def k66_b0 : KC := (.seq (.seq (.ops [mV 13 6, mV 14 0, oP 15 (.len false (.t 14)), oP 16 (.bin .lss (.t 13) (.t 15))])
  (.cond (.t 16) .skip (.exit 0)))
  (.seq (.block 1 (.seq (.ops [mV 19 1, oP 20 (.call (fC 105) [(.t 19)]), mV 21 6, oP 22 (.bsl true 2 1 [(.t 21)]), oP 23 (.app (.t 20) (.t 22) 2 1), mV 7 23])
  (.seq (.ops [mV 24 0, mV 25 0, mV 26 7, oP 27 (.call (fC 127) [(.t 24), (.t 25), (.t 26)])])
  (.cond (.t 27) (.ops [mV 28 5, mV 29 0, mV 30 7, oP 31 (.call (fC 66) [(.t 29), (.t 30)]), oP 32 (.bin .add (.t 28) (.t 31)), mV 5 32]) .skip))))
  (.ops [mV 17 6, oP 18 (.bin .add (.t 17) (iC 1)), mV 6 18])))
def k66 : KC := (.seq (.ops [oP 4 (.mv (iC 0))])
  (.seq (.seq (.ops [mV 8 1, oP 9 (.len false (.t 8)), mV 10 0, oP 11 (.len false (.t 10)), oP 12 (.bin .eql (.t 9) (.t 11))])
  (.cond (.t 12) (.seq (.ops [oP 4 (.mv (iC 1))])
  .ret) .skip))
  (.seq (.ops [oP 5 (.mv (iC 0))])
  (.seq (.seq (.ops [oP 6 (.mv (iC 0))])
  (.block 0 (.loop k66_b0)))
  (.seq (.ops [mV 33 5, mV 4 33])
  .ret)))))
theorem e66 : Ent 66 34 [22] [.t 4] k66 := ent Tryz.func66 (by kernel_rfl) (by kernel_rfl) (by kernel_rfl) (fun _ => by kernel_rfl) (by kernel_rfl)
def k15 : KC := (.seq (.ops [oP 2 (.mv (iC 0)), oP 3 (.mv (iC 0))])
  (.seq (.block 0 (.seq (.ops [mV 5 0, oP 6 (.call (fC 53) [(.t 5)]), oP 7 (.not (.t 6)), mV 4 7])
  (.cond (.t 4) (.seq (.ops [oP 2 (.mv (iC 0)), oP 3 (.mv (iC 2))])
  .ret) (.seq (.ops [mV 9 0, oP 10 (.len false (.t 9)), oP 11 (.bin .gtr (.t 10) (iC 10)), mV 8 11])
  (.cond (.t 8) (.seq (.ops [oP 2 (.mv (iC 0)), oP 3 (.mv (iC 3))])
  .ret) .skip)))))
  (.seq (.ops [mV 12 0, oP 13 (.bsl false 2 1 []), oP 14 (.call (fC 66) [(.t 12), (.t 13)]), mV 2 14, oP 3 (.mv (iC 0))])
  .ret)))
theorem e15 : Ent 15 15 [] [.t 2, .t 3] k15 := ent Tryz.func15 (by kernel_rfl) (by kernel_rfl) (by kernel_rfl) (fun _ => by kernel_rfl) (by kernel_rfl)
end Go.Proofs.YthbbjbfbeaiphaaGreat
namespace Go.Proofs.YthbbjbfbeaiphaaGreat
open Go.Kv
set_option linter.unusedVariables false
set_option linter.unusedSimpArgs false
attribute [local irreducible] ACall PCall KL
/-- Products agree where all three are told. -/
def fit1 (a b : List (List Int)) (p : List Nat) (i k : Nat) : Prop := tat a i k < p.length → (p.getD (tat a i k).toNat 0 : Int) = tat b (p.getD i 0) (p.getD k 0)
def Fits (a b : List (List Int)) (p : List Nat) : Prop := (∀ i, i + 1 < p.length → p.getD i 0 ≠ p.getD (p.length - 1) 0) ∧ ∀ i k, i < p.length → k < p.length → fit1 a b p i k
noncomputable def fitsB (a b : List (List Int)) (p : List Nat) : Bool := @decide (Fits a b p) (Classical.propDecidable _)
theorem fitsB_true {a b : List (List Int)} {p : List Nat} (h : Fits a b p) : fitsB a b p = true := by
  unfold fitsB; exact @decide_eq_true _ (Classical.propDecidable _) h
theorem fitsB_false {a b : List (List Int)} {p : List Nat} (h : ¬ Fits a b p) : fitsB a b p = false := by
  unfold fitsB; exact @decide_eq_false _ (Classical.propDecidable _) h
theorem p105 (l : List Int) (hl : l.length ≤ 1048576) : ACall Tryz.prog 105 [.list (ints l)] [] (fun v s => v = .ref 0 1 0 l.length ∧ s = [.arr 1 2 1 (ints l)]) := by
  refine e105 (by simp) fun _ _ => ?_
  simp only [k105, argEnv, take6, List.drop_zero, Int.cast_ofNat_Int, go_sem, ↓reduceIte, Nat.reduceEqDiff, Nat.reduceAdd, Nat.reduceMul, Nat.reduceLeDiff, Nat.reduceLT, Int.reduceLE, Int.reduceLT, reduceCtorEq]
  repeat' (first | refine And.intro ?_ ?_ | intro _)
  all_goals (try omega)
  exact Kv.Fin.now ⟨rfl, rfl⟩
theorem p127 (a b : List (List Int)) (p : List Nat) (ha : isTab a = true) (hb : isTab b = true) (hab : b.length = a.length) (h10 : a.length ≤ 10) (hp : p.length ≤ a.length) (hpx : ∀ i, i < p.length → p.getD i 0 < a.length) :
    Pure Tryz.prog 127 [.list (rows a), .list (rows b), .list (ints (p.map fun x : Nat => (x : Int)))] (.bool (fitsB a b p)) := by
  obtain ⟨hna, hsa⟩ := tab_sq ha
  obtain ⟨hnb, hsb⟩ := tab_sq hb
  refine e127 (by simp) fun _ _ => ?_
  simp only [k127, argEnv, List.length_map, take6, List.drop_zero, Int.cast_ofNat_Int, go_sem, ↓reduceIte, Nat.reduceEqDiff, Nat.reduceAdd, Nat.reduceMul, Nat.reduceLeDiff, Nat.reduceLT, Int.reduceLE, Int.reduceLT, reduceCtorEq]
  refine KL_ind k127_b0.eq_1 (fun x : Nat => [(0, .list (rows a)), (1, .list (rows b)), (2, .list (ints (p.map fun x : Nat => (x : Int)))), (7, .int .i64 p.length), (8, .int .i64 x)]) (fun _ => []) (fun x => (x = 0 ∨ x < p.length) ∧ ∀ i, i < x → p.getD i 0 ≠ p.getD (p.length - 1) 0) (fun x => p.length - x) [0, 1, 2, 7, 8] 0 (by simp [keep]) rfl ⟨.inl rfl, fun i hi => by omega⟩ fun x ⟨hx, hne⟩ ih => ?_
  have hl1 : ((p.length : Int) - 1).toNat = p.length - 1 := by omega
  try simp only [natD, List.length_map, hl1, take6, List.drop_zero, Int.cast_ofNat_Int, go_sem, ↓reduceIte, Nat.reduceEqDiff, Nat.reduceAdd, Nat.reduceMul, Nat.reduceLeDiff, Nat.reduceLT, Int.reduceLE, Int.reduceLT, reduceCtorEq]
  refine ⟨by omega, fun h1 => ⟨by omega, fun _ => ⟨by omega, by omega, fun _ => ⟨fun h2 => ?_, fun h2 => ⟨by omega, ?_⟩⟩⟩⟩, fun h1 => ?_⟩
  · exact Kv.Fin.still ⟨by rw [fitsB_false fun h => h.1 x (by omega) (by omega)], rfl⟩
  · refine ih (x + 1) ⟨by omega, fun i hi => ?_⟩ (by omega) _ _ (by simp [keep]) rfl
    by_cases e : i = x
    · rw [e]; omega
    · exact hne i (by omega)
  have hA : ∀ i, i + 1 < p.length → p.getD i 0 ≠ p.getD (p.length - 1) 0 := fun i hi => hne i (by omega)
  clear ih
  refine KL_ind k127_b2.eq_1 (fun i : Nat => [(0, .list (rows a)), (1, .list (rows b)), (2, .list (ints (p.map fun x : Nat => (x : Int)))), (7, .int .i64 p.length), (9, .int .i64 i)]) (fun _ => []) (fun i => i ≤ p.length ∧ ∀ j k, j < i → k < p.length → fit1 a b p j k) (fun i => p.length - i) [0, 1, 2, 7, 9] 0 (by simp [keep]) rfl ⟨Nat.zero_le _, fun j k hj => by omega⟩ fun i ⟨hi, hfi⟩ ihi => ?_
  try simp only [take6, List.drop_zero, Int.cast_ofNat_Int, go_sem, ↓reduceIte, Nat.reduceEqDiff, Nat.reduceAdd, Nat.reduceMul, Nat.reduceLeDiff, Nat.reduceLT, Int.reduceLE, Int.reduceLT, reduceCtorEq]
  refine ⟨fun h2 => ?_, fun h2 => ?_⟩
  · have hip : i < p.length := by omega
    refine KL_ind k127_b1.eq_1 (fun k : Nat => [(0, .list (rows a)), (1, .list (rows b)), (2, .list (ints (p.map fun x : Nat => (x : Int)))), (7, .int .i64 p.length), (9, .int .i64 i), (10, .int .i64 k)]) (fun _ => []) (fun k => k ≤ p.length ∧ ∀ j, j < k → fit1 a b p i j) (fun k => p.length - k) [0, 1, 2, 7, 9, 10] 0 (by simp [keep]) rfl ⟨Nat.zero_le _, fun j hj => by omega⟩ fun k ⟨hk, hfk⟩ ihk => ?_
    have hrow := hsa i (by omega)
    have hrb := hsb (p.getD i 0) (by have := hpx i hip; omega)
    try simp only [natD, List.length_map, hrow, hrb, take6, List.drop_zero, Int.cast_ofNat_Int, go_sem, ↓reduceIte, Nat.reduceEqDiff, Nat.reduceAdd, Nat.reduceMul, Nat.reduceLeDiff, Nat.reduceLT, Int.reduceLE, Int.reduceLT, reduceCtorEq]
    refine ⟨fun h3 => ?_, fun h3 => ?_⟩
    · have hkp : k < p.length := by omega
      have hta := tab_at ha (i := i) (j := k) (by omega) (by omega)
      have e1 : (a.getD i []).getD k 0 = tat a i k := rfl
      have e2 : (b.getD (p.getD i 0) []).getD (p.getD k 0) 0 = tat b (p.getD i 0) (p.getD k 0) := rfl
      have hpi := hpx i hip
      have hpk := hpx k hkp
      rw [e1, e2]
      have hst : fit1 a b p i k → ∀ j, j < k + 1 → fit1 a b p i j := fun h j hj => by
        by_cases e : j = k
        · rw [e]; exact h
        · exact hfk j (by omega)
      refine ⟨by omega, fun _ => ⟨by omega, fun _ => ⟨fun h4 => ⟨⟨by omega, by omega⟩, fun _ => ⟨by omega, fun _ => ⟨by omega, fun _ => ⟨by omega, fun _ => ⟨by omega, fun _ => ⟨fun h5 => ?_, fun h5 => ⟨by omega, ?_⟩⟩⟩⟩⟩⟩⟩, fun h4 => ⟨by omega, ?_⟩⟩⟩⟩
      · exact Kv.Fin.still ⟨by rw [fitsB_false fun h => h5 (h.2 i k hip hkp h4)], rfl⟩
      · exact ihk (k + 1) ⟨by omega, hst fun _ => h5⟩ (by omega) _ _ (by simp [keep]) rfl
      · exact ihk (k + 1) ⟨by omega, hst fun h => absurd h h4⟩ (by omega) _ _ (by simp [keep]) rfl
    · obtain rfl : k = p.length := by omega
      refine ⟨by omega, ?_⟩
      refine ihi (i + 1) ⟨by omega, fun j k hj hk => ?_⟩ (by omega) _ _ (by simp [keep]) rfl
      by_cases e : j = i
      · rw [e]; exact hfk k hk
      · exact hfi j k (by omega) hk
  · obtain rfl : i = p.length := by omega
    exact Kv.Fin.still ⟨by rw [fitsB_true ⟨hA, hfi⟩], rfl⟩
/-- The number of symmetries that begin with p, d numbers being left. -/
noncomputable def syc (a : List (List Int)) : Nat → List Nat → Nat
  | 0, _ => 1
  | d + 1, p => ((List.range a.length).map fun q => if fitsB a a (p ++ [q]) = true then syc a d (p ++ [q]) else 0).sum
noncomputable def sycN (a : List (List Int)) (d : Nat) (p : List Nat) (x : Nat) : Nat := ((List.range x).map fun q => if fitsB a a (p ++ [q]) = true then syc a d (p ++ [q]) else 0).sum
theorem sycN_succ (a : List (List Int)) (d : Nat) (p : List Nat) (x : Nat) : sycN a d p (x + 1) = sycN a d p x + if fitsB a a (p ++ [x]) = true then syc a d (p ++ [x]) else 0 := by
  simp [sycN, List.range_succ, List.sum_append]
theorem syc_le (a : List (List Int)) : ∀ (d : Nat) (p : List Nat), syc a d p ≤ a.length ^ d ∧ ∀ x, sycN a d p x ≤ x * a.length ^ d
  | 0, p => by
    have h0 : ∀ q, syc a 0 q = 1 := fun q => rfl
    refine ⟨by rw [h0]; simp, fun x => ?_⟩
    induction x with
    | zero => simp [sycN]
    | succ x ih =>
      rw [sycN_succ, Nat.succ_mul, h0]
      simp only [Nat.pow_zero] at ih ⊢
      split <;> omega
  | d + 1, p => by
    have h1 : syc a (d + 1) p ≤ a.length ^ (d + 1) := by
      have := (syc_le a d p).2 a.length
      rw [Nat.pow_succ, Nat.mul_comm]
      exact this
    refine ⟨h1, fun x => ?_⟩
    induction x with
    | zero => simp [sycN]
    | succ x ih =>
      rw [sycN_succ, Nat.succ_mul]
      have h2 : syc a (d + 1) (p ++ [x]) ≤ a.length ^ (d + 1) := by
        have := (syc_le a d (p ++ [x])).2 a.length
        rw [Nat.pow_succ, Nat.mul_comm]
        exact this
      split <;> omega
theorem p66 (a : List (List Int)) (ha : isTab a = true) (h10 : a.length ≤ 10) : ∀ (d : Nat) (p : List Nat), p.length + d = a.length → (∀ i, i < p.length → p.getD i 0 < a.length) →
    Pure Tryz.prog 66 [.list (rows a), .list (ints (p.map fun x : Nat => (x : Int)))] (.int .i64 (syc a d p)) := by
  obtain ⟨hna, hsa⟩ := tab_sq ha
  intro d
  induction d with
  | zero =>
    intro p hp hpx
    refine e66 (by simp) fun _ _ => ?_
    simp only [k66, argEnv, List.length_map, take6, List.drop_zero, Int.cast_ofNat_Int, go_sem, ↓reduceIte, Nat.reduceEqDiff, Nat.reduceAdd, Nat.reduceMul, Nat.reduceLeDiff, Nat.reduceLT, Int.reduceLE, Int.reduceLT, reduceCtorEq]
    repeat' (first | refine And.intro ?_ ?_ | intro _)
    all_goals (try omega)
    exact Kv.Fin.still ⟨rfl, rfl⟩
  | succ d ihd =>
    intro p hp hpx
    have hpow : a.length ^ d ≤ 1000000000 := by
      have h1 : a.length ^ d ≤ 10 ^ d := Nat.pow_le_pow_left h10 d
      have h2 : 10 ^ d ≤ 10 ^ 9 := Nat.pow_le_pow_right (by omega) (by omega)
      omega
    have hpw : ∀ x, x ≤ a.length → sycN a d p x ≤ 10000000000 := fun x hx => by
      have h1 := (syc_le a d p).2 x
      have h2 : x * a.length ^ d ≤ 10 * 1000000000 := Nat.mul_le_mul (by omega) hpow
      omega
    refine e66 (by simp) fun _ _ => ?_
    simp only [k66, argEnv, List.length_map, take6, List.drop_zero, Int.cast_ofNat_Int, go_sem, ↓reduceIte, Nat.reduceEqDiff, Nat.reduceAdd, Nat.reduceMul, Nat.reduceLeDiff, Nat.reduceLT, Int.reduceLE, Int.reduceLT, reduceCtorEq]
    refine ⟨fun h => absurd h (by omega), fun _ => ?_⟩
    refine KL_indD k66_b0.eq_1 (fun x : Nat => [(0, .list (rows a)), (1, .list (ints (p.map fun x : Nat => (x : Int)))), (5, .int .i64 (sycN a d p x)), (6, .int .i64 x)]) (fun _ => []) (fun x => x ≤ a.length) (fun x => a.length - x) [0, 1, 5, 6] 0 (by simp [keep, sycN]) ⟨[], rfl⟩ (Nat.zero_le _) (fun x hx => ?_) fun x hx ih => ?_
    · exact ⟨Nat.zero_le _, Env.undr_upto (by simp [Env.undr, PV.undr, undrX_ints, undrX_rows]), .nil _⟩
    try simp only [take6, List.drop_zero, Int.cast_ofNat_Int, go_sem, ↓reduceIte, Nat.reduceEqDiff, Nat.reduceAdd, Nat.reduceMul, Nat.reduceLeDiff, Nat.reduceLT, Int.reduceLE, Int.reduceLT, reduceCtorEq]
    refine ⟨fun h1 => ?_, fun h1 => ?_⟩
    · refine (p105 (p.map fun x : Nat => (x : Int)) (by simp; omega)).go fun v s ⟨hv, hs⟩ => ?_
      subst hv; subst hs
      try simp only [ren_ref, List.length_map, take6, List.drop_zero, Int.cast_ofNat_Int, go_sem, ↓reduceIte, Nat.reduceEqDiff, Nat.reduceAdd, Nat.reduceMul, Nat.reduceLeDiff, Nat.reduceLT, Int.reduceLE, Int.reduceLT, reduceCtorEq]
      have hmp : List.take p.length (p.map fun x : Nat => (x : Int)) ++ [(x : Int)] = (p ++ [x]).map fun x : Nat => (x : Int) := by
        rw [List.take_of_length_le (by simp)]; simp
      rw [hmp]
      have hq : ∀ i, i < (p ++ [x]).length → (p ++ [x]).getD i 0 < a.length := fun i hi => by
        by_cases e : i < p.length
        · rw [List.getD_eq_getElem?_getD, List.getElem?_append_left e, ← List.getD_eq_getElem?_getD]; exact hpx i e
        · have e2 : i = p.length := by simp at hi; omega
          rw [e2, List.getD_eq_getElem?_getD, List.getElem?_append_right (Nat.le_refl _), Nat.sub_self]
          show x < a.length; omega
      have himm : Imm [AObj.arr 2 2 1 (ints ((p ++ [x]).map fun x : Nat => (x : Int)))] (.ref 0 2 0 (p.length + 1)) (.list (ints ((p ++ [x]).map fun x : Nat => (x : Int)))) := Imm.refn rfl (by simp)
      refine ⟨by omega, ?_⟩
      refine (p127 a a (p ++ [x]) ha ha rfl h10 (by simp; omega) hq).lend (.cons Imm.still (.cons Imm.still (.cons himm (.nil _)))) ?_
      have hs1 := sycN_succ a d p x
      have hw := hpw (x + 1) (by omega)
      cases hF : fitsB a a (p ++ [x]) with
      | false =>
        rw [hF] at hs1
        try simp only [take6, List.drop_zero, Int.cast_ofNat_Int, go_sem, ↓reduceIte, Nat.reduceEqDiff, Nat.reduceAdd, Nat.reduceMul, Nat.reduceLeDiff, Nat.reduceLT, Int.reduceLE, Int.reduceLT, reduceCtorEq]
        refine ⟨by omega, ?_⟩
        refine ih (x + 1) (by omega) (by omega) _ _ ?_ ⟨[_], rfl⟩
        simp [keep, hs1]
      | true =>
        rw [hF, if_pos rfl] at hs1
        try simp only [take6, List.drop_zero, Int.cast_ofNat_Int, go_sem, ↓reduceIte, Nat.reduceEqDiff, Nat.reduceAdd, Nat.reduceMul, Nat.reduceLeDiff, Nat.reduceLT, Int.reduceLE, Int.reduceLT, reduceCtorEq]
        refine (ihd (p ++ [x]) (by simp; omega) hq).lend (.cons Imm.still (.cons himm (.nil _))) ?_
        try simp only [take6, List.drop_zero, Int.cast_ofNat_Int, go_sem, ↓reduceIte, Nat.reduceEqDiff, Nat.reduceAdd, Nat.reduceMul, Nat.reduceLeDiff, Nat.reduceLT, Int.reduceLE, Int.reduceLT, reduceCtorEq]
        refine ⟨by omega, by omega, ?_⟩
        refine ih (x + 1) (by omega) (by omega) _ _ ?_ ⟨[_], rfl⟩
        simp [keep, hs1]
    · obtain rfl : x = a.length := by omega
      exact Kv.Fin.still ⟨rfl, rfl⟩
theorem p15 (t : List (List Int)) (ht : t.length ≤ 1048576) (hl : ∀ r ∈ t, r.length ≤ 1048576) : Pure Tryz.prog 15 [.list (rows t)] (.tup [.int .i64 (if isTab t = true ∧ t.length ≤ 10 then (syc t t.length [] : Int) else 0), .int .i64 (if isTab t = false then 2 else if t.length ≤ 10 then 0 else 3)]) := by
  refine e15 (by simp) fun _ _ => ?_
  simp only [k15, argEnv, take6, List.drop_zero, Int.cast_ofNat_Int, go_sem, ↓reduceIte, Nat.reduceEqDiff, Nat.reduceAdd, Nat.reduceMul, Nat.reduceLeDiff, Nat.reduceLT, Int.reduceLE, Int.reduceLT, reduceCtorEq]
  refine (p53 t ht hl).go ?_
  cases hb : isTab t with
  | false =>
    try simp only [take6, List.drop_zero, Int.cast_ofNat_Int, go_sem, ↓reduceIte, Nat.reduceEqDiff, Nat.reduceAdd, Nat.reduceMul, Nat.reduceLeDiff, Nat.reduceLT, Int.reduceLE, Int.reduceLT, reduceCtorEq]
    exact Kv.Fin.still ⟨by simp, rfl⟩
  | true =>
    try simp only [take6, List.drop_zero, Int.cast_ofNat_Int, go_sem, ↓reduceIte, Nat.reduceEqDiff, Nat.reduceAdd, Nat.reduceMul, Nat.reduceLeDiff, Nat.reduceLT, Int.reduceLE, Int.reduceLT, reduceCtorEq]
    refine ⟨fun h1 => Kv.Fin.still ⟨?_, rfl⟩, fun h1 => ?_⟩
    · have h2 : ¬ t.length ≤ 10 := by omega
      simp [h2]
    · refine (p66 t hb (by omega) t.length [] (by simp) (by simp)).lend (.cons Imm.still (.cons (Imm.refn (ver := 0) (e := 2) (l := []) rfl rfl) (.nil _))) ?_
      try simp only [take6, List.drop_zero, Int.cast_ofNat_Int, go_sem, ↓reduceIte, Nat.reduceEqDiff, Nat.reduceAdd, Nat.reduceMul, Nat.reduceLeDiff, Nat.reduceLT, Int.reduceLE, Int.reduceLT, reduceCtorEq]
      have h2 : t.length ≤ 10 := by omega
      exact Kv.Fin.still ⟨by simp [h2], rfl⟩
end Go.Proofs.YthbbjbfbeaiphaaGreat
end
end
section
/- Isomorphisms of two tables that begin with some numbers: the specification's side of FindIsomorphism; what a fit of one number more is. -/
namespace Go.Proofs.YthbbjbfbeaiphaaGreat
open Go.Kv
set_option maxRecDepth 100000
def k54_b0 : KC := (.seq (.seq (.ops [mV 22 11, mV 23 0, oP 24 (.len false (.t 23)), oP 25 (.bin .lss (.t 22) (.t 24)), mV 26 25, ⟨(some 27), some (26, true), .mv (.t 10)⟩, ⟨(some 28), some (26, true), .len false (.t 27)⟩, ⟨(some 29), some (26, true), .mv (.t 3)⟩, ⟨(some 30), some (26, true), .bin .lss (.t 28) (.t 29)⟩, oP 31 (.pick (.t 26) (.t 30) (.c (.bool false)))])
  (.cond (.t 31) .skip (.exit 0)))
  (.seq (.block 1 (.seq (.ops [mV 34 2, oP 35 (.call (fC 105) [(.t 34)]), mV 36 11, oP 37 (.bsl true 2 1 [(.t 36)]), oP 38 (.app (.t 35) (.t 37) 2 1), mV 12 38])
  (.seq (.ops [mV 39 0, mV 40 1, mV 41 12, oP 42 (.call (fC 127) [(.t 39), (.t 40), (.t 41)])])
  (.cond (.t 42) (.ops [mV 43 10, mV 44 0, mV 45 1, mV 46 12, mV 47 3, mV 48 10, oP 49 (.len false (.t 48)), oP 50 (.bin .sub (.t 47) (.t 49)), oP 51 (.call (fC 54) [(.t 44), (.t 45), (.t 46), (.t 50)]), oP 52 (.app (.t 43) (.t 51) 27 1), mV 10 52]) .skip))))
  (.ops [mV 32 11, oP 33 (.bin .add (.t 32) (iC 1)), mV 11 33])))
def k54 : KC := (.seq (.ops [oP 8 (.mv (.c (.nils)))])
  (.seq (.ops [mV 13 2, oP 14 (.len false (.t 13)), mV 9 14])
  (.seq (.seq (.ops [mV 15 9, mV 16 0, oP 17 (.len false (.t 16)), oP 18 (.bin .eql (.t 15) (.t 17))])
  (.cond (.t 18) (.seq (.ops [mV 19 2, oP 20 (.bsl false 27 1 [(.t 19)]), mV 8 20])
  .ret) .skip))
  (.seq (.ops [oP 21 (.bsl false 27 1 []), mV 10 21])
  (.seq (.seq (.ops [oP 11 (.mv (iC 0))])
  (.block 0 (.loop k54_b0)))
  (.seq (.ops [mV 53 10, mV 8 53])
  .ret))))))
theorem e54 : Ent 54 54 [37] [.t 8] k54 := ent Tryz.func54 (by kernel_rfl) (by kernel_rfl) (by kernel_rfl) (fun _ => by kernel_rfl) (by kernel_rfl)
def k8 : KC := (.seq (.ops [oP 4 (.mv (.c (.nils))), oP 5 (.mv (iC 0))])
  (.seq (.block 0 (.seq (.ops [mV 8 0, oP 9 (.call (fC 53) [(.t 8)]), oP 10 (.not (.t 9)), mV 11 10, ⟨(some 12), some (11, false), .mv (.t 1)⟩, ⟨(some 13), some (11, false), .call (fC 53) [(.t 12)]⟩, ⟨(some 14), some (11, false), .not (.t 13)⟩, oP 15 (.pick (.t 11) (.c (.bool true)) (.t 14)), mV 7 15])
  (.cond (.t 7) (.seq (.ops [oP 4 (.mv (.c (.nils))), oP 5 (.mv (iC 2))])
  .ret) (.seq (.ops [mV 17 0, oP 18 (.len false (.t 17)), oP 19 (.bin .gtr (.t 18) (iC 10)), mV 20 19, ⟨(some 21), some (20, false), .mv (.t 1)⟩, ⟨(some 22), some (20, false), .len false (.t 21)⟩, ⟨(some 23), some (20, false), .bin .gtr (.t 22) (iC 10)⟩, oP 24 (.pick (.t 20) (.c (.bool true)) (.t 23)), mV 16 24])
  (.cond (.t 16) (.seq (.ops [oP 4 (.mv (.c (.nils))), oP 5 (.mv (iC 3))])
  .ret) (.seq (.ops [mV 26 0, oP 27 (.len false (.t 26)), mV 28 1, oP 29 (.len false (.t 28)), oP 30 (.bin .neq (.t 27) (.t 29)), mV 25 30])
  (.cond (.t 25) (.seq (.ops [oP 4 (.mv (.c (.nils))), oP 5 (.mv (iC 4))])
  .ret) .skip)))))))
  (.seq (.ops [mV 31 0, mV 32 1, oP 33 (.bsl false 2 1 []), oP 34 (.call (fC 54) [(.t 31), (.t 32), (.t 33), (iC 1)]), mV 6 34])
  (.seq (.seq (.ops [mV 35 6, oP 36 (.len false (.t 35)), oP 37 (.bin .eql (.t 36) (iC 0))])
  (.cond (.t 37) (.seq (.ops [oP 4 (.mv (.c (.nils))), oP 5 (.mv (iC 4))])
  .ret) .skip))
  (.seq (.ops [mV 38 6, oP 39 (.idxS 1 (.t 38) (iC 0)), oP 40 (.load false 1 (.t 39)), mV 4 40, oP 5 (.mv (iC 0))])
  .ret)))))
theorem e8 : Ent 8 41 [] [.t 4, .t 5] k8 := ent Tryz.func8 (by kernel_rfl) (by kernel_rfl) (by kernel_rfl) (fun _ => by kernel_rfl) (by kernel_rfl)
def k125_b0 : KC := (.seq (.ops [oP 27 (.bin .lss (.t 26) (.t 25))])
  (.seq (.cond (.t 27) .skip (.exit 2))
  (.seq (.block 3 (.seq (.ops [mV 28 26, mV 5 28])
  (.seq (.ops [mV 29 0, oP 30 (.nilck (.t 29)), oP 31 (.fieldA 0 (.t 30)), oP 32 (.load false 1 (.t 31)), mV 33 4, oP 34 (.idxS 1 (.t 32) (.t 33)), oP 35 (.load false 1 (.t 34)), mV 36 5, oP 37 (.idxS 1 (.t 35) (.t 36)), oP 38 (.load false 1 (.t 37)), mV 6 38])
  (.seq (.seq (.ops [mV 39 6, mV 40 3, oP 41 (.bin .gtr (.t 39) (.t 40)), mV 42 41, ⟨(some 43), some (42, false), .mv (.t 4)⟩, ⟨(some 44), some (42, false), .mv (.t 3)⟩, ⟨(some 45), some (42, false), .bin .neq (.t 43) (.t 44)⟩, ⟨(some 46), some (42, false), .mv (.t 45)⟩, ⟨(some 47), some (46, true), .mv (.t 5)⟩, ⟨(some 48), some (46, true), .mv (.t 3)⟩, ⟨(some 49), some (46, true), .bin .neq (.t 47) (.t 48)⟩, ⟨(some 50), some (42, false), .pick (.t 46) (.t 49) (.c (.bool false))⟩, ⟨(some 51), some (42, false), .mv (.t 50)⟩, ⟨(some 52), some (51, true), .mv (.t 6)⟩, ⟨(some 53), some (51, true), .mv (.t 3)⟩, ⟨(some 54), some (51, true), .bin .neq (.t 52) (.t 53)⟩, ⟨(some 55), some (42, false), .pick (.t 51) (.t 54) (.c (.bool false))⟩, oP 56 (.pick (.t 42) (.c (.bool true)) (.t 55))])
  (.cond (.t 56) (.exit 3) .skip))
  (.seq (.draw [mV 57 0, oP 58 (.nilck (.t 57)), oP 59 (.fieldA 1 (.t 58)), oP 60 (.load false 1 (.t 59)), mV 61 0, oP 62 (.nilck (.t 61)), oP 63 (.fieldA 2 (.t 62)), oP 64 (.load false 1 (.t 63)), mV 65 4, oP 66 (.idxS 1 (.t 64) (.t 65)), oP 67 (.load false 1 (.t 66)), oP 68 (.idxS 1 (.t 60) (.t 67)), oP 69 (.load false 1 (.t 68)), mV 70 0, oP 71 (.nilck (.t 70)), oP 72 (.fieldA 2 (.t 71)), oP 73 (.load false 1 (.t 72)), mV 74 5, oP 75 (.idxS 1 (.t 73) (.t 74)), oP 76 (.load false 1 (.t 75)), oP 77 (.idxS 1 (.t 69) (.t 76)), oP 78 (.load false 1 (.t 77)), mV 79 0, oP 80 (.nilck (.t 79)), oP 81 (.fieldA 2 (.t 80)), oP 82 (.load false 1 (.t 81)), mV 83 6, oP 84 (.idxS 1 (.t 82) (.t 83)), oP 85 (.load false 1 (.t 84)), oP 86 (.bin .neq (.t 78) (.t 85))])
  (.cond (.t 86) (.seq (.ops [oP 2 (.mv (.c (.bool false)))])
  .ret) .skip))))))
  (.ops [oP 87 (.bin .add (.t 26) (iC 1)), mV 26 87]))))
def k125_b1 : KC := (.seq (.ops [oP 19 (.bin .lss (.t 18) (.t 17))])
  (.seq (.cond (.t 19) .skip (.exit 0))
  (.seq (.block 1 (.seq (.ops [mV 20 18, mV 4 20])
  (.seq (.ops [mV 21 0, oP 22 (.nilck (.t 21)), oP 23 (.fieldA 2 (.t 22)), oP 24 (.load false 1 (.t 23)), oP 25 (.len false (.t 24)), oP 26 (.mv (iC 0))])
  (.block 2 (.loop k125_b0)))))
  (.ops [oP 88 (.bin .add (.t 18) (iC 1)), mV 18 88]))))
def k125 : KC := (.seq (.ops [oP 2 (.mv (.c (.bool false)))])
  (.seq (.ops [mV 7 0, oP 8 (.nilck (.t 7)), oP 9 (.fieldA 2 (.t 8)), oP 10 (.load false 1 (.t 9)), oP 11 (.len false (.t 10)), oP 12 (.bin .sub (.t 11) (iC 1)), mV 3 12])
  (.seq (.seq (.ops [mV 13 0, oP 14 (.nilck (.t 13)), oP 15 (.fieldA 2 (.t 14)), oP 16 (.load false 1 (.t 15)), oP 17 (.len false (.t 16)), oP 18 (.mv (iC 0))])
  (.block 0 (.loop k125_b1)))
  (.seq (.ops [oP 2 (.mv (.c (.bool true)))])
  .ret))))
theorem e125 : Ent 125 89 [] [.t 2] k125 := ent Tryz.func125 (by kernel_rfl) (by kernel_rfl) (by kernel_rfl) (fun _ => by kernel_rfl) (by kernel_rfl)
end Go.Proofs.YthbbjbfbeaiphaaGreat
namespace Go.Proofs.YthbbjbfbeaiphaaGreat
open Go.Kv
set_option linter.unusedVariables false
set_option linter.unusedSimpArgs false
attribute [local irreducible] ACall PCall KL
/-- All isomorphisms that begin with p, d numbers being left, in order. -/
noncomputable def comps (a b : List (List Int)) : Nat → List Nat → List (List Nat)
  | 0, p => [p]
  | d + 1, p => ((List.range a.length).map fun q => if fitsB a b (p ++ [q]) = true then comps a b d (p ++ [q]) else []).flatten
noncomputable def cmpN (a b : List (List Int)) (d : Nat) (p : List Nat) (x : Nat) : List (List Nat) := ((List.range x).map fun q => if fitsB a b (p ++ [q]) = true then comps a b d (p ++ [q]) else []).flatten
theorem cmpN_succ (a b : List (List Int)) (d : Nat) (p : List Nat) (x : Nat) : cmpN a b d p (x + 1) = cmpN a b d p x ++ if fitsB a b (p ++ [x]) = true then comps a b d (p ++ [x]) else [] := by
  simp [cmpN, List.range_succ, List.flatten_append]
theorem cmpN_zero (a b : List (List Int)) (d : Nat) (p : List Nat) : cmpN a b d p 0 = [] := rfl
theorem cmpN_all (a b : List (List Int)) (d : Nat) (p : List Nat) : comps a b (d + 1) p = cmpN a b d p a.length := rfl
theorem comps_syc (a : List (List Int)) : ∀ (d : Nat) (p : List Nat), (comps a a d p).length = syc a d p ∧ ∀ x, (cmpN a a d p x).length = sycN a d p x
  | 0, p => by
    refine ⟨rfl, fun x => ?_⟩
    induction x with
    | zero => simp [sycN, cmpN]
    | succ x ih =>
      rw [sycN_succ, cmpN_succ, List.length_append, ih]
      split
      · rfl
      · rfl
  | d + 1, p => by
    have h1 : ∀ q, (comps a a (d + 1) q).length = syc a (d + 1) q := fun q => (comps_syc a d q).2 a.length
    refine ⟨h1 p, fun x => ?_⟩
    induction x with
    | zero => simp [sycN, cmpN]
    | succ x ih =>
      rw [sycN_succ, cmpN_succ, List.length_append, ih]
      split
      · rw [h1]
      · rfl
def toI (q : List Nat) : List Int := q.map fun x : Nat => (x : Int)
theorem comps_len {a b : List (List Int)} : ∀ (d : Nat) (p : List Nat), ∀ q ∈ comps a b d p, q.length = p.length + d
  | 0, p, q, h => by simp [comps] at h; subst h; rfl
  | d + 1, p, q, h => by
    simp only [comps, List.mem_flatten, List.mem_map] at h
    obtain ⟨l, ⟨x, _, rfl⟩, h⟩ := h
    split at h
    · have := comps_len d _ q h; simp at this; omega
    · simp at h
/-- Products agree where all three are told, everywhere. -/
def fitA (a b : List (List Int)) (p : List Nat) : Prop := ∀ i k, i < p.length → k < p.length → fit1 a b p i k
noncomputable def fitAB (a b : List (List Int)) (p : List Nat) : Bool := @decide (fitA a b p) (Classical.propDecidable _)
theorem fitAB_true {a b : List (List Int)} {p : List Nat} (h : fitA a b p) : fitAB a b p = true := by
  unfold fitAB; exact @decide_eq_true _ (Classical.propDecidable _) h
theorem fitAB_false {a b : List (List Int)} {p : List Nat} (h : ¬ fitA a b p) : fitAB a b p = false := by
  unfold fitAB; exact @decide_eq_false _ (Classical.propDecidable _) h
theorem fitAB_iff {a b : List (List Int)} {p : List Nat} : fitAB a b p = true ↔ fitA a b p := by
  by_cases h : fitA a b p
  · simp [fitAB_true h, h]
  · simp [fitAB_false h, h]
theorem getD_snoc (p : List Nat) (q i : Nat) : (p ++ [q]).getD i 0 = if i < p.length then p.getD i 0 else if i = p.length then q else 0 := by
  rw [List.getD_eq_getElem?_getD, List.getElem?_append]
  split
  · rw [List.getD_eq_getElem?_getD]
  · split
    · rename_i h1 h2; subst h2; simp
    · rename_i h1 h2
      have : ([q] : List Nat)[i - p.length]? = none := by rw [List.getElem?_eq_none_iff]; simp; omega
      rw [this]; rfl
/-- What is told of the first numbers stays so. -/
theorem fit1_snoc {a b : List (List Int)} {p : List Nat} (h : fitA a b p) (q : Nat) {i k : Nat} (hi : i < p.length) (hk : k < p.length) (h0 : 0 ≤ tat a i k) (hz : tat a i k ≠ p.length) : fit1 a b (p ++ [q]) i k := by
  intro hlt
  simp only [List.length_append, List.length_cons, List.length_nil] at hlt
  have h1 := h i k hi hk (by omega)
  rw [getD_snoc, getD_snoc, getD_snoc, if_pos (by omega), if_pos hi, if_pos hk]
  exact h1
theorem fits_snoc {a b : List (List Int)} {p : List Nat} {q : Nat} : Fits a b (p ++ [q]) ↔ q ∉ p ∧ fitA a b (p ++ [q]) := by
  have hl : (p ++ [q]).length = p.length + 1 := by simp
  constructor
  · rintro ⟨h1, h2⟩
    refine ⟨fun hm => ?_, h2⟩
    obtain ⟨i, hi, e⟩ := List.mem_iff_getElem.1 hm
    refine h1 i (by omega) ?_
    rw [hl, Nat.add_sub_cancel, getD_snoc, getD_snoc, if_pos hi, if_neg (by omega), if_pos rfl, List.getD_eq_getElem?_getD, List.getElem?_eq_getElem hi, ← e]
    rfl
  · rintro ⟨h1, h2⟩
    refine ⟨fun i hi => ?_, h2⟩
    rw [hl, Nat.add_sub_cancel, getD_snoc, getD_snoc, if_pos (by omega), if_neg (by omega), if_pos rfl, List.getD_eq_getElem?_getD, List.getElem?_eq_getElem (by omega : i < p.length)]
    intro e
    exact h1 (by rw [← e]; exact List.getElem_mem _)
theorem fits_in {a b : List (List Int)} {p : List Nat} {q : Nat} (h : q ∈ p) : fitsB a b (p ++ [q]) = false := fitsB_false fun hf => (fits_snoc.1 hf).1 h
theorem fits_out {a b : List (List Int)} {p : List Nat} {q : Nat} (h : q ∉ p) : fitsB a b (p ++ [q]) = fitAB a b (p ++ [q]) := by
  by_cases hf : fitA a b (p ++ [q])
  · rw [fitsB_true (fits_snoc.2 ⟨h, hf⟩), fitAB_true hf]
  · rw [fitsB_false fun hx => hf (fits_snoc.1 hx).2, fitAB_false hf]
@[simp] theorem toI_length (q : List Nat) : (toI q).length = q.length := by simp [toI]
theorem snoc_lt {p : List Nat} {q n : Nat} (hpx : ∀ i, i < p.length → p.getD i 0 < n) (hq : q < n) : ∀ i, i < (p ++ [q]).length → (p ++ [q]).getD i 0 < n := fun i hi => by
  rw [getD_snoc]
  simp only [List.length_append, List.length_cons, List.length_nil] at hi
  split
  · exact hpx i (by assumption)
  · rw [if_pos (by omega)]; exact hq
theorem toI_getD (q : List Nat) (i : Nat) : (toI q).getD i 0 = (q.getD i 0 : Int) := natD q i
set_option maxRecDepth 100000 in
theorem p125 (a b : List (List Int)) (p : List Nat) (q : Nat) (tl : List PV) (ha : isTab a = true) (hb : isTab b = true) (hab : b.length = a.length) (h10 : a.length ≤ 10) (hp : p.length < a.length) (hpx : ∀ i, i < p.length → p.getD i 0 < a.length) (hq : q < a.length) (hA : fitA a b p) :
    Pure Tryz.prog 125 [.fptr (.list (rows a) :: .list (rows b) :: .list (ints (toI (p ++ [q]))) :: tl) 0] (.bool (fitAB a b (p ++ [q]))) := by
  obtain ⟨hna, hsa⟩ := tab_sq ha
  obtain ⟨hnb, hsb⟩ := tab_sq hb
  have hPx := snoc_lt hpx hq
  have hPl : (p ++ [q]).length = p.length + 1 := by simp
  have hfs := fun i k (hi : i < p.length) (hk : k < p.length) => fit1_snoc hA q hi hk (tab_at ha (i := i) (j := k) (by omega) (by omega)).1
  generalize hP : p ++ [q] = P at *
  have hl1 : ((p.length + 1 : Nat) : Int) - 1 = p.length := by omega
  refine e125 (by simp) fun _ _ => ?_
  simp only [k125, argEnv, toI_length, hPl, hl1, take6, List.drop_zero, Int.cast_ofNat_Int, go_sem, ↓reduceIte, Nat.reduceEqDiff, Nat.reduceAdd, Nat.reduceMul, Nat.reduceLeDiff, Nat.reduceLT, Int.reduceLE, Int.reduceLT, reduceCtorEq]
  refine ⟨by omega, by omega, by omega, ?_⟩
  refine KL_ind k125_b1.eq_1 (fun x : Nat => [(0, .fptr (.list (rows a) :: .list (rows b) :: .list (ints (toI P)) :: tl) 0), (3, .int .i64 p.length), (17, .int .i64 (p.length + 1)), (18, .int .i64 x)]) (fun _ => []) (fun i => i ≤ p.length + 1 ∧ ∀ j k, j < i → k < p.length + 1 → fit1 a b P j k) (fun i => p.length + 1 - i) [0, 3, 17, 18] 0 (by simp [keep]) rfl ⟨Nat.zero_le _, fun j k hj => by omega⟩ fun i ⟨hi, hfi⟩ ihi => ?_
  try simp only [toI_length, hPl, take6, List.drop_zero, Int.cast_ofNat_Int, go_sem, ↓reduceIte, Nat.reduceEqDiff, Nat.reduceAdd, Nat.reduceMul, Nat.reduceLeDiff, Nat.reduceLT, Int.reduceLE, Int.reduceLT, reduceCtorEq]
  refine ⟨fun h2 => ?_, fun h2 => ?_⟩
  · have hip : i < p.length + 1 := by omega
    refine ⟨by omega, ?_⟩
    refine KL_ind k125_b0.eq_1 (fun k : Nat => [(0, .fptr (.list (rows a) :: .list (rows b) :: .list (ints (toI P)) :: tl) 0), (3, .int .i64 p.length), (4, .int .i64 i), (17, .int .i64 (p.length + 1)), (18, .int .i64 i), (25, .int .i64 (p.length + 1)), (26, .int .i64 k)]) (fun _ => []) (fun k => k ≤ p.length + 1 ∧ ∀ j, j < k → fit1 a b P i j) (fun k => p.length + 1 - k) [0, 3, 4, 17, 18, 25, 26] 0 (by simp [keep]) rfl ⟨Nat.zero_le _, fun j hj => by omega⟩ fun k ⟨hk, hfk⟩ ihk => ?_
    have hrow := hsa i (by omega)
    have hrb := hsb (P.getD i 0) (by have := hPx i (by omega); omega)
    try simp only [toI_length, toI_getD, hPl, hrow, hrb, take6, List.drop_zero, Int.cast_ofNat_Int, go_sem, ↓reduceIte, Nat.reduceEqDiff, Nat.reduceAdd, Nat.reduceMul, Nat.reduceLeDiff, Nat.reduceLT, Int.reduceLE, Int.reduceLT, reduceCtorEq]
    refine ⟨fun h3 => ?_, fun h3 => ?_⟩
    · have hkp : k < p.length + 1 := by omega
      have hta := tab_at ha (i := i) (j := k) (by omega) (by omega)
      have e1 : (a.getD i []).getD k 0 = tat a i k := rfl
      have e2 : (b.getD (P.getD i 0) []).getD (P.getD k 0) 0 = tat b (P.getD i 0) (P.getD k 0) := rfl
      have hpi := hPx i (by omega)
      have hpk := hPx k (by omega)
      rw [e1, e2]
      have hst : fit1 a b P i k → ∀ j, j < k + 1 → fit1 a b P i j := fun h j hj => by
        by_cases e : j = k
        · rw [e]; exact h
        · exact hfk j (by omega)
      repeat' (first | refine And.intro ?_ ?_ | intro _)
      all_goals first
        | omega
        | exact Kv.Fin.still ⟨by rw [fitAB_false fun h => by have := h i k (by omega) (by omega) (by omega); omega], rfl⟩
        | (refine ihk (k + 1) ⟨by omega, hst ?_⟩ (by omega) _ _ (by simp [keep]) rfl
           first
             | exact hfs i k (by omega) (by omega) (by omega)
             | (intro hlt; omega))
    · obtain rfl : k = p.length + 1 := by omega
      refine ⟨by omega, ?_⟩
      refine ihi (i + 1) ⟨by omega, fun j k hj hk => ?_⟩ (by omega) _ _ (by simp [keep]) rfl
      by_cases e : j = i
      · rw [e]; exact hfk k hk
      · exact hfi j k (by omega) hk
  · obtain rfl : i = p.length + 1 := by omega
    exact Kv.Fin.still ⟨by rw [fitAB_true fun i k hi hk => hfi i k (by omega) (by omega)], rfl⟩
end Go.Proofs.YthbbjbfbeaiphaaGreat
end
