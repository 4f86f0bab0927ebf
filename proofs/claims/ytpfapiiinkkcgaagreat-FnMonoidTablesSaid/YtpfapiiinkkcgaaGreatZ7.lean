/- Several texts of this session as one, less what the claim does not need. -/
import Derived.Test.YtpfapiiinkkcgaaGreatCb
import Derived.Test.YtpfapiiinkkcgaaGreatZ5
import Derived.Test.YtpfapiiinkkcgaaGreatFC
import Derived.Test.YtpfapiiinkkcgaaGreatG2
section
/- Several texts of this session as one. -/
section
/- Tables: their size, their copies, their equality. -/
namespace Go.Proofs.YtpfapiiinkkcgaaGreat
open Go.Kv
set_option maxRecDepth 100000
end Go.Proofs.YtpfapiiinkkcgaaGreat
namespace Go.Proofs.YtpfapiiinkkcgaaGreat
open Go.Kv
set_option linter.unusedVariables false
set_option linter.unusedSimpArgs false
attribute [local irreducible] ACall PCall KL
/-- What is left of k behind the rows. -/
def szR : List (List Int) → Int → Int
  | [], k => k
  | r :: t, k => if k - r.length < 0 then -1 else szR t (k - r.length)
def szT (t : List (List Int)) (k : Int) : Int := if k - t.length < 0 then -1 else szR t (k - t.length)
theorem rows_getD_len {t : List (List Int)} {x : Nat} (h : x < t.length) : t.getD x [] ∈ t := by
  rw [List.getD_eq_getElem?_getD, List.getElem?_eq_getElem h]; exact List.getElem_mem h
end Go.Proofs.YtpfapiiinkkcgaaGreat
end
section
/- Tables that are owned: an outer slice of rows, each a slice of its own. -/
namespace Go.Kv
set_option linter.unusedVariables false
set_option linter.unusedSimpArgs false
def refs (rs : List (Nat × Nat)) (t : List (List Int)) : List PV := List.zipWith (fun r l => PV.ref r.1 r.2 0 l.length) rs t
/-- In heap σ, object id is a table t; its rows lie in the objects rs. e2, e1: the types of a row, of a number. -/
structure TabAt (e2 e1 : TypeId) (σ : Heap) (id ver : Nat) (rs : List (Nat × Nat)) (t : List (List Int)) : Prop where
  out : σ[id]? = some (.arr ver e2 1 (refs rs t))
  len : rs.length = t.length
  row : ∀ (i : Nat) (r : Nat × Nat) (l : List Int), rs[i]? = some r → t[i]? = some l → σ[r.1]? = some (.arr r.2 e1 1 (ints l))
  nd : (rs.map Prod.fst).Nodup
  ni : id ∉ rs.map Prod.fst
theorem refs_length {rs : List (Nat × Nat)} {t : List (List Int)} (h : rs.length = t.length) : (refs rs t).length = t.length := by simp [refs, h]
theorem refs_get {rs : List (Nat × Nat)} {t : List (List Int)} {i : Nat} {x : PV} (h : (refs rs t)[i]? = some x) : ∃ r l, rs[i]? = some r ∧ t[i]? = some l ∧ x = .ref r.1 r.2 0 l.length := by
  simp only [refs, List.getElem?_zipWith] at h
  cases hr : rs[i]? with
  | none => simp [hr] at h
  | some r =>
    cases hl : t[i]? with
    | none => simp [hr, hl] at h
    | some l => simp [hr, hl] at h; exact ⟨r, l, rfl, rfl, h.symm⟩
variable {e2 e1 : TypeId} {σ : Heap} {id ver : Nat} {rs : List (Nat × Nat)} {t : List (List Int)}
theorem TabAt.imm (h : TabAt e2 e1 σ id ver rs t) {n : Nat} (hn : n = t.length) : Imm σ (.ref id ver 0 n) (.list (rows t)) := by
  subst hn
  refine .ref id ver 0 t.length e2 1 (refs rs t) (rows t) h.out (by rw [refs_length h.len]; omega) (rows_length t) (fun i x d hx hd => ?_) (fun i x d j c c' hx hd hc hc' => ?_)
  · obtain ⟨r, l, hr, hl, rfl⟩ := refs_get hx
    obtain ⟨y, _, rfl⟩ := rows_get hd
    exact ⟨rfl, rfl⟩
  · rw [Nat.zero_add] at hx
    obtain ⟨r, l, hr, hl, rfl⟩ := refs_get hx
    obtain ⟨y, hy, rfl⟩ := rows_get hd
    rw [hl] at hy; cases hy
    have h1 := List.mem_of_getElem? hc
    have h2 := List.mem_of_getElem? hc'
    simp [PV.cs] at h1 h2; subst h1; subst h2
    exact .refi (h.row i r l hr hl)
theorem TabAt.append (h : TabAt e2 e1 σ id ver rs t) (τ : Heap) : TabAt e2 e1 (σ ++ τ) id ver rs t where
  out := by rw [List.getElem?_append_left (List.getElem?_eq_some_iff.1 h.out).1]; exact h.out
  len := h.len
  row := fun i r l hr hl => by
    have := h.row i r l hr hl
    rw [List.getElem?_append_left (List.getElem?_eq_some_iff.1 this).1]; exact this
  nd := h.nd
  ni := h.ni
def shR (n : Nat) (rs : List (Nat × Nat)) : List (Nat × Nat) := rs.map fun r => (r.1 + n, r.2)
theorem TabAt.shift (h : TabAt e2 e1 σ id ver rs t) (τ : Heap) : TabAt e2 e1 (τ ++ σ.map (AObj.ren (sh τ.length))) (id + τ.length) ver (shR τ.length rs) t where
  out := by
    rw [List.getElem?_append_right (by omega), Nat.add_sub_cancel, List.getElem?_map, h.out]
    simp only [Option.map_some, ren_arr, Option.some.injEq, AObj.arr.injEq, true_and]
    simp only [refs, shR, List.map_zipWith, List.zipWith_map_left, ren_ref, sh_def]
  len := by simp [shR, h.len]
  row := fun i r l hr hl => by
    simp only [shR, List.getElem?_map, Option.map_eq_some_iff] at hr
    obtain ⟨q, hq, rfl⟩ := hr
    rw [List.getElem?_append_right (by omega), Nat.add_sub_cancel, List.getElem?_map, h.row i q l hq hl]
    simp only [Option.map_some, ren_arr, ren_ints]
  nd := by
    have e : (shR τ.length rs).map Prod.fst = (rs.map Prod.fst).map (· + τ.length) := by simp [shR, List.map_map, Function.comp_def]
    rw [e]
    exact List.Pairwise.map _ (fun a b (hab : a ≠ b) => show a + τ.length ≠ b + τ.length by omega) h.nd
  ni := by
    have e : (shR τ.length rs).map Prod.fst = (rs.map Prod.fst).map (· + τ.length) := by simp [shR, List.map_map, Function.comp_def]
    rw [e]
    intro hm
    obtain ⟨x, hx, hxe⟩ := List.mem_map.1 hm
    have : x = id := by omega
    exact h.ni (this ▸ hx)
theorem TabAt.keep (h : TabAt e2 e1 σ id ver rs t) {σ' : Heap} (h1 : σ'[id]? = σ[id]?) (h2 : ∀ r ∈ rs, σ'[r.1]? = σ[r.1]?) : TabAt e2 e1 σ' id ver rs t where
  out := h1.trans h.out
  len := h.len
  row := fun i r l hr hl => (h2 r (List.mem_of_getElem? hr)).trans (h.row i r l hr hl)
  nd := h.nd
  ni := h.ni
/-- One row is written. -/
theorem TabAt.set (h : TabAt e2 e1 σ id ver rs t) {i : Nat} {r : Nat × Nat} (hr : rs[i]? = some r) {l m : List Int} (hl : t[i]? = some l) (hm : m.length = l.length) : TabAt e2 e1 (σ.set r.1 (.arr r.2 e1 1 (ints m))) id ver rs (t.set i m) := by
  have hrm : r.1 ∈ rs.map Prod.fst := List.mem_map.2 ⟨r, List.mem_of_getElem? hr, rfl⟩
  have hit := (List.getElem?_eq_some_iff.1 hl).1
  refine ⟨?_, by rw [List.length_set]; exact h.len, fun j q n hq hn => ?_, h.nd, h.ni⟩
  · rw [List.getElem?_set_ne (fun e : r.1 = id => h.ni (by rw [← e]; exact hrm)), h.out]
    congr 2
    apply List.ext_getElem?
    intro j
    simp only [refs, List.getElem?_zipWith, List.getElem?_set]
    by_cases e : i = j
    · subst e
      rw [if_pos rfl, if_pos hit, hr, hl]
      simp [hm]
    · rw [if_neg e]
  · by_cases e : i = j
    · subst e
      rw [hr] at hq; cases hq
      rw [List.getElem?_set_self hit] at hn; cases hn
      rw [List.getElem?_set_self (List.getElem?_eq_some_iff.1 (h.row i r l hr hl)).1]
    · rw [List.getElem?_set_ne e] at hn
      have hne : r.1 ≠ q.1 := fun e2 => by
        have hi := (List.getElem?_eq_some_iff.1 hr)
        have hj := (List.getElem?_eq_some_iff.1 hq)
        have := (List.getElem_inj (h₀ := by simpa using hi.1) (h₁ := by simpa using hj.1) h.nd).1 (by simp [hi.2, hj.2, e2])
        exact e this
      rw [List.getElem?_set_ne hne]
      exact h.row j q n hq hn
theorem TabAt.lt (h : TabAt e2 e1 σ id ver rs t) : id < σ.length ∧ ∀ r ∈ rs, r.1 < σ.length := by
  refine ⟨(List.getElem?_eq_some_iff.1 h.out).1, fun r hr => ?_⟩
  obtain ⟨i, hi⟩ := List.getElem?_of_mem hr
  have hlt := (List.getElem?_eq_some_iff.1 hi).1
  exact (List.getElem?_eq_some_iff.1 (h.row i r (t[i]'(h.len ▸ hlt)) hi (List.getElem?_eq_getElem (h.len ▸ hlt)))).1
/-- A call that hands back a new table of one's own, and a number. -/
def NewT (P : Program) (f : FuncId) (args : List PV) (e2 e1 : TypeId) (T : List (List Int)) (r : Int) : Prop :=
  ACall P f args [] fun v s => ∃ id ver rs, v = .tup [.ref id ver 0 T.length, .int .i64 r] ∧ TabAt e2 e1 s id ver rs T ∧ ∀ o ∈ s, o.free
theorem shR_ge {n : Nat} {rs : List (Nat × Nat)} : ∀ r ∈ shR n rs, n ≤ r.1 := fun r hr => by
  simp only [shR, List.mem_map] at hr
  obtain ⟨q, _, rfl⟩ := hr
  simp
theorem NewT.call {P : Program} {f : FuncId} {args : List PV} {T : List (List Int)} {r : Int} (h : NewT P f args e2 e1 T r) {σ : Heap} {K : PV → Heap → Prop} (ha : ∀ a ∈ args, PV.upto 0 a)
    (hk : ∀ (id ver : Nat) (rs : List (Nat × Nat)) (s : Heap), TabAt e2 e1 (σ ++ s) id ver rs T → σ.length ≤ id → (∀ r ∈ rs, σ.length ≤ r.1) → K (.tup [.ref id ver 0 T.length, .int .i64 r]) (σ ++ s)) : ACall P f args σ K := by
  refine ACall.frame h ha fun v s ⟨id, ver, rs, hv, hT, _⟩ => ?_
  subst hv
  have := hk _ _ _ _ (hT.shift σ) (by omega) shR_ge
  simpa only [ren_tup, ren_ref, ren_int, List.map_cons, List.map_nil, sh_def] using this
theorem NewT.lend {P : Program} {f : FuncId} {args args' : List PV} {T : List (List Int)} {r : Int} (h : NewT P f args' e2 e1 T r) {σ : Heap} {K : PV → Heap → Prop} (ha : ImmL σ args args')
    (hk : ∀ (id ver : Nat) (rs : List (Nat × Nat)) (s : Heap), TabAt e2 e1 (σ ++ s) id ver rs T → σ.length ≤ id → (∀ r ∈ rs, σ.length ≤ r.1) → K (.tup [.ref id ver 0 T.length, .int .i64 r]) (σ ++ s)) : ACall P f args σ K := by
  refine ACall.lend h ha fun v s ⟨id, ver, rs, hv, hT, hf⟩ => ?_
  subst hv
  refine ⟨⟨free_tup fun c hc => ?_, hf⟩, ?_⟩
  · simp only [List.mem_cons, List.not_mem_nil, or_false] at hc
    rcases hc with rfl | rfl
    · exact free_ref _ _ _ _
    · exact (Plain.int _ _).fr
  · have := hk _ _ _ _ (hT.shift σ) (by omega) shR_ge
    simpa only [ren_tup, ren_ref, ren_int, List.map_cons, List.map_nil, sh_def] using this
end Go.Kv
end
section
/- Owned tables: the copy, the marking, the holding. -/
namespace Go.Proofs.YtpfapiiinkkcgaaGreat
open Go.Kv
set_option maxRecDepth 100000
end Go.Proofs.YtpfapiiinkkcgaaGreat
namespace Go.Proofs.YtpfapiiinkkcgaaGreat
open Go.Kv
set_option linter.unusedVariables false
set_option linter.unusedSimpArgs false
attribute [local irreducible] ACall PCall KL
end Go.Proofs.YtpfapiiinkkcgaaGreat
end
section
/- Marking of owned rows, and own copies of tables, in the general form. -/
namespace Go.Proofs.YtpfapiiinkkcgaaGreat
open Go.Kv
set_option linter.unusedVariables false
set_option linter.unusedSimpArgs false
attribute [local irreducible] ACall PCall KL
end Go.Proofs.YtpfapiiinkkcgaaGreat
end
section
/- What is owned within a part of the heap: rows, numbers; new, marked, kept. -/
namespace Go.Proofs.YtpfapiiinkkcgaaGreat
open Go.Kv
set_option linter.unusedVariables false
set_option linter.unusedSimpArgs false
attribute [local irreducible] ACall PCall KL
/-- Owned rows. -/
inductive OwnT (e2 e1 : TypeId) (σ : Heap) (lo hi : Nat) : PV → List (List Int) → Prop
  | nil : OwnT e2 e1 σ lo hi .nils []
  | tab (id ver : Nat) (rs : List Rw) (t : List (List Int)) (h : TabG e2 e1 σ id ver rs t) (h1 : lo ≤ id ∧ id < hi) (h2 : ∀ r ∈ rs, r.nil = false → lo ≤ r.id ∧ r.id < hi) : OwnT e2 e1 σ lo hi (.ref id ver 0 t.length) t
/-- Owned numbers. -/
inductive OwnI (e : TypeId) (σ : Heap) (lo hi : Nat) : PV → List Int → Prop
  | nil : OwnI e σ lo hi .nils []
  | own (id ver : Nat) (pre l post : List Int) (h : σ[id]? = some (.arr ver e 1 (ints (pre ++ l ++ post)))) (h1 : lo ≤ id ∧ id < hi) : OwnI e σ lo hi (.ref id ver pre.length l.length) l
variable {e2 e1 e : TypeId} {σ : Heap} {lo hi : Nat} {x : PV} {t : List (List Int)} {l : List Int}
theorem OwnT.imm (h : OwnT e2 e1 σ lo hi x t) : Imm σ x (.list (rows t)) := by
  cases h with
  | nil => exact .nils
  | tab id ver rs t h _ _ => exact h.imm rfl
theorem OwnI.imm (h : OwnI e σ lo hi x l) : Imm σ x (.list (ints l)) := by
  cases h with
  | nil => exact .nils
  | own id ver pre l post h _ => exact .refp h rfl rfl
theorem OwnT.keep (h : OwnT e2 e1 σ lo hi x t) {σ' : Heap} (hk : ∀ j, lo ≤ j → j < hi → σ'[j]? = σ[j]?) : OwnT e2 e1 σ' lo hi x t := by
  cases h with
  | nil => exact .nil
  | tab id ver rs t h h1 h2 => exact .tab id ver rs t (h.keep (hk id h1.1 h1.2) fun r hr hn => hk _ (h2 r hr hn).1 (h2 r hr hn).2) h1 h2
theorem OwnI.keep (h : OwnI e σ lo hi x l) {σ' : Heap} (hk : ∀ j, lo ≤ j → j < hi → σ'[j]? = σ[j]?) : OwnI e σ' lo hi x l := by
  cases h with
  | nil => exact .nil
  | own id ver pre l post h h1 => exact .own id ver pre l post ((hk id h1.1 h1.2).trans h) h1
theorem OwnT.shift (h : OwnT e2 e1 σ lo hi x t) (τ : Heap) : OwnT e2 e1 (τ ++ σ.map (AObj.ren (Kv.sh τ.length))) (lo + τ.length) (hi + τ.length) (x.ren (Kv.sh τ.length)) t := by
  cases h with
  | nil => simp only [ren_nils]; exact .nil
  | tab id ver rs t h h1 h2 =>
    simp only [ren_ref, sh_def]
    refine .tab _ _ _ t (h.shift τ) (by omega) fun r hr hn => ?_
    obtain ⟨q, hq, rfl⟩ := List.mem_map.1 hr
    have := h2 q hq hn
    simp only [Rw.sh]; omega
theorem OwnI.shift (h : OwnI e σ lo hi x l) (τ : Heap) : OwnI e (τ ++ σ.map (AObj.ren (Kv.sh τ.length))) (lo + τ.length) (hi + τ.length) (x.ren (Kv.sh τ.length)) l := by
  cases h with
  | nil => simp only [ren_nils]; exact .nil
  | own id ver pre l post h h1 =>
    simp only [ren_ref, sh_def]
    refine .own _ ver pre l post ?_ (by omega)
    rw [List.getElem?_append_right (by omega), Nat.add_sub_cancel, List.getElem?_map, h]
    simp only [Option.map_some, ren_arr, ren_ints]
theorem OwnT.fr (h : OwnT e2 e1 σ lo hi x t) : x.free := by
  cases h with
  | nil => exact Plain.nils.fr
  | tab id ver rs t h _ _ => exact free_ref _ _ _ _
theorem OwnI.fr (h : OwnI e σ lo hi x l) : x.free := by
  cases h with
  | nil => exact Plain.nils.fr
  | own id ver pre l post h _ => exact free_ref _ _ _ _
/-- New rows of one's own, and a number. -/
def NewTO (P : Program) (f : FuncId) (args : List PV) (e2 e1 : TypeId) (T : List (List Int)) (r : Int) : Prop :=
  ACall P f args [] fun v s => ∃ x, v = .tup [x, .int .i64 r] ∧ OwnT e2 e1 s 0 s.length x T ∧ Free s
def NewIO (P : Program) (f : FuncId) (args : List PV) (e : TypeId) (l : List Int) (r : Int) : Prop :=
  ACall P f args [] fun v s => ∃ x, v = .tup [x, .int .i64 r] ∧ OwnI e s 0 s.length x l ∧ Free s
theorem NewTN.own {P : Program} {f : FuncId} {args : List PV} {T : List (List Int)} {r : Int} (h : NewTN P f args e2 e1 T r) : NewTO P f args e2 e1 T r :=
  ACall.mono h fun v s ⟨x, hv, hT, hf⟩ => ⟨x, hv, (by
    cases hT with
    | nil => exact .nil
    | tab id ver rs _ h => exact .tab id ver rs _ h ⟨Nat.zero_le _, h.lt.1⟩ fun r hr hn => ⟨Nat.zero_le _, h.lt.2 r hr hn⟩), hf⟩
theorem NewI.own {P : Program} {f : FuncId} {args : List PV} {l : List Int} {r : Int} (h : NewI P f args e l r) : NewIO P f args e l r :=
  ACall.mono h fun v s ⟨ver, pre, post, hv, hs⟩ => ⟨_, hv, hs ▸ .own 0 ver pre l post rfl ⟨Nat.zero_le _, by simp⟩, hs ▸ .ints _ _ _ _⟩
theorem NewTO.frozen {P : Program} {f : FuncId} {args : List PV} {T : List (List Int)} {r : Int} (h : NewTO P f args e2 e1 T r) : Pure P f args (.tup [.list (rows T), .int .i64 r]) :=
  ACall.ret h fun v s ⟨x, hv, hT, _⟩ => by
    subst hv
    exact Fin.freeze (Imm.tupL (.cons hT.imm (.cons (.int _ _ _) (.nil _)))) ⟨rfl, rfl⟩
theorem NewIO.frozen {P : Program} {f : FuncId} {args : List PV} {l : List Int} {r : Int} (h : NewIO P f args e l r) : Pure P f args (.tup [.list (ints l), .int .i64 r]) :=
  ACall.ret h fun v s ⟨x, hv, hT, _⟩ => by
    subst hv
    exact Fin.freeze (Imm.tupL (.cons hT.imm (.cons (.int _ _ _) (.nil _)))) ⟨rfl, rfl⟩
theorem NewTO.lend {P : Program} {f : FuncId} {args args' : List PV} {T : List (List Int)} {r : Int} (h : NewTO P f args' e2 e1 T r) {σ : Heap} {K : PV → Heap → Prop} (ha : ImmL σ args args')
    (hk : ∀ (x : PV) (σ' : Heap), OwnT e2 e1 σ' σ.length σ'.length x T → (∀ j, j < σ.length → σ'[j]? = σ[j]?) → σ.length ≤ σ'.length → K (.tup [x, .int .i64 r]) σ') : ACall P f args σ K := by
  refine ACall.lend h ha fun v s ⟨x, hv, hT, hf⟩ => ?_
  subst hv
  refine ⟨⟨free_tup fun c hc => ?_, hf⟩, ?_⟩
  · simp only [List.mem_cons, List.not_mem_nil, or_false] at hc
    rcases hc with rfl | rfl
    · exact hT.fr
    · exact (Plain.int _ _).fr
  · have h1 := hT.shift σ
    have e : (σ ++ s.map (AObj.ren (Kv.sh σ.length))).length = s.length + σ.length := by simp; omega
    rw [Nat.zero_add, ← e] at h1
    have := hk _ _ h1 (fun j hj => List.getElem?_append_left hj) (by simp)
    simpa only [ren_tup, ren_int, List.map_cons, List.map_nil] using this
theorem NewIO.lend {P : Program} {f : FuncId} {args args' : List PV} {l : List Int} {r : Int} (h : NewIO P f args' e l r) {σ : Heap} {K : PV → Heap → Prop} (ha : ImmL σ args args')
    (hk : ∀ (x : PV) (σ' : Heap), OwnI e σ' σ.length σ'.length x l → (∀ j, j < σ.length → σ'[j]? = σ[j]?) → σ.length ≤ σ'.length → K (.tup [x, .int .i64 r]) σ') : ACall P f args σ K := by
  refine ACall.lend h ha fun v s ⟨x, hv, hT, hf⟩ => ?_
  subst hv
  refine ⟨⟨free_tup fun c hc => ?_, hf⟩, ?_⟩
  · simp only [List.mem_cons, List.not_mem_nil, or_false] at hc
    rcases hc with rfl | rfl
    · exact hT.fr
    · exact (Plain.int _ _).fr
  · have h1 := hT.shift σ
    have e : (σ ++ s.map (AObj.ren (Kv.sh σ.length))).length = s.length + σ.length := by simp; omega
    rw [Nat.zero_add, ← e] at h1
    have := hk _ _ h1 (fun j hj => List.getElem?_append_left hj) (by simp)
    simpa only [ren_tup, ren_int, List.map_cons, List.map_nil] using this
end Go.Proofs.YtpfapiiinkkcgaaGreat
end
section
/- Lists of maps that are owned within a part of the heap. -/
namespace Go.Proofs.YtpfapiiinkkcgaaGreat
open Go.Kv
set_option linter.unusedVariables false
set_option linter.unusedSimpArgs false
attribute [local irreducible] ACall PCall KL
inductive OwnA (e : TypeId) (σ : Heap) (lo hi : Nat) : PV → List (List Int) → Prop
  | nil : OwnA e σ lo hi .nils []
  | own (id ver : Nat) (l post : List (List Int)) (h : σ[id]? = some (.arr ver e 6 (aggs (l ++ post)))) (h6 : ∀ r ∈ l, r.length = 6) (h1 : lo ≤ id ∧ id < hi) : OwnA e σ lo hi (.ref id ver 0 l.length) l
variable {e : TypeId} {σ : Heap} {lo hi : Nat} {x : PV} {l : List (List Int)}
theorem Imm.refap {σ : Heap} {id ver n : Nat} {e : TypeId} {l post : List (List Int)} (h : σ[id]? = some (.arr ver e 6 (aggs (l ++ post)))) (h6 : ∀ r ∈ l, r.length = 6) (hn : n = l.length) : Imm σ (.ref id ver 0 n) (.list (aggs l)) := by
  subst hn
  have hg : ∀ (i : Nat) (x d : PV), (aggs (l ++ post))[i]? = some x → (aggs l)[i]? = some d → x = d := fun i x d hx hd => by
    have hlt := (List.getElem?_eq_some_iff.1 hd).1
    rw [← aggs_append, List.getElem?_append_left hlt, hd] at hx
    exact (Option.some.inj hx).symm
  refine .ref id ver 0 l.length e 6 (aggs (l ++ post)) (aggs l) h (by simp [aggs_length]) (aggs_length l) (fun i x d hx hd => ?_) (fun i x d j c c' hx hd hc hc' => ?_)
  · rw [Nat.zero_add] at hx
    obtain rfl := hg i x d hx hd
    obtain ⟨y, hy, rfl⟩ := aggs_get hd
    exact ⟨rfl, ints_ok y⟩
  · rw [Nat.zero_add] at hx
    obtain rfl := hg i x d hx hd
    obtain ⟨y, _, rfl⟩ := aggs_get hd
    rw [hc] at hc'; cases hc'
    exact .refl _ ((Plain.ints y c (List.mem_of_getElem? hc)).up)
theorem OwnA.imm (h : OwnA e σ lo hi x l) : Imm σ x (.list (aggs l)) := by
  cases h with
  | nil => exact .nils
  | own id ver l post h h6 _ => exact Imm.refap h h6 rfl
theorem OwnA.keep (h : OwnA e σ lo hi x l) {σ' : Heap} (hk : ∀ j, lo ≤ j → j < hi → σ'[j]? = σ[j]?) : OwnA e σ' lo hi x l := by
  cases h with
  | nil => exact .nil
  | own id ver l post h h6 h1 => exact .own id ver l post ((hk id h1.1 h1.2).trans h) h6 h1
theorem OwnA.shift (h : OwnA e σ lo hi x l) (τ : Heap) : OwnA e (τ ++ σ.map (AObj.ren (Kv.sh τ.length))) (lo + τ.length) (hi + τ.length) (x.ren (Kv.sh τ.length)) l := by
  cases h with
  | nil => simp only [ren_nils]; exact .nil
  | own id ver l post h h6 h1 =>
    simp only [ren_ref, sh_def]
    refine .own _ ver l post ?_ h6 (by omega)
    rw [List.getElem?_append_right (by omega), Nat.add_sub_cancel, List.getElem?_map, h]
    simp only [Option.map_some, ren_arr, ren_aggs]
theorem OwnA.fr (h : OwnA e σ lo hi x l) : x.free := by
  cases h with
  | nil => exact Plain.nils.fr
  | own id ver l post h _ _ => exact free_ref _ _ _ _
theorem free_aggs {v : Nat} {e : TypeId} {s : Nat} (l : List (List Int)) : AObj.free (.arr v e s (aggs l)) := fun c hc => (flat_aggs c hc).fr
theorem Free.aggs (v : Nat) (e : TypeId) (s : Nat) (l : List (List Int)) : Free [.arr v e s (Kv.aggs l)] := fun o ho => by
  simp at ho; subst ho; exact free_aggs l
/-- New maps of one's own, and a number. -/
def NewAO (P : Program) (f : FuncId) (args : List PV) (e : TypeId) (l : List (List Int)) (r : Int) : Prop :=
  ACall P f args [] fun v s => ∃ x, v = .tup [x, .int .i64 r] ∧ OwnA e s 0 s.length x l ∧ Free s
theorem NewAO.frozen {P : Program} {f : FuncId} {args : List PV} {r : Int} (h : NewAO P f args e l r) : Pure P f args (.tup [.list (aggs l), .int .i64 r]) :=
  ACall.ret h fun v s ⟨x, hv, hT, _⟩ => by
    subst hv
    exact Fin.freeze (Imm.tupL (.cons hT.imm (.cons (.int _ _ _) (.nil _)))) ⟨rfl, rfl⟩
theorem NewAO.lend {P : Program} {f : FuncId} {args args' : List PV} {r : Int} (h : NewAO P f args' e l r) {σ : Heap} {K : PV → Heap → Prop} (ha : ImmL σ args args')
    (hk : ∀ (x : PV) (σ' : Heap), OwnA e σ' σ.length σ'.length x l → (∀ j, j < σ.length → σ'[j]? = σ[j]?) → σ.length ≤ σ'.length → K (.tup [x, .int .i64 r]) σ') : ACall P f args σ K := by
  refine ACall.lend h ha fun v s ⟨x, hv, hT, hf⟩ => ?_
  subst hv
  refine ⟨⟨free_tup fun c hc => ?_, hf⟩, ?_⟩
  · simp only [List.mem_cons, List.not_mem_nil, or_false] at hc
    rcases hc with rfl | rfl
    · exact hT.fr
    · exact (Plain.int _ _).fr
  · have h1 := hT.shift σ
    have e : (σ ++ s.map (AObj.ren (Kv.sh σ.length))).length = s.length + σ.length := by simp; omega
    rw [Nat.zero_add, ← e] at h1
    have := hk _ _ h1 (fun j hj => List.getElem?_append_left hj) (by simp)
    simpa only [ren_tup, ren_int, List.map_cons, List.map_nil] using this
end Go.Proofs.YtpfapiiinkkcgaaGreat
end
section
/- The list of maps of the classes of an invariant partition: both sides. -/
namespace Go.Proofs.YtpfapiiinkkcgaaGreat
open Go.Kv
set_option maxRecDepth 100000
/- spec.l01Made -/
/- live [0, 2, 3, 4] -/
def k116_b0 : KC := (.seq (.seq (.ops [⟨(some 8), none, .mv (.t 4)⟩, ⟨(some 9), none, .mv (.t 0)⟩, ⟨(some 10), none, .len false (.t 9)⟩, ⟨(some 11), none, .bin .lss (.t 8) (.t 10)⟩])
  (.cond (.t 11) .skip (.exit 0)))
  (.seq (.block 1 (.ops [⟨(some 14), none, .mv (.t 4)⟩, ⟨(some 15), none, .mv (.t 0)⟩, ⟨(some 16), none, .mv (.t 4)⟩, ⟨(some 17), none, .idxS 1 (.t 15) (.t 16)⟩, ⟨(some 18), none, .load false 1 (.t 17)⟩, ⟨(some 19), none, .fieldA 1 (.t 3)⟩, ⟨(some 20), none, .idxA 5 1 (.t 19) (.t 14)⟩, ⟨none, none, .store 1 (.t 20) (.t 18)⟩]))
  (.ops [⟨(some 12), none, .mv (.t 4)⟩, ⟨(some 13), none, .bin .add (.t 12) (.c (.int .i64 1))⟩, ⟨(some 4), none, .mv (.t 13)⟩])))
def k116 : KC := (.seq (.ops [⟨(some 2), none, .alloc [.int .i64 0, .int .i64 0, .int .i64 0, .int .i64 0, .int .i64 0, .int .i64 0]⟩])
  (.seq (.ops [⟨(some 5), none, .mv (.t 0)⟩, ⟨(some 6), none, .len false (.t 5)⟩, ⟨(some 7), none, .build [.int .i64 0, .int .i64 0, .int .i64 0, .int .i64 0, .int .i64 0, .int .i64 0] [(0, 1, (.t 6))]⟩, ⟨(some 3), none, .alloc [.int .i64 0, .int .i64 0, .int .i64 0, .int .i64 0, .int .i64 0, .int .i64 0]⟩, ⟨none, none, .store 6 (.t 3) (.t 7)⟩])
  (.seq (.seq (.ops [⟨(some 4), none, .mv (.c (.int .i64 0))⟩])
  (.block 0 (.loop k116_b0)))
  (.seq (.ops [⟨(some 21), none, .load true 6 (.t 3)⟩, ⟨none, none, .store 6 (.t 2) (.t 21)⟩])
  .ret))))
theorem e116 {args : List PV} {σ : Heap} {K : PV → Heap → Prop} (hl : args.length ≤ 22) (h : Wf σ → (∀ a ∈ args, PV.upto σ.length a) → vc (mkCfg Tryz.prog mixed [] 22 σ.length) k116 (FinK σ.length [.cell 2 true 6] K) (argEnv 0 args) σ) : ACall Tryz.prog 116 args σ K :=
  ACall_enter (C := mkCfg Tryz.prog mixed [] 22 σ.length) (c := Tryz.f116.body.getD .skip) Tryz.func116 (by kernel_rfl) (by kernel_rfl) (by kernel_rfl) rfl hl (by kernel_rfl) (by kernel_rfl) h
end Go.Proofs.YtpfapiiinkkcgaaGreat
namespace Go.Proofs.YtpfapiiinkkcgaaGreat
open Go.Kv
set_option linter.unusedVariables false
set_option linter.unusedSimpArgs false
attribute [local irreducible] ACall PCall KL
/-- The greatest of numbers. -/
def mxl (P : List Int) : Int := P.foldl max (-1)
theorem natD (l : List Nat) (x : Nat) : (l.map fun x : Nat => (x : Int)).getD x 0 = (l.getD x 0 : Int) := by
  simp only [List.getD_eq_getElem?_getD, List.getElem?_map]
  cases l[x]? <;> rfl
theorem p116 (l : List Nat) (hl : l.length ≤ 5) : Pure Tryz.prog 116 [.list (ints (l.map fun x : Nat => (x : Int)))] (.agg (ints (mp l))) := by
  refine e116 (by simp) fun _ _ => ?_
  simp only [k116, argEnv, List.length_map, take6, List.drop_zero, Int.cast_ofNat_Int, go_sem, ↓reduceIte, Nat.reduceEqDiff, Nat.reduceAdd, Nat.reduceMul, Nat.reduceLeDiff, Nat.reduceLT, Int.reduceLE, Int.reduceLT, reduceCtorEq]
  refine KL_ind k116_b0.eq_1 (fun x : Nat => [(0, .list (ints (l.map fun x : Nat => (x : Int)))), (2, .ptr 0 0), (3, .ptr 1 0), (4, .int .i64 x)]) (fun x => [.box (ints [0, 0, 0, 0, 0, 0]), .box (ints (mpN l.length (l.take x)))]) (fun x => x ≤ l.length) (fun x => l.length - x) [0, 2, 3, 4] 0 (by rfl) (by rfl) (Nat.zero_le _) fun x hx ih => ?_
  have h6 : (mpN (l.length : Int) (l.take x)).length = 6 := mpN_length (by simp; omega)
  try simp only [h6, List.length_map, take6, List.drop_zero, Int.cast_ofNat_Int, go_sem, ↓reduceIte, Nat.reduceEqDiff, Nat.reduceAdd, Nat.reduceMul, Nat.reduceLeDiff, Nat.reduceLT, Int.reduceLE, Int.reduceLT, reduceCtorEq]
  refine ⟨fun h3 => ?_, fun h3 => ?_⟩
  · refine ⟨by omega, fun h4 => ⟨by omega, by omega, by omega, ?_⟩⟩
    refine ih (x + 1) (by omega) (by omega) _ _ (by rfl) ?_
    rw [natD, mpN_pushI (by simp; omega) (by simp; omega), List.take_succ_eq_append_getElem h4, getD_eq h4]
  · obtain rfl : x = l.length := by omega
    rw [List.take_length]
    exact Kv.Fin.still ⟨rfl, rfl⟩
/-- The images of the classes, of the first x points. -/
def st (Q f : List Nat) (c x : Nat) : List Nat := (List.range x).foldl (fun s p => s.set (Q.getD p 0) (Q.getD (f.getD p 0) 0)) (List.replicate c 0)
theorem st_zero (Q f : List Nat) (c : Nat) : st Q f c 0 = List.replicate c 0 := rfl
theorem st_succ (Q f : List Nat) (c x : Nat) : st Q f c (x + 1) = (st Q f c x).set (Q.getD x 0) (Q.getD (f.getD x 0) 0) := by simp [st, List.range_succ]
@[simp] theorem st_length (Q f : List Nat) (c : Nat) : ∀ x, (st Q f c x).length = c
  | 0 => by simp [st_zero]
  | x + 1 => by rw [st_succ, List.length_set, st_length Q f c x]
/-- What a right list and an invariant partition give. -/
def lcl (Q : List Nat) (c : Nat) (fs : List (List Nat)) : List (List Int) := fs.map fun f => mp (st Q f c Q.length)
@[simp] theorem lcl_length (Q : List Nat) (c : Nat) (fs : List (List Nat)) : (lcl Q c fs).length = fs.length := by simp [lcl]
end Go.Proofs.YtpfapiiinkkcgaaGreat
end
section
/- Tables: what a table is, by both sides; searching by a predicate. -/
namespace Go.Proofs.YtpfapiiinkkcgaaGreat
open Go.Kv
set_option maxRecDepth 100000
/- spec.l08Is -/
/- live [0, 3, 4, 5] -/
def k107_b0 : KC := (.seq (.seq (.ops [⟨(some 26), none, .mv (.t 5)⟩, ⟨(some 27), none, .mv (.t 3)⟩, ⟨(some 28), none, .bin .lss (.t 26) (.t 27)⟩])
  (.cond (.t 28) .skip (.exit 2)))
  (.seq (.block 3 (.seq (.ops [⟨(some 31), none, .mv (.t 0)⟩, ⟨(some 32), none, .mv (.t 4)⟩, ⟨(some 33), none, .idxS 1 (.t 31) (.t 32)⟩, ⟨(some 34), none, .load false 1 (.t 33)⟩, ⟨(some 35), none, .mv (.t 5)⟩, ⟨(some 36), none, .idxS 1 (.t 34) (.t 35)⟩, ⟨(some 37), none, .load false 1 (.t 36)⟩, ⟨(some 38), none, .mv (.t 3)⟩, ⟨(some 39), none, .bin .sub (.t 38) (.c (.int .i64 1))⟩, ⟨(some 40), none, .call (.c (.fn (.func 71) [] [])) [(.t 37), (.c (.int .i64 0)), (.t 39)]⟩, ⟨(some 41), none, .not (.t 40)⟩])
  (.cond (.t 41) (.seq (.ops [⟨(some 2), none, .mv (.c (.bool false))⟩])
  .ret) .skip)))
  (.ops [⟨(some 29), none, .mv (.t 5)⟩, ⟨(some 30), none, .bin .add (.t 29) (.c (.int .i64 1))⟩, ⟨(some 5), none, .mv (.t 30)⟩])))
/- live [0, 3, 4] -/
def k107_b1 : KC := (.seq (.seq (.ops [⟨(some 14), none, .mv (.t 4)⟩, ⟨(some 15), none, .mv (.t 3)⟩, ⟨(some 16), none, .bin .lss (.t 14) (.t 15)⟩])
  (.cond (.t 16) .skip (.exit 0)))
  (.seq (.block 1 (.seq (.seq (.ops [⟨(some 19), none, .mv (.t 0)⟩, ⟨(some 20), none, .mv (.t 4)⟩, ⟨(some 21), none, .idxS 1 (.t 19) (.t 20)⟩, ⟨(some 22), none, .load false 1 (.t 21)⟩, ⟨(some 23), none, .len false (.t 22)⟩, ⟨(some 24), none, .mv (.t 3)⟩, ⟨(some 25), none, .bin .neq (.t 23) (.t 24)⟩])
  (.cond (.t 25) (.seq (.ops [⟨(some 2), none, .mv (.c (.bool false))⟩])
  .ret) .skip))
  (.seq (.ops [⟨(some 5), none, .mv (.c (.int .i64 0))⟩])
  (.block 2 (.loop k107_b0)))))
  (.ops [⟨(some 17), none, .mv (.t 4)⟩, ⟨(some 18), none, .bin .add (.t 17) (.c (.int .i64 1))⟩, ⟨(some 4), none, .mv (.t 18)⟩])))
def k107 : KC := (.seq (.ops [⟨(some 2), none, .mv (.c (.bool false))⟩])
  (.seq (.ops [⟨(some 6), none, .mv (.t 0)⟩, ⟨(some 7), none, .len false (.t 6)⟩, ⟨(some 3), none, .mv (.t 7)⟩])
  (.seq (.seq (.ops [⟨(some 8), none, .mv (.t 3)⟩, ⟨(some 9), none, .bin .lss (.t 8) (.c (.int .i64 1))⟩, ⟨(some 10), none, .mv (.t 9)⟩, ⟨(some 11), some (10, false), .mv (.t 3)⟩, ⟨(some 12), some (10, false), .bin .gtr (.t 11) (.c (.int .i64 40))⟩, ⟨(some 13), none, .pick (.t 10) (.c (.bool true)) (.t 12)⟩])
  (.cond (.t 13) (.seq (.ops [⟨(some 2), none, .mv (.c (.bool false))⟩])
  .ret) .skip))
  (.seq (.seq (.ops [⟨(some 4), none, .mv (.c (.int .i64 0))⟩])
  (.block 0 (.loop k107_b1)))
  (.seq (.ops [⟨(some 2), none, .mv (.c (.bool true))⟩])
  .ret)))))
theorem e107 {args : List PV} {σ : Heap} {K : PV → Heap → Prop} (hl : args.length ≤ 42) (h : Wf σ → (∀ a ∈ args, PV.upto σ.length a) → vc (mkCfg Tryz.prog mixed [] 42 σ.length) k107 (FinK σ.length [.t 2] K) (argEnv 0 args) σ) : ACall Tryz.prog 107 args σ K :=
  ACall_enter (C := mkCfg Tryz.prog mixed [] 42 σ.length) (c := Tryz.f107.body.getD .skip) Tryz.func107 (by kernel_rfl) (by kernel_rfl) (by kernel_rfl) rfl hl (by kernel_rfl) (by kernel_rfl) h
/- impl.isTable -/
def k105 : KC := (.seq (.ops [⟨(some 2), none, .mv (.c (.bool false))⟩])
  (.seq (.ops [⟨(some 4), none, .mv (.t 0)⟩, ⟨(some 5), none, .len false (.t 4)⟩, ⟨(some 3), none, .alloc [.int .i64 0]⟩, ⟨none, none, .store 1 (.t 3) (.t 5)⟩])
  (.seq (.ops [⟨(some 6), none, .load false 1 (.t 3)⟩, ⟨(some 7), none, .call (.c (.fn (.func 77) [] [])) [(.t 6), (.c (.int .i64 1)), (.c (.int .i64 40))]⟩, ⟨(some 8), none, .mv (.t 7)⟩, ⟨(some 9), some (8, true), .mv (.t 0)⟩, ⟨(some 10), some (8, true), .mkfn (.func 164) [] [(.t 3)]⟩, ⟨(some 11), some (8, true), .call (.c (.fn (.func 163) [] [])) [(.t 9), (.t 10)]⟩, ⟨(some 12), some (8, true), .not (.t 11)⟩, ⟨(some 13), none, .pick (.t 8) (.t 12) (.c (.bool false))⟩, ⟨(some 2), none, .mv (.t 13)⟩])
  .ret)))
theorem e105 {args : List PV} {σ : Heap} {K : PV → Heap → Prop} (hl : args.length ≤ 14) (h : Wf σ → (∀ a ∈ args, PV.upto σ.length a) → vc (mkCfg Tryz.prog mixed [] 14 σ.length) k105 (FinK σ.length [.t 2] K) (argEnv 0 args) σ) : ACall Tryz.prog 105 args σ K :=
  ACall_enter (C := mkCfg Tryz.prog mixed [] 14 σ.length) (c := Tryz.f105.body.getD .skip) Tryz.func105 (by kernel_rfl) (by kernel_rfl) (by kernel_rfl) rfl hl (by kernel_rfl) (by kernel_rfl) h
/- slices.ContainsFunc[[][]int64,[]int64] -/
def k163 : KC := (.seq (.ops [⟨(some 4), none, .mv (.c (.bool false))⟩])
  (.seq (.ops [⟨(some 5), none, .mv (.t 0)⟩, ⟨(some 6), none, .mv (.t 1)⟩, ⟨(some 7), none, .call (.c (.fn (.func 195) [] [])) [(.t 5), (.t 6)]⟩, ⟨(some 8), none, .bin .geq (.t 7) (.c (.int .i64 0))⟩, ⟨(some 4), none, .mv (.t 8)⟩])
  .ret))
theorem e163 {args : List PV} {σ : Heap} {K : PV → Heap → Prop} (hl : args.length ≤ 9) (h : Wf σ → (∀ a ∈ args, PV.upto σ.length a) → vc (mkCfg Tryz.prog mixed [] 9 σ.length) k163 (FinK σ.length [.t 4] K) (argEnv 0 args) σ) : ACall Tryz.prog 163 args σ K :=
  ACall_enter (C := mkCfg Tryz.prog mixed [] 9 σ.length) (c := Tryz.f163.body.getD .skip) Tryz.func163 (by kernel_rfl) (by kernel_rfl) (by kernel_rfl) rfl hl (by kernel_rfl) (by kernel_rfl) h
/- impl.isTable$1 -/
def k164 : KC := (.seq (.ops [⟨(some 3), none, .mv (.c (.bool false))⟩])
  (.seq (.ops [⟨(some 4), none, .mv (.t 0)⟩, ⟨(some 5), none, .len false (.t 4)⟩, ⟨(some 6), none, .load false 1 (.t 1)⟩, ⟨(some 7), none, .bin .neq (.t 5) (.t 6)⟩, ⟨(some 8), none, .mv (.t 7)⟩, ⟨(some 9), some (8, false), .mv (.t 0)⟩, ⟨(some 10), some (8, false), .mkfn (.func 166) [] [(.t 1)]⟩, ⟨(some 11), some (8, false), .call (.c (.fn (.func 165) [] [])) [(.t 9), (.t 10)]⟩, ⟨(some 12), none, .pick (.t 8) (.c (.bool true)) (.t 11)⟩, ⟨(some 3), none, .mv (.t 12)⟩])
  .ret))
theorem e164 {args : List PV} {σ : Heap} {K : PV → Heap → Prop} (hl : args.length ≤ 13) (h : Wf σ → (∀ a ∈ args, PV.upto σ.length a) → vc (mkCfg Tryz.prog mixed [] 13 σ.length) k164 (FinK σ.length [.t 3] K) (argEnv 0 args) σ) : ACall Tryz.prog 164 args σ K :=
  ACall_enter (C := mkCfg Tryz.prog mixed [] 13 σ.length) (c := Tryz.f164.body.getD .skip) Tryz.func164 (by kernel_rfl) (by kernel_rfl) (by kernel_rfl) rfl hl (by kernel_rfl) (by kernel_rfl) h
/- slices.ContainsFunc[[]int64,int64] -/
def k165 : KC := (.seq (.ops [⟨(some 4), none, .mv (.c (.bool false))⟩])
  (.seq (.ops [⟨(some 5), none, .mv (.t 0)⟩, ⟨(some 6), none, .mv (.t 1)⟩, ⟨(some 7), none, .call (.c (.fn (.func 167) [] [])) [(.t 5), (.t 6)]⟩, ⟨(some 8), none, .bin .geq (.t 7) (.c (.int .i64 0))⟩, ⟨(some 4), none, .mv (.t 8)⟩])
  .ret))
theorem e165 {args : List PV} {σ : Heap} {K : PV → Heap → Prop} (hl : args.length ≤ 9) (h : Wf σ → (∀ a ∈ args, PV.upto σ.length a) → vc (mkCfg Tryz.prog mixed [] 9 σ.length) k165 (FinK σ.length [.t 4] K) (argEnv 0 args) σ) : ACall Tryz.prog 165 args σ K :=
  ACall_enter (C := mkCfg Tryz.prog mixed [] 9 σ.length) (c := Tryz.f165.body.getD .skip) Tryz.func165 (by kernel_rfl) (by kernel_rfl) (by kernel_rfl) rfl hl (by kernel_rfl) (by kernel_rfl) h
/- impl.isTable$1$1 -/
def k166 : KC := (.seq (.ops [⟨(some 3), none, .mv (.c (.bool false))⟩])
  (.seq (.ops [⟨(some 4), none, .mv (.t 0)⟩, ⟨(some 5), none, .load false 1 (.t 1)⟩, ⟨(some 6), none, .bin .sub (.t 5) (.c (.int .i64 1))⟩, ⟨(some 7), none, .call (.c (.fn (.func 77) [] [])) [(.t 4), (.c (.int .i64 0)), (.t 6)]⟩, ⟨(some 8), none, .not (.t 7)⟩, ⟨(some 3), none, .mv (.t 8)⟩])
  .ret))
theorem e166 {args : List PV} {σ : Heap} {K : PV → Heap → Prop} (hl : args.length ≤ 9) (h : Wf σ → (∀ a ∈ args, PV.upto σ.length a) → vc (mkCfg Tryz.prog mixed [] 9 σ.length) k166 (FinK σ.length [.t 3] K) (argEnv 0 args) σ) : ACall Tryz.prog 166 args σ K :=
  ACall_enter (C := mkCfg Tryz.prog mixed [] 9 σ.length) (c := Tryz.f166.body.getD .skip) Tryz.func166 (by kernel_rfl) (by kernel_rfl) (by kernel_rfl) rfl hl (by kernel_rfl) (by kernel_rfl) h
/- slices.IndexFunc[[]int64,int64] -/
/- live [0, 1, 7, 8] -/
def k167_b0 : KC := (.seq (.ops [⟨(some 9), none, .bin .lss (.t 8) (.t 7)⟩])
  (.seq (.cond (.t 9) .skip (.exit 0))
  (.seq (.block 1 (.seq (.ops [⟨(some 10), none, .mv (.t 8)⟩, ⟨(some 5), none, .mv (.t 10)⟩])
  (.seq (.ops [⟨(some 11), none, .mv (.t 1)⟩, ⟨(some 12), none, .mv (.t 0)⟩, ⟨(some 13), none, .mv (.t 5)⟩, ⟨(some 14), none, .idxS 1 (.t 12) (.t 13)⟩, ⟨(some 15), none, .load false 1 (.t 14)⟩, ⟨(some 16), none, .call (.t 11) [(.t 15)]⟩])
  (.cond (.t 16) (.seq (.ops [⟨(some 17), none, .mv (.t 5)⟩, ⟨(some 4), none, .mv (.t 17)⟩])
  .ret) .skip))))
  (.ops [⟨(some 18), none, .bin .add (.t 8) (.c (.int .i64 1))⟩, ⟨(some 8), none, .mv (.t 18)⟩]))))
def k167 : KC := (.seq (.ops [⟨(some 4), none, .mv (.c (.int .i64 0))⟩])
  (.seq (.seq (.ops [⟨(some 6), none, .mv (.t 0)⟩, ⟨(some 7), none, .len false (.t 6)⟩, ⟨(some 8), none, .mv (.c (.int .i64 0))⟩])
  (.block 0 (.loop k167_b0)))
  (.seq (.ops [⟨(some 4), none, .mv (.c (.int .i64 (-1)))⟩])
  .ret)))
theorem e167 {args : List PV} {σ : Heap} {K : PV → Heap → Prop} (hl : args.length ≤ 19) (h : Wf σ → (∀ a ∈ args, PV.upto σ.length a) → vc (mkCfg Tryz.prog mixed [] 19 σ.length) k167 (FinK σ.length [.t 4] K) (argEnv 0 args) σ) : ACall Tryz.prog 167 args σ K :=
  ACall_enter (C := mkCfg Tryz.prog mixed [] 19 σ.length) (c := Tryz.f167.body.getD .skip) Tryz.func167 (by kernel_rfl) (by kernel_rfl) (by kernel_rfl) rfl hl (by kernel_rfl) (by kernel_rfl) h
/- slices.IndexFunc[[][]int64,[]int64] -/
/- live [0, 1, 7, 8] -/
def k195_b0 : KC := (.seq (.ops [⟨(some 9), none, .bin .lss (.t 8) (.t 7)⟩])
  (.seq (.cond (.t 9) .skip (.exit 0))
  (.seq (.block 1 (.seq (.ops [⟨(some 10), none, .mv (.t 8)⟩, ⟨(some 5), none, .mv (.t 10)⟩])
  (.seq (.ops [⟨(some 11), none, .mv (.t 1)⟩, ⟨(some 12), none, .mv (.t 0)⟩, ⟨(some 13), none, .mv (.t 5)⟩, ⟨(some 14), none, .idxS 1 (.t 12) (.t 13)⟩, ⟨(some 15), none, .load false 1 (.t 14)⟩, ⟨(some 16), none, .call (.t 11) [(.t 15)]⟩])
  (.cond (.t 16) (.seq (.ops [⟨(some 17), none, .mv (.t 5)⟩, ⟨(some 4), none, .mv (.t 17)⟩])
  .ret) .skip))))
  (.ops [⟨(some 18), none, .bin .add (.t 8) (.c (.int .i64 1))⟩, ⟨(some 8), none, .mv (.t 18)⟩]))))
def k195 : KC := (.seq (.ops [⟨(some 4), none, .mv (.c (.int .i64 0))⟩])
  (.seq (.seq (.ops [⟨(some 6), none, .mv (.t 0)⟩, ⟨(some 7), none, .len false (.t 6)⟩, ⟨(some 8), none, .mv (.c (.int .i64 0))⟩])
  (.block 0 (.loop k195_b0)))
  (.seq (.ops [⟨(some 4), none, .mv (.c (.int .i64 (-1)))⟩])
  .ret)))
theorem e195 {args : List PV} {σ : Heap} {K : PV → Heap → Prop} (hl : args.length ≤ 19) (h : Wf σ → (∀ a ∈ args, PV.upto σ.length a) → vc (mkCfg Tryz.prog mixed [] 19 σ.length) k195 (FinK σ.length [.t 4] K) (argEnv 0 args) σ) : ACall Tryz.prog 195 args σ K :=
  ACall_enter (C := mkCfg Tryz.prog mixed [] 19 σ.length) (c := Tryz.f195.body.getD .skip) Tryz.func195 (by kernel_rfl) (by kernel_rfl) (by kernel_rfl) rfl hl (by kernel_rfl) (by kernel_rfl) h
end Go.Proofs.YtpfapiiinkkcgaaGreat
namespace Go.Proofs.YtpfapiiinkkcgaaGreat
open Go.Kv
set_option linter.unusedVariables false
set_option linter.unusedSimpArgs false
attribute [local irreducible] ACall PCall KL
/-- A row is one of a table of n: its length, its members. -/
def rowOk (n : Nat) (r : List Int) : Bool := decide (r.length = n) && r.all fun x => decide (0 ≤ x ∧ x ≤ (n : Int) - 1)
def isTab (t : List (List Int)) : Bool := decide (1 ≤ t.length ∧ t.length ≤ 40) && t.all (rowOk t.length)
theorem p107 (t : List (List Int)) (ht : t.length ≤ 1048576) (hl : ∀ r ∈ t, r.length ≤ 1048576) : Pure Tryz.prog 107 [.list (rows t)] (.bool (isTab t)) := by
  refine e107 (by simp) fun _ _ => ?_
  simp only [k107, argEnv, go_sem, ↓reduceIte, Nat.reduceEqDiff, Nat.reduceAdd, reduceCtorEq]
  by_cases h0 : (t.length : Int) < 1
  · have : isTab t = false := by simp [isTab]; omega
    simp only [h0, this, decide_true, true_implies, not_true_eq_false, false_implies, and_true]
    repeat' (first | refine And.intro ?_ ?_ | intro _)
    all_goals (try first | exact True.intro | contradiction)
    exact Kv.Fin.now ⟨rfl, rfl⟩
  by_cases h1 : 40 < (t.length : Int)
  · have : isTab t = false := by simp [isTab]; omega
    simp only [h0, h1, this, decide_true, true_implies, not_false_eq_true, not_true_eq_false, false_implies, and_true, true_and]
    exact Kv.Fin.now ⟨rfl, rfl⟩
  simp only [h0, h1, decide_false, not_false_eq_true, true_implies, not_true_eq_false, false_implies, and_true, true_and]
  have hT : isTab t = t.all (rowOk t.length) := by
    have : 1 ≤ t.length ∧ t.length ≤ 40 := by omega
    simp [isTab, this]
  rw [hT]
  refine KL_ind k107_b1.eq_1 (fun x : Nat => [(4, .int .i64 x), (3, .int .i64 t.length), (0, .list (rows t))]) (fun _ => []) (fun x => x ≤ t.length ∧ (t.take x).all (rowOk t.length) = true) (fun x => t.length - x) [4, 3, 0] 0 rfl rfl ⟨Nat.zero_le _, by simp⟩ fun x ⟨hx, hall⟩ ihx => ?_
  simp only [go_sem, ↓reduceIte, Nat.reduceEqDiff, Nat.reduceAdd, reduceCtorEq]
  refine ⟨fun h2 => ⟨by omega, fun h3 => ?_⟩, fun h2 => ?_⟩
  · have hr := getD_eq h3 ([] : List Int)
    rw [hr]
    have hlen := hl _ (List.getElem_mem h3)
    refine ⟨fun h4 => ?_, fun h4 => ?_⟩
    · refine Kv.Fin.now ⟨?_, rfl⟩
      rw [not_all h3 (by simp [rowOk]; omega)]
    · have h4' : t[x].length = t.length := by omega
      refine KL_ind k107_b0.eq_1 (fun y : Nat => [(5, .int .i64 y), (4, .int .i64 x), (3, .int .i64 t.length), (0, .list (rows t))]) (fun _ => []) (fun y => y ≤ t.length ∧ (t[x].take y).all (fun x => decide (0 ≤ x ∧ x ≤ (t.length : Int) - 1)) = true) (fun y => t.length - y) [5, 4, 3, 0] 0 rfl rfl ⟨Nat.zero_le _, by simp⟩ fun y ⟨hy, hyall⟩ ihy => ?_
      simp only [go_sem, ↓reduceIte, Nat.reduceEqDiff, Nat.reduceAdd, reduceCtorEq]
      refine ⟨fun h5 => ⟨by omega, fun h6 => ?_⟩, fun h5 => ?_⟩
      · rw [hr]
        refine ⟨by omega, fun h7 => ?_⟩
        rw [getD_eq h7]
        refine ⟨by omega, ?_⟩
        refine (p71 _ _ _).use (.bool _) (.cons (.int _ _ _) (.cons (.int _ _ _) (.cons (.int _ _ _) (.nil _)))) ?_
        simp only [go_sem, ↓reduceIte, Nat.reduceEqDiff, Nat.reduceAdd, reduceCtorEq]
        refine ⟨fun h8 => ?_, fun h8 => ⟨by omega, ?_⟩⟩
        · refine Kv.Fin.now ⟨?_, rfl⟩
          rw [not_all h3 (by simp only [rowOk]; rw [not_all h7 (by simpa using h8), Bool.and_false])]
        · refine ihy (y + 1) ⟨by omega, ?_⟩ (by omega) _ _ rfl rfl
          rw [all_take_succ _ h7, hyall]
          simpa using h8
      · obtain rfl : y = t.length := by omega
        refine ⟨by omega, ?_⟩
        refine ihx (x + 1) ⟨by omega, ?_⟩ (by omega) _ _ rfl rfl
        rw [all_take_succ _ h3, hall]
        rw [← h4', List.take_length] at hyall
        rw [h4'] at hyall
        simp only [rowOk, h4', decide_true, Bool.true_and, hyall]
  · obtain rfl : x = t.length := by omega
    rw [List.take_length] at hall
    exact Kv.Fin.now ⟨by rw [hall], rfl⟩

theorem Imm.boxi {σ : Heap} {id : Nat} {n : Int} (h : σ[id]? = some (.box [.int .i64 n])) : Imm σ (.ptr id 0) (.fptr [.int .i64 n] 0) := .ptr id 0 [.int .i64 n] [.int .i64 n] h rfl rfl (fun i c d h1 h2 => by
  rw [h1] at h2; cases h2
  have := List.mem_of_getElem? h1
  simp at this; subst this
  exact .int _ _ _)
theorem up_fi (n : Int) : ∀ c ∈ [PV.fptr [.int .i64 n] 0], PV.upto 0 c := up1 (upto_fptr 0 0 fun c hc => by simp at hc; subst hc; exact .int _ _)
theorem p167 (l : List Int) (hl : l.length ≤ 4294967296) (fid : FuncId) (caps : List PV) (hc : ∀ c ∈ caps, PV.upto 0 c) (p : Int → Bool) (hp : ∀ x ∈ l, Pure Tryz.prog fid (.int .i64 x :: caps) (.bool (p x))) :
    Pure Tryz.prog 167 [.list (ints l), .fn (.func fid) [] caps] (.int .i64 (idx p l)) := by
  refine e167 (by simp) fun _ _ => ?_
  simp only [k167, argEnv, go_sem, ↓reduceIte, Nat.reduceEqDiff, Nat.reduceAdd, reduceCtorEq]
  refine KL_ind k167_b0.eq_1 (fun x : Nat => [(8, .int .i64 x), (7, .int .i64 l.length), (0, .list (ints l)), (1, .fn (.func fid) [] caps)]) (fun _ => []) (fun x => x ≤ l.length ∧ (l.take x).any p = false) (fun x => l.length - x) [8, 7, 0, 1] 0 rfl rfl ⟨Nat.zero_le _, by simp⟩ fun x ⟨hx, hall⟩ ih => ?_
  simp only [go_sem, ↓reduceIte, Nat.reduceEqDiff, Nat.reduceAdd, reduceCtorEq]
  refine ⟨fun h1 => ⟨by omega, fun h2 => ?_⟩, fun h1 => ?_⟩
  · rw [getD_eq h2]
    refine (hp _ (List.getElem_mem h2)).use (.bool _) (.cons (.int _ _ _) (up_self hc)) ?_
    simp only [go_sem, ↓reduceIte, Nat.reduceEqDiff, Nat.reduceAdd, reduceCtorEq]
    refine ⟨fun h3 => ?_, fun h3 => ⟨by omega, ?_⟩⟩
    · exact Kv.Fin.now ⟨by rw [idx_some h2 hall h3], rfl⟩
    · refine ih (x + 1) ⟨by omega, ?_⟩ (by omega) _ _ rfl rfl
      rw [any_take_succ _ h2, hall, h3]; rfl
  · obtain rfl : x = l.length := by omega
    rw [List.take_length] at hall
    exact Kv.Fin.now ⟨by rw [idx_none hall], rfl⟩
theorem p195 (l : List (List Int)) (hl : l.length ≤ 4294967296) (fid : FuncId) (caps : List PV) (hc : ∀ c ∈ caps, PV.upto 0 c) (p : List Int → Bool) (hp : ∀ x ∈ l, Pure Tryz.prog fid (.list (ints x) :: caps) (.bool (p x))) :
    Pure Tryz.prog 195 [.list (rows l), .fn (.func fid) [] caps] (.int .i64 (idx p l)) := by
  refine e195 (by simp) fun _ _ => ?_
  simp only [k195, argEnv, go_sem, ↓reduceIte, Nat.reduceEqDiff, Nat.reduceAdd, reduceCtorEq]
  refine KL_ind k195_b0.eq_1 (fun x : Nat => [(8, .int .i64 x), (7, .int .i64 l.length), (0, .list (rows l)), (1, .fn (.func fid) [] caps)]) (fun _ => []) (fun x => x ≤ l.length ∧ (l.take x).any p = false) (fun x => l.length - x) [8, 7, 0, 1] 0 rfl rfl ⟨Nat.zero_le _, by simp⟩ fun x ⟨hx, hall⟩ ih => ?_
  simp only [go_sem, ↓reduceIte, Nat.reduceEqDiff, Nat.reduceAdd, reduceCtorEq]
  refine ⟨fun h1 => ⟨by omega, fun h2 => ?_⟩, fun h1 => ?_⟩
  · rw [getD_eq h2]
    refine (hp _ (List.getElem_mem h2)).use (.bool _) (.cons (.listi _ _) (up_self hc)) ?_
    simp only [go_sem, ↓reduceIte, Nat.reduceEqDiff, Nat.reduceAdd, reduceCtorEq]
    refine ⟨fun h3 => ?_, fun h3 => ⟨by omega, ?_⟩⟩
    · exact Kv.Fin.now ⟨by rw [idx_some h2 hall h3], rfl⟩
    · refine ih (x + 1) ⟨by omega, ?_⟩ (by omega) _ _ rfl rfl
      rw [any_take_succ _ h2, hall, h3]; rfl
  · obtain rfl : x = l.length := by omega
    rw [List.take_length] at hall
    exact Kv.Fin.now ⟨by rw [idx_none hall], rfl⟩
theorem p165 (l : List Int) (hl : l.length ≤ 4294967296) (fid : FuncId) (caps : List PV) (hc : ∀ c ∈ caps, PV.upto 0 c) (p : Int → Bool) (hp : ∀ x ∈ l, Pure Tryz.prog fid (.int .i64 x :: caps) (.bool (p x))) :
    Pure Tryz.prog 165 [.list (ints l), .fn (.func fid) [] caps] (.bool (l.any p)) := by
  refine e165 (by simp) fun _ _ => ?_
  simp only [k165, argEnv, go_sem, ↓reduceIte, Nat.reduceEqDiff, Nat.reduceAdd, reduceCtorEq]
  refine (p167 l hl fid caps hc p hp).use (.int _ _) (.cons (.listi _ _) (.cons (Imm.fnc _ (up_self hc)) (.nil _))) ?_
  simp only [go_sem, ↓reduceIte, Nat.reduceEqDiff, Nat.reduceAdd, reduceCtorEq]
  exact Kv.Fin.now ⟨by rw [idx_nonneg], rfl⟩
theorem p163 (l : List (List Int)) (hl : l.length ≤ 4294967296) (fid : FuncId) (caps : List PV) (hc : ∀ c ∈ caps, PV.upto 0 c) (p : List Int → Bool) (hp : ∀ x ∈ l, Pure Tryz.prog fid (.list (ints x) :: caps) (.bool (p x))) :
    Pure Tryz.prog 163 [.list (rows l), .fn (.func fid) [] caps] (.bool (l.any p)) := by
  refine e163 (by simp) fun _ _ => ?_
  simp only [k163, argEnv, go_sem, ↓reduceIte, Nat.reduceEqDiff, Nat.reduceAdd, reduceCtorEq]
  refine (p195 l hl fid caps hc p hp).use (.int _ _) (.cons (.listr _ _) (.cons (Imm.fnc _ (up_self hc)) (.nil _))) ?_
  simp only [go_sem, ↓reduceIte, Nat.reduceEqDiff, Nat.reduceAdd, reduceCtorEq]
  exact Kv.Fin.now ⟨by rw [idx_nonneg], rfl⟩
theorem p166 (x : Int) (n : Nat) (hn : n ≤ 1048576) : Pure Tryz.prog 166 [.int .i64 x, .fptr [.int .i64 n] 0] (.bool (!decide (0 ≤ x ∧ x ≤ (n : Int) - 1))) := by
  refine e166 (by simp) fun _ _ => ?_
  simp only [k166, argEnv, go_sem, ↓reduceIte, Nat.reduceEqDiff, Nat.reduceAdd, reduceCtorEq]
  refine ⟨by omega, ?_⟩
  refine (p77 _ _ _).use (.bool _) (.cons (.int _ _ _) (.cons (.int _ _ _) (.cons (.int _ _ _) (.nil _)))) ?_
  simp only [go_sem, ↓reduceIte, Nat.reduceEqDiff, Nat.reduceAdd, reduceCtorEq]
  exact Kv.Fin.now ⟨rfl, rfl⟩
theorem p164 (r : List Int) (n : Nat) (hn : n ≤ 1048576) (hr : r.length ≤ 1048576) : Pure Tryz.prog 164 [.list (ints r), .fptr [.int .i64 n] 0] (.bool (!rowOk n r)) := by
  refine e164 (by simp) fun _ _ => ?_
  simp only [k164, argEnv, go_sem, ↓reduceIte, Nat.reduceEqDiff, Nat.reduceAdd, reduceCtorEq]
  by_cases h : (r.length : Int) = n
  · have h' : r.length = n := by omega
    simp only [h, h', not_true_eq_false, decide_false, false_implies, true_implies, true_and, and_true]
    refine (p165 r (by omega) 166 [.fptr [.int .i64 n] 0] (up_fi n) (fun x => !decide (0 ≤ x ∧ x ≤ (n : Int) - 1)) fun x _ => p166 x n hn).use (.bool _) (.cons (.listi _ _) (.cons (Imm.fnc _ (up_self (up_fi n))) (.nil _))) ?_
    simp only [go_sem, ↓reduceIte, Nat.reduceEqDiff, Nat.reduceAdd, reduceCtorEq]
    refine Kv.Fin.now ⟨?_, rfl⟩
    simp [rowOk, h', List.any_eq_not_all_not]
  · have h' : ¬ r.length = n := by omega
    simp only [h, h', not_false_eq_true, decide_true, false_implies, true_implies, true_and, and_true, not_true_eq_false]
    repeat' (first | refine And.intro ?_ ?_ | intro _)
    all_goals (try contradiction)
    refine Kv.Fin.now ⟨?_, rfl⟩
    simp [rowOk, h']
theorem p105 (t : List (List Int)) (ht : t.length ≤ 1048576) (hl : ∀ r ∈ t, r.length ≤ 1048576) : Pure Tryz.prog 105 [.list (rows t)] (.bool (isTab t)) := by
  refine e105 (by simp) fun _ _ => ?_
  simp only [k105, argEnv, go_sem, ↓reduceIte, Nat.reduceEqDiff, Nat.reduceAdd, reduceCtorEq]
  refine ⟨by omega, ?_⟩
  refine (p77 _ _ _).use (.bool _) (.cons (.int _ _ _) (.cons (.int _ _ _) (.cons (.int _ _ _) (.nil _)))) ?_
  simp only [go_sem, ↓reduceIte, Nat.reduceEqDiff, Nat.reduceAdd, reduceCtorEq]
  refine ⟨fun h => ?_, fun h => ?_⟩
  · have h' : 1 ≤ t.length ∧ t.length ≤ 40 := by omega
    refine (p163 t (by omega) 164 [.fptr [.int .i64 t.length] 0] (up_fi _) (fun r => !rowOk t.length r) fun r hr => p164 r t.length ht (hl r hr)).use (.bool _) (.cons (.listr _ _) (.cons (Imm.fnc _ (.cons (Imm.boxi rfl) (.nil _))) (.nil _))) ?_
    simp only [go_sem, ↓reduceIte, Nat.reduceEqDiff, Nat.reduceAdd, reduceCtorEq]
    refine Kv.Fin.clean (Plain.bool _).up ⟨?_, rfl⟩
    simp [isTab, h', List.any_eq_not_all_not]
  · have h' : ¬ (1 ≤ t.length ∧ t.length ≤ 40) := by omega
    repeat' (first | refine And.intro ?_ ?_ | intro _)
    refine Kv.Fin.clean (Plain.bool _).up ⟨?_, rfl⟩
    simp [isTab, h']
end Go.Proofs.YtpfapiiinkkcgaaGreat
end
section
/- The identity of a table: both sides, and the law's function. -/
namespace Go.Proofs.YtpfapiiinkkcgaaGreat
open Go.Kv
set_option maxRecDepth 100000
/- spec.IdentityOf -/
def k36 : KC := (.seq (.ops [⟨(some 2), none, .mv (.c (.int .i64 0))⟩, ⟨(some 3), none, .mv (.c (.int .i64 0))⟩])
  (.seq (.seq (.ops [⟨(some 5), none, .mv (.t 0)⟩, ⟨(some 6), none, .call (.c (.fn (.func 107) [] [])) [(.t 5)]⟩, ⟨(some 7), none, .not (.t 6)⟩])
  (.cond (.t 7) (.seq (.ops [⟨(some 2), none, .mv (.c (.int .i64 0))⟩, ⟨(some 3), none, .mv (.c (.int .i64 2))⟩])
  .ret) .skip))
  (.seq (.ops [⟨(some 8), none, .mv (.t 0)⟩, ⟨(some 9), none, .call (.c (.fn (.func 110) [] [])) [(.t 8)]⟩, ⟨(some 4), none, .mv (.t 9)⟩])
  (.seq (.seq (.ops [⟨(some 10), none, .mv (.t 4)⟩, ⟨(some 11), none, .bin .lss (.t 10) (.c (.int .i64 0))⟩])
  (.cond (.t 11) (.seq (.ops [⟨(some 2), none, .mv (.c (.int .i64 0))⟩, ⟨(some 3), none, .mv (.c (.int .i64 4))⟩])
  .ret) .skip))
  (.seq (.ops [⟨(some 12), none, .mv (.t 4)⟩, ⟨(some 2), none, .mv (.t 12)⟩, ⟨(some 3), none, .mv (.c (.int .i64 0))⟩])
  .ret)))))
theorem e36 {args : List PV} {σ : Heap} {K : PV → Heap → Prop} (hl : args.length ≤ 13) (h : Wf σ → (∀ a ∈ args, PV.upto σ.length a) → vc (mkCfg Tryz.prog mixed [] 13 σ.length) k36 (FinK σ.length [.t 2, .t 3] K) (argEnv 0 args) σ) : ACall Tryz.prog 36 args σ K :=
  ACall_enter (C := mkCfg Tryz.prog mixed [] 13 σ.length) (c := Tryz.f36.body.getD .skip) Tryz.func36 (by kernel_rfl) (by kernel_rfl) (by kernel_rfl) rfl hl (by kernel_rfl) (by kernel_rfl) h
/- impl.IdentityOf -/
def k35 : KC := (.seq (.ops [⟨(some 2), none, .mv (.c (.int .i64 0))⟩, ⟨(some 3), none, .mv (.c (.int .i64 0))⟩])
  (.seq (.seq (.ops [⟨(some 5), none, .mv (.t 0)⟩, ⟨(some 6), none, .call (.c (.fn (.func 105) [] [])) [(.t 5)]⟩, ⟨(some 7), none, .not (.t 6)⟩])
  (.cond (.t 7) (.seq (.ops [⟨(some 2), none, .mv (.c (.int .i64 0))⟩, ⟨(some 3), none, .mv (.c (.int .i64 2))⟩])
  .ret) .skip))
  (.seq (.ops [⟨(some 8), none, .mv (.t 0)⟩, ⟨(some 9), none, .call (.c (.fn (.func 109) [] [])) [(.t 8)]⟩, ⟨(some 4), none, .mv (.t 9)⟩])
  (.seq (.seq (.ops [⟨(some 10), none, .mv (.t 4)⟩, ⟨(some 11), none, .bin .lss (.t 10) (.c (.int .i64 0))⟩])
  (.cond (.t 11) (.seq (.ops [⟨(some 2), none, .mv (.c (.int .i64 0))⟩, ⟨(some 3), none, .mv (.c (.int .i64 4))⟩])
  .ret) .skip))
  (.seq (.ops [⟨(some 12), none, .mv (.t 4)⟩, ⟨(some 2), none, .mv (.t 12)⟩, ⟨(some 3), none, .mv (.c (.int .i64 0))⟩])
  .ret)))))
theorem e35 {args : List PV} {σ : Heap} {K : PV → Heap → Prop} (hl : args.length ≤ 13) (h : Wf σ → (∀ a ∈ args, PV.upto σ.length a) → vc (mkCfg Tryz.prog mixed [] 13 σ.length) k35 (FinK σ.length [.t 2, .t 3] K) (argEnv 0 args) σ) : ACall Tryz.prog 35 args σ K :=
  ACall_enter (C := mkCfg Tryz.prog mixed [] 13 σ.length) (c := Tryz.f35.body.getD .skip) Tryz.func35 (by kernel_rfl) (by kernel_rfl) (by kernel_rfl) rfl hl (by kernel_rfl) (by kernel_rfl) h
/- spec.l08Identity -/
/- live [0, 3, 4, 5, 20, 21, 22, 23, 24, 25, 26, 27, 28, 31, 32, 33, 34, 35, 36, 37, 38, 39] -/
def k110_b0 : KC := (.seq (.seq (.ops [⟨(some 12), none, .mv (.t 5)⟩, ⟨(some 13), none, .mv (.t 0)⟩, ⟨(some 14), none, .len false (.t 13)⟩, ⟨(some 15), none, .bin .lss (.t 12) (.t 14)⟩])
  (.cond (.t 15) .skip (.exit 2)))
  (.seq (.block 3 (.ops [⟨(some 18), none, .mv (.t 4)⟩, ⟨(some 19), none, .mv (.t 18)⟩, ⟨(some 20), some (19, true), .mv (.t 0)⟩, ⟨(some 21), some (19, true), .mv (.t 3)⟩, ⟨(some 22), some (19, true), .idxS 1 (.t 20) (.t 21)⟩, ⟨(some 23), some (19, true), .load false 1 (.t 22)⟩, ⟨(some 24), some (19, true), .mv (.t 5)⟩, ⟨(some 25), some (19, true), .idxS 1 (.t 23) (.t 24)⟩, ⟨(some 26), some (19, true), .load false 1 (.t 25)⟩, ⟨(some 27), some (19, true), .mv (.t 5)⟩, ⟨(some 28), some (19, true), .bin .eql (.t 26) (.t 27)⟩, ⟨(some 29), none, .pick (.t 19) (.t 28) (.c (.bool false))⟩, ⟨(some 30), none, .mv (.t 29)⟩, ⟨(some 31), some (30, true), .mv (.t 0)⟩, ⟨(some 32), some (30, true), .mv (.t 5)⟩, ⟨(some 33), some (30, true), .idxS 1 (.t 31) (.t 32)⟩, ⟨(some 34), some (30, true), .load false 1 (.t 33)⟩, ⟨(some 35), some (30, true), .mv (.t 3)⟩, ⟨(some 36), some (30, true), .idxS 1 (.t 34) (.t 35)⟩, ⟨(some 37), some (30, true), .load false 1 (.t 36)⟩, ⟨(some 38), some (30, true), .mv (.t 5)⟩, ⟨(some 39), some (30, true), .bin .eql (.t 37) (.t 38)⟩, ⟨(some 40), none, .pick (.t 30) (.t 39) (.c (.bool false))⟩, ⟨(some 4), none, .mv (.t 40)⟩]))
  (.ops [⟨(some 16), none, .mv (.t 5)⟩, ⟨(some 17), none, .bin .add (.t 16) (.c (.int .i64 1))⟩, ⟨(some 5), none, .mv (.t 17)⟩])))
/- live [0, 3, 20, 21, 22, 23, 24, 25, 26, 27, 28, 31, 32, 33, 34, 35, 36, 37, 38, 39] -/
def k110_b1 : KC := (.seq (.seq (.ops [⟨(some 6), none, .mv (.t 3)⟩, ⟨(some 7), none, .mv (.t 0)⟩, ⟨(some 8), none, .len false (.t 7)⟩, ⟨(some 9), none, .bin .lss (.t 6) (.t 8)⟩])
  (.cond (.t 9) .skip (.exit 0)))
  (.seq (.block 1 (.seq (.ops [⟨(some 4), none, .mv (.c (.bool true))⟩])
  (.seq (.seq (.ops [⟨(some 5), none, .mv (.c (.int .i64 0))⟩])
  (.block 2 (.loop k110_b0)))
  (.seq (.ops [⟨(some 41), none, .mv (.t 4)⟩])
  (.cond (.t 41) (.seq (.ops [⟨(some 42), none, .mv (.t 3)⟩, ⟨(some 2), none, .mv (.t 42)⟩])
  .ret) .skip)))))
  (.ops [⟨(some 10), none, .mv (.t 3)⟩, ⟨(some 11), none, .bin .add (.t 10) (.c (.int .i64 1))⟩, ⟨(some 3), none, .mv (.t 11)⟩])))
def k110 : KC := (.seq (.ops [⟨(some 2), none, .mv (.c (.int .i64 0))⟩])
  (.seq (.seq (.ops [⟨(some 3), none, .mv (.c (.int .i64 0))⟩])
  (.block 0 (.loop k110_b1)))
  (.seq (.ops [⟨(some 2), none, .mv (.c (.int .i64 (-1)))⟩])
  .ret)))
theorem e110 {args : List PV} {σ : Heap} {K : PV → Heap → Prop} (hl : args.length ≤ 43) (h : Wf σ → (∀ a ∈ args, PV.upto σ.length a) → vc (mkCfg Tryz.prog mixed [] 43 σ.length) k110 (FinK σ.length [.t 2] K) (argEnv 0 args) σ) : ACall Tryz.prog 110 args σ K :=
  ACall_enter (C := mkCfg Tryz.prog mixed [] 43 σ.length) (c := Tryz.f110.body.getD .skip) Tryz.func110 (by kernel_rfl) (by kernel_rfl) (by kernel_rfl) rfl hl (by kernel_rfl) (by kernel_rfl) h
/- impl.identityOf -/
/- live [0, 3, 4, 5, 7, 8, 9, 15, 16, 21, 22, 23, 24, 25, 26, 29, 30, 31, 32, 33, 34, 35, 36, 37] -/
def k109_b0 : KC := (.seq (.ops [⟨(some 17), none, .bin .lss (.t 16) (.t 15)⟩])
  (.seq (.cond (.t 17) .skip (.exit 2))
  (.seq (.block 3 (.seq (.ops [⟨(some 18), none, .mv (.t 16)⟩, ⟨(some 6), none, .mv (.t 18)⟩])
  (.ops [⟨(some 19), none, .mv (.t 5)⟩, ⟨(some 20), none, .mv (.t 19)⟩, ⟨(some 21), some (20, true), .mv (.t 4)⟩, ⟨(some 22), some (20, true), .mv (.t 6)⟩, ⟨(some 23), some (20, true), .idxS 1 (.t 21) (.t 22)⟩, ⟨(some 24), some (20, true), .load false 1 (.t 23)⟩, ⟨(some 25), some (20, true), .mv (.t 6)⟩, ⟨(some 26), some (20, true), .bin .eql (.t 24) (.t 25)⟩, ⟨(some 27), none, .pick (.t 20) (.t 26) (.c (.bool false))⟩, ⟨(some 28), none, .mv (.t 27)⟩, ⟨(some 29), some (28, true), .mv (.t 0)⟩, ⟨(some 30), some (28, true), .mv (.t 6)⟩, ⟨(some 31), some (28, true), .idxS 1 (.t 29) (.t 30)⟩, ⟨(some 32), some (28, true), .load false 1 (.t 31)⟩, ⟨(some 33), some (28, true), .mv (.t 3)⟩, ⟨(some 34), some (28, true), .idxS 1 (.t 32) (.t 33)⟩, ⟨(some 35), some (28, true), .load false 1 (.t 34)⟩, ⟨(some 36), some (28, true), .mv (.t 6)⟩, ⟨(some 37), some (28, true), .bin .eql (.t 35) (.t 36)⟩, ⟨(some 38), none, .pick (.t 28) (.t 37) (.c (.bool false))⟩, ⟨(some 5), none, .mv (.t 38)⟩])))
  (.ops [⟨(some 39), none, .bin .add (.t 16) (.c (.int .i64 1))⟩, ⟨(some 16), none, .mv (.t 39)⟩]))))
/- live [0, 7, 8, 9, 21, 22, 23, 24, 25, 26, 29, 30, 31, 32, 33, 34, 35, 36, 37] -/
def k109_b1 : KC := (.seq (.ops [⟨(some 10), none, .bin .lss (.t 9) (.t 8)⟩])
  (.seq (.cond (.t 10) .skip (.exit 0))
  (.seq (.block 1 (.seq (.ops [⟨(some 11), none, .mv (.t 9)⟩, ⟨(some 12), none, .idxS 1 (.t 7) (.t 9)⟩, ⟨(some 13), none, .load false 1 (.t 12)⟩, ⟨(some 3), none, .mv (.t 11)⟩, ⟨(some 4), none, .mv (.t 13)⟩])
  (.seq (.ops [⟨(some 5), none, .mv (.c (.bool true))⟩])
  (.seq (.seq (.ops [⟨(some 14), none, .mv (.t 0)⟩, ⟨(some 15), none, .len false (.t 14)⟩, ⟨(some 16), none, .mv (.c (.int .i64 0))⟩])
  (.block 2 (.loop k109_b0)))
  (.seq (.ops [⟨(some 40), none, .mv (.t 5)⟩])
  (.cond (.t 40) (.seq (.ops [⟨(some 41), none, .mv (.t 3)⟩, ⟨(some 2), none, .mv (.t 41)⟩])
  .ret) .skip))))))
  (.ops [⟨(some 42), none, .bin .add (.t 9) (.c (.int .i64 1))⟩, ⟨(some 9), none, .mv (.t 42)⟩]))))
def k109 : KC := (.seq (.ops [⟨(some 2), none, .mv (.c (.int .i64 0))⟩])
  (.seq (.seq (.ops [⟨(some 7), none, .mv (.t 0)⟩, ⟨(some 8), none, .len false (.t 7)⟩, ⟨(some 9), none, .mv (.c (.int .i64 0))⟩])
  (.block 0 (.loop k109_b1)))
  (.seq (.ops [⟨(some 2), none, .mv (.c (.int .i64 (-1)))⟩])
  .ret)))
theorem e109 {args : List PV} {σ : Heap} {K : PV → Heap → Prop} (hl : args.length ≤ 43) (h : Wf σ → (∀ a ∈ args, PV.upto σ.length a) → vc (mkCfg Tryz.prog mixed [] 43 σ.length) k109 (FinK σ.length [.t 2] K) (argEnv 0 args) σ) : ACall Tryz.prog 109 args σ K :=
  ACall_enter (C := mkCfg Tryz.prog mixed [] 43 σ.length) (c := Tryz.f109.body.getD .skip) Tryz.func109 (by kernel_rfl) (by kernel_rfl) (by kernel_rfl) rfl hl (by kernel_rfl) (by kernel_rfl) h
end Go.Proofs.YtpfapiiinkkcgaaGreat
namespace Go.Proofs.YtpfapiiinkkcgaaGreat
open Go.Kv
set_option linter.unusedVariables false
set_option linter.unusedSimpArgs false
attribute [local irreducible] ACall PCall KL
def tat (t : List (List Int)) (i j : Nat) : Int := (t.getD i []).getD j 0
def okE (t : List (List Int)) (e y : Nat) : Bool := (List.range y).all fun x => decide (tat t e x = x) && decide (tat t x e = x)
theorem okE_succ (t : List (List Int)) (e y : Nat) : okE t e (y + 1) = (okE t e y && (decide (tat t e y = y) && decide (tat t y e = y))) := by simp [okE, List.range_succ, List.all_append]
def idn (t : List (List Int)) : Int := idx (fun e => okE t e t.length) (List.range t.length)
theorem tab_sq {t : List (List Int)} (h : isTab t = true) : (1 ≤ t.length ∧ t.length ≤ 40) ∧ ∀ i, i < t.length → (t.getD i []).length = t.length := by
  simp only [isTab, Bool.and_eq_true, decide_eq_true_eq, List.all_eq_true] at h
  refine ⟨h.1, fun i hi => ?_⟩
  have := h.2 _ (rows_getD_len hi)
  simp only [rowOk, Bool.and_eq_true, decide_eq_true_eq] at this
  exact this.1
theorem tab_at {t : List (List Int)} (h : isTab t = true) {i j : Nat} (hi : i < t.length) (hj : j < t.length) : 0 ≤ tat t i j ∧ tat t i j ≤ (t.length : Int) - 1 := by
  have hs := (tab_sq h).2 i hi
  simp only [isTab, Bool.and_eq_true, decide_eq_true_eq, List.all_eq_true] at h
  have := h.2 _ (rows_getD_len hi)
  simp only [rowOk, Bool.and_eq_true, decide_eq_true_eq, List.all_eq_true] at this
  exact this.2 _ (by unfold tat; rw [getD_eq (l := t.getD i []) (by omega)]; exact List.getElem_mem _)
theorem p110 (t : List (List Int)) (h : isTab t = true) : Pure Tryz.prog 110 [.list (rows t)] (.int .i64 (idn t)) := by
  obtain ⟨hn, hsq⟩ := tab_sq h
  refine e110 (by simp) fun _ _ => ?_
  simp only [k110, argEnv, go_sem, ↓reduceIte, Nat.reduceEqDiff, Nat.reduceAdd, reduceCtorEq]
  refine KL_ind k110_b1.eq_1 (fun x : Nat => [(3, .int .i64 x), (0, .list (rows t))]) (fun _ => []) (fun x => x ≤ t.length ∧ ((List.range t.length).take x).any (fun e => okE t e t.length) = false) (fun x => t.length - x) [3, 0] 0 rfl rfl ⟨Nat.zero_le _, by simp⟩ fun x ⟨hx, hall⟩ ihx => ?_
  simp only [go_sem, ↓reduceIte, Nat.reduceEqDiff, Nat.reduceAdd, reduceCtorEq]
  refine ⟨fun h1 => ?_, fun h1 => ?_⟩
  · have hxl : x < (List.range t.length).length := by simp; omega
    have hsx := hsq x (by omega)
    refine KL_ind k110_b0.eq_1 (fun y : Nat => [(5, .int .i64 y), (4, .bool (okE t x y)), (3, .int .i64 x), (0, .list (rows t))]) (fun _ => []) (fun y => y ≤ t.length) (fun y => t.length - y) [5, 4, 3, 0] 0 rfl rfl (Nat.zero_le _) fun y hy ihy => ?_
    simp only [go_sem, ↓reduceIte, Nat.reduceEqDiff, Nat.reduceAdd, reduceCtorEq]
    refine ⟨fun h2 => ?_, fun h2 => ?_⟩
    · have hsy := hsq y (by omega)
      have hs := okE_succ t x y
      unfold tat at hs
      repeat' (first | refine And.intro ?_ ?_ | intro _)
      all_goals (try omega)
      all_goals (try first | exact True.intro | contradiction)
      all_goals refine ihy (y + 1) (by omega) (by omega) _ _ ?_ rfl
      all_goals clear ihx ihy hall hsq h hn hx hsx hsy hy h2 h1
      all_goals rw [hs]
      all_goals clear hs
      all_goals simp only [keep, List.map_cons, List.map_nil, look_cons, ↓reduceIte, Nat.reduceEqDiff, reduceCtorEq, *, decide_true, decide_false, Bool.true_and, Bool.false_and, Bool.and_false, Bool.and_true]
      all_goals (try rfl)
    · obtain rfl : y = t.length := by omega
      refine ⟨fun h3 => ?_, fun h3 => ⟨by omega, ?_⟩⟩
      · refine Kv.Fin.now ⟨?_, rfl⟩
        rw [idn, idx_some hxl hall (by simpa using h3)]
      · refine ihx (x + 1) ⟨by omega, ?_⟩ (by omega) _ _ rfl rfl
        rw [any_take_succ _ hxl, hall]
        simpa using h3
  · obtain rfl : x = t.length := by omega
    rw [List.take_of_length_le (by simp)] at hall
    exact Kv.Fin.now ⟨by rw [idn, idx_none hall], rfl⟩
theorem p109 (t : List (List Int)) (h : isTab t = true) : Pure Tryz.prog 109 [.list (rows t)] (.int .i64 (idn t)) := by
  obtain ⟨hn, hsq⟩ := tab_sq h
  refine e109 (by simp) fun _ _ => ?_
  simp only [k109, argEnv, go_sem, ↓reduceIte, Nat.reduceEqDiff, Nat.reduceAdd, reduceCtorEq]
  refine KL_ind k109_b1.eq_1 (fun x : Nat => [(9, .int .i64 x), (8, .int .i64 t.length), (7, .list (rows t)), (0, .list (rows t))]) (fun _ => []) (fun x => x ≤ t.length ∧ ((List.range t.length).take x).any (fun e => okE t e t.length) = false) (fun x => t.length - x) [9, 8, 7, 0] 0 rfl rfl ⟨Nat.zero_le _, by simp⟩ fun x ⟨hx, hall⟩ ihx => ?_
  simp only [go_sem, ↓reduceIte, Nat.reduceEqDiff, Nat.reduceAdd, reduceCtorEq]
  refine ⟨fun h1 => ⟨by omega, fun h1' => ?_⟩, fun h1 => ?_⟩
  · have hxl : x < (List.range t.length).length := by simp; omega
    have hsx := hsq x (by omega)
    refine KL_ind k109_b0.eq_1 (fun y : Nat => [(16, .int .i64 y), (15, .int .i64 t.length), (5, .bool (okE t x y)), (4, .list (ints (t.getD x []))), (3, .int .i64 x), (9, .int .i64 x), (8, .int .i64 t.length), (7, .list (rows t)), (0, .list (rows t))]) (fun _ => []) (fun y => y ≤ t.length) (fun y => t.length - y) [16, 15, 5, 4, 3, 9, 8, 7, 0] 0 rfl rfl (Nat.zero_le _) fun y hy ihy => ?_
    simp only [go_sem, ↓reduceIte, Nat.reduceEqDiff, Nat.reduceAdd, reduceCtorEq]
    refine ⟨fun h2 => ?_, fun h2 => ?_⟩
    · have hsy := hsq y (by omega)
      have hs := okE_succ t x y
      unfold tat at hs
      repeat' (first | refine And.intro ?_ ?_ | intro _)
      all_goals (try omega)
      all_goals (try first | exact True.intro | contradiction)
      all_goals refine ihy (y + 1) (by omega) (by omega) _ _ ?_ rfl
      all_goals clear ihx ihy hall hsq h hn hx hsx hsy hy h2 h1
      all_goals rw [hs]
      all_goals clear hs
      all_goals simp only [keep, List.map_cons, List.map_nil, look_cons, ↓reduceIte, Nat.reduceEqDiff, reduceCtorEq, *, decide_true, decide_false, Bool.true_and, Bool.false_and, Bool.and_false, Bool.and_true]
      all_goals (try rfl)
    · obtain rfl : y = t.length := by omega
      refine ⟨fun h3 => ?_, fun h3 => ⟨by omega, ?_⟩⟩
      · refine Kv.Fin.now ⟨?_, rfl⟩
        rw [idn, idx_some hxl hall (by simpa using h3)]
      · refine ihx (x + 1) ⟨by omega, ?_⟩ (by omega) _ _ rfl rfl
        rw [any_take_succ _ hxl, hall]
        simpa using h3
  · obtain rfl : x = t.length := by omega
    rw [List.take_of_length_le (by simp)] at hall
    exact Kv.Fin.now ⟨by rw [idn, idx_none hall], rfl⟩
def idA (t : List (List Int)) : Int := if isTab t = true then (if idn t < 0 then 0 else idn t) else 0
def idB (t : List (List Int)) : Int := if isTab t = true then (if idn t < 0 then 4 else 0) else 2
theorem p36 (t : List (List Int)) (ht : t.length ≤ 1048576) (hl : ∀ r ∈ t, r.length ≤ 1048576) : Pure Tryz.prog 36 [.list (rows t)] (.tup [.int .i64 (idA t), .int .i64 (idB t)]) := by
  refine e36 (by simp) fun _ _ => ?_
  simp only [k36, argEnv, go_sem, ↓reduceIte, Nat.reduceEqDiff, Nat.reduceAdd, reduceCtorEq]
  refine (p107 t ht hl).use (.bool _) (.cons (.listr _ _) (.nil _)) ?_
  simp only [go_sem, ↓reduceIte, Nat.reduceEqDiff, Nat.reduceAdd, reduceCtorEq]
  refine ⟨fun h => ?_, fun h => ?_⟩
  · exact Kv.Fin.now ⟨by simp [idA, idB, h], rfl⟩
  · refine (p110 t h).use (.int _ _) (.cons (.listr _ _) (.nil _)) ?_
    simp only [go_sem, ↓reduceIte, Nat.reduceEqDiff, Nat.reduceAdd, reduceCtorEq]
    repeat' (first | refine And.intro ?_ ?_ | intro _)
    · rename_i h1
      exact Kv.Fin.now ⟨by simp [idA, idB, h, h1], rfl⟩
    · rename_i h1
      exact Kv.Fin.now ⟨by simp [idA, idB, h, h1], rfl⟩
theorem p35 (t : List (List Int)) (ht : t.length ≤ 1048576) (hl : ∀ r ∈ t, r.length ≤ 1048576) : Pure Tryz.prog 35 [.list (rows t)] (.tup [.int .i64 (idA t), .int .i64 (idB t)]) := by
  refine e35 (by simp) fun _ _ => ?_
  simp only [k35, argEnv, go_sem, ↓reduceIte, Nat.reduceEqDiff, Nat.reduceAdd, reduceCtorEq]
  refine (p105 t ht hl).use (.bool _) (.cons (.listr _ _) (.nil _)) ?_
  simp only [go_sem, ↓reduceIte, Nat.reduceEqDiff, Nat.reduceAdd, reduceCtorEq]
  refine ⟨fun h => ?_, fun h => ?_⟩
  · exact Kv.Fin.now ⟨by simp [idA, idB, h], rfl⟩
  · refine (p109 t h).use (.int _ _) (.cons (.listr _ _) (.nil _)) ?_
    simp only [go_sem, ↓reduceIte, Nat.reduceEqDiff, Nat.reduceAdd, reduceCtorEq]
    repeat' (first | refine And.intro ?_ ?_ | intro _)
    · rename_i h1
      exact Kv.Fin.now ⟨by simp [idA, idB, h, h1], rfl⟩
    · rename_i h1
      exact Kv.Fin.now ⟨by simp [idA, idB, h, h1], rfl⟩
end Go.Proofs.YtpfapiiinkkcgaaGreat
end
section
/- The symmetries of a table, counted: the specification's side. -/
namespace Go.Proofs.YtpfapiiinkkcgaaGreat
open Go.Kv
set_option maxRecDepth 100000
/- spec.l01Own -/
def k141 : KC := (.seq (.ops [⟨(some 2), none, .mv (.c (.nils))⟩])
  (.seq (.ops [⟨(some 3), none, .bsl false 2 1 []⟩, ⟨(some 4), none, .mv (.t 0)⟩, ⟨(some 5), none, .app (.t 3) (.t 4) 2 1⟩, ⟨(some 2), none, .mv (.t 5)⟩])
  .ret))
theorem e141 {args : List PV} {σ : Heap} {K : PV → Heap → Prop} (hl : args.length ≤ 6) (h : Wf σ → (∀ a ∈ args, PV.upto σ.length a) → vc (mkCfg Tryz.prog mixed [] 6 σ.length) k141 (FinK σ.length [.t 2] K) (argEnv 0 args) σ) : ACall Tryz.prog 141 args σ K :=
  ACall_enter (C := mkCfg Tryz.prog mixed [] 6 σ.length) (c := Tryz.f141.body.getD .skip) Tryz.func141 (by kernel_rfl) (by kernel_rfl) (by kernel_rfl) rfl hl (by kernel_rfl) (by kernel_rfl) h
end Go.Proofs.YtpfapiiinkkcgaaGreat
namespace Go.Proofs.YtpfapiiinkkcgaaGreat
open Go.Kv
set_option linter.unusedVariables false
set_option linter.unusedSimpArgs false
attribute [local irreducible] ACall PCall KL
theorem p141 (l : List Int) (hl : l.length ≤ 1048576) : ACall Tryz.prog 141 [.list (ints l)] [] (fun v s => v = .ref 0 1 0 l.length ∧ s = [.arr 1 2 1 (ints l)]) := by
  refine e141 (by simp) fun _ _ => ?_
  simp only [k141, argEnv, take6, List.drop_zero, Int.cast_ofNat_Int, go_sem, ↓reduceIte, Nat.reduceEqDiff, Nat.reduceAdd, Nat.reduceMul, Nat.reduceLeDiff, Nat.reduceLT, Int.reduceLE, Int.reduceLT, reduceCtorEq]
  repeat' (first | refine And.intro ?_ ?_ | intro _)
  all_goals (try omega)
  exact Kv.Fin.now ⟨rfl, rfl⟩
end Go.Proofs.YtpfapiiinkkcgaaGreat
end
end
section
/- All partitions of few points: both sides. -/
namespace Go.Proofs.YtpfapiiinkkcgaaGreat
open Go.Kv
set_option maxRecDepth 100000
/- slices.Clone[[]int64,int64] -/
def k191 : KC := (.seq (.ops [⟨(some 2), none, .mv (.c (.nils))⟩])
  (.seq (.seq (.ops [⟨(some 3), none, .mv (.t 0)⟩, ⟨(some 4), none, .isn false (.t 3)⟩])
  (.cond (.t 4) (.seq (.ops [⟨(some 2), none, .mv (.c (.nils))⟩])
  .ret) .skip))
  (.seq (.ops [⟨(some 5), none, .bsl false 2 1 []⟩, ⟨(some 6), none, .mv (.t 0)⟩, ⟨(some 7), none, .app (.t 5) (.t 6) 2 1⟩, ⟨(some 2), none, .mv (.t 7)⟩])
  .ret)))
theorem e191 {args : List PV} {σ : Heap} {K : PV → Heap → Prop} (hl : args.length ≤ 8) (h : Wf σ → (∀ a ∈ args, PV.upto σ.length a) → vc (mkCfg Tryz.prog mixed [] 8 σ.length) k191 (FinK σ.length [.t 2] K) (argEnv 0 args) σ) : ACall Tryz.prog 191 args σ K :=
  ACall_enter (C := mkCfg Tryz.prog mixed [] 8 σ.length) (c := Tryz.f191.body.getD .skip) Tryz.func191 (by kernel_rfl) (by kernel_rfl) (by kernel_rfl) rfl hl (by kernel_rfl) (by kernel_rfl) h
end Go.Proofs.YtpfapiiinkkcgaaGreat
namespace Go.Proofs.YtpfapiiinkkcgaaGreat
open Go.Kv
set_option linter.unusedVariables false
set_option linter.unusedSimpArgs false
attribute [local irreducible] ACall PCall KL
def ext (P : List Int) (k : Nat) : List (List Int) := (List.range k).map fun c : Nat => P ++ [(c : Int)]
@[simp] theorem ext_length (P : List Int) (k : Nat) : (ext P k).length = k := by simp [ext]
def okP (n : Nat) (P : List Int) : Bool := decide (P.length = n) && P.all (fun k => decide (0 ≤ k ∧ k ≤ 4)) && decide (P.length = 0 ∨ 0 ≤ mxl P) && decide (mxl P ≤ 4)
theorem HKv (σ : Heap) (K : PV → Heap → Prop) (v : PV) : HK σ K v = K v σ := rfl
/-- A copy of a slice of numbers. -/
theorem p191P (l : List Int) (hl : l.length ≤ 4294967296) : ACall Tryz.prog 191 [.list (ints l)] [] (fun v s => (v = .ref 0 1 0 l.length ∧ s = [.arr 1 2 1 (ints l)]) ∨ (l = [] ∧ v = .nils ∧ s = [])) := by
  cases l with
  | nil =>
    refine e191 (by simp) fun _ _ => ?_
    simp only [k191, argEnv, take6, List.drop_zero, Int.cast_ofNat_Int, go_sem, ↓reduceIte, Nat.reduceEqDiff, Nat.reduceAdd, Nat.reduceMul, Nat.reduceLeDiff, Nat.reduceLT, Int.reduceLE, Int.reduceLT, reduceCtorEq]
    have e : ∀ K : Bool → Prop, aIsn (.list (ints [])) K = (K true ∧ K false) := fun _ => rfl
    rw [e]
    exact ⟨⟨fun _ => Kv.Fin.now (.inr ⟨rfl, rfl⟩), fun h => by cases h⟩, ⟨fun h => (by cases h), fun _ => Kv.Fin.now (.inl ⟨rfl, rfl⟩)⟩⟩
  | cons x l =>
    refine e191 (by simp) fun _ _ => ?_
    simp only [k191, argEnv, take6, List.drop_zero, Int.cast_ofNat_Int, go_sem, ↓reduceIte, Nat.reduceEqDiff, Nat.reduceAdd, Nat.reduceMul, Nat.reduceLeDiff, Nat.reduceLT, Int.reduceLE, Int.reduceLT, reduceCtorEq]
    have e : ∀ K : Bool → Prop, aIsn (.list (ints (x :: l))) K = K false := fun _ => rfl
    rw [e]
    try simp only [take6, List.drop_zero, Int.cast_ofNat_Int, go_sem, ↓reduceIte, Nat.reduceEqDiff, Nat.reduceAdd, Nat.reduceMul, Nat.reduceLeDiff, Nat.reduceLT, Int.reduceLE, Int.reduceLT, reduceCtorEq]
    refine ⟨by simp at hl; omega, Kv.Fin.now (.inl ⟨rfl, ?_⟩)⟩
    simp
end Go.Proofs.YtpfapiiinkkcgaaGreat
end
