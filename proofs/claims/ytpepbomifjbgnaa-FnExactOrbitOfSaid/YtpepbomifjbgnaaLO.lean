/- What is owned within a part of the heap: rows, numbers; new, marked, kept. -/
import Derived.Test.YtpepbomifjbgnaaOT
namespace Go.Proofs.Ytpepbomifjbgnaa
open Go.Kv
set_option linter.unusedVariables false
set_option linter.unusedSimpArgs false
attribute [local irreducible] ACall PCall KL
/-- Owned rows. -/
inductive OwnT (e2 e1 : TypeId) (σ : Heap) (lo hi : Nat) : PV → List (List Int) → Prop
  | nil : OwnT e2 e1 σ lo hi .nils []
  | tab (id ver : Nat) (rs : List Rw) (t : List (List Int)) (h : TabG e2 e1 σ id ver rs t) (h1 : lo ≤ id ∧ id < hi) (h2 : ∀ r ∈ rs, r.nil = false → lo ≤ r.id ∧ r.id < hi) : OwnT e2 e1 σ lo hi (.ref id ver 0 t.length) t
/-- Owned numbers. -/
inductive OwnI (e : TypeId) (σ : Heap) (lo hi : Nat) : PV → List Int → Prop
  | nil : OwnI e σ lo hi .nils []
  | own (id ver : Nat) (pre l post : List Int) (h : σ[id]? = some (.arr ver e 1 (ints (pre ++ l ++ post)))) (h1 : lo ≤ id ∧ id < hi) : OwnI e σ lo hi (.ref id ver pre.length l.length) l
variable {e2 e1 e : TypeId} {σ : Heap} {lo hi : Nat} {x : PV} {t : List (List Int)} {l : List Int}
theorem OwnT.imm (h : OwnT e2 e1 σ lo hi x t) : Imm σ x (.list (rows t)) := by
  cases h with
  | nil => exact .nils
  | tab id ver rs t h _ _ => exact h.imm rfl
theorem OwnI.imm (h : OwnI e σ lo hi x l) : Imm σ x (.list (ints l)) := by
  cases h with
  | nil => exact .nils
  | own id ver pre l post h _ => exact .refp h rfl rfl
theorem OwnT.keep (h : OwnT e2 e1 σ lo hi x t) {σ' : Heap} (hk : ∀ j, lo ≤ j → j < hi → σ'[j]? = σ[j]?) : OwnT e2 e1 σ' lo hi x t := by
  cases h with
  | nil => exact .nil
  | tab id ver rs t h h1 h2 => exact .tab id ver rs t (h.keep (hk id h1.1 h1.2) fun r hr hn => hk _ (h2 r hr hn).1 (h2 r hr hn).2) h1 h2
theorem OwnI.keep (h : OwnI e σ lo hi x l) {σ' : Heap} (hk : ∀ j, lo ≤ j → j < hi → σ'[j]? = σ[j]?) : OwnI e σ' lo hi x l := by
  cases h with
  | nil => exact .nil
  | own id ver pre l post h h1 => exact .own id ver pre l post ((hk id h1.1 h1.2).trans h) h1
theorem OwnT.shift (h : OwnT e2 e1 σ lo hi x t) (τ : Heap) : OwnT e2 e1 (τ ++ σ.map (AObj.ren (Kv.sh τ.length))) (lo + τ.length) (hi + τ.length) (x.ren (Kv.sh τ.length)) t := by
  cases h with
  | nil => simp only [ren_nils]; exact .nil
  | tab id ver rs t h h1 h2 =>
    simp only [ren_ref, sh_def]
    refine .tab _ _ _ t (h.shift τ) (by omega) fun r hr hn => ?_
    obtain ⟨q, hq, rfl⟩ := List.mem_map.1 hr
    have := h2 q hq hn
    simp only [Rw.sh]; omega
theorem OwnI.shift (h : OwnI e σ lo hi x l) (τ : Heap) : OwnI e (τ ++ σ.map (AObj.ren (Kv.sh τ.length))) (lo + τ.length) (hi + τ.length) (x.ren (Kv.sh τ.length)) l := by
  cases h with
  | nil => simp only [ren_nils]; exact .nil
  | own id ver pre l post h h1 =>
    simp only [ren_ref, sh_def]
    refine .own _ ver pre l post ?_ (by omega)
    rw [List.getElem?_append_right (by omega), Nat.add_sub_cancel, List.getElem?_map, h]
    simp only [Option.map_some, ren_arr, ren_ints]
theorem OwnT.fr (h : OwnT e2 e1 σ lo hi x t) : x.free := by
  cases h with
  | nil => exact Plain.nils.fr
  | tab id ver rs t h _ _ => exact free_ref _ _ _ _
theorem OwnI.fr (h : OwnI e σ lo hi x l) : x.free := by
  cases h with
  | nil => exact Plain.nils.fr
  | own id ver pre l post h _ => exact free_ref _ _ _ _
/-- New rows of one's own, and a number. -/
def NewTO (P : Program) (f : FuncId) (args : List PV) (e2 e1 : TypeId) (T : List (List Int)) (r : Int) : Prop :=
  ACall P f args [] fun v s => ∃ x, v = .tup [x, .int .i64 r] ∧ OwnT e2 e1 s 0 s.length x T ∧ Free s
def NewIO (P : Program) (f : FuncId) (args : List PV) (e : TypeId) (l : List Int) (r : Int) : Prop :=
  ACall P f args [] fun v s => ∃ x, v = .tup [x, .int .i64 r] ∧ OwnI e s 0 s.length x l ∧ Free s
theorem NewTN.own {P : Program} {f : FuncId} {args : List PV} {T : List (List Int)} {r : Int} (h : NewTN P f args e2 e1 T r) : NewTO P f args e2 e1 T r :=
  ACall.mono h fun v s ⟨x, hv, hT, hf⟩ => ⟨x, hv, (by
    cases hT with
    | nil => exact .nil
    | tab id ver rs _ h => exact .tab id ver rs _ h ⟨Nat.zero_le _, h.lt.1⟩ fun r hr hn => ⟨Nat.zero_le _, h.lt.2 r hr hn⟩), hf⟩
theorem Pure.ownT {P : Program} {f : FuncId} {args : List PV} {r : Int} (h : Pure P f args (.tup [.nils, .int .i64 r])) : NewTO P f args e2 e1 [] r :=
  ACall.mono h fun v s ⟨hv, hs⟩ => ⟨.nils, hv, .nil, hs ▸ .nil⟩
theorem Pure.ownI {P : Program} {f : FuncId} {args : List PV} {r : Int} (h : Pure P f args (.tup [.nils, .int .i64 r])) : NewIO P f args e [] r :=
  ACall.mono h fun v s ⟨hv, hs⟩ => ⟨.nils, hv, .nil, hs ▸ .nil⟩
theorem NewI.own {P : Program} {f : FuncId} {args : List PV} {l : List Int} {r : Int} (h : NewI P f args e l r) : NewIO P f args e l r :=
  ACall.mono h fun v s ⟨ver, pre, post, hv, hs⟩ => ⟨_, hv, hs ▸ .own 0 ver pre l post rfl ⟨Nat.zero_le _, by simp⟩, hs ▸ .ints _ _ _ _⟩
theorem NewTO.frozen {P : Program} {f : FuncId} {args : List PV} {T : List (List Int)} {r : Int} (h : NewTO P f args e2 e1 T r) : Pure P f args (.tup [.list (rows T), .int .i64 r]) :=
  ACall.ret h fun v s ⟨x, hv, hT, _⟩ => by
    subst hv
    exact Fin.freeze (Imm.tupL (.cons hT.imm (.cons (.int _ _ _) (.nil _)))) ⟨rfl, rfl⟩
theorem NewIO.frozen {P : Program} {f : FuncId} {args : List PV} {l : List Int} {r : Int} (h : NewIO P f args e l r) : Pure P f args (.tup [.list (ints l), .int .i64 r]) :=
  ACall.ret h fun v s ⟨x, hv, hT, _⟩ => by
    subst hv
    exact Fin.freeze (Imm.tupL (.cons hT.imm (.cons (.int _ _ _) (.nil _)))) ⟨rfl, rfl⟩
theorem NewTO.lend {P : Program} {f : FuncId} {args args' : List PV} {T : List (List Int)} {r : Int} (h : NewTO P f args' e2 e1 T r) {σ : Heap} {K : PV → Heap → Prop} (ha : ImmL σ args args')
    (hk : ∀ (x : PV) (σ' : Heap), OwnT e2 e1 σ' σ.length σ'.length x T → (∀ j, j < σ.length → σ'[j]? = σ[j]?) → σ.length ≤ σ'.length → K (.tup [x, .int .i64 r]) σ') : ACall P f args σ K := by
  refine ACall.lend h ha fun v s ⟨x, hv, hT, hf⟩ => ?_
  subst hv
  refine ⟨⟨free_tup fun c hc => ?_, hf⟩, ?_⟩
  · simp only [List.mem_cons, List.not_mem_nil, or_false] at hc
    rcases hc with rfl | rfl
    · exact hT.fr
    · exact (Plain.int _ _).fr
  · have h1 := hT.shift σ
    have e : (σ ++ s.map (AObj.ren (Kv.sh σ.length))).length = s.length + σ.length := by simp; omega
    rw [Nat.zero_add, ← e] at h1
    have := hk _ _ h1 (fun j hj => List.getElem?_append_left hj) (by simp)
    simpa only [ren_tup, ren_int, List.map_cons, List.map_nil] using this
theorem NewIO.lend {P : Program} {f : FuncId} {args args' : List PV} {l : List Int} {r : Int} (h : NewIO P f args' e l r) {σ : Heap} {K : PV → Heap → Prop} (ha : ImmL σ args args')
    (hk : ∀ (x : PV) (σ' : Heap), OwnI e σ' σ.length σ'.length x l → (∀ j, j < σ.length → σ'[j]? = σ[j]?) → σ.length ≤ σ'.length → K (.tup [x, .int .i64 r]) σ') : ACall P f args σ K := by
  refine ACall.lend h ha fun v s ⟨x, hv, hT, hf⟩ => ?_
  subst hv
  refine ⟨⟨free_tup fun c hc => ?_, hf⟩, ?_⟩
  · simp only [List.mem_cons, List.not_mem_nil, or_false] at hc
    rcases hc with rfl | rfl
    · exact hT.fr
    · exact (Plain.int _ _).fr
  · have h1 := hT.shift σ
    have e : (σ ++ s.map (AObj.ren (Kv.sh σ.length))).length = s.length + σ.length := by simp; omega
    rw [Nat.zero_add, ← e] at h1
    have := hk _ _ h1 (fun j hj => List.getElem?_append_left hj) (by simp)
    simpa only [ren_tup, ren_int, List.map_cons, List.map_nil] using this
theorem p14O (t : List (List Int)) (ht : t.length ≤ 1048576) (hl : ∀ r ∈ t, r.length ≤ 1048576) {σ : Heap} {K : PV → Heap → Prop}
    (hk : ∀ (x : PV) (σ' : Heap), OwnT 23 2 σ' σ.length σ'.length x t → (∀ j, j < σ.length → σ'[j]? = σ[j]?) → σ.length ≤ σ'.length → K x σ') : ACall Try.prog 14 [.list (rows t)] σ K := by
  refine (p14o t ht hl).go fun v s ⟨hv, hs⟩ => ?_
  subst hv; subst hs
  have h := heapC_tabG t
  have h0 : OwnT 23 2 (heapC t t.length) 0 (heapC t t.length).length (.ref 0 0 0 t.length) t := .tab 0 0 _ t h ⟨Nat.zero_le _, h.lt.1⟩ fun r hr hn => ⟨Nat.zero_le _, h.lt.2 r hr hn⟩
  have h1 := h0.shift σ
  have e : (σ ++ (heapC t t.length).map (AObj.ren (Kv.sh σ.length))).length = (heapC t t.length).length + σ.length := by simp; omega
  rw [Nat.zero_add, ← e] at h1
  exact hk _ _ h1 (fun j hj => List.getElem?_append_left hj) (by simp)
theorem p15O (l : List Int) (hl : l.length ≤ 1048576) {σ : Heap} {K : PV → Heap → Prop}
    (hk : ∀ (x : PV) (σ' : Heap), OwnI 2 σ' σ.length σ'.length x l → (∀ j, j < σ.length → σ'[j]? = σ[j]?) → σ.length ≤ σ'.length → K x σ') : ACall Try.prog 15 [.list (ints l)] σ K := by
  refine (p15o l hl).go fun v s ⟨hv, hs⟩ => ?_
  subst hv; subst hs
  simp only [ren_ref, sh_def, Nat.zero_add, List.map_cons, List.map_nil, ren_arr, ren_ints]
  exact hk _ _ (.own σ.length 0 [] l [] (by simp) ⟨Nat.le_refl _, by simp⟩) (fun j hj => List.getElem?_append_left hj) (by simp)
theorem p31O {σ : Heap} {lo hi : Nat} {x : PV} {t : List (List Int)} (h : OwnT 23 2 σ lo hi x t) (k : Int) (hn : t.length ≤ 4294967296) (hk : 0 ≤ k) (ht : k + tot t ≤ 4294967296) {K : PV → Heap → Prop}
    (hK : ∀ σ', OwnT 23 2 σ' lo hi x (seqT k t) → (∀ j, ¬ (lo ≤ j ∧ j < hi) → σ'[j]? = σ[j]?) → σ'.length = σ.length → K (.int .i64 (k + tot t)) σ') : ACall Try.prog 31 [x, .int .i64 k] σ K := by
  cases h with
  | nil =>
    refine p31n σ k ?_
    have := hK σ .nil (fun _ _ => rfl) rfl
    simpa [tot] using this
  | tab id ver rs t h h1 h2 =>
    refine p31G σ id ver rs t k h hn hk ht fun σ' hT hoth hlen => ?_
    have e : t.length = (seqT k t).length := (seqT_length k t).symm
    refine hK σ' (by rw [e]; exact .tab id ver rs _ hT h1 h2) (fun j hj => hoth j fun r hr hn he => hj (he ▸ h2 r hr hn)) hlen
theorem p27O {σ : Heap} {lo hi : Nat} {x : PV} {l : List Int} (h : OwnI 2 σ lo hi x l) (k : Int) (hn : l.length ≤ 4294967296) (hk : 0 ≤ k ∧ k ≤ 4294967296) {K : PV → Heap → Prop}
    (hK : ∀ σ', OwnI 2 σ' lo hi x (seqI k l.length) → (∀ j, ¬ (lo ≤ j ∧ j < hi) → σ'[j]? = σ[j]?) → σ'.length = σ.length → K (.int .i64 (k + l.length)) σ') : ACall Try.prog 27 [x, .int .i64 k] σ K := by
  cases h with
  | nil =>
    refine p27n σ k ?_
    have := hK σ .nil (fun _ _ => rfl) rfl
    simpa using this
  | own id ver pre l post h h1 =>
    refine p27 σ id ver 2 pre l post k h (by omega) hn ?_
    have hlt := (List.getElem?_eq_some_iff.1 h).1
    have e : l.length = (seqI k l.length).length := by simp
    refine hK _ ?_ (fun j hj => List.getElem?_set_ne fun he : id = j => hj (by rw [← he]; exact h1)) (by simp)
    have := OwnI.own (e := 2) (lo := lo) (hi := hi) (σ := σ.set id (.arr ver 2 1 (ints (pre ++ seqI k l.length ++ post)))) id ver pre (seqI k l.length) post (List.getElem?_set_self hlt) h1
    rwa [← e] at this
/-- What is left is what there was, less all rows. -/
theorem szR_tot : ∀ (t : List (List Int)) (k : Int), 0 ≤ k → 0 ≤ szR t k → (tot t : Int) ≤ k
  | [], k, h, _ => by simpa [tot] using h
  | r :: t, k, h, h' => by
    simp only [szR] at h'
    split at h'
    · omega
    · have := szR_tot t (k - r.length) (by omega) h'
      simp only [tot]; omega
theorem szT_all (t : List (List Int)) (k : Int) (hk : 0 ≤ k ∧ k ≤ 1048576) (h : ¬ szT t k < 0) : (t.length ≤ 1048576 ∧ ∀ r ∈ t, r.length ≤ 1048576) ∧ (tot t : Int) ≤ k ∧ 0 ≤ szT t k ∧ szT t k ≤ k := by
  unfold szT at h ⊢
  split at h
  · omega
  · rename_i h1
    rw [if_neg h1]
    have h2 := szR_tot t (k - t.length) (by omega) (by omega)
    have h3 := szR_le t (k - t.length) (by omega)
    have h4 := szR_rows t (k - t.length) (by omega) (by omega)
    exact ⟨⟨by omega, fun r hr => by have := h4 r hr; omega⟩, by omega, by omega, by omega⟩
end Go.Proofs.Ytpepbomifjbgnaa
