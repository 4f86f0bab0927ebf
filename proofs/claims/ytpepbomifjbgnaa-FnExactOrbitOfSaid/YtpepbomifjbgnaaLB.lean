/- Lists of maps that are owned within a part of the heap. -/
import Derived.Test.YtpepbomifjbgnaaLA
import Derived.Test.YtpepbomifjbgnaaLO
namespace Go.Proofs.Ytpepbomifjbgnaa
open Go.Kv
set_option linter.unusedVariables false
set_option linter.unusedSimpArgs false
attribute [local irreducible] ACall PCall KL
/-- What is left of k behind a list. -/
theorem szA_all (n : Nat) (k : Int) (hk : k ≤ 1048576) (hz : ¬ (if k - (n : Int) < 0 then -1 else k - (n : Int)) < 0) : n ≤ 1048576 ∧ 0 ≤ (if k - (n : Int) < 0 then -1 else k - (n : Int)) ∧ (if k - (n : Int) < 0 then -1 else k - (n : Int)) ≤ 1048576 := by
  by_cases h : k - (n : Int) < 0
  · rw [if_pos h] at hz; omega
  · rw [if_neg h] at hz ⊢; omega
inductive OwnA (e : TypeId) (σ : Heap) (lo hi : Nat) : PV → List (List Int) → Prop
  | nil : OwnA e σ lo hi .nils []
  | own (id ver : Nat) (l post : List (List Int)) (h : σ[id]? = some (.arr ver e 6 (aggs (l ++ post)))) (h6 : ∀ r ∈ l, r.length = 6) (h1 : lo ≤ id ∧ id < hi) : OwnA e σ lo hi (.ref id ver 0 l.length) l
variable {e : TypeId} {σ : Heap} {lo hi : Nat} {x : PV} {l : List (List Int)}
theorem Imm.refap {σ : Heap} {id ver n : Nat} {e : TypeId} {l post : List (List Int)} (h : σ[id]? = some (.arr ver e 6 (aggs (l ++ post)))) (h6 : ∀ r ∈ l, r.length = 6) (hn : n = l.length) : Imm σ (.ref id ver 0 n) (.list (aggs l)) := by
  subst hn
  have hg : ∀ (i : Nat) (x d : PV), (aggs (l ++ post))[i]? = some x → (aggs l)[i]? = some d → x = d := fun i x d hx hd => by
    have hlt := (List.getElem?_eq_some_iff.1 hd).1
    rw [← aggs_append, List.getElem?_append_left hlt, hd] at hx
    exact (Option.some.inj hx).symm
  refine .ref id ver 0 l.length e 6 (aggs (l ++ post)) (aggs l) h (by simp [aggs_length]) (aggs_length l) (fun i x d hx hd => ?_) (fun i x d j c c' hx hd hc hc' => ?_)
  · rw [Nat.zero_add] at hx
    obtain rfl := hg i x d hx hd
    obtain ⟨y, hy, rfl⟩ := aggs_get hd
    exact ⟨rfl, ints_ok y⟩
  · rw [Nat.zero_add] at hx
    obtain rfl := hg i x d hx hd
    obtain ⟨y, _, rfl⟩ := aggs_get hd
    rw [hc] at hc'; cases hc'
    exact .refl _ ((Plain.ints y c (List.mem_of_getElem? hc)).up)
theorem OwnA.imm (h : OwnA e σ lo hi x l) : Imm σ x (.list (aggs l)) := by
  cases h with
  | nil => exact .nils
  | own id ver l post h h6 _ => exact Imm.refap h h6 rfl
theorem OwnA.keep (h : OwnA e σ lo hi x l) {σ' : Heap} (hk : ∀ j, lo ≤ j → j < hi → σ'[j]? = σ[j]?) : OwnA e σ' lo hi x l := by
  cases h with
  | nil => exact .nil
  | own id ver l post h h6 h1 => exact .own id ver l post ((hk id h1.1 h1.2).trans h) h6 h1
theorem OwnA.shift (h : OwnA e σ lo hi x l) (τ : Heap) : OwnA e (τ ++ σ.map (AObj.ren (Kv.sh τ.length))) (lo + τ.length) (hi + τ.length) (x.ren (Kv.sh τ.length)) l := by
  cases h with
  | nil => simp only [ren_nils]; exact .nil
  | own id ver l post h h6 h1 =>
    simp only [ren_ref, sh_def]
    refine .own _ ver l post ?_ h6 (by omega)
    rw [List.getElem?_append_right (by omega), Nat.add_sub_cancel, List.getElem?_map, h]
    simp only [Option.map_some, ren_arr, ren_aggs]
theorem OwnA.fr (h : OwnA e σ lo hi x l) : x.free := by
  cases h with
  | nil => exact Plain.nils.fr
  | own id ver l post h _ _ => exact free_ref _ _ _ _
theorem free_aggs {v : Nat} {e : TypeId} {s : Nat} (l : List (List Int)) : AObj.free (.arr v e s (aggs l)) := fun c hc => (flat_aggs c hc).fr
theorem Free.aggs (v : Nat) (e : TypeId) (s : Nat) (l : List (List Int)) : Free [.arr v e s (Kv.aggs l)] := fun o ho => by
  simp at ho; subst ho; exact free_aggs l
/-- New maps of one's own, and a number. -/
def NewAO (P : Program) (f : FuncId) (args : List PV) (e : TypeId) (l : List (List Int)) (r : Int) : Prop :=
  ACall P f args [] fun v s => ∃ x, v = .tup [x, .int .i64 r] ∧ OwnA e s 0 s.length x l ∧ Free s
theorem Pure.ownA {P : Program} {f : FuncId} {args : List PV} {r : Int} (h : Pure P f args (.tup [.nils, .int .i64 r])) : NewAO P f args e [] r :=
  ACall.mono h fun v s ⟨hv, hs⟩ => ⟨.nils, hv, .nil, hs ▸ .nil⟩
theorem NewAO.frozen {P : Program} {f : FuncId} {args : List PV} {r : Int} (h : NewAO P f args e l r) : Pure P f args (.tup [.list (aggs l), .int .i64 r]) :=
  ACall.ret h fun v s ⟨x, hv, hT, _⟩ => by
    subst hv
    exact Fin.freeze (Imm.tupL (.cons hT.imm (.cons (.int _ _ _) (.nil _)))) ⟨rfl, rfl⟩
theorem NewAO.lend {P : Program} {f : FuncId} {args args' : List PV} {r : Int} (h : NewAO P f args' e l r) {σ : Heap} {K : PV → Heap → Prop} (ha : ImmL σ args args')
    (hk : ∀ (x : PV) (σ' : Heap), OwnA e σ' σ.length σ'.length x l → (∀ j, j < σ.length → σ'[j]? = σ[j]?) → σ.length ≤ σ'.length → K (.tup [x, .int .i64 r]) σ') : ACall P f args σ K := by
  refine ACall.lend h ha fun v s ⟨x, hv, hT, hf⟩ => ?_
  subst hv
  refine ⟨⟨free_tup fun c hc => ?_, hf⟩, ?_⟩
  · simp only [List.mem_cons, List.not_mem_nil, or_false] at hc
    rcases hc with rfl | rfl
    · exact hT.fr
    · exact (Plain.int _ _).fr
  · have h1 := hT.shift σ
    have e : (σ ++ s.map (AObj.ren (Kv.sh σ.length))).length = s.length + σ.length := by simp; omega
    rw [Nat.zero_add, ← e] at h1
    have := hk _ _ h1 (fun j hj => List.getElem?_append_left hj) (by simp)
    simpa only [ren_tup, ren_int, List.map_cons, List.map_nil] using this
theorem p21O (l : List (List Int)) (hl : l.length ≤ 1048576) (h6 : ∀ r ∈ l, r.length = 6) {σ : Heap} {K : PV → Heap → Prop}
    (hk : ∀ (x : PV) (σ' : Heap), OwnA 59 σ' σ.length σ'.length x l → (∀ j, j < σ.length → σ'[j]? = σ[j]?) → σ.length ≤ σ'.length → K x σ') : ACall Try.prog 21 [.list (aggs l)] σ K := by
  refine (p21o l hl h6).go fun v s ⟨hv, hs⟩ => ?_
  subst hv; subst hs
  simp only [ren_ref, sh_def, Nat.zero_add, List.map_cons, List.map_nil, ren_arr, ren_aggs]
  exact hk _ _ (.own σ.length 0 l [] (by simp) h6 ⟨Nat.le_refl _, by simp⟩) (fun j hj => List.getElem?_append_left hj) (by simp)
theorem p26n (σ : Heap) (k : Int) {K : PV → Heap → Prop} (hK : K (.int .i64 k) σ) : ACall Try.prog 26 [.nils, .int .i64 k] σ K := by
  refine e26 (by simp) fun _ _ => ?_
  simp only [k26, argEnv, take6, List.drop_zero, Int.cast_ofNat_Int, go_sem, ↓reduceIte, Nat.reduceEqDiff, Nat.reduceAdd, Nat.reduceMul, Nat.reduceLeDiff, Nat.reduceLT, Int.reduceLE, Int.reduceLT, reduceCtorEq]
  refine KL_round ?_
  rw [k26_b1.eq_1]
  try simp only [Int.lt_irrefl, take6, List.drop_zero, Int.cast_ofNat_Int, go_sem, ↓reduceIte, Nat.reduceEqDiff, Nat.reduceAdd, Nat.reduceMul, Nat.reduceLeDiff, Nat.reduceLT, Int.reduceLE, Int.reduceLT, reduceCtorEq]
  exact Kv.Fin.now hK
theorem p26O {σ : Heap} {lo hi : Nat} {x : PV} {l : List (List Int)} (h : OwnA 59 σ lo hi x l) (k : Int) (hn : l.length ≤ 1048576) (h6 : ∀ r ∈ l, r.length = 6) (hk : 0 ≤ k ∧ k ≤ 4294967296) {K : PV → Heap → Prop}
    (hK : ∀ σ', OwnA 59 σ' lo hi x (seqA k l.length) → (∀ j, ¬ (lo ≤ j ∧ j < hi) → σ'[j]? = σ[j]?) → σ'.length = σ.length → K (.int .i64 (k + 6 * l.length)) σ') : ACall Try.prog 26 [x, .int .i64 k] σ K := by
  cases h with
  | nil =>
    refine p26n σ k ?_
    have := hK σ .nil (fun _ _ => rfl) rfl
    simpa using this
  | own id ver l post h _ h1 =>
    refine p26 σ id ver 59 l post k h h6 hk hn ?_
    have hlt := (List.getElem?_eq_some_iff.1 h).1
    have e : l.length = (seqA k l.length).length := by simp
    refine hK _ ?_ (fun j hj => List.getElem?_set_ne fun he : id = j => hj (by rw [← he]; exact h1)) (by simp)
    have := OwnA.own (e := 59) (lo := lo) (hi := hi) (σ := σ.set id (.arr ver 59 6 (aggs (seqA k l.length ++ post)))) id ver (seqA k l.length) post (List.getElem?_set_self hlt) seqA_mem h1
    rwa [← e] at this
end Go.Proofs.Ytpepbomifjbgnaa
