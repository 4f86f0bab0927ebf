/- Marking of owned rows, and own copies of tables, in the general form. -/
import Derived.Test.YtpepbomifjbgnaaO
import Derived.Test.YtpepbomifjbgnaaTG
namespace Go.Proofs.Ytpepbomifjbgnaa
open Go.Kv
set_option linter.unusedVariables false
set_option linter.unusedSimpArgs false
attribute [local irreducible] ACall PCall KL
theorem p31G (σ : Heap) (id ver : Nat) (rs : List Rw) (t : List (List Int)) (k : Int) (hT : TabG 23 2 σ id ver rs t) (hn : t.length ≤ 4294967296) (hk : 0 ≤ k) (ht : k + tot t ≤ 4294967296) {K : PV → Heap → Prop}
    (hK : ∀ σ', TabG 23 2 σ' id ver rs (seqT k t) → (∀ j, (∀ r ∈ rs, r.nil = false → r.id ≠ j) → σ'[j]? = σ[j]?) → σ'.length = σ.length → K (.int .i64 (k + tot t)) σ') : ACall Try.prog 31 [.ref id ver 0 t.length, .int .i64 k] σ K := by
  refine e31 (by simp) fun _ _ => ?_
  simp only [k31, argEnv, go_sem, ↓reduceIte, Nat.reduceEqDiff, Nat.reduceAdd, reduceCtorEq]
  refine KL_ind k31_b0.eq_1 (fun x : Nat × Heap => [(5, .int .i64 x.1), (0, .ref id ver 0 t.length), (1, .int .i64 (k + tot (t.take x.1)))]) (fun x => x.2) (fun x => x.1 ≤ t.length ∧ TabG 23 2 x.2 id ver rs (mixT k t x.1) ∧ (∀ j, (∀ r ∈ rs, r.nil = false → r.id ≠ j) → x.2[j]? = σ[j]?) ∧ x.2.length = σ.length) (fun x => t.length - x.1) [5, 0, 1] (0, σ) (by simp [keep, tot]) rfl ⟨Nat.zero_le _, by simpa [mixT] using hT, fun _ _ => rfl, rfl⟩ fun ⟨x, τ⟩ ⟨hi, hTx, hoth, hlen⟩ ih => ?_
  simp only at hi hTx hoth hlen
  have hle := tot_le t x
  obtain ⟨junk, hout⟩ := hTx.out
  simp only [hout, go_sem, ↓reduceIte, Nat.reduceEqDiff, Nat.reduceAdd, reduceCtorEq]
  have hml := mixT_length k t hi
  have hrl : (pvs rs (mixT k t x)).length = t.length := by rw [pvs_length hTx.len, hml]
  refine ⟨fun h1 => ?_, fun h1 => ?_⟩
  · have hx : x < t.length := by omega
    obtain ⟨r, hr⟩ : ∃ r, rs[x]? = some r := ⟨rs[x]'(by have := hTx.len; omega), List.getElem?_eq_getElem (by have := hTx.len; omega)⟩
    have hmg := mixT_get k hx
    have hrg : (pvs rs (mixT k t x) ++ junk)[x]? = some (r.pv (t.getD x [])) := by
      rw [List.getElem?_append_left (by omega)]
      simp only [pvs, List.getElem?_zipWith, hr, hmg]
    have hrow := hTx.row x r _ hr hmg
    have h3 := tot_take t x hx
    have h4 := tot_le t (x + 1)
    refine ⟨by omega, by omega, ?_⟩
    rw [hrg]
    cases hnil : r.nil with
    | true =>
      have hl0 := hrow.nl hnil
      have e1 : r.pv (t.getD x []) = .nils := by simp [Rw.pv, hnil]
      rw [e1]
      simp only [go_sem, ↓reduceIte, Nat.reduceEqDiff, Nat.reduceAdd, reduceCtorEq]
      refine p27n τ _ ?_
      simp only [go_sem, ↓reduceIte, Nat.reduceEqDiff, Nat.reduceAdd, reduceCtorEq]
      refine ⟨by omega, ?_⟩
      rw [hl0] at h3
      refine ih (x + 1, τ) ⟨(by omega : x + 1 ≤ t.length), ?_, hoth, hlen⟩ (by show t.length - (x + 1) < t.length - x; omega) _ _ (by simp [keep, h3]) rfl
      have e2 := mixT_set k hx
      rw [hl0] at e2
      have e3 : (mixT k t x).set x (seqI (k + tot (t.take x)) ([] : List Int).length) = mixT k t x := by
        apply List.ext_getElem?; intro j
        by_cases e : x = j
        · subst e
          rw [List.getElem?_set_self (by rw [hml]; exact hx), hmg, hl0]
          rfl
        · rw [List.getElem?_set_ne e]
      rw [e3] at e2
      rw [← e2]; exact hTx
    | false =>
      have e1 : r.pv (t.getD x []) = .ref r.id r.ver r.pre.length (t.getD x []).length := by simp [Rw.pv, hnil]
      rw [e1]
      simp only [go_sem, ↓reduceIte, Nat.reduceEqDiff, Nat.reduceAdd, reduceCtorEq]
      refine p27 τ r.id r.ver 2 r.pre (t.getD x []) r.post (k + tot (t.take x)) (hrow.ow hnil) (by omega) (by omega) ?_
      simp only [go_sem, ↓reduceIte, Nat.reduceEqDiff, Nat.reduceAdd, reduceCtorEq]
      refine ⟨by omega, ?_⟩
      refine ih (x + 1, τ.set r.id (.arr r.ver 2 1 (ints (r.pre ++ seqI (k + tot (t.take x)) (t.getD x []).length ++ r.post)))) ⟨(by omega : x + 1 ≤ t.length), ?_, fun j hj => ?_, ?_⟩ (by show t.length - (x + 1) < t.length - x; omega) _ _ (by simp [keep, h3]; omega) (by simp)
      · have := hTx.set hr hnil hmg (m := seqI (k + tot (t.take x)) (t.getD x []).length) (by simp)
        rw [mixT_set k hx] at this
        exact this
      · have hne : r.id ≠ j := hj r (List.mem_of_getElem? hr) hnil
        show (τ.set r.id _)[j]? = σ[j]?
        rw [List.getElem?_set_ne hne]; exact hoth j hj
      · show (τ.set r.id _).length = σ.length
        rw [List.length_set]; exact hlen
  · obtain rfl : x = t.length := by omega
    refine Kv.Fin.now ?_
    rw [List.take_length]
    have e : mixT k t t.length = seqT k t := by simp [mixT, seqT_length, List.take_of_length_le]
    rw [e] at hTx
    exact hK τ hTx hoth hlen
theorem p31n (σ : Heap) (k : Int) {K : PV → Heap → Prop} (hK : K (.int .i64 k) σ) : ACall Try.prog 31 [.nils, .int .i64 k] σ K := by
  refine e31 (by simp) fun _ _ => ?_
  simp only [k31, argEnv, go_sem, ↓reduceIte, Nat.reduceEqDiff, Nat.reduceAdd, reduceCtorEq]
  refine KL_round ?_
  rw [k31_b0.eq_1]
  simp only [go_sem, ↓reduceIte, Nat.reduceEqDiff, Nat.reduceAdd, reduceCtorEq]
  repeat' (first | refine And.intro ?_ ?_ | intro _)
  all_goals (try omega)
  exact Kv.Fin.now hK
/-- The own copy of a table is one. -/
theorem heapC_tabG (t : List (List Int)) : TabG 23 2 (heapC t t.length) 0 0 ((idsC t.length).map fun r => ⟨false, r.1, r.2, [], []⟩) t := by
  have h := heapC_tab t
  refine ⟨⟨[], ?_⟩, by simpa using h.len, fun i r l hr hl => ?_, fun i j r q hr hq h1 h2 h3 => ?_, fun r hr hn => ?_⟩
  · rw [h.out, List.append_nil]
    congr 2
    simp only [refs, pvs, List.zipWith_map_left]
    rfl
  · simp only [List.getElem?_map, Option.map_eq_some_iff] at hr
    obtain ⟨a, ha, rfl⟩ := hr
    exact ⟨fun h => (by cases h), fun _ => (by simpa using h.row i a l ha hl)⟩
  · simp only [List.getElem?_map, Option.map_eq_some_iff, idsC] at hr hq
    obtain ⟨a, ha, rfl⟩ := hr
    obtain ⟨b, hb, rfl⟩ := hq
    simp only [List.getElem?_eq_some_iff, List.length_range] at ha hb
    obtain ⟨c, ⟨hc1, hc2⟩, rfl⟩ := ha
    obtain ⟨d, ⟨hd1, hd2⟩, rfl⟩ := hb
    simp at h3 hc2 hd2
    omega
  · obtain ⟨a, ha, rfl⟩ := List.mem_map.1 hr
    simp only [idsC, List.mem_map] at ha
    obtain ⟨c, _, rfl⟩ := ha
    simp
end Go.Proofs.Ytpepbomifjbgnaa
