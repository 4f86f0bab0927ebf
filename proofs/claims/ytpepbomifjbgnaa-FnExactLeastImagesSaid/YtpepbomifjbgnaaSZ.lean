/- An own table of sets, sorted. -/
import Derived.Test.YtpepbomifjbgnaaSY
import Derived.Test.YtpepbomifjbgnaaG1
namespace Go.Proofs.Ytpepbomifjbgnaa
open Go.Kv
set_option linter.unusedVariables false
set_option linter.unusedSimpArgs false
attribute [local irreducible] ACall PCall KL
theorem getD_mem {α : Type} {l : List α} {i : Nat} (h : i < l.length) (d : α) : l.getD i d ∈ l := by
  rw [List.getD_eq_getElem?_getD, List.getElem?_eq_getElem h]; exact List.getElem_mem _
theorem getD_some {α : Type} {l : List α} {i : Nat} (h : i < l.length) (d : α) : l[i]? = some (l.getD i d) := by
  rw [List.getD_eq_getElem?_getD, List.getElem?_eq_getElem h]; rfl
theorem perm_map_range {α : Type} (l : List α) (d : α) {p : List Nat} (hp : p.Perm (List.range l.length)) : (p.map fun i => l.getD i d).Perm l := by
  refine (hp.map _).trans ?_
  have : (List.range l.length).map (fun i => l.getD i d) = l := by
    apply List.ext_getElem?
    intro i
    rw [List.getElem?_map]
    by_cases h : i < l.length
    · rw [List.getElem?_range h]
      simp [h]
    · rw [List.getElem?_eq_none (by simpa using h), List.getElem?_eq_none (by simpa using h)]; rfl
  rw [this]
theorem tab_sort {e2 e1 : TypeId} {σ : Heap} {v : PV} {t : List (List Int)} (hT : TabN e2 e1 σ v t) (hf : Free σ) (h0 : 0 < t.length) (hn : t.length ≤ 1000) (hl : ∀ l ∈ t, l ≠ [] ∧ l.length ≤ 1000000) {K : PV → Heap → Prop}
    (hK : ∀ t' s, TabN e2 e1 s v t' → t'.Perm t → t'.Pairwise (fun a b => stc a b ≤ 0) → Free s → s.length = σ.length → K (.tup []) s) : ACall Try.prog 80 [v, .fn (.func 81) [] []] σ K := by
  cases hT with
  | nil => simp at h0
  | tab id ver rs _ h =>
    obtain ⟨junk, ho⟩ := h.out
    have hpl := pvs_length h.len
    have hid := (List.getElem?_eq_some_iff.1 ho).1
    have hnn : ∀ (i : Nat) r l, rs[i]? = some r → t[i]? = some l → r.nil = false := fun i r l hr hl' => by
      cases hc : r.nil with
      | false => rfl
      | true => exact absurd ((h.row i r l hr hl').nl hc) (hl l (List.mem_of_getElem? hl')).1
    have hdead : ∀ j, id ≠ j → (σ.set id .dead)[j]? = σ[j]? := fun j hj => List.getElem?_set_ne hj
    rw [← hpl]
    refine p80 (ks := t) ho hpl.symm (by omega) (by omega) (fun x hx => ?_) hl (fun i x k hx hk => ?_) fun p hp hpw => ?_
    · obtain ⟨i, hi, rfl⟩ := List.getElem_of_mem hx
      obtain ⟨r, l, hr, hl', e⟩ := pvs_get (List.getElem?_eq_getElem hi)
      rw [e, Rw.pv, if_neg (by rw [hnn i r l hr hl']; simp)]; rfl
    · obtain ⟨r, l, hr, hl', rfl⟩ := pvs_get hx
      rw [hk] at hl'; cases hl'
      exact ((h.row i r k hr hk).keep fun hn => hdead _ (fun e => h.ni r (List.mem_of_getElem? hr) hn e.symm)).imm
    · rw [hpl] at hp
      have hpi : ∀ i ∈ p, i < t.length := fun i hi => by simpa using hp.mem_iff.1 hi
      have hplen : p.length = t.length := by simpa using hp.length_eq
      have hnd : p.Nodup := hp.nodup_iff.2 List.nodup_range
      have ez : (p.map fun i => (pvs rs t).getD i .undef) = pvs (p.map fun i => rs.getD i ⟨true, 0, 0, [], []⟩) (p.map fun i => t.getD i []) := by
        unfold pvs
        rw [List.zipWith_map, List.zipWith_self]
        refine List.map_congr_left fun i hi => ?_
        have h1 := hpi i hi
        have h2 : i < rs.length := by rw [h.len]; exact h1
        simp [List.getD_eq_getElem?_getD, List.getElem?_zipWith, h1, h2]
      have hgr : ∀ (i : Nat) r, (p.map fun i => rs.getD i ⟨true, 0, 0, [], []⟩)[i]? = some r → ∃ j, p[i]? = some j ∧ rs[j]? = some r := fun i r hr => by
        rw [List.getElem?_map, Option.map_eq_some_iff] at hr
        obtain ⟨j, hj, rfl⟩ := hr
        exact ⟨j, hj, getD_some (by rw [h.len]; exact hpi j (List.mem_of_getElem? hj)) _⟩
      have hnew : TabG e2 e1 (σ.set id (.arr ver e2 1 ((p.map fun i => (pvs rs t).getD i .undef) ++ junk))) id ver (p.map fun i => rs.getD i ⟨true, 0, 0, [], []⟩) (p.map fun i => t.getD i []) := by
        refine ⟨⟨junk, by rw [List.getElem?_set_self hid, ez]⟩, by simp, fun i r l hr hl' => ?_, fun i j r q hr hq h1 h2 h3 => ?_, fun r hr hn => ?_⟩
        · obtain ⟨j, hj, hr⟩ := hgr i r hr
          rw [List.getElem?_map, hj] at hl'
          simp only [Option.map_some, Option.some.injEq] at hl'
          subst hl'
          have hjt := hpi j (List.mem_of_getElem? hj)
          exact (h.row j r _ hr (getD_some hjt _)).keep fun hn => List.getElem?_set_ne (fun e => h.ni r (List.mem_of_getElem? hr) hn e.symm)
        · obtain ⟨a, ha, hr⟩ := hgr i r hr
          obtain ⟨b, hb, hq⟩ := hgr j q hq
          have hab := h.nd a b r q hr hq h1 h2 h3
          subst hab
          have hpw2 := List.pairwise_iff_getElem.1 (List.nodup_iff_pairwise_ne.1 hnd)
          obtain ⟨hi1, hi2⟩ := List.getElem?_eq_some_iff.1 ha
          obtain ⟨hj1, hj2⟩ := List.getElem?_eq_some_iff.1 hb
          rcases Nat.lt_trichotomy i j with hlt | he | hlt
          · exact absurd (hi2.trans hj2.symm) (hpw2 i j hi1 hj1 hlt)
          · exact he
          · exact absurd (hj2.trans hi2.symm) (hpw2 j i hj1 hi1 hlt)
        · obtain ⟨i, hi⟩ := List.getElem?_of_mem hr
          obtain ⟨j, _, hr⟩ := hgr i r hi
          exact h.ni r (List.mem_of_getElem? hr) hn
      have hperm := perm_map_range t [] hp
      have hTn : TabN e2 e1 (σ.set id (.arr ver e2 1 ((p.map fun i => (pvs rs t).getD i .undef) ++ junk))) (.ref id ver 0 t.length) (p.map fun i => t.getD i []) := by
        have := TabN.tab id ver _ _ hnew
        rwa [show (p.map fun i => t.getD i []).length = t.length by rw [List.length_map, hplen]] at this
      refine hK _ _ hTn hperm ?_ (fun o ho' => ?_) (by simp)
      · rw [List.pairwise_map]
        exact hpw.imp fun {a b} hab => by
          have := stc_anti (t.getD a []) (t.getD b [])
          omega
      · rcases List.mem_or_eq_of_mem_set ho' with ho' | rfl
        · exact hf o ho'
        · have hold := hf _ (List.mem_of_getElem? ho)
          intro c hc
          refine hold c ?_
          rw [flat_append, List.mem_append] at hc ⊢
          rcases hc with hc | hc
          · refine .inl ?_
            obtain ⟨x, hx, hcx⟩ := List.mem_flatMap.1 hc
            obtain ⟨i, hi, rfl⟩ := List.mem_map.1 hx
            exact List.mem_flatMap.2 ⟨_, getD_mem (by rw [hpl]; exact hpi i hi) _, hcx⟩
          · exact .inr hc
end Go.Proofs.Ytpepbomifjbgnaa
