/- A table of words, in the heap. -/
import Derived.Test.YtpepbomifjbgnaaG4
namespace Go.Proofs.Ytpepbomifjbgnaa
open Go.Kv
set_option linter.unusedVariables false
set_option linter.unusedSimpArgs false
attribute [local irreducible] ACall PCall KL
/-- The words' table, in the heap. -/
structure WG (σ : Heap) (A : Nat → Prop) (q ver : Nat) (ws : List PV) (L : List (List Int)) : Prop where
  out : σ[q]? = some (.arr ver 23 1 ws)
  len : ws.length = L.length
  row : ∀ (i : Nat) (w : PV) (l : List Int), ws[i]? = some w → L[i]? = some l → Wd σ (fun id => A id ∨ id = q) w l
theorem WG.cell {σ : Heap} {A : Nat → Prop} {q ver : Nat} {ws : List PV} {L : List (List Int)} (h : WG σ A q ver ws L) {i : Nat} (hi : i < L.length) : ∃ w, ws[i]? = some w ∧ Wd σ (fun id => A id ∨ id = q) w L[i] := by
  have hw : i < ws.length := by rw [h.len]; exact hi
  exact ⟨ws[i], by simp [hw], h.row i _ _ (by simp [hw]) (by simp [hi])⟩
theorem WG.keep {σ σ' : Heap} {A : Nat → Prop} {q ver : Nat} {ws : List PV} {L : List (List Int)} (h : WG σ A q ver ws L) (hk : ∀ id, id < σ.length → ¬ A id → σ'[id]? = σ[id]?) (hq : ¬ A q) : WG σ' A q ver ws L where
  out := (hk q (List.getElem?_eq_some_iff.1 h.out).1 hq).trans h.out
  len := h.len
  row := fun i w m hw hm => (h.row i w m hw hm).keep fun id hid hA => ⟨hk id hid (fun h => hA (.inl h)), hA⟩
theorem WG.push {σ : Heap} {A : Nat → Prop} {q ver : Nat} {ws : List PV} {L : List (List Int)} (h : WG σ A q ver ws L) {l : List Int} {w : PV} (hw : Wd σ (fun id => A id ∨ id = q) w l) (hl : L.length ≤ 1000) {K : PV → Heap → Prop}
    (hK : WG (σ.set q (.arr (ver + 1) 23 1 (ws ++ [w]))) A q (ver + 1) (ws ++ [w]) (L ++ [l]) → K (.ref q (ver + 1) 0 (L.length + 1)) (σ.set q (.arr (ver + 1) 23 1 (ws ++ [w])))) :
    aApp 23 1 (.ref q ver 0 L.length) (.list [w]) σ K := by
  have hlt := (List.getElem?_eq_some_iff.1 h.out).1
  have hzl := h.len
  have hok : okL 1 [w] = True := by
    rcases hw with ⟨rfl, rfl⟩ | ⟨id, ver, rfl, _, _⟩ <;> simp [okL, PV.cs, PV.ok]
  have hset : ∀ id, id < σ.length → ¬ (A id ∨ id = q) → (σ.set q (.arr (ver + 1) 23 1 (ws ++ [w])))[id]? = σ[id]? ∧ ¬ (A id ∨ id = q) := fun id _ hA => by
    refine ⟨List.getElem?_set_ne ?_, hA⟩
    rintro rfl; exact hA (.inr rfl)
  have hQ : WG (σ.set q (.arr (ver + 1) 23 1 (ws ++ [w]))) A q (ver + 1) (ws ++ [w]) (L ++ [l]) := by
    refine ⟨List.getElem?_set_self hlt, by simp [h.len], fun i w' m hw' hm => ?_⟩
    rw [List.getElem?_append] at hw' hm
    split at hw'
    · rename_i hi
      rw [if_pos (by rw [← h.len]; exact hi)] at hm
      exact (h.row i w' m hw' hm).keep hset
    · rename_i hi
      rw [if_neg (by rw [← h.len]; exact hi)] at hm
      have e1 := List.mem_of_getElem? hw'
      have e2 := List.mem_of_getElem? hm
      simp only [List.mem_singleton] at e1 e2
      subst e1; subst e2
      exact hw.keep hset
  simp only [aApp_ref, h.out, AppR_arr, aNews_list, hok, true_and, AppM_def]
  rw [List.take_of_length_le (by omega)]
  exact ⟨⟨by omega, by simp; omega⟩, hK hQ⟩
end Go.Proofs.Ytpepbomifjbgnaa
