/- Lists of maps that grow; what is copied into an array. -/
import Derived.Test.YtpfapiiinkkcgaaGreatG3
namespace Go.Proofs.YtpfapiiinkkcgaaGreat
open Go.Kv
set_option linter.unusedVariables false
set_option linter.unusedSimpArgs false
variable {e : TypeId} {σ : Heap} {lo hi : Nat} {v : PV} {l : List (List Int)}
theorem OwnA.append (h : OwnA e σ 0 σ.length v l) (τ : Heap) : OwnA e (σ ++ τ) 0 (σ ++ τ).length v l := by
  cases h with
  | nil => exact .nil
  | own id ver l post h h6 h1 => exact .own id ver l post ((List.getElem?_append_left h1.2).trans h) h6 ⟨h1.1, by rw [List.length_append]; omega⟩
theorem Free.boxI (m : List Int) : Free [.box (ints m)] := fun o ho => by
  simp only [List.mem_singleton] at ho; subst ho
  intro c hc
  exact (Plain.ints m c hc).fr
theorem Free.set {σ : Heap} (h : Free σ) (i : Nat) {o : AObj} (ho : AObj.free o) : Free (σ.set i o) := fun p hp => by
  rcases List.mem_or_eq_of_mem_set hp with hp | rfl
  · exact h p hp
  · exact ho
theorem OwnA.push (h : OwnA e σ 0 σ.length v l) (hf : Free σ) (m : List Int) (hm : m.length = 6) (hn : l.length < 4294967296) {K : PV → Heap → Prop}
    (hK : ∀ v' σ', OwnA e σ' 0 σ'.length v' (l ++ [m]) → Free σ' → K v' σ') : aApp e 6 v (.list [.agg (ints m)]) σ K := by
  have hok : okL 6 [.agg (ints m)] = True := by
    have := okL_aggs 6 [m]
    simp only [List.mem_singleton, forall_eq, hm] at this
    simpa [aggs] using this
  cases h with
  | nil =>
    simp only [aApp_nils, aNews_list, hok, true_and, AppN_def]
    refine ⟨by simp, hK _ _ ?_ (hf.append (Free.aggs 0 e 6 [m]))⟩
    have := OwnA.own (e := e) (σ := σ ++ [AObj.arr 0 e 6 (aggs [m])]) (lo := 0) (hi := (σ ++ [AObj.arr 0 e 6 (aggs [m])]).length) σ.length 0 [m] [] (by simp) (by simpa using hm) ⟨Nat.zero_le _, by simp⟩
    exact this
  | own id ver l post h h6 h1 =>
    simp only [aApp_ref, h, AppR_arr, aNews_list, hok, true_and, AppM_def]
    have e1 : (aggs (l ++ post)).take l.length ++ [PV.agg (ints m)] = aggs (l ++ [m]) := by
      rw [aggs_take, List.take_left']
      · simp [aggs]
      · rfl
    rw [e1]
    refine ⟨⟨by simp [aggs_length], by simp; omega⟩, hK _ _ ?_ (Free.set hf id (free_aggs _))⟩
    have := OwnA.own (e := e) (σ := σ.set id (AObj.arr (ver + 1) e 6 (aggs (l ++ [m])))) (lo := 0) (hi := (σ.set id (AObj.arr (ver + 1) e 6 (aggs (l ++ [m])))).length) id (ver + 1) (l ++ [m]) [] (by rw [List.append_nil]; exact List.getElem?_set_self h1.2) (fun r hr => by
      rcases List.mem_append.1 hr with hr | hr
      · exact h6 r hr
      · simp only [List.mem_singleton] at hr; rw [hr]; exact hm) ⟨Nat.zero_le _, by simpa using h1.2⟩
    simpa using this
theorem putC_map (n : Int) (l : List Nat) (hl : l.length ≤ 5) : putC (ints [n, 0, 0, 0, 0, 0]) 1 (ints (l.map fun x : Nat => (x : Int))) = ints (mpN n l) := by
  rw [putC_ints _ _ _ (by simp; omega)]
  congr 1
  simp only [List.length_map, mpN]
  have e : [n, 0, 0, 0, 0, 0] = n :: List.replicate 5 (0 : Int) := rfl
  rw [e]
  simp only [List.take_succ_cons, List.take_zero, List.cons_append, List.nil_append]
  rw [show 1 + l.length = l.length + 1 by omega, List.drop_succ_cons, List.drop_replicate]
theorem putC_map' (n : Int) (l : List Nat) (hl : l.length ≤ 5) : putC [.int .i64 n, .int .i64 0, .int .i64 0, .int .i64 0, .int .i64 0, .int .i64 0] 1 (ints ((l.map fun x : Nat => (x : Int)).take 5)) = ints (mpN n l) := by
  rw [List.take_of_length_le (by simpa using hl)]
  exact putC_map n l hl
end Go.Proofs.YtpfapiiinkkcgaaGreat
