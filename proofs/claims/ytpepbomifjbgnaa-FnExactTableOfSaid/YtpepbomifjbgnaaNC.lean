/- newMonoid: a map is found: the list of the found and the words grow, in whatever order. -/
import Derived.Test.YtpepbomifjbgnaaNX
namespace Go.Proofs.Ytpepbomifjbgnaa
open Go.Kv
set_option linter.unusedVariables false
set_option linter.unusedSimpArgs false
attribute [local irreducible] ACall PCall KL
set_option maxHeartbeats 8000000 in
theorem nm_tree {R : List (List Nat)} {g : List Nat} {τ : Heap} {u1 u2 : Nat} {ws : List PV} {W : List (List Int)} {bb i k : Nat}
    (h1 : τ[1]? = some (.arr u1 59 6 (aggs (R.map mp)))) (hW : WG τ (fun id => id = 0 ∨ id = 1) 2 u2 ws W) (hWl : W.length = R.length) (hb : τ[bb]? = some (.box (ints (mp g)))) (hbb : 2 < bb) (h6g : (mp g).length = 6) (hRl : R.length < 300) (hi : i < R.length) (hk : k ≤ 1000) (hw : ∀ w ∈ W, w.length + 1 ≤ W.length)
    {Q : Exit → Env → Heap → Prop} {v0 v6 v37 v38 v39 : PV} {env : Env} (e0 : Kv.look env 0 = v0) (e6 : Kv.look env 6 = v6) (e7 : Kv.look env 7 = .ref 1 u1 0 R.length) (e8 : Kv.look env 8 = .ref 2 u2 0 W.length) (e9 : Kv.look env 9 = .int .i64 i) (e10 : Kv.look env 10 = .int .i64 k) (e12 : Kv.look env 12 = .ptr bb 0) (e37 : Kv.look env 37 = v37) (e38 : Kv.look env 38 = v38) (e39 : Kv.look env 39 = v39)
    (hQ : ∀ env' ρ w', keep [0, 6, 7, 8, 9, 12, 37, 38, 39] env' = [(0, v0), (6, v6), (7, .ref 1 (u1 + 1) 0 (R.length + 1)), (8, .ref 2 (u2 + 1) 0 (W.length + 1)), (9, .int .i64 i), (12, .ptr bb 0), (37, v37), (38, v38), (39, v39)] → ρ[1]? = some (.arr (u1 + 1) 59 6 (aggs ((R ++ [g]).map mp))) → WG ρ (fun id => id = 0 ∨ id = 1) 2 (u2 + 1) (ws ++ [w']) (W ++ [W.getD i [] ++ [(k : Int)]]) → (∀ id, id < τ.length → id ≠ 1 → id ≠ 2 → ρ[id]? = τ[id]?) → Q .normal env' ρ) :
    vT Try.prog k118_t0 Q env τ := by
  have hτ1 := (List.getElem?_eq_some_iff.1 h1).1
  have hτ2 := (List.getElem?_eq_some_iff.1 hW.out).1
  have hτb := (List.getElem?_eq_some_iff.1 hb).1
  obtain ⟨σ, hσ⟩ : ∃ σ, σ = τ.set 1 (.arr (u1 + 1) 59 6 (aggs ((R ++ [g]).map mp))) := ⟨_, rfl⟩
  have hl : σ.length = τ.length := by rw [hσ, List.length_set]
  have s1 : σ[1]? = some (.arr (u1 + 1) 59 6 (aggs ((R ++ [g]).map mp))) := by rw [hσ]; exact List.getElem?_set_self hτ1
  have sk : ∀ id, id ≠ 1 → σ[id]? = τ[id]? := fun id h => by rw [hσ, List.getElem?_set_ne (Ne.symm h)]
  have sb : σ[bb]? = some (.box (ints (mp g))) := by rw [sk bb (by omega)]; exact hb
  have hWs : WG σ (fun id => id = 0 ∨ id = 1) 2 u2 ws W := hW.keep (fun id _ hA => sk id fun e => hA (.inr e)) (by simp)
  have hWo := hW.out
  have hWso := hWs.out
  have hwl := hW.len
  obtain ⟨w, hwi, hWd⟩ := hWs.cell (i := i) (by omega)
  have hwcs := hWd.cs
  have hWi : W[i].length + 1 ≤ W.length := hw _ (List.getElem_mem _)
  have hgd : W.getD i [] = W[i] := by rw [List.getD_eq_getElem?_getD, List.getElem?_eq_getElem (by omega)]; rfl
  rw [hgd] at hQ
  clear hgd
  generalize W[i]'(by omega) = wi at hWd hWi hQ
  have t6 : List.take 6 (mp g) = mp g := take6 h6g
  have tR : List.take R.length (R.map mp) = R.map mp := List.take_of_length_le (by rw [List.length_map]; exact Nat.le_refl _)
  have tRg : R.map mp ++ [mp g] = (R ++ [g]).map mp := by simp
  have hilg : (ints (mp g)).length = 6 := by rw [ints_length, h6g]
  have hp1 : ∀ K : PV → Heap → Prop, K (.ref 1 (u1 + 1) 0 (R.length + 1)) σ → aApp 59 6 (.ref 1 u1 0 R.length) (.list [.agg (ints (mp g))]) τ K := fun K hK => by
    try simp only [h1, aggs_length, List.length_map, t6, tR, tRg, OpK_eq, HKv, h6g, take6, List.drop_zero, Int.cast_ofNat_Int, go_sem, ↓reduceIte, Nat.reduceEqDiff, Nat.reduceAdd, Nat.reduceMul, Nat.reduceLeDiff, Nat.reduceLT, Int.reduceLE, Int.reduceLT, reduceCtorEq]
    exact ⟨⟨Nat.le_refl _, by omega⟩, by rw [← hσ]; exact hK⟩
  have hpush : ∀ (c : AObj) (w' : PV), Wd (σ ++ [c]) (fun id => (id = 0 ∨ id = 1) ∨ id = 2) w' (wi ++ [(k : Int)]) → ∀ K' : PV → Heap → Prop,
      (∀ ρ, ρ[1]? = some (.arr (u1 + 1) 59 6 (aggs ((R ++ [g]).map mp))) → WG ρ (fun id => id = 0 ∨ id = 1) 2 (u2 + 1) (ws ++ [w']) (W ++ [wi ++ [(k : Int)]]) → (∀ id, id < τ.length → id ≠ 1 → id ≠ 2 → ρ[id]? = τ[id]?) → K' (.ref 2 (u2 + 1) 0 (W.length + 1)) ρ) →
      aApp 23 1 (.ref 2 u2 0 W.length) (.list [w']) (σ ++ [c]) K' := fun c w' hw' K' hK' => by
    have hG : WG (σ ++ [c]) (fun id => id = 0 ∨ id = 1) 2 u2 ws W := hWs.keep (fun id hid _ => List.getElem?_append_left hid) (by simp)
    refine hG.push hw' (by omega) fun hQ => hK' _ ?_ hQ fun id hid n1 n2 => ?_
    · rw [List.getElem?_set_ne (by decide), List.getElem?_append_left (by omega)]; exact s1
    · rw [List.getElem?_set_ne (Ne.symm n2), List.getElem?_append_left (by omega)]; exact sk id n1
  have hwd1 : Wd (σ ++ [.arr 2 2 1 (ints (wi ++ [(k : Int)]))]) (fun id => (id = 0 ∨ id = 1) ∨ id = 2) (.ref σ.length 2 0 (wi.length + 1)) (wi ++ [(k : Int)]) := by
    have e : wi.length + 1 = (wi ++ [(k : Int)]).length := by simp
    rw [e]
    exact .inr ⟨_, 2, rfl, by simp, fun h => by rcases h with (h | h) | h <;> omega⟩
  have hwd0 : wi = [] → Wd (σ ++ [.arr 0 2 1 [.int .i64 k]]) (fun id => (id = 0 ∨ id = 1) ∨ id = 2) (.ref σ.length 0 0 1) (wi ++ [(k : Int)]) := fun h0 => by
    rw [h0]
    exact .inr ⟨_, 0, rfl, by simp [ints], fun h => by rcases h with (h | h) | h <;> omega⟩
  have hgb : ∀ (s : Heap) (a : AObj), (s ++ [a])[s.length]? = some a := fun s a => by simp
  have hsb : ∀ (s : Heap) (a b : AObj), (s ++ [a]).set s.length b = s ++ [b] := fun s a b => by simp [List.set_append_right]
  have hpR : ∀ (c : AObj) (w' : PV), Wd (σ ++ [c]) (fun id => (id = 0 ∨ id = 1) ∨ id = 2) w' (wi ++ [(k : Int)]) → ∀ K' : PV → Heap → Prop,
      (∀ ρ, ρ[1]? = some (.arr (u1 + 1) 59 6 (aggs ((R ++ [g]).map mp))) → WG ρ (fun id => id = 0 ∨ id = 1) 2 (u2 + 1) (ws ++ [w']) (W ++ [wi ++ [(k : Int)]]) → (∀ id, id < τ.length → id ≠ 1 → id ≠ 2 → ρ[id]? = τ[id]?) → K' (.ref 2 (u2 + 1) 0 (W.length + 1)) ρ) →
      AppR 23 1 2 u2 0 W.length (.list [w']) (σ ++ [c]) K' (σ ++ [c])[2]? := fun c w' hw' K' hK' => by
    rw [← aApp_ref]
    exact hpush c w' hw' K' hK'
  have hld : ∀ P : PV → Prop, P w → (i < ws.length ∧ ∀ x, ws[i]? = some x → 0 < x.cs.length ∧ ∀ c, x.cs[0]? = some c → P c) := fun P hP => by
    refine ⟨by omega, fun x hx => ?_⟩
    rw [hwi] at hx; cases hx
    rw [hwcs.1]
    exact ⟨by simp, fun q hq => by simp only [List.getElem?_cons_zero, Option.some.injEq] at hq; subst hq; exact hP⟩
  generalize hv7 : PV.ref 1 u1 0 R.length = v7 at *
  unfold k118_t0
  repeat' (first
    | refine Eq.mpr (vT_alt _ _) ⟨?_, ?_⟩
    | refine hp1 _ ?_
    | refine hld _ ?_
    | (refine ⟨⟨by omega, by omega⟩, ?_⟩)
    | simp only [e7, e8, e9, e10, e12, hb, sb, hilg, h6g, t6, hWso, hWo, OpK_eq, HKv, take6, List.drop_zero, Int.cast_ofNat_Int, go_sem, ↓reduceIte, Nat.reduceEqDiff, Nat.reduceAdd, Nat.reduceMul, Nat.reduceLeDiff, Nat.reduceLT, Int.reduceLE, Int.reduceLT, reduceCtorEq])
  all_goals (refine ACall.lend (p132P wi (by omega)) (.cons hWd.imm (.nil _)) fun v s hv => ?_)
  all_goals (rcases hv with ⟨rfl, rfl⟩ | ⟨hl0, rfl, rfl⟩)
  all_goals (first | refine ⟨⟨free_ref _ _ _ _, Free.ints _ _ _ _⟩, ?_⟩ | refine ⟨⟨Plain.nils.fr, Free.nil⟩, ?_⟩)
  all_goals (try simp only [OpK_eq, HKv, ren_ref, ren_arr, ren_ints, Nat.zero_add, hgb, hsb, take6, List.drop_zero, Int.cast_ofNat_Int, go_sem, ↓reduceIte, Nat.reduceEqDiff, Nat.reduceAdd, Nat.reduceMul, Nat.reduceLeDiff, Nat.reduceLT, Int.reduceLE, Int.reduceLT, reduceCtorEq] )
  all_goals (first | refine ⟨⟨Nat.le_refl _, by omega⟩, hpR _ _ hwd1 _ fun ρ q1 q2 q3 => ?_⟩ | refine hpR _ _ (hwd0 hl0) _ fun ρ q1 q2 q3 => ?_)
  all_goals (try simp only [OpK_eq, HKv, take6, List.drop_zero, Int.cast_ofNat_Int, go_sem, ↓reduceIte, Nat.reduceEqDiff, Nat.reduceAdd, Nat.reduceMul, Nat.reduceLeDiff, Nat.reduceLT, Int.reduceLE, Int.reduceLT, reduceCtorEq] )
  all_goals exact hQ _ _ _ (by simp [keep, e0, e6, e9, e12, e37, e38, e39]) q1 q2 q3
end Go.Proofs.Ytpepbomifjbgnaa
