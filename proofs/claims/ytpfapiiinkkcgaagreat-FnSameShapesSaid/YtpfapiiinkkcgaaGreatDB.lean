/- The draws of maps. -/
import Derived.Test.YtpfapiiinkkcgaaGreatCb
import Derived.Test.YtpfapiiinkkcgaaGreatDA
import Derived.Test.YtpfapiiinkkcgaaGreatG3
import Derived.Test.YtpfapiiinkkcgaaGreatG1
namespace Go.Proofs.YtpfapiiinkkcgaaGreat
open Go.Kv
set_option maxRecDepth 100000
/- spec.l01DrawOrder -/
/- live [0, 1, 5, 6] -/
def k123_b0 : KC := (.seq (.seq (.ops [⟨(some 9), none, .mv (.t 6)⟩, ⟨(some 10), none, .mv (.t 1)⟩, ⟨(some 11), none, .bin .lss (.t 9) (.t 10)⟩])
  (.cond (.t 11) .skip (.exit 0)))
  (.seq (.block 1 (.seq (.ops [⟨(some 14), none, .mv (.t 0)⟩, ⟨(some 15), none, .mv (.t 6)⟩, ⟨(some 16), none, .bin .add (.t 15) (.c (.int .i64 1))⟩, ⟨(some 17), none, .call (.c (.fn (.func 124) [] [])) [(.t 14), (.t 16)]⟩, ⟨(some 7), none, .mv (.t 17)⟩])
  (.tree (.op ⟨(some 18), none, .mv (.t 5)⟩ (.op ⟨(some 19), none, .mv (.t 7)⟩ (.op ⟨(some 22), none, .mv (.t 6)⟩ (.op ⟨(some 25), none, .mv (.t 5)⟩ (.op ⟨(some 26), none, .mv (.t 7)⟩ (.alt (.op ⟨(some 20), none, .sls 1 (.t 18) none (some (.t 19))⟩ (.alt (.op ⟨(some 21), none, .call (.c (.fn (.func 141) [] [])) [(.t 20)]⟩ (.alt (.op ⟨(some 23), none, .bsl true 2 1 [(.t 22)]⟩ (.alt (.op ⟨(some 24), none, .app (.t 21) (.t 23) 2 1⟩ (.op ⟨(some 27), none, .sls 1 (.t 25) (some (.t 26)) none⟩ (.op ⟨(some 28), none, .app (.t 24) (.t 27) 2 1⟩ (.op ⟨(some 5), none, .mv (.t 28)⟩ .fin)))) (.op ⟨(some 27), none, .sls 1 (.t 25) (some (.t 26)) none⟩ (.op ⟨(some 24), none, .app (.t 21) (.t 23) 2 1⟩ (.op ⟨(some 28), none, .app (.t 24) (.t 27) 2 1⟩ (.op ⟨(some 5), none, .mv (.t 28)⟩ .fin)))))) (.op ⟨(some 27), none, .sls 1 (.t 25) (some (.t 26)) none⟩ (.op ⟨(some 23), none, .bsl true 2 1 [(.t 22)]⟩ (.op ⟨(some 24), none, .app (.t 21) (.t 23) 2 1⟩ (.op ⟨(some 28), none, .app (.t 24) (.t 27) 2 1⟩ (.op ⟨(some 5), none, .mv (.t 28)⟩ .fin))))))) (.alt (.op ⟨(some 23), none, .bsl true 2 1 [(.t 22)]⟩ (.alt (.op ⟨(some 21), none, .call (.c (.fn (.func 141) [] [])) [(.t 20)]⟩ (.alt (.op ⟨(some 24), none, .app (.t 21) (.t 23) 2 1⟩ (.op ⟨(some 27), none, .sls 1 (.t 25) (some (.t 26)) none⟩ (.op ⟨(some 28), none, .app (.t 24) (.t 27) 2 1⟩ (.op ⟨(some 5), none, .mv (.t 28)⟩ .fin)))) (.op ⟨(some 27), none, .sls 1 (.t 25) (some (.t 26)) none⟩ (.op ⟨(some 24), none, .app (.t 21) (.t 23) 2 1⟩ (.op ⟨(some 28), none, .app (.t 24) (.t 27) 2 1⟩ (.op ⟨(some 5), none, .mv (.t 28)⟩ .fin)))))) (.op ⟨(some 27), none, .sls 1 (.t 25) (some (.t 26)) none⟩ (.op ⟨(some 21), none, .call (.c (.fn (.func 141) [] [])) [(.t 20)]⟩ (.op ⟨(some 24), none, .app (.t 21) (.t 23) 2 1⟩ (.op ⟨(some 28), none, .app (.t 24) (.t 27) 2 1⟩ (.op ⟨(some 5), none, .mv (.t 28)⟩ .fin))))))) (.op ⟨(some 27), none, .sls 1 (.t 25) (some (.t 26)) none⟩ (.alt (.op ⟨(some 21), none, .call (.c (.fn (.func 141) [] [])) [(.t 20)]⟩ (.op ⟨(some 23), none, .bsl true 2 1 [(.t 22)]⟩ (.op ⟨(some 24), none, .app (.t 21) (.t 23) 2 1⟩ (.op ⟨(some 28), none, .app (.t 24) (.t 27) 2 1⟩ (.op ⟨(some 5), none, .mv (.t 28)⟩ .fin))))) (.op ⟨(some 23), none, .bsl true 2 1 [(.t 22)]⟩ (.op ⟨(some 21), none, .call (.c (.fn (.func 141) [] [])) [(.t 20)]⟩ (.op ⟨(some 24), none, .app (.t 21) (.t 23) 2 1⟩ (.op ⟨(some 28), none, .app (.t 24) (.t 27) 2 1⟩ (.op ⟨(some 5), none, .mv (.t 28)⟩ .fin)))))))))) (.alt (.op ⟨(some 23), none, .bsl true 2 1 [(.t 22)]⟩ (.alt (.op ⟨(some 20), none, .sls 1 (.t 18) none (some (.t 19))⟩ (.alt (.op ⟨(some 21), none, .call (.c (.fn (.func 141) [] [])) [(.t 20)]⟩ (.alt (.op ⟨(some 24), none, .app (.t 21) (.t 23) 2 1⟩ (.op ⟨(some 27), none, .sls 1 (.t 25) (some (.t 26)) none⟩ (.op ⟨(some 28), none, .app (.t 24) (.t 27) 2 1⟩ (.op ⟨(some 5), none, .mv (.t 28)⟩ .fin)))) (.op ⟨(some 27), none, .sls 1 (.t 25) (some (.t 26)) none⟩ (.op ⟨(some 24), none, .app (.t 21) (.t 23) 2 1⟩ (.op ⟨(some 28), none, .app (.t 24) (.t 27) 2 1⟩ (.op ⟨(some 5), none, .mv (.t 28)⟩ .fin)))))) (.op ⟨(some 27), none, .sls 1 (.t 25) (some (.t 26)) none⟩ (.op ⟨(some 21), none, .call (.c (.fn (.func 141) [] [])) [(.t 20)]⟩ (.op ⟨(some 24), none, .app (.t 21) (.t 23) 2 1⟩ (.op ⟨(some 28), none, .app (.t 24) (.t 27) 2 1⟩ (.op ⟨(some 5), none, .mv (.t 28)⟩ .fin))))))) (.op ⟨(some 27), none, .sls 1 (.t 25) (some (.t 26)) none⟩ (.op ⟨(some 20), none, .sls 1 (.t 18) none (some (.t 19))⟩ (.op ⟨(some 21), none, .call (.c (.fn (.func 141) [] [])) [(.t 20)]⟩ (.op ⟨(some 24), none, .app (.t 21) (.t 23) 2 1⟩ (.op ⟨(some 28), none, .app (.t 24) (.t 27) 2 1⟩ (.op ⟨(some 5), none, .mv (.t 28)⟩ .fin)))))))) (.op ⟨(some 27), none, .sls 1 (.t 25) (some (.t 26)) none⟩ (.alt (.op ⟨(some 20), none, .sls 1 (.t 18) none (some (.t 19))⟩ (.alt (.op ⟨(some 21), none, .call (.c (.fn (.func 141) [] [])) [(.t 20)]⟩ (.op ⟨(some 23), none, .bsl true 2 1 [(.t 22)]⟩ (.op ⟨(some 24), none, .app (.t 21) (.t 23) 2 1⟩ (.op ⟨(some 28), none, .app (.t 24) (.t 27) 2 1⟩ (.op ⟨(some 5), none, .mv (.t 28)⟩ .fin))))) (.op ⟨(some 23), none, .bsl true 2 1 [(.t 22)]⟩ (.op ⟨(some 21), none, .call (.c (.fn (.func 141) [] [])) [(.t 20)]⟩ (.op ⟨(some 24), none, .app (.t 21) (.t 23) 2 1⟩ (.op ⟨(some 28), none, .app (.t 24) (.t 27) 2 1⟩ (.op ⟨(some 5), none, .mv (.t 28)⟩ .fin))))))) (.op ⟨(some 23), none, .bsl true 2 1 [(.t 22)]⟩ (.op ⟨(some 20), none, .sls 1 (.t 18) none (some (.t 19))⟩ (.op ⟨(some 21), none, .call (.c (.fn (.func 141) [] [])) [(.t 20)]⟩ (.op ⟨(some 24), none, .app (.t 21) (.t 23) 2 1⟩ (.op ⟨(some 28), none, .app (.t 24) (.t 27) 2 1⟩ (.op ⟨(some 5), none, .mv (.t 28)⟩ .fin))))))))))))))))))
  (.ops [⟨(some 12), none, .mv (.t 6)⟩, ⟨(some 13), none, .bin .add (.t 12) (.c (.int .i64 1))⟩, ⟨(some 6), none, .mv (.t 13)⟩])))
def k123 : KC := (.seq (.ops [⟨(some 4), none, .mv (.c (.nils))⟩])
  (.seq (.ops [⟨(some 8), none, .bsl false 2 1 []⟩, ⟨(some 5), none, .mv (.t 8)⟩])
  (.seq (.seq (.ops [⟨(some 6), none, .mv (.c (.int .i64 0))⟩])
  (.block 0 (.loop k123_b0)))
  (.seq (.ops [⟨(some 29), none, .mv (.t 5)⟩, ⟨(some 4), none, .mv (.t 29)⟩])
  .ret))))
theorem e123 {args : List PV} {σ : Heap} {K : PV → Heap → Prop} (hl : args.length ≤ 30) (h : Wf σ → (∀ a ∈ args, PV.upto σ.length a) → vc (mkCfg Tryz.prog mixed [23] 30 σ.length) k123 (FinK σ.length [.t 4] K) (argEnv 0 args) σ) : ACall Tryz.prog 123 args σ K :=
  ACall_enter (C := mkCfg Tryz.prog mixed [23] 30 σ.length) (c := Tryz.f123.body.getD .skip) Tryz.func123 (by kernel_rfl) (by kernel_rfl) (by kernel_rfl) rfl hl (by kernel_rfl) (by kernel_rfl) h
end Go.Proofs.YtpfapiiinkkcgaaGreat
namespace Go.Proofs.YtpfapiiinkkcgaaGreat
open Go.Kv
set_option linter.unusedVariables false
set_option linter.unusedSimpArgs false
attribute [local irreducible] ACall PCall KL
theorem Src.keep {σ σ' : Heap} {b : Nat} {l : List Int} (h : Src σ b l) (hk : σ'[b]? = σ[b]?) : Src σ' b l := by
  obtain ⟨p, x, h, h2⟩ := h
  exact ⟨p, x, hk.trans h, h2⟩
theorem p123S {l : List Int} (hl : Byt l) {σ : Heap} {b : Nat} (hS : Src σ b l) (n : Nat) (hn : n ≤ 5) {K : PV → Heap → Prop}
    (hK : ∀ (L : List Int) id ver σ', L.length = n → ((∀ x ∈ L, 0 ≤ x ∧ x < n) ∧ L.Nodup) → Src σ' b l → Kept σ σ' b → σ.length ≤ id → σ'[id]? = some (.arr ver 2 1 (ints L)) → K (.ref id ver 0 n) σ') : ACall Tryz.prog 123 [.ptr b 0, .int .i64 n] σ K := by
  have hlt := hS.lt
  refine e123 (by simp) fun _ _ => ?_
  simp only [k123, argEnv, take6, List.drop_zero, Int.cast_ofNat_Int, go_sem, ↓reduceIte, Nat.reduceEqDiff, Nat.reduceAdd, Nat.reduceMul, Nat.reduceLeDiff, Nat.reduceLT, Int.reduceLE, Int.reduceLT, reduceCtorEq]
  refine KL_ind k123_b0.eq_1 (fun y : Nat × List Int × Nat × Nat × Heap => [(0, .ptr b 0), (1, .int .i64 n), (5, .ref y.2.2.1 y.2.2.2.1 0 y.1), (6, .int .i64 y.1)]) (fun y => y.2.2.2.2) (fun y => y.1 ≤ n ∧ y.2.1.length = y.1 ∧ ((∀ x ∈ y.2.1, 0 ≤ x ∧ x < y.1) ∧ y.2.1.Nodup) ∧ Src y.2.2.2.2 b l ∧ Kept σ y.2.2.2.2 b ∧ σ.length ≤ y.2.2.1 ∧ y.2.2.2.2[y.2.2.1]? = some (.arr y.2.2.2.1 2 1 (ints y.2.1))) (fun y => n - y.1) [0, 1, 5, 6] (0, [], σ.length, 0, σ ++ [.arr 0 2 1 []]) (by simp [keep]) rfl ⟨Nat.zero_le _, rfl, ⟨by simp, by simp⟩, hS.app _, Kept.app _ _ _, Nat.le_refl _, by simp; rfl⟩ fun ⟨k, L, id, ver, τ⟩ ⟨hk, hLl, ⟨hLx, hLn⟩, hS1, hKp, hid1, hid⟩ ih => ?_
  simp only at hk hLl hLx hLn hS1 hKp hid1 hid
  try simp only [OpK_eq, HKv, take6, List.drop_zero, Int.cast_ofNat_Int, go_sem, ↓reduceIte, Nat.reduceEqDiff, Nat.reduceAdd, Nat.reduceMul, Nat.reduceLeDiff, Nat.reduceLT, Int.reduceLE, Int.reduceLT, reduceCtorEq]
  refine ⟨fun h1 => ⟨by omega, ?_⟩, fun h1 => ?_⟩
  · refine p124 hl hS1 _ fun r τ' h2 h3 h4 h5 h6 => ?_
    have h3 := h3 (by omega)
    have hne : id ≠ b := by omega
    have hid2 := (h5.2 id (List.getElem?_eq_some_iff.1 hid).1 hne).trans hid
    have hlt2 := (List.getElem?_eq_some_iff.1 hid2).1
    have hap : ∀ X, (τ' ++ X)[id]? = some (.arr ver 2 1 (ints L)) := fun X => (List.getElem?_append_left hlt2).trans hid2
    try simp only [OpK_eq, HKv, hid2, hap, take6, List.drop_zero, Int.cast_ofNat_Int, go_sem, ↓reduceIte, Nat.reduceEqDiff, Nat.reduceAdd, Nat.reduceMul, Nat.reduceLeDiff, Nat.reduceLT, Int.reduceLE, Int.reduceLT, reduceCtorEq]
    have hr0 : ((k : Int) + 1) = ((k + 1 : Nat) : Int) := by omega
    have hrk : r.toNat ≤ k := by omega
    have hri : (r.toNat : Int) = r := by omega
    have hLk : L.length = k := hLl
    have htl : (L.take r.toNat).length = r.toNat := by rw [List.length_take]; omega
    have himm : Imm τ' (.ref id ver 0 (r.toNat - 0)) (.list (ints (L.take r.toNat))) := by
      refine Imm.refp (pre := []) (l := L.take r.toNat) (post := L.drop r.toNat) (by rw [List.nil_append, List.take_append_drop]; exact hid2) (by rw [htl]; rfl) rfl
    have hs0 : ∀ (x y : AObj), (τ' ++ [x]).set τ'.length y = τ' ++ [y] := fun x y => by
      rw [List.set_append_right _ _ (Nat.le_refl _)]; simp
    have ht0 : ∀ (x : AObj), (τ' ++ [x])[τ'.length]? = some x := fun x => by simp
    have e1 : List.take (r.toNat + 1) (List.take r.toNat (List.take r.toNat L) ++ [(k : Int)]) = L.take r.toNat ++ [(k : Int)] := by
      rw [List.take_take, Nat.min_self, List.take_of_length_le (by rw [List.length_append, htl]; exact Nat.le_refl _)]
    have e2 : List.take (k - r.toNat) (List.drop r.toNat L) = L.drop r.toNat := List.take_of_length_le (by rw [List.length_drop]; omega)
    have e3 : (L.take r.toNat ++ [(k : Int)]) ++ L.drop r.toNat = L.take r.toNat ++ (k : Int) :: L.drop r.toNat := by simp
    have e4 : r.toNat + 1 + (L.drop r.toNat).length = k + 1 := by rw [List.length_drop]; omega
    have hx2 : ∀ x ∈ L.take r.toNat ++ (k : Int) :: L.drop r.toNat, 0 ≤ x ∧ x < (k + 1 : Nat) := fun x hx => by
      rcases List.mem_append.1 hx with hx | hx
      · have := hLx x (List.mem_of_mem_take hx); omega
      · rcases List.mem_cons.1 hx with rfl | hx
        · omega
        · have := hLx x (List.mem_of_mem_drop hx); omega
    have hnd2 : (L.take r.toNat ++ (k : Int) :: L.drop r.toNat).Nodup := by
      refine List.perm_middle.nodup_iff.2 (List.nodup_cons.2 ⟨fun h => ?_, by rw [List.take_append_drop]; exact hLn⟩)
      rw [List.take_append_drop] at h
      have := hLx _ h; omega
    repeat' (first
      | omega
      | (rw [vT_alt]; refine ⟨?_, ?_⟩)
      | (refine ACall.lend (p141 (L.take r.toNat) (by rw [htl]; omega)) (.cons himm (.nil _)) fun v s hv => ?_
         obtain ⟨rfl, rfl⟩ := hv
         refine ⟨⟨free_ref _ _ _ _, Free.ints _ _ _ _⟩, ?_⟩)
      | (with_reducible refine And.intro ?_ ?_)
      | (simp only [OpK_eq, HKv, hid2, hap, hs0, ht0, htl, ren_ref, ren_arr, ren_ints, Nat.zero_add, List.map_cons, List.map_nil, take6, List.drop_zero, Int.cast_ofNat_Int, go_sem, ↓reduceIte, Nat.reduceEqDiff, Nat.reduceAdd, Nat.reduceMul, Nat.reduceLeDiff, Nat.reduceLT, Int.reduceLE, Int.reduceLT, reduceCtorEq]))
    all_goals (try (first | (show _ ≤ _; simp only [List.length_take, List.length_drop, List.length_append, List.length_singleton]; omega)))
    all_goals (rw [e1, e2, e3, e4])
    all_goals exact ih (k + 1, L.take r.toNat ++ (k : Int) :: L.drop r.toNat, τ'.length, 3, _) ⟨by show k + 1 ≤ n; omega, by show (L.take r.toNat ++ (k : Int) :: L.drop r.toNat).length = k + 1; rw [List.length_append, List.length_cons, List.length_drop, htl]; omega, ⟨hx2, hnd2⟩, h4.app _, (hKp.trans h5).trans (Kept.app _ _ _), by show σ.length ≤ τ'.length; have := hKp.1; omega, ht0 _⟩ (by show n - (k + 1) < n - k; omega) _ _ (by simp [keep]) rfl
  · obtain rfl : k = n := by omega
    exact Kv.Fin.now (hK L id ver τ hLl ⟨hLx, hLn⟩ hS1 hKp hid1 hid)
theorem p123 {l : List Int} (hl : Byt l) {σ : Heap} {b : Nat} (hS : Src σ b l) (n : Nat) (hn : n ≤ 5) {K : PV → Heap → Prop}
    (hK : ∀ (L : List Int) id ver σ', L.length = n → (∀ x ∈ L, 0 ≤ x ∧ x < n) → Src σ' b l → Kept σ σ' b → σ.length ≤ id → σ'[id]? = some (.arr ver 2 1 (ints L)) → K (.ref id ver 0 n) σ') : ACall Tryz.prog 123 [.ptr b 0, .int .i64 n] σ K :=
  p123S hl hS n hn fun L id ver σ' h1 h2 h3 h4 h5 h6 => hK L id ver σ' h1 h2.1 h3 h4 h5 h6
end Go.Proofs.YtpfapiiinkkcgaaGreat
