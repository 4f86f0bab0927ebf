/- The draws of lists of maps that may be spoilt. -/
import Derived.Test.YtodmbkceindakaaGreatCb
import Derived.Test.YtodmbkceindakaaGreatDE
namespace Go.Proofs.YtodmbkceindakaaGreat
open Go.Kv
set_option maxRecDepth 100000
/- spec.l01Lists -/
def k62 : KC := (.seq (.ops [⟨(some 2), none, .mv (.c (.nils))⟩])
  (.seq (.ops [⟨(some 3), none, .mv (.t 0)⟩, ⟨(some 4), none, .mv (.t 0)⟩, ⟨(some 5), none, .bsl false 2 1 [(.c (.int .i64 1)), (.c (.int .i64 2)), (.c (.int .i64 2)), (.c (.int .i64 3)), (.c (.int .i64 3)), (.c (.int .i64 3)), (.c (.int .i64 4)), (.c (.int .i64 4)), (.c (.int .i64 5))]⟩, ⟨(some 6), none, .call (.c (.fn (.func 38) [] [])) [(.t 4), (.t 5)]⟩, ⟨(some 7), none, .call (.c (.fn (.func 46) [] [])) [(.t 3), (.t 6)]⟩, ⟨(some 2), none, .mv (.t 7)⟩])
  .ret))
theorem e62 {args : List PV} {σ : Heap} {K : PV → Heap → Prop} (hl : args.length ≤ 8) (h : Wf σ → (∀ a ∈ args, PV.upto σ.length a) → vc (mkCfg Tryz.prog mixed [] 8 σ.length) k62 (FinK σ.length [.t 2] K) (argEnv 0 args) σ) : ACall Tryz.prog 62 args σ K :=
  ACall_enter (C := mkCfg Tryz.prog mixed [] 8 σ.length) (c := Tryz.f62.body.getD .skip) Tryz.func62 (by kernel_rfl) (by kernel_rfl) (by kernel_rfl) rfl hl (by kernel_rfl) (by kernel_rfl) h
/- spec.l01BadList -/
/- live [1, 5] -/
def k61_b0 : KC := (.seq (.seq (.ops [⟨(some 23), none, .mv (.t 5)⟩, ⟨(some 24), none, .len false (.t 23)⟩, ⟨(some 25), none, .bin .leq (.t 24) (.c (.int .i64 6))⟩])
  (.cond (.t 25) .skip (.exit 1)))
  (.block 2 (.ops [⟨(some 26), none, .mv (.t 5)⟩, ⟨(some 27), none, .mv (.t 1)⟩, ⟨(some 28), none, .idxS 6 (.t 27) (.c (.int .i64 0))⟩, ⟨(some 29), none, .load true 6 (.t 28)⟩, ⟨(some 30), none, .bsl true 41 6 [(.t 29)]⟩, ⟨(some 31), none, .app (.t 26) (.t 30) 41 6⟩, ⟨(some 5), none, .mv (.t 31)⟩])))
def k61 : KC := (.seq (.ops [⟨(some 4), none, .mv (.c (.nils))⟩])
  (.seq (.ops [⟨(some 6), none, .bsl false 41 6 []⟩, ⟨(some 7), none, .mv (.t 1)⟩, ⟨(some 8), none, .app (.t 6) (.t 7) 41 6⟩, ⟨(some 5), none, .mv (.t 8)⟩])
  (.seq (.seq (.ops [⟨(some 9), none, .mv (.t 0)⟩, ⟨(some 10), none, .call (.c (.fn (.func 37) [] [])) [(.t 9), (.c (.int .i64 40))]⟩])
  (.block 0 (.seq (.ops [⟨(some 12), none, .bin .eql (.t 10) (.c (.int .i64 0))⟩, ⟨(some 11), none, .mv (.t 12)⟩])
  (.cond (.t 11) (.seq (.ops [⟨(some 13), none, .bsl false 41 6 []⟩, ⟨(some 4), none, .mv (.t 13)⟩])
  .ret) (.seq (.ops [⟨(some 15), none, .bin .eql (.t 10) (.c (.int .i64 1))⟩, ⟨(some 14), none, .mv (.t 15)⟩])
  (.cond (.t 14) (.seq (.ops [⟨(some 16), none, .mv (.t 5)⟩, ⟨(some 17), none, .mv (.t 0)⟩, ⟨(some 18), none, .call (.c (.fn (.func 72) [] [])) [(.t 17)]⟩, ⟨(some 19), none, .bsl true 41 6 [(.t 18)]⟩, ⟨(some 20), none, .app (.t 16) (.t 19) 41 6⟩, ⟨(some 4), none, .mv (.t 20)⟩])
  .ret) (.seq (.ops [⟨(some 22), none, .bin .eql (.t 10) (.c (.int .i64 2))⟩, ⟨(some 21), none, .mv (.t 22)⟩])
  (.cond (.t 21) (.seq (.block 1 (.loop k61_b0))
  (.seq (.ops [⟨(some 32), none, .mv (.t 5)⟩, ⟨(some 4), none, .mv (.t 32)⟩])
  .ret)) (.seq (.ops [⟨(some 34), none, .bin .eql (.t 10) (.c (.int .i64 3))⟩, ⟨(some 33), none, .mv (.t 34)⟩])
  (.cond (.t 33) (.seq (.tree (.op ⟨(some 35), none, .mv (.t 5)⟩ (.op ⟨(some 36), none, .mv (.t 0)⟩ (.op ⟨(some 37), none, .mv (.t 5)⟩ (.op ⟨(some 40), none, .mv (.t 0)⟩ (.op ⟨(some 41), none, .mv (.t 1)⟩ (.alt (.op ⟨(some 38), none, .len false (.t 37)⟩ (.alt (.op ⟨(some 39), none, .call (.c (.fn (.func 37) [] [])) [(.t 36), (.t 38)]⟩ (.op ⟨(some 42), none, .idxS 6 (.t 41) (.c (.int .i64 0))⟩ (.op ⟨(some 43), none, .load true 6 (.t 42)⟩ (.op ⟨(some 44), none, .call (.c (.fn (.func 73) [] [])) [(.t 40), (.t 43)]⟩ (.op ⟨(some 45), none, .idxS 6 (.t 35) (.t 39)⟩ (.op ⟨none, none, .store 6 (.t 45) (.t 44)⟩ .fin)))))) (.op ⟨(some 42), none, .idxS 6 (.t 41) (.c (.int .i64 0))⟩ (.alt (.op ⟨(some 39), none, .call (.c (.fn (.func 37) [] [])) [(.t 36), (.t 38)]⟩ (.op ⟨(some 43), none, .load true 6 (.t 42)⟩ (.op ⟨(some 44), none, .call (.c (.fn (.func 73) [] [])) [(.t 40), (.t 43)]⟩ (.op ⟨(some 45), none, .idxS 6 (.t 35) (.t 39)⟩ (.op ⟨none, none, .store 6 (.t 45) (.t 44)⟩ .fin))))) (.op ⟨(some 43), none, .load true 6 (.t 42)⟩ (.op ⟨(some 39), none, .call (.c (.fn (.func 37) [] [])) [(.t 36), (.t 38)]⟩ (.op ⟨(some 44), none, .call (.c (.fn (.func 73) [] [])) [(.t 40), (.t 43)]⟩ (.op ⟨(some 45), none, .idxS 6 (.t 35) (.t 39)⟩ (.op ⟨none, none, .store 6 (.t 45) (.t 44)⟩ .fin))))))))) (.op ⟨(some 42), none, .idxS 6 (.t 41) (.c (.int .i64 0))⟩ (.alt (.op ⟨(some 38), none, .len false (.t 37)⟩ (.alt (.op ⟨(some 39), none, .call (.c (.fn (.func 37) [] [])) [(.t 36), (.t 38)]⟩ (.op ⟨(some 43), none, .load true 6 (.t 42)⟩ (.op ⟨(some 44), none, .call (.c (.fn (.func 73) [] [])) [(.t 40), (.t 43)]⟩ (.op ⟨(some 45), none, .idxS 6 (.t 35) (.t 39)⟩ (.op ⟨none, none, .store 6 (.t 45) (.t 44)⟩ .fin))))) (.op ⟨(some 43), none, .load true 6 (.t 42)⟩ (.op ⟨(some 39), none, .call (.c (.fn (.func 37) [] [])) [(.t 36), (.t 38)]⟩ (.op ⟨(some 44), none, .call (.c (.fn (.func 73) [] [])) [(.t 40), (.t 43)]⟩ (.op ⟨(some 45), none, .idxS 6 (.t 35) (.t 39)⟩ (.op ⟨none, none, .store 6 (.t 45) (.t 44)⟩ .fin))))))) (.op ⟨(some 43), none, .load true 6 (.t 42)⟩ (.op ⟨(some 38), none, .len false (.t 37)⟩ (.op ⟨(some 39), none, .call (.c (.fn (.func 37) [] [])) [(.t 36), (.t 38)]⟩ (.op ⟨(some 44), none, .call (.c (.fn (.func 73) [] [])) [(.t 40), (.t 43)]⟩ (.op ⟨(some 45), none, .idxS 6 (.t 35) (.t 39)⟩ (.op ⟨none, none, .store 6 (.t 45) (.t 44)⟩ .fin)))))))))))))))
  (.seq (.ops [⟨(some 46), none, .mv (.t 5)⟩, ⟨(some 4), none, .mv (.t 46)⟩])
  .ret)) .skip))))))))))
  (.seq (.ops [⟨(some 47), none, .mv (.t 1)⟩, ⟨(some 4), none, .mv (.t 47)⟩])
  .ret))))
theorem e61 {args : List PV} {σ : Heap} {K : PV → Heap → Prop} (hl : args.length ≤ 48) (h : Wf σ → (∀ a ∈ args, PV.upto σ.length a) → vc (mkCfg Tryz.prog mixed [19, 30, 1000000] 48 σ.length) k61 (FinK σ.length [.t 4] K) (argEnv 0 args) σ) : ACall Tryz.prog 61 args σ K :=
  ACall_enter (C := mkCfg Tryz.prog mixed [19, 30, 1000000] 48 σ.length) (c := Tryz.f61.body.getD .skip) Tryz.func61 (by kernel_rfl) (by kernel_rfl) (by kernel_rfl) rfl hl (by kernel_rfl) (by kernel_rfl) h
/- spec.l02Draw -/
def k45 : KC := (.seq (.ops [⟨(some 2), none, .mv (.c (.nils))⟩])
  (.seq (.ops [⟨(some 3), none, .mv (.t 0)⟩, ⟨(some 4), none, .mv (.t 0)⟩, ⟨(some 5), none, .call (.c (.fn (.func 62) [] [])) [(.t 4)]⟩, ⟨(some 6), none, .call (.c (.fn (.func 61) [] [])) [(.t 3), (.t 5)]⟩, ⟨(some 2), none, .mv (.t 6)⟩])
  .ret))
theorem e45 {args : List PV} {σ : Heap} {K : PV → Heap → Prop} (hl : args.length ≤ 7) (h : Wf σ → (∀ a ∈ args, PV.upto σ.length a) → vc (mkCfg Tryz.prog mixed [] 7 σ.length) k45 (FinK σ.length [.t 2] K) (argEnv 0 args) σ) : ACall Tryz.prog 45 args σ K :=
  ACall_enter (C := mkCfg Tryz.prog mixed [] 7 σ.length) (c := Tryz.f45.body.getD .skip) Tryz.func45 (by kernel_rfl) (by kernel_rfl) (by kernel_rfl) rfl hl (by kernel_rfl) (by kernel_rfl) h
/- spec.l10Draw -/
def k27 : KC := (.seq (.ops [⟨(some 2), none, .mv (.c (.nils))⟩])
  (.seq (.seq (.ops [⟨(some 3), none, .mv (.t 0)⟩, ⟨(some 4), none, .call (.c (.fn (.func 37) [] [])) [(.t 3), (.c (.int .i64 8))]⟩, ⟨(some 5), none, .bin .eql (.t 4) (.c (.int .i64 0))⟩])
  (.cond (.t 5) (.seq (.ops [⟨(some 6), none, .mv (.t 0)⟩, ⟨(some 7), none, .call (.c (.fn (.func 45) [] [])) [(.t 6)]⟩, ⟨(some 2), none, .mv (.t 7)⟩])
  .ret) .skip))
  (.seq (.ops [⟨(some 8), none, .mv (.t 0)⟩, ⟨(some 9), none, .mv (.t 0)⟩, ⟨(some 10), none, .bsl false 2 1 [(.c (.int .i64 2)), (.c (.int .i64 3)), (.c (.int .i64 4)), (.c (.int .i64 4)), (.c (.int .i64 5)), (.c (.int .i64 5))]⟩, ⟨(some 11), none, .call (.c (.fn (.func 38) [] [])) [(.t 9), (.t 10)]⟩, ⟨(some 12), none, .call (.c (.fn (.func 46) [] [])) [(.t 8), (.t 11)]⟩, ⟨(some 2), none, .mv (.t 12)⟩])
  .ret)))
theorem e27 {args : List PV} {σ : Heap} {K : PV → Heap → Prop} (hl : args.length ≤ 13) (h : Wf σ → (∀ a ∈ args, PV.upto σ.length a) → vc (mkCfg Tryz.prog mixed [] 13 σ.length) k27 (FinK σ.length [.t 2] K) (argEnv 0 args) σ) : ACall Tryz.prog 27 args σ K :=
  ACall_enter (C := mkCfg Tryz.prog mixed [] 13 σ.length) (c := Tryz.f27.body.getD .skip) Tryz.func27 (by kernel_rfl) (by kernel_rfl) (by kernel_rfl) rfl hl (by kernel_rfl) (by kernel_rfl) h
end Go.Proofs.YtodmbkceindakaaGreat
namespace Go.Proofs.YtodmbkceindakaaGreat
open Go.Kv
set_option linter.unusedVariables false
set_option linter.unusedSimpArgs false
attribute [local irreducible] ACall PCall KL
theorem p62 {l : List Int} (hl : Byt l) {σ : Heap} {b : Nat} (hS : Src σ b l) {K : PV → Heap → Prop}
    (hK : ∀ (t : List (List Int)) σ', 1 ≤ t.length → t.length ≤ 6 → Mps t → Src σ' b l → Kept σ σ' b → K (.list (aggs t)) σ') : ACall Tryz.prog 62 [.ptr b 0] σ K := by
  have hlt := hS.lt
  refine e62 (by simp) fun _ _ => ?_
  simp only [k62, argEnv, take6, List.drop_zero, Int.cast_ofNat_Int, go_sem, ↓reduceIte, Nat.reduceEqDiff, Nat.reduceAdd, Nat.reduceMul, Nat.reduceLeDiff, Nat.reduceLT, Int.reduceLE, Int.reduceLT, reduceCtorEq]
  try simp only [OpK_eq, HKv, take6, List.drop_zero, Int.cast_ofNat_Int, go_sem, ↓reduceIte, Nat.reduceEqDiff, Nat.reduceAdd, Nat.reduceMul, Nat.reduceLeDiff, Nat.reduceLT, Int.reduceLE, Int.reduceLT, reduceCtorEq]
  refine p38 hl (hS.app _) [1, 2, 2, 3, 3, 3, 4, 4, 5] (by simp) (id := σ.length) (ver := 0) (e := 2) (by simp [ints]) (by omega) 9 rfl fun r τ h2 h4 h5 h6 => ?_
  have hr : ∃ n : Nat, r = n ∧ 1 ≤ n ∧ n ≤ 5 := by
    simp only [List.mem_cons, List.not_mem_nil, or_false] at h2
    exact ⟨r.toNat, by omega, by omega, by omega⟩
  obtain ⟨n, rfl, hn1, hn5⟩ := hr
  have hk1 : Kept σ τ b := (Kept.app _ _ _).trans h5
  try simp only [OpK_eq, HKv, take6, List.drop_zero, Int.cast_ofNat_Int, go_sem, ↓reduceIte, Nat.reduceEqDiff, Nat.reduceAdd, Nat.reduceMul, Nat.reduceLeDiff, Nat.reduceLT, Int.reduceLE, Int.reduceLT, reduceCtorEq]
  refine p46 hl h4 n hn1 hn5 fun t ρ q1 q2 q3 q4 q5 => ?_
  try simp only [OpK_eq, HKv, take6, List.drop_zero, Int.cast_ofNat_Int, go_sem, ↓reduceIte, Nat.reduceEqDiff, Nat.reduceAdd, Nat.reduceMul, Nat.reduceLeDiff, Nat.reduceLT, Int.reduceLE, Int.reduceLT, reduceCtorEq]
  exact Kv.Fin.now (hK t _ q1 q2 q3 q4 (hk1.trans q5))
/-- A list of maps of one's own, beside the source. -/
structure LT (σ τ : Heap) (b : Nat) (l : List Int) (t : List (List Int)) : Prop where
  src : Src τ b l
  kept : Kept σ τ b
  arr : τ[σ.length]? = some (.arr 1 41 6 (aggs t))
  lt : b < σ.length
theorem LT.step {σ τ τ' : Heap} {b : Nat} {l : List Int} {t : List (List Int)} (h : LT σ τ b l t) (hS : Src τ' b l) (hK : Kept τ τ' b) : LT σ τ' b l t :=
  have h3 := h.lt
  ⟨hS, h.kept.trans hK, (hK.2 _ (List.getElem?_eq_some_iff.1 h.arr).1 (by omega)).trans h.arr, h.lt⟩
theorem nextL {l : List Int} (hl : Byt l) {σ ρ : Heap} {b : Nat} {t : List (List Int)} (h : LT σ ρ b l t) (n : Int) {K : PV → Heap → Prop} (hK : ∀ (r : Int) ρ', 0 ≤ r → (1 ≤ n → r < n) → LT σ ρ' b l t → K (.int .i64 r) ρ') : ACall Tryz.prog 37 [.ptr b 0, .int .i64 n] ρ K :=
  p37 hl h.src n fun r ρ' h1 h2 h3 h4 _ => hK r ρ' h1 h2 (h.step h3 h4)
theorem badL {l : List Int} (hl : Byt l) {σ ρ : Heap} {b : Nat} {t : List (List Int)} (h : LT σ ρ b l t) {f : List Int} (h6 : f.length = 6) (hp : 0 ≤ f.getD 0 0 ∧ f.getD 0 0 ≤ 5) {K : PV → Heap → Prop} (hK : ∀ (m : List Int) ρ', m.length = 6 → LT σ ρ' b l t → K (.agg (ints m)) ρ') : ACall Tryz.prog 73 [.ptr b 0, .agg (ints f)] ρ K :=
  p73 hl h.src f h6 hp fun m ρ' h1 h2 h3 => hK m ρ' h1 (h.step h2 h3)
theorem p61 {l : List Int} (hl : Byt l) {σ : Heap} {b : Nat} (hS : Src σ b l) (t : List (List Int)) (h1 : 1 ≤ t.length) (h6 : t.length ≤ 6) (ht : Mps t) {K : PV → Heap → Prop}
    (hK : ∀ (t' : List (List Int)) σ', t'.length ≤ 7 → Mp6 t' → Src σ' b l → Kept σ σ' b → K (.list (aggs t')) σ') : ACall Tryz.prog 61 [.ptr b 0, .list (aggs t)] σ K := by
  have hlt := hS.lt
  have ht6 : ∀ r ∈ t, r.length = 6 := fun r hr => (ht r hr).1
  have hgb : ∀ (s : Heap) (a : AObj), (s ++ [a])[s.length]? = some a := fun s a => by simp
  have hsb : ∀ (s : Heap) (a b : AObj), (s ++ [a]).set s.length b = s ++ [b] := fun s a b => by simp [List.set_append_right]
  refine e61 (by simp) fun _ _ => ?_
  simp only [k61, argEnv, take6, List.drop_zero, Int.cast_ofNat_Int, go_sem, ↓reduceIte, Nat.reduceEqDiff, Nat.reduceAdd, Nat.reduceMul, Nat.reduceLeDiff, Nat.reduceLT, Int.reduceLE, Int.reduceLT, reduceCtorEq]
  try simp only [OpK_eq, HKv, hgb, hsb, take6, List.drop_zero, Int.cast_ofNat_Int, go_sem, ↓reduceIte, Nat.reduceEqDiff, Nat.reduceAdd, Nat.reduceMul, Nat.reduceLeDiff, Nat.reduceLT, Int.reduceLE, Int.reduceLT, reduceCtorEq]
  refine ⟨by rw [okL_aggs]; exact ht6, by omega, ?_⟩
  refine p37 hl (hS.app _) _ fun r τ h2 h3 h4 h5 h7 => ?_
  have h3 := h3 (by omega)
  have ho : τ[σ.length]? = some (.arr 1 41 6 (aggs t)) := by
    rw [h5.2 _ (by simp) (by omega)]; simp
  have hk1 : Kept σ τ b := (Kept.app _ _ _).trans h5
  have hol := (List.getElem?_eq_some_iff.1 ho).1
  clear h5 h7
  try simp only [OpK_eq, HKv, take6, List.drop_zero, Int.cast_ofNat_Int, go_sem, ↓reduceIte, Nat.reduceEqDiff, Nat.reduceAdd, Nat.reduceMul, Nat.reduceLeDiff, Nat.reduceLT, Int.reduceLE, Int.reduceLT, reduceCtorEq]
  refine ⟨fun _ => ?_, fun _ => ⟨fun _ => ?_, fun _ => ⟨fun _ => ?_, fun _ => ⟨fun _ => ?_, fun _ => ?_⟩⟩⟩⟩
  · have hid : (τ ++ [AObj.arr 0 41 6 []])[τ.length]? = some (.arr 0 41 6 (aggs [])) := by simp [aggs]
    exact Kv.Fin.giveAt hid (.inl (Imm.refa (solo_get hid))) (hK [] _ (by simp) (fun r hr => by cases hr) ((h4.app _).set2 (by omega) _) ((hk1.trans (Kept.app _ _ _)).set2 (by omega) _))
  · refine p72 hl h4 fun m ρ q1 q2 q3 => ?_
    have ho2 : ρ[σ.length]? = some (.arr 1 41 6 (aggs t)) := (q3.2 _ hol (by omega)).trans ho
    have hol2 := (List.getElem?_eq_some_iff.1 ho2).1
    have hok := ok6 q1
    try simp only [OpK_eq, HKv, ho2, hok, take_aggs, aggs_length, take6, List.drop_zero, Int.cast_ofNat_Int, go_sem, ↓reduceIte, Nat.reduceEqDiff, Nat.reduceAdd, Nat.reduceMul, Nat.reduceLeDiff, Nat.reduceLT, Int.reduceLE, Int.reduceLT, reduceCtorEq]
    refine ⟨⟨by omega, by omega⟩, ?_⟩
    have hid : (ρ.set σ.length (.arr 2 41 6 (aggs (t ++ [m]))))[σ.length]? = some (.arr 2 41 6 (aggs (t ++ [m]))) := List.getElem?_set_self hol2
    have hl7 : t.length + 1 = (t ++ [m]).length := by simp
    rw [hl7]
    exact Kv.Fin.giveAt hid (.inl (Imm.refa (solo_get hid))) (hK (t ++ [m]) _ (by simp; omega) (fun r hr => by
      rcases List.mem_append.1 hr with hr | hr
      · exact ht6 r hr
      · simp only [List.mem_singleton] at hr; rw [hr]; exact q1) ((q2.set2 (by omega) _).set2 (by omega) _) (((hk1.trans q3).set2 (by omega) _).set2 (by omega) _))
  · refine KL_ind k61_b0.eq_1 (fun y : List (List Int) × Nat × Heap => [(1, .list (aggs t)), (5, .ref σ.length y.2.1 0 y.1.length)]) (fun y => y.2.2) (fun y => y.1.length ≤ 7 ∧ Mp6 y.1 ∧ y.2.2[σ.length]? = some (.arr y.2.1 41 6 (aggs y.1)) ∧ Src y.2.2 b l ∧ Kept σ y.2.2 b) (fun y => 7 - y.1.length) [1, 5] (t, 1, τ) (by simp [keep]) rfl ⟨by show t.length ≤ 7; omega, ht6, ho, h4, hk1⟩ fun ⟨t2, ver, ρ⟩ ⟨s1, s2, s3, s4, s5⟩ ih => ?_
    simp only at s1 s2 s3 s4 s5
    have h0 : t[0]? = some (t.getD 0 []) := by
      rw [List.getD_eq_getElem?_getD, List.getElem?_eq_getElem (by omega)]; rfl
    have h06 : (t.getD 0 []).length = 6 := ht6 _ (List.mem_of_getElem? h0)
    have hok := ok6 h06
    have hol3 := (List.getElem?_eq_some_iff.1 s3).1
    try simp only [OpK_eq, HKv, s3, hok, take_aggs, aggs_length, h06, take6, List.drop_zero, Int.cast_ofNat_Int, go_sem, ↓reduceIte, Nat.reduceEqDiff, Nat.reduceAdd, Nat.reduceMul, Nat.reduceLeDiff, Nat.reduceLT, Int.reduceLE, Int.reduceLT, reduceCtorEq]
    refine ⟨fun g1 => ?_, fun g1 => ?_⟩
    · refine ⟨by omega, fun _ => ⟨⟨by omega, by omega⟩, ih (t2 ++ [t.getD 0 []], ver + 1, _) ⟨by show (t2 ++ [t.getD 0 []]).length ≤ 7; simp; omega, fun r hr => ?_, List.getElem?_set_self hol3, s4.set2 (by omega) _, s5.set2 (Nat.le_refl _) _⟩ (by show 7 - (t2 ++ [t.getD 0 []]).length < 7 - t2.length; simp; omega) _ _ (by simp [keep]) rfl⟩⟩
      rcases List.mem_append.1 hr with hr | hr
      · exact s2 r hr
      · simp only [List.mem_singleton] at hr; rw [hr]; exact h06
    · exact Kv.Fin.giveAt s3 (.inl (Imm.refa (solo_get s3))) (hK t2 _ s1 s2 (s4.set2 (by omega) _) (s5.set2 (by omega) _))
  · have hL : LT σ τ b l t := ⟨h4, hk1, ho, hlt⟩
    have hc : ∀ ρ, LT σ ρ b l t → ρ[σ.length]? = some (.arr 1 41 6 (aggs t)) := fun ρ h => h.arr
    have h0 : t[0]? = some (t.getD 0 []) := by
      rw [List.getD_eq_getElem?_getD, List.getElem?_eq_getElem (by omega)]; rfl
    have h06 := ht _ (List.mem_of_getElem? h0)
    have h066 := h06.1
    have hil0 : (ints (t.getD 0 [])).length = 6 := by rw [ints_length, h066]
    have hs6 : subC (ints (t.getD 0 [])) 0 6 = ints (t.getD 0 []) := sub6 hil0
    have ht66 : List.take 6 (t.getD 0 []) = t.getD 0 [] := take6 h066
    have hg6 : ∀ i : Nat, i < t.length → (t.getD i []).length = 6 := fun i hi => by
      rw [List.getD_eq_getElem?_getD, List.getElem?_eq_getElem hi]
      exact ht6 _ (List.getElem_mem hi)
    have hlen : ∀ i : Nat, i < t.length → 6 ≤ (t.getD i []).length := fun i hi => by rw [hg6 i hi]; exact Nat.le_refl _
    have hfin : ∀ (i : Nat) (m : List Int) ρ, i < t.length → m.length = 6 → LT σ ρ b l t → Kv.Fin σ.length K (.ref σ.length 1 0 t.length) (ρ.set σ.length (.arr 1 41 6 ((aggs t).set i (.agg (putC (ints (t.getD i [])) 0 (ints m)))))) := fun i m ρ hi hm hLT => by
      have e1 : putC (ints (t.getD i [])) 0 (ints m) = ints m := put6 (by rw [ints_length, hm]) (by rw [ints_length, hg6 i hi])
      have e2 : (aggs t).set i (.agg (ints m)) = aggs (t.set i m) := by simp [aggs, List.map_set]
      have e3 : t.length = (t.set i m).length := by simp
      rw [e1, e2, e3]
      have hid : (ρ.set σ.length (AObj.arr 1 41 6 (aggs (t.set i m))))[σ.length]? = some (.arr 1 41 6 (aggs (t.set i m))) := List.getElem?_set_self (List.getElem?_eq_some_iff.1 hLT.arr).1
      exact Kv.Fin.giveAt hid (.inl (Imm.refa (solo_get hid))) (hK (t.set i m) _ (by simp; omega) (fun r hr => by
        rcases List.mem_or_eq_of_mem_set hr with hr | rfl
        · exact ht6 r hr
        · exact hm) ((hLT.src.set2 (by omega) _).set2 (by omega) _) ((hLT.kept.set2 (Nat.le_refl _) _).set2 (Nat.le_refl _) _))
    clear ho hol
    repeat' (first
      | omega
      | (rw [vT_alt]; refine ⟨?_, ?_⟩)
      | (refine nextL hl (σ := σ) (t := t) (by assumption) _ fun r2 ρ h4 h5 hB2 => ?_)
      | (refine badL hl (σ := σ) (t := t) (by assumption) h066 h06.2 fun m ρ h7 hB3 => ?_)
      | (with_reducible refine And.intro ?_ ?_)
      | (with_reducible intro _)
      | (simp (disch := assumption) only [hc, OpK_eq, HKv, hil0, hs6, ht66, h066, aggs_length, take6, List.drop_zero, Int.cast_ofNat_Int, go_sem, ↓reduceIte, Nat.reduceEqDiff, Nat.reduceAdd, Nat.reduceMul, Nat.reduceLeDiff, Nat.reduceLT, Int.reduceLE, Int.reduceLT, reduceCtorEq]))
    all_goals (first | exact hlen _ (by omega) | exact hfin _ _ _ (by omega) (by assumption) (by assumption))
  · exact Kv.Fin.now (hK t _ (by omega) ht6 h4 hk1)
theorem p45 {l : List Int} (hl : Byt l) {σ : Heap} {b : Nat} (hS : Src σ b l) {K : PV → Heap → Prop}
    (hK : ∀ (t' : List (List Int)) σ', t'.length ≤ 7 → Mp6 t' → Src σ' b l → Kept σ σ' b → K (.list (aggs t')) σ') : ACall Tryz.prog 45 [.ptr b 0] σ K := by
  refine e45 (by simp) fun _ _ => ?_
  simp only [k45, argEnv, take6, List.drop_zero, Int.cast_ofNat_Int, go_sem, ↓reduceIte, Nat.reduceEqDiff, Nat.reduceAdd, Nat.reduceMul, Nat.reduceLeDiff, Nat.reduceLT, Int.reduceLE, Int.reduceLT, reduceCtorEq]
  try simp only [OpK_eq, HKv, take6, List.drop_zero, Int.cast_ofNat_Int, go_sem, ↓reduceIte, Nat.reduceEqDiff, Nat.reduceAdd, Nat.reduceMul, Nat.reduceLeDiff, Nat.reduceLT, Int.reduceLE, Int.reduceLT, reduceCtorEq]
  refine p62 hl hS fun t τ q1 q2 q3 q4 q5 => ?_
  try simp only [OpK_eq, HKv, take6, List.drop_zero, Int.cast_ofNat_Int, go_sem, ↓reduceIte, Nat.reduceEqDiff, Nat.reduceAdd, Nat.reduceMul, Nat.reduceLeDiff, Nat.reduceLT, Int.reduceLE, Int.reduceLT, reduceCtorEq]
  refine p61 hl q4 t q1 q2 q3 fun t' ρ p1 p2 p3 p4 => ?_
  try simp only [OpK_eq, HKv, take6, List.drop_zero, Int.cast_ofNat_Int, go_sem, ↓reduceIte, Nat.reduceEqDiff, Nat.reduceAdd, Nat.reduceMul, Nat.reduceLeDiff, Nat.reduceLT, Int.reduceLE, Int.reduceLT, reduceCtorEq]
  exact Kv.Fin.now (hK t' _ p1 p2 p3 (q5.trans p4))
theorem p27 {l : List Int} (hl : Byt l) {σ : Heap} {b : Nat} (hS : Src σ b l) {K : PV → Heap → Prop}
    (hK : ∀ (t' : List (List Int)) σ', t'.length ≤ 7 → Mp6 t' → Src σ' b l → Kept σ σ' b → K (.list (aggs t')) σ') : ACall Tryz.prog 27 [.ptr b 0] σ K := by
  have hlt := hS.lt
  refine e27 (by simp) fun _ _ => ?_
  simp only [k27, argEnv, take6, List.drop_zero, Int.cast_ofNat_Int, go_sem, ↓reduceIte, Nat.reduceEqDiff, Nat.reduceAdd, Nat.reduceMul, Nat.reduceLeDiff, Nat.reduceLT, Int.reduceLE, Int.reduceLT, reduceCtorEq]
  try simp only [OpK_eq, HKv, take6, List.drop_zero, Int.cast_ofNat_Int, go_sem, ↓reduceIte, Nat.reduceEqDiff, Nat.reduceAdd, Nat.reduceMul, Nat.reduceLeDiff, Nat.reduceLT, Int.reduceLE, Int.reduceLT, reduceCtorEq]
  refine p37 hl hS _ fun r τ h2 h3 h4 h5 h6 => ?_
  have hlt2 := h4.lt
  try simp only [OpK_eq, HKv, take6, List.drop_zero, Int.cast_ofNat_Int, go_sem, ↓reduceIte, Nat.reduceEqDiff, Nat.reduceAdd, Nat.reduceMul, Nat.reduceLeDiff, Nat.reduceLT, Int.reduceLE, Int.reduceLT, reduceCtorEq]
  refine ⟨fun _ => ?_, fun _ => ?_⟩
  · refine p45 hl h4 fun t ρ p1 p2 p3 p4 => ?_
    try simp only [OpK_eq, HKv, take6, List.drop_zero, Int.cast_ofNat_Int, go_sem, ↓reduceIte, Nat.reduceEqDiff, Nat.reduceAdd, Nat.reduceMul, Nat.reduceLeDiff, Nat.reduceLT, Int.reduceLE, Int.reduceLT, reduceCtorEq]
    exact Kv.Fin.now (hK t _ p1 p2 p3 (h5.trans p4))
  · refine p38 hl (h4.app _) [2, 3, 4, 4, 5, 5] (by simp) (id := τ.length) (ver := 0) (e := 2) (by simp [ints]) (by omega) 6 rfl fun r2 τ2 g2 g4 g5 g6 => ?_
    have hr : ∃ n : Nat, r2 = n ∧ 1 ≤ n ∧ n ≤ 5 := by
      simp only [List.mem_cons, List.not_mem_nil, or_false] at g2
      exact ⟨r2.toNat, by omega, by omega, by omega⟩
    obtain ⟨n, rfl, hn1, hn5⟩ := hr
    have hk1 : Kept σ τ2 b := (h5.trans (Kept.app _ _ _)).trans g5
    try simp only [OpK_eq, HKv, take6, List.drop_zero, Int.cast_ofNat_Int, go_sem, ↓reduceIte, Nat.reduceEqDiff, Nat.reduceAdd, Nat.reduceMul, Nat.reduceLeDiff, Nat.reduceLT, Int.reduceLE, Int.reduceLT, reduceCtorEq]
    refine p46 hl g4 n hn1 hn5 fun t ρ q1 q2 q3 q4 q5 => ?_
    try simp only [OpK_eq, HKv, take6, List.drop_zero, Int.cast_ofNat_Int, go_sem, ↓reduceIte, Nat.reduceEqDiff, Nat.reduceAdd, Nat.reduceMul, Nat.reduceLeDiff, Nat.reduceLT, Int.reduceLE, Int.reduceLT, reduceCtorEq]
    exact Kv.Fin.now (hK t _ (by omega) (fun r hr => (q3 r hr).1) q4 (hk1.trans q5))
end Go.Proofs.YtodmbkceindakaaGreat
