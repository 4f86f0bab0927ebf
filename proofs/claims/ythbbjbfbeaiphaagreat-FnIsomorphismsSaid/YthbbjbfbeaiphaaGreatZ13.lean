/- Several texts of this session as one, less what the claim does not need. -/
import Derived.Test.YthbbjbfbeaiphaaGreatCb
import Derived.Test.YthbbjbfbeaiphaaGreatZ12
import Derived.Test.YthbbjbfbeaiphaaGreatZ8
import Derived.Test.YthbbjbfbeaiphaaGreatZ10
import Derived.Test.YthbbjbfbeaiphaaGreatZ7
import Derived.Test.YthbbjbfbeaiphaaGreatZ9
import Derived.Test.YthbbjbfbeaiphaaGreatG1
section
/- The draws of two tables. -/
namespace Go.Proofs.YthbbjbfbeaiphaaGreat
open Go.Kv
set_option maxRecDepth 100000
def k48 : KC := (.seq (.ops [oP 2 (.mv (.c (.nils))), oP 3 (.mv (.c (.nils)))])
  (.seq (.ops [mV 6 0, oP 7 (.call (fC 55) [(.t 6)]), mV 4 7])
  (.seq (.ops [mV 8 4, oP 9 (.call (fC 64) [(.t 8), (iC 10)]), mV 5 9])
  (.seq (.seq (.ops [mV 10 5, oP 11 (.call (fC 53) [(.t 10)]), mV 12 11, ⟨(some 13), some (12, true), .mv (.t 4)⟩, ⟨(some 14), some (12, true), .call (fC 56) [(.t 13), (iC 2)]⟩, ⟨(some 15), some (12, true), .bin .eql (.t 14) (iC 0)⟩, oP 16 (.pick (.t 12) (.t 15) (.c (.bool false)))])
  (.cond (.t 16) (.seq (.ops [mV 17 5, mV 18 5, mV 19 4, mV 20 5, oP 21 (.len false (.t 20)), oP 22 (.call (fC 57) [(.t 19), (.t 21)]), oP 23 (.call (fC 119) [(.t 18), (.t 22)]), mV 2 17, mV 3 23])
  .ret) .skip))
  (.seq (.ops [mV 24 5, mV 25 4, oP 26 (.call (fC 64) [(.t 25), (iC 6)]), mV 2 24, mV 3 26])
  .ret)))))
theorem e48 : Ent 48 27 [] [.t 2, .t 3] k48 := ent Tryz.func48 (by kernel_rfl) (by kernel_rfl) (by kernel_rfl) (fun _ => by kernel_rfl) (by kernel_rfl)
def k6 : KC := (.seq (.ops [oP 2 (.mv (.c (.nils))), oP 3 (.mv (.c (.nils)))])
  (.seq (.ops [mV 4 0, oP 5 (.call (fC 48) [(.t 4)]), oP 6 (.extr 0 (.t 5)), oP 7 (.extr 1 (.t 5)), mV 2 6, mV 3 7])
  .ret))
theorem e6 : Ent 6 8 [] [.t 2, .t 3] k6 := ent Tryz.func6 (by kernel_rfl) (by kernel_rfl) (by kernel_rfl) (fun _ => by kernel_rfl) (by kernel_rfl)
def k13 : KC := (.seq (.ops [oP 2 (.mv (.c (.nils)))])
  (.seq (.ops [mV 4 0, oP 5 (.call (fC 55) [(.t 4)]), mV 3 5])
  (.seq (.ops [mV 6 3, mV 7 3, oP 8 (.bsl false 2 1 [(iC 8), (iC 8), (iC 8), (iC 40)]), oP 9 (.call (fC 58) [(.t 7), (.t 8)]), oP 10 (.call (fC 64) [(.t 6), (.t 9)]), mV 2 10])
  .ret)))
theorem e13 : Ent 13 11 [] [.t 2] k13 := ent Tryz.func13 (by kernel_rfl) (by kernel_rfl) (by kernel_rfl) (fun _ => by kernel_rfl) (by kernel_rfl)
def k16 : KC := (.seq (.ops [oP 2 (.mv (.c (.nils))), oP 3 (.mv (.c (.nils)))])
  (.seq (.ops [mV 5 0, oP 6 (.call (fC 55) [(.t 5)]), mV 4 6])
  (.seq (.ops [mV 7 4, oP 8 (.call (fC 64) [(.t 7), (iC 8)]), mV 9 4, oP 10 (.call (fC 64) [(.t 9), (iC 6)]), mV 2 8, mV 3 10])
  .ret)))
theorem e16 : Ent 16 11 [] [.t 2, .t 3] k16 := ent Tryz.func16 (by kernel_rfl) (by kernel_rfl) (by kernel_rfl) (fun _ => by kernel_rfl) (by kernel_rfl)
def k20 : KC := (.seq (.ops [oP 2 (.mv (.c (.nils))), oP 3 (.mv (.c (.nils)))])
  (.seq (.ops [mV 5 0, oP 6 (.call (fC 55) [(.t 5)]), mV 4 6])
  (.seq (.seq (.ops [mV 7 4, oP 8 (.call (fC 56) [(.t 7), (iC 6)]), oP 9 (.bin .eql (.t 8) (iC 0))])
  (.cond (.t 9) (.seq (.ops [mV 10 4, oP 11 (.call (fC 67) [(.t 10)]), mV 12 4, oP 13 (.call (fC 67) [(.t 12)]), mV 2 11, mV 3 13])
  .ret) .skip))
  (.seq (.ops [mV 14 4, mV 15 4, mV 16 4, oP 17 (.bsl false 2 1 [(iC 1), (iC 2), (iC 3)]), oP 18 (.call (fC 58) [(.t 16), (.t 17)]), oP 19 (.call (fC 69) [(.t 15), (.t 18)]), oP 20 (.call (fC 68) [(.t 14), (.t 19)]), mV 21 4, mV 22 4, oP 23 (.bsl false 2 1 [(iC 1), (iC 2), (iC 2), (iC 3)]), oP 24 (.call (fC 58) [(.t 22), (.t 23)]), oP 25 (.call (fC 69) [(.t 21), (.t 24)]), mV 2 20, mV 3 25])
  .ret))))
theorem e20 : Ent 20 26 [] [.t 2, .t 3] k20 := ent Tryz.func20 (by kernel_rfl) (by kernel_rfl) (by kernel_rfl) (fun _ => by kernel_rfl) (by kernel_rfl)
end Go.Proofs.YthbbjbfbeaiphaaGreat
namespace Go.Proofs.YthbbjbfbeaiphaaGreat
open Go.Kv
set_option linter.unusedVariables false
set_option linter.unusedSimpArgs false
attribute [local irreducible] ACall PCall KL
/-- A table that has been drawn. -/
def Dr (t : List (List Int)) : Prop := 1 ≤ t.length ∧ t.length ≤ 41 ∧ ∀ r ∈ t, r.length ≤ 40
theorem TT.immT {σ τ : Heap} {b : Nat} {l : List Int} {id ver : Nat} {rs : List Rw} {t : List (List Int)} (h : TT σ τ b l id ver rs t) : Imm τ (.ref id ver 0 t.length) (.list (rows t)) := h.tab.imm rfl
theorem p48 {l : List Int} (hl : Byt l) : ACall Tryz.prog 48 [.list (u8s l)] [] fun v s => s = [] ∧ ∃ a b, Dr a ∧ Dr b ∧ v = .tup [.list (rows a), .list (rows b)] := by
  have hfin : ∀ {ρ : Heap} {x y : PV} {a b : List (List Int)}, Imm ρ x (.list (rows a)) → Imm ρ y (.list (rows b)) → Dr a → Dr b → Kv.Fin 0 (fun v s => s = [] ∧ ∃ a b, Dr a ∧ Dr b ∧ v = .tup [.list (rows a), .list (rows b)]) (.tup [x, y]) ρ := fun h1 h2 h3 h4 => Kv.Fin.freeze (Imm.tupL (.cons h1 (.cons h2 (.nil _)))) ⟨rfl, _, _, h3, h4, rfl⟩
  refine e48 (by simp) fun _ _ => ?_
  simp only [k48, argEnv, take6, List.drop_zero, Int.cast_ofNat_Int, go_sem, ↓reduceIte, Nat.reduceEqDiff, Nat.reduceAdd, Nat.reduceMul, Nat.reduceLeDiff, Nat.reduceLT, Int.reduceLE, Int.reduceLT, reduceCtorEq]
  refine p55 hl fun h => ?_
  have hS0 : Src [srcO l 0 h] 0 l := ⟨0, h, rfl, Nat.zero_le _⟩
  try simp only [OpK_eq, HKv, take6, List.drop_zero, Int.cast_ofNat_Int, go_sem, ↓reduceIte, Nat.reduceEqDiff, Nat.reduceAdd, Nat.reduceMul, Nat.reduceLeDiff, Nat.reduceLT, Int.reduceLE, Int.reduceLT, reduceCtorEq]
  refine p64 hl hS0 _ fun id ver rs t τ hT ht => ?_
  try simp only [OpK_eq, HKv, take6, List.drop_zero, Int.cast_ofNat_Int, go_sem, ↓reduceIte, Nat.reduceEqDiff, Nat.reduceAdd, Nat.reduceMul, Nat.reduceLeDiff, Nat.reduceLT, Int.reduceLE, Int.reduceLT, reduceCtorEq]
  refine (p53 t (by have := ht.2.1; omega) (fun r hr => by have := ht.2.2 r hr; omega)).lend (.cons hT.immT (.nil _)) ?_
  have hsec : ∀ {ρ : Heap}, TT [srcO l 0 h] ρ 0 l id ver rs t → ∀ {K : PV → Heap → Prop}, (∀ id' ver' rs' t' τ', TT [srcO l 0 h] τ' 0 l id ver rs t → TT ρ τ' 0 l id' ver' rs' t' → Dr t' → K (.ref id' ver' 0 t'.length) τ') → ACall Tryz.prog 64 [.ptr 0 0, .int .i64 6] ρ K := fun hT K hK => p64 hl hT.src 6 fun id' ver' rs' t' τ' hT' ht' => hK _ _ _ _ _ (hT.step hT'.src hT'.kept) hT' ht'
  cases hI : isTab t with
  | false =>
    try simp only [OpK_eq, HKv, take6, List.drop_zero, Int.cast_ofNat_Int, go_sem, ↓reduceIte, Nat.reduceEqDiff, Nat.reduceAdd, Nat.reduceMul, Nat.reduceLeDiff, Nat.reduceLT, Int.reduceLE, Int.reduceLT, reduceCtorEq]
    refine hsec hT fun id2 ver2 rs2 t2 τ2 hT1 hT2 ht2 => ?_
    try simp only [OpK_eq, HKv, take6, List.drop_zero, Int.cast_ofNat_Int, go_sem, ↓reduceIte, Nat.reduceEqDiff, Nat.reduceAdd, Nat.reduceMul, Nat.reduceLeDiff, Nat.reduceLT, Int.reduceLE, Int.reduceLT, reduceCtorEq]
    exact hfin hT1.immT hT2.immT ht ht2
  | true =>
    obtain ⟨⟨t1, t40⟩, hsq, hin⟩ := isTab_sq hI
    try simp only [OpK_eq, HKv, take6, List.drop_zero, Int.cast_ofNat_Int, go_sem, ↓reduceIte, Nat.reduceEqDiff, Nat.reduceAdd, Nat.reduceMul, Nat.reduceLeDiff, Nat.reduceLT, Int.reduceLE, Int.reduceLT, reduceCtorEq]
    refine next0 hl hT _ fun r0 ρ q0 q1 hT1 => ?_
    obtain ⟨junk, ho⟩ := hT1.tab.out
    have hpl := pvs_length hT1.tab.len
    have hol : t.length ≤ (pvs rs t ++ junk).length := by rw [List.length_append, hpl]; omega
    try simp only [OpK_eq, HKv, ho, hol, take6, List.drop_zero, Int.cast_ofNat_Int, go_sem, ↓reduceIte, Nat.reduceEqDiff, Nat.reduceAdd, Nat.reduceMul, Nat.reduceLeDiff, Nat.reduceLT, Int.reduceLE, Int.reduceLT, reduceCtorEq]
    refine ⟨fun _ => ?_, fun _ => ?_⟩
    · refine p57S hl hT1.src t.length (by omega) fun L id2 ver2 ρ1 p1 p2 p3 p4 p5 p6 => ?_
      have hT2 := hT1.step p3 p4
      try simp only [OpK_eq, HKv, take6, List.drop_zero, Int.cast_ofNat_Int, go_sem, ↓reduceIte, Nat.reduceEqDiff, Nat.reduceAdd, Nat.reduceMul, Nat.reduceLeDiff, Nat.reduceLT, Int.reduceLE, Int.reduceLT, reduceCtorEq]
      refine ACall.lend (p119 t t.length t1 (by omega) hsq hin L p1 p2.1) (.cons hT2.immT (.cons (Imm.refn p6 p1.symm) (.nil _))) fun v s ⟨t', s1, s2, s3⟩ => ⟨⟨s2.up, s3⟩, ?_⟩
      have h1' := s1.1
      have hO : OwnT 27 2 s 0 s.length v t' := by
        cases s2 with
        | nil => exact .nil
        | tab id ver rs _ h => exact .tab id ver rs _ h ⟨Nat.zero_le _, h.lt.1⟩ fun r hr hn => ⟨Nat.zero_le _, h.lt.2 r hr hn⟩
      have h2 := hO.shift ρ1
      have e : (ρ1 ++ s.map (AObj.ren (Kv.sh ρ1.length))).length = s.length + ρ1.length := by simp; omega
      rw [Nat.zero_add, ← e] at h2
      obtain ⟨id3, ver3, rs3, e2, hTT⟩ := own_tt hT2.src (Kept.refl _ _) (by have := hT2.src.lt; omega) h2 (fun j hj => List.getElem?_append_left hj) (by simp) (by omega)
      rw [e2]
      try simp only [OpK_eq, HKv, take6, List.drop_zero, Int.cast_ofNat_Int, go_sem, ↓reduceIte, Nat.reduceEqDiff, Nat.reduceAdd, Nat.reduceMul, Nat.reduceLeDiff, Nat.reduceLT, Int.reduceLE, Int.reduceLT, reduceCtorEq]
      exact hfin (hT2.step hTT.src hTT.kept).immT hTT.immT ht ⟨by omega, by omega, fun r hr => by rw [s1.2 r hr]; exact t40⟩
    · refine hsec hT1 fun id2 ver2 rs2 t2 τ2 hT2 hT3 ht2 => ?_
      try simp only [OpK_eq, HKv, take6, List.drop_zero, Int.cast_ofNat_Int, go_sem, ↓reduceIte, Nat.reduceEqDiff, Nat.reduceAdd, Nat.reduceMul, Nat.reduceLeDiff, Nat.reduceLT, Int.reduceLE, Int.reduceLT, reduceCtorEq]
      exact hfin hT2.immT hT3.immT ht ht2
theorem p6 {l : List Int} (hl : Byt l) {K : PV → Heap → Prop} (hK : ∀ a b, Dr a → Dr b → K (.tup [.list (rows a), .list (rows b)]) []) : ACall Tryz.prog 6 [.list (u8s l)] [] K := by
  refine e6 (by simp) fun _ _ => ?_
  simp only [k6, argEnv, take6, List.drop_zero, Int.cast_ofNat_Int, go_sem, ↓reduceIte, Nat.reduceEqDiff, Nat.reduceAdd, Nat.reduceMul, Nat.reduceLeDiff, Nat.reduceLT, Int.reduceLE, Int.reduceLT, reduceCtorEq]
  refine (p48 hl).mono fun v s ⟨hs, a, b, ha, hb, hv⟩ => ?_
  subst hs; subst hv
  try simp only [OpK_eq, HKv, take6, List.drop_zero, Int.cast_ofNat_Int, go_sem, ↓reduceIte, Nat.reduceEqDiff, Nat.reduceAdd, Nat.reduceMul, Nat.reduceLeDiff, Nat.reduceLT, Int.reduceLE, Int.reduceLT, reduceCtorEq]
  exact Kv.Fin.still (hK a b ha hb)
theorem p13 {l : List Int} (hl : Byt l) {K : PV → Heap → Prop} (hK : ∀ t, Dr t → K (.list (rows t)) []) : ACall Tryz.prog 13 [.list (u8s l)] [] K := by
  refine e13 (by simp) fun _ _ => ?_
  simp only [k13, argEnv, take6, List.drop_zero, Int.cast_ofNat_Int, go_sem, ↓reduceIte, Nat.reduceEqDiff, Nat.reduceAdd, Nat.reduceMul, Nat.reduceLeDiff, Nat.reduceLT, Int.reduceLE, Int.reduceLT, reduceCtorEq]
  refine p55 hl fun h => ?_
  have hS0 : Src [srcO l 0 h] 0 l := ⟨0, h, rfl, Nat.zero_le _⟩
  try simp only [OpK_eq, HKv, take6, List.drop_zero, Int.cast_ofNat_Int, go_sem, ↓reduceIte, Nat.reduceEqDiff, Nat.reduceAdd, Nat.reduceMul, Nat.reduceLeDiff, Nat.reduceLT, Int.reduceLE, Int.reduceLT, reduceCtorEq]
  refine p58 hl (hS0.app _) [8, 8, 8, 40] (by simp) (id := 1) (ver := 0) (e := 2) (by simp [ints]) (by omega) 4 rfl fun r τ h2 h4 h5 h6 => ?_
  have hr : 0 ≤ r ∧ r ≤ 40 := by
    simp only [List.mem_cons, List.not_mem_nil, or_false] at h2
    omega
  try simp only [OpK_eq, HKv, take6, List.drop_zero, Int.cast_ofNat_Int, go_sem, ↓reduceIte, Nat.reduceEqDiff, Nat.reduceAdd, Nat.reduceMul, Nat.reduceLeDiff, Nat.reduceLT, Int.reduceLE, Int.reduceLT, reduceCtorEq]
  refine p64 hl h4 _ fun id ver rs t τ hT ht => ?_
  try simp only [OpK_eq, HKv, take6, List.drop_zero, Int.cast_ofNat_Int, go_sem, ↓reduceIte, Nat.reduceEqDiff, Nat.reduceAdd, Nat.reduceMul, Nat.reduceLeDiff, Nat.reduceLT, Int.reduceLE, Int.reduceLT, reduceCtorEq]
  exact Kv.Fin.freeze hT.immT (hK t ht)
theorem p16 {l : List Int} (hl : Byt l) {K : PV → Heap → Prop} (hK : ∀ a b, Dr a → Dr b → K (.tup [.list (rows a), .list (rows b)]) []) : ACall Tryz.prog 16 [.list (u8s l)] [] K := by
  refine e16 (by simp) fun _ _ => ?_
  simp only [k16, argEnv, take6, List.drop_zero, Int.cast_ofNat_Int, go_sem, ↓reduceIte, Nat.reduceEqDiff, Nat.reduceAdd, Nat.reduceMul, Nat.reduceLeDiff, Nat.reduceLT, Int.reduceLE, Int.reduceLT, reduceCtorEq]
  refine p55 hl fun h => ?_
  have hS0 : Src [srcO l 0 h] 0 l := ⟨0, h, rfl, Nat.zero_le _⟩
  try simp only [OpK_eq, HKv, take6, List.drop_zero, Int.cast_ofNat_Int, go_sem, ↓reduceIte, Nat.reduceEqDiff, Nat.reduceAdd, Nat.reduceMul, Nat.reduceLeDiff, Nat.reduceLT, Int.reduceLE, Int.reduceLT, reduceCtorEq]
  refine p64 hl hS0 _ fun id ver rs t τ hT ht => ?_
  try simp only [OpK_eq, HKv, take6, List.drop_zero, Int.cast_ofNat_Int, go_sem, ↓reduceIte, Nat.reduceEqDiff, Nat.reduceAdd, Nat.reduceMul, Nat.reduceLeDiff, Nat.reduceLT, Int.reduceLE, Int.reduceLT, reduceCtorEq]
  refine p64 hl hT.src _ fun id2 ver2 rs2 t2 τ2 hT2 ht2 => ?_
  try simp only [OpK_eq, HKv, take6, List.drop_zero, Int.cast_ofNat_Int, go_sem, ↓reduceIte, Nat.reduceEqDiff, Nat.reduceAdd, Nat.reduceMul, Nat.reduceLeDiff, Nat.reduceLT, Int.reduceLE, Int.reduceLT, reduceCtorEq]
  exact Kv.Fin.freeze (Imm.tupL (.cons (hT.step hT2.src hT2.kept).immT (.cons hT2.immT (.nil _)))) (hK t t2 ht ht2)
theorem p20 {l : List Int} (hl : Byt l) {K : PV → Heap → Prop} (hK : ∀ a b : List (List Int), a.length ≤ 7 → Mp6 a → b.length ≤ 7 → Mp6 b → K (.tup [.list (aggs a), .list (aggs b)]) []) : ACall Tryz.prog 20 [.list (u8s l)] [] K := by
  refine e20 (by simp) fun _ _ => ?_
  simp only [k20, argEnv, take6, List.drop_zero, Int.cast_ofNat_Int, go_sem, ↓reduceIte, Nat.reduceEqDiff, Nat.reduceAdd, Nat.reduceMul, Nat.reduceLeDiff, Nat.reduceLT, Int.reduceLE, Int.reduceLT, reduceCtorEq]
  refine p55 hl fun h => ?_
  have hS0 : Src [srcO l 0 h] 0 l := ⟨0, h, rfl, Nat.zero_le _⟩
  try simp only [OpK_eq, HKv, take6, List.drop_zero, Int.cast_ofNat_Int, go_sem, ↓reduceIte, Nat.reduceEqDiff, Nat.reduceAdd, Nat.reduceMul, Nat.reduceLeDiff, Nat.reduceLT, Int.reduceLE, Int.reduceLT, reduceCtorEq]
  refine p56 hl hS0 _ fun r0 ρ q0 q1 hS1 _ _ => ?_
  try simp only [OpK_eq, HKv, take6, List.drop_zero, Int.cast_ofNat_Int, go_sem, ↓reduceIte, Nat.reduceEqDiff, Nat.reduceAdd, Nat.reduceMul, Nat.reduceLeDiff, Nat.reduceLT, Int.reduceLE, Int.reduceLT, reduceCtorEq]
  refine ⟨fun _ => ?_, fun _ => ?_⟩
  · refine p67 hl hS1 fun a τ a1 a2 a3 a4 => ?_
    try simp only [OpK_eq, HKv, take6, List.drop_zero, Int.cast_ofNat_Int, go_sem, ↓reduceIte, Nat.reduceEqDiff, Nat.reduceAdd, Nat.reduceMul, Nat.reduceLeDiff, Nat.reduceLT, Int.reduceLE, Int.reduceLT, reduceCtorEq]
    refine p67 hl a3 fun b τ b1 b2 b3 b4 => ?_
    try simp only [OpK_eq, HKv, take6, List.drop_zero, Int.cast_ofNat_Int, go_sem, ↓reduceIte, Nat.reduceEqDiff, Nat.reduceAdd, Nat.reduceMul, Nat.reduceLeDiff, Nat.reduceLT, Int.reduceLE, Int.reduceLT, reduceCtorEq]
    exact Kv.Fin.freeze .still (hK a b a1 a2 b1 b2)
  · have hgb : ∀ (s : Heap) (a : AObj), (s ++ [a])[s.length]? = some a := fun s a => by simp
    refine p58 hl (hS1.app _) [1, 2, 3] (by simp) (id := ρ.length) (ver := 0) (e := 2) (hgb _ _) (by have := hS1.lt; omega) 3 rfl fun r1 τ1 h2 h4 h5 h6 => ?_
    obtain ⟨n1, e1, n11, n15⟩ : ∃ n : Nat, r1 = n ∧ 1 ≤ n ∧ n ≤ 5 := ⟨r1.toNat, by simp only [List.mem_cons, List.not_mem_nil, or_false] at h2; omega⟩
    subst e1
    try simp only [OpK_eq, HKv, take6, List.drop_zero, Int.cast_ofNat_Int, go_sem, ↓reduceIte, Nat.reduceEqDiff, Nat.reduceAdd, Nat.reduceMul, Nat.reduceLeDiff, Nat.reduceLT, Int.reduceLE, Int.reduceLT, reduceCtorEq]
    refine p69 hl h4 n1 n11 n15 fun t1 τ2 a1 a2 a3 a4 a5 => ?_
    try simp only [OpK_eq, HKv, take6, List.drop_zero, Int.cast_ofNat_Int, go_sem, ↓reduceIte, Nat.reduceEqDiff, Nat.reduceAdd, Nat.reduceMul, Nat.reduceLeDiff, Nat.reduceLT, Int.reduceLE, Int.reduceLT, reduceCtorEq]
    refine p68 hl a4 t1 a1 a2 a3 fun a τ3 b1 b2 b3 b4 => ?_
    try simp only [OpK_eq, HKv, take6, List.drop_zero, Int.cast_ofNat_Int, go_sem, ↓reduceIte, Nat.reduceEqDiff, Nat.reduceAdd, Nat.reduceMul, Nat.reduceLeDiff, Nat.reduceLT, Int.reduceLE, Int.reduceLT, reduceCtorEq]
    refine p58 hl (b3.app _) [1, 2, 2, 3] (by simp) (id := τ3.length) (ver := 0) (e := 2) (hgb _ _) (by have := b3.lt; omega) 4 rfl fun r2 τ4 c2 c4 c5 c6 => ?_
    obtain ⟨n2, e2, n21, n25⟩ : ∃ n : Nat, r2 = n ∧ 1 ≤ n ∧ n ≤ 5 := ⟨r2.toNat, by simp only [List.mem_cons, List.not_mem_nil, or_false] at c2; omega⟩
    subst e2
    try simp only [OpK_eq, HKv, take6, List.drop_zero, Int.cast_ofNat_Int, go_sem, ↓reduceIte, Nat.reduceEqDiff, Nat.reduceAdd, Nat.reduceMul, Nat.reduceLeDiff, Nat.reduceLT, Int.reduceLE, Int.reduceLT, reduceCtorEq]
    refine p69 hl c4 n2 n21 n25 fun t2 τ5 d1 d2 d3 d4 d5 => ?_
    try simp only [OpK_eq, HKv, take6, List.drop_zero, Int.cast_ofNat_Int, go_sem, ↓reduceIte, Nat.reduceEqDiff, Nat.reduceAdd, Nat.reduceMul, Nat.reduceLeDiff, Nat.reduceLT, Int.reduceLE, Int.reduceLT, reduceCtorEq]
    exact Kv.Fin.freeze .still (hK a t2 b1 b2 (by omega) fun r hr => (d3 r hr).1)
end Go.Proofs.YthbbjbfbeaiphaaGreat
end
section
/- The law's comparison of numbers, at equal arguments. -/
namespace Go.Proofs.YthbbjbfbeaiphaaGreat
open Go.Kv
set_option maxRecDepth 100000
def k9_b0 : KC := (.seq (.seq (.ops [mV 11 5, mV 12 0, oP 13 (.len false (.t 12)), oP 14 (.bin .lss (.t 11) (.t 13))])
  (.cond (.t 14) .skip (.exit 0)))
  (.seq (.block 1 (.seq (.draw [mV 17 0, mV 18 5, oP 19 (.idxS 1 (.t 17) (.t 18)), oP 20 (.load false 1 (.t 19)), mV 21 1, mV 22 5, oP 23 (.idxS 1 (.t 21) (.t 22)), oP 24 (.load false 1 (.t 23)), oP 25 (.bin .neq (.t 20) (.t 24))])
  (.cond (.t 25) (.seq (.ops [oP 4 (.mv (.c (.bool false)))])
  .ret) .skip)))
  (.ops [mV 15 5, oP 16 (.bin .add (.t 15) (iC 1)), mV 5 16])))
def k9 : KC := (.seq (.ops [oP 4 (.mv (.c (.bool false)))])
  (.seq (.seq (.ops [mV 6 0, oP 7 (.len false (.t 6)), mV 8 1, oP 9 (.len false (.t 8)), oP 10 (.bin .neq (.t 7) (.t 9))])
  (.cond (.t 10) (.seq (.ops [oP 4 (.mv (.c (.bool false)))])
  .ret) .skip))
  (.seq (.seq (.ops [oP 5 (.mv (iC 0))])
  (.block 0 (.loop k9_b0)))
  (.seq (.ops [oP 4 (.mv (.c (.bool true)))])
  .ret))))
theorem e9 : Ent 9 26 [] [.t 4] k9 := ent Tryz.func9 (by kernel_rfl) (by kernel_rfl) (by kernel_rfl) (fun _ => by kernel_rfl) (by kernel_rfl)
end Go.Proofs.YthbbjbfbeaiphaaGreat
namespace Go.Proofs.YthbbjbfbeaiphaaGreat
open Go.Kv
set_option linter.unusedVariables false
set_option linter.unusedSimpArgs false
attribute [local irreducible] ACall PCall KL
theorem p9 (a : List Int) (ha : a.length ≤ 1000) : Pure Tryz.prog 9 [.list (ints a), .list (ints a)] (.bool true) := by
  refine e9 (by simp) fun _ _ => ?_
  simp only [k9, argEnv, take6, List.drop_zero, Int.cast_ofNat_Int, go_sem, ↓reduceIte, Nat.reduceEqDiff, Nat.reduceAdd, Nat.reduceMul, Nat.reduceLeDiff, Nat.reduceLT, Int.reduceLE, Int.reduceLT, reduceCtorEq]
  try simp only [OpK_eq, HKv, bne_self_eq_false, take6, List.drop_zero, Int.cast_ofNat_Int, go_sem, ↓reduceIte, Nat.reduceEqDiff, Nat.reduceAdd, Nat.reduceMul, Nat.reduceLeDiff, Nat.reduceLT, Int.reduceLE, Int.reduceLT, reduceCtorEq]
  refine KL_ind k9_b0.eq_1 (fun x : Nat => [(0, .list (ints a)), (1, .list (ints a)), (5, .int .i64 x)]) (fun _ => []) (fun x => x ≤ a.length) (fun x => a.length - x) [0, 1, 5] 0 (by simp [keep]) rfl (Nat.zero_le _) fun x hx ih => ?_
  try simp only [OpK_eq, HKv, take6, List.drop_zero, Int.cast_ofNat_Int, go_sem, ↓reduceIte, Nat.reduceEqDiff, Nat.reduceAdd, Nat.reduceMul, Nat.reduceLeDiff, Nat.reduceLT, Int.reduceLE, Int.reduceLT, reduceCtorEq]
  refine ⟨fun h1 => ?_, fun h1 => Kv.Fin.still ⟨rfl, rfl⟩⟩
  exact ⟨by omega, fun _ => ⟨by omega, fun _ => ⟨by omega, ih (x + 1) (by omega) (by omega) _ _ (by simp [keep]) rfl⟩⟩⟩
end Go.Proofs.YthbbjbfbeaiphaaGreat
end
section
/- The law's comparisons of rows and of maps, at equal arguments. -/
namespace Go.Proofs.YthbbjbfbeaiphaaGreat
open Go.Kv
set_option maxRecDepth 100000
def k23_b0 : KC := (.seq (.seq (.ops [mV 11 5, mV 12 0, oP 13 (.len false (.t 12)), oP 14 (.bin .lss (.t 11) (.t 13))])
  (.cond (.t 14) .skip (.exit 0)))
  (.seq (.block 1 (.seq (.draw [mV 17 0, mV 18 5, oP 19 (.idxS 6 (.t 17) (.t 18)), oP 20 (.load true 6 (.t 19)), mV 21 1, mV 22 5, oP 23 (.idxS 6 (.t 21) (.t 22)), oP 24 (.load true 6 (.t 23)), oP 25 (.aeq true 6 (.t 20) (.t 24))])
  (.cond (.t 25) (.seq (.ops [oP 4 (.mv (.c (.bool false)))])
  .ret) .skip)))
  (.ops [mV 15 5, oP 16 (.bin .add (.t 15) (iC 1)), mV 5 16])))
def k23 : KC := (.seq (.ops [oP 4 (.mv (.c (.bool false)))])
  (.seq (.seq (.ops [mV 6 0, oP 7 (.len false (.t 6)), mV 8 1, oP 9 (.len false (.t 8)), oP 10 (.bin .neq (.t 7) (.t 9))])
  (.cond (.t 10) (.seq (.ops [oP 4 (.mv (.c (.bool false)))])
  .ret) .skip))
  (.seq (.seq (.ops [oP 5 (.mv (iC 0))])
  (.block 0 (.loop k23_b0)))
  (.seq (.ops [oP 4 (.mv (.c (.bool true)))])
  .ret))))
theorem e23 : Ent 23 26 [] [.t 4] k23 := ent Tryz.func23 (by kernel_rfl) (by kernel_rfl) (by kernel_rfl) (fun _ => by kernel_rfl) (by kernel_rfl)
def k19_b0 : KC := (.seq (.seq (.ops [mV 11 5, mV 12 0, oP 13 (.len false (.t 12)), oP 14 (.bin .lss (.t 11) (.t 13))])
  (.cond (.t 14) .skip (.exit 0)))
  (.seq (.block 1 (.seq (.draw [mV 17 0, mV 18 5, oP 19 (.idxS 1 (.t 17) (.t 18)), oP 20 (.load false 1 (.t 19)), mV 21 1, mV 22 5, oP 23 (.idxS 1 (.t 21) (.t 22)), oP 24 (.load false 1 (.t 23)), oP 25 (.pcall (fC 9) [(.t 20), (.t 24)]), oP 26 (.not (.t 25))])
  (.cond (.t 26) (.seq (.ops [oP 4 (.mv (.c (.bool false)))])
  .ret) .skip)))
  (.ops [mV 15 5, oP 16 (.bin .add (.t 15) (iC 1)), mV 5 16])))
def k19 : KC := (.seq (.ops [oP 4 (.mv (.c (.bool false)))])
  (.seq (.seq (.ops [mV 6 0, oP 7 (.len false (.t 6)), mV 8 1, oP 9 (.len false (.t 8)), oP 10 (.bin .neq (.t 7) (.t 9))])
  (.cond (.t 10) (.seq (.ops [oP 4 (.mv (.c (.bool false)))])
  .ret) .skip))
  (.seq (.seq (.ops [oP 5 (.mv (iC 0))])
  (.block 0 (.loop k19_b0)))
  (.seq (.ops [oP 4 (.mv (.c (.bool true)))])
  .ret))))
theorem e19 : Ent 19 27 [] [.t 4] k19 := ent Tryz.func19 (by kernel_rfl) (by kernel_rfl) (by kernel_rfl) (fun _ => by kernel_rfl) (by kernel_rfl)
end Go.Proofs.YthbbjbfbeaiphaaGreat
namespace Go.Proofs.YthbbjbfbeaiphaaGreat
open Go.Kv
set_option linter.unusedVariables false
set_option linter.unusedSimpArgs false
attribute [local irreducible] ACall PCall KL
theorem getD_memZ {α : Type} {l : List (List α)} {i : Nat} (h : i < l.length) : l.getD i [] ∈ l := by
  rw [List.getD_eq_getElem?_getD, List.getElem?_eq_getElem h]; exact List.getElem_mem _
theorem p23 (a : List (List Int)) (ha : a.length ≤ 1000) (h6 : ∀ r ∈ a, r.length = 6) : Pure Tryz.prog 23 [.list (aggs a), .list (aggs a)] (.bool true) := by
  refine e23 (by simp) fun _ _ => ?_
  simp only [k23, argEnv, take6, List.drop_zero, Int.cast_ofNat_Int, go_sem, ↓reduceIte, Nat.reduceEqDiff, Nat.reduceAdd, Nat.reduceMul, Nat.reduceLeDiff, Nat.reduceLT, Int.reduceLE, Int.reduceLT, reduceCtorEq]
  try simp only [OpK_eq, HKv, aggs_length, bne_self_eq_false, take6, List.drop_zero, Int.cast_ofNat_Int, go_sem, ↓reduceIte, Nat.reduceEqDiff, Nat.reduceAdd, Nat.reduceMul, Nat.reduceLeDiff, Nat.reduceLT, Int.reduceLE, Int.reduceLT, reduceCtorEq]
  refine KL_ind k23_b0.eq_1 (fun x : Nat => [(0, .list (aggs a)), (1, .list (aggs a)), (5, .int .i64 x)]) (fun _ => []) (fun x => x ≤ a.length) (fun x => a.length - x) [0, 1, 5] 0 (by simp [keep]) rfl (Nat.zero_le _) fun x hx ih => ?_
  try simp only [OpK_eq, HKv, aggs_length, take6, List.drop_zero, Int.cast_ofNat_Int, go_sem, ↓reduceIte, Nat.reduceEqDiff, Nat.reduceAdd, Nat.reduceMul, Nat.reduceLeDiff, Nat.reduceLT, Int.reduceLE, Int.reduceLT, reduceCtorEq]
  refine ⟨fun h1 => ?_, fun h1 => Kv.Fin.still ⟨rfl, rfl⟩⟩
  have hx2 : x < a.length := by omega
  have h6x : (a.getD x []).length = 6 := h6 _ (getD_memZ hx2)
  try simp only [OpK_eq, HKv, aggs_length, h6x, take6, List.drop_zero, Int.cast_ofNat_Int, go_sem, ↓reduceIte, Nat.reduceEqDiff, Nat.reduceAdd, Nat.reduceMul, Nat.reduceLeDiff, Nat.reduceLT, Int.reduceLE, Int.reduceLT, reduceCtorEq]
  exact ⟨by omega, fun _ => ⟨by omega, fun _ => ⟨by omega, ih (x + 1) (by omega) (by omega) _ _ (by simp [keep]) rfl⟩⟩⟩
theorem p19 (a : List (List Int)) (ha : a.length ≤ 1000) (h6 : ∀ r ∈ a, r.length ≤ 1000) : Pure Tryz.prog 19 [.list (rows a), .list (rows a)] (.bool true) := by
  refine e19 (by simp) fun _ _ => ?_
  simp only [k19, argEnv, take6, List.drop_zero, Int.cast_ofNat_Int, go_sem, ↓reduceIte, Nat.reduceEqDiff, Nat.reduceAdd, Nat.reduceMul, Nat.reduceLeDiff, Nat.reduceLT, Int.reduceLE, Int.reduceLT, reduceCtorEq]
  try simp only [OpK_eq, HKv, bne_self_eq_false, take6, List.drop_zero, Int.cast_ofNat_Int, go_sem, ↓reduceIte, Nat.reduceEqDiff, Nat.reduceAdd, Nat.reduceMul, Nat.reduceLeDiff, Nat.reduceLT, Int.reduceLE, Int.reduceLT, reduceCtorEq]
  refine KL_ind k19_b0.eq_1 (fun x : Nat => [(0, .list (rows a)), (1, .list (rows a)), (5, .int .i64 x)]) (fun _ => []) (fun x => x ≤ a.length) (fun x => a.length - x) [0, 1, 5] 0 (by simp [keep]) rfl (Nat.zero_le _) fun x hx ih => ?_
  try simp only [OpK_eq, HKv, take6, List.drop_zero, Int.cast_ofNat_Int, go_sem, ↓reduceIte, Nat.reduceEqDiff, Nat.reduceAdd, Nat.reduceMul, Nat.reduceLeDiff, Nat.reduceLT, Int.reduceLE, Int.reduceLT, reduceCtorEq]
  refine ⟨fun h1 => ?_, fun h1 => Kv.Fin.still ⟨rfl, rfl⟩⟩
  refine ⟨by omega, fun _ => ⟨by omega, fun hxl => ?_⟩⟩
  refine (p9 (a.getD x []) (h6 _ (getD_memZ hxl))).pgo ?_
  try simp only [OpK_eq, HKv, take6, List.drop_zero, Int.cast_ofNat_Int, go_sem, ↓reduceIte, Nat.reduceEqDiff, Nat.reduceAdd, Nat.reduceMul, Nat.reduceLeDiff, Nat.reduceLT, Int.reduceLE, Int.reduceLT, reduceCtorEq]
  exact ⟨by omega, ih (x + 1) (by omega) (by omega) _ _ (by simp [keep]) rfl⟩
theorem p19nn : Pure Tryz.prog 19 [.nils, .nils] (.bool true) := by
  refine e19 (by simp) fun _ _ => ?_
  simp only [k19, argEnv, take6, List.drop_zero, Int.cast_ofNat_Int, go_sem, ↓reduceIte, Nat.reduceEqDiff, Nat.reduceAdd, Nat.reduceMul, Nat.reduceLeDiff, Nat.reduceLT, Int.reduceLE, Int.reduceLT, reduceCtorEq]
  try simp only [OpK_eq, HKv, bne_self_eq_false, take6, List.drop_zero, Int.cast_ofNat_Int, go_sem, ↓reduceIte, Nat.reduceEqDiff, Nat.reduceAdd, Nat.reduceMul, Nat.reduceLeDiff, Nat.reduceLT, Int.reduceLE, Int.reduceLT, reduceCtorEq]
  refine KL_ind k19_b0.eq_1 (fun x : Unit => [(0, .nils), (1, .nils), (5, .int .i64 0)]) (fun _ => []) (fun x => True) (fun x => 0) [0, 1, 5] () (by simp [keep]) rfl trivial fun x hx ih => ?_
  try simp only [OpK_eq, HKv, take6, List.drop_zero, Int.cast_ofNat_Int, go_sem, ↓reduceIte, Nat.reduceEqDiff, Nat.reduceAdd, Nat.reduceMul, Nat.reduceLeDiff, Nat.reduceLT, Int.reduceLE, Int.reduceLT, reduceCtorEq]
  exact Kv.Fin.still ⟨rfl, rfl⟩
end Go.Proofs.YthbbjbfbeaiphaaGreat
end
section
/- What both sides answer at drawn tables and lists: for the law of isomorphisms. -/
namespace Go.Proofs.YthbbjbfbeaiphaaGreat
open Go.Kv
set_option maxRecDepth 100000
def k10 : KC := (.seq (.ops [oP 2 (.mv (.c (.nils))), oP 3 (.mv (.c (.nils))), oP 4 (.mv (.c (.nils)))])
  (.seq (.ops [mV 11 0, oP 12 (.call (fC 55) [(.t 11)]), mV 5 12])
  (.seq (.ops [mV 14 0, oP 15 (.call (fC 48) [(.t 14)]), mV 13 15, oP 16 (.extr 0 (.t 13)), oP 17 (.extr 1 (.t 13)), mV 6 16, mV 7 17])
  (.seq (.seq (.ops [mV 19 6, mV 20 7, oP 21 (.call (fC 8) [(.t 19), (.t 20)]), mV 18 21, oP 22 (.extr 0 (.t 18)), oP 23 (.extr 1 (.t 18)), mV 8 22, mV 9 23])
  (.seq (.ops [mV 24 9, oP 25 (.bin .eql (.t 24) (iC 0)), mV 26 25, ⟨(some 27), some (26, true), .mv (.t 5)⟩, ⟨(some 28), some (26, true), .call (fC 56) [(.t 27), (iC 2)]⟩, ⟨(some 29), some (26, true), .bin .eql (.t 28) (iC 0)⟩, oP 30 (.pick (.t 26) (.t 29) (.c (.bool false)))])
  (.cond (.t 30) (.seq (.ops [mV 31 6, mV 32 7, mV 33 8, mV 2 31, mV 3 32, mV 4 33])
  .ret) .skip)))
  (.seq (.ops [mV 34 5, mV 35 6, oP 36 (.len false (.t 35)), oP 37 (.call (fC 57) [(.t 34), (.t 36)]), mV 10 37])
  (.seq (.seq (.ops [mV 38 5, oP 39 (.call (fC 56) [(.t 38), (iC 12)]), oP 40 (.bin .eql (.t 39) (iC 0))])
  (.cond (.t 40) (.ops [mV 41 10, mV 42 5, oP 43 (.bsl false 2 1 [(iC (-1)), (iC 0), (iC 1)]), oP 44 (.call (fC 58) [(.t 42), (.t 43)]), oP 45 (.idxS 1 (.t 41) (iC 0)), ⟨none, none, .store 1 (.t 45) (.t 44)⟩]) .skip))
  (.seq (.ops [mV 46 6, mV 47 7, mV 48 10, mV 2 46, mV 3 47, mV 4 48])
  .ret)))))))
theorem e10 : Ent 10 49 [] [.t 2, .t 3, .t 4] k10 := ent Tryz.func10 (by kernel_rfl) (by kernel_rfl) (by kernel_rfl) (fun _ => by kernel_rfl) (by kernel_rfl)
end Go.Proofs.YthbbjbfbeaiphaaGreat
namespace Go.Proofs.YthbbjbfbeaiphaaGreat
open Go.Kv
set_option linter.unusedVariables false
set_option linter.unusedSimpArgs false
attribute [local irreducible] ACall PCall KL
theorem p9e : Pure Tryz.prog 9 [.list (ints []), .nils] (.bool true) := by
  refine e9 (by simp) fun _ _ => ?_
  simp only [k9, argEnv, take6, List.drop_zero, Int.cast_ofNat_Int, go_sem, ↓reduceIte, Nat.reduceEqDiff, Nat.reduceAdd, Nat.reduceMul, Nat.reduceLeDiff, Nat.reduceLT, Int.reduceLE, Int.reduceLT, reduceCtorEq]
  try simp only [OpK_eq, HKv, bne_self_eq_false, take6, List.drop_zero, Int.cast_ofNat_Int, go_sem, ↓reduceIte, Nat.reduceEqDiff, Nat.reduceAdd, Nat.reduceMul, Nat.reduceLeDiff, Nat.reduceLT, Int.reduceLE, Int.reduceLT, reduceCtorEq]
  refine KL_ind k9_b0.eq_1 (fun x : Unit => [(0, .list (ints [])), (1, .nils), (5, .int .i64 0)]) (fun _ => []) (fun x => True) (fun x => 0) [0, 1, 5] () (by simp [keep]) rfl trivial fun x hx ih => ?_
  try simp only [OpK_eq, HKv, take6, List.drop_zero, Int.cast_ofNat_Int, go_sem, ↓reduceIte, Nat.reduceEqDiff, Nat.reduceAdd, Nat.reduceMul, Nat.reduceLeDiff, Nat.reduceLT, Int.reduceLE, Int.reduceLT, reduceCtorEq]
  exact Kv.Fin.still ⟨rfl, rfl⟩
theorem Dr.big {t : List (List Int)} (h : Dr t) : t.length ≤ 1048576 ∧ ∀ r ∈ t, r.length ≤ 1048576 := ⟨by have := h.2.1; omega, fun r hr => by have := h.2.2 r hr; omega⟩
theorem fi_loc {a b : List (List Int)} (ha : Dr a) (hb : Dr b) : ∃ (T : List Int) (W : PV) (c : Int), Still W ∧ T.length ≤ 40 ∧ Pure Tryz.prog 7 [.list (rows a), .list (rows b)] (.tup [.list (ints T), .int .i64 c]) ∧ Pure Tryz.prog 8 [.list (rows a), .list (rows b)] (.tup [W, .int .i64 c]) ∧ Pure Tryz.prog 9 [.list (ints T), W] (.bool true) ∧
    ((c = 0 ∧ W = .list (ints T) ∧ Pure Tryz.prog 11 [.list (rows a), .list (rows b), .list (ints T)] (.tup [.bool true, .int .i64 0])) ∨ (c ≠ 0 ∧ T = [])) := by
  obtain ⟨a1, a2⟩ := ha.big
  obtain ⟨b1, b2⟩ := hb.big
  have out : ∀ c : Int, c ≠ 0 → ((isTab a = false ∨ isTab b = false) → c = 2) → (isTab a = true → isTab b = true → (10 < a.length ∨ 10 < b.length → c = 3) ∧ (a.length ≤ 10 → b.length ≤ 10 → (a.length ≠ b.length → c = 4) ∧ (a.length = b.length → comps a b a.length [] = [] ∧ c = 4))) → ∃ (T : List Int) (W : PV) (c : Int), Still W ∧ T.length ≤ 40 ∧ Pure Tryz.prog 7 [.list (rows a), .list (rows b)] (.tup [.list (ints T), .int .i64 c]) ∧ Pure Tryz.prog 8 [.list (rows a), .list (rows b)] (.tup [W, .int .i64 c]) ∧ Pure Tryz.prog 9 [.list (ints T), W] (.bool true) ∧
    ((c = 0 ∧ W = .list (ints T) ∧ Pure Tryz.prog 11 [.list (rows a), .list (rows b), .list (ints T)] (.tup [.bool true, .int .i64 0])) ∨ (c ≠ 0 ∧ T = [])) := fun c h0 h1 h2 =>
    ⟨[], .nils, c, inferInstance, by simp, NewIO.frozen (p7 a b a1 a2 b1 b2 ⟨fun h => ⟨h1 h, rfl⟩, fun h h' => ⟨fun g => ⟨(h2 h h').1 g, rfl⟩, fun g g' => ⟨fun e => ⟨((h2 h h').2 g g').1 e, rfl⟩, fun e => ⟨fun _ => ⟨(((h2 h h').2 g g').2 e).2, rfl⟩, fun q l hc => by rw [(((h2 h h').2 g g').2 e).1] at hc; cases hc⟩⟩⟩⟩),
      p8 a b a1 a2 b1 b2 ⟨fun h => ⟨h1 h, rfl⟩, fun h h' => ⟨fun g => ⟨(h2 h h').1 g, rfl⟩, fun g g' => ⟨fun e => ⟨((h2 h h').2 g g').1 e, rfl⟩, fun e => ⟨fun _ => ⟨(((h2 h h').2 g g').2 e).2, rfl⟩, fun q l hc => by rw [(((h2 h h').2 g g').2 e).1] at hc; cases hc⟩⟩⟩⟩,
      p9e, .inr ⟨h0, rfl⟩⟩
  by_cases h1 : isTab a = false ∨ isTab b = false
  · refine out 2 (by decide) (fun _ => rfl) fun h h' => ?_
    rcases h1 with h1 | h1
    · rw [h1] at h; cases h
    · rw [h1] at h'; cases h'
  have hta : isTab a = true := by cases h : isTab a <;> simp_all
  have htb : isTab b = true := by cases h : isTab b <;> simp_all
  by_cases h3 : 10 < a.length ∨ 10 < b.length
  · exact out 3 (by decide) (fun h => absurd h h1) fun _ _ => ⟨fun _ => rfl, fun g g' => by omega⟩
  by_cases h4 : a.length = b.length
  · cases hc : comps a b a.length [] with
    | nil => exact out 4 (by decide) (fun h => absurd h h1) fun _ _ => ⟨fun h => absurd h h3, fun _ _ => ⟨fun _ => rfl, fun _ => ⟨hc, rfl⟩⟩⟩
    | cons q l =>
      have hq := comps_len a.length [] q (by rw [hc]; simp)
      obtain ⟨i1, i2⟩ := comps_iso hta htb h4 (q := q) (by rw [hc]; simp)
      have hq2 : (toI q).length ≤ 40 := by simp at hq ⊢; omega
      have hI := p11 a b (toI q) a1 a2 b1 b2 (by omega)
      rw [i1, i2] at hI
      exact ⟨toI q, .list (ints (toI q)), 0, inferInstance, hq2, NewIO.frozen (p7 a b a1 a2 b1 b2 ⟨fun h => absurd h h1, fun _ _ => ⟨fun h => absurd h h3, fun _ _ => ⟨fun h => absurd h4 h, fun _ => ⟨fun h => (by rw [hc] at h; cases h), fun q' l' h => (by rw [hc] at h; cases h; exact ⟨rfl, rfl⟩)⟩⟩⟩⟩),
        p8 a b a1 a2 b1 b2 ⟨fun h => absurd h h1, fun _ _ => ⟨fun h => absurd h h3, fun _ _ => ⟨fun h => absurd h4 h, fun _ => ⟨fun h => (by rw [hc] at h; cases h), fun q' l' h => (by rw [hc] at h; cases h; exact ⟨rfl, rfl⟩)⟩⟩⟩⟩,
        p9 (toI q) (by omega), .inl ⟨rfl, rfl, hI⟩⟩
  · exact out 4 (by decide) (fun h => absurd h h1) fun _ _ => ⟨fun h => absurd h h3, fun _ _ => ⟨fun _ => rfl, fun h => absurd h h4⟩⟩
theorem p10 {l : List Int} (hl : Byt l) {K : PV → Heap → Prop} (hK : ∀ (a b : List (List Int)) (p : List Int), Dr a → Dr b → p.length ≤ 41 → K (.tup [.list (rows a), .list (rows b), .list (ints p)]) []) : ACall Tryz.prog 10 [.list (u8s l)] [] K := by
  refine e10 (by simp) fun _ _ => ?_
  simp only [k10, argEnv, take6, List.drop_zero, Int.cast_ofNat_Int, go_sem, ↓reduceIte, Nat.reduceEqDiff, Nat.reduceAdd, Nat.reduceMul, Nat.reduceLeDiff, Nat.reduceLT, Int.reduceLE, Int.reduceLT, reduceCtorEq]
  refine p55 hl fun h => ?_
  have hS0 : Src [srcO l 0 h] 0 l := ⟨0, h, rfl, Nat.zero_le _⟩
  try simp only [OpK_eq, HKv, take6, List.drop_zero, Int.cast_ofNat_Int, go_sem, ↓reduceIte, Nat.reduceEqDiff, Nat.reduceAdd, Nat.reduceMul, Nat.reduceLeDiff, Nat.reduceLT, Int.reduceLE, Int.reduceLT, reduceCtorEq]
  refine (p48 hl).go fun v s ⟨hs, a, b, ha, hb, hv⟩ => ?_
  subst hs; subst hv
  try simp only [OpK_eq, HKv, take6, List.drop_zero, Int.cast_ofNat_Int, go_sem, ↓reduceIte, Nat.reduceEqDiff, Nat.reduceAdd, Nat.reduceMul, Nat.reduceLeDiff, Nat.reduceLT, Int.reduceLE, Int.reduceLT, reduceCtorEq]
  obtain ⟨T, W, c, hW, hT, _, hs, _, hc⟩ := fi_loc ha hb
  refine hs.go ?_
  rcases hc with ⟨rfl, rfl, _⟩ | ⟨hc, rfl⟩
  rotate_left
  try simp only [OpK_eq, HKv, hc, decide_false, take6, List.drop_zero, Int.cast_ofNat_Int, go_sem, ↓reduceIte, Nat.reduceEqDiff, Nat.reduceAdd, Nat.reduceMul, Nat.reduceLeDiff, Nat.reduceLT, Int.reduceLE, Int.reduceLT, reduceCtorEq]
  have hS := hS0
  rotate_left
  try simp only [OpK_eq, HKv, take6, List.drop_zero, Int.cast_ofNat_Int, go_sem, ↓reduceIte, Nat.reduceEqDiff, Nat.reduceAdd, Nat.reduceMul, Nat.reduceLeDiff, Nat.reduceLT, Int.reduceLE, Int.reduceLT, reduceCtorEq]
  refine p56 hl hS0 _ fun r0 ρ q0 q1 hS1 _ _ => ?_
  try simp only [OpK_eq, HKv, take6, List.drop_zero, Int.cast_ofNat_Int, go_sem, ↓reduceIte, Nat.reduceEqDiff, Nat.reduceAdd, Nat.reduceMul, Nat.reduceLeDiff, Nat.reduceLT, Int.reduceLE, Int.reduceLT, reduceCtorEq]
  refine ⟨fun _ => Kv.Fin.still (hK a b T ha hb (by omega)), fun _ => ?_⟩
  have hS := hS1
  all_goals
    have hgb : ∀ (s : Heap) (a : AObj), (s ++ [a])[s.length]? = some a := fun s a => by simp
    refine p57S hl hS a.length (by have := ha.2.1; omega) fun L id ver τ p1 p2 p3 p4 p5 p6 => ?_
    have p0 := hS.lt
    have p9 := (List.getElem?_eq_some_iff.1 p6).1
    try simp only [OpK_eq, HKv, take6, List.drop_zero, Int.cast_ofNat_Int, go_sem, ↓reduceIte, Nat.reduceEqDiff, Nat.reduceAdd, Nat.reduceMul, Nat.reduceLeDiff, Nat.reduceLT, Int.reduceLE, Int.reduceLT, reduceCtorEq]
    refine p56 hl p3 _ fun r τ2 q0 q1 q2 q3 q4 => ?_
    have p7 := (q3.2 id p9 (by omega)).trans p6
    try simp only [OpK_eq, HKv, take6, List.drop_zero, Int.cast_ofNat_Int, go_sem, ↓reduceIte, Nat.reduceEqDiff, Nat.reduceAdd, Nat.reduceMul, Nat.reduceLeDiff, Nat.reduceLT, Int.reduceLE, Int.reduceLT, reduceCtorEq]
    refine ⟨fun _ => ?_, fun _ => Kv.Fin.freeze (Imm.tupL (.cons .still (.cons .still (.cons (Imm.refn p7 p1.symm) (.nil _))))) (hK a b L ha hb (by have := ha.2.1; omega))⟩
    refine p58 hl (q2.app _) [-1, 0, 1] (by simp) (id := τ2.length) (ver := 0) (e := 2) (hgb _ _) (by have := q2.lt; omega) 3 rfl fun r2 τ3 c2 c4 c5 c6 => ?_
    have hlt2 : id < τ2.length := by omega
    have p8 : τ3[id]? = some (.arr ver 2 1 (ints L)) := (c5.2 id (by simp; omega) (by omega)).trans ((List.getElem?_append_left hlt2).trans p7)
    try simp only [OpK_eq, HKv, p8, take6, List.drop_zero, Int.cast_ofNat_Int, go_sem, ↓reduceIte, Nat.reduceEqDiff, Nat.reduceAdd, Nat.reduceMul, Nat.reduceLeDiff, Nat.reduceLT, Int.reduceLE, Int.reduceLT, reduceCtorEq]
    have a1 := ha.1
    have p10 : (τ3.set id (.arr ver 2 1 (ints (L.set 0 r2))))[id]? = some (.arr ver 2 1 (ints (L.set 0 r2))) := List.getElem?_set_self (List.getElem?_eq_some_iff.1 p8).1
    exact ⟨⟨by omega, by omega⟩, by omega, fun _ => Kv.Fin.freeze (Imm.tupL (.cons .still (.cons .still (.cons (Imm.refn p10 (by simp [p1])) (.nil _))))) (hK a b (L.set 0 r2) ha hb (by have := ha.2.1; simp; omega))⟩
theorem ii_loc {a b : List (List Int)} (ha : Dr a) (hb : Dr b) (p : List Int) (hp : p.length ≤ 41) : ∃ (v : Bool) (c : Int), Pure Tryz.prog 11 [.list (rows a), .list (rows b), .list (ints p)] (.tup [.bool v, .int .i64 c]) ∧ Pure Tryz.prog 12 [.list (rows a), .list (rows b), .list (ints p)] (.tup [.bool v, .int .i64 c]) := by
  obtain ⟨a1, a2⟩ := ha.big
  obtain ⟨b1, b2⟩ := hb.big
  exact ⟨_, _, p11 a b p a1 a2 b1 b2 (by omega), p12 a b p a1 a2 b1 b2 (by omega)⟩
theorem cs_loc {t : List (List Int)} (ht : Dr t) : ∃ (v c : Int), Pure Tryz.prog 14 [.list (rows t)] (.tup [.int .i64 v, .int .i64 c]) ∧ Pure Tryz.prog 15 [.list (rows t)] (.tup [.int .i64 v, .int .i64 c]) ∧ (c = 0 → 1 ≤ v) := by
  obtain ⟨a1, a2⟩ := ht.big
  refine ⟨_, _, p14 t a1 a2, p15 t a1 a2, fun h => ?_⟩
  split at h
  · omega
  · split at h
    · rename_i h1 h2
      have h1 : isTab t = true := by simpa using h1
      rw [if_pos ⟨h1, h2⟩]
      have := syc_pos h1 t.length 0 (by omega)
      rw [List.range_zero] at this
      omega
    · omega
theorem pt_loc {a b : List (List Int)} (ha : Dr a) (hb : Dr b) : ∃ (V : PV) (c : Int), Still V ∧ Pure Tryz.prog 17 [.list (rows a), .list (rows b)] (.tup [V, .int .i64 c]) ∧ Pure Tryz.prog 18 [.list (rows a), .list (rows b)] (.tup [V, .int .i64 c]) ∧ Pure Tryz.prog 19 [V, V] (.bool true) ∧
    (c = 0 → ∃ x cx y cy z cz : Int, Pure Tryz.prog 25 [.list (rows a)] (.tup [.int .i64 x, .int .i64 cx]) ∧ Pure Tryz.prog 25 [.list (rows b)] (.tup [.int .i64 y, .int .i64 cy]) ∧ Pure Tryz.prog 25 [V] (.tup [.int .i64 z, .int .i64 cz]) ∧ (cz = 0 ↔ cx = 0 ∧ cy = 0) ∧ (cz = 0 → z = x * b.length + y) ∧ (0 ≤ x ∧ x ≤ 40) ∧ (0 ≤ y ∧ y ≤ 40)) := by
  obtain ⟨a1, a2⟩ := ha.big
  obtain ⟨b1, b2⟩ := hb.big
  by_cases h : isTab a = false ∨ isTab b = false
  · exact ⟨.nils, 2, inferInstance, p17_no a b a1 a2 b1 b2 h, p18_no a b a1 a2 b1 b2 h, p19nn, fun h => absurd h (by decide)⟩
  have h1 : isTab a = true := by cases h1 : isTab a <;> simp_all
  have h2 : isTab b = true := by cases h2 : isTab b <;> simp_all
  by_cases hN : a.length * b.length ≤ 40
  · have hT := ptb_isTab h1 h2 hN
    obtain ⟨⟨t1, t2⟩, t3, _⟩ := isTab_sq hT
    have hr' : ∀ r ∈ ptb a b (a.length * b.length), r.length ≤ 40 := fun r hr => by rw [t3.2 r hr]; exact t2
    refine ⟨_, 0, inferInstance, NewTO.frozen (NewTN.own (p17_in a b a1 a2 b1 b2 h1 h2 hN)), p18_in a b a1 a2 b1 b2 h1 h2 hN, p19 _ (by omega) (fun r hr => by have := hr' r hr; omega), fun _ => ?_⟩
    obtain ⟨p1, p2⟩ := pt_id h1 h2
    have hle : ∀ t : List (List Int), isTab t = true → idn t ≤ 39 := fun t ht => by
      have := (tab_sq ht).1
      rcases idn_cases t with ⟨g, _⟩ | ⟨e, he, _, g⟩ <;> omega
    have l1 := hle a h1
    have l2 := hle b h2
    refine ⟨_, _, _, _, _, _, p25 a a1 a2, p25 b b1 b2, p25 _ (by omega) (fun r hr => by have := hr' r hr; omega), ?_, ?_, ?_, ?_⟩
    · unfold idB
      rw [if_pos h1, if_pos h2, if_pos hT]
      by_cases g : 0 ≤ idn (ptb a b (a.length * b.length))
      · obtain ⟨g1, g2⟩ := p1.1 g
        rw [if_neg (by omega), if_neg (by omega), if_neg (by omega)]
        simp
      · have g' : ¬ (0 ≤ idn a ∧ 0 ≤ idn b) := fun h => g (p1.2 h)
        rw [if_pos (by omega)]
        constructor
        · intro h; omega
        · rintro ⟨e1, e2⟩
          exfalso
          split at e1
          · omega
          · split at e2 <;> omega
    · unfold idB idA
      rw [if_pos h1, if_pos h2, if_pos hT, if_pos hT]
      intro e
      by_cases g : 0 ≤ idn (ptb a b (a.length * b.length))
      · obtain ⟨g1, g2⟩ := p1.1 g
        rw [if_neg (by omega), if_neg (by omega), if_neg (by omega)]
        exact p2 g
      · rw [if_pos (by omega)] at e; omega
    · unfold idA; rw [if_pos h1]; split <;> omega
    · unfold idA; rw [if_pos h2]; split <;> omega
  · exact ⟨.nils, 3, inferInstance, p17_big a b a1 a2 b1 b2 h1 h2 hN, p18_big a b a1 a2 b1 b2 h1 h2 hN, p19nn, fun h => absurd h (by decide)⟩
end Go.Proofs.YthbbjbfbeaiphaaGreat
end
section
/- The identity of some points. -/
namespace Go.Proofs.YthbbjbfbeaiphaaGreat
open Go.Kv
set_option maxRecDepth 100000
def k73_b0 : KC := (.seq (.ops [oP 9 (.bin .lss (.t 8) (.t 7))])
  (.seq (.cond (.t 9) .skip (.exit 0))
  (.seq (.block 1 (.seq (.ops [mV 10 8, mV 4 10])
  (.ops [mV 11 4, mV 12 4, oP 13 (.fieldA 1 (.t 3)), oP 14 (.idxA 5 1 (.t 13) (.t 11)), ⟨none, none, .store 1 (.t 14) (.t 12)⟩])))
  (.ops [oP 15 (.bin .add (.t 8) (iC 1)), mV 8 15]))))
def k73 : KC := (.seq (.ops [oP 2 (.alloc [.int .i64 0, .int .i64 0, .int .i64 0, .int .i64 0, .int .i64 0, .int .i64 0])])
  (.seq (.ops [mV 5 0, oP 6 (.build [.int .i64 0, .int .i64 0, .int .i64 0, .int .i64 0, .int .i64 0, .int .i64 0] [(0, 1, (.t 5))]), oP 3 (.alloc [.int .i64 0, .int .i64 0, .int .i64 0, .int .i64 0, .int .i64 0, .int .i64 0]), ⟨none, none, .store 6 (.t 3) (.t 6)⟩])
  (.seq (.seq (.ops [mV 7 0, oP 8 (.mv (iC 0))])
  (.block 0 (.loop k73_b0)))
  (.seq (.ops [oP 16 (.load true 6 (.t 3)), ⟨none, none, .store 6 (.t 2) (.t 16)⟩])
  .ret))))
theorem e73 : Ent 73 17 [] [.cell 2 true 6] k73 := ent Tryz.func73 (by kernel_rfl) (by kernel_rfl) (by kernel_rfl) (fun _ => by kernel_rfl) (by kernel_rfl)
end Go.Proofs.YthbbjbfbeaiphaaGreat
namespace Go.Proofs.YthbbjbfbeaiphaaGreat
open Go.Kv
set_option linter.unusedVariables false
set_option linter.unusedSimpArgs false
attribute [local irreducible] ACall PCall KL
theorem p73 (n : Nat) (h1 : 1 ≤ n) (h5 : n ≤ 5) : Pure Tryz.prog 73 [.int .i64 n] (.agg (ints (mp (List.range n)))) := by
  refine e73 (by simp) fun _ _ => ?_
  simp only [k73, argEnv, take6, List.drop_zero, Int.cast_ofNat_Int, go_sem, ↓reduceIte, Nat.reduceEqDiff, Nat.reduceAdd, Nat.reduceMul, Nat.reduceLeDiff, Nat.reduceLT, Int.reduceLE, Int.reduceLT, reduceCtorEq]
  refine KL_ind k73_b0.eq_1 (fun x : Nat => [(2, .ptr 0 0), (3, .ptr 1 0), (7, .int .i64 n), (8, .int .i64 x)]) (fun x => [.box (ints [0, 0, 0, 0, 0, 0]), .box (ints (mpN n (List.range x)))]) (fun x => x ≤ n) (fun x => n - x) [2, 3, 7, 8] 0 (by rfl) (by rfl) (Nat.zero_le _) fun x hi ih => ?_
  have hl : (mpN n (List.range x)).length = 6 := mpN_length (by simp; omega)
  try simp only [hl, take6, List.drop_zero, Int.cast_ofNat_Int, go_sem, ↓reduceIte, Nat.reduceEqDiff, Nat.reduceAdd, Nat.reduceMul, Nat.reduceLeDiff, Nat.reduceLT, Int.reduceLE, Int.reduceLT, reduceCtorEq]
  refine ⟨fun h => ?_, fun h => ?_⟩
  · repeat' (first | refine And.intro ?_ ?_ | intro _)
    all_goals (try omega)
    refine ih (x + 1) (by omega) (by omega) _ _ (by rfl) ?_
    rw [mpN_pushI (by simp) (by simp; omega), ← List.range_succ]
  · obtain rfl : x = n := by omega
    refine Kv.Fin.still ⟨?_, rfl⟩
    simp [mp]
end Go.Proofs.YthbbjbfbeaiphaaGreat
end
