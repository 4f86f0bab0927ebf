/- The draws of maps. -/
import Derived.Test.YtpfapiiinkkcgaaGreatCb
import Derived.Test.YtpfapiiinkkcgaaGreatDB
namespace Go.Proofs.YtpfapiiinkkcgaaGreat
open Go.Kv
set_option maxRecDepth 100000
/- spec.l01DrawOf -/
/- live [0, 1, 4, 5, 6, 7] -/
def k125_b0 : KC := (.seq (.seq (.ops [⟨(some 29), none, .mv (.t 7)⟩, ⟨(some 30), none, .mv (.t 1)⟩, ⟨(some 31), none, .bin .lss (.t 29) (.t 30)⟩])
  (.cond (.t 31) .skip (.exit 1)))
  (.seq (.block 2 (.seq (.ops [⟨(some 34), none, .mv (.t 0)⟩, ⟨(some 35), none, .call (.c (.fn (.func 124) [] [])) [(.t 34), (.c (.int .i64 2))]⟩, ⟨(some 36), none, .bin .eql (.t 35) (.c (.int .i64 0))⟩])
  (.cond (.t 36) (.ops [⟨(some 37), none, .mv (.t 7)⟩, ⟨(some 38), none, .mv (.t 6)⟩, ⟨(some 39), none, .fieldA 1 (.t 5)⟩, ⟨(some 40), none, .idxA 5 1 (.t 39) (.t 37)⟩, ⟨none, none, .store 1 (.t 40) (.t 38)⟩]) .skip)))
  (.ops [⟨(some 32), none, .mv (.t 7)⟩, ⟨(some 33), none, .bin .add (.t 32) (.c (.int .i64 1))⟩, ⟨(some 7), none, .mv (.t 33)⟩])))
/- live [0, 1, 4, 5, 8, 9, 10] -/
def k125_b1 : KC := (.seq (.seq (.ops [⟨(some 54), none, .mv (.t 10)⟩, ⟨(some 55), none, .mv (.t 1)⟩, ⟨(some 56), none, .bin .lss (.t 54) (.t 55)⟩])
  (.cond (.t 56) .skip (.exit 3)))
  (.seq (.block 4 (.ops [⟨(some 59), none, .mv (.t 10)⟩, ⟨(some 60), none, .mv (.t 0)⟩, ⟨(some 61), none, .mv (.t 8)⟩, ⟨(some 62), none, .mv (.t 9)⟩, ⟨(some 63), none, .bsl false 2 1 [(.t 61), (.t 62)]⟩, ⟨(some 64), none, .call (.c (.fn (.func 76) [] [])) [(.t 60), (.t 63)]⟩, ⟨(some 65), none, .fieldA 1 (.t 5)⟩, ⟨(some 66), none, .idxA 5 1 (.t 65) (.t 59)⟩, ⟨none, none, .store 1 (.t 66) (.t 64)⟩]))
  (.ops [⟨(some 57), none, .mv (.t 10)⟩, ⟨(some 58), none, .bin .add (.t 57) (.c (.int .i64 1))⟩, ⟨(some 10), none, .mv (.t 58)⟩])))
/- live [0, 1, 4, 5, 11] -/
def k125_b2 : KC := (.seq (.seq (.ops [⟨(some 68), none, .mv (.t 11)⟩, ⟨(some 69), none, .mv (.t 1)⟩, ⟨(some 70), none, .bin .lss (.t 68) (.t 69)⟩])
  (.cond (.t 70) .skip (.exit 5)))
  (.seq (.block 6 (.ops [⟨(some 73), none, .mv (.t 11)⟩, ⟨(some 74), none, .mv (.t 0)⟩, ⟨(some 75), none, .mv (.t 1)⟩, ⟨(some 76), none, .call (.c (.fn (.func 124) [] [])) [(.t 74), (.t 75)]⟩, ⟨(some 77), none, .fieldA 1 (.t 5)⟩, ⟨(some 78), none, .idxA 5 1 (.t 77) (.t 73)⟩, ⟨none, none, .store 1 (.t 78) (.t 76)⟩]))
  (.ops [⟨(some 71), none, .mv (.t 11)⟩, ⟨(some 72), none, .bin .add (.t 71) (.c (.int .i64 1))⟩, ⟨(some 11), none, .mv (.t 72)⟩])))
def k125 : KC := (.seq (.ops [⟨(some 4), none, .alloc [.int .i64 0, .int .i64 0, .int .i64 0, .int .i64 0, .int .i64 0, .int .i64 0]⟩])
  (.seq (.ops [⟨(some 12), none, .mv (.t 1)⟩, ⟨(some 13), none, .build [.int .i64 0, .int .i64 0, .int .i64 0, .int .i64 0, .int .i64 0, .int .i64 0] [(0, 1, (.t 12))]⟩, ⟨(some 5), none, .alloc [.int .i64 0, .int .i64 0, .int .i64 0, .int .i64 0, .int .i64 0, .int .i64 0]⟩, ⟨none, none, .store 6 (.t 5) (.t 13)⟩])
  (.seq (.seq (.ops [⟨(some 14), none, .mv (.t 0)⟩, ⟨(some 15), none, .call (.c (.fn (.func 124) [] [])) [(.t 14), (.c (.int .i64 6))]⟩])
  (.block 0 (.seq (.ops [⟨(some 17), none, .bin .eql (.t 15) (.c (.int .i64 0))⟩, ⟨(some 16), none, .mv (.t 17)⟩])
  (.cond (.t 16) (.seq (.ops [⟨(some 18), none, .mv (.t 0)⟩, ⟨(some 19), none, .mv (.t 1)⟩, ⟨(some 20), none, .call (.c (.fn (.func 123) [] [])) [(.t 18), (.t 19)]⟩, ⟨(some 21), none, .call (.c (.fn (.func 116) [] [])) [(.t 20)]⟩, ⟨none, none, .store 6 (.t 4) (.t 21)⟩])
  .ret) (.seq (.ops [⟨(some 23), none, .bin .eql (.t 15) (.c (.int .i64 1))⟩, ⟨(some 22), none, .mv (.t 23)⟩])
  (.cond (.t 22) (.seq (.ops [⟨(some 24), none, .mv (.t 1)⟩, ⟨(some 25), none, .call (.c (.fn (.func 143) [] [])) [(.t 24)]⟩, ⟨none, none, .store 6 (.t 5) (.t 25)⟩])
  (.seq (.ops [⟨(some 26), none, .mv (.t 0)⟩, ⟨(some 27), none, .mv (.t 1)⟩, ⟨(some 28), none, .call (.c (.fn (.func 124) [] [])) [(.t 26), (.t 27)]⟩, ⟨(some 6), none, .mv (.t 28)⟩])
  (.seq (.seq (.ops [⟨(some 7), none, .mv (.c (.int .i64 0))⟩])
  (.block 1 (.loop k125_b0)))
  (.seq (.ops [⟨(some 41), none, .mv (.t 6)⟩, ⟨(some 42), none, .mv (.t 6)⟩, ⟨(some 43), none, .fieldA 1 (.t 5)⟩, ⟨(some 44), none, .idxA 5 1 (.t 43) (.t 41)⟩, ⟨none, none, .store 1 (.t 44) (.t 42)⟩])
  (.seq (.ops [⟨(some 45), none, .load true 6 (.t 5)⟩, ⟨none, none, .store 6 (.t 4) (.t 45)⟩])
  .ret))))) (.seq (.ops [⟨(some 47), none, .bin .eql (.t 15) (.c (.int .i64 2))⟩, ⟨(some 46), none, .mv (.t 47)⟩])
  (.cond (.t 46) (.seq (.ops [⟨(some 48), none, .mv (.t 0)⟩, ⟨(some 49), none, .mv (.t 1)⟩, ⟨(some 50), none, .call (.c (.fn (.func 124) [] [])) [(.t 48), (.t 49)]⟩, ⟨(some 51), none, .mv (.t 0)⟩, ⟨(some 52), none, .mv (.t 1)⟩, ⟨(some 53), none, .call (.c (.fn (.func 124) [] [])) [(.t 51), (.t 52)]⟩, ⟨(some 8), none, .mv (.t 50)⟩, ⟨(some 9), none, .mv (.t 53)⟩])
  (.seq (.seq (.ops [⟨(some 10), none, .mv (.c (.int .i64 0))⟩])
  (.block 3 (.loop k125_b1)))
  (.seq (.ops [⟨(some 67), none, .load true 6 (.t 5)⟩, ⟨none, none, .store 6 (.t 4) (.t 67)⟩])
  .ret))) .skip))))))))
  (.seq (.seq (.ops [⟨(some 11), none, .mv (.c (.int .i64 0))⟩])
  (.block 5 (.loop k125_b2)))
  (.seq (.ops [⟨(some 79), none, .load true 6 (.t 5)⟩, ⟨none, none, .store 6 (.t 4) (.t 79)⟩])
  .ret)))))
theorem e125 {args : List PV} {σ : Heap} {K : PV → Heap → Prop} (hl : args.length ≤ 80) (h : Wf σ → (∀ a ∈ args, PV.upto σ.length a) → vc (mkCfg Tryz.prog mixed [] 80 σ.length) k125 (FinK σ.length [.cell 4 true 6] K) (argEnv 0 args) σ) : ACall Tryz.prog 125 args σ K :=
  ACall_enter (C := mkCfg Tryz.prog mixed [] 80 σ.length) (c := Tryz.f125.body.getD .skip) Tryz.func125 (by kernel_rfl) (by kernel_rfl) (by kernel_rfl) rfl hl (by kernel_rfl) (by kernel_rfl) h
end Go.Proofs.YtpfapiiinkkcgaaGreat
namespace Go.Proofs.YtpfapiiinkkcgaaGreat
open Go.Kv
set_option linter.unusedVariables false
set_option linter.unusedSimpArgs false
attribute [local irreducible] ACall PCall KL
def z6 : List PV := [PV.int .i64 0, PV.int .i64 0, PV.int .i64 0, PV.int .i64 0, PV.int .i64 0, PV.int .i64 0]
/-- A map that is being drawn: two boxes behind the caller's heap. -/
structure DI (n : Nat) (σ τ : Heap) (b : Nat) (l m : List Int) : Prop where
  src : Src τ b l
  kept : Kept σ τ b
  a : τ[σ.length]? = some (.box [PV.int .i64 0, PV.int .i64 0, PV.int .i64 0, PV.int .i64 0, PV.int .i64 0, PV.int .i64 0])
  c : τ[σ.length + 1]? = some (.box (ints m))
  len : m.length = 6
  pt : ∃ f, Ok f n ∧ m = mp f
  lt : b < σ.length
theorem DI.step {n : Nat} {σ τ τ' : Heap} {b : Nat} {l m : List Int} (h : DI n σ τ b l m) (hS : Src τ' b l) (hK : Kept τ τ' b) : DI n σ τ' b l m :=
  have h1 := (List.getElem?_eq_some_iff.1 h.a).1
  have h2 := (List.getElem?_eq_some_iff.1 h.c).1
  have h3 := h.lt
  ⟨hS, h.kept.trans hK, (hK.2 _ h1 (by omega)).trans h.a, (hK.2 _ h2 (by omega)).trans h.c, h.len, h.pt, h.lt⟩
theorem DI.app {n : Nat} {σ τ : Heap} {b : Nat} {l m : List Int} (h : DI n σ τ b l m) (X : Heap) : DI n σ (τ ++ X) b l m := h.step (h.src.app X) (Kept.app _ _ _)
theorem DI.set {n : Nat} {σ τ : Heap} {b : Nat} {l m : List Int} (h : DI n σ τ b l m) {m' : List Int} (h6 : m'.length = 6) (hp : ∃ f, Ok f n ∧ m' = mp f) : DI n σ (τ.set (σ.length + 1) (.box (ints m'))) b l m' :=
  have h2 := (List.getElem?_eq_some_iff.1 h.c).1
  have h3 := h.lt
  ⟨h.src.keep (List.getElem?_set_ne (by omega)), ⟨by rw [List.length_set]; exact h.kept.1, fun j hj hb => (List.getElem?_set_ne (by omega)).trans (h.kept.2 j hj hb)⟩, (List.getElem?_set_ne (by omega)).trans h.a, List.getElem?_set_self h2, h6, hp, h.lt⟩
theorem DI.fin {n : Nat} {σ τ : Heap} {b : Nat} {l m : List Int} (h : DI n σ τ b l m) (o : AObj) : Src (τ.set σ.length o) b l ∧ Kept σ (τ.set σ.length o) b :=
  have h3 := h.lt
  ⟨h.src.keep (List.getElem?_set_ne (by omega)), by rw [List.length_set]; exact h.kept.1, fun j hj hb => (List.getElem?_set_ne (by omega)).trans (h.kept.2 j hj hb)⟩
theorem set_pt {n : Nat} {m : List Int} {k : Nat} {v : Int} (h : ∃ f, Ok f n ∧ m = mp f) (hk : k < n) (hv : 0 ≤ v ∧ v < n) : ∃ f, Ok f n ∧ m.set (k + 1) v = mp f := by
  obtain ⟨f, hf, rfl⟩ := h
  have hvn : v.toNat < n := by omega
  have hkl : k < f.length := by rw [hf.len]; exact hk
  refine ⟨f.set k v.toNat, ⟨by rw [List.length_set, hf.len], hf.pos, hf.le, fun x hx => ?_⟩, ?_⟩
  · rcases List.mem_or_eq_of_mem_set hx with h | h
    · exact hf.lt x h
    · omega
  · have hv2 : ((v.toNat : Nat) : Int) = v := by omega
    have := mpN_set (n := (f.length : Int)) (l := f) (i := k) (v := v.toNat) hkl
    rw [hv2] at this
    rw [mp, mp, List.length_set, this]
theorem ints_set1 (m : List Int) (o : Nat) (v : Int) : (ints m).set o (.int .i64 v) = ints (m.set o v) := by simp [ints, List.map_set]
theorem p125S {l : List Int} (hl : Byt l) {σ : Heap} {b : Nat} (hS : Src σ b l) (n : Nat) (hn1 : 1 ≤ n) (hn : n ≤ 5) {K : PV → Heap → Prop}
    (hK : ∀ (m : List Int) σ', m.length = 6 → (∃ f, Ok f n ∧ m = mp f) → Src σ' b l → Kept σ σ' b → K (.agg (ints m)) σ') : ACall Tryz.prog 125 [.ptr b 0, .int .i64 n] σ K := by
  have hlt := hS.lt
  have hg1 : ∀ a c : AObj, (σ ++ [a] ++ [c])[σ.length + 1]? = some c := fun a c => by
    rw [List.getElem?_append_right (by simp)]; simp
  have hs1 : ∀ a c d : AObj, (σ ++ [a] ++ [c]).set (σ.length + 1) d = σ ++ [a] ++ [d] := fun a c d => by
    rw [List.set_append_right _ _ (by simp)]; simp
  have hg0 : ∀ a c : AObj, (σ ++ [a] ++ [c])[σ.length]? = some a := fun a c => by
    rw [List.getElem?_append_left (by simp)]; simp
  refine e125 (by simp) fun _ _ => ?_
  simp only [k125, argEnv, take6, List.drop_zero, Int.cast_ofNat_Int, go_sem, ↓reduceIte, Nat.reduceEqDiff, Nat.reduceAdd, Nat.reduceMul, Nat.reduceLeDiff, Nat.reduceLT, Int.reduceLE, Int.reduceLT, reduceCtorEq]
  try simp only [OpK_eq, HKv, hg1, hs1, take6, List.drop_zero, Int.cast_ofNat_Int, go_sem, ↓reduceIte, Nat.reduceEqDiff, Nat.reduceAdd, Nat.reduceMul, Nat.reduceLeDiff, Nat.reduceLT, Int.reduceLE, Int.reduceLT, reduceCtorEq]
  have hD0 : ∀ (a : AObj), DI n σ (σ ++ [AObj.box [PV.int .i64 0, PV.int .i64 0, PV.int .i64 0, PV.int .i64 0, PV.int .i64 0, PV.int .i64 0]] ++ [.box (ints [(n : Int), 0, 0, 0, 0, 0])]) b l [(n : Int), 0, 0, 0, 0, 0] := fun _ => ⟨(hS.app _).app _, (Kept.app _ _ _).trans (Kept.app _ _ _), hg0 _ _, hg1 _ _, rfl, ⟨List.replicate n 0, ⟨by simp, hn1, hn, fun x hx => by rw [List.eq_of_mem_replicate hx]; omega⟩, by rw [mp, List.length_replicate, mpN_rep hn]⟩, hlt⟩
  have hD0 := hD0 .dead
  refine p124 hl hD0.src _ fun r τ h2 h3 h4 h5 h6 => ?_
  have hD := hD0.step h4 h5
  clear h4 h5 h6 hD0 hg1 hs1 hg0
  generalize hm0 : [(n : Int), 0, 0, 0, 0, 0] = m0 at hD
  clear hm0
  have hA := hD.a
  have hC := hD.c
  try simp only [OpK_eq, HKv, take6, List.drop_zero, Int.cast_ofNat_Int, go_sem, ↓reduceIte, Nat.reduceEqDiff, Nat.reduceAdd, Nat.reduceMul, Nat.reduceLeDiff, Nat.reduceLT, Int.reduceLE, Int.reduceLT, reduceCtorEq]
  have hself : ∀ (ρ : Heap) (m : List Int) (o : AObj), DI n σ ρ b l m → (ρ.set σ.length o)[σ.length]? = some o := fun ρ m o h => List.getElem?_set_self (List.getElem?_eq_some_iff.1 h.a).1
  have hself5 : ∀ (ρ : Heap) (m : List Int) (o : AObj), DI n σ ρ b l m → (ρ.set (σ.length + 1) o)[σ.length + 1]? = some o := fun ρ m o h => List.getElem?_set_self (List.getElem?_eq_some_iff.1 h.c).1
  refine ⟨fun _ => ?_, fun hr0 => ⟨fun _ => ?_, fun hr1 => ⟨fun _ => ?_, fun hr2 => ?_⟩⟩⟩
  · refine p123 hl hD.src n hn fun L id ver τ' q1 q2 q3 q4 q5 q6 => ?_
    have hX := hD.step q3 q4
    have eL : (L.map Int.toNat).map (fun x : Nat => (x : Int)) = L := by
      rw [List.map_map]
      conv => rhs; rw [← List.map_id L]
      exact List.map_congr_left fun x hx => by have := (q2 x hx).1; simp only [Function.comp_apply, id_eq]; omega
    have hM := p116 (L.map Int.toNat) (by rw [List.length_map]; omega)
    rw [eL] at hM
    have h62 : (mp (L.map Int.toNat)).length = 6 := mpN_length (by rw [List.length_map]; omega)
    have hpt : ∃ f, Ok f n ∧ mp (L.map Int.toNat) = mp f := ⟨_, ⟨by rw [List.length_map, q1], hn1, hn, fun x hx => by
      obtain ⟨y, hy, rfl⟩ := List.mem_map.1 hx
      have := q2 y hy; omega⟩, rfl⟩
    try simp only [OpK_eq, HKv, take6, List.drop_zero, Int.cast_ofNat_Int, go_sem, ↓reduceIte, Nat.reduceEqDiff, Nat.reduceAdd, Nat.reduceMul, Nat.reduceLeDiff, Nat.reduceLT, Int.reduceLE, Int.reduceLT, reduceCtorEq]
    refine hM.use (Plain.aggi _) (.cons (Imm.refn q6 q1.symm) (.nil _)) ?_
    have hA2 := hX.a
    have hs2 := fun o => hself _ _ o hX
    generalize mp (L.map Int.toNat) = m at *
    have hil : (ints m).length = 6 := by rw [ints_length, h62]
    try simp only [OpK_eq, HKv, hA2, hs2, hil, h62, take6, List.drop_zero, Int.cast_ofNat_Int, go_sem, ↓reduceIte, Nat.reduceEqDiff, Nat.reduceAdd, Nat.reduceMul, Nat.reduceLeDiff, Nat.reduceLT, Int.reduceLE, Int.reduceLT, reduceCtorEq]
    exact Kv.Fin.now (hK _ _ h62 hpt (hX.fin _).1 (hX.fin _).2)
  · refine (p143 n hn1 hn).go ?_
    have h6m : (mp (List.range n)).length = 6 := mpN_length (by rw [List.length_range]; omega)
    have hpt : ∃ f, Ok f n ∧ mp (List.range n) = mp f := ⟨_, ⟨by simp, hn1, hn, fun x hx => List.mem_range.1 hx⟩, rfl⟩
    generalize mp (List.range n) = m1 at *
    have hil1 : (ints m1).length = 6 := by rw [ints_length, h6m]
    have hil0 : (ints m0).length = 6 := by rw [ints_length, hD.len]
    try simp only [OpK_eq, HKv, hC, hil1, hil0, take6, List.drop_zero, Int.cast_ofNat_Int, go_sem, ↓reduceIte, Nat.reduceEqDiff, Nat.reduceAdd, Nat.reduceMul, Nat.reduceLeDiff, Nat.reduceLT, Int.reduceLE, Int.reduceLT, reduceCtorEq]
    have hD1 := hD.set h6m hpt
    refine p124 hl hD1.src _ fun r1 τ1 h2 h3 h4 h5 h6 => ?_
    have h3 := h3 (by omega)
    have hD2 := hD1.step h4 h5
    have hr1b : 0 ≤ r1 ∧ r1 < n := ⟨h2, h3⟩
    clear h4 h5 h6 hD1 hA hC hD
    try simp only [OpK_eq, HKv, take6, List.drop_zero, Int.cast_ofNat_Int, go_sem, ↓reduceIte, Nat.reduceEqDiff, Nat.reduceAdd, Nat.reduceMul, Nat.reduceLeDiff, Nat.reduceLT, Int.reduceLE, Int.reduceLT, reduceCtorEq]
    refine KL_ind k125_b0.eq_1 (fun y : Nat × List Int × Heap => [(0, .ptr b 0), (1, .int .i64 n), (4, .ptr σ.length 0), (5, .ptr (σ.length + 1) 0), (6, .int .i64 r1), (7, .int .i64 y.1)]) (fun y => y.2.2) (fun y => y.1 ≤ n ∧ DI n σ y.2.2 b l y.2.1) (fun y => n - y.1) [0, 1, 4, 5, 6, 7] (0, m1, τ1) (by simp [keep]) rfl ⟨Nat.zero_le _, hD2⟩ fun ⟨k, m, ρ⟩ ⟨hk, hX⟩ ih => ?_
    simp only at hk hX
    try simp only [OpK_eq, HKv, take6, List.drop_zero, Int.cast_ofNat_Int, go_sem, ↓reduceIte, Nat.reduceEqDiff, Nat.reduceAdd, Nat.reduceMul, Nat.reduceLeDiff, Nat.reduceLT, Int.reduceLE, Int.reduceLT, reduceCtorEq]
    refine ⟨fun g1 => ?_, fun g1 => ?_⟩
    · refine p124 hl hX.src _ fun r2 ρ' h2 h3' h4 h5 h6 => ?_
      have hY := hX.step h4 h5
      have hC2 := hY.c
      have hil : (ints m).length = 6 := by rw [ints_length, hY.len]
      try simp only [OpK_eq, HKv, hC2, hil, ints_set1, take6, List.drop_zero, Int.cast_ofNat_Int, go_sem, ↓reduceIte, Nat.reduceEqDiff, Nat.reduceAdd, Nat.reduceMul, Nat.reduceLeDiff, Nat.reduceLT, Int.reduceLE, Int.reduceLT, reduceCtorEq]
      refine ⟨fun _ => ⟨by omega, by omega, by omega, ih (k + 1, m.set (k + 1) r1, _) ⟨by show k + 1 ≤ n; omega, hY.set (by rw [List.length_set]; exact hY.len) (set_pt hY.pt (by omega) hr1b)⟩ (by show n - (k + 1) < n - k; omega) _ _ (by simp [keep]) rfl⟩, fun _ => ⟨by omega, ih (k + 1, m, _) ⟨by show k + 1 ≤ n; omega, hY⟩ (by show n - (k + 1) < n - k; omega) _ _ (by simp [keep]) rfl⟩⟩
    · obtain rfl : k = n := by omega
      have hC2 := hX.c
      have h62 := hX.len
      have hil : (ints m).length = 6 := by rw [ints_length, h62]
      have hZ := hX.set (m' := m.set (r1.toNat + 1) r1) (by rw [List.length_set]; exact h62) (set_pt hX.pt (by omega) hr1b)
      have hA3 := hZ.a
      have hC3 := hZ.c
      have h63 := hZ.len
      have hs2 := fun o => hself _ _ o hZ
      have hil3 : (ints (m.set (r1.toNat + 1) r1)).length = 6 := by rw [ints_length, h63]
      try simp only [OpK_eq, HKv, hC2, hil, ints_set1, hA3, hC3, hs2, hil3, h63, take6, List.drop_zero, Int.cast_ofNat_Int, go_sem, ↓reduceIte, Nat.reduceEqDiff, Nat.reduceAdd, Nat.reduceMul, Nat.reduceLeDiff, Nat.reduceLT, Int.reduceLE, Int.reduceLT, reduceCtorEq]
      refine ⟨by omega, by omega, Kv.Fin.now (hK _ _ h63 hZ.pt (hZ.fin _).1 (hZ.fin _).2)⟩
  · refine p124 hl hD.src _ fun ra τ1 h2 h3 h4 h5 h6 => ?_
    have hD1 := hD.step h4 h5
    clear h4 h5 h6 hA hC hD
    try simp only [OpK_eq, HKv, take6, List.drop_zero, Int.cast_ofNat_Int, go_sem, ↓reduceIte, Nat.reduceEqDiff, Nat.reduceAdd, Nat.reduceMul, Nat.reduceLeDiff, Nat.reduceLT, Int.reduceLE, Int.reduceLT, reduceCtorEq]
    refine p124 hl hD1.src _ fun rb τ2 h2' h3' h4 h5 h6 => ?_
    have hD2 := hD1.step h4 h5
    have hra : 0 ≤ ra ∧ ra < n := ⟨h2, h3 (by omega)⟩
    have hrb : 0 ≤ rb ∧ rb < n := ⟨h2', h3' (by omega)⟩
    clear h4 h5 h6 hD1
    try simp only [OpK_eq, HKv, take6, List.drop_zero, Int.cast_ofNat_Int, go_sem, ↓reduceIte, Nat.reduceEqDiff, Nat.reduceAdd, Nat.reduceMul, Nat.reduceLeDiff, Nat.reduceLT, Int.reduceLE, Int.reduceLT, reduceCtorEq]
    refine KL_ind k125_b1.eq_1 (fun y : Nat × List Int × Heap => [(0, .ptr b 0), (1, .int .i64 n), (4, .ptr σ.length 0), (5, .ptr (σ.length + 1) 0), (8, .int .i64 ra), (9, .int .i64 rb), (10, .int .i64 y.1)]) (fun y => y.2.2) (fun y => y.1 ≤ n ∧ DI n σ y.2.2 b l y.2.1) (fun y => n - y.1) [0, 1, 4, 5, 8, 9, 10] (0, m0, τ2) (by simp [keep]) rfl ⟨Nat.zero_le _, hD2⟩ fun ⟨k, m, ρ⟩ ⟨hk, hX⟩ ih => ?_
    simp only at hk hX
    try simp only [OpK_eq, HKv, take6, List.drop_zero, Int.cast_ofNat_Int, go_sem, ↓reduceIte, Nat.reduceEqDiff, Nat.reduceAdd, Nat.reduceMul, Nat.reduceLeDiff, Nat.reduceLT, Int.reduceLE, Int.reduceLT, reduceCtorEq]
    refine ⟨fun g1 => ?_, fun g1 => ?_⟩
    · have hX1 := hX.app [.arr 0 2 1 (ints [ra, rb])]
      refine p76 hl hX1.src [ra, rb] (by simp) (id := ρ.length) (by simp; rfl) (by have := hX.src.lt; omega) 2 rfl fun r2 ρ' h2 h4 h5 h6 => ?_
      have hY := hX1.step h4 h5
      have hC2 := hY.c
      have hil : (ints m).length = 6 := by rw [ints_length, hY.len]
      try simp only [OpK_eq, HKv, hC2, hil, ints_set1, take6, List.drop_zero, Int.cast_ofNat_Int, go_sem, ↓reduceIte, Nat.reduceEqDiff, Nat.reduceAdd, Nat.reduceMul, Nat.reduceLeDiff, Nat.reduceLT, Int.reduceLE, Int.reduceLT, reduceCtorEq]
      have hr2b : 0 ≤ r2 ∧ r2 < n := by
        simp only [List.mem_cons, List.not_mem_nil, or_false] at h2
        rcases h2 with rfl | rfl
        · exact hra
        · exact hrb
      exact ⟨by omega, by omega, by omega, ih (k + 1, m.set (k + 1) r2, _) ⟨by show k + 1 ≤ n; omega, hY.set (by rw [List.length_set]; exact hY.len) (set_pt hY.pt (by omega) hr2b)⟩ (by show n - (k + 1) < n - k; omega) _ _ (by simp [keep]) rfl⟩
    · obtain rfl : k = n := by omega
      have hA2 := hX.a
      have hC2 := hX.c
      have h62 := hX.len
      have hs2 := fun o => hself _ _ o hX
      have hil : (ints m).length = 6 := by rw [ints_length, h62]
      try simp only [OpK_eq, HKv, hA2, hC2, hs2, hil, h62, take6, List.drop_zero, Int.cast_ofNat_Int, go_sem, ↓reduceIte, Nat.reduceEqDiff, Nat.reduceAdd, Nat.reduceMul, Nat.reduceLeDiff, Nat.reduceLT, Int.reduceLE, Int.reduceLT, reduceCtorEq]
      exact Kv.Fin.now (hK _ _ h62 hX.pt (hX.fin _).1 (hX.fin _).2)
  · refine KL_ind k125_b2.eq_1 (fun y : Nat × List Int × Heap => [(0, .ptr b 0), (1, .int .i64 n), (4, .ptr σ.length 0), (5, .ptr (σ.length + 1) 0), (11, .int .i64 y.1)]) (fun y => y.2.2) (fun y => y.1 ≤ n ∧ DI n σ y.2.2 b l y.2.1) (fun y => n - y.1) [0, 1, 4, 5, 11] (0, m0, τ) (by simp [keep]) rfl ⟨Nat.zero_le _, hD⟩ fun ⟨k, m, ρ⟩ ⟨hk, hX⟩ ih => ?_
    simp only at hk hX
    try simp only [OpK_eq, HKv, take6, List.drop_zero, Int.cast_ofNat_Int, go_sem, ↓reduceIte, Nat.reduceEqDiff, Nat.reduceAdd, Nat.reduceMul, Nat.reduceLeDiff, Nat.reduceLT, Int.reduceLE, Int.reduceLT, reduceCtorEq]
    refine ⟨fun g1 => ?_, fun g1 => ?_⟩
    · refine p124 hl hX.src _ fun r2 ρ' h2 h3 h4 h5 h6 => ?_
      have hY := hX.step h4 h5
      have hC2 := hY.c
      have hil : (ints m).length = 6 := by rw [ints_length, hY.len]
      try simp only [OpK_eq, HKv, hC2, hil, ints_set1, take6, List.drop_zero, Int.cast_ofNat_Int, go_sem, ↓reduceIte, Nat.reduceEqDiff, Nat.reduceAdd, Nat.reduceMul, Nat.reduceLeDiff, Nat.reduceLT, Int.reduceLE, Int.reduceLT, reduceCtorEq]
      have hr2b : 0 ≤ r2 ∧ r2 < n := ⟨h2, h3 (by omega)⟩
      exact ⟨by omega, by omega, by omega, ih (k + 1, m.set (k + 1) r2, _) ⟨by show k + 1 ≤ n; omega, hY.set (by rw [List.length_set]; exact hY.len) (set_pt hY.pt (by omega) hr2b)⟩ (by show n - (k + 1) < n - k; omega) _ _ (by simp [keep]) rfl⟩
    · obtain rfl : k = n := by omega
      have hA2 := hX.a
      have hC2 := hX.c
      have h62 := hX.len
      have hs2 := fun o => hself _ _ o hX
      have hil : (ints m).length = 6 := by rw [ints_length, h62]
      try simp only [OpK_eq, HKv, hA2, hC2, hs2, hil, h62, take6, List.drop_zero, Int.cast_ofNat_Int, go_sem, ↓reduceIte, Nat.reduceEqDiff, Nat.reduceAdd, Nat.reduceMul, Nat.reduceLeDiff, Nat.reduceLT, Int.reduceLE, Int.reduceLT, reduceCtorEq]
      exact Kv.Fin.now (hK _ _ h62 hX.pt (hX.fin _).1 (hX.fin _).2)
theorem p125 {l : List Int} (hl : Byt l) {σ : Heap} {b : Nat} (hS : Src σ b l) (n : Nat) (hn1 : 1 ≤ n) (hn : n ≤ 5) {K : PV → Heap → Prop}
    (hK : ∀ (m : List Int) σ', m.length = 6 → (0 ≤ m.getD 0 0 ∧ m.getD 0 0 ≤ 5) → Src σ' b l → Kept σ σ' b → K (.agg (ints m)) σ') : ACall Tryz.prog 125 [.ptr b 0, .int .i64 n] σ K :=
  p125S hl hS n hn1 hn fun m σ' h1 h2 h3 h4 => hK m σ' h1 (by
    obtain ⟨f, hf, rfl⟩ := h2
    have : (mp f).getD 0 0 = (f.length : Int) := rfl
    rw [this, hf.len]; omega) h3 h4
end Go.Proofs.YtpfapiiinkkcgaaGreat
