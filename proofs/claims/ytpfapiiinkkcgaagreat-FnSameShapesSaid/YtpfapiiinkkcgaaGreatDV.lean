/- The draw of two maps, often of the same shape: the walk. -/
import Derived.Test.YtpfapiiinkkcgaaGreatDU
namespace Go.Proofs.YtpfapiiinkkcgaaGreat
open Go.Kv
set_option linter.unusedVariables false
set_option linter.unusedSimpArgs false
attribute [local irreducible] ACall PCall KL
theorem p47 {l : List Int} (hl : Byt l) {K : PV → Heap → Prop} (hK : ∀ m m' : List Int, m.length = 6 → m'.length = 6 → K (.tup [.agg (ints m), .agg (ints m')]) []) : ACall Tryz.prog 47 [.list (u8s l)] [] K := by
  refine e47 (by simp) fun _ _ => ?_
  simp only [k47, argEnv, take6, List.drop_zero, Int.cast_ofNat_Int, go_sem, ↓reduceIte, Nat.reduceEqDiff, Nat.reduceAdd, Nat.reduceMul, Nat.reduceLeDiff, Nat.reduceLT, Int.reduceLE, Int.reduceLT, reduceCtorEq]
  generalize hz : AObj.box [PV.int .i64 0, PV.int .i64 0, PV.int .i64 0, PV.int .i64 0, PV.int .i64 0, PV.int .i64 0] = z
  refine p68G hl fun h => ?_
  have hS0 : Src ([z, z] ++ [srcO l 0 h]) 2 l := ⟨0, h, rfl, Nat.zero_le _⟩
  try simp only [OpK_eq, HKv, take6, List.drop_zero, Int.cast_ofNat_Int, go_sem, ↓reduceIte, Nat.reduceEqDiff, Nat.reduceAdd, Nat.reduceMul, Nat.reduceLeDiff, Nat.reduceLT, Int.reduceLE, Int.reduceLT, reduceCtorEq]
  refine p122S hl hS0 fun m τ q1 ⟨f, n, hf, hm⟩ q3 q4 => ?_
  subst hm
  have hτz : τ[0]? = some z := (q4.2 0 (by simp) (by decide)).trans rfl
  have hτz1 : τ[1]? = some z := (q4.2 1 (by simp) (by decide)).trans rfl
  have hgb : ∀ (s : Heap) (a : AObj), (s ++ [a])[s.length]? = some a := fun s a => by simp
  have hsb : ∀ (s : Heap) (a b : AObj), (s ++ [a]).set s.length b = s ++ [b] := fun s a b => by simp [List.set_append_right]
  have hil : (ints (mp f)).length = 6 := by rw [ints_length, q1]
  have hlt := q3.lt
  have hSA : SA (τ ++ [.box (ints (mp f))]) τ.length l f z z := ⟨q3.app _, (List.getElem?_append_left (by omega)).trans hτz, (List.getElem?_append_left (by omega)).trans hτz1, hgb _ _, hlt⟩
  try simp only [OpK_eq, HKv, hgb, hsb, hil, q1, take6, List.drop_zero, Int.cast_ofNat_Int, go_sem, ↓reduceIte, Nat.reduceEqDiff, Nat.reduceAdd, Nat.reduceMul, Nat.reduceLeDiff, Nat.reduceLT, Int.reduceLE, Int.reduceLT, reduceCtorEq]
  refine das_t0 hl hf hSA rfl rfl rfl rfl fun env' ρ b g hk hS => ?_
  obtain ⟨k2, k3, k4, k5, k6⟩ : Kv.look env' 2 = PV.ptr 0 0 ∧ Kv.look env' 3 = PV.ptr 1 0 ∧ Kv.look env' 4 = PV.ptr 2 0 ∧ Kv.look env' 5 = PV.ptr τ.length 0 ∧ Kv.look env' 6 = PV.ptr b 0 := by simpa [keep] using hk
  clear hk hSA hS0 hτz hτz1 q3 q4
  try simp only [OpK_eq, HKv, k4, take6, List.drop_zero, Int.cast_ofNat_Int, go_sem, ↓reduceIte, Nat.reduceEqDiff, Nat.reduceAdd, Nat.reduceMul, Nat.reduceLeDiff, Nat.reduceLT, Int.reduceLE, Int.reduceLT, reduceCtorEq]
  refine p124 hl hS.s.src _ fun r ρ1 n1 n2 n3 n4 n5 => ?_
  replace hS := hS.step n3 n4
  clear n3 n4 n5
  have hp0 : (mp f).getD 0 0 = (n : Int) := by rw [mp, hf.len]; rfl
  have hfa := hS.s.fa
  have hgbx := hS.gb
  have hilg : (ints g).length = 6 := by rw [ints_length, hS.len]
  try simp only [OpK_eq, HKv, k4, k5, k6, hfa, hil, hp0, q1, take6, List.drop_zero, Int.cast_ofNat_Int, go_sem, ↓reduceIte, Nat.reduceEqDiff, Nat.reduceAdd, Nat.reduceMul, Nat.reduceLeDiff, Nat.reduceLT, Int.reduceLE, Int.reduceLT, reduceCtorEq]
  refine ⟨fun _ => ?_, fun _ => ⟨fun _ => ?_, fun _ => ?_⟩⟩
  refine p125S hl hS.s.src n hf.pos hf.le fun m ρ2 y1 ⟨g1, hg1, hm1⟩ y3 y4 => ?_
  subst hm1
  replace hS := hS.step y3 y4
  have hgb2 := hS.gb
  have hil2 : (ints (mp g1)).length = 6 := by rw [ints_length, y1]
  try simp only [OpK_eq, HKv, k4, k5, k6, hgb2, hilg, hil2, y1, take6, List.drop_zero, Int.cast_ofNat_Int, go_sem, ↓reduceIte, Nat.reduceEqDiff, Nat.reduceAdd, Nat.reduceMul, Nat.reduceLeDiff, Nat.reduceLT, Int.reduceLE, Int.reduceLT, reduceCtorEq]
  replace hS := hS.setg y1 (mp_pt hg1)
  clear hgb2
  generalize mp g1 = gX at *
  generalize ρ2.set b (.box (ints gX)) = χ at *
  rotate_left
  refine das_t1 hl hf hS (by simp [k2]) (by simp [k3]) (by simp [k4]) (by simp [k5]) (by simp [k6]) fun env'' χ gX hk hS => ?_
  obtain ⟨k2, k3, k4, k5, k6⟩ : Kv.look env'' 2 = PV.ptr 0 0 ∧ Kv.look env'' 3 = PV.ptr 1 0 ∧ Kv.look env'' 4 = PV.ptr 2 0 ∧ Kv.look env'' 5 = PV.ptr τ.length 0 ∧ Kv.look env'' 6 = PV.ptr b 0 := by simpa [keep] using hk
  try simp only [OpK_eq, HKv, k2, k3, k4, k5, k6, take6, List.drop_zero, Int.cast_ofNat_Int, go_sem, ↓reduceIte, Nat.reduceEqDiff, Nat.reduceAdd, Nat.reduceMul, Nat.reduceLeDiff, Nat.reduceLT, Int.reduceLE, Int.reduceLT, reduceCtorEq]
  rotate_left
  obtain ⟨χ, e1⟩ : ∃ χ, χ = ρ1 := ⟨_, rfl⟩
  obtain ⟨gX, e2⟩ : ∃ gX, gX = g := ⟨_, rfl⟩
  rw [← e1, ← e2] at hS
  rw [← e1]
  clear e1 e2
  all_goals refine p124 hl hS.s.src _ fun r6 χ2 v1 v2 v3 v4 v5 => ?_
  all_goals replace hS := hS.step v3 v4
  all_goals have hgb3 := hS.gb
  all_goals have hil3 : (ints gX).length = 6 := by rw [ints_length, hS.len]
  all_goals clear v3 v4 v5
  all_goals try simp only [OpK_eq, HKv, k2, k3, k4, k5, k6, take6, List.drop_zero, Int.cast_ofNat_Int, go_sem, ↓reduceIte, Nat.reduceEqDiff, Nat.reduceAdd, Nat.reduceMul, Nat.reduceLeDiff, Nat.reduceLT, Int.reduceLE, Int.reduceLT, reduceCtorEq]
  all_goals refine ⟨fun _ => ?_, fun _ => ?_⟩
  all_goals first
    | (refine p122S hl hS.s.src fun m3 χ3 y1 ⟨f3, n3, hf3, hm3⟩ y3 y4 => ?_
       subst hm3
       replace hS := hS.step y3 y4
       have hgb4 := hS.gb
       have hil4 : (ints (mp f3)).length = 6 := by rw [ints_length, y1]
       try simp only [OpK_eq, HKv, k2, k3, k4, k5, k6, hgb4, hil3, hil4, y1, take6, List.drop_zero, Int.cast_ofNat_Int, go_sem, ↓reduceIte, Nat.reduceEqDiff, Nat.reduceAdd, Nat.reduceMul, Nat.reduceLeDiff, Nat.reduceLT, Int.reduceLE, Int.reduceLT, reduceCtorEq]
       replace hS := hS.setg y1 (mp_pt hf3)
       subst hz
       refine das_t2 hl hf hS (by simp [k2]) (by simp [k3]) (by simp [k4]) (by simp [k5]) (by simp [k6]) fun env3 ρ3 m4 m5 hk3 p1 p2 p3 p4 => ?_
       obtain ⟨j2, j3⟩ : Kv.look env3 2 = PV.ptr 0 0 ∧ Kv.look env3 3 = PV.ptr 1 0 := by simpa [keep] using hk3
       have l4 : (ints m4).length = 6 := by rw [ints_length, p1]
       have l5 : (ints m5).length = 6 := by rw [ints_length, p2]
       try simp only [OpK_eq, HKv, j2, j3, p3, p4, l4, l5, p1, p2, take6, List.drop_zero, Int.cast_ofNat_Int, go_sem, ↓reduceIte, Nat.reduceEqDiff, Nat.reduceAdd, Nat.reduceMul, Nat.reduceLeDiff, Nat.reduceLT, Int.reduceLE, Int.reduceLT, reduceCtorEq]
       exact Kv.Fin.still (hK m4 m5 p1 p2))
    | (subst hz
       refine das_t2 hl hf hS (by simp [k2]) (by simp [k3]) (by simp [k4]) (by simp [k5]) (by simp [k6]) fun env3 ρ3 m4 m5 hk3 p1 p2 p3 p4 => ?_
       obtain ⟨j2, j3⟩ : Kv.look env3 2 = PV.ptr 0 0 ∧ Kv.look env3 3 = PV.ptr 1 0 := by simpa [keep] using hk3
       have l4 : (ints m4).length = 6 := by rw [ints_length, p1]
       have l5 : (ints m5).length = 6 := by rw [ints_length, p2]
       try simp only [OpK_eq, HKv, j2, j3, p3, p4, l4, l5, p1, p2, take6, List.drop_zero, Int.cast_ofNat_Int, go_sem, ↓reduceIte, Nat.reduceEqDiff, Nat.reduceAdd, Nat.reduceMul, Nat.reduceLeDiff, Nat.reduceLT, Int.reduceLE, Int.reduceLT, reduceCtorEq]
       exact Kv.Fin.still (hK m4 m5 p1 p2))
end Go.Proofs.YtpfapiiinkkcgaaGreat
