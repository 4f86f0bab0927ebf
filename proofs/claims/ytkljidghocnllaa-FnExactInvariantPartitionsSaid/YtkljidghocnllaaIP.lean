/- The invariant partitions of a list: both sides. -/
import Derived.Test.YtkljidghocnllaaIPc
import Derived.Test.YtkljidghocnllaaPA
import Derived.Test.YtkljidghocnllaaDR
import Derived.Test.YtkljidghocnllaaIV
namespace Go.Proofs.Ytkljidghocnllaa
open Go.Kv
set_option linter.unusedVariables false
set_option linter.unusedSimpArgs false
attribute [local irreducible] ACall PCall KL
noncomputable def ivs (fs : List (List Nat)) (n : Nat) : List (List Int) := (prt n).filter (iv fs)
theorem ivs_ok {fs : List (List Nat)} {n : Nat} (h5 : n ≤ 5) : (ivs fs n).length ≤ 52 ∧ ∀ P ∈ ivs fs n, P.length = n :=
  ⟨Nat.le_trans (List.length_filter_le _ _) (prt_len h5), fun P hP => (prt_ok h5 (List.mem_filter.1 hP).1).1⟩
theorem p125 (fs : List (List Nat)) (n : Nat) (P : List Int) (hP : P.length = n) (h5 : n ≤ 5) (hf : ∀ f ∈ fs, Ok f n) (hl : fs.length ≤ 1048576) : Pure Try.prog 125 [.list (ints P), .fptr [.list (aggs (fs.map mp))] 0] (.bool (!iv fs P)) := by
  refine e125 (by simp) fun _ _ => ?_
  simp only [k125, argEnv, take6, List.drop_zero, Int.cast_ofNat_Int, go_sem, ↓reduceIte, Nat.reduceEqDiff, Nat.reduceAdd, Nat.reduceMul, Nat.reduceLeDiff, Nat.reduceLT, Int.reduceLE, Int.reduceLT, reduceCtorEq]
  refine (p82 fs n P hP h5 hf hl).go ?_
  try simp only [take6, List.drop_zero, Int.cast_ofNat_Int, go_sem, ↓reduceIte, Nat.reduceEqDiff, Nat.reduceAdd, Nat.reduceMul, Nat.reduceLeDiff, Nat.reduceLT, Int.reduceLE, Int.reduceLT, reduceCtorEq]
  exact Kv.Fin.still ⟨rfl, rfl⟩
theorem p91 (fs : List (List Nat)) (n : Nat) (h1 : 1 ≤ n) (h5 : n ≤ 5) (hf : ∀ f ∈ fs, Ok f n) (h0 : 0 < fs.length) (hl : fs.length ≤ 1048576) : ACall Try.prog 91 [.list (aggs (fs.map mp))] [] (fun v s => TabN 50 2 s v (ivs fs n) ∧ Free s) := by
  have hk := hf _ (List.getElem_mem h0)
  have h6k := hk.mp_len
  have hlen := hk.len
  have hpl := prt_len h5
  refine e91 (by simp) fun _ _ => ?_
  simp only [k91, argEnv, take6, List.drop_zero, Int.cast_ofNat_Int, go_sem, ↓reduceIte, Nat.reduceEqDiff, Nat.reduceAdd, Nat.reduceMul, Nat.reduceLeDiff, Nat.reduceLT, Int.reduceLE, Int.reduceLT, reduceCtorEq]
  try simp only [map_getD h0, h6k, hlen, List.length_map, take6, List.drop_zero, Int.cast_ofNat_Int, go_sem, ↓reduceIte, Nat.reduceEqDiff, Nat.reduceAdd, Nat.reduceMul, Nat.reduceLeDiff, Nat.reduceLT, Int.reduceLE, Int.reduceLT, reduceCtorEq]
  refine ⟨by omega, fun _ => ?_⟩
  refine (p124 n h5).mono fun v s ⟨hT, hfr⟩ => ?_
  try simp only [take6, List.drop_zero, Int.cast_ofNat_Int, go_sem, ↓reduceIte, Nat.reduceEqDiff, Nat.reduceAdd, Nat.reduceMul, Nat.reduceLeDiff, Nat.reduceLT, Int.reduceLE, Int.reduceLT, reduceCtorEq]
  refine (p123 hT hfr (by omega) 125 [.fptr [.list (aggs (fs.map mp))] 0] ?_ (fun P => !iv fs P) fun P hP => ?_).mono fun v' s' ⟨hT', hf'⟩ => ?_
  · exact StillL.up inferInstance
  · exact p125 fs n P (prt_ok h5 hP).1 h5 hf hl
  · try simp only [take6, List.drop_zero, Int.cast_ofNat_Int, go_sem, ↓reduceIte, Nat.reduceEqDiff, Nat.reduceAdd, Nat.reduceMul, Nat.reduceLeDiff, Nat.reduceLT, Int.reduceLE, Int.reduceLT, reduceCtorEq]
    have e : (prt n).filter (fun x => !!iv fs x) = ivs fs n := by simp [ivs]
    rw [e] at hT'
    exact Kv.Fin.now ⟨hT', hf'⟩
/-- What the specification gives, and the program. -/
noncomputable def ipc (a : List (List Int)) : List (List Int) := if lcode a [] = 0 then ivs (a.map um) ((a.getD 0 []).getD 0 0).toNat else []
theorem p52 (a : List (List Int)) (ha : a.length ≤ 1048576) (h6 : ∀ r ∈ a, r.length = 6) : NewTO Try.prog 52 [.list (aggs a)] 50 2 (ipc a) (lcode a []) := by
  refine NewTN.own ?_
  unfold NewTN
  refine e52 (by simp) fun _ _ => ?_
  simp only [k52, argEnv, take6, List.drop_zero, Int.cast_ofNat_Int, go_sem, ↓reduceIte, Nat.reduceEqDiff, Nat.reduceAdd, Nat.reduceMul, Nat.reduceLeDiff, Nat.reduceLT, Int.reduceLE, Int.reduceLT, reduceCtorEq]
  refine (p64 _ a [] .nil ha (by simp) h6 (by simp)).go ?_
  try simp only [take6, List.drop_zero, Int.cast_ofNat_Int, go_sem, ↓reduceIte, Nat.reduceEqDiff, Nat.reduceAdd, Nat.reduceMul, Nat.reduceLeDiff, Nat.reduceLT, Int.reduceLE, Int.reduceLT, reduceCtorEq]
  refine ⟨fun h1 => ?_, fun h1 => ?_⟩
  · exact Kv.Fin.now ⟨.nils, by simp [h1], by rw [ipc, if_neg h1]; exact .nil, .nil⟩
  · obtain ⟨fs, n, rfl, hf, hl1, hl2, hn, hn1, hn5⟩ := lcode_maps h6 h1
    have e : ipc (fs.map mp) = ivs fs n := by rw [ipc, if_pos h1, map_um, hn]; rfl
    rw [e, h1]
    refine (p91 fs n hn1 hn5 hf (by omega) (by omega)).mono fun v s ⟨hT, hfr⟩ => ?_
    try simp only [take6, List.drop_zero, Int.cast_ofNat_Int, go_sem, ↓reduceIte, Nat.reduceEqDiff, Nat.reduceAdd, Nat.reduceMul, Nat.reduceLeDiff, Nat.reduceLT, Int.reduceLE, Int.reduceLT, reduceCtorEq]
    exact Kv.Fin.now ⟨v, rfl, hT, hfr⟩
theorem p90 (fs : List (List Nat)) (n : Nat) (h1 : 1 ≤ n) (h5 : n ≤ 5) (hf : ∀ f ∈ fs, Ok f n) (h0 : 0 < fs.length) (hl : fs.length ≤ 1048576) : Pure Try.prog 90 [.list (aggs (fs.map mp))] (.list (rows (ivs fs n))) := by
  have hk := hf _ (List.getElem_mem h0)
  have h6k := hk.mp_len
  have hlen := hk.len
  have hpl := prt_len h5
  refine e90 (by simp) fun _ _ => ?_
  simp only [k90, argEnv, take6, List.drop_zero, Int.cast_ofNat_Int, go_sem, ↓reduceIte, Nat.reduceEqDiff, Nat.reduceAdd, Nat.reduceMul, Nat.reduceLeDiff, Nat.reduceLT, Int.reduceLE, Int.reduceLT, reduceCtorEq]
  try simp only [map_getD h0, h6k, hlen, List.length_map, take6, List.drop_zero, Int.cast_ofNat_Int, go_sem, ↓reduceIte, Nat.reduceEqDiff, Nat.reduceAdd, Nat.reduceMul, Nat.reduceLeDiff, Nat.reduceLT, Int.reduceLE, Int.reduceLT, reduceCtorEq]
  refine ⟨by omega, fun _ => ?_⟩
  refine (p122 n h5 (n - 1) [0] 1 (by simp; omega) (by omega) (by simp)).give (id := 0) rfl (.cons (Imm.refn (solo_get rfl) (by simp)) (.cons Imm.still (.cons Imm.still (.nil _)))) ?_
  rw [spt_eq h1 h5]
  try simp only [take6, List.drop_zero, Int.cast_ofNat_Int, go_sem, ↓reduceIte, Nat.reduceEqDiff, Nat.reduceAdd, Nat.reduceMul, Nat.reduceLeDiff, Nat.reduceLT, Int.reduceLE, Int.reduceLT, reduceCtorEq]
  refine KL_ind k90_b0.eq_1 (fun x : Nat × Nat => [(0, .list (aggs (fs.map mp))), (3, .list (rows (prt n))), (4, .ref 1 x.2 0 (((prt n).take x.1).filter (iv fs)).length), (5, .int .i64 x.1)]) (fun x => [.dead, .arr x.2 50 1 (rows (((prt n).take x.1).filter (iv fs)))]) (fun x => x.1 ≤ (prt n).length) (fun x => (prt n).length - x.1) [0, 3, 4, 5] (0, 0) (by simp [keep]) (by rfl) (Nat.zero_le _) fun ⟨x, ver⟩ hx ih => ?_
  simp only at hx
  have hfl := List.length_filter_le (iv fs) ((prt n).take x)
  simp only [List.length_take] at hfl
  try simp only [take6, List.drop_zero, Int.cast_ofNat_Int, go_sem, ↓reduceIte, Nat.reduceEqDiff, Nat.reduceAdd, Nat.reduceMul, Nat.reduceLeDiff, Nat.reduceLT, Int.reduceLE, Int.reduceLT, reduceCtorEq]
  refine ⟨fun h2 => ⟨h2, fun hxl => ?_⟩, fun h2 => ?_⟩
  · have hfs := filter_take_succ (p := iv fs) hxl
    have hP := prt_ok h5 (List.getElem_mem hxl)
    rw [getD_eq hxl]
    refine (p80 fs n _ hP.1 h5 hf hl).go ?_
    try simp only [take6, List.drop_zero, Int.cast_ofNat_Int, go_sem, ↓reduceIte, Nat.reduceEqDiff, Nat.reduceAdd, Nat.reduceMul, Nat.reduceLeDiff, Nat.reduceLT, Int.reduceLE, Int.reduceLT, reduceCtorEq]
    refine ⟨fun h3 => ?_, fun h3 => ?_⟩
    · rw [if_pos h3] at hfs
      rw [getD_eq hxl]
      refine ⟨by omega, fun _ => ⟨by omega, by omega, ih (x + 1, ver + 1) (by show x + 1 ≤ (prt n).length; omega) (by show (prt n).length - (x + 1) < (prt n).length - x; omega) _ _ (by simp [keep, hfs]) (by first | (rw [hfs]; done) | (rw [hfs]; simp [rows]; done) | rfl)⟩⟩
    · rw [if_neg (by simp [h3]), List.append_nil] at hfs
      refine ⟨by omega, ih (x + 1, ver) (by show x + 1 ≤ (prt n).length; omega) (by show (prt n).length - (x + 1) < (prt n).length - x; omega) _ _ (by simp [keep, hfs]) (by first | (rw [hfs]; done) | rfl)⟩
  · obtain rfl : x = (prt n).length := by omega
    rw [List.take_length]
    exact Kv.Fin.freeze (Imm.refr rfl rfl) ⟨rfl, rfl⟩
theorem p51 (a : List (List Int)) (ha : a.length ≤ 1048576) (h6 : ∀ r ∈ a, r.length = 6) : Pure Try.prog 51 [.list (aggs a)] (.tup [if lcode a [] = 0 then .list (rows (ipc a)) else .nils, .int .i64 (lcode a [])]) := by
  refine e51 (by simp) fun _ _ => ?_
  simp only [k51, argEnv, take6, List.drop_zero, Int.cast_ofNat_Int, go_sem, ↓reduceIte, Nat.reduceEqDiff, Nat.reduceAdd, Nat.reduceMul, Nat.reduceLeDiff, Nat.reduceLT, Int.reduceLE, Int.reduceLT, reduceCtorEq]
  refine (p63n a ha h6).go ?_
  try simp only [take6, List.drop_zero, Int.cast_ofNat_Int, go_sem, ↓reduceIte, Nat.reduceEqDiff, Nat.reduceAdd, Nat.reduceMul, Nat.reduceLeDiff, Nat.reduceLT, Int.reduceLE, Int.reduceLT, reduceCtorEq]
  refine ⟨fun h1 => ?_, fun h1 => ?_⟩
  · rw [if_neg h1]; exact Kv.Fin.still ⟨rfl, rfl⟩
  · obtain ⟨fs, n, rfl, hf, hl1, hl2, hn, hn1, hn5⟩ := lcode_maps h6 h1
    have e : ipc (fs.map mp) = ivs fs n := by rw [ipc, if_pos h1, map_um, hn]; rfl
    rw [e, h1, if_pos rfl]
    refine (p90 fs n hn1 hn5 hf (by omega) (by omega)).go ?_
    try simp only [take6, List.drop_zero, Int.cast_ofNat_Int, go_sem, ↓reduceIte, Nat.reduceEqDiff, Nat.reduceAdd, Nat.reduceMul, Nat.reduceLeDiff, Nat.reduceLT, Int.reduceLE, Int.reduceLT, reduceCtorEq]
    exact Kv.Fin.still ⟨rfl, rfl⟩
end Go.Proofs.Ytkljidghocnllaa
