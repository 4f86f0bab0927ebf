/- Several texts of this session as one, less what the claim does not need. -/
import Derived.Test.YtpihikppdeecmaaGreatCb
import Derived.Test.YtpihikppdeecmaaGreatZ7
import Derived.Test.YtpihikppdeecmaaGreatZ9
import Derived.Test.YtpihikppdeecmaaGreatZ8
import Derived.Test.YtpihikppdeecmaaGreatFC
section
/- Maps in order: the specification. -/
namespace Go.Proofs.YtpihikppdeecmaaGreat
open Go.Kv
set_option maxRecDepth 100000
def k120_b0 : KC := (.seq (.seq (.ops [mV 10 5, mV 11 6, oP 12 (.bin .lss (.t 10) (.t 11))])
  (.cond (.t 12) .skip (.exit 0)))
  (.block 1 (.seq (.ops [mV 13 5, mV 14 6, oP 15 (.bin .add (.t 13) (.t 14)), oP 16 (.bin .quo (.t 15) (iC 2)), mV 7 16])
  (.seq (.draw [mV 17 0, mV 18 7, oP 19 (.idxS 6 (.t 17) (.t 18)), oP 20 (.load true 6 (.t 19)), oP 21 (.load true 6 (.t 3)), oP 22 (.pcall (fC 121) [(.t 20), (.t 21)])])
  (.cond (.t 22) (.ops [mV 23 7, oP 24 (.bin .add (.t 23) (iC 1)), mV 5 24]) (.ops [mV 25 7, mV 6 25]))))))
def k120 : KC := (.seq (.ops [oP 3 (.box true (.t 1)), oP 4 (.mv (iC 0))])
  (.seq (.ops [mV 8 0, oP 9 (.len false (.t 8)), oP 5 (.mv (iC 0)), mV 6 9])
  (.seq (.block 0 (.loop k120_b0))
  (.seq (.seq (.draw [mV 26 5, mV 27 0, oP 28 (.len false (.t 27)), oP 29 (.bin .lss (.t 26) (.t 28)), mV 30 29, ⟨(some 31), some (30, true), .mv (.t 0)⟩, ⟨(some 32), some (30, true), .mv (.t 5)⟩, ⟨(some 33), some (30, true), .idxS 6 (.t 31) (.t 32)⟩, ⟨(some 34), some (30, true), .load true 6 (.t 33)⟩, ⟨(some 35), some (30, true), .load true 6 (.t 3)⟩, ⟨(some 36), some (30, true), .aeq false 6 (.t 34) (.t 35)⟩, oP 37 (.pick (.t 30) (.t 36) (.c (.bool false)))])
  (.cond (.t 37) (.seq (.ops [mV 38 5, mV 4 38])
  .ret) .skip))
  (.seq (.ops [oP 4 (.mv (iC (-1)))])
  .ret)))))
theorem e120 : Ent 120 39 [3] [.t 4] k120 := ent Tryz.func120 (by kernel_rfl) (by kernel_rfl) (by kernel_rfl) (fun _ => by kernel_rfl) (by kernel_rfl)
def k82_b0 : KC := (.seq (.seq (.ops [mV 11 5, mV 12 6, oP 13 (.bin .lss (.t 11) (.t 12))])
  (.cond (.t 13) .skip (.exit 0)))
  (.block 1 (.seq (.ops [mV 14 5, mV 15 6, oP 16 (.bin .add (.t 14) (.t 15)), oP 17 (.bin .quo (.t 16) (iC 2)), mV 7 17])
  (.seq (.draw [mV 18 0, mV 19 7, oP 20 (.idxS 6 (.t 18) (.t 19)), oP 21 (.load true 6 (.t 20)), oP 22 (.load true 6 (.t 3)), oP 23 (.pcall (fC 121) [(.t 21), (.t 22)])])
  (.cond (.t 23) (.ops [mV 24 7, oP 25 (.bin .add (.t 24) (iC 1)), mV 5 25]) (.ops [mV 26 7, mV 6 26]))))))
abbrev k82s0 : KT := (.op (oP 47 (.app (.t 44) (.t 46) 54 6)) (.op (mV 8 47) .fin))
abbrev k82s1 : KT := (.op (oP 46 (.bsl true 54 6 [(.t 45)])) k82s0)
abbrev k82s2 : KT := (.op (oP 44 (.app (.t 40) (.t 43) 54 6)) k82s0)
abbrev k82s3 : KT := (.alt (.op (oP 44 (.app (.t 40) (.t 43) 54 6)) k82s1) (.op (oP 46 (.bsl true 54 6 [(.t 45)])) k82s2))
abbrev k82s4 : KT := (.alt (.op (oP 44 (.app (.t 40) (.t 43) 54 6)) (.op (oP 45 (.load true 6 (.t 3))) k82s1)) (.op (oP 45 (.load true 6 (.t 3))) k82s3))
abbrev k82s5 : KT := (.op (oP 43 (.sls 6 (.t 41) none (some (.t 42)))) k82s2)
abbrev k82s6 : KT := (.alt (.op (oP 43 (.sls 6 (.t 41) none (some (.t 42)))) k82s3) (.op (oP 46 (.bsl true 54 6 [(.t 45)])) k82s5))
abbrev k82s7 : KT := (.alt (.op (oP 40 (.bsl false 54 6 [])) k82s3) (.op (oP 46 (.bsl true 54 6 [(.t 45)])) (.op (oP 40 (.bsl false 54 6 [])) k82s2)))
def k82 : KC := (.seq (.ops [oP 3 (.box true (.t 1)), oP 4 (.mv (.c (.nils)))])
  (.seq (.ops [mV 9 0, oP 10 (.len false (.t 9)), oP 5 (.mv (iC 0)), mV 6 10])
  (.seq (.block 0 (.loop k82_b0))
  (.seq (.seq (.draw [mV 27 5, mV 28 0, oP 29 (.len false (.t 28)), oP 30 (.bin .lss (.t 27) (.t 29)), mV 31 30, ⟨(some 32), some (31, true), .mv (.t 0)⟩, ⟨(some 33), some (31, true), .mv (.t 5)⟩, ⟨(some 34), some (31, true), .idxS 6 (.t 32) (.t 33)⟩, ⟨(some 35), some (31, true), .load true 6 (.t 34)⟩, ⟨(some 36), some (31, true), .load true 6 (.t 3)⟩, ⟨(some 37), some (31, true), .aeq false 6 (.t 35) (.t 36)⟩, oP 38 (.pick (.t 31) (.t 37) (.c (.bool false)))])
  (.cond (.t 38) (.seq (.ops [mV 39 0, mV 4 39])
  .ret) .skip))
  (.seq (.tree (.op (mV 41 0) (.op (mV 42 5) (.alt (.op (oP 40 (.bsl false 54 6 [])) (.alt (.op (oP 43 (.sls 6 (.t 41) none (some (.t 42)))) k82s4) (.op (oP 45 (.load true 6 (.t 3))) k82s6))) (.alt (.op (oP 43 (.sls 6 (.t 41) none (some (.t 42)))) (.alt (.op (oP 40 (.bsl false 54 6 [])) k82s4) (.op (oP 45 (.load true 6 (.t 3))) k82s7))) (.op (oP 45 (.load true 6 (.t 3))) (.alt (.op (oP 40 (.bsl false 54 6 [])) k82s6) (.alt (.op (oP 43 (.sls 6 (.t 41) none (some (.t 42)))) k82s7) (.op (oP 46 (.bsl true 54 6 [(.t 45)])) (.alt (.op (oP 40 (.bsl false 54 6 [])) k82s5) (.op (oP 43 (.sls 6 (.t 41) none (some (.t 42)))) (.op (oP 40 (.bsl false 54 6 [])) k82s2))))))))))))
  (.seq (.ops [mV 48 8, mV 49 0, mV 50 5, oP 51 (.sls 6 (.t 49) (some (.t 50)) none), oP 52 (.app (.t 48) (.t 51) 54 6), mV 4 52])
  .ret))))))
theorem e82 : Ent 82 53 [3, 46] [.t 4] k82 := ent Tryz.func82 (by kernel_rfl) (by kernel_rfl) (by kernel_rfl) (fun _ => by kernel_rfl) (by kernel_rfl)
end Go.Proofs.YtpihikppdeecmaaGreat
namespace Go.Proofs.YtpihikppdeecmaaGreat
open Go.Kv
set_option linter.unusedVariables false
set_option linter.unusedSimpArgs false
attribute [local irreducible] ACall PCall KL
/-- Maps in ascending order. -/
def SrM (n : Nat) (S : List (List Nat)) : Prop := (∀ f ∈ S, Ok f n) ∧ S.Pairwise (fun a b => nbl n a < nbl n b)
/-- How many come ahead of a map. -/
def loM (n : Nat) (S : List (List Nat)) (f : List Nat) : Nat := (S.takeWhile fun x => decide (nbl n x < nbl n f)).length
theorem loM_le (n : Nat) (S : List (List Nat)) (f : List Nat) : loM n S f ≤ S.length := by
  unfold loM
  exact (List.takeWhile_sublist _).length_le
theorem loM_iff {n : Nat} : ∀ {S : List (List Nat)} (f : List Nat), S.Pairwise (fun a b => nbl n a < nbl n b) → ∀ i (h : i < S.length), nbl n S[i] < nbl n f ↔ i < loM n S f
  | [], f, _, i, h => by simp at h
  | a :: S, f, hp, i, h => by
    rw [List.pairwise_cons] at hp
    unfold loM
    rw [List.takeWhile_cons]
    by_cases ha : nbl n a < nbl n f
    · rw [if_pos (by simpa using ha), List.length_cons]
      cases i with
      | zero => simp [ha]
      | succ i =>
        have := loM_iff f hp.2 i (by simpa using h)
        simp only [List.getElem_cons_succ]
        rw [this]; unfold loM; omega
    · rw [if_neg (by simpa using ha)]
      simp only [List.length_nil, Nat.not_lt_zero, iff_false]
      cases i with
      | zero => exact ha
      | succ i =>
        have := hp.1 _ (List.getElem_mem (by simpa using h : i < S.length))
        simp only [List.getElem_cons_succ]
        omega
theorem p120 (n : Nat) (S : List (List Nat)) (hS : SrM n S) (hl : S.length ≤ 100000) (f : List Nat) (hf : Ok f n) : Pure Tryz.prog 120 [.list (aggs (S.map mp)), .agg (ints (mp f))] (.int .i64 (if loM n S f < S.length ∧ S.getD (loM n S f) [] = f then loM n S f else -1)) := by
  have hlf := hf.mp_len
  have hle := loM_le n S f
  refine e120 (by simp) fun _ _ => ?_
  simp only [k120, argEnv, hlf, go_sem]
  try simp only [OpK_eq, HKv, hlf, aggs_length, List.length_map, go_sem]
  have hSl : (S.map mp).length = S.length := List.length_map _
  refine KL_ind k120_b0.eq_1 (fun y : Nat × Nat => [(0, .list (aggs (S.map mp))), (3, .fptr (ints (mp f)) 0), (5, .int .i64 y.1), (6, .int .i64 y.2), (31, .undef), (32, .undef), (33, .undef), (34, .undef), (35, .undef), (36, .undef)]) (fun _ => []) (fun y => y.1 ≤ loM n S f ∧ loM n S f ≤ y.2 ∧ y.2 ≤ S.length) (fun y => y.2 - y.1) [0, 3, 5, 6, 31, 32, 33, 34, 35, 36] (0, S.length) (by simp [keep]) rfl ⟨Nat.zero_le _, hle, Nat.le_refl _⟩ fun ⟨lw, hg⟩ ⟨h1, h2, h3⟩ ih => ?_
  simp only at h1 h2 h3
  try simp only [OpK_eq, HKv, hlf, aggs_length, List.length_map, go_sem]
  refine ⟨fun g1 => ?_, fun g1 => ?_⟩
  · have hm : ((lw : Int) + hg) / 2 = (((lw + hg) / 2 : Nat) : Int) := by omega
    rw [hm]
    have hmS : (lw + hg) / 2 < S.length := by omega
    have hgm : (S.map mp).getD ((lw + hg) / 2) [] = mp S[(lw + hg) / 2] := by simp [List.getD_eq_getElem?_getD, hmS]
    have hOk := hS.1 _ (List.getElem_mem hmS)
    have h6m := hOk.mp_len
    have hiff := loM_iff f hS.2 ((lw + hg) / 2) hmS
    have hlt := ltM_nbl hOk hf
    generalize (lw + hg) / 2 = m at *
    try simp only [OpK_eq, HKv, hlf, aggs_length, List.length_map, hgm, h6m, go_sem]
    refine ⟨by omega, by omega, by omega, by omega, fun _ => ?_⟩
    refine (p121 S[m] f n hOk hf).pgo ?_
    by_cases hb : nbl n S[m] < nbl n f
    · have e : ltM S[m] f = true := hlt.2 hb
      have := hiff.1 hb
      rw [e]
      try simp only [OpK_eq, HKv, go_sem]
      exact ⟨by omega, ih (m + 1, hg) ⟨by show m + 1 ≤ loM n S f; omega, h2, h3⟩ (by show hg - (m + 1) < hg - lw; omega) _ _ (by simp [keep]) rfl⟩
    · have e : ltM S[m] f = false := by
        cases hc : ltM S[m] f with
        | true => exact absurd (hlt.1 hc) hb
        | false => rfl
      have : ¬ m < loM n S f := fun h => hb (hiff.2 h)
      rw [e]
      try simp only [OpK_eq, HKv, go_sem]
      exact ih (lw, m) ⟨h1, by show loM n S f ≤ m; omega, by show m ≤ S.length; omega⟩ (by show m - lw < hg - lw; omega) _ _ (by simp [keep]) rfl
  · obtain rfl : lw = loM n S f := by omega
    by_cases hlo : loM n S f < S.length
    · have hgm : (S.map mp).getD (loM n S f) [] = mp S[loM n S f] := by simp [List.getD_eq_getElem?_getD, hlo]
      have hgs : S.getD (loM n S f) [] = S[loM n S f] := by simp [List.getD_eq_getElem?_getD, hlo]
      have hOk := hS.1 _ (List.getElem_mem hlo)
      have h6m := hOk.mp_len
      rw [hgm, hgs, take6 h6m]
      refine ⟨fun _ => ⟨by omega, fun _ => ⟨h6m, by omega, h6m, fun he => Kv.Fin.still ⟨?_, rfl⟩, fun he => Kv.Fin.still ⟨?_, rfl⟩⟩⟩, fun h => absurd hlo (by omega)⟩
      · rw [if_pos ⟨hlo, mp_inj he⟩]
      · rw [if_neg (fun h => he (by rw [h.2]))]
    · refine ⟨fun h => absurd (by omega) hlo, fun _ => Kv.Fin.still ⟨by rw [if_neg (fun h => hlo h.1)], rfl⟩⟩
theorem ok6' {m : List Int} (hm : m.length = 6) : okL 6 [PV.agg (ints m)] := by
  have := okL_aggs 6 [m]
  simp only [List.mem_singleton, forall_eq, hm] at this
  simpa [aggs] using this
/-- A map is put in its place. -/
def putM (n : Nat) (S : List (List Nat)) (f : List Nat) : List (List Nat) := if loM n S f < S.length ∧ S.getD (loM n S f) [] = f then S else S.take (loM n S f) ++ f :: S.drop (loM n S f)
set_option maxHeartbeats 4000000 in
theorem p82 (n : Nat) (S : List (List Nat)) (hS : SrM n S) (hl : S.length ≤ 100000) (f : List Nat) (hf : Ok f n) : Pure Tryz.prog 82 [.list (aggs (S.map mp)), .agg (ints (mp f))] (.list (aggs ((putM n S f).map mp))) := by
  have hlf := hf.mp_len
  have hle := loM_le n S f
  refine e82 (by simp) fun _ _ => ?_
  simp only [k82, argEnv, hlf, go_sem]
  try simp only [OpK_eq, HKv, hlf, aggs_length, List.length_map, go_sem]
  have hSl : (S.map mp).length = S.length := List.length_map _
  refine KL_ind k82_b0.eq_1 (fun y : Nat × Nat => [(0, .list (aggs (S.map mp))), (3, .fptr (ints (mp f)) 0), (5, .int .i64 y.1), (6, .int .i64 y.2), (32, .undef), (33, .undef), (34, .undef), (35, .undef), (36, .undef), (37, .undef)]) (fun _ => []) (fun y => y.1 ≤ loM n S f ∧ loM n S f ≤ y.2 ∧ y.2 ≤ S.length) (fun y => y.2 - y.1) [0, 3, 5, 6, 32, 33, 34, 35, 36, 37] (0, S.length) (by simp [keep]) rfl ⟨Nat.zero_le _, hle, Nat.le_refl _⟩ fun ⟨lw, hg⟩ ⟨h1, h2, h3⟩ ih => ?_
  simp only at h1 h2 h3
  try simp only [OpK_eq, HKv, hlf, aggs_length, List.length_map, go_sem]
  refine ⟨fun g1 => ?_, fun g1 => ?_⟩
  · have hm : ((lw : Int) + hg) / 2 = (((lw + hg) / 2 : Nat) : Int) := by omega
    rw [hm]
    have hmS : (lw + hg) / 2 < S.length := by omega
    have hgm : (S.map mp).getD ((lw + hg) / 2) [] = mp S[(lw + hg) / 2] := by simp [List.getD_eq_getElem?_getD, hmS]
    have hOk := hS.1 _ (List.getElem_mem hmS)
    have h6m := hOk.mp_len
    have hiff := loM_iff f hS.2 ((lw + hg) / 2) hmS
    have hlt := ltM_nbl hOk hf
    generalize (lw + hg) / 2 = m at *
    try simp only [OpK_eq, HKv, hlf, aggs_length, List.length_map, hgm, h6m, go_sem]
    refine ⟨by omega, by omega, by omega, by omega, fun _ => ?_⟩
    refine (p121 S[m] f n hOk hf).pgo ?_
    by_cases hb : nbl n S[m] < nbl n f
    · have e : ltM S[m] f = true := hlt.2 hb
      have := hiff.1 hb
      rw [e]
      try simp only [OpK_eq, HKv, go_sem]
      exact ⟨by omega, ih (m + 1, hg) ⟨by show m + 1 ≤ loM n S f; omega, h2, h3⟩ (by show hg - (m + 1) < hg - lw; omega) _ _ (by simp [keep]) rfl⟩
    · have e : ltM S[m] f = false := by
        cases hc : ltM S[m] f with
        | true => exact absurd (hlt.1 hc) hb
        | false => rfl
      have : ¬ m < loM n S f := fun h => hb (hiff.2 h)
      rw [e]
      try simp only [OpK_eq, HKv, go_sem]
      exact ih (lw, m) ⟨h1, by show loM n S f ≤ m; omega, by show m ≤ S.length; omega⟩ (by show m - lw < hg - lw; omega) _ _ (by simp [keep]) rfl
  · obtain rfl : lw = loM n S f := by omega
    have hnew : ¬ (loM n S f < S.length ∧ S.getD (loM n S f) [] = f) → putM n S f = S.take (loM n S f) ++ f :: S.drop (loM n S f) := fun h => by unfold putM; rw [if_neg h]
    generalize hlo' : loM n S f = lo at *
    by_cases hc : lo < S.length ∧ S.getD lo [] = f
    · have hgm : (S.map mp).getD lo [] = mp f := by
        have : (S.map mp).getD lo [] = mp (S.getD lo []) := by simp [List.getD_eq_getElem?_getD, hc.1]
        rw [this, hc.2]
      have hp : putM n S f = S := by unfold putM; rw [hlo', if_pos hc]
      rw [hgm, take6 hlf, hp]
      exact ⟨fun _ => ⟨by omega, fun _ => ⟨hlf, by omega, hlf, fun _ => Kv.Fin.still ⟨rfl, rfl⟩, fun h => absurd rfl h⟩⟩, fun h => absurd hc.1 (by omega)⟩
    · rw [hnew hc]
      have hS6 : ∀ r ∈ S.map mp, r.length = 6 := fun r hr => by
        obtain ⟨g, hg', rfl⟩ := List.mem_map.1 hr
        exact (hS.1 g hg').mp_len
      have hget : lo < S.length → (S.map mp).getD lo [] = mp (S.getD lo []) ∧ Ok (S.getD lo []) n := fun h => by
        have e : S.getD lo [] = S[lo] := by simp [List.getD_eq_getElem?_getD, h]
        rw [e]
        exact ⟨by simp [List.getD_eq_getElem?_getD, h], hS.1 _ (List.getElem_mem h)⟩
      have hg6 : lo < S.length → ((S.map mp).getD lo []).length = 6 := fun h => by rw [(hget h).1]; exact (hget h).2.mp_len
      have hne : lo < S.length → List.take 6 ((S.map mp).getD lo []) ≠ mp f := fun h e => by
        rw [take6 (hg6 h), (hget h).1] at e
        exact hc ⟨h, mp_inj e⟩
      obtain ⟨A, hA⟩ : ∃ A, A = (S.map mp).take lo := ⟨_, rfl⟩
      obtain ⟨B, hB⟩ : ∃ B, B = (S.map mp).drop lo := ⟨_, rfl⟩
      have a1 : List.take (lo - 0) (S.map mp) = A := by rw [Nat.sub_zero, hA]
      have a2 : List.take lo (S.map mp) = A := hA.symm
      have b1 : List.take (S.length - lo) (List.drop lo (S.map mp)) = B := by rw [hB, List.take_of_length_le (by rw [List.length_drop, List.length_map]; exact Nat.le_refl _)]
      have hAl : A.length = lo := by rw [hA, List.length_take, List.length_map]; omega
      have hBl : B.length = S.length - lo := by rw [hB, List.length_drop, List.length_map]
      have hokA : okL 6 (aggs A) := by rw [okL_aggs, hA]; exact fun r hr => hS6 r (List.mem_of_mem_take hr)
      have hokB : okL 6 (aggs B) := by rw [okL_aggs, hB]; exact fun r hr => hS6 r (List.mem_of_mem_drop hr)
      have hokS : okL 6 (aggs (S.map mp)) := by rw [okL_aggs]; exact hS6
      have hlen4 : lo + 1 + (S.length - lo) = (A ++ mp f :: B).length := by rw [List.length_append, List.length_cons]; omega
      have t0 : (List.take 0 ([] : List PV)) ++ aggs A = aggs A := rfl
      have t1 : (aggs A).take lo ++ [PV.agg (ints (mp f))] = aggs (A ++ [mp f]) := by
        rw [List.take_of_length_le (by rw [aggs_length]; omega)]; simp [aggs]
      have t2 : (aggs (A ++ [mp f])).take (lo + 1) ++ aggs B = aggs (A ++ mp f :: B) := by
        rw [List.take_of_length_le (by rw [aggs_length, List.length_append, List.length_singleton]; omega)]; simp [aggs]
      have t3 : List.take lo A = A := List.take_of_length_le (by omega)
      have t4 : List.take (lo + 1) (A ++ [mp f]) = A ++ [mp f] := List.take_of_length_le (by rw [List.length_append, List.length_singleton]; omega)
      have t5 : aggs A ++ [PV.agg (ints (mp f))] = aggs (A ++ [mp f]) := by simp [aggs]
      have t6 : aggs (A ++ [mp f]) ++ aggs B = aggs (A ++ mp f :: B) := by simp [aggs]
      have hfin : (S.take lo ++ f :: S.drop lo).map mp = A ++ mp f :: B := by rw [hA, hB, List.map_append, List.map_cons, List.map_take, List.map_drop]
      have hlen3 : (A ++ [mp f]).length = lo + 1 := by rw [List.length_append, List.length_singleton]; omega
      rw [hfin]
      clear hfin hA hB
      have hok1 := ok6' hlf
      have hil : (ints (mp f)).length = 6 := by rw [ints_length, hlf]
      repeat' (first
        | omega
        | (rw [vT_alt]; refine ⟨?_, ?_⟩)
        | exact hg6 (by omega)
        | (have h6' := hg6 (by omega); omega)
        | (rw [take6 (hg6 (by omega))]; exact hg6 (by omega))
        | exact hokA
        | exact hokS
        | exact hokB
        | exact hok1
        | (exfalso; exact hne (by omega) (by assumption))
        | (with_reducible refine And.intro ?_ ?_)
        | (with_reducible intro _)
        | (simp only [OpK_eq, HKv, a1, a2, b1, hAl, hBl, hlen3, t0, t1, t2, t3, t4, t5, t6, hlf, hil, aggs_take, aggs_drop, aggs_length, List.length_map, go_sem]))
      all_goals exact Kv.Fin.freeze (Imm.refa' rfl hlen4) ⟨rfl, rfl⟩
end Go.Proofs.YtpihikppdeecmaaGreat
end
section
/- Maps in order: plain laws, and the table of products. -/
namespace Go.Proofs.YtpihikppdeecmaaGreat
open Go.Kv
set_option linter.unusedVariables false
set_option linter.unusedSimpArgs false
attribute [local irreducible] ACall PCall KL
theorem lo_mem {n : Nat} {S : List (List Nat)} (hS : SrM n S) {f : List Nat} (hf : Ok f n) : (loM n S f < S.length ∧ S.getD (loM n S f) [] = f) ↔ f ∈ S := by
  constructor
  · rintro ⟨h1, h2⟩
    rw [← h2, List.getD_eq_getElem?_getD, List.getElem?_eq_getElem h1]
    exact List.getElem_mem _
  · intro h
    obtain ⟨i, hi, e⟩ := List.getElem_of_mem h
    have hle := loM_le n S f
    have h1 : ¬ i < loM n S f := fun hh => by
      have := (loM_iff f hS.2 i hi).2 hh
      rw [e] at this; omega
    have hlo : loM n S f < S.length := by omega
    have h2 : ¬ nbl n S[loM n S f] < nbl n f := fun hh => by
      have := (loM_iff f hS.2 _ hlo).1 hh
      omega
    have h3 : loM n S f = i := by
      refine Classical.byContradiction fun hne => ?_
      have := List.pairwise_iff_getElem.1 hS.2 (loM n S f) i hlo hi (by omega)
      rw [e] at this
      exact h2 this
    refine ⟨hlo, ?_⟩
    rw [List.getD_eq_getElem?_getD, List.getElem?_eq_getElem hlo]
    simp only [h3, Option.getD_some]
    exact e
theorem putM_mem {n : Nat} {S : List (List Nat)} (hS : SrM n S) {f : List Nat} (hf : Ok f n) {x : List Nat} : x ∈ putM n S f ↔ x = f ∨ x ∈ S := by
  unfold putM
  split
  · rename_i h
    have := (lo_mem hS hf).1 h
    exact ⟨fun h => .inr h, fun h => by rcases h with rfl | h <;> assumption⟩
  · rw [List.mem_append, List.mem_cons]
    constructor
    · rintro (h | h | h)
      · exact .inr (List.mem_of_mem_take h)
      · exact .inl h
      · exact .inr (List.mem_of_mem_drop h)
    · rintro (h | h)
      · exact .inr (.inl h)
      · rw [← List.take_append_drop (loM n S f) S, List.mem_append] at h
        rcases h with h | h
        · exact .inl h
        · exact .inr (.inr h)
theorem putM_srm {n : Nat} {S : List (List Nat)} (hS : SrM n S) {f : List Nat} (hf : Ok f n) : SrM n (putM n S f) := by
  refine ⟨fun g hg => ?_, ?_⟩
  · rcases (putM_mem hS hf).1 hg with rfl | hg
    · exact hf
    · exact hS.1 g hg
  · unfold putM
    split
    · exact hS.2
    · rename_i hno
      have hnm : f ∉ S := fun h => hno ((lo_mem hS hf).2 h)
      have hle := loM_le n S f
      have hfr : ∀ x ∈ S.take (loM n S f), nbl n x < nbl n f := fun x hx => by
        obtain ⟨i, hi, rfl⟩ := List.getElem_of_mem hx
        rw [List.length_take] at hi
        rw [List.getElem_take]
        exact (loM_iff f hS.2 i (by omega)).2 (by omega)
      have hbk : ∀ x ∈ S.drop (loM n S f), nbl n f < nbl n x := fun x hx => by
        obtain ⟨i, hi, rfl⟩ := List.getElem_of_mem hx
        rw [List.length_drop] at hi
        rw [List.getElem_drop]
        have h1 : ¬ nbl n S[loM n S f + i] < nbl n f := fun hh => by
          have := (loM_iff f hS.2 _ (by omega)).1 hh
          omega
        have h2 : nbl n S[loM n S f + i] ≠ nbl n f := fun hh => hnm (by
          rw [← nbl_inj (hS.1 _ (List.getElem_mem (by omega))) hf hh]
          exact List.getElem_mem _)
        omega
      rw [List.pairwise_append, List.pairwise_cons]
      refine ⟨hS.2.sublist (List.take_sublist _ _), ⟨hbk, hS.2.sublist (List.drop_sublist _ _)⟩, fun a ha b hb => ?_⟩
      have h1 := hfr a ha
      rcases List.mem_cons.1 hb with rfl | hb
      · exact h1
      · have := hbk b hb; omega
theorem putM_len {n : Nat} {S : List (List Nat)} (f : List Nat) : (putM n S f).length ≤ S.length + 1 := by
  have hle := loM_le n S f
  unfold putM
  split
  · omega
  · rw [List.length_append, List.length_cons, List.length_take, List.length_drop]; omega
/-- The place of a map, or -1. -/
def plM (n : Nat) (S : List (List Nat)) (f : List Nat) : Int := if loM n S f < S.length ∧ S.getD (loM n S f) [] = f then loM n S f else -1
end Go.Proofs.YtpihikppdeecmaaGreat
end
section
/- A call that works on one object of its own, while all else is lent. A framework of this session's own: nothing here speaks of a program. -/
namespace Go.Kv
set_option linter.unusedVariables false
def AObj.plain : AObj → Prop
  | .dead => True
  | .box cs => ∀ c ∈ cs, Plain c
  | .arr _ _ _ xs => ∀ c ∈ flat xs, Plain c
theorem Plain.rel {c : PV} (h : Plain c) {φ φ' : Frz} {ι ι' : List KLoc} {v : Value} (hr : Rel φ ι c v) : Rel φ' ι' c v := by
  have h1 := h.up _ _ _ hr
  have h2 := h.fr φ φ' _ _ h1
  exact h2.mono (.refl _) (fun id l hl => by simp at hl)
theorem RelL.plain {cs : List PV} (h : ∀ c ∈ cs, Plain c) {φ φ' : Frz} {ι ι' : List KLoc} {vs : List Value} (hr : RelL φ ι cs vs) : RelL φ' ι' cs vs :=
  ⟨hr.1, fun i c v hc hv => (h c (List.mem_of_getElem? hc)).rel (hr.2 i c v hc hv)⟩
theorem ObjOK.plain {φ φ' : Frz} {ι ι' : List KLoc} {w : World} {o : AObj} {l : KLoc} (hp : o.plain) (h : ObjOK φ ι w o l) : ObjOK φ' ι' w o l := by
  cases o with
  | dead => cases l <;> simp [ObjOK]
  | box cs =>
    cases l <;> simp only [ObjOK] at h ⊢
    obtain ⟨C, e, h1, h2, h3⟩ := h
    exact ⟨C, e, h1, h2.plain hp, h3⟩
  | arr v e s xs =>
    cases l <;> simp only [ObjOK] at h ⊢
    obtain ⟨h1, h2, h2', h3, ys, h4, h5, h6⟩ := h
    exact ⟨h1, h2, h2', h3, ys, h4, h5.plain hp, h6⟩
end Go.Kv
end
section
/- One slice is frozen ahead of a loop, while the others stay one's own. A framework of this session's own: nothing here speaks of a program. -/
namespace Go.Kv
set_option linter.unusedVariables false
/-- What becomes of a value as object id is frozen. -/
def Gv (σ : Heap) (id : Nat) (c d : PV) : Prop := Imm (solo σ id) c d ∨ (c = d ∧ ∃ j ver off len, j ≠ id ∧ c = .ref j ver off len)
theorem give_trN (n : Nat) {φ : Frz} {ι : List KLoc} {σ : Heap} {w : World} (ho : HOK φ ι σ w) {id ver esz : Nat} {e : TypeId} {xs : List PV} (hid : σ[id]? = some (.arr ver e esz xs)) :
    ∃ φ1 ι1, HOK φ1 ι1 (σ.set id .dead) w ∧ Tr n φ ι w φ1 ι1 w ∧ ∀ c d v, Gv σ id c d → Rel φ ι c v → Rel φ1 ι1 d v := by
  have hlt := (List.getElem?_eq_some_iff.1 hid).1
  have hltι : id < ι.length := by rw [ho.len]; exact hlt
  have hl : ι[id]? = some ι[id] := List.getElem?_eq_getElem hltι
  have hobj := ho.obj id _ _ hid hl
  obtain ⟨k, e', s, u, hu⟩ : ∃ k e' s u, ι[id] = KLoc.arr k e' s u := by
    cases hx : ι[id] with
    | dead => rw [hx] at hobj; exact hobj.elim
    | box b => rw [hx] at hobj; exact hobj.elim
    | arr k e' s u => exact ⟨k, e', s, u, rfl⟩
  rw [hu] at hl
  obtain ⟨ho1, hLe⟩ := ho.upd (w' := w) (l' := .arr (k + 1) e' s (.slice none 0 0)) (o := .dead) hl (by simp [KLoc.le]) (Nat.le_refl _) (fun _ _ _ => rfl) (fun b hb => by simp [KLoc.block, Value.ownBlock] at hb) (fun b hb => by simp [KLoc.block, Value.ownBlock] at hb) trivial
  let φ1 : Frz := fun b => if u.ownBlock = some b then allFrz w b else φ b
  have hle : FLe φ φ1 := fun b C hb => by
    show (if u.ownBlock = some b then allFrz w b else φ b) = some C
    split
    · rename_i hb2
      have := ho.nf id _ b hl hb2
      rw [this] at hb; cases hb
    · exact hb
  have hin : ∀ (j : Nat) (x : KLoc) (b : Nat), (ι.set id (.arr (k + 1) e' s (.slice none 0 0)))[j]? = some x → x.block = some b → id ≠ j ∧ ι[j]? = some x := fun j x b hx hb => by
    by_cases ej : id = j
    · subst ej; rw [List.getElem?_set_self hltι] at hx; cases hx
      simp [KLoc.block, Value.ownBlock] at hb
    · rw [List.getElem?_set_ne ej] at hx; exact ⟨ej, hx⟩
  have ho2 : HOK φ1 (ι.set id (.arr (k + 1) e' s (.slice none 0 0))) (σ.set id .dead) w := by
    refine ⟨ho1.len, fun b C hb => ?_, fun j x b hx hb => ?_, ho1.dis, ho1.lt, fun j o x h1 h2 => (ho1.obj j o x h1 h2).keep hle (.refl _) (fun _ _ => rfl)⟩
    · replace hb : (if u.ownBlock = some b then allFrz w b else φ b) = some C := hb
      split at hb
      · exact (allFrz_hok w).fz b C hb
      · exact ho.fz b C hb
    · obtain ⟨hj, hx'⟩ := hin j x b hx hb
      show (if u.ownBlock = some b then allFrz w b else φ b) = none
      rw [if_neg fun hb2 : u.ownBlock = some b => hj (ho.dis id j _ x b hl hx' hb2 hb)]
      exact ho.nf j x b hx' hb
  have ht0 : Tr n φ ι w φ1 (ι.set id (.arr (k + 1) e' s (.slice none 0 0))) w := ⟨hle, hLe.of_take _, fun _ _ _ => rfl, Nat.le_refl _, fun b ⟨j, x, hx, hb⟩ => .inl ⟨j, x, (hin j x b hx hb).2, hb⟩, rfl, rfl, rfl, fun b C hb => by
    replace hb : (if u.ownBlock = some b then allFrz w b else φ b) = some C := hb
    split at hb
    · rename_i hb2; exact .inr (.inl ⟨id, _, hl, hb2⟩)
    · exact .inl hb⟩
  refine ⟨φ1, _, ho2, ht0, fun c d v hg hr => ?_⟩
  rcases hg with hi | ⟨rfl, j, vj, off, len, hj, rfl⟩
  · have := hi.rel (ho.solo id) hle (fun j o l' b C e f h1 h2 h3 h4 h5 => ?_) hr
    · exact this.mono (.refl _) (by simpa using LLe.append [] (ι.set id (KLoc.arr (k + 1) e' s (.slice none 0 0))))
    · by_cases ej : id = j
      · subst ej; rw [hl] at h3; cases h3
        show (if u.ownBlock = some b then allFrz w b else φ b) = some C
        rw [if_pos (show u.ownBlock = some b from h4)]; exact allFrz_own h5
      · exact absurd (solo_ne ej h1) h2
  · cases hr with
    | ref _ _ _ _ _ k e esz u hh ho' hk' hv' =>
      exact .ref j vj off len v k e esz u (by rw [List.getElem?_set_ne (Ne.symm hj)]; exact hh) ho' hk' hv'
/-- One slice is frozen ahead of a loop. -/
theorem KL_freezeAt {C : Cfg} {b : KC} {Q : Exit → Env → Heap → Prop} {env env0 env' : Env} {σ : Heap} (live : List Nat) (hn : C.n0 = 0) (hE : keep live env = env0) {id ver esz : Nat} {e : TypeId} {xs : List PV} (hid : σ[id]? = some (.arr ver e esz xs))
    (he : ∀ t, Gv σ id (Kv.look env0 t) (Kv.look env' t)) (h : KL C b Q env' (σ.set id .dead)) : KL C b Q env σ := by
  refine KL_keep live ?_
  rw [hE]
  intro c hc φ ι a w h1 h2
  obtain ⟨φ1, ι1, hok, htr, hrel⟩ := give_trN 0 h1 hid
  have := h c hc φ1 ι1 a w hok ⟨⟨h2.1.sz, h2.1.df, fun t => hrel _ _ _ (he t) (h2.1.rel t)⟩, by simp [hn]⟩
  refine this.mono fun e a' w' ⟨φ', ι', env', σ', g1, g2, g3, g4⟩ => ⟨φ', ι', env', σ', ?_, g2, g3, g4⟩
  rw [hn] at g1 ⊢
  exact htr.trans g1
end Go.Kv
end
section
/- The maps of all words, in the order in which they are met: the specification. -/
namespace Go.Proofs.YtpihikppdeecmaaGreat
open Go.Kv
set_option maxRecDepth 100000
def k81_b0 : KC := (.seq (.seq (.ops [mV 27 11, mV 28 0, oP 29 (.len false (.t 28)), oP 30 (.bin .lss (.t 27) (.t 29))])
  (.cond (.t 30) .skip (.exit 2)))
  (.seq (.block 3 (.seq (.draw [mV 33 7, mV 34 10, oP 35 (.idxS 6 (.t 33) (.t 34)), oP 36 (.load true 6 (.t 35)), mV 37 0, mV 38 11, oP 39 (.idxS 6 (.t 37) (.t 38)), oP 40 (.load true 6 (.t 39)), oP 41 (.pcall (fC 86) [(.t 36), (.t 40)]), oP 12 (.alloc [.int .i64 0, .int .i64 0, .int .i64 0, .int .i64 0, .int .i64 0, .int .i64 0]), ⟨none, none, .store 6 (.t 12) (.t 41)⟩])
  (.seq (.seq (.ops [mV 42 9, oP 43 (.load true 6 (.t 12)), oP 44 (.call (fC 120) [(.t 42), (.t 43)]), oP 45 (.bin .geq (.t 44) (iC 0))])
  (.cond (.t 45) (.exit 3) .skip))
  (.seq (.seq (.ops [mV 46 7, oP 47 (.len false (.t 46)), oP 48 (.bin .eql (.t 47) (iC 300))])
  (.cond (.t 48) (.seq (.ops [oP 4 (.mv (.c (.nils))), oP 5 (.mv (.c (.nils))), oP 6 (.mv (.c (.bool false)))])
  .ret) .skip))
  (.seq (.ops [mV 49 7, oP 50 (.load true 6 (.t 12)), oP 51 (.bsl true 54 6 [(.t 50)]), oP 52 (.app (.t 49) (.t 51) 54 6), mV 7 52])
  (.seq (.ops [mV 53 8, mV 54 8, mV 55 10, oP 56 (.idxS 1 (.t 54) (.t 55)), oP 57 (.load false 1 (.t 56)), oP 58 (.call (fC 108) [(.t 57)]), mV 59 11, oP 60 (.bsl true 2 1 [(.t 59)]), oP 61 (.app (.t 58) (.t 60) 2 1), oP 62 (.bsl true 23 1 [(.t 61)]), oP 63 (.app (.t 53) (.t 62) 23 1), mV 8 63])
  (.ops [mV 64 9, oP 65 (.load true 6 (.t 12)), oP 66 (.call (fC 82) [(.t 64), (.t 65)]), mV 9 66])))))))
  (.ops [mV 31 11, oP 32 (.bin .add (.t 31) (iC 1)), mV 11 32])))
def k81_b1 : KC := (.seq (.seq (.ops [mV 21 10, mV 22 7, oP 23 (.len false (.t 22)), oP 24 (.bin .lss (.t 21) (.t 23))])
  (.cond (.t 24) .skip (.exit 0)))
  (.seq (.block 1 (.seq (.ops [oP 11 (.mv (iC 0))])
  (.block 2 (.loop k81_b0))))
  (.ops [mV 25 10, oP 26 (.bin .add (.t 25) (iC 1)), mV 10 26])))
def k81 : KC := (.seq (.ops [oP 4 (.mv (.c (.nils))), oP 5 (.mv (.c (.nils))), oP 6 (.mv (.c (.bool false)))])
  (.seq (.ops [mV 13 1, oP 14 (.call (fC 85) [(.t 13)]), oP 15 (.bsl false 54 6 [(.t 14)]), oP 16 (.bsl false 2 1 []), oP 17 (.bsl false 23 1 [(.t 16)]), mV 7 15, mV 8 17])
  (.seq (.ops [mV 18 1, oP 19 (.call (fC 85) [(.t 18)]), oP 20 (.bsl false 54 6 [(.t 19)]), mV 9 20])
  (.seq (.seq (.ops [oP 10 (.mv (iC 0))])
  (.block 0 (.loop k81_b1)))
  (.seq (.ops [mV 67 7, mV 68 8, mV 4 67, mV 5 68, oP 6 (.mv (.c (.bool true)))])
  .ret)))))
theorem e81 : Ent 81 69 [51, 60, 62] [.t 4, .t 5, .t 6] k81 := ent Tryz.func81 (by kernel_rfl) (by kernel_rfl) (by kernel_rfl) (fun _ => by kernel_rfl) (by kernel_rfl)
end Go.Proofs.YtpihikppdeecmaaGreat
namespace Go.Proofs.YtpihikppdeecmaaGreat
open Go.Kv
set_option linter.unusedVariables false
set_option linter.unusedSimpArgs false
attribute [local irreducible] ACall PCall KL
/-- What one map gives, by the first k of the list; nothing, if there are too many. -/
def clA (fs : List (List Nat)) (m : List Nat) (Q : List (List Nat)) : Nat → Option (List (List Nat))
  | 0 => some Q
  | k + 1 => match clA fs m Q k with
    | none => none
    | some R => if mul m (fs.getD k []) ∈ R then some R else if R.length = 300 then none else some (R ++ [mul m (fs.getD k [])])
/-- What has been met behind i maps. -/
def clB (fs : List (List Nat)) (n : Nat) : Nat → Option (List (List Nat))
  | 0 => some [List.range n]
  | i + 1 => match clB fs n i with
    | none => none
    | some Q => match Q[i]? with
      | some m => clA fs m Q fs.length
      | none => some Q
theorem range_ok {n : Nat} (h1 : 1 ≤ n) (h5 : n ≤ 5) : Ok (List.range n) n := by
  refine ⟨?_, ?_, ?_, ?_⟩ <;> first | exact h1 | exact h5 | simp
theorem clA_pre {fs : List (List Nat)} {m : List Nat} {Q : List (List Nat)} : ∀ k R, clA fs m Q k = some R → ∃ r, R = Q ++ r
  | 0, R, h => by
    have : Q = R := by simpa [clA] using h
    exact ⟨[], by simp [this]⟩
  | k + 1, R, h => by
    unfold clA at h
    cases hc : clA fs m Q k with
    | none => rw [hc] at h; cases h
    | some R' =>
      obtain ⟨r, hr⟩ := clA_pre k R' hc
      rw [hc] at h
      simp only at h
      split at h
      · cases h; exact ⟨r, hr⟩
      · split at h
        · cases h
        · cases h; exact ⟨r ++ [mul m (fs.getD k [])], by rw [hr, List.append_assoc]⟩
theorem clA_none {fs : List (List Nat)} {m : List Nat} {Q : List (List Nat)} {k : Nat} (h : clA fs m Q k = none) : ∀ d, clA fs m Q (k + d) = none
  | 0 => h
  | d + 1 => by
    show clA fs m Q (k + d + 1) = none
    unfold clA
    rw [clA_none h d]
theorem WG.immN {σ : Heap} {A : Nat → Prop} {q ver k : Nat} {ws : List PV} {L : List (List Int)} (h : WG σ A q ver ws L) (hk : k = L.length) : Imm σ (.ref q ver 0 k) (.list (rows L)) := by
  subst hk
  refine .ref q ver 0 L.length _ 1 ws (rows L) h.out (by rw [h.len]; simp) (rows_length L) (fun i x d hx hd => ?_) (fun i x d j c c' hx hd hc hc' => ?_)
  all_goals
    rw [Nat.zero_add] at hx
    have hi : i < L.length := by have := (List.getElem?_eq_some_iff.1 hd).1; rwa [rows_length] at this
    obtain ⟨w, hw, hW⟩ := h.cell hi
    obtain ⟨y, hy, rfl⟩ := rows_get hd
    rw [List.getElem?_eq_getElem hi] at hy; cases hy
    rw [hw] at hx; cases hx
  · have := hW.cs
    refine ⟨by rw [this.1]; rfl, rfl⟩
  · have h1 := List.mem_of_getElem? hc
    have h2 := List.mem_of_getElem? hc'
    rw [hW.cs.1] at h1
    simp only [PV.cs, List.mem_singleton] at h1 h2
    subst h1; subst h2
    exact hW.imm
set_option maxHeartbeats 4000000 in
theorem p81 (fs : List (List Nat)) (n : Nat) (h1 : 1 ≤ n) (h5 : n ≤ 5) (hf : ∀ f ∈ fs, Ok f n) (hfl : fs.length ≤ 1000) {K : PV → Heap → Prop}
    (hK1 : ∀ i Q W, clB fs n i = some Q → i = Q.length → (∀ f ∈ Q, Ok f n) → Q.length ≤ 300 → K (.tup [.list (aggs (Q.map mp)), .list (rows W), .bool true]) [])
    (hK2 : ∀ i, i ≤ 301 → clB fs n i = none → K (.tup [.nils, .nils, .bool false]) []) : ACall Tryz.prog 81 [.list (aggs (fs.map mp)), .int .i64 n] [] K := by
  have h0k := range_ok h1 h5
  have h06 := h0k.mp_len
  refine e81 (by simp) fun _ _ => ?_
  simp only [k81, argEnv, go_sem]
  refine (p85 n h1 h5).go ?_
  try simp only [OpK_eq, HKv, h06, go_sem]
  refine (p85 n h1 h5).go ?_
  try simp only [OpK_eq, HKv, h06, go_sem]
  refine KL_freezeAt (id := 3) [0, 7, 8, 9, 10] rfl (env0 := [(0, .list (aggs (fs.map mp))), (7, .ref 0 0 0 1), (8, .ref 2 0 0 1), (9, .ref 3 0 0 1), (10, .int .i64 0)]) (env' := [(0, .list (aggs (fs.map mp))), (7, .ref 0 0 0 1), (8, .ref 2 0 0 1), (9, .list (aggs ([List.range n].map mp))), (10, .int .i64 0)]) (by simp [keep]) (by rfl) (fun t => ?_) ?_
  · simp only [look_cons, look_nil]
    repeat' split
    · exact .inl Imm.still
    · exact .inr ⟨rfl, 0, 0, 0, 1, by decide, rfl⟩
    · exact .inr ⟨rfl, 2, 0, 0, 1, by decide, rfl⟩
    · exact .inl (Imm.refa (l := [mp (List.range n)]) (solo_get rfl))
    · exact .inl Imm.still
    · exact .inl (.refl _ Plain.undef.up)
  refine KL_ind k81_b1.eq_1 (fun y : Nat × Nat × Nat × List PV × List (List Int) × List (List Nat) × List (List Nat) × Heap => [(0, .list (aggs (fs.map mp))), (7, .ref 0 y.2.1 0 y.2.2.2.2.2.2.1.length), (8, .ref 2 y.2.2.1 0 y.2.2.2.2.2.2.1.length), (9, .list (aggs (y.2.2.2.2.2.1.map mp))), (10, .int .i64 y.1)]) (fun y => y.2.2.2.2.2.2.2)
    (fun ⟨i, v0, v2, ws, W, S, Q, σ⟩ => i ≤ Q.length ∧ clB fs n i = some Q ∧ (∀ f ∈ Q, Ok f n) ∧ Q.length ≤ 300 ∧ SrM n S ∧ (∀ f, f ∈ S ↔ f ∈ Q) ∧ S.length ≤ Q.length ∧ σ[0]? = some (.arr v0 54 6 (aggs (Q.map mp))) ∧ WG σ (fun id => id = 0) 2 v2 ws W ∧ W.length = Q.length ∧ (∀ w ∈ W, w.length + 1 ≤ W.length)) (fun y => 301 - y.1) [0, 7, 8, 9, 10]
    (0, 0, 0, [.ref 1 0 0 0], [[]], [List.range n], [List.range n], _) (by simp [keep]) rfl ?_ fun ⟨i, v0, v2, ws, W, S, Q, σ⟩ ⟨j1, j2, j3, j4, j5, j6, j7, j8, j9, j10, j11⟩ ih => ?_
  · refine ⟨Nat.zero_le _, rfl, fun f hf' => ?_, by simp, ⟨fun f hf' => ?_, by simp⟩, fun f => Iff.rfl, Nat.le_refl _, rfl, ⟨rfl, rfl, fun j w l hw hl => ?_⟩, rfl, fun w hw => ?_⟩
    · simp only [List.mem_singleton] at hf'; rw [hf']; exact h0k
    · simp only [List.mem_singleton] at hf'; rw [hf']; exact h0k
    · have e1 := List.mem_of_getElem? hw
      have e2 := List.mem_of_getElem? hl
      simp only [List.mem_singleton] at e1 e2
      subst e1; subst e2
      exact .inr ⟨1, 0, rfl, rfl, by decide⟩
    · simp only [List.mem_singleton] at hw; subst hw; simp
  try simp only at j1 j2 j3 j4 j5 j6 j7 j8 j9 j10 j11
  try simp only [OpK_eq, HKv, j8, aggs_length, List.length_map, go_sem]
  refine ⟨fun g1 => ?_, fun g1 => ?_⟩
  · have hil : i < Q.length := by omega
    have hm? : Q[i]? = some Q[i] := List.getElem?_eq_getElem hil
    have hBs : clB fs n (i + 1) = clA fs Q[i] Q fs.length := by
      rw [clB, j2]
      simp only
      rw [hm?]
    have hmO := j3 _ (List.getElem_mem hil)
    generalize hm : Q[i] = m at *
    refine KL_ind k81_b0.eq_1 (fun y : Nat × Nat × Nat × List PV × List (List Int) × List (List Nat) × List (List Nat) × Heap => [(0, .list (aggs (fs.map mp))), (7, .ref 0 y.2.1 0 y.2.2.2.2.2.2.1.length), (8, .ref 2 y.2.2.1 0 y.2.2.2.2.2.2.1.length), (9, .list (aggs (y.2.2.2.2.2.1.map mp))), (10, .int .i64 i), (11, .int .i64 y.1)]) (fun y => y.2.2.2.2.2.2.2)
      (fun ⟨k, v0, v2, ws, W, S, R, τ⟩ => k ≤ fs.length ∧ clA fs m Q k = some R ∧ (∀ f ∈ R, Ok f n) ∧ R.length ≤ 300 ∧ SrM n S ∧ (∀ f, f ∈ S ↔ f ∈ R) ∧ S.length ≤ R.length ∧ τ[0]? = some (.arr v0 54 6 (aggs (R.map mp))) ∧ WG τ (fun id => id = 0) 2 v2 ws W ∧ W.length = R.length ∧ (∀ w ∈ W, w.length + 1 ≤ W.length)) (fun y => fs.length - y.1) [0, 7, 8, 9, 10, 11]
      (0, v0, v2, ws, W, S, Q, σ) (by simp [keep]) rfl ⟨Nat.zero_le _, rfl, j3, j4, j5, j6, j7, j8, j9, j10, j11⟩ fun ⟨k, u0, u2, ws2, W2, S2, R, τ⟩ ⟨l1, l2, l3, l4, l5, l6, l7, l8, l9, l10, l11⟩ ihk => ?_
    obtain ⟨r, hr⟩ := clA_pre k R l2
    have hiR : i < R.length := by rw [hr, List.length_append]; omega
    have hRi : (R.map mp).getD i [] = mp m := by
      rw [List.getD_eq_getElem?_getD, List.getElem?_map, hr, List.getElem?_append_left hil, hm?]; rfl
    have h6m := hmO.mp_len
    try simp only [OpK_eq, HKv, l8, aggs_length, List.length_map, go_sem]
    refine ⟨fun g2 => ?_, fun g2 => ?_⟩
    · have hkl : k < fs.length := by omega
      have hfk := hf _ (List.getElem_mem hkl)
      have h6k := hfk.mp_len
      have hgk : (fs.map mp).getD k [] = mp fs[k] := by simp [List.getD_eq_getElem?_getD, hkl]
      have hgf : fs.getD k [] = fs[k] := by simp [List.getD_eq_getElem?_getD, hkl]
      try simp only [OpK_eq, HKv, l8, aggs_length, List.length_map, hRi, h6m, hgk, h6k, go_sem]
      refine ⟨⟨by omega, by omega⟩, by omega, fun _ => ⟨by omega, fun _ => ?_⟩⟩
      refine (p86 m fs[k] n hmO hfk).pgo ?_
      have hgO := hmO.mul hfk
      have hAs : clA fs m Q (k + 1) = if mul m fs[k] ∈ R then some R else if R.length = 300 then none else some (R ++ [mul m fs[k]]) := by
        rw [clA, l2]
        simp only
        rw [hgf]
      generalize hg' : mul m fs[k] = g at *
      have h6g := hgO.mp_len
      have hgb : ∀ (s : Heap) (a : AObj), (s ++ [a])[s.length]? = some a := fun s a => by simp
      have hsb : ∀ (s : Heap) (a b : AObj), (s ++ [a]).set s.length b = s ++ [b] := fun s a b => by simp [List.set_append_right]
      have hilg : (ints (mp g)).length = 6 := by rw [ints_length, h6g]
      try simp only [OpK_eq, HKv, hgb, hsb, hilg, h6g, go_sem]
      have hFd := p120 n S2 l5 (by omega) g hgO
      have hlom := lo_mem l5 hgO
      by_cases hin : g ∈ R
      · rw [if_pos hin] at hAs
        rw [if_pos (hlom.2 ((l6 g).2 hin))] at hFd
        refine hFd.go ?_
        try simp only [OpK_eq, HKv, go_sem]
        refine ⟨by omega, ihk (k + 1, u0, u2, ws2, W2, S2, R, _) ⟨by omega, hAs, l3, l4, l5, l6, l7, (List.getElem?_append_left (List.getElem?_eq_some_iff.1 l8).1).trans l8, l9.keep (fun id hid _ => List.getElem?_append_left hid) (by decide), l10, l11⟩ (by show fs.length - (k + 1) < fs.length - k; omega) _ _ (by simp [keep]) rfl⟩
      · rw [if_neg hin] at hAs
        rw [if_neg (fun h => hin ((l6 g).1 (hlom.1 h)))] at hFd
        refine hFd.go ?_
        have h0' : ∀ X, (τ ++ X)[0]? = some (.arr u0 54 6 (aggs (R.map mp))) := fun X => (List.getElem?_append_left (List.getElem?_eq_some_iff.1 l8).1).trans l8
        have hok := ok6' h6g
        have t6 : List.take 6 (mp g) = mp g := take6 h6g
        have tR : List.take R.length (R.map mp) = R.map mp := List.take_of_length_le (by rw [List.length_map]; exact Nat.le_refl _)
        have tRg : R.map mp ++ [mp g] = (R ++ [g]).map mp := by simp
        try simp only [OpK_eq, HKv, h0', aggs_length, List.length_map, t6, tR, tRg, go_sem]
        refine ⟨fun h300 => Kv.Fin.still (hK2 (i + 1) (by omega) ?_), fun h300 => ⟨by omega, h6g, h6g, ⟨by omega, by omega⟩, ?_⟩⟩
        · rw [hBs]
          have hN : clA fs m Q (k + 1) = none := by rw [hAs, if_pos (by omega)]
          have := clA_none hN (fs.length - (k + 1))
          rwa [show k + 1 + (fs.length - (k + 1)) = fs.length by omega] at this
        · rw [if_neg (by omega)] at hAs
          have hτ0 := (List.getElem?_eq_some_iff.1 l8).1
          have r0 : ((τ ++ [AObj.box (ints (mp g))]).set 0 (.arr (u0 + 1) 54 6 (aggs ((R ++ [g]).map mp))))[0]? = some (.arr (u0 + 1) 54 6 (aggs ((R ++ [g]).map mp))) := List.getElem?_set_self (by simp)
          have rb : ((τ ++ [AObj.box (ints (mp g))]).set 0 (.arr (u0 + 1) 54 6 (aggs ((R ++ [g]).map mp))))[τ.length]? = some (.box (ints (mp g))) := by
            rw [List.getElem?_set_ne (by omega)]; simp
          have hW : WG ((τ ++ [AObj.box (ints (mp g))]).set 0 (.arr (u0 + 1) 54 6 (aggs ((R ++ [g]).map mp)))) (fun id => id = 0) 2 u2 ws2 W2 := l9.keep (fun id hid hA => by
            rw [List.getElem?_set_ne (fun e => hA e.symm), List.getElem?_append_left hid]) (by decide)
          generalize (τ ++ [AObj.box (ints (mp g))]).set 0 (.arr (u0 + 1) 54 6 (aggs ((R ++ [g]).map mp))) = ρ at *
          obtain ⟨w, hw, hWd⟩ := hW.cell (i := i) (by omega)
          have hWo := hW.out
          have hwl := hW.len
          have hwcs := hWd.cs
          try simp only [OpK_eq, HKv, hWo, go_sem]
          refine ⟨⟨by omega, by omega⟩, by omega, fun q hq => ?_⟩
          rw [hw] at hq; cases hq
          rw [hwcs.1]
          refine ⟨by simp, fun q hq => ?_⟩
          simp only [List.getElem?_cons_zero, Option.some.injEq] at hq; subst hq
          have hWi : W2[i].length + 1 ≤ W2.length := l11 _ (List.getElem_mem _)
          generalize W2[i]'(by omega) = wi at hWd hWi
          try simp only [OpK_eq, HKv, go_sem]
          refine ACall.lend (p108 wi (by omega)) (.cons hWd.imm (.nil _)) fun v s hv => ?_
          obtain ⟨rfl, rfl⟩ := hv
          refine ⟨⟨free_ref _ _ _ _, Free.ints _ _ _ _⟩, ?_⟩
          try simp only [OpK_eq, HKv, ren_ref, ren_arr, ren_ints, Nat.zero_add, hgb, hsb, go_sem]
          have hW3 : WG (ρ ++ [AObj.arr 2 2 1 (ints (wi ++ [(k : Int)]))]) (fun id => id = 0) 2 u2 ws2 W2 := hW.keep (fun id hid _ => List.getElem?_append_left hid) (by decide)
          have hρ2 := (List.getElem?_eq_some_iff.1 hWo).1
          have hwd : Wd (ρ ++ [AObj.arr 2 2 1 (ints (wi ++ [(k : Int)]))]) (fun id => id = 0 ∨ id = 2) (.ref ρ.length 2 0 (wi.length + 1)) (wi ++ [(k : Int)]) := by
            have e : wi.length + 1 = (wi ++ [(k : Int)]).length := by simp
            rw [e]
            exact .inr ⟨_, 2, rfl, by simp, fun h => by rcases h with h | h <;> omega⟩
          have hpush : ∀ K' : PV → Heap → Prop, (WG ((ρ ++ [AObj.arr 2 2 1 (ints (wi ++ [(k : Int)]))]).set 2 (.arr (u2 + 1) 23 1 (ws2 ++ [.ref ρ.length 2 0 (wi.length + 1)]))) (fun id => id = 0) 2 (u2 + 1) (ws2 ++ [.ref ρ.length 2 0 (wi.length + 1)]) (W2 ++ [wi ++ [(k : Int)]]) → K' (.ref 2 (u2 + 1) 0 (R.length + 1)) ((ρ ++ [AObj.arr 2 2 1 (ints (wi ++ [(k : Int)]))]).set 2 (.arr (u2 + 1) 23 1 (ws2 ++ [.ref ρ.length 2 0 (wi.length + 1)])))) → aApp 23 1 (.ref 2 u2 0 R.length) (.list [.ref ρ.length 2 0 (wi.length + 1)]) (ρ ++ [AObj.arr 2 2 1 (ints (wi ++ [(k : Int)]))]) K' := fun K' hk => by
            have := hW3.push hwd (by omega) (K := K') (by rw [l10]; exact hk)
            rwa [l10] at this
          refine ⟨⟨by omega, by omega⟩, ?_⟩
          rw [← aApp_ref]
          refine hpush _ fun hWn => ?_
          have n0 : ((ρ ++ [AObj.arr 2 2 1 (ints (wi ++ [(k : Int)]))]).set 2 (.arr (u2 + 1) 23 1 (ws2 ++ [.ref ρ.length 2 0 (wi.length + 1)])))[0]? = some (.arr (u0 + 1) 54 6 (aggs ((R ++ [g]).map mp))) := by
            rw [List.getElem?_set_ne (by decide), List.getElem?_append_left (by omega)]; exact r0
          have hτ2 := (List.getElem?_eq_some_iff.1 l9.out).1
          have nb : ((ρ ++ [AObj.arr 2 2 1 (ints (wi ++ [(k : Int)]))]).set 2 (.arr (u2 + 1) 23 1 (ws2 ++ [.ref ρ.length 2 0 (wi.length + 1)])))[τ.length]? = some (.box (ints (mp g))) := by
            have hb := (List.getElem?_eq_some_iff.1 rb).1
            rw [List.getElem?_set_ne (by omega), List.getElem?_append_left hb]; exact rb
          generalize (ρ ++ [AObj.arr 2 2 1 (ints (wi ++ [(k : Int)]))]).set 2 (.arr (u2 + 1) 23 1 (ws2 ++ [.ref ρ.length 2 0 (wi.length + 1)])) = ρ2 at *
          try simp only [OpK_eq, HKv, nb, hilg, h6g, go_sem]
          refine (p82 n S2 l5 (by omega) g hgO).go ?_
          have hpm := fun x => putM_mem l5 hgO (x := x)
          have hps := putM_srm l5 hgO
          have hpl := putM_len (n := n) (S := S2) g
          try simp only [OpK_eq, HKv, go_sem]
          refine ⟨by omega, ihk (k + 1, u0 + 1, u2 + 1, _, W2 ++ [wi ++ [(k : Int)]], putM n S2 g, R ++ [g], ρ2) ⟨by omega, hAs, fun f hf' => ?_, by simp; omega, hps, fun f => ?_, by simp; omega, n0, hWn, by simp [l10], fun x hx => ?_⟩ (by show fs.length - (k + 1) < fs.length - k; omega) _ _ (by simp [keep]) rfl⟩
          · rcases List.mem_append.1 hf' with hf' | hf'
            · exact l3 f hf'
            · simp only [List.mem_singleton] at hf'; rw [hf']; exact hgO
          · rw [hpm, List.mem_append, List.mem_singleton, l6]
            exact ⟨fun h => h.elim .inr .inl, fun h => h.elim .inr .inl⟩
          · rw [List.length_append, List.length_singleton]
            rcases List.mem_append.1 hx with hx | hx
            · have := l11 x hx; omega
            · simp only [List.mem_singleton] at hx
              rw [hx, List.length_append, List.length_singleton]; omega
    · have hke : k = fs.length := by omega
      subst hke
      try simp only [go_sem]
      exact ⟨by omega, ih (i + 1, u0, u2, ws2, W2, S2, R, τ) ⟨by omega, by rw [hBs]; exact l2, l3, l4, l5, l6, l7, l8, l9, l10, l11⟩ (by show 301 - (i + 1) < 301 - i; omega) _ _ (by simp [keep]) rfl⟩
  · have hiQ : i = Q.length := by omega
    have hl1 : Q.length = (Q.map mp).length := (List.length_map _).symm
    refine Kv.Fin.freeze (Imm.tupL (.cons (Imm.refa' j8 hl1) (.cons (WG.immN j9 j10.symm) (.cons Imm.still (.nil _))))) (hK1 i Q W j2 hiQ j3 j4)
end Go.Proofs.YtpihikppdeecmaaGreat
end
section
/- The elements of a monoid, and its table: the specification. -/
namespace Go.Proofs.YtpihikppdeecmaaGreat
open Go.Kv
set_option maxRecDepth 100000
def k36_b0 : KC := (.seq (.seq (.ops [mV 31 11, mV 32 7, oP 33 (.len false (.t 32)), oP 34 (.bin .lss (.t 31) (.t 33))])
  (.cond (.t 34) .skip (.exit 0)))
  (.seq (.block 1 (.ops [mV 37 10, mV 38 7, mV 39 11, oP 40 (.idxS 6 (.t 38) (.t 39)), oP 41 (.load true 6 (.t 40)), oP 42 (.call (fC 82) [(.t 37), (.t 41)]), mV 10 42]))
  (.ops [mV 35 11, oP 36 (.bin .add (.t 35) (iC 1)), mV 11 36])))
def k36 : KC := (.seq (.ops [oP 4 (.mv (.c (.nils))), oP 5 (.mv (iC 0))])
  (.seq (.seq (.ops [mV 12 0, mV 13 1, oP 14 (.call (fC 80) [(.t 12), (.t 13)]), mV 6 14])
  (.seq (.ops [mV 15 6, oP 16 (.bin .neq (.t 15) (iC 0))])
  (.cond (.t 16) (.seq (.ops [mV 17 6, oP 4 (.mv (.c (.nils))), mV 5 17])
  .ret) .skip)))
  (.seq (.ops [mV 19 0, mV 20 0, oP 21 (.idxS 6 (.t 20) (iC 0)), oP 22 (.fieldA 0 (.t 21)), oP 23 (.load false 1 (.t 22)), oP 24 (.call (fC 81) [(.t 19), (.t 23)]), mV 18 24, oP 25 (.extr 0 (.t 18)), oP 26 (.extr 1 (.t 18)), oP 27 (.extr 2 (.t 18)), mV 7 25, mV 8 26, mV 9 27])
  (.seq (.seq (.ops [mV 28 9, oP 29 (.not (.t 28))])
  (.cond (.t 29) (.seq (.ops [oP 4 (.mv (.c (.nils))), oP 5 (.mv (iC 3))])
  .ret) .skip))
  (.seq (.ops [oP 30 (.bsl false 54 6 []), mV 10 30])
  (.seq (.seq (.ops [oP 11 (.mv (iC 0))])
  (.block 0 (.loop k36_b0)))
  (.seq (.ops [mV 43 10, mV 4 43, oP 5 (.mv (iC 0))])
  .ret)))))))
theorem e36 : Ent 36 44 [] [.t 4, .t 5] k36 := ent Tryz.func36 (by kernel_rfl) (by kernel_rfl) (by kernel_rfl) (fun _ => by kernel_rfl) (by kernel_rfl)
end Go.Proofs.YtpihikppdeecmaaGreat
namespace Go.Proofs.YtpihikppdeecmaaGreat
open Go.Kv
set_option linter.unusedVariables false
set_option linter.unusedSimpArgs false
attribute [local irreducible] ACall PCall KL
theorem clB_none {fs : List (List Nat)} {n i : Nat} (h : clB fs n i = none) : ∀ d, clB fs n (i + d) = none
  | 0 => h
  | d + 1 => by
    show clB fs n (i + d + 1) = none
    rw [clB, clB_none h d]
theorem clB_stop {fs : List (List Nat)} {n i : Nat} {Q : List (List Nat)} (h : clB fs n i = some Q) (hi : Q.length ≤ i) : ∀ d, clB fs n (i + d) = some Q
  | 0 => h
  | d + 1 => by
    show clB fs n (i + d + 1) = some Q
    rw [clB, clB_stop h hi d]
    simp only
    rw [List.getElem?_eq_none (by omega)]
/-- The maps of all words, if there are not too many. -/
def clR (fs : List (List Nat)) (n : Nat) : Option (List (List Nat)) := clB fs n 301
/-- In order. -/
def elS (n : Nat) (Q : List (List Nat)) : List (List Nat) := Q.foldl (putM n) []
theorem fold_putM {n : Nat} : ∀ (Q S : List (List Nat)), SrM n S → (∀ f ∈ Q, Ok f n) → SrM n (Q.foldl (putM n) S) ∧ (∀ f, f ∈ Q.foldl (putM n) S ↔ f ∈ Q ∨ f ∈ S) ∧ (Q.foldl (putM n) S).length ≤ Q.length + S.length
  | [], S, h, _ => ⟨h, fun f => by simp, by simp⟩
  | a :: Q, S, h, hQ => by
    have ha := hQ a (by simp)
    obtain ⟨h1, h2, h3⟩ := fold_putM Q (putM n S a) (putM_srm h ha) fun f hf => hQ f (by simp [hf])
    refine ⟨h1, fun f => ?_, ?_⟩
    · rw [List.foldl_cons, h2, putM_mem h ha, List.mem_cons]
      constructor
      · rintro (h | h | h)
        · exact .inl (.inr h)
        · exact .inl (.inl h)
        · exact .inr h
      · rintro ((h | h) | h)
        · exact .inr (.inl h)
        · exact .inl h
        · exact .inr (.inr h)
    · have := putM_len (n := n) (S := S) a
      rw [List.foldl_cons, List.length_cons]; omega
theorem p36_in (fs : List (List Nat)) (n : Nat) (h1 : 1 ≤ n) (h5 : n ≤ 5) (hf : ∀ f ∈ fs, Ok f n) (h0 : 0 < fs.length) (hfl : fs.length ≤ 6) (hl : lcode (fs.map mp) [] = 0) :
    Pure Tryz.prog 36 [.list (aggs (fs.map mp)), .nils] (match clR fs n with | none => .tup [.nils, .int .i64 3] | some Q => .tup [.list (aggs ((elS n Q).map mp)), .int .i64 0]) := by
  have hk := hf _ (List.getElem_mem h0)
  have h6k := hk.mp_len
  have hn : (mp fs[0]).getD 0 0 = (n : Int) := by simp [mp, mpN, hk.len]
  refine e36 (by simp) fun _ _ => ?_
  simp only [k36, argEnv, go_sem]
  refine (p80n (fs.map mp) (by simp; omega) (fun r hr => by obtain ⟨f, hf', rfl⟩ := List.mem_map.1 hr; exact (hf f hf').mp_len)).go ?_
  rw [hl]
  try simp only [OpK_eq, HKv, map_getD h0, h6k, hn, List.length_map, go_sem]
  refine ⟨by omega, fun _ => ?_⟩
  refine p81 fs n h1 h5 hf (by omega) (fun i Q W c1 c2 c3 c4 => ?_) (fun i c0 c1 => ?_)
  · have hR : clR fs n = some Q := by
      have := clB_stop c1 (by omega) (301 - i)
      rwa [show i + (301 - i) = 301 by omega] at this
    rw [hR]
    try simp only [OpK_eq, HKv, go_sem]
    refine KL_freeze (env0 := [(7, .list (aggs (Q.map mp))), (10, .ref 0 0 0 0), (11, .int .i64 0)]) (env' := [(7, .list (aggs (Q.map mp))), (10, .list (aggs (([] : List (List Nat)).map mp))), (11, .int .i64 0)]) [7, 10, 11] rfl (by simp [keep]) (.cons Imm.still (.cons (Imm.refa (l := []) rfl) (.cons Imm.still .nil))) ?_
    refine KL_ind k36_b0.eq_1 (fun y : Nat => [(7, .list (aggs (Q.map mp))), (10, .list (aggs ((elS n (Q.take y)).map mp))), (11, .int .i64 y)]) (fun _ => []) (fun y => y ≤ Q.length) (fun y => Q.length - y) [7, 10, 11] 0 (by simp [keep, elS]) rfl (Nat.zero_le _) fun y hy ih => ?_
    try simp only [OpK_eq, HKv, aggs_length, List.length_map, go_sem]
    refine ⟨fun g1 => ?_, fun g1 => ?_⟩
    · have hyl : y < Q.length := by omega
      have hgy : (Q.map mp).getD y [] = mp Q[y] := by simp [List.getD_eq_getElem?_getD, hyl]
      have hOy := c3 _ (List.getElem_mem hyl)
      have h6y := hOy.mp_len
      obtain ⟨s1, s2, s3⟩ := fold_putM (n := n) (Q.take y) [] ⟨by simp, by simp⟩ fun f hf' => c3 f (List.mem_of_mem_take hf')
      have hes : elS n (Q.take (y + 1)) = putM n (elS n (Q.take y)) Q[y] := by
        unfold elS
        rw [List.take_succ_eq_append_getElem hyl, List.foldl_append]; rfl
      have s3' : (elS n (Q.take y)).length ≤ Q.length := by
        have : (elS n (Q.take y)).length ≤ (Q.take y).length + 0 := s3
        rw [List.length_take] at this; omega
      try simp only [OpK_eq, HKv, aggs_length, List.length_map, hgy, h6y, go_sem]
      refine ⟨by omega, fun _ => ?_⟩
      refine (p82 n (elS n (Q.take y)) s1 (by omega) Q[y] hOy).go ?_
      try simp only [OpK_eq, HKv, go_sem]
      exact ⟨by omega, ih (y + 1) (by omega) (by omega) _ _ (by simp [keep, hes]) rfl⟩
    · obtain rfl : y = Q.length := by omega
      rw [List.take_length]
      try simp only [OpK_eq, HKv, go_sem]
      exact Kv.Fin.still ⟨rfl, rfl⟩
  · have hR : clR fs n = none := by
      have := clB_none c1 (301 - i)
      rwa [show i + (301 - i) = 301 by omega] at this
    rw [hR]
    try simp only [OpK_eq, HKv, go_sem]
    exact Kv.Fin.still ⟨rfl, rfl⟩
theorem elS_ok {n : Nat} {Q : List (List Nat)} (hQ : ∀ f ∈ Q, Ok f n) : SrM n (elS n Q) ∧ (∀ f, f ∈ elS n Q ↔ f ∈ Q) ∧ (elS n Q).length ≤ Q.length := by
  obtain ⟨h1, h2, h3⟩ := fold_putM (n := n) Q [] ⟨by simp, by simp⟩ hQ
  exact ⟨h1, fun f => by rw [elS, h2]; simp, h3⟩
theorem clA_okQ {fs : List (List Nat)} {n : Nat} (hf : ∀ f ∈ fs, Ok f n) {m : List Nat} (hm : Ok m n) {Q : List (List Nat)} (hQ : ∀ f ∈ Q, Ok f n) (hl : Q.length ≤ 300) : ∀ k R, k ≤ fs.length → clA fs m Q k = some R → (∀ f ∈ R, Ok f n) ∧ R.length ≤ 300
  | 0, R, _, h => by
    have : Q = R := by simpa [clA] using h
    subst this; exact ⟨hQ, hl⟩
  | k + 1, R, hk, h => by
    unfold clA at h
    cases hc : clA fs m Q k with
    | none => rw [hc] at h; cases h
    | some R' =>
      obtain ⟨h1, h2⟩ := clA_okQ hf hm hQ hl k R' (by omega) hc
      have hgf : fs.getD k [] = fs[k] := by simp [List.getD_eq_getElem?_getD, show k < fs.length by omega]
      rw [hc] at h
      simp only at h
      split at h
      · cases h; exact ⟨h1, h2⟩
      · split at h
        · cases h
        · cases h
          refine ⟨fun f hf' => ?_, by rw [List.length_append, List.length_singleton]; omega⟩
          rcases List.mem_append.1 hf' with hf' | hf'
          · exact h1 f hf'
          · simp only [List.mem_singleton] at hf'
            rw [hf', hgf]
            exact hm.mul (hf _ (List.getElem_mem _))
theorem clB_okQ {fs : List (List Nat)} {n : Nat} (h1 : 1 ≤ n) (h5 : n ≤ 5) (hf : ∀ f ∈ fs, Ok f n) : ∀ i Q, clB fs n i = some Q → (∀ f ∈ Q, Ok f n) ∧ Q.length ≤ 300
  | 0, Q, h => by
    have : [List.range n] = Q := by simpa [clB] using h
    subst this
    refine ⟨fun f hf' => ?_, by simp⟩
    simp only [List.mem_singleton] at hf'; rw [hf']; exact range_ok h1 h5
  | i + 1, Q, h => by
    rw [clB] at h
    cases hc : clB fs n i with
    | none => rw [hc] at h; cases h
    | some R =>
      obtain ⟨h2, h3⟩ := clB_okQ h1 h5 hf i R hc
      rw [hc] at h
      simp only at h
      cases hg : R[i]? with
      | none => rw [hg] at h; cases h; exact ⟨h2, h3⟩
      | some m => rw [hg] at h; exact clA_okQ hf (h2 m (List.mem_of_getElem? hg)) h2 h3 fs.length Q (Nat.le_refl _) h
end Go.Proofs.YtpihikppdeecmaaGreat
end
section
/- A map's number: the implementation. -/
namespace Go.Proofs.YtpihikppdeecmaaGreat
open Go.Kv
set_option maxRecDepth 100000
def k124_b0 : KC := (.seq (.ops [oP 9 (.bin .lss (.t 8) (iC 5))])
  (.seq (.cond (.t 9) .skip (.exit 0))
  (.seq (.block 1 (.seq (.ops [oP 10 (.idxV 5 1 false (.t 7) (.t 8)), mV 5 10])
  (.ops [mV 11 3, oP 12 (.bin .mul (.t 11) (iC 5)), mV 13 5, oP 14 (.bin .add (.t 12) (.t 13)), mV 3 14])))
  (.ops [oP 15 (.bin .add (.t 8) (iC 1)), mV 8 15]))))
def k124 : KC := (.seq (.ops [oP 1 (.box true (.t 0)), oP 2 (.mv (iC 0))])
  (.seq (.ops [oP 3 (.mv (iC 0))])
  (.seq (.seq (.ops [oP 6 (.fieldA 1 (.t 1)), oP 7 (.load true 5 (.t 6)), oP 8 (.mv (iC 0))])
  (.block 0 (.loop k124_b0)))
  (.seq (.ops [mV 16 3, mV 2 16])
  .ret))))
theorem e124 : Ent 124 17 [1] [.t 2] k124 := ent Tryz.func124 (by kernel_rfl) (by kernel_rfl) (by kernel_rfl) (fun _ => by kernel_rfl) (by kernel_rfl)
end Go.Proofs.YtpihikppdeecmaaGreat
namespace Go.Proofs.YtpihikppdeecmaaGreat
open Go.Kv
set_option linter.unusedVariables false
set_option linter.unusedSimpArgs false
attribute [local irreducible] ACall PCall KL
/-- The number of five cells, of which k are read. -/
def numK (f : List Nat) : Nat → Nat
  | 0 => 0
  | k + 1 => numK f k * 5 + f.getD k 0
theorem numK_lt {f : List Nat} (h : ∀ x ∈ f, x < 5) : ∀ k, numK f k < 5 ^ k
  | 0 => by simp [numK]
  | k + 1 => by
    have h1 := numK_lt h k
    have h2 : f.getD k 0 < 5 := by
      rw [List.getD_eq_getElem?_getD]
      cases e : f[k]? with
      | none => simp
      | some x => exact h x (List.mem_of_getElem? e)
    rw [numK, Nat.pow_succ]; omega
theorem numK_inj {f g : List Nat} (hf : ∀ x ∈ f, x < 5) (hg : ∀ x ∈ g, x < 5) : ∀ k, numK f k = numK g k → ∀ i, i < k → f.getD i 0 = g.getD i 0
  | 0, _, i, hi => by omega
  | k + 1, h, i, hi => by
    have h2 : ∀ {f : List Nat}, (∀ x ∈ f, x < 5) → f.getD k 0 < 5 := fun {f} hf => by
      rw [List.getD_eq_getElem?_getD]
      cases e : f[k]? with
      | none => simp
      | some x => exact hf x (List.mem_of_getElem? e)
    have a := h2 hf
    have b := h2 hg
    simp only [numK] at h
    rcases Nat.lt_succ_iff_lt_or_eq.1 hi with c | rfl
    · exact numK_inj hf hg k (by omega) i c
    · omega
/-- Maps with as many points and one number are one map. -/
theorem num_inj {f g : List Nat} {n : Nat} (hf : Ok f n) (hg : Ok g n) (h : numK f 5 = numK g 5) : f = g := by
  have h5 := hf.le
  have e := numK_inj (fun x hx => by have := hf.lt x hx; omega) (fun x hx => by have := hg.lt x hx; omega) 5 h
  refine List.ext_getElem (by rw [hf.len, hg.len]) fun i h1 h2 => ?_
  have := e i (by have := hf.len; omega)
  simpa [List.getD_eq_getElem?_getD, h1, h2] using this
theorem p124 (f : List Nat) (n : Nat) (hf : Ok f n) : Pure Tryz.prog 124 [.agg (ints (mp f))] (.int .i64 (numK f 5)) := by
  have hlf := hf.mp_len
  have h5 := hf.le
  refine e124 (by simp) fun _ _ => ?_
  simp only [k124, argEnv, hlf, go_sem]
  refine KL_ind k124_b0.eq_1 (fun y : Nat => [(3, .int .i64 (numK f y)), (7, .agg (ints (List.take 5 (List.drop 1 (mp f))))), (8, .int .i64 y)]) (fun _ => []) (fun y => y ≤ 5) (fun y => 5 - y) [3, 7, 8] 0 (by simp [keep, numK]) rfl (Nat.zero_le _) fun y hy ih => ?_
  have hl5 : (List.take 5 (List.drop 1 (mp f))).length = 5 := by simp [hlf]
  try simp only [hl5, go_sem]
  refine ⟨fun g1 => ?_, fun g1 => ?_⟩
  · have hN := numK_lt (f := f) (fun x hx => by have := hf.lt x hx; omega) y
    have hN' : numK f y < 3125 := Nat.lt_of_lt_of_le hN (by
      have : (5 : Nat) ^ y ≤ 5 ^ 5 := Nat.pow_le_pow_right (by decide) hy
      omega)
    have hg : (List.take 5 (List.drop 1 (mp f))).getD y 0 = (f.getD y 0 : Int) := by
      have : (List.take 5 (List.drop 1 (mp f))).getD y 0 = (mp f).getD (y + 1) 0 := by
        rw [List.take_of_length_le (by simp [hlf])]
        simp [List.getD_eq_getElem?_getD, Nat.add_comm]
      rw [this, mp, mpN_get]
    have hb : f.getD y 0 < 5 := by
      rw [List.getD_eq_getElem?_getD]
      cases e : f[y]? with
      | none => simp
      | some x => have := hf.lt x (List.mem_of_getElem? e); simp; omega
    rw [hg]
    have g2 : y < 5 := by omega
    exact ⟨g1, g2, fun _ => ⟨by omega, by omega, by omega, ih (y + 1) (by omega) (by omega) _ _ (by simp [keep, numK]) rfl⟩⟩
  · obtain rfl : y = 5 := by omega
    try simp only [go_sem]
    exact Kv.Fin.still ⟨rfl, rfl⟩
end Go.Proofs.YtpihikppdeecmaaGreat
end
section
/- Places of maps: the implementation. -/
namespace Go.Proofs.YtpihikppdeecmaaGreat
open Go.Kv
set_option linter.unusedVariables false
set_option linter.unusedSimpArgs false
attribute [local irreducible] ACall PCall KL
/-- A monoid as it is read: its elements, its words, its places. -/
def moV (E W : PV) (P : List Int) : List PV := E :: W :: ints P
instance {E W : PV} {P : List Int} [h : Still E] [h' : Still W] : StillL (moV E W P) := inferInstanceAs (StillL (E :: W :: ints P))
end Go.Proofs.YtpihikppdeecmaaGreat
end
section
/- Places that tell the elements: both tables are one. -/
namespace Go.Proofs.YtpihikppdeecmaaGreat
open Go.Kv
set_option linter.unusedVariables false
set_option linter.unusedSimpArgs false
attribute [local irreducible] ACall PCall KL
/-- The places are those of the elements. -/
def PlOk (n : Nat) (P : List Int) (S : List (List Nat)) : Prop := P.length = 3125 ∧ (∀ x ∈ P, 0 ≤ x ∧ x ≤ 300) ∧ ∀ f, Ok f n → P.getD (numK f 5) 0 - 1 = plM n S f
end Go.Proofs.YtpihikppdeecmaaGreat
end
section
/- monoidOf, once newMonoid's contract is known. -/
namespace Go.Proofs.YtpihikppdeecmaaGreat
open Go.Kv
set_option maxRecDepth 100000
def k42_b0 : KC := (.seq (.ops [oP 35 (.bin .lss (.t 34) (.t 33))])
  (.seq (.cond (.t 35) .skip (.exit 0))
  (.seq (.block 1 (.seq (.ops [oP 36 (.idxS 6 (.t 32) (.t 34)), oP 37 (.load true 6 (.t 36)), oP 12 (.alloc [.int .i64 0, .int .i64 0, .int .i64 0, .int .i64 0, .int .i64 0, .int .i64 0]), ⟨none, none, .store 6 (.t 12) (.t 37)⟩])
  (.seq (.ops [mV 38 8, oP 39 (.load true 6 (.t 12)), oP 40 (.call (fC 91) [(.t 38), (.t 39)]), mV 13 40])
  (.seq (.seq (.ops [mV 41 13, oP 42 (.bin .lss (.t 41) (iC 0))])
  (.cond (.t 42) (.seq (.ops [oP 4 (.mv (.c (.nilptr))), oP 5 (.mv (.c (.nils))), oP 6 (.mv (iC 4))])
  .ret) .skip))
  (.ops [mV 43 10, mV 44 13, oP 45 (.bsl true 3 1 [(.t 44)]), oP 46 (.app (.t 43) (.t 45) 3 1), mV 10 46])))))
  (.ops [oP 47 (.bin .add (.t 34) (iC 1)), mV 34 47]))))
def k42 : KC := (.seq (.ops [oP 4 (.mv (.c (.nilptr))), oP 5 (.mv (.c (.nils))), oP 6 (.mv (iC 0))])
  (.seq (.seq (.ops [mV 14 0, mV 15 1, oP 16 (.call (fC 88) [(.t 14), (.t 15)]), mV 7 16])
  (.seq (.ops [mV 17 7, oP 18 (.bin .neq (.t 17) (iC 0))])
  (.cond (.t 18) (.seq (.ops [mV 19 7, oP 4 (.mv (.c (.nilptr))), oP 5 (.mv (.c (.nils))), mV 6 19])
  .ret) .skip)))
  (.seq (.ops [mV 21 0, mV 22 0, oP 23 (.idxS 6 (.t 22) (iC 0)), oP 24 (.fieldA 0 (.t 23)), oP 25 (.load false 1 (.t 24)), oP 26 (.call (fC 90) [(.t 21), (.t 25)]), mV 20 26, oP 27 (.extr 0 (.t 20)), oP 28 (.extr 1 (.t 20)), mV 8 27, mV 9 28])
  (.seq (.seq (.ops [mV 29 9, oP 30 (.bin .neq (.t 29) (iC 0))])
  (.cond (.t 30) (.seq (.ops [mV 31 9, oP 4 (.mv (.c (.nilptr))), oP 5 (.mv (.c (.nils))), mV 6 31])
  .ret) .skip))
  (.seq (.ops [oP 10 (.mv (.c (.nils)))])
  (.seq (.seq (.ops [mV 32 1, oP 33 (.len false (.t 32)), oP 34 (.mv (iC 0))])
  (.block 0 (.loop k42_b0)))
  (.seq (.ops [mV 48 8, mV 49 10, mV 4 48, mV 5 49, oP 6 (.mv (iC 0))])
  .ret)))))))
theorem e42 : Ent 42 50 [45] [.t 4, .t 5, .t 6] k42 := ent Tryz.func42 (by kernel_rfl) (by kernel_rfl) (by kernel_rfl) (fun _ => by kernel_rfl) (by kernel_rfl)
end Go.Proofs.YtpihikppdeecmaaGreat
namespace Go.Proofs.YtpihikppdeecmaaGreat
open Go.Kv
set_option linter.unusedVariables false
set_option linter.unusedSimpArgs false
attribute [local irreducible] ACall PCall KL
theorem p42_of (fs : List (List Nat)) (n : Nat) (hf : ∀ f ∈ fs, Ok f n) (h0 : 0 < fs.length) (hfl : fs.length ≤ 6) (hl : lcode (fs.map mp) [] = 0) (m : PV) [Still m] (c : Int)
    (hM : Pure Tryz.prog 90 [.list (aggs (fs.map mp)), .int .i64 n] (.tup [m, .int .i64 c])) :
    Pure Tryz.prog 42 [.list (aggs (fs.map mp)), .nils] (if c = 0 then .tup [m, .nils, .int .i64 0] else .tup [.nilptr, .nils, .int .i64 c]) := by
  have hk := hf _ (List.getElem_mem h0)
  have h6k := hk.mp_len
  have hn : (mp fs[0]).getD 0 0 = (n : Int) := by simp [mp, mpN, hk.len]
  refine e42 (by simp) fun _ _ => ?_
  simp only [k42, argEnv, go_sem]
  refine (p88 _ (fs.map mp) [] .nil (by simp; omega) (by simp) (fun r hr => by obtain ⟨f, hf', rfl⟩ := List.mem_map.1 hr; exact (hf f hf').mp_len) (by simp)).go ?_
  rw [hl]
  try simp only [OpK_eq, HKv, map_getD h0, h6k, hn, List.length_map, go_sem]
  refine ⟨by omega, fun _ => ?_⟩
  refine hM.go ?_
  try simp only [OpK_eq, HKv, go_sem]
  refine ⟨fun g1 => ?_, fun g1 => ?_⟩
  · rw [if_neg (by omega)]
    exact Kv.Fin.still ⟨rfl, rfl⟩
  · refine KL_ind k42_b0.eq_1 (fun y : Nat => [(8, m), (10, .nils), (32, .nils), (33, .int .i64 0), (34, .int .i64 0)]) (fun _ => []) (fun y => True) (fun y => 0) [8, 10, 32, 33, 34] 0 (by simp [keep]) rfl trivial fun y _ ih => ?_
    try simp only [OpK_eq, HKv, go_sem]
    rw [if_pos (by omega)]
    exact Kv.Fin.still ⟨rfl, rfl⟩
/-- What newMonoid owes. -/
def MonOk (fs : List (List Nat)) (n : Nat) : Prop := match clR fs n with
  | none => Pure Tryz.prog 90 [.list (aggs (fs.map mp)), .int .i64 n] (.tup [.nilptr, .int .i64 3])
  | some Q => ∃ W P, Still W ∧ PlOk n P (elS n Q) ∧ Pure Tryz.prog 90 [.list (aggs (fs.map mp)), .int .i64 n] (.tup [.fptr (moV (.list (aggs ((elS n Q).map mp))) W P) 0, .int .i64 0])
end Go.Proofs.YtpihikppdeecmaaGreat
end
section
/- TableOf at lists that are none: the implementation. -/
end
section
/- Maps in order are told by their members. -/
namespace Go.Proofs.YtpihikppdeecmaaGreat
open Go.Kv
set_option linter.unusedVariables false
set_option linter.unusedSimpArgs false
attribute [local irreducible] ACall PCall KL
theorem srm_uniq {n : Nat} : ∀ {S T : List (List Nat)}, SrM n S → SrM n T → (∀ f, f ∈ S ↔ f ∈ T) → S = T
  | [], [], _, _, _ => rfl
  | [], b :: T, _, _, h => by have := (h b).2 (by simp); simp at this
  | a :: S, [], _, _, h => by have := (h a).1 (by simp); simp at this
  | a :: S, b :: T, hS, hT, h => by
    have pS := List.pairwise_cons.1 hS.2
    have pT := List.pairwise_cons.1 hT.2
    have e : a = b := by
      rcases List.mem_cons.1 ((h a).1 (by simp)) with e | e
      · exact e
      · rcases List.mem_cons.1 ((h b).2 (by simp)) with e' | e'
        · exact e'.symm
        · have := pT.1 _ e; have := pS.1 _ e'; omega
    subst e
    rw [srm_uniq (S := S) (T := T) ⟨fun f hf => hS.1 f (by simp [hf]), pS.2⟩ ⟨fun f hf => hT.1 f (by simp [hf]), pT.2⟩ fun f => ?_]
    constructor
    · intro hf
      rcases List.mem_cons.1 ((h f).1 (by simp [hf])) with e | e
      · subst e; have := pS.1 _ hf; omega
      · exact e
    · intro hf
      rcases List.mem_cons.1 ((h f).2 (by simp [hf])) with e | e
      · subst e; have := pT.1 _ hf; omega
      · exact e
end Go.Proofs.YtpihikppdeecmaaGreat
end
section
/- The places, written anew in order. -/
namespace Go.Proofs.YtpihikppdeecmaaGreat
open Go.Kv
set_option linter.unusedVariables false
set_option linter.unusedSimpArgs false
attribute [local irreducible] ACall PCall KL
def setP (S : List (List Nat)) (P : List Int) : Nat → List Int
  | 0 => P
  | k + 1 => (setP S P k).set (numK (S.getD k []) 5) (k + 1)
theorem set_getD {l : List Int} {i j : Nat} {x : Int} : (l.set i x).getD j 0 = if i = j ∧ i < l.length then x else l.getD j 0 := by
  rw [List.getD_eq_getElem?_getD, List.getD_eq_getElem?_getD, List.getElem?_set]
  by_cases h : i = j
  · subst h
    by_cases h' : i < l.length
    · simp [h']
    · simp [h', List.getElem?_eq_none (Nat.le_of_not_lt h')]
  · simp [h]
theorem num_lt {f : List Nat} {n : Nat} (hf : Ok f n) : numK f 5 < 3125 :=
  numK_lt (f := f) (fun x hx => by have := hf.lt x hx; have := hf.le; omega) 5
theorem setP_spec {n : Nat} {S : List (List Nat)} {P : List Int} (hS : SrM n S) (hP : P.length = 3125) : ∀ k, k ≤ S.length → (setP S P k).length = 3125 ∧ ∀ f, Ok f n → (∀ j, j < k → S.getD j [] = f → (setP S P k).getD (numK f 5) 0 = j + 1) ∧ ((∀ j, j < k → S.getD j [] ≠ f) → (setP S P k).getD (numK f 5) 0 = P.getD (numK f 5) 0)
  | 0, _ => ⟨hP, fun f _ => ⟨fun j hj => by omega, fun _ => rfl⟩⟩
  | k + 1, hk => by
    obtain ⟨i1, i2⟩ := setP_spec hS hP k (by omega)
    have ge : ∀ j (hj : j < S.length), S.getD j [] = S[j] := fun j hj => by simp [List.getD_eq_getElem?_getD, hj]
    have ok : Ok (S.getD k []) n := by rw [ge k hk]; exact hS.1 _ (List.getElem_mem _)
    have lk := num_lt ok
    refine ⟨by rw [setP, List.length_set, i1], fun f hf => ⟨fun j hj e => ?_, fun h => ?_⟩⟩
    · rw [setP, set_getD, i1]
      by_cases hjk : j = k
      · subst hjk; rw [e, if_pos ⟨rfl, num_lt hf⟩]
      · have hne : S.getD k [] ≠ f := fun e' => by
          have := List.pairwise_iff_getElem.1 hS.2 j k (by omega) (by omega) (by omega)
          rw [← ge j (by omega), ← ge k (by omega), e, e'] at this; omega
        rw [if_neg fun c => hne (num_inj ok hf c.1)]
        exact (i2 f hf).1 j (by omega) e
    · rw [setP, set_getD, if_neg fun c => h k (by omega) (num_inj ok hf c.1)]
      exact (i2 f hf).2 fun j hj => h j (by omega)
theorem setP_bound {S : List (List Nat)} {P : List Int} (hb : ∀ x ∈ P, 0 ≤ x ∧ x ≤ 300) : ∀ k, k ≤ 300 → ∀ x ∈ setP S P k, 0 ≤ x ∧ x ≤ 300
  | 0, _, x, hx => hb x hx
  | k + 1, hk, x, hx => by
    rw [setP] at hx
    rcases List.mem_or_eq_of_mem_set hx with h | h
    · exact setP_bound hb k (by omega) x h
    · omega
/-- Written anew, they tell the elements. -/
theorem setP_ok {n : Nat} {S : List (List Nat)} {P : List Int} (hS : SrM n S) (hl : S.length ≤ 300) (hP : P.length = 3125) (hb : ∀ x ∈ P, 0 ≤ x ∧ x ≤ 300) (h0 : ∀ f, Ok f n → f ∉ S → P.getD (numK f 5) 0 = 0) : PlOk n (setP S P S.length) S := by
  obtain ⟨i1, i2⟩ := setP_spec hS hP S.length (Nat.le_refl _)
  refine ⟨i1, setP_bound hb _ hl, fun f hf => ?_⟩
  unfold plM
  by_cases h : f ∈ S
  · obtain ⟨h1, h2⟩ := (lo_mem hS hf).2 h
    rw [if_pos ⟨h1, h2⟩, (i2 f hf).1 _ h1 h2]; omega
  · rw [if_neg fun c => h ((lo_mem hS hf).1 c), (i2 f hf).2 fun j hj e => h ?_, h0 f hf h]
    · rfl
    · rw [← e, List.getD_eq_getElem?_getD, List.getElem?_eq_getElem hj]; exact List.getElem_mem _
end Go.Proofs.YtpihikppdeecmaaGreat
end
section
/- The places while the monoid is found. -/
namespace Go.Proofs.YtpihikppdeecmaaGreat
open Go.Kv
set_option linter.unusedVariables false
set_option linter.unusedSimpArgs false
attribute [local irreducible] ACall PCall KL
/-- Each map found has its place, counted from 1; others have 0. -/
def FdOk (n : Nat) (P : List Int) (Q : List (List Nat)) : Prop := P.length = 3125 ∧ (∀ x ∈ P, 0 ≤ x ∧ x ≤ 300) ∧ ∀ f, Ok f n → (∀ j : Nat, Q[j]? = some f → P.getD (numK f 5) 0 = j + 1) ∧ (f ∉ Q → P.getD (numK f 5) 0 = 0)
theorem FdOk.pos {n : Nat} {P : List Int} {Q : List (List Nat)} (h : FdOk n P Q) {f : List Nat} (hf : Ok f n) : 0 < P.getD (numK f 5) 0 ↔ f ∈ Q := by
  constructor
  · intro h1
    apply Classical.byContradiction
    intro h2
    have := (h.2.2 f hf).2 h2; omega
  · intro h1
    obtain ⟨j, hj, e⟩ := List.getElem_of_mem h1
    have := (h.2.2 f hf).1 j (by rw [List.getElem?_eq_getElem hj, e]); omega
theorem FdOk.push {n : Nat} {P : List Int} {Q : List (List Nat)} (h : FdOk n P Q) {g : List Nat} (hg : Ok g n) (hn : g ∉ Q) (hl : Q.length < 300) : FdOk n (P.set (numK g 5) (Q.length + 1)) (Q ++ [g]) := by
  refine ⟨by rw [List.length_set, h.1], fun x hx => ?_, fun f hf => ⟨fun j hj => ?_, fun hm => ?_⟩⟩
  · rcases List.mem_or_eq_of_mem_set hx with h' | h'
    · exact h.2.1 x h'
    · omega
  · rw [set_getD, h.1]
    by_cases e : f = g
    · subst e
      rw [if_pos ⟨rfl, num_lt hf⟩]
      by_cases hjl : j < Q.length
      · rw [List.getElem?_append_left hjl] at hj
        exact absurd (List.mem_of_getElem? hj) hn
      · have := (List.getElem?_eq_some_iff.1 hj).1
        simp at this
        omega
    · rw [if_neg fun c => e (num_inj hf hg c.1.symm)]
      by_cases hjl : j < Q.length
      · rw [List.getElem?_append_left hjl] at hj
        exact (h.2.2 f hf).1 j hj
      · rw [List.getElem?_append_right (by omega)] at hj
        have := List.mem_of_getElem? hj
        simp at this
        exact absurd this e
  · simp at hm
    rw [set_getD, if_neg fun c => hm.2 (num_inj hf hg c.1.symm)]
    exact (h.2.2 f hf).2 hm.1
end Go.Proofs.YtpihikppdeecmaaGreat
end
section
/- newMonoid: its code. -/
namespace Go.Proofs.YtpihikppdeecmaaGreat
open Go.Kv
set_option maxRecDepth 100000
abbrev k90_t0s0 : KT := (.op (oP 73 (.app (.t 70) (.t 72) 2 1)) (.op (oP 74 (.bsl true 23 1 [(.t 73)])) (.op (oP 75 (.app (.t 65) (.t 74) 23 1)) (.op (mV 7 64) (.op (mV 8 75) .fin)))))
abbrev k90_t0s1 : KT := (.op (oP 70 (.call (fC 107) [(.t 69)])) k90_t0s0)
abbrev k90_t0s2 : KT := (.alt (.op (oP 70 (.call (fC 107) [(.t 69)])) (.op (oP 72 (.bsl true 2 1 [(.t 71)])) k90_t0s0)) (.op (oP 72 (.bsl true 2 1 [(.t 71)])) k90_t0s1))
abbrev k90_t0s3 : KT := (.op (oP 69 (.load false 1 (.t 68))) k90_t0s1)
abbrev k90_t0s4 : KT := (.alt (.op (oP 69 (.load false 1 (.t 68))) k90_t0s2) (.op (oP 72 (.bsl true 2 1 [(.t 71)])) k90_t0s3))
abbrev k90_t0s5 : KT := (.op (oP 68 (.idxS 1 (.t 66) (.t 67))) k90_t0s3)
abbrev k90_t0s6 : KT := (.op (oP 64 (.app (.t 61) (.t 63) 54 6)) k90_t0s1)
abbrev k90_t0s7 : KT := (.alt (.op (oP 64 (.app (.t 61) (.t 63) 54 6)) k90_t0s2) (.op (oP 72 (.bsl true 2 1 [(.t 71)])) k90_t0s6))
abbrev k90_t0s8 : KT := (.alt (.op (oP 64 (.app (.t 61) (.t 63) 54 6)) k90_t0s3) (.op (oP 69 (.load false 1 (.t 68))) k90_t0s6))
abbrev k90_t0s9 : KT := (.alt (.op (oP 64 (.app (.t 61) (.t 63) 54 6)) k90_t0s4) (.alt (.op (oP 69 (.load false 1 (.t 68))) k90_t0s7) (.op (oP 72 (.bsl true 2 1 [(.t 71)])) k90_t0s8)))
abbrev k90_t0s10 : KT := (.alt (.op (oP 64 (.app (.t 61) (.t 63) 54 6)) k90_t0s5) (.op (oP 68 (.idxS 1 (.t 66) (.t 67))) k90_t0s8))
abbrev k90_t0s11 : KT := (.op (oP 63 (.bsl true 54 6 [(.t 62)])) k90_t0s6)
abbrev k90_t0s12 : KT := (.alt (.op (oP 63 (.bsl true 54 6 [(.t 62)])) k90_t0s7) (.op (oP 72 (.bsl true 2 1 [(.t 71)])) k90_t0s11))
abbrev k90_t0s13 : KT := (.alt (.op (oP 63 (.bsl true 54 6 [(.t 62)])) k90_t0s8) (.op (oP 69 (.load false 1 (.t 68))) k90_t0s11))
abbrev k90_t0s14 : KT := (.alt (.op (oP 63 (.bsl true 54 6 [(.t 62)])) k90_t0s9) (.alt (.op (oP 69 (.load false 1 (.t 68))) k90_t0s12) (.op (oP 72 (.bsl true 2 1 [(.t 71)])) k90_t0s13)))
abbrev k90_t0s15 : KT := (.alt (.op (oP 63 (.bsl true 54 6 [(.t 62)])) k90_t0s10) (.op (oP 68 (.idxS 1 (.t 66) (.t 67))) k90_t0s13))
abbrev k90_t0s16 : KT := (.op (oP 62 (.load true 6 (.t 12))) k90_t0s11)
abbrev k90_t0s17 : KT := (.alt (.op (oP 62 (.load true 6 (.t 12))) k90_t0s13) (.op (oP 69 (.load false 1 (.t 68))) k90_t0s16))
def k90_t0 : KT := (.op (mV 61 7) (.op (mV 65 8) (.op (mV 66 8) (.op (mV 67 9) (.op (mV 71 10) (.alt (.op (oP 62 (.load true 6 (.t 12))) (.alt (.op (oP 63 (.bsl true 54 6 [(.t 62)])) (.alt (.op (oP 64 (.app (.t 61) (.t 63) 54 6)) (.alt (.op (oP 68 (.idxS 1 (.t 66) (.t 67))) k90_t0s4) (.op (oP 72 (.bsl true 2 1 [(.t 71)])) k90_t0s5))) (.alt (.op (oP 68 (.idxS 1 (.t 66) (.t 67))) k90_t0s9) (.op (oP 72 (.bsl true 2 1 [(.t 71)])) k90_t0s10)))) (.alt (.op (oP 68 (.idxS 1 (.t 66) (.t 67))) k90_t0s14) (.op (oP 72 (.bsl true 2 1 [(.t 71)])) k90_t0s15)))) (.alt (.op (oP 68 (.idxS 1 (.t 66) (.t 67))) (.alt (.op (oP 62 (.load true 6 (.t 12))) k90_t0s14) (.alt (.op (oP 69 (.load false 1 (.t 68))) (.alt (.op (oP 62 (.load true 6 (.t 12))) k90_t0s12) (.op (oP 72 (.bsl true 2 1 [(.t 71)])) k90_t0s16))) (.op (oP 72 (.bsl true 2 1 [(.t 71)])) k90_t0s17)))) (.op (oP 72 (.bsl true 2 1 [(.t 71)])) (.alt (.op (oP 62 (.load true 6 (.t 12))) k90_t0s15) (.op (oP 68 (.idxS 1 (.t 66) (.t 67))) k90_t0s17))))))))))
def k90_b0 : KC := (.seq (.ops [oP 40 (.bin .lss (.t 39) (.t 38))])
  (.seq (.cond (.t 40) .skip (.exit 2))
  (.seq (.block 3 (.seq (.ops [mV 41 39, oP 42 (.idxS 6 (.t 37) (.t 39)), oP 43 (.load true 6 (.t 42)), oP 11 (.alloc [.int .i64 0, .int .i64 0, .int .i64 0, .int .i64 0, .int .i64 0, .int .i64 0]), mV 10 41, ⟨none, none, .store 6 (.t 11) (.t 43)⟩])
  (.seq (.draw [mV 44 7, mV 45 9, oP 46 (.idxS 6 (.t 44) (.t 45)), oP 47 (.load true 6 (.t 46)), oP 48 (.load true 6 (.t 11)), oP 49 (.pcall (fC 97) [(.t 47), (.t 48)]), oP 12 (.alloc [.int .i64 0, .int .i64 0, .int .i64 0, .int .i64 0, .int .i64 0, .int .i64 0]), ⟨none, none, .store 6 (.t 12) (.t 49)⟩])
  (.seq (.seq (.draw [mV 50 6, oP 51 (.load true 6 (.t 12)), oP 53 (.nilck (.t 50)), oP 54 (.fieldA 2 (.t 53)), oP 52 (.pcall (fC 124) [(.t 51)]), oP 55 (.idxA 3125 1 (.t 54) (.t 52)), oP 56 (.load false 1 (.t 55)), oP 57 (.bin .gtr (.t 56) (iC 0))])
  (.cond (.t 57) (.exit 3) .skip))
  (.seq (.seq (.ops [mV 58 7, oP 59 (.len false (.t 58)), oP 60 (.bin .eql (.t 59) (iC 300))])
  (.cond (.t 60) (.seq (.ops [oP 4 (.mv (.c (.nilptr))), oP 5 (.mv (iC 3))])
  .ret) .skip))
  (.seq (.tree k90_t0)
  (.draw [mV 76 6, oP 77 (.load true 6 (.t 12)), mV 79 7, oP 80 (.len false (.t 79)), oP 81 (.nilck (.t 76)), oP 82 (.fieldA 2 (.t 81)), oP 78 (.pcall (fC 124) [(.t 77)]), oP 83 (.idxA 3125 1 (.t 82) (.t 78)), ⟨none, none, .store 1 (.t 83) (.t 80)⟩])))))))
  (.ops [oP 84 (.bin .add (.t 39) (iC 1)), mV 39 84]))))
def k90_b1 : KC := (.seq (.seq (.ops [mV 31 9, mV 32 7, oP 33 (.len false (.t 32)), oP 34 (.bin .lss (.t 31) (.t 33))])
  (.cond (.t 34) .skip (.exit 0)))
  (.seq (.block 1 (.seq (.ops [mV 37 0, oP 38 (.len false (.t 37)), oP 39 (.mv (iC 0))])
  (.block 2 (.loop k90_b0))))
  (.ops [mV 35 9, oP 36 (.bin .add (.t 35) (iC 1)), mV 9 36])))
def k90_b2 : KC := (.seq (.ops [oP 101 (.bin .lss (.t 100) (.t 99))])
  (.seq (.cond (.t 101) .skip (.exit 4))
  (.seq (.block 5 (.seq (.ops [oP 102 (.idxS 6 (.t 98) (.t 100)), oP 103 (.load true 6 (.t 102)), oP 14 (.alloc [.int .i64 0, .int .i64 0, .int .i64 0, .int .i64 0, .int .i64 0, .int .i64 0]), ⟨none, none, .store 6 (.t 14) (.t 103)⟩])
  (.draw [mV 104 6, mV 105 6, oP 106 (.nilck (.t 105)), oP 107 (.fieldA 1 (.t 106)), oP 108 (.load false 1 (.t 107)), mV 109 8, mV 110 6, oP 111 (.load true 6 (.t 14)), oP 113 (.nilck (.t 110)), oP 114 (.fieldA 2 (.t 113)), oP 112 (.pcall (fC 124) [(.t 111)]), oP 115 (.idxA 3125 1 (.t 114) (.t 112)), oP 116 (.load false 1 (.t 115)), oP 117 (.bin .sub (.t 116) (iC 1)), oP 118 (.idxS 1 (.t 109) (.t 117)), oP 119 (.load false 1 (.t 118)), oP 120 (.bsl true 23 1 [(.t 119)]), oP 121 (.app (.t 108) (.t 120) 23 1), oP 122 (.nilck (.t 104)), oP 123 (.fieldA 1 (.t 122)), ⟨none, none, .store 1 (.t 123) (.t 121)⟩])))
  (.ops [oP 124 (.bin .add (.t 100) (iC 1)), mV 100 124]))))
def k90_b3 : KC := (.seq (.ops [oP 131 (.bin .lss (.t 130) (.t 129))])
  (.seq (.cond (.t 131) .skip (.exit 6))
  (.seq (.block 7 (.seq (.ops [mV 132 130, oP 133 (.idxS 6 (.t 128) (.t 130)), oP 134 (.load true 6 (.t 133)), oP 16 (.alloc [.int .i64 0, .int .i64 0, .int .i64 0, .int .i64 0, .int .i64 0, .int .i64 0]), mV 15 132, ⟨none, none, .store 6 (.t 16) (.t 134)⟩])
  (.draw [mV 135 6, oP 136 (.load true 6 (.t 16)), mV 138 15, oP 139 (.bin .add (.t 138) (iC 1)), oP 140 (.nilck (.t 135)), oP 141 (.fieldA 2 (.t 140)), oP 137 (.pcall (fC 124) [(.t 136)]), oP 142 (.idxA 3125 1 (.t 141) (.t 137)), ⟨none, none, .store 1 (.t 142) (.t 139)⟩])))
  (.ops [oP 143 (.bin .add (.t 130) (iC 1)), mV 130 143]))))
def k90 : KC := (.seq (.ops [oP 4 (.mv (.c (.nilptr))), oP 5 (.mv (iC 0))])
  (.seq (.ops [oP 17 (.build ([.nils, .nils] ++ List.replicate 3125 (.int .i64 0)) []), oP 18 (.box false (.t 17)), mV 6 18])
  (.seq (.ops [mV 19 1, oP 20 (.call (fC 96) [(.t 19)]), oP 21 (.bsl false 54 6 [(.t 20)]), mV 7 21])
  (.seq (.ops [oP 22 (.bsl false 23 1 [(.c (.nils))]), mV 8 22])
  (.seq (.draw [mV 23 6, mV 24 7, oP 25 (.idxS 6 (.t 24) (iC 0)), oP 26 (.load true 6 (.t 25)), oP 28 (.nilck (.t 23)), oP 29 (.fieldA 2 (.t 28)), oP 27 (.pcall (fC 124) [(.t 26)]), oP 30 (.idxA 3125 1 (.t 29) (.t 27)), ⟨none, none, .store 1 (.t 30) (iC 1)⟩])
  (.seq (.seq (.ops [oP 9 (.mv (iC 0))])
  (.block 0 (.loop k90_b1)))
  (.seq (.ops [mV 85 6, mV 86 7, oP 87 (.call (fC 125) [(.t 86)]), oP 88 (.nilck (.t 85)), oP 89 (.fieldA 0 (.t 88)), ⟨none, none, .store 1 (.t 89) (.t 87)⟩])
  (.seq (.ops [mV 90 6, oP 91 (.nilck (.t 90)), oP 92 (.fieldA 0 (.t 91)), oP 93 (.load false 1 (.t 92)), oP 94 (.call (fC 126) [(.t 93), (fC 127)])])
  (.seq (.seq (.ops [mV 95 6, oP 96 (.nilck (.t 95)), oP 97 (.fieldA 0 (.t 96)), oP 98 (.load false 1 (.t 97)), oP 99 (.len false (.t 98)), oP 100 (.mv (iC 0))])
  (.block 4 (.loop k90_b2)))
  (.seq (.seq (.ops [mV 125 6, oP 126 (.nilck (.t 125)), oP 127 (.fieldA 0 (.t 126)), oP 128 (.load false 1 (.t 127)), oP 129 (.len false (.t 128)), oP 130 (.mv (iC 0))])
  (.block 6 (.loop k90_b3)))
  (.seq (.ops [mV 144 6, mV 4 144, oP 5 (.mv (iC 0))])
  .ret)))))))))))
theorem e90 : Ent 90 145 [63, 72, 74, 120] [.t 4, .t 5] k90 := ent Tryz.func90 (by kernel_rfl) (by kernel_rfl) (by kernel_rfl) (fun _ => by kernel_rfl) (by kernel_rfl)
def k125 : KC := (.seq (.ops [oP 2 (.mv (.c (.nils)))])
  (.seq (.seq (.ops [mV 3 0, oP 4 (.isn false (.t 3))])
  (.cond (.t 4) (.seq (.ops [oP 2 (.mv (.c (.nils)))])
  .ret) .skip))
  (.seq (.ops [oP 5 (.bsl false 54 6 []), mV 6 0, oP 7 (.app (.t 5) (.t 6) 54 6), mV 2 7])
  .ret)))
theorem e125 : Ent 125 8 [] [.t 2] k125 := ent Tryz.func125 (by kernel_rfl) (by kernel_rfl) (by kernel_rfl) (fun _ => by kernel_rfl) (by kernel_rfl)
end Go.Proofs.YtpihikppdeecmaaGreat
end
section
/- newMonoid: a map is found: the list of the found and the words grow, in whatever order. -/
namespace Go.Proofs.YtpihikppdeecmaaGreat
open Go.Kv
set_option linter.unusedVariables false
set_option linter.unusedSimpArgs false
attribute [local irreducible] ACall PCall KL
set_option maxHeartbeats 8000000 in
theorem nm_tree {R : List (List Nat)} {g : List Nat} {τ : Heap} {u1 u2 : Nat} {ws : List PV} {W : List (List Int)} {bb i k : Nat}
    (h1 : τ[1]? = some (.arr u1 54 6 (aggs (R.map mp)))) (hW : WG τ (fun id => id = 0 ∨ id = 1) 2 u2 ws W) (hWl : W.length = R.length) (hb : τ[bb]? = some (.box (ints (mp g)))) (hbb : 2 < bb) (h6g : (mp g).length = 6) (hRl : R.length < 300) (hi : i < R.length) (hk : k ≤ 1000) (hw : ∀ w ∈ W, w.length + 1 ≤ W.length)
    {Q : Exit → Env → Heap → Prop} {v0 v6 v37 v38 v39 : PV} {env : Env} (e0 : Kv.look env 0 = v0) (e6 : Kv.look env 6 = v6) (e7 : Kv.look env 7 = .ref 1 u1 0 R.length) (e8 : Kv.look env 8 = .ref 2 u2 0 W.length) (e9 : Kv.look env 9 = .int .i64 i) (e10 : Kv.look env 10 = .int .i64 k) (e12 : Kv.look env 12 = .ptr bb 0) (e37 : Kv.look env 37 = v37) (e38 : Kv.look env 38 = v38) (e39 : Kv.look env 39 = v39)
    (hQ : ∀ env' ρ w', keep [0, 6, 7, 8, 9, 12, 37, 38, 39] env' = [(0, v0), (6, v6), (7, .ref 1 (u1 + 1) 0 (R.length + 1)), (8, .ref 2 (u2 + 1) 0 (W.length + 1)), (9, .int .i64 i), (12, .ptr bb 0), (37, v37), (38, v38), (39, v39)] → ρ[1]? = some (.arr (u1 + 1) 54 6 (aggs ((R ++ [g]).map mp))) → WG ρ (fun id => id = 0 ∨ id = 1) 2 (u2 + 1) (ws ++ [w']) (W ++ [W.getD i [] ++ [(k : Int)]]) → (∀ id, id < τ.length → id ≠ 1 → id ≠ 2 → ρ[id]? = τ[id]?) → Q .normal env' ρ) :
    vT Tryz.prog k90_t0 Q env τ := by
  have hτ1 := (List.getElem?_eq_some_iff.1 h1).1
  have hτ2 := (List.getElem?_eq_some_iff.1 hW.out).1
  have hτb := (List.getElem?_eq_some_iff.1 hb).1
  obtain ⟨σ, hσ⟩ : ∃ σ, σ = τ.set 1 (.arr (u1 + 1) 54 6 (aggs ((R ++ [g]).map mp))) := ⟨_, rfl⟩
  have hl : σ.length = τ.length := by rw [hσ, List.length_set]
  have s1 : σ[1]? = some (.arr (u1 + 1) 54 6 (aggs ((R ++ [g]).map mp))) := by rw [hσ]; exact List.getElem?_set_self hτ1
  have sk : ∀ id, id ≠ 1 → σ[id]? = τ[id]? := fun id h => by rw [hσ, List.getElem?_set_ne (Ne.symm h)]
  have sb : σ[bb]? = some (.box (ints (mp g))) := by rw [sk bb (by omega)]; exact hb
  have hWs : WG σ (fun id => id = 0 ∨ id = 1) 2 u2 ws W := hW.keep (fun id _ hA => sk id fun e => hA (.inr e)) (by simp)
  have hWo := hW.out
  have hWso := hWs.out
  have hwl := hW.len
  obtain ⟨w, hwi, hWd⟩ := hWs.cell (i := i) (by omega)
  have hwcs := hWd.cs
  have hWi : W[i].length + 1 ≤ W.length := hw _ (List.getElem_mem _)
  have hgd : W.getD i [] = W[i] := by rw [List.getD_eq_getElem?_getD, List.getElem?_eq_getElem (by omega)]; rfl
  rw [hgd] at hQ
  clear hgd
  generalize W[i]'(by omega) = wi at hWd hWi hQ
  have t6 : List.take 6 (mp g) = mp g := take6 h6g
  have tR : List.take R.length (R.map mp) = R.map mp := List.take_of_length_le (by rw [List.length_map]; exact Nat.le_refl _)
  have tRg : R.map mp ++ [mp g] = (R ++ [g]).map mp := by simp
  have hilg : (ints (mp g)).length = 6 := by rw [ints_length, h6g]
  have hp1 : ∀ K : PV → Heap → Prop, K (.ref 1 (u1 + 1) 0 (R.length + 1)) σ → aApp 54 6 (.ref 1 u1 0 R.length) (.list [.agg (ints (mp g))]) τ K := fun K hK => by
    try simp only [h1, aggs_length, List.length_map, t6, tR, tRg, OpK_eq, HKv, h6g, go_sem]
    exact ⟨⟨Nat.le_refl _, by omega⟩, by rw [← hσ]; exact hK⟩
  have hpush : ∀ (c : AObj) (w' : PV), Wd (σ ++ [c]) (fun id => (id = 0 ∨ id = 1) ∨ id = 2) w' (wi ++ [(k : Int)]) → ∀ K' : PV → Heap → Prop,
      (∀ ρ, ρ[1]? = some (.arr (u1 + 1) 54 6 (aggs ((R ++ [g]).map mp))) → WG ρ (fun id => id = 0 ∨ id = 1) 2 (u2 + 1) (ws ++ [w']) (W ++ [wi ++ [(k : Int)]]) → (∀ id, id < τ.length → id ≠ 1 → id ≠ 2 → ρ[id]? = τ[id]?) → K' (.ref 2 (u2 + 1) 0 (W.length + 1)) ρ) →
      aApp 23 1 (.ref 2 u2 0 W.length) (.list [w']) (σ ++ [c]) K' := fun c w' hw' K' hK' => by
    have hG : WG (σ ++ [c]) (fun id => id = 0 ∨ id = 1) 2 u2 ws W := hWs.keep (fun id hid _ => List.getElem?_append_left hid) (by simp)
    refine hG.push hw' (by omega) fun hQ => hK' _ ?_ hQ fun id hid n1 n2 => ?_
    · rw [List.getElem?_set_ne (by decide), List.getElem?_append_left (by omega)]; exact s1
    · rw [List.getElem?_set_ne (Ne.symm n2), List.getElem?_append_left (by omega)]; exact sk id n1
  have hwd1 : Wd (σ ++ [.arr 2 2 1 (ints (wi ++ [(k : Int)]))]) (fun id => (id = 0 ∨ id = 1) ∨ id = 2) (.ref σ.length 2 0 (wi.length + 1)) (wi ++ [(k : Int)]) := by
    have e : wi.length + 1 = (wi ++ [(k : Int)]).length := by simp
    rw [e]
    exact .inr ⟨_, 2, rfl, by simp, fun h => by rcases h with (h | h) | h <;> omega⟩
  have hwd0 : wi = [] → Wd (σ ++ [.arr 0 2 1 [.int .i64 k]]) (fun id => (id = 0 ∨ id = 1) ∨ id = 2) (.ref σ.length 0 0 1) (wi ++ [(k : Int)]) := fun h0 => by
    rw [h0]
    exact .inr ⟨_, 0, rfl, by simp [ints], fun h => by rcases h with (h | h) | h <;> omega⟩
  have hgb : ∀ (s : Heap) (a : AObj), (s ++ [a])[s.length]? = some a := fun s a => by simp
  have hsb : ∀ (s : Heap) (a b : AObj), (s ++ [a]).set s.length b = s ++ [b] := fun s a b => by simp [List.set_append_right]
  have hpR : ∀ (c : AObj) (w' : PV), Wd (σ ++ [c]) (fun id => (id = 0 ∨ id = 1) ∨ id = 2) w' (wi ++ [(k : Int)]) → ∀ K' : PV → Heap → Prop,
      (∀ ρ, ρ[1]? = some (.arr (u1 + 1) 54 6 (aggs ((R ++ [g]).map mp))) → WG ρ (fun id => id = 0 ∨ id = 1) 2 (u2 + 1) (ws ++ [w']) (W ++ [wi ++ [(k : Int)]]) → (∀ id, id < τ.length → id ≠ 1 → id ≠ 2 → ρ[id]? = τ[id]?) → K' (.ref 2 (u2 + 1) 0 (W.length + 1)) ρ) →
      AppR 23 1 2 u2 0 W.length (.list [w']) (σ ++ [c]) K' (σ ++ [c])[2]? := fun c w' hw' K' hK' => by
    rw [← aApp_ref]
    exact hpush c w' hw' K' hK'
  have hld : ∀ P : PV → Prop, P w → (i < ws.length ∧ ∀ x, ws[i]? = some x → 0 < x.cs.length ∧ ∀ c, x.cs[0]? = some c → P c) := fun P hP => by
    refine ⟨by omega, fun x hx => ?_⟩
    rw [hwi] at hx; cases hx
    rw [hwcs.1]
    exact ⟨by simp, fun q hq => by simp only [List.getElem?_cons_zero, Option.some.injEq] at hq; subst hq; exact hP⟩
  generalize hv7 : PV.ref 1 u1 0 R.length = v7 at *
  unfold k90_t0
  repeat' (first
    | refine Eq.mpr (vT_alt _ _) ⟨?_, ?_⟩
    | refine hp1 _ ?_
    | refine hld _ ?_
    | (refine ⟨⟨by omega, by omega⟩, ?_⟩)
    | simp only [e7, e8, e9, e10, e12, hb, sb, hilg, h6g, t6, hWso, hWo, OpK_eq, HKv, go_sem])
  all_goals (refine ACall.lend (p107P wi (by omega)) (.cons hWd.imm (.nil _)) fun v s hv => ?_)
  all_goals (rcases hv with ⟨rfl, rfl⟩ | ⟨hl0, rfl, rfl⟩)
  all_goals (first | refine ⟨⟨free_ref _ _ _ _, Free.ints _ _ _ _⟩, ?_⟩ | refine ⟨⟨Plain.nils.fr, Free.nil⟩, ?_⟩)
  all_goals (try simp only [OpK_eq, HKv, ren_ref, ren_arr, ren_ints, Nat.zero_add, hgb, hsb, go_sem] )
  all_goals (first | refine ⟨⟨Nat.le_refl _, by omega⟩, hpR _ _ hwd1 _ fun ρ q1 q2 q3 => ?_⟩ | refine hpR _ _ (hwd0 hl0) _ fun ρ q1 q2 q3 => ?_)
  all_goals (try simp only [OpK_eq, HKv, go_sem] )
  all_goals exact hQ _ _ _ (by simp [keep, e0, e6, e9, e12, e37, e38, e39]) q1 q2 q3
end Go.Proofs.YtpihikppdeecmaaGreat
end
