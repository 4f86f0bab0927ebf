/- WordToSet: the specification. -/
import Derived.Test.YtpkddcjecfogeaaCb
import Derived.Test.YtpkddcjecfogeaaWI
import Derived.Test.YtpkddcjecfogeaaCH
namespace Go.Proofs.Ytpkddcjecfogeaa
open Go.Kv
set_option maxRecDepth 100000
/- spec.l10Set -/
/- live [0, 1, 6, 25, 26, 27, 28, 29, 30, 31, 32, 33] -/
def k81_b0 : KC := (.seq (.seq (.ops [⟨(some 12), none, .mv (.t 6)⟩, ⟨(some 13), none, .mv (.t 1)⟩, ⟨(some 14), none, .len false (.t 13)⟩, ⟨(some 15), none, .bin .lss (.t 12) (.t 14)⟩])
  (.cond (.t 15) .skip (.exit 0)))
  (.seq (.block 1 (.seq (.draw [⟨(some 18), none, .mv (.t 1)⟩, ⟨(some 19), none, .mv (.t 6)⟩, ⟨(some 20), none, .idxS 1 (.t 18) (.t 19)⟩, ⟨(some 21), none, .load false 1 (.t 20)⟩, ⟨(some 22), none, .len false (.t 21)⟩, ⟨(some 23), none, .bin .eql (.t 22) (.c (.int .i64 0))⟩, ⟨(some 24), none, .mv (.t 23)⟩, ⟨(some 25), some (24, false), .mv (.t 0)⟩, ⟨(some 26), some (24, false), .idxS 6 (.t 25) (.c (.int .i64 0))⟩, ⟨(some 27), some (24, false), .load true 6 (.t 26)⟩, ⟨(some 28), some (24, false), .mv (.t 1)⟩, ⟨(some 29), some (24, false), .mv (.t 6)⟩, ⟨(some 30), some (24, false), .idxS 1 (.t 28) (.t 29)⟩, ⟨(some 31), some (24, false), .load false 1 (.t 30)⟩, ⟨(some 32), some (24, false), .pcall (.c (.fn (.func 132) [] [])) [(.t 27), (.t 31)]⟩, ⟨(some 33), some (24, false), .bin .neq (.t 32) (.c (.int .i64 0))⟩, ⟨(some 34), none, .pick (.t 24) (.c (.bool true)) (.t 33)⟩])
  (.cond (.t 34) (.seq (.ops [⟨(some 4), none, .mv (.c (.int .i64 2))⟩])
  .ret) .skip)))
  (.ops [⟨(some 16), none, .mv (.t 6)⟩, ⟨(some 17), none, .bin .add (.t 16) (.c (.int .i64 1))⟩, ⟨(some 6), none, .mv (.t 17)⟩])))
def k81 : KC := (.seq (.ops [⟨(some 4), none, .mv (.c (.int .i64 0))⟩])
  (.seq (.seq (.ops [⟨(some 7), none, .mv (.t 0)⟩, ⟨(some 8), none, .call (.c (.fn (.func 72) [] [])) [(.t 7), (.c (.nils))]⟩, ⟨(some 5), none, .mv (.t 8)⟩])
  (.seq (.ops [⟨(some 9), none, .mv (.t 5)⟩, ⟨(some 10), none, .bin .neq (.t 9) (.c (.int .i64 0))⟩])
  (.cond (.t 10) (.seq (.ops [⟨(some 11), none, .mv (.t 5)⟩, ⟨(some 4), none, .mv (.t 11)⟩])
  .ret) .skip)))
  (.seq (.seq (.ops [⟨(some 6), none, .mv (.c (.int .i64 0))⟩])
  (.block 0 (.loop k81_b0)))
  (.seq (.ops [⟨(some 4), none, .mv (.c (.int .i64 0))⟩])
  .ret))))
theorem e81 {args : List PV} {σ : Heap} {K : PV → Heap → Prop} (hl : args.length ≤ 35) (h : Wf σ → (∀ a ∈ args, PV.upto σ.length a) → vc (mkCfg Try.prog mixed [] 35 σ.length) k81 (FinK σ.length [.t 4] K) (argEnv 0 args) σ) : ACall Try.prog 81 args σ K :=
  ACall_enter (C := mkCfg Try.prog mixed [] 35 σ.length) (c := Try.f81.body.getD .skip) Try.func81 (by kernel_rfl) (by kernel_rfl) (by kernel_rfl) rfl hl (by kernel_rfl) (by kernel_rfl) h
/- spec.WordToSet -/
/- live [0, 9, 10, 11, 12, 13, 14] -/
def k35_b0 : KC := (.seq (.seq (.ops [⟨(some 53), none, .mv (.t 14)⟩, ⟨(some 54), none, .mv (.t 0)⟩, ⟨(some 55), none, .len false (.t 54)⟩, ⟨(some 56), none, .bin .lss (.t 53) (.t 55)⟩])
  (.cond (.t 56) .skip (.exit 2)))
  (.seq (.block 3 (.seq (.draw [⟨(some 59), none, .mv (.t 0)⟩, ⟨(some 60), none, .mv (.t 14)⟩, ⟨(some 61), none, .idxS 6 (.t 59) (.t 60)⟩, ⟨(some 62), none, .load true 6 (.t 61)⟩, ⟨(some 63), none, .mv (.t 10)⟩, ⟨(some 64), none, .mv (.t 13)⟩, ⟨(some 65), none, .idxS 1 (.t 63) (.t 64)⟩, ⟨(some 66), none, .load false 1 (.t 65)⟩, ⟨(some 67), none, .pcall (.c (.fn (.func 83) [] [])) [(.t 62), (.t 66)]⟩, ⟨(some 15), none, .mv (.t 67)⟩])
  (.seq (.seq (.ops [⟨(some 68), none, .mv (.t 12)⟩, ⟨(some 69), none, .mv (.t 15)⟩, ⟨(some 70), none, .idxS 1 (.t 68) (.t 69)⟩, ⟨(some 71), none, .load false 1 (.t 70)⟩])
  (.cond (.t 71) (.exit 3) .skip))
  (.seq (.ops [⟨(some 72), none, .mv (.t 12)⟩, ⟨(some 73), none, .mv (.t 15)⟩, ⟨(some 74), none, .idxS 1 (.t 72) (.t 73)⟩, ⟨none, none, .store 1 (.t 74) (.c (.bool true))⟩])
  (.seq (.ops [⟨(some 75), none, .mv (.t 10)⟩, ⟨(some 76), none, .mv (.t 15)⟩, ⟨(some 77), none, .bsl true 2 1 [(.t 76)]⟩, ⟨(some 78), none, .app (.t 75) (.t 77) 2 1⟩, ⟨(some 10), none, .mv (.t 78)⟩])
  (.ops [⟨(some 79), none, .mv (.t 11)⟩, ⟨(some 80), none, .mv (.t 11)⟩, ⟨(some 81), none, .mv (.t 13)⟩, ⟨(some 82), none, .idxS 1 (.t 80) (.t 81)⟩, ⟨(some 83), none, .load false 1 (.t 82)⟩, ⟨(some 84), none, .call (.c (.fn (.func 84) [] [])) [(.t 83)]⟩, ⟨(some 85), none, .mv (.t 14)⟩, ⟨(some 86), none, .bsl true 2 1 [(.t 85)]⟩, ⟨(some 87), none, .app (.t 84) (.t 86) 2 1⟩, ⟨(some 88), none, .bsl true 25 1 [(.t 87)]⟩, ⟨(some 89), none, .app (.t 79) (.t 88) 25 1⟩, ⟨(some 11), none, .mv (.t 89)⟩]))))))
  (.ops [⟨(some 57), none, .mv (.t 14)⟩, ⟨(some 58), none, .bin .add (.t 57) (.c (.int .i64 1))⟩, ⟨(some 14), none, .mv (.t 58)⟩])))
/- live [0, 9, 10, 11, 12, 13] -/
def k35_b1 : KC := (.seq (.seq (.ops [⟨(some 37), none, .mv (.t 13)⟩, ⟨(some 38), none, .mv (.t 10)⟩, ⟨(some 39), none, .len false (.t 38)⟩, ⟨(some 40), none, .bin .lss (.t 37) (.t 39)⟩])
  (.cond (.t 40) .skip (.exit 0)))
  (.seq (.block 1 (.seq (.seq (.ops [⟨(some 43), none, .mv (.t 10)⟩, ⟨(some 44), none, .mv (.t 13)⟩, ⟨(some 45), none, .idxS 1 (.t 43) (.t 44)⟩, ⟨(some 46), none, .load false 1 (.t 45)⟩, ⟨(some 47), none, .mv (.t 9)⟩, ⟨(some 48), none, .bin .eql (.t 46) (.t 47)⟩])
  (.cond (.t 48) (.seq (.ops [⟨(some 49), none, .mv (.t 11)⟩, ⟨(some 50), none, .mv (.t 13)⟩, ⟨(some 51), none, .idxS 1 (.t 49) (.t 50)⟩, ⟨(some 52), none, .load false 1 (.t 51)⟩, ⟨(some 6), none, .mv (.t 52)⟩, ⟨(some 7), none, .mv (.c (.int .i64 0))⟩])
  .ret) .skip))
  (.seq (.ops [⟨(some 14), none, .mv (.c (.int .i64 0))⟩])
  (.block 2 (.loop k35_b0)))))
  (.ops [⟨(some 41), none, .mv (.t 13)⟩, ⟨(some 42), none, .bin .add (.t 41) (.c (.int .i64 1))⟩, ⟨(some 13), none, .mv (.t 42)⟩])))
def k35 : KC := (.seq (.ops [⟨(some 6), none, .mv (.c (.nils))⟩, ⟨(some 7), none, .mv (.c (.int .i64 0))⟩])
  (.seq (.seq (.ops [⟨(some 16), none, .mv (.t 0)⟩, ⟨(some 17), none, .mv (.t 1)⟩, ⟨(some 18), none, .mv (.t 2)⟩, ⟨(some 19), none, .bsl false 25 1 [(.t 17), (.t 18)]⟩, ⟨(some 20), none, .call (.c (.fn (.func 81) [] [])) [(.t 16), (.t 19)]⟩, ⟨(some 8), none, .mv (.t 20)⟩])
  (.seq (.ops [⟨(some 21), none, .mv (.t 8)⟩, ⟨(some 22), none, .bin .neq (.t 21) (.c (.int .i64 0))⟩])
  (.cond (.t 22) (.seq (.ops [⟨(some 23), none, .mv (.t 8)⟩, ⟨(some 6), none, .mv (.c (.nils))⟩, ⟨(some 7), none, .mv (.t 23)⟩])
  .ret) .skip)))
  (.seq (.ops [⟨(some 24), none, .mv (.t 2)⟩, ⟨(some 25), none, .call (.c (.fn (.func 82) [] [])) [(.t 24)]⟩, ⟨(some 26), none, .mv (.t 1)⟩, ⟨(some 27), none, .call (.c (.fn (.func 82) [] [])) [(.t 26)]⟩, ⟨(some 28), none, .bsl false 2 1 [(.t 27)]⟩, ⟨(some 29), none, .bsl false 2 1 []⟩, ⟨(some 30), none, .bsl false 25 1 [(.t 29)]⟩, ⟨(some 9), none, .mv (.t 25)⟩, ⟨(some 10), none, .mv (.t 28)⟩, ⟨(some 11), none, .mv (.t 30)⟩])
  (.seq (.ops [⟨(some 31), none, .mks 4 1 (.bool false) (.c (.int .i64 32)) (.c (.int .i64 32))⟩, ⟨(some 12), none, .mv (.t 31)⟩])
  (.seq (.ops [⟨(some 32), none, .mv (.t 12)⟩, ⟨(some 33), none, .mv (.t 10)⟩, ⟨(some 34), none, .idxS 1 (.t 33) (.c (.int .i64 0))⟩, ⟨(some 35), none, .load false 1 (.t 34)⟩, ⟨(some 36), none, .idxS 1 (.t 32) (.t 35)⟩, ⟨none, none, .store 1 (.t 36) (.c (.bool true))⟩])
  (.seq (.seq (.ops [⟨(some 13), none, .mv (.c (.int .i64 0))⟩])
  (.block 0 (.loop k35_b1)))
  (.seq (.ops [⟨(some 6), none, .mv (.c (.nils))⟩, ⟨(some 7), none, .mv (.c (.int .i64 4))⟩])
  .ret)))))))
theorem e35 {args : List PV} {σ : Heap} {K : PV → Heap → Prop} (hl : args.length ≤ 90) (h : Wf σ → (∀ a ∈ args, PV.upto σ.length a) → vc (mkCfg Try.prog mixed [77, 86, 88] 90 σ.length) k35 (FinK σ.length [.t 6, .t 7] K) (argEnv 0 args) σ) : ACall Try.prog 35 args σ K :=
  ACall_enter (C := mkCfg Try.prog mixed [77, 86, 88] 90 σ.length) (c := Try.f35.body.getD .skip) Try.func35 (by kernel_rfl) (by kernel_rfl) (by kernel_rfl) rfl hl (by kernel_rfl) (by kernel_rfl) h
end Go.Proofs.Ytpkddcjecfogeaa
namespace Go.Proofs.Ytpkddcjecfogeaa
open Go.Kv
set_option linter.unusedVariables false
set_option linter.unusedSimpArgs false
attribute [local irreducible] ACall PCall KL
theorem p81 (a : List (List Int)) (P Q : List Int) (ha : a.length ≤ 1048576) (h6 : ∀ r ∈ a, r.length = 6) (hP : P.length ≤ 1048576) (hQ : Q.length ≤ 1048576) : Pure Try.prog 81 [.list (aggs a), .list (rows [P, Q])] (.int .i64 (wcd a P Q)) := by
  refine e81 (by simp) fun _ _ => ?_
  simp only [k81, argEnv, take6, List.drop_zero, Int.cast_ofNat_Int, go_sem, ↓reduceIte, Nat.reduceEqDiff, Nat.reduceAdd, Nat.reduceMul, Nat.reduceLeDiff, Nat.reduceLT, Int.reduceLE, Int.reduceLT, reduceCtorEq]
  refine (p72n a ha h6).go ?_
  try simp only [take6, List.drop_zero, Int.cast_ofNat_Int, go_sem, ↓reduceIte, Nat.reduceEqDiff, Nat.reduceAdd, Nat.reduceMul, Nat.reduceLeDiff, Nat.reduceLT, Int.reduceLE, Int.reduceLT, reduceCtorEq]
  refine ⟨fun h1 => ?_, fun h1 => ?_⟩
  · have hf : fsc a P = lcode a [] := by rw [fsc, if_pos h1]
    exact Kv.Fin.still ⟨by rw [wcd, hf, if_pos h1], rfl⟩
  · have hv : wcd a P Q = if bad P ((a.getD 0 []).getD 0 0) = true then 2 else if bad Q ((a.getD 0 []).getD 0 0) = true then 2 else 0 := by
      have hf : fsc a P = if bad P ((a.getD 0 []).getD 0 0) = true then 2 else 0 := by rw [fsc, if_neg (by simp [h1])]
      rw [wcd, hf]
      cases bad P ((a.getD 0 []).getD 0 0) <;> simp
    obtain ⟨fs, n, rfl, hf, hl1, hl2, hn, hn1, hn5⟩ := lcode_maps h6 h1
    have h0 : 0 < fs.length := by omega
    have hk := hf _ (List.getElem_mem h0)
    have h6k := hk.mp_len
    rw [hn] at hv
    rw [map_getD h0] at hn
    refine KL_ind k81_b0.eq_1 (fun x : Nat => [(0, .list (aggs (fs.map mp))), (1, .list (rows [P, Q])), (6, .int .i64 x)]) (fun _ => []) (fun x => x ≤ 2 ∧ (1 ≤ x → bad P n = false) ∧ (2 ≤ x → bad Q n = false)) (fun x => 2 - x) [0, 1, 6] 0 (by rfl) rfl ⟨Nat.zero_le _, by omega, by omega⟩ fun x ⟨hx, hx1, hx2⟩ ih => ?_
    have hbad : x < 2 → bad ([P, Q].getD x []) n = true → wcd (fs.map mp) P Q = 2 := fun hx2' hb => by
      rcases x with _ | _ | x
      · have hb : bad P n = true := hb
        rw [hv, hb]; rfl
      · have hb : bad Q n = true := hb
        rw [hv, hx1 (by omega), hb]; rfl
      · omega
    have hgood : x < 2 → bad ([P, Q].getD x []) n = false → (1 ≤ x + 1 → bad P n = false) ∧ (2 ≤ x + 1 → bad Q n = false) := fun hx2' hb => by
      rcases x with _ | _ | x
      · exact ⟨fun _ => hb, fun h => by omega⟩
      · exact ⟨fun _ => hx1 (by omega), fun _ => hb⟩
      · omega
    have hRl : ([P, Q].getD x []).length ≤ 1048576 := by
      rcases x with _ | _ | x
      · exact hP
      · exact hQ
      · simp
    generalize hR : [P, Q].getD x [] = R at *
    try simp only [OpK_eq, map_getD h0, h6k, hn, List.length_map, hR, take6, List.drop_zero, Int.cast_ofNat_Int, go_sem, ↓reduceIte, Nat.reduceEqDiff, Nat.reduceAdd, Nat.reduceMul, Nat.reduceLeDiff, Nat.reduceLT, Int.reduceLE, Int.reduceLT, reduceCtorEq]
    refine ⟨fun h2 => ⟨h2, fun _ => ⟨fun h3 => ⟨by omega, fun _ => ⟨h2, fun _ => ?_⟩⟩, fun h3 => ?_⟩⟩, fun h2 => ?_⟩
    · refine (p132 fs[0] n hk R hRl).pgo ?_
      have hb : bad R n = !stB R n := by rw [bad, decide_eq_false (by omega), Bool.false_or]
      cases hs : stB R n with
      | false =>
        rw [hs] at hb
        have hb2 := hbad (by omega) hb
        try simp only [OpK_eq, HKv, take6, List.drop_zero, Int.cast_ofNat_Int, go_sem, ↓reduceIte, Nat.reduceEqDiff, Nat.reduceAdd, Nat.reduceMul, Nat.reduceLeDiff, Nat.reduceLT, Int.reduceLE, Int.reduceLT, reduceCtorEq]
        exact ⟨fun _ => Kv.Fin.still ⟨by rw [hb2], rfl⟩, fun h => absurd h (by decide)⟩
      | true =>
        rw [hs] at hb
        obtain ⟨g1, g2⟩ := hgood (by omega) hb
        try simp only [OpK_eq, HKv, take6, List.drop_zero, Int.cast_ofNat_Int, go_sem, ↓reduceIte, Nat.reduceEqDiff, Nat.reduceAdd, Nat.reduceMul, Nat.reduceLeDiff, Nat.reduceLT, Int.reduceLE, Int.reduceLT, reduceCtorEq]
        exact ⟨by omega, ih (x + 1) ⟨by omega, g1, g2⟩ (by omega) _ _ (by simp [keep]) rfl⟩
    · have hb : bad R n = true := by rw [bad, decide_eq_true (by omega)]; rfl
      exact Kv.Fin.still ⟨by rw [hbad (by omega) hb], rfl⟩
    · exact Kv.Fin.still ⟨by rw [hv, hx1 (by omega), hx2 (by omega)]; rfl, rfl⟩
/-- The words' table, in the heap. -/
structure WG (σ : Heap) (A : Nat → Prop) (q ver : Nat) (ws : List PV) (L : List (List Int)) : Prop where
  out : σ[q]? = some (.arr ver 25 1 ws)
  len : ws.length = L.length
  row : ∀ (i : Nat) (w : PV) (l : List Int), ws[i]? = some w → L[i]? = some l → Wd σ (fun id => A id ∨ id = q) w l
theorem WG.cell {σ : Heap} {A : Nat → Prop} {q ver : Nat} {ws : List PV} {L : List (List Int)} (h : WG σ A q ver ws L) {i : Nat} (hi : i < L.length) : ∃ w, ws[i]? = some w ∧ Wd σ (fun id => A id ∨ id = q) w L[i] := by
  have hw : i < ws.length := by rw [h.len]; exact hi
  exact ⟨ws[i], by simp [hw], h.row i _ _ (by simp [hw]) (by simp [hi])⟩
theorem WG.keep {σ σ' : Heap} {A : Nat → Prop} {q ver : Nat} {ws : List PV} {L : List (List Int)} (h : WG σ A q ver ws L) (hk : ∀ id, id < σ.length → ¬ A id → σ'[id]? = σ[id]?) (hq : ¬ A q) : WG σ' A q ver ws L where
  out := (hk q (List.getElem?_eq_some_iff.1 h.out).1 hq).trans h.out
  len := h.len
  row := fun i w m hw hm => (h.row i w m hw hm).keep fun id hid hA => ⟨hk id hid (fun h => hA (.inl h)), hA⟩
theorem WG.push {σ : Heap} {A : Nat → Prop} {q ver : Nat} {ws : List PV} {L : List (List Int)} (h : WG σ A q ver ws L) {l : List Int} {w : PV} (hw : Wd σ (fun id => A id ∨ id = q) w l) (hl : L.length ≤ 1000) {K : PV → Heap → Prop}
    (hK : WG (σ.set q (.arr (ver + 1) 25 1 (ws ++ [w]))) A q (ver + 1) (ws ++ [w]) (L ++ [l]) → K (.ref q (ver + 1) 0 (L.length + 1)) (σ.set q (.arr (ver + 1) 25 1 (ws ++ [w])))) :
    aApp 25 1 (.ref q ver 0 L.length) (.list [w]) σ K := by
  have hlt := (List.getElem?_eq_some_iff.1 h.out).1
  have hzl := h.len
  have hok : okL 1 [w] = True := by
    rcases hw with ⟨rfl, rfl⟩ | ⟨id, ver, rfl, _, _⟩ <;> simp [okL, PV.cs, PV.ok]
  have hset : ∀ id, id < σ.length → ¬ (A id ∨ id = q) → (σ.set q (.arr (ver + 1) 25 1 (ws ++ [w])))[id]? = σ[id]? ∧ ¬ (A id ∨ id = q) := fun id _ hA => by
    refine ⟨List.getElem?_set_ne ?_, hA⟩
    rintro rfl; exact hA (.inr rfl)
  have hQ : WG (σ.set q (.arr (ver + 1) 25 1 (ws ++ [w]))) A q (ver + 1) (ws ++ [w]) (L ++ [l]) := by
    refine ⟨List.getElem?_set_self hlt, by simp [h.len], fun i w' m hw' hm => ?_⟩
    rw [List.getElem?_append] at hw' hm
    split at hw'
    · rename_i hi
      rw [if_pos (by rw [← h.len]; exact hi)] at hm
      exact (h.row i w' m hw' hm).keep hset
    · rename_i hi
      rw [if_neg (by rw [← h.len]; exact hi)] at hm
      have e1 := List.mem_of_getElem? hw'
      have e2 := List.mem_of_getElem? hm
      simp only [List.mem_singleton] at e1 e2
      subst e1; subst e2
      exact hw.keep hset
  simp only [aApp_ref, h.out, AppR_arr, aNews_list, hok, true_and, AppM_def]
  rw [List.take_of_length_le (by omega)]
  exact ⟨⟨by omega, by simp; omega⟩, hK hQ⟩
theorem advN_pre (fs : List (List Nat)) (bf : List Nat → List Int → List Int) (Q : List Met) (m : Met) : ∀ k, ∃ r, advN fs bf Q m k = Q ++ r
  | 0 => ⟨[], by simp [advN]⟩
  | k + 1 => by
    obtain ⟨r, h⟩ := advN_pre fs bf Q m k
    rw [advN_succ]
    split
    · exact ⟨r, h⟩
    · exact ⟨r ++ [(bf (fs.getD k []) m.1, m.2 ++ [(k : Int)])], by rw [h, List.append_assoc]⟩
/-- What has been met, as a list of truths. -/
def Mt (M : List Bool) (L : List Met) : Prop := M.length = 32 ∧ ∀ b, b < 32 → (M.getD b false = true ↔ ∃ x ∈ L, bits x.1 = b)
theorem asc_bits {n : Nat} (hn : n ≤ 5) {p : List Int} (h : asc n p) : bits p < 32 := by
  obtain ⟨l, rfl, _, hl, _⟩ := h
  rw [bits, toNat_map]
  exact sb_lt (n := 5) fun z hz => by have := hl z hz; omega
theorem p35_out (a : List (List Int)) (P Q : List Int) (ha : a.length ≤ 1048576) (h6 : ∀ r ∈ a, r.length = 6) (hP : P.length ≤ 1048576) (hQ : Q.length ≤ 1048576) (hc : wcd a P Q ≠ 0) : Pure Try.prog 35 [.list (aggs a), .list (ints P), .list (ints Q)] (.tup [.nils, .int .i64 (wcd a P Q)]) := by
  refine e35 (by simp) fun _ _ => ?_
  simp only [k35, argEnv, take6, List.drop_zero, Int.cast_ofNat_Int, go_sem, ↓reduceIte, Nat.reduceEqDiff, Nat.reduceAdd, Nat.reduceMul, Nat.reduceLeDiff, Nat.reduceLT, Int.reduceLE, Int.reduceLT, reduceCtorEq]
  try simp only [OpK_eq, take6, List.drop_zero, Int.cast_ofNat_Int, go_sem, ↓reduceIte, Nat.reduceEqDiff, Nat.reduceAdd, Nat.reduceMul, Nat.reduceLeDiff, Nat.reduceLT, Int.reduceLE, Int.reduceLT, reduceCtorEq]
  refine (p81 a P Q ha h6 hP hQ).lend (.cons Imm.still (.cons (Imm.refr (l := [P, Q]) rfl rfl) (.nil _))) ?_
  try simp only [OpK_eq, take6, List.drop_zero, Int.cast_ofNat_Int, go_sem, ↓reduceIte, Nat.reduceEqDiff, Nat.reduceAdd, Nat.reduceMul, Nat.reduceLeDiff, Nat.reduceLT, Int.reduceLE, Int.reduceLT, reduceCtorEq]
  refine ⟨fun h1 => Kv.Fin.still ⟨rfl, rfl⟩, fun h1 => absurd h1 hc⟩
theorem p35_in (fs : List (List Nat)) (n : Nat) (hf : ∀ f ∈ fs, Ok f n) (h0 : 0 < fs.length) (hfl : fs.length ≤ 6) (hn5 : n ≤ 5) (P Q : List Int) (hc : wcd (fs.map mp) P Q = 0) (haP : asc n P) (haQ : asc n Q) (K : PV → Heap → Prop)
    (hK1 : ∀ i (h : i < (wq fs P i).length), (wq fs P i)[i].1 = Q → (∀ j (h : j < (wq fs P j).length), j < i → (wq fs P j)[j].1 ≠ Q) → K (.tup [.list (ints (wq fs P i)[i].2), .int .i64 0]) [])
    (hK2 : ∀ i, i = (wq fs P i).length → (∀ j (h : j < (wq fs P j).length), j < i → (wq fs P j)[j].1 ≠ Q) → K (.tup [.nils, .int .i64 4]) []) : ACall Try.prog 35 [.list (aggs (fs.map mp)), .list (ints P), .list (ints Q)] [] K := by
  have hPl := asc_len haP
  have hQl := asc_len haQ
  have hm6 : ∀ r ∈ fs.map mp, r.length = 6 := fun r hr => by obtain ⟨f, hf', rfl⟩ := List.mem_map.1 hr; exact (hf f hf').mp_len
  have hbP := p82 (P.map Int.toNat) (fun x hx => ?_) (by simp; omega)
  have hbQ := p82 (Q.map Int.toNat) (fun x hx => ?_) (by simp; omega)
  rotate_left
  · obtain ⟨l, rfl, _, hl, _⟩ := haQ
    rw [toNat_map] at hx; have := hl x hx; omega
  · obtain ⟨l, rfl, _, hl, _⟩ := haP
    rw [toNat_map] at hx; have := hl x hx; omega
  have eP : (P.map Int.toNat).map (fun x : Nat => (x : Int)) = P := by obtain ⟨l, rfl, _⟩ := haP; rw [toNat_map]
  have eQ : (Q.map Int.toNat).map (fun x : Nat => (x : Int)) = Q := by obtain ⟨l, rfl, _⟩ := haQ; rw [toNat_map]
  rw [eP] at hbP
  rw [eQ] at hbQ
  refine e35 (by simp) fun _ _ => ?_
  simp only [k35, argEnv, take6, List.drop_zero, Int.cast_ofNat_Int, go_sem, ↓reduceIte, Nat.reduceEqDiff, Nat.reduceAdd, Nat.reduceMul, Nat.reduceLeDiff, Nat.reduceLT, Int.reduceLE, Int.reduceLT, reduceCtorEq]
  try simp only [OpK_eq, take6, List.drop_zero, Int.cast_ofNat_Int, go_sem, ↓reduceIte, Nat.reduceEqDiff, Nat.reduceAdd, Nat.reduceMul, Nat.reduceLeDiff, Nat.reduceLT, Int.reduceLE, Int.reduceLT, reduceCtorEq]
  refine (p81 _ P Q (by simp; omega) hm6 (by omega) (by omega)).lend (.cons Imm.still (.cons (Imm.refr (l := [P, Q]) rfl rfl) (.nil _))) ?_
  rw [hc]
  try simp only [OpK_eq, take6, List.drop_zero, Int.cast_ofNat_Int, go_sem, ↓reduceIte, Nat.reduceEqDiff, Nat.reduceAdd, Nat.reduceMul, Nat.reduceLeDiff, Nat.reduceLT, Int.reduceLE, Int.reduceLT, reduceCtorEq]
  refine hbQ.go ?_
  try simp only [OpK_eq, take6, List.drop_zero, Int.cast_ofNat_Int, go_sem, ↓reduceIte, Nat.reduceEqDiff, Nat.reduceAdd, Nat.reduceMul, Nat.reduceLeDiff, Nat.reduceLT, Int.reduceLE, Int.reduceLT, reduceCtorEq]
  refine hbP.go ?_
  have hbP32 := asc_bits hn5 haP
  try simp only [OpK_eq, take6, List.drop_zero, Int.cast_ofNat_Int, go_sem, ↓reduceIte, Nat.reduceEqDiff, Nat.reduceAdd, Nat.reduceMul, Nat.reduceLeDiff, Nat.reduceLT, Int.reduceLE, Int.reduceLT, reduceCtorEq]
  have h32 : (List.replicate (Int.toNat 32) (PV.bool false)) = bls (List.replicate 32 false) := by simp [bls]
  have hPb : sb (P.map Int.toNat) = bits P := rfl
  have hQb : sb (Q.map Int.toNat) = bits Q := rfl
  rw [hPb, hQb, h32]
  have h32' : Int.toNat 32 = 32 := rfl
  have hput : ∀ b y, putE (.bool b) 0 y = y := fun b y => rfl
  refine ⟨⟨by omega, by simp⟩, by simp; omega, fun x hx => ?_⟩
  rw [bls_get (by simp; omega)] at hx; cases hx
  rw [hput, bls_set, h32']
  refine ⟨by simp [PV.cs], ?_⟩
  have hwi := wq_inv hf haP
  have hwl := wq_len hn5 hf haP
  have hS0 : wq fs P 0 = [((P, []) : Met)] := rfl
  have hSs : ∀ i (h : i < (wq fs P i).length), wq fs P (i + 1) = advN fs img (wq fs P i) (wq fs P i)[i] fs.length := fun i h => congrArg Prod.fst (bq_succ h)
  generalize hSe : wq fs P = S at *
  refine KL_ind k35_b1.eq_1 (fun x : Nat × Nat × Nat × List PV × List Bool × Heap => [(0, .list (aggs (fs.map mp))), (9, .int .i64 (bits Q)), (10, .ref 1 x.2.1 0 (S x.1).length), (11, .ref 3 x.2.2.1 0 (S x.1).length), (12, .ref 4 0 0 32), (13, .int .i64 x.1)]) (fun x => x.2.2.2.2.2)
    (fun x => x.1 ≤ (S x.1).length ∧ (∀ j (h : j < (S j).length), j < x.1 → (S j)[j].1 ≠ Q) ∧ x.2.2.2.2.2[1]? = some (.arr x.2.1 2 1 (ints ((S x.1).map fun m => (bits m.1 : Int)))) ∧ x.2.2.2.2.2[4]? = some (.arr 0 4 1 (bls x.2.2.2.2.1)) ∧ Mt x.2.2.2.2.1 (S x.1) ∧ WG x.2.2.2.2.2 (fun id => id = 1 ∨ id = 4) 3 x.2.2.1 x.2.2.2.1 ((S x.1).map Prod.snd) ∧ (∀ m ∈ S x.1, m.2.length + 1 ≤ (S x.1).length)) (fun x => 33 - x.1) [0, 9, 10, 11, 12, 13]
    (0, 0, 0, [.ref 2 0 0 0], (List.replicate 32 false).set (bits P) true, _) (by simp [keep, hS0]) rfl ⟨Nat.zero_le _, fun j _ h => by omega, ?_, rfl, ?_, ?_, ?_⟩ fun ⟨i, v1, v3, ws, M, σ⟩ ⟨hi, hno, h1, h4, hM, hW, hwd⟩ ih => ?_
  · show _ = some (AObj.arr 0 2 1 (ints ((S 0).map fun m => (bits m.1 : Int))))
    rw [hS0]; rfl
  · show Mt _ (S 0)
    rw [hS0]
    refine ⟨by simp, fun b hb => ?_⟩
    simp only [List.getD_eq_getElem?_getD, List.getElem?_set, List.length_replicate]
    by_cases e : bits P = b
    · rw [if_pos e, if_pos (by omega)]; simp [e]
    · rw [if_neg e, List.getElem?_replicate, if_pos hb]; simp [e]
  · show WG _ _ 3 0 _ ((S 0).map Prod.snd)
    rw [hS0]
    refine ⟨rfl, rfl, fun j w l hw hl => ?_⟩
    have e1 := List.mem_of_getElem? hw
    have e2 := List.mem_of_getElem? hl
    simp only [List.mem_singleton, List.map_cons, List.map_nil] at e1 e2
    subst e1; subst e2
    exact .inr ⟨2, 0, rfl, rfl, by decide⟩
  · intro m hm
    have hm : m ∈ S 0 := hm
    show _ ≤ (S 0).length
    rw [hS0] at hm ⊢
    simp only [List.mem_singleton] at hm
    subst hm; simp
  simp only at hi hno h1 h4 hM hW hwd
  have hli := hwl i
  obtain ⟨hasc, hnd⟩ := hwi i
  try simp only [OpK_eq, h1, List.length_map, take6, List.drop_zero, Int.cast_ofNat_Int, go_sem, ↓reduceIte, Nat.reduceEqDiff, Nat.reduceAdd, Nat.reduceMul, Nat.reduceLeDiff, Nat.reduceLT, Int.reduceLE, Int.reduceLT, reduceCtorEq]
  refine ⟨fun h2 => ?_, fun h2 => ?_⟩
  · have hil : i < (S i).length := by omega
    have hSi := hSs i hil
    have ham := hasc _ (List.getElem_mem hil)
    have hmd := hwd _ (List.getElem_mem hil)
    have hgs : ((S i).map fun m => (bits m.1 : Int)).getD i 0 = (bits (S i)[i].1 : Int) := by simp [List.getD_eq_getElem?_getD, hil]
    obtain ⟨w, hw, hWd⟩ := hW.cell (i := i) (by rw [List.length_map]; exact hil)
    rw [List.getElem_map] at hWd
    rw [hgs]
    generalize hm : (S i)[i] = m at *
    have h3 := hW.out
    have hwsl := hW.len
    rw [List.length_map] at hwsl
    refine ⟨⟨h2, Nat.le_refl _⟩, hil, fun _ => ⟨fun h5 => ?_, fun h5 => ?_⟩⟩
    · have hmQ : m.1 = Q := (bits_inj ham haQ).1 (by omega)
      have hK := hK1 i hil (by rw [hm]; exact hmQ) hno
      rw [hm] at hK
      clear ih hK1 hK2
      have hwcs := hWd.cs
      try simp only [OpK_eq, HKv, h3, take6, List.drop_zero, Int.cast_ofNat_Int, go_sem, ↓reduceIte, Nat.reduceEqDiff, Nat.reduceAdd, Nat.reduceMul, Nat.reduceLeDiff, Nat.reduceLT, Int.reduceLE, Int.reduceLT, reduceCtorEq]
      refine ⟨⟨h2, by omega⟩, by omega, fun q hq => ?_⟩
      rw [hw] at hq; cases hq
      rw [hwcs.1]
      refine ⟨by simp, fun q hq => ?_⟩
      simp only [List.getElem?_cons_zero, Option.some.injEq] at hq; subst hq
      try simp only [OpK_eq, HKv, take6, List.drop_zero, Int.cast_ofNat_Int, go_sem, ↓reduceIte, Nat.reduceEqDiff, Nat.reduceAdd, Nat.reduceMul, Nat.reduceLeDiff, Nat.reduceLT, Int.reduceLE, Int.reduceLT, reduceCtorEq]
      exact Kv.Fin.freeze (Imm.tupL (.cons hWd.imm (.cons (.int _ _ _) (.nil _)))) hK
    · have hmQ : m.1 ≠ Q := fun e => h5 (by rw [e])
      have hno' : ∀ j (h : j < (S j).length), j < i + 1 → (S j)[j].1 ≠ Q := fun j h hj => by
        by_cases e : j = i
        · subst e; rw [hm]; exact hmQ
        · exact hno j h (by omega)
      clear hK1 hK2 hno
      have hadv : ∀ k, k ≤ fs.length → _ := fun k hk => advN_inv hf hasc hnd ham k hk
      have hadvB : ∀ k, k ≤ fs.length → (advN fs img (S i) m k).length ≤ 32 := fun k hk => by
        have e1 := advN_mono fs img (S i) m hk
        have e2 := hwl (i + 1)
        rw [hSi] at e2
        exact Nat.le_trans e1 e2
      refine KL_ind k35_b0.eq_1 (fun x : Nat × Nat × Nat × List PV × List Bool × Heap => [(0, .list (aggs (fs.map mp))), (9, .int .i64 (bits Q)), (10, .ref 1 x.2.1 0 (advN fs img (S i) m x.1).length), (11, .ref 3 x.2.2.1 0 (advN fs img (S i) m x.1).length), (12, .ref 4 0 0 32), (13, .int .i64 i), (14, .int .i64 x.1)]) (fun x => x.2.2.2.2.2)
        (fun x => x.1 ≤ fs.length ∧ x.2.2.2.2.2[1]? = some (.arr x.2.1 2 1 (ints ((advN fs img (S i) m x.1).map fun m => (bits m.1 : Int)))) ∧ x.2.2.2.2.2[4]? = some (.arr 0 4 1 (bls x.2.2.2.2.1)) ∧ Mt x.2.2.2.2.1 (advN fs img (S i) m x.1) ∧ WG x.2.2.2.2.2 (fun id => id = 1 ∨ id = 4) 3 x.2.2.1 x.2.2.2.1 ((advN fs img (S i) m x.1).map Prod.snd) ∧ (∀ y ∈ advN fs img (S i) m x.1, y.2.length + 1 ≤ (advN fs img (S i) m x.1).length)) (fun x => fs.length - x.1) [0, 9, 10, 11, 12, 13, 14]
        (0, v1, v3, ws, M, σ) (by rfl) rfl ⟨Nat.zero_le _, h1, h4, hM, hW, hwd⟩ fun ⟨k, u1, u3, ws2, N, τ⟩ ⟨hk, g1, g4, gM, gW, gwd⟩ ihk => ?_
      simp only at hk g1 g4 gM gW gwd
      clear h1 h4 hM hW hwd h3 hwsl hw hWd
      obtain ⟨gasc, gnd⟩ := hadv k hk
      have hsucc := advN_succ fs img (S i) m k
      have hlenB := hadvB k hk
      obtain ⟨r, hpre⟩ := advN_pre fs img (S i) m k
      generalize hL : advN fs img (S i) m k = L at *
      have hiL : i < L.length := by rw [hpre, List.length_append]; omega
      have hLi : L[i] = m := by
        have : L[i]? = some m := by rw [hpre, List.getElem?_append_left hil, List.getElem?_eq_getElem hil, hm]
        rw [List.getElem?_eq_getElem hiL] at this
        exact Option.some.inj this
      have hgs : (L.map fun m => (bits m.1 : Int)).getD i 0 = (bits m.1 : Int) := by simp [List.getD_eq_getElem?_getD, hiL, hLi]
      try simp only [OpK_eq, List.length_map, take6, List.drop_zero, Int.cast_ofNat_Int, go_sem, ↓reduceIte, Nat.reduceEqDiff, Nat.reduceAdd, Nat.reduceMul, Nat.reduceLeDiff, Nat.reduceLT, Int.reduceLE, Int.reduceLT, reduceCtorEq]
      refine ⟨fun h6 => ?_, fun h6 => ?_⟩
      · have hkl : k < fs.length := by omega
        have hfk := hf _ (List.getElem_mem hkl)
        have h6k := hfk.mp_len
        have hgk : (fs.map mp).getD k [] = mp fs[k] := by simp [List.getD_eq_getElem?_getD, hkl]
        rw [hgk]
        try simp only [OpK_eq, h6k, g1, List.length_map, hgs, HKv, take6, List.drop_zero, Int.cast_ofNat_Int, go_sem, ↓reduceIte, Nat.reduceEqDiff, Nat.reduceAdd, Nat.reduceMul, Nat.reduceLeDiff, Nat.reduceLT, Int.reduceLE, Int.reduceLT, reduceCtorEq]
        have hgf : fs.getD k [] = fs[k] := by simp [List.getD_eq_getElem?_getD, hkl]
        rw [hgf] at hsucc
        have hima := img_asc hfk ham
        have hmv : Pure Try.prog 83 [.agg (ints (mp fs[k])), .int .i64 (bits m.1)] (.int .i64 (bits (img fs[k] m.1))) := by
          rw [bits_img ham]
          exact p83 fs[k] n hfk _ (by
            obtain ⟨l, e, _, hl, _⟩ := ham
            rw [e, toNat_map]; exact hl)
        have hb32 := asc_bits hn5 hima
        refine ⟨h6, fun _ => ⟨⟨by omega, Nat.le_refl _⟩, hiL, fun _ => ?_⟩⟩
        refine hmv.pgo ?_
        generalize hnxe : img fs[k] m.1 = nxp at *
        have hany : L.any (fun x => decide (x.1 = nxp)) = N.getD (bits nxp) false := by
          rw [Bool.eq_iff_iff, gM.2 _ hb32, List.any_eq_true]
          constructor
          · rintro ⟨y, hy, e⟩
            exact ⟨y, hy, by rw [of_decide_eq_true e]⟩
          · rintro ⟨y, hy, e⟩
            exact ⟨y, hy, decide_eq_true ((bits_inj (gasc y hy) hima).1 e)⟩
        rw [hany] at hsucc
        have hNl := gM.1
        try simp only [OpK_eq, HKv, g4, take6, List.drop_zero, Int.cast_ofNat_Int, go_sem, ↓reduceIte, Nat.reduceEqDiff, Nat.reduceAdd, Nat.reduceMul, Nat.reduceLeDiff, Nat.reduceLT, Int.reduceLE, Int.reduceLT, reduceCtorEq]
        refine ⟨⟨by omega, by simp [hNl]⟩, by rw [bls_length, hNl]; exact hb32, fun q hq => ?_⟩
        rw [bls_get (by rw [hNl]; exact hb32)] at hq; cases hq
        refine ⟨by simp [PV.cs], fun q hq => ?_⟩
        simp only [PV.cs, List.getElem?_cons_zero, Option.some.injEq] at hq; subst hq
        cases hNb : N.getD (bits nxp) false with
        | true =>
          rw [hNb, if_pos rfl] at hsucc
          try simp only [OpK_eq, HKv, take6, List.drop_zero, Int.cast_ofNat_Int, go_sem, ↓reduceIte, Nat.reduceEqDiff, Nat.reduceAdd, Nat.reduceMul, Nat.reduceLeDiff, Nat.reduceLT, Int.reduceLE, Int.reduceLT, reduceCtorEq]
          refine ⟨by omega, ihk (k + 1, u1, u3, ws2, N, τ) ⟨by show k + 1 ≤ fs.length; omega, ?_, g4, ?_, ?_, ?_⟩ (by show fs.length - (k + 1) < fs.length - k; omega) _ _ (by simp [keep, hsucc]) rfl⟩
          · show _ = some (AObj.arr u1 2 1 (ints ((advN fs img (S i) m (k + 1)).map fun m => (bits m.1 : Int))))
            rw [hsucc]; exact g1
          · show Mt N (advN fs img (S i) m (k + 1))
            rw [hsucc]; exact gM
          · show WG τ _ 3 u3 ws2 ((advN fs img (S i) m (k + 1)).map Prod.snd)
            rw [hsucc]; exact gW
          · show ∀ y ∈ advN fs img (S i) m (k + 1), y.2.length + 1 ≤ (advN fs img (S i) m (k + 1)).length
            rw [hsucc]; exact gwd
        | false =>
          rw [hNb, if_neg (by simp)] at hsucc
          have hlenB1 := hadvB (k + 1) (by omega)
          rw [hsucc, List.length_append, List.length_singleton] at hlenB1
          obtain ⟨w, hw, hWd⟩ := gW.cell (i := i) (by rw [List.length_map]; exact hiL)
          rw [List.getElem_map, hLi] at hWd
          have hwcs := hWd.cs
          have g3 := gW.out
          have gwl := gW.len
          rw [List.length_map] at gwl
          have lt4 := (List.getElem?_eq_some_iff.1 g4).1
          have hs4 : ∀ o, (τ.set 4 o)[1]? = τ[1]? := fun o => List.getElem?_set_ne (by decide)
          have hs43 : ∀ o, (τ.set 4 o)[3]? = τ[3]? := fun o => List.getElem?_set_ne (by decide)
          try simp only [OpK_eq, HKv, g4, take6, List.drop_zero, Int.cast_ofNat_Int, go_sem, ↓reduceIte, Nat.reduceEqDiff, Nat.reduceAdd, Nat.reduceMul, Nat.reduceLeDiff, Nat.reduceLT, Int.reduceLE, Int.reduceLT, reduceCtorEq]
          refine ⟨⟨by omega, by simp [hNl]⟩, by rw [bls_length, hNl]; exact hb32, fun q hq => ?_⟩
          rw [bls_get (by rw [hNl]; exact hb32)] at hq; cases hq
          rw [hput, bls_set]
          refine ⟨by simp [PV.cs], ?_⟩
          have hM2 : Mt (N.set (bits nxp) true) (L ++ [(nxp, m.2 ++ [(k : Int)])]) := by
            refine ⟨by simp [hNl], fun b hb => ?_⟩
            have hgd : (N.set (bits nxp) true).getD b false = if bits nxp = b then true else N.getD b false := by
              simp only [List.getD_eq_getElem?_getD, List.getElem?_set]
              by_cases ee : bits nxp = b
              · rw [if_pos ee, if_pos ee, if_pos (by omega)]; rfl
              · rw [if_neg ee, if_neg ee]
            rw [hgd]
            by_cases ee : bits nxp = b
            · rw [if_pos ee]
              exact ⟨fun _ => ⟨_, List.mem_append.2 (.inr (List.mem_singleton.2 rfl)), ee⟩, fun _ => rfl⟩
            · rw [if_neg ee, gM.2 b hb]
              constructor
              · rintro ⟨y, hy, e⟩; exact ⟨y, List.mem_append.2 (.inl hy), e⟩
              · rintro ⟨y, hy, e⟩
                rcases List.mem_append.1 hy with hy | hy
                · exact ⟨y, hy, e⟩
                · simp only [List.mem_singleton] at hy; subst hy; exact absurd e ee
          generalize N.set (bits nxp) true = N2 at *
          have hW4 := gW.keep (σ' := τ.set 4 (.arr 0 4 1 (bls N2))) (fun id _ hA => List.getElem?_set_ne (by rintro rfl; exact hA (.inr rfl))) (by decide)
          have h44 : (τ.set 4 (.arr 0 4 1 (bls N2)))[4]? = some (.arr 0 4 1 (bls N2)) := List.getElem?_set_self lt4
          have h41 := (hs4 (.arr 0 4 1 (bls N2))).trans g1
          generalize τ.set 4 (.arr 0 4 1 (bls N2)) = ρ at *
          clear hs4 hs43 g1 g4 g3 gW gM lt4
          try simp only [OpK_eq, HKv, h41, List.length_map, take6, List.drop_zero, Int.cast_ofNat_Int, go_sem, ↓reduceIte, Nat.reduceEqDiff, Nat.reduceAdd, Nat.reduceMul, Nat.reduceLeDiff, Nat.reduceLT, Int.reduceLE, Int.reduceLT, reduceCtorEq]
          refine ⟨⟨Nat.le_refl _, by omega⟩, ?_⟩
          rw [List.take_of_length_le (by simp)]
          have lt1 := (List.getElem?_eq_some_iff.1 h41).1
          have hs14 : ∀ o, (ρ.set 1 o)[4]? = some (.arr 0 4 1 (bls N2)) := fun o => (List.getElem?_set_ne (by decide)).trans h44
          have hs11 : ∀ o, (ρ.set 1 o)[1]? = some o := fun o => List.getElem?_set_self lt1
          have hW5 := fun o => hW4.keep (σ' := ρ.set 1 o) (fun id _ hA => List.getElem?_set_ne (by rintro rfl; exact hA (.inl rfl))) (by decide)
          have hb1 : (L.map fun m => (bits m.1 : Int)) ++ [(bits nxp : Int)] = (L ++ [(nxp, m.2 ++ [(k : Int)])]).map fun m => (bits m.1 : Int) := by simp
          rw [hb1]
          have h5 := hs14 (.arr (u1 + 1) 2 1 (ints ((L ++ [(nxp, m.2 ++ [(k : Int)])]).map fun m => (bits m.1 : Int))))
          have h6' := hs11 (.arr (u1 + 1) 2 1 (ints ((L ++ [(nxp, m.2 ++ [(k : Int)])]).map fun m => (bits m.1 : Int))))
          have hW6 := hW5 (.arr (u1 + 1) 2 1 (ints ((L ++ [(nxp, m.2 ++ [(k : Int)])]).map fun m => (bits m.1 : Int))))
          generalize ρ.set 1 (.arr (u1 + 1) 2 1 (ints ((L ++ [(nxp, m.2 ++ [(k : Int)])]).map fun m => (bits m.1 : Int)))) = χ at *
          clear hs14 hs11 hW5 hb1 h41 h44 hW4 lt1
          have h7 := hW6.out
          obtain ⟨w', hw', hWd'⟩ := hW6.cell (i := i) (by rw [List.length_map]; exact hiL)
          rw [List.getElem_map, hLi] at hWd'
          rw [hw] at hw'; cases hw'
          have lt1 := (List.getElem?_eq_some_iff.1 h6').1
          have lt4 := (List.getElem?_eq_some_iff.1 h5).1
          have lt3 := (List.getElem?_eq_some_iff.1 h7).1
          have hml := gwd m (by rw [← hLi]; exact List.getElem_mem hiL)
          try simp only [OpK_eq, HKv, h7, take6, List.drop_zero, Int.cast_ofNat_Int, go_sem, ↓reduceIte, Nat.reduceEqDiff, Nat.reduceAdd, Nat.reduceMul, Nat.reduceLeDiff, Nat.reduceLT, Int.reduceLE, Int.reduceLT, reduceCtorEq]
          refine ⟨⟨by omega, by omega⟩, by omega, fun q hq => ?_⟩
          rw [hw] at hq; cases hq
          rw [hwcs.1]
          refine ⟨by simp, fun q hq => ?_⟩
          simp only [List.getElem?_cons_zero, Option.some.injEq] at hq; subst hq
          try simp only [OpK_eq, HKv, take6, List.drop_zero, Int.cast_ofNat_Int, go_sem, ↓reduceIte, Nat.reduceEqDiff, Nat.reduceAdd, Nat.reduceMul, Nat.reduceLeDiff, Nat.reduceLT, Int.reduceLE, Int.reduceLT, reduceCtorEq]
          refine ACall.lend (p84 m.2 (by omega)) (.cons hWd'.imm (.nil _)) fun v s ⟨hv, hs⟩ => ?_
          subst hv; subst hs
          refine ⟨⟨free_ref _ _ _ _, Free.ints _ _ _ _⟩, ?_⟩
          have ht0 : ∀ (x : AObj), (χ ++ [x])[χ.length]? = some x := fun x => by simp
          have hs0 : ∀ (x y : AObj), (χ ++ [x]).set χ.length y = χ ++ [y] := fun x y => by
            rw [List.set_append_right _ _ (Nat.le_refl _)]; simp
          generalize hvq : PV.ref 3 u3 0 L.length = vq at *
          try simp only [OpK_eq, HKv, ht0, hs0, ren_ref, take6, List.drop_zero, Int.cast_ofNat_Int, go_sem, ↓reduceIte, Nat.reduceEqDiff, Nat.reduceAdd, Nat.reduceMul, Nat.reduceLeDiff, Nat.reduceLT, Int.reduceLE, Int.reduceLT, reduceCtorEq]
          subst hvq
          refine ⟨⟨Nat.le_refl _, by omega⟩, ?_⟩
          have hW7 := fun x => hW6.keep (σ' := χ ++ [x]) (fun id hid _ => List.getElem?_append_left hid) (by decide)
          have hwd1 : Wd (χ ++ [.arr 2 2 1 (ints (m.2 ++ [(k : Int)]))]) (fun id => (id = 1 ∨ id = 4) ∨ id = 3) (.ref χ.length 2 0 (m.2.length + 1)) (m.2 ++ [(k : Int)]) := by
            refine .inr ⟨_, 2, by simp, ht0 _, fun h => ?_⟩
            rcases h with (h | h) | h <;> omega
          have hpush := fun K' => (hW7 (.arr 2 2 1 (ints (m.2 ++ [(k : Int)])))).push (K := K') hwd1 (by rw [List.length_map]; omega)
          simp only [List.length_map] at hpush
          refine hpush _ fun hW8 => ?_
          try simp only [OpK_eq, HKv, take6, List.drop_zero, Int.cast_ofNat_Int, go_sem, ↓reduceIte, Nat.reduceEqDiff, Nat.reduceAdd, Nat.reduceMul, Nat.reduceLeDiff, Nat.reduceLT, Int.reduceLE, Int.reduceLT, reduceCtorEq]
          refine ⟨by omega, ihk (k + 1, u1 + 1, u3 + 1, ws2 ++ [.ref χ.length 2 0 (m.2.length + 1)], N2, _) ⟨by show k + 1 ≤ fs.length; omega, ?_, ?_, ?_, ?_, ?_⟩ (by show fs.length - (k + 1) < fs.length - k; omega) _ _ (by simp [keep, hsucc]) rfl⟩
          · show _ = some (AObj.arr (u1 + 1) 2 1 (ints ((advN fs img (S i) m (k + 1)).map fun m => (bits m.1 : Int))))
            rw [hsucc, List.getElem?_set_ne (by decide), List.getElem?_append_left lt1]; exact h6'
          · show _ = some (AObj.arr 0 4 1 (bls N2))
            rw [List.getElem?_set_ne (by decide), List.getElem?_append_left lt4]; exact h5
          · show Mt N2 (advN fs img (S i) m (k + 1))
            rw [hsucc]; exact hM2
          · show WG _ _ 3 (u3 + 1) _ ((advN fs img (S i) m (k + 1)).map Prod.snd)
            rw [hsucc, List.map_append]; exact hW8
          · show ∀ y ∈ advN fs img (S i) m (k + 1), y.2.length + 1 ≤ (advN fs img (S i) m (k + 1)).length
            rw [hsucc]
            intro y hy
            rw [List.length_append, List.length_singleton]
            rcases List.mem_append.1 hy with hy | hy
            · have := gwd y hy; omega
            · simp only [List.mem_singleton] at hy; subst hy
              simp only [List.length_append, List.length_singleton]
              omega
      · have hke : k = fs.length := by omega
        subst hke
        try simp only [take6, List.drop_zero, Int.cast_ofNat_Int, go_sem, ↓reduceIte, Nat.reduceEqDiff, Nat.reduceAdd, Nat.reduceMul, Nat.reduceLeDiff, Nat.reduceLT, Int.reduceLE, Int.reduceLT, reduceCtorEq]
        refine ⟨by omega, ih (i + 1, u1, u3, ws2, N, τ) ⟨?_, hno', ?_, g4, ?_, ?_, ?_⟩ (by show 33 - (i + 1) < 33 - i; omega) _ _ ?_ rfl⟩
        · show i + 1 ≤ (S (i + 1)).length
          rw [hSi, hL]; omega
        · show _ = some (AObj.arr u1 2 1 (ints ((S (i + 1)).map fun m => (bits m.1 : Int))))
          rw [hSi, hL]; exact g1
        · show Mt N (S (i + 1))
          rw [hSi, hL]; exact gM
        · show WG τ _ 3 u3 ws2 ((S (i + 1)).map Prod.snd)
          rw [hSi, hL]; exact gW
        · show ∀ m ∈ S (i + 1), m.2.length + 1 ≤ (S (i + 1)).length
          rw [hSi, hL]; exact gwd
        · simp [keep, hSi, hL]
  · have hie : i = (S i).length := by omega
    have hK := hK2 i hie hno
    exact Kv.Fin.still hK
end Go.Proofs.Ytpkddcjecfogeaa
