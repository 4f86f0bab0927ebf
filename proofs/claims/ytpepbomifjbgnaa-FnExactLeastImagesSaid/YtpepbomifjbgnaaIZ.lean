/- Images of a set: the specification. -/
import Derived.Test.YtpepbomifjbgnaaCb
import Derived.Test.YtpepbomifjbgnaaIM
import Derived.Test.YtpepbomifjbgnaaIW
import Derived.Test.YtpepbomifjbgnaaFE
namespace Go.Proofs.Ytpepbomifjbgnaa
open Go.Kv
set_option maxRecDepth 100000
/- spec.l10Images -/
/- live [0, 5, 6, 7, 8] -/
def k82_b0 : KC := (.seq (.seq (.ops [⟨(some 29), none, .mv (.t 8)⟩, ⟨(some 30), none, .mv (.t 0)⟩, ⟨(some 31), none, .len false (.t 30)⟩, ⟨(some 32), none, .bin .lss (.t 29) (.t 31)⟩])
  (.cond (.t 32) .skip (.exit 2)))
  (.seq (.block 3 (.seq (.ops [⟨(some 35), none, .mv (.t 0)⟩, ⟨(some 36), none, .mv (.t 8)⟩, ⟨(some 37), none, .idxS 6 (.t 35) (.t 36)⟩, ⟨(some 38), none, .load true 6 (.t 37)⟩, ⟨(some 39), none, .mv (.t 7)⟩, ⟨(some 40), none, .call (.c (.fn (.func 71) [] [])) [(.t 38), (.t 39)]⟩, ⟨(some 9), none, .mv (.t 40)⟩])
  (.seq (.ops [⟨(some 41), none, .mv (.t 5)⟩, ⟨(some 42), none, .mv (.t 9)⟩, ⟨(some 43), none, .call (.c (.fn (.func 72) [] [])) [(.t 41), (.t 42)]⟩, ⟨(some 10), none, .mv (.t 43)⟩])
  (.seq (.ops [⟨(some 44), none, .mv (.t 10)⟩, ⟨(some 45), none, .len false (.t 44)⟩, ⟨(some 46), none, .mv (.t 5)⟩, ⟨(some 47), none, .len false (.t 46)⟩, ⟨(some 48), none, .bin .gtr (.t 45) (.t 47)⟩])
  (.cond (.t 48) (.seq (.ops [⟨(some 49), none, .mv (.t 10)⟩, ⟨(some 5), none, .mv (.t 49)⟩])
  (.ops [⟨(some 50), none, .mv (.t 6)⟩, ⟨(some 51), none, .mv (.t 9)⟩, ⟨(some 52), none, .bsl true 2 1 [(.t 51)]⟩, ⟨(some 53), none, .app (.t 50) (.t 52) 2 1⟩, ⟨(some 6), none, .mv (.t 53)⟩])) .skip)))))
  (.ops [⟨(some 33), none, .mv (.t 8)⟩, ⟨(some 34), none, .bin .add (.t 33) (.c (.int .i64 1))⟩, ⟨(some 8), none, .mv (.t 34)⟩])))
/- live [0, 5, 6] -/
def k82_b1 : KC := (.seq (.seq (.ops [⟨(some 15), none, .mv (.t 6)⟩, ⟨(some 16), none, .len false (.t 15)⟩, ⟨(some 17), none, .bin .gtr (.t 16) (.c (.int .i64 0))⟩])
  (.cond (.t 17) .skip (.exit 0)))
  (.block 1 (.seq (.ops [⟨(some 18), none, .mv (.t 6)⟩, ⟨(some 19), none, .mv (.t 6)⟩, ⟨(some 20), none, .len false (.t 19)⟩, ⟨(some 21), none, .bin .sub (.t 20) (.c (.int .i64 1))⟩, ⟨(some 22), none, .idxS 1 (.t 18) (.t 21)⟩, ⟨(some 23), none, .load false 1 (.t 22)⟩, ⟨(some 7), none, .mv (.t 23)⟩])
  (.seq (.ops [⟨(some 24), none, .mv (.t 6)⟩, ⟨(some 25), none, .mv (.t 6)⟩, ⟨(some 26), none, .len false (.t 25)⟩, ⟨(some 27), none, .bin .sub (.t 26) (.c (.int .i64 1))⟩, ⟨(some 28), none, .sls 1 (.t 24) none (some (.t 27))⟩, ⟨(some 6), none, .mv (.t 28)⟩])
  (.seq (.ops [⟨(some 8), none, .mv (.c (.int .i64 0))⟩])
  (.block 2 (.loop k82_b0)))))))
def k82 : KC := (.seq (.ops [⟨(some 4), none, .mv (.c (.nils))⟩])
  (.seq (.ops [⟨(some 11), none, .mv (.t 1)⟩, ⟨(some 12), none, .bsl false 2 1 [(.t 11)]⟩, ⟨(some 13), none, .mv (.t 1)⟩, ⟨(some 14), none, .bsl false 2 1 [(.t 13)]⟩, ⟨(some 5), none, .mv (.t 12)⟩, ⟨(some 6), none, .mv (.t 14)⟩])
  (.seq (.block 0 (.loop k82_b1))
  (.seq (.ops [⟨(some 54), none, .mv (.t 5)⟩, ⟨(some 4), none, .mv (.t 54)⟩])
  .ret))))
theorem e82 {args : List PV} {σ : Heap} {K : PV → Heap → Prop} (hl : args.length ≤ 55) (h : Wf σ → (∀ a ∈ args, PV.upto σ.length a) → vc (mkCfg Try.prog mixed [52] 55 σ.length) k82 (FinK σ.length [.t 4] K) (argEnv 0 args) σ) : ACall Try.prog 82 args σ K :=
  ACall_enter (C := mkCfg Try.prog mixed [52] 55 σ.length) (c := Try.f82.body.getD .skip) Try.func82 (by kernel_rfl) (by kernel_rfl) (by kernel_rfl) rfl hl (by kernel_rfl) (by kernel_rfl) h
end Go.Proofs.Ytpepbomifjbgnaa
namespace Go.Proofs.Ytpepbomifjbgnaa
open Go.Kv
set_option linter.unusedVariables false
set_option linter.unusedSimpArgs false
attribute [local irreducible] ACall PCall KL
theorem p82 (fs : List (List Nat)) (n : Nat) (h5 : n ≤ 5) (hf : ∀ f ∈ fs, Ok f n) (hfl : fs.length ≤ 1000) (x : Nat) (h1 : 1 ≤ x) (hx : x < 2 ^ n) : Pure Try.prog 82 [.list (aggs (fs.map mp)), .int .i64 x] (.list (ints (nz (imS fs n x)))) := by
  have h32 := pw5 h5
  refine e82 (by simp) fun _ _ => ?_
  simp only [k82, argEnv, take6, List.drop_zero, Int.cast_ofNat_Int, go_sem, ↓reduceIte, Nat.reduceEqDiff, Nat.reduceAdd, Nat.reduceMul, Nat.reduceLeDiff, Nat.reduceLT, Int.reduceLE, Int.reduceLT, reduceCtorEq]
  refine KL_freezeAt (id := 0) [0, 5, 6] rfl (env0 := [(0, .list (aggs (fs.map mp))), (5, .ref 0 0 0 1), (6, .ref 1 0 0 1)]) (env' := [(0, .list (aggs (fs.map mp))), (5, .list (ints (nz [x]))), (6, .ref 1 0 0 1)]) (by simp [keep]) (by rfl) (fun t => ?_) ?_
  · simp only [look_cons, look_nil]
    repeat' split
    · exact .inl Imm.still
    · exact .inl (Imm.refn (l := nz [x]) (solo_get rfl) rfl)
    · exact .inr ⟨rfl, 1, 0, 0, 1, by decide, rfl⟩
    · exact .inl (.refl _ Plain.undef.up)
  refine KL_ind k82_b1.eq_1 (fun y : Nat × List Nat × List Int × List Nat => [(0, .list (aggs (fs.map mp))), (5, .list (ints (nz y.2.2.2))), (6, .ref 1 y.1 0 y.2.1.length)]) (fun y => [.dead, .arr y.1 2 1 (ints (nz y.2.1 ++ y.2.2.1))])
    (fun y => Srt y.2.2.2 ∧ (∀ b ∈ y.2.2.2, Rc fs n x b) ∧ x ∈ y.2.2.2 ∧ (∀ b ∈ y.2.1, b ∈ y.2.2.2) ∧ (∀ b ∈ y.2.2.2, b ∈ y.2.1 ∨ ∀ f ∈ fs, mvb f n b ∈ y.2.2.2) ∧ 2 * (33 - y.2.2.2.length) + y.2.1.length ≤ 66) (fun y => 2 * (33 - y.2.2.2.length) + y.2.1.length) [0, 5, 6] (0, [x], [], [x]) (by simp [keep]) (by rfl) ?_ fun ⟨ver, st, jk, out⟩ ⟨i1, i2, i3, i4, i5, i6⟩ ih => ?_
  · refine ⟨⟨by simp, fun y hy => ?_⟩, fun b hb => ?_, by simp, fun b hb => hb, fun b hb => .inl hb, by simp⟩
    · simp only [List.mem_singleton] at hy; subst hy; exact lt62 h5 hx
    · simp only [List.mem_singleton] at hb; subst hb; exact .here
  simp only at i1 i2 i3 i4 i5 i6
  have hbnd : ∀ b ∈ out, b < 2 ^ n := fun b hb => ((i2 b hb).bnd hf h1 hx).2
  have hol := srt_len5 i1 h5 hbnd
  have hself : ∀ o : AObj, [AObj.dead, o][1]? = some o := fun o => rfl
  have hset : ∀ o o' : AObj, [AObj.dead, o].set 1 o' = [AObj.dead, o'] := fun o o' => rfl
  try simp only [OpK_eq, HKv, hself, hset, take6, List.drop_zero, Int.cast_ofNat_Int, go_sem, ↓reduceIte, Nat.reduceEqDiff, Nat.reduceAdd, Nat.reduceMul, Nat.reduceLeDiff, Nat.reduceLT, Int.reduceLE, Int.reduceLT, reduceCtorEq]
  refine ⟨fun h2 => ?_, fun h2 => ?_⟩
  · rcases List.eq_nil_or_concat st with rfl | ⟨st, own, rfl⟩
    · simp at h2
    rw [List.concat_eq_append] at *
    have hl1 : ((st ++ [own]).length : Int) - 1 = (st.length : Int) := by simp
    have hl2 : (((st ++ [own]).length : Int) - 1).toNat = st.length := by rw [hl1]; omega
    have hgd : (nz (st ++ [own]) ++ jk).getD st.length 0 = (own : Int) := by
      simp [nz, List.getD_eq_getElem?_getD]
    have hcon : nz (st ++ [own]) ++ jk = nz st ++ ((own : Int) :: jk) := by simp [nz]
    have hlen : (st ++ [own]).length = st.length + 1 := by simp
    have howm : own ∈ out := i4 own (by simp)
    have hownb := hbnd own howm
    have hstl : st.length ≤ 66 := by omega
    rw [hl2, hl1, hgd, hcon]
    refine ⟨by omega, ⟨by omega, by omega, by rw [nz_len]; omega⟩, by rw [nz_len]; omega, fun _ => ⟨by omega, by omega, ?_⟩⟩
    refine KL_ind k82_b0.eq_1 (fun y : Nat × Nat × List Nat × List Int × List Nat => [(0, .list (aggs (fs.map mp))), (5, .list (ints (nz y.2.2.2.2))), (6, .ref 1 y.2.1 0 y.2.2.1.length), (7, .int .i64 own), (8, .int .i64 y.1)]) (fun y => [.dead, .arr y.2.1 2 1 (ints (nz y.2.2.1 ++ y.2.2.2.1))])
      (fun y => y.1 ≤ fs.length ∧ Srt y.2.2.2.2 ∧ (∀ b ∈ y.2.2.2.2, Rc fs n x b) ∧ x ∈ y.2.2.2.2 ∧ own ∈ y.2.2.2.2 ∧ (∀ b ∈ y.2.2.1, b ∈ y.2.2.2.2) ∧ (∀ b ∈ y.2.2.2.2, b ∈ y.2.2.1 ∨ (b = own ∧ ∀ j, j < y.1 → mvb (fs.getD j []) n own ∈ y.2.2.2.2) ∨ ∀ f ∈ fs, mvb f n b ∈ y.2.2.2.2) ∧ 2 * (33 - y.2.2.2.2.length) + y.2.2.1.length + 1 ≤ 2 * (33 - out.length) + (st.length + 1)) (fun y => fs.length - y.1) [0, 5, 6, 7, 8]
      (0, ver, st, (own : Int) :: jk, out) (by simp [keep]) rfl ⟨Nat.zero_le _, i1, i2, i3, howm, fun b hb => i4 b (by simp [hb]), fun b hb => ?_, by show 2 * (33 - out.length) + st.length + 1 ≤ _; omega⟩ fun ⟨k, ver2, st2, jk2, out2⟩ ⟨hk, j1, j2, j3, j4, j5, j6, j7⟩ ihk => ?_
    · rcases i5 b hb with h | h
      · rcases List.mem_append.1 h with h | h
        · exact .inl h
        · exact .inr (.inl ⟨by simpa using h, fun j hj => by omega⟩)
      · exact .inr (.inr h)
    simp only at hk j1 j2 j3 j4 j5 j6 j7
    have hol2 := srt_len5 j1 h5 fun b hb => ((j2 b hb).bnd hf h1 hx).2
    have hstl2 : st2.length ≤ 66 := by omega
    try simp only [OpK_eq, HKv, hself, hset, List.length_map, take6, List.drop_zero, Int.cast_ofNat_Int, go_sem, ↓reduceIte, Nat.reduceEqDiff, Nat.reduceAdd, Nat.reduceMul, Nat.reduceLeDiff, Nat.reduceLT, Int.reduceLE, Int.reduceLT, reduceCtorEq]
    refine ⟨fun h3 => ?_, fun h3 => ?_⟩
    · have hkl : k < fs.length := by omega
      have hfk := hf _ (List.getElem_mem hkl)
      have h6 := hfk.mp_len
      have hgk : (fs.map mp).getD k [] = mp fs[k] := by simp [List.getD_eq_getElem?_getD, hkl]
      have hgf : fs.getD k [] = fs[k] := by simp [List.getD_eq_getElem?_getD, hkl]
      rw [hgk]
      try simp only [OpK_eq, HKv, hself, hset, h6, take6, List.drop_zero, Int.cast_ofNat_Int, go_sem, ↓reduceIte, Nat.reduceEqDiff, Nat.reduceAdd, Nat.reduceMul, Nat.reduceLeDiff, Nat.reduceLT, Int.reduceLE, Int.reduceLT, reduceCtorEq]
      refine ⟨by omega, fun _ => ?_⟩
      refine (moved_x fs[k] n hfk hownb).go ?_
      have hmb := mvb_lt hfk own
      have hmr : Rc fs n x (mvb fs[k] n own) := .step _ _ (List.getElem_mem hkl) (j2 own j4)
      generalize hM : mvb fs[k] n own = M at *
      try simp only [OpK_eq, HKv, hself, hset, take6, List.drop_zero, Int.cast_ofNat_Int, go_sem, ↓reduceIte, Nat.reduceEqDiff, Nat.reduceAdd, Nat.reduceMul, Nat.reduceLeDiff, Nat.reduceLT, Int.reduceLE, Int.reduceLT, reduceCtorEq]
      refine (p72 out2 M j1 (lt62 h5 hmb) (by omega)).go ?_
      have hpl := putB_len j1 M
      have hps := putB_srt j1 (lt62 h5 hmb)
      have hpm : ∀ b, b ∈ putB out2 M ↔ b = M ∨ b ∈ out2 := fun b => putB_mem
      have hpl2 := srt_len5 hps h5 fun b hb => by
        rcases (hpm b).1 hb with rfl | hb
        · exact hmb
        · exact ((j2 b hb).bnd hf h1 hx).2
      have htk : List.take st2.length (nz st2 ++ jk2) = nz st2 := by
        rw [List.take_append_of_le_length (by rw [nz_len]; exact Nat.le_refl _), List.take_of_length_le (by rw [nz_len]; exact Nat.le_refl _)]
      have hcl : ∀ out3 : List Nat, (∀ b ∈ out2, b ∈ out3) → M ∈ out3 → ∀ b ∈ out2, b ∈ st2 ∨ (b = own ∧ ∀ j, j < k + 1 → mvb (fs.getD j []) n own ∈ out3) ∨ ∀ f ∈ fs, mvb f n b ∈ out3 := fun out3 ho hM3 b hb => by
        rcases j6 b hb with h | ⟨rfl, h⟩ | h
        · exact .inl h
        · refine .inr (.inl ⟨rfl, fun j hj => ?_⟩)
          by_cases e : j = k
          · subst e; rw [hgf, hM]; exact hM3
          · exact ho _ (h j (by omega))
        · exact .inr (.inr fun f hff => ho _ (h f hff))
      by_cases hin : M ∈ out2
      · rw [if_pos hin] at hpl
        try simp only [OpK_eq, HKv, hself, hset, nz_len, hpl, htk, take6, List.drop_zero, Int.cast_ofNat_Int, go_sem, ↓reduceIte, Nat.reduceEqDiff, Nat.reduceAdd, Nat.reduceMul, Nat.reduceLeDiff, Nat.reduceLT, Int.reduceLE, Int.reduceLT, reduceCtorEq]
        refine ⟨fun h => absurd h (by omega), fun _ => ⟨by omega, ihk (k + 1, ver2, st2, jk2, out2) ⟨by show k + 1 ≤ fs.length; omega, j1, j2, j3, j4, j5, hcl out2 (fun _ h => h) hin, j7⟩ (by show fs.length - (k + 1) < fs.length - k; omega) _ _ (by simp [keep]) rfl⟩⟩
      · rw [if_neg hin] at hpl
        try simp only [OpK_eq, HKv, hself, hset, nz_len, hpl, htk, take6, List.drop_zero, Int.cast_ofNat_Int, go_sem, ↓reduceIte, Nat.reduceEqDiff, Nat.reduceAdd, Nat.reduceMul, Nat.reduceLeDiff, Nat.reduceLT, Int.reduceLE, Int.reduceLT, reduceCtorEq]
        refine ⟨fun _ => ⟨⟨by omega, by omega⟩, by omega, ihk (k + 1, ver2 + 1, st2 ++ [M], [], putB out2 M) ⟨by show k + 1 ≤ fs.length; omega, hps, fun b hb => ?_, (hpm x).2 (.inr j3), (hpm own).2 (.inr j4), fun b hb => ?_, fun b hb => ?_, ?_⟩ (by show fs.length - (k + 1) < fs.length - k; omega) _ _ (by simp [keep]) ?_⟩, fun h => absurd (by omega) h⟩
        · rcases (hpm b).1 hb with rfl | hb
          · exact hmr
          · exact j2 b hb
        · rcases List.mem_append.1 hb with hb | hb
          · exact (hpm b).2 (.inr (j5 b hb))
          · exact (hpm b).2 (.inl (by simpa using hb))
        · show b ∈ st2 ++ [M] ∨ (b = own ∧ ∀ j, j < k + 1 → mvb (fs.getD j []) n own ∈ putB out2 M) ∨ ∀ f ∈ fs, mvb f n b ∈ putB out2 M
          rcases (hpm b).1 hb with rfl | hb
          · exact .inl (by simp)
          · rcases hcl (putB out2 M) (fun c hc => (hpm c).2 (.inr hc)) ((hpm M).2 (.inl rfl)) b hb with h | h
            · exact .inl (List.mem_append.2 (.inl h))
            · exact .inr h
        · show 2 * (33 - (putB out2 M).length) + (st2 ++ [M]).length + 1 ≤ _
          rw [List.length_append, List.length_singleton]
          omega
        · simp [nz]
    · obtain rfl : k = fs.length := by omega
      try simp only [take6, List.drop_zero, Int.cast_ofNat_Int, go_sem, ↓reduceIte, Nat.reduceEqDiff, Nat.reduceAdd, Nat.reduceMul, Nat.reduceLeDiff, Nat.reduceLT, Int.reduceLE, Int.reduceLT, reduceCtorEq]
      refine ih (ver2, st2, jk2, out2) ⟨j1, j2, j3, j5, fun b hb => ?_, by show 2 * (33 - out2.length) + st2.length ≤ 66; omega⟩ (by show 2 * (33 - out2.length) + st2.length < 2 * (33 - out.length) + (st ++ [own]).length; rw [hlen]; omega) _ _ (by simp [keep]) rfl
      show b ∈ st2 ∨ ∀ f ∈ fs, mvb f n b ∈ out2
      rcases j6 b hb with h | ⟨rfl, h⟩ | h
      · exact .inl h
      · refine .inr fun f hff => ?_
        obtain ⟨j, hj, rfl⟩ := List.getElem_of_mem hff
        have := h j hj
        rwa [show fs.getD j [] = fs[j] by simp [List.getD_eq_getElem?_getD, hj]] at this
      · exact .inr h
  · have hst : st = [] := List.eq_nil_of_length_eq_zero (by omega)
    subst hst
    have e : out = imS fs n x := srt_uniq i1 (imS_srt h5) fun b => by
      rw [imS_mem h5 hf h1 hx]
      refine ⟨i2 b, fun hb => ?_⟩
      induction hb with
      | here => exact i3
      | step f y hff _ ihy =>
        rcases i5 y ihy with h | h
        · cases h
        · exact h f hff
    rw [e]
    try simp only [take6, List.drop_zero, Int.cast_ofNat_Int, go_sem, ↓reduceIte, Nat.reduceEqDiff, Nat.reduceAdd, Nat.reduceMul, Nat.reduceLeDiff, Nat.reduceLT, Int.reduceLE, Int.reduceLT, reduceCtorEq]
    exact Kv.Fin.still ⟨rfl, rfl⟩
end Go.Proofs.Ytpepbomifjbgnaa
