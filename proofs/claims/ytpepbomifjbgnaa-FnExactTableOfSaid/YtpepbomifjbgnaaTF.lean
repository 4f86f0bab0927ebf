/- Places of maps: the implementation. -/
import Derived.Test.YtpepbomifjbgnaaCb
import Derived.Test.YtpepbomifjbgnaaTE
namespace Go.Proofs.Ytpepbomifjbgnaa
open Go.Kv
set_option maxRecDepth 100000
/- (*impl.monoid).place -/
def k119 : KC := (.seq (.ops [⟨(some 3), none, .box true (.t 1)⟩, ⟨(some 4), none, .mv (.c (.int .i64 0))⟩])
  (.seq (.draw [⟨(some 5), none, .mv (.t 0)⟩, ⟨(some 6), none, .load true 6 (.t 3)⟩, ⟨(some 8), none, .nilck (.t 5)⟩, ⟨(some 9), none, .fieldA 2 (.t 8)⟩, ⟨(some 7), none, .pcall (.c (.fn (.func 145) [] [])) [(.t 6)]⟩, ⟨(some 10), none, .idxA 3125 1 (.t 9) (.t 7)⟩, ⟨(some 11), none, .load false 1 (.t 10)⟩, ⟨(some 12), none, .bin .sub (.t 11) (.c (.int .i64 1))⟩, ⟨(some 4), none, .mv (.t 12)⟩])
  .ret))
theorem e119 {args : List PV} {σ : Heap} {K : PV → Heap → Prop} (hl : args.length ≤ 13) (h : Wf σ → (∀ a ∈ args, PV.upto σ.length a) → vc (mkCfg Try.prog mixed [3] 13 σ.length) k119 (FinK σ.length [.t 4] K) (argEnv 0 args) σ) : ACall Try.prog 119 args σ K :=
  ACall_enter (C := mkCfg Try.prog mixed [3] 13 σ.length) (c := Try.f119.body.getD .skip) Try.func119 (by kernel_rfl) (by kernel_rfl) (by kernel_rfl) rfl hl (by kernel_rfl) (by kernel_rfl) h
/- (*impl.monoid).product -/
def k120 : KC := (.seq (.ops [⟨(some 6), none, .mv (.c (.int .i64 0))⟩])
  (.seq (.draw [⟨(some 7), none, .mv (.t 0)⟩, ⟨(some 8), none, .mv (.t 0)⟩, ⟨(some 9), none, .nilck (.t 8)⟩, ⟨(some 10), none, .fieldA 0 (.t 9)⟩, ⟨(some 11), none, .load false 1 (.t 10)⟩, ⟨(some 12), none, .mv (.t 1)⟩, ⟨(some 13), none, .idxS 6 (.t 11) (.t 12)⟩, ⟨(some 14), none, .load true 6 (.t 13)⟩, ⟨(some 15), none, .mv (.t 0)⟩, ⟨(some 16), none, .nilck (.t 15)⟩, ⟨(some 17), none, .fieldA 0 (.t 16)⟩, ⟨(some 18), none, .load false 1 (.t 17)⟩, ⟨(some 19), none, .mv (.t 2)⟩, ⟨(some 20), none, .idxS 6 (.t 18) (.t 19)⟩, ⟨(some 21), none, .load true 6 (.t 20)⟩, ⟨(some 22), none, .pcall (.c (.fn (.func 146) [] [])) [(.t 14), (.t 21)]⟩, ⟨(some 23), none, .pcall (.c (.fn (.func 119) [] [])) [(.t 7), (.t 22)]⟩, ⟨(some 6), none, .mv (.t 23)⟩])
  .ret))
theorem e120 {args : List PV} {σ : Heap} {K : PV → Heap → Prop} (hl : args.length ≤ 24) (h : Wf σ → (∀ a ∈ args, PV.upto σ.length a) → vc (mkCfg Try.prog mixed [] 24 σ.length) k120 (FinK σ.length [.t 6] K) (argEnv 0 args) σ) : ACall Try.prog 120 args σ K :=
  ACall_enter (C := mkCfg Try.prog mixed [] 24 σ.length) (c := Try.f120.body.getD .skip) Try.func120 (by kernel_rfl) (by kernel_rfl) (by kernel_rfl) rfl hl (by kernel_rfl) (by kernel_rfl) h
/- (*impl.monoid).table -/
/- live [0, 3, 4, 5, 11, 12, 19, 20] -/
def k70_b0 : KC := (.seq (.ops [⟨(some 21), none, .bin .lss (.t 20) (.t 19)⟩])
  (.seq (.cond (.t 21) .skip (.exit 2))
  (.seq (.block 3 (.seq (.ops [⟨(some 22), none, .mv (.t 20)⟩, ⟨(some 6), none, .mv (.t 22)⟩])
  (.ops [⟨(some 23), none, .mv (.t 5)⟩, ⟨(some 24), none, .mv (.t 0)⟩, ⟨(some 25), none, .mv (.t 4)⟩, ⟨(some 26), none, .mv (.t 6)⟩, ⟨(some 27), none, .call (.c (.fn (.func 120) [] [])) [(.t 24), (.t 25), (.t 26)]⟩, ⟨(some 28), none, .bsl true 2 1 [(.t 27)]⟩, ⟨(some 29), none, .app (.t 23) (.t 28) 2 1⟩, ⟨(some 5), none, .mv (.t 29)⟩])))
  (.ops [⟨(some 30), none, .bin .add (.t 20) (.c (.int .i64 1))⟩, ⟨(some 20), none, .mv (.t 30)⟩]))))
/- live [0, 3, 11, 12] -/
def k70_b1 : KC := (.seq (.ops [⟨(some 13), none, .bin .lss (.t 12) (.t 11)⟩])
  (.seq (.cond (.t 13) .skip (.exit 0))
  (.seq (.block 1 (.seq (.ops [⟨(some 14), none, .mv (.t 12)⟩, ⟨(some 4), none, .mv (.t 14)⟩])
  (.seq (.ops [⟨(some 5), none, .mv (.c (.nils))⟩])
  (.seq (.seq (.ops [⟨(some 15), none, .mv (.t 0)⟩, ⟨(some 16), none, .nilck (.t 15)⟩, ⟨(some 17), none, .fieldA 0 (.t 16)⟩, ⟨(some 18), none, .load false 1 (.t 17)⟩, ⟨(some 19), none, .len false (.t 18)⟩, ⟨(some 20), none, .mv (.c (.int .i64 0))⟩])
  (.block 2 (.loop k70_b0)))
  (.ops [⟨(some 31), none, .mv (.t 3)⟩, ⟨(some 32), none, .mv (.t 5)⟩, ⟨(some 33), none, .bsl true 23 1 [(.t 32)]⟩, ⟨(some 34), none, .app (.t 31) (.t 33) 23 1⟩, ⟨(some 3), none, .mv (.t 34)⟩])))))
  (.ops [⟨(some 35), none, .bin .add (.t 12) (.c (.int .i64 1))⟩, ⟨(some 12), none, .mv (.t 35)⟩]))))
def k70 : KC := (.seq (.ops [⟨(some 2), none, .mv (.c (.nils))⟩])
  (.seq (.ops [⟨(some 3), none, .mv (.c (.nils))⟩])
  (.seq (.seq (.ops [⟨(some 7), none, .mv (.t 0)⟩, ⟨(some 8), none, .nilck (.t 7)⟩, ⟨(some 9), none, .fieldA 0 (.t 8)⟩, ⟨(some 10), none, .load false 1 (.t 9)⟩, ⟨(some 11), none, .len false (.t 10)⟩, ⟨(some 12), none, .mv (.c (.int .i64 0))⟩])
  (.block 0 (.loop k70_b1)))
  (.seq (.ops [⟨(some 36), none, .mv (.t 3)⟩, ⟨(some 2), none, .mv (.t 36)⟩])
  .ret))))
theorem e70 {args : List PV} {σ : Heap} {K : PV → Heap → Prop} (hl : args.length ≤ 37) (h : Wf σ → (∀ a ∈ args, PV.upto σ.length a) → vc (mkCfg Try.prog mixed [28, 33] 37 σ.length) k70 (FinK σ.length [.t 2] K) (argEnv 0 args) σ) : ACall Try.prog 70 args σ K :=
  ACall_enter (C := mkCfg Try.prog mixed [28, 33] 37 σ.length) (c := Try.f70.body.getD .skip) Try.func70 (by kernel_rfl) (by kernel_rfl) (by kernel_rfl) rfl hl (by kernel_rfl) (by kernel_rfl) h
end Go.Proofs.Ytpepbomifjbgnaa
namespace Go.Proofs.Ytpepbomifjbgnaa
open Go.Kv
set_option linter.unusedVariables false
set_option linter.unusedSimpArgs false
attribute [local irreducible] ACall PCall KL
/-- A monoid as it is read: its elements, its words, its places. -/
def moV (E W : PV) (P : List Int) : List PV := E :: W :: ints P
instance {E W : PV} {P : List Int} [h : Still E] [h' : Still W] : StillL (moV E W P) := inferInstanceAs (StillL (E :: W :: ints P))
theorem p119 (E W : PV) (P : List Int) (hP : P.length = 3125) (f : List Nat) (n : Nat) (hf : Ok f n) (hb : ∀ x ∈ P, 0 ≤ x ∧ x ≤ 300) : Pure Try.prog 119 [.fptr (moV E W P) 0, .agg (ints (mp f))] (.int .i64 (P.getD (numK f 5) 0 - 1)) := by
  have hlf := hf.mp_len
  have h5 := hf.le
  have hN : numK f 5 < 3125 := numK_lt (f := f) (fun x hx => by have := hf.lt x hx; omega) 5
  have hx : 0 ≤ P.getD (numK f 5) 0 ∧ P.getD (numK f 5) 0 ≤ 300 := by
    rw [List.getD_eq_getElem?_getD, List.getElem?_eq_getElem (by omega)]
    exact hb _ (List.getElem_mem _)
  have hml : (moV E W P).length = 3127 := by rw [moV, List.length_cons, List.length_cons, ints_length, hP]
  refine e119 (by simp) fun _ _ => ?_
  simp only [k119, argEnv, hlf, take6, List.drop_zero, Int.cast_ofNat_Int, go_sem, ↓reduceIte, Nat.reduceEqDiff, Nat.reduceAdd, Nat.reduceMul, Nat.reduceLeDiff, Nat.reduceLT, Int.reduceLE, Int.reduceLT, reduceCtorEq]
  refine (p145 f n hf).pgo ?_
  try simp only [hml, take6, List.drop_zero, Int.cast_ofNat_Int, go_sem, ↓reduceIte, Nat.reduceEqDiff, Nat.reduceAdd, Nat.reduceMul, Nat.reduceLeDiff, Nat.reduceLT, Int.reduceLE, Int.reduceLT, reduceCtorEq]
  refine ⟨by omega, by omega, fun c hc => ?_⟩
  have hc' : (ints P)[numK f 5]? = some c := hc
  have hP' : numK f 5 < P.length := by omega
  have e : c = .int .i64 (P.getD (numK f 5) 0) := by
    simp only [ints, List.getElem?_map, List.getElem?_eq_getElem hP', Option.map_some, Option.some.injEq] at hc'
    rw [← hc', List.getD_eq_getElem?_getD, List.getElem?_eq_getElem hP']; rfl
  subst e
  try simp only [OpK_eq, HKv, take6, List.drop_zero, Int.cast_ofNat_Int, go_sem, ↓reduceIte, Nat.reduceEqDiff, Nat.reduceAdd, Nat.reduceMul, Nat.reduceLeDiff, Nat.reduceLT, Int.reduceLE, Int.reduceLT, reduceCtorEq]
  exact ⟨by omega, Kv.Fin.still ⟨rfl, rfl⟩⟩
/-- The place of a product. -/
def plP (P : List Int) (S : List (List Nat)) (i k : Nat) : Int := P.getD (numK (mul (S.getD i []) (S.getD k [])) 5) 0 - 1
/-- A row by places. -/
def rowP (P : List Int) (S : List (List Nat)) (i y : Nat) : List Int := (List.range y).map fun k => plP P S i k
/-- The table by places. -/
def tabP (P : List Int) (S : List (List Nat)) (x : Nat) : List (List Int) := (List.range x).map fun i => rowP P S i S.length
theorem p120 (W : PV) [Still W] (P : List Int) (hP : P.length = 3125) (S : List (List Nat)) (n : Nat) (hS : ∀ f ∈ S, Ok f n) (hSl : S.length ≤ 300) (hb : ∀ x ∈ P, 0 ≤ x ∧ x ≤ 300) (i k : Nat) (hi : i < S.length) (hk : k < S.length) :
    Pure Try.prog 120 [.fptr (moV (.list (aggs (S.map mp))) W P) 0, .int .i64 i, .int .i64 k] (.int .i64 (plP P S i k)) := by
  have oi := hS _ (List.getElem_mem hi)
  have ok := hS _ (List.getElem_mem hk)
  have li := oi.mp_len
  have lk := ok.mp_len
  have gi : (S.map mp).getD i [] = mp S[i] := by simp [List.getD_eq_getElem?_getD, hi]
  have gk : (S.map mp).getD k [] = mp S[k] := by simp [List.getD_eq_getElem?_getD, hk]
  have hml : (moV (.list (aggs (S.map mp))) W P).length = 3127 := by rw [moV, List.length_cons, List.length_cons, ints_length, hP]
  have hm0 : (moV (.list (aggs (S.map mp))) W P)[0]? = some (.list (aggs (S.map mp))) := rfl
  refine e120 (by simp) fun _ _ => ?_
  simp only [k120, argEnv, hml, take6, List.drop_zero, Int.cast_ofNat_Int, go_sem, ↓reduceIte, Nat.reduceEqDiff, Nat.reduceAdd, Nat.reduceMul, Nat.reduceLeDiff, Nat.reduceLT, Int.reduceLE, Int.reduceLT, reduceCtorEq]
  try simp only [hml, hm0, gi, gk, li, lk, aggs_length, List.length_map, take6, List.drop_zero, Int.cast_ofNat_Int, go_sem, ↓reduceIte, Nat.reduceEqDiff, Nat.reduceAdd, Nat.reduceMul, Nat.reduceLeDiff, Nat.reduceLT, Int.reduceLE, Int.reduceLT, reduceCtorEq]
  refine ⟨by omega, fun _ => ⟨by omega, fun _ => ?_⟩⟩
  refine (p146 S[i] S[k] n oi ok).pgo ?_
  try simp only [OpK_eq, HKv, take6, List.drop_zero, Int.cast_ofNat_Int, go_sem, ↓reduceIte, Nat.reduceEqDiff, Nat.reduceAdd, Nat.reduceMul, Nat.reduceLeDiff, Nat.reduceLT, Int.reduceLE, Int.reduceLT, reduceCtorEq]
  refine (p119 (.list (aggs (S.map mp))) W P hP (mul S[i] S[k]) n (oi.mul ok) hb).pgo ?_
  try simp only [OpK_eq, HKv, take6, List.drop_zero, Int.cast_ofNat_Int, go_sem, ↓reduceIte, Nat.reduceEqDiff, Nat.reduceAdd, Nat.reduceMul, Nat.reduceLeDiff, Nat.reduceLT, Int.reduceLE, Int.reduceLT, reduceCtorEq]
  refine Kv.Fin.still ⟨?_, rfl⟩
  have si : S.getD i [] = S[i] := by simp [List.getD_eq_getElem?_getD, hi]
  have sk : S.getD k [] = S[k] := by simp [List.getD_eq_getElem?_getD, hk]
  rw [plP, si, sk]
theorem p70N (W : PV) [Still W] (P : List Int) (hP : P.length = 3125) (S : List (List Nat)) (n : Nat) (hS : ∀ f ∈ S, Ok f n) (hSl : S.length ≤ 300) (hb : ∀ x ∈ P, 0 ≤ x ∧ x ≤ 300) :
    ACall Try.prog 70 [.fptr (moV (.list (aggs (S.map mp))) W P) 0] [] (fun v s => TabN 23 2 s v (tabP P S S.length) ∧ Free s) := by
  have hml : (moV (.list (aggs (S.map mp))) W P).length = 3127 := by rw [moV, List.length_cons, List.length_cons, ints_length, hP]
  have hm0 : (moV (.list (aggs (S.map mp))) W P)[0]? = some (.list (aggs (S.map mp))) := rfl
  refine e70 (by simp) fun _ _ => ?_
  simp only [k70, argEnv, hml, take6, List.drop_zero, Int.cast_ofNat_Int, go_sem, ↓reduceIte, Nat.reduceEqDiff, Nat.reduceAdd, Nat.reduceMul, Nat.reduceLeDiff, Nat.reduceLT, Int.reduceLE, Int.reduceLT, reduceCtorEq]
  try simp only [hml, hm0, aggs_length, List.length_map, take6, List.drop_zero, Int.cast_ofNat_Int, go_sem, ↓reduceIte, Nat.reduceEqDiff, Nat.reduceAdd, Nat.reduceMul, Nat.reduceLeDiff, Nat.reduceLT, Int.reduceLE, Int.reduceLT, reduceCtorEq]
  generalize hV : moV (.list (aggs (S.map mp))) W P = V at *
  have hsV : StillL V := by rw [← hV]; infer_instance
  refine KL_ind k70_b1.eq_1 (fun y : Nat × PV × Heap => [(0, .fptr V 0), (3, y.2.1), (11, .int .i64 S.length), (12, .int .i64 y.1)]) (fun y => y.2.2) (fun y => y.1 ≤ S.length ∧ TabN 23 2 y.2.2 y.2.1 (tabP P S y.1) ∧ Free y.2.2) (fun y => S.length - y.1) [0, 3, 11, 12] (0, .nils, []) (by simp [keep]) rfl ⟨Nat.zero_le _, .nil, .nil⟩ fun ⟨x, v, σ⟩ ⟨hx, hT, hF⟩ ih => ?_
  simp only at hx hT hF
  try simp only [hml, hm0, aggs_length, List.length_map, take6, List.drop_zero, Int.cast_ofNat_Int, go_sem, ↓reduceIte, Nat.reduceEqDiff, Nat.reduceAdd, Nat.reduceMul, Nat.reduceLeDiff, Nat.reduceLT, Int.reduceLE, Int.reduceLT, reduceCtorEq]
  refine ⟨fun g1 => ?_, fun g1 => ?_⟩
  · have hxl : x < S.length := by omega
    refine KL_ind k70_b0.eq_1 (fun y : Nat => [(0, .fptr V 0), (3, v), (4, .int .i64 x), (5, nref σ.length y), (11, .int .i64 S.length), (12, .int .i64 x), (19, .int .i64 S.length), (20, .int .i64 y)]) (fun y => σ ++ nhp [.arr (y - 1) 2 1 (ints (rowP P S x y))] y) (fun y => y ≤ S.length) (fun y => S.length - y) [0, 3, 4, 5, 11, 12, 19, 20] 0 (by simp [keep]; try rfl) (by simp [nhp]) (Nat.zero_le _) fun y hy ihy => ?_
    have hnew := hp_new (rfl : σ.length = σ.length)
    have hset := hp_setn (rfl : σ.length = σ.length)
    have hps : rowP P S x (y + 1) = rowP P S x y ++ [plP P S x y] := by simp [rowP, List.range_succ]
    have hl : (rowP P S x y).length = y := by simp [rowP]
    try simp only [List.append_nil, take6, List.drop_zero, Int.cast_ofNat_Int, go_sem, ↓reduceIte, Nat.reduceEqDiff, Nat.reduceAdd, Nat.reduceMul, Nat.reduceLeDiff, Nat.reduceLT, Int.reduceLE, Int.reduceLT, reduceCtorEq]
    refine ⟨fun g2 => ?_, fun g2 => ?_⟩
    · have hyl : y < S.length := by omega
      have hpr := p120 W P hP S n hS hSl hb x y hxl hyl
      rw [hV] at hpr
      refine hpr.go ?_
      rcases y with _ | y
      · try simp only [List.append_nil, take6, List.drop_zero, Int.cast_ofNat_Int, go_sem, ↓reduceIte, Nat.reduceEqDiff, Nat.reduceAdd, Nat.reduceMul, Nat.reduceLeDiff, Nat.reduceLT, Int.reduceLE, Int.reduceLT, reduceCtorEq]
        refine ⟨by omega, ihy 1 (by omega) (by omega) _ _ (by rfl) ?_⟩
        rfl
      · have hnw : ∀ o, (σ ++ [o])[σ.length]? = some o := hnew
        try simp only [hnew, hset, hl, take6, List.drop_zero, Int.cast_ofNat_Int, go_sem, ↓reduceIte, Nat.reduceEqDiff, Nat.reduceAdd, Nat.reduceMul, Nat.reduceLeDiff, Nat.reduceLT, Int.reduceLE, Int.reduceLT, reduceCtorEq]
        repeat' (first | refine And.intro ?_ ?_ | intro _)
        all_goals (try omega)
        refine ihy (y + 1 + 1) (by omega) (by omega) _ _ (by rfl) ?_
        rw [List.take_of_length_le (by omega), hps]
        rfl
    · obtain rfl : y = S.length := by omega
      rw [nref_pos (by omega), nhp_pos (by omega)]
      try simp only [OpK_eq, take6, List.drop_zero, Int.cast_ofNat_Int, go_sem, ↓reduceIte, Nat.reduceEqDiff, Nat.reduceAdd, Nat.reduceMul, Nat.reduceLeDiff, Nat.reduceLT, Int.reduceLE, Int.reduceLT, reduceCtorEq]
      refine hT.pushRow hF (rowP P S x S.length) (by simp [rowP]) (by simp [tabP]; omega) fun v' σ' hT' hf' => ?_
      try simp only [OpK_eq, take6, List.drop_zero, Int.cast_ofNat_Int, go_sem, ↓reduceIte, Nat.reduceEqDiff, Nat.reduceAdd, Nat.reduceMul, Nat.reduceLeDiff, Nat.reduceLT, Int.reduceLE, Int.reduceLT, reduceCtorEq]
      have e : tabP P S (x + 1) = tabP P S x ++ [rowP P S x S.length] := by simp [tabP, List.range_succ]
      exact ⟨by omega, ih (x + 1, v', σ') ⟨by show x + 1 ≤ S.length; omega, by show TabN _ _ σ' v' (tabP P S (x + 1)); rw [e]; exact hT', hf'⟩ (by show S.length - (x + 1) < S.length - x; omega) _ _ (by simp [keep]) rfl⟩
  · obtain rfl : x = S.length := by omega
    try simp only [OpK_eq, HKv, take6, List.drop_zero, Int.cast_ofNat_Int, go_sem, ↓reduceIte, Nat.reduceEqDiff, Nat.reduceAdd, Nat.reduceMul, Nat.reduceLeDiff, Nat.reduceLT, Int.reduceLE, Int.reduceLT, reduceCtorEq]
    exact Kv.Fin.now ⟨hT, hF⟩
theorem p70 (W : PV) [Still W] (P : List Int) (hP : P.length = 3125) (S : List (List Nat)) (n : Nat) (hS : ∀ f ∈ S, Ok f n) (hSl : S.length ≤ 300) (hb : ∀ x ∈ P, 0 ≤ x ∧ x ≤ 300) :
    Pure Try.prog 70 [.fptr (moV (.list (aggs (S.map mp))) W P) 0] (.list (rows (tabP P S S.length))) :=
  ACall.ret (p70N W P hP S n hS hSl hb) fun v s ⟨hT, _⟩ => Kv.Fin.freeze hT.imm ⟨rfl, rfl⟩
end Go.Proofs.Ytpepbomifjbgnaa
