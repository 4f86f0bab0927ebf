/- FindIsomorphism: both sides. -/
import Derived.Test.YtkljidghocnllaaCb
import Derived.Test.YtkljidghocnllaaFS
namespace Go.Proofs.Ytkljidghocnllaa
open Go.Kv
set_option maxRecDepth 100000
/- impl.FindIsomorphism -/
def k32 : KC := (.seq (.ops [⟨(some 4), none, .mv (.c (.nils))⟩, ⟨(some 5), none, .mv (.c (.int .i64 0))⟩])
  (.seq (.block 0 (.seq (.ops [⟨(some 9), none, .mv (.t 0)⟩, ⟨(some 10), none, .call (.c (.fn (.func 68) [] [])) [(.t 9)]⟩, ⟨(some 11), none, .not (.t 10)⟩, ⟨(some 12), none, .mv (.t 11)⟩, ⟨(some 13), some (12, false), .mv (.t 1)⟩, ⟨(some 14), some (12, false), .call (.c (.fn (.func 68) [] [])) [(.t 13)]⟩, ⟨(some 15), some (12, false), .not (.t 14)⟩, ⟨(some 16), none, .pick (.t 12) (.c (.bool true)) (.t 15)⟩, ⟨(some 8), none, .mv (.t 16)⟩])
  (.cond (.t 8) (.seq (.ops [⟨(some 4), none, .mv (.c (.nils))⟩, ⟨(some 5), none, .mv (.c (.int .i64 2))⟩])
  .ret) (.seq (.ops [⟨(some 18), none, .mv (.t 0)⟩, ⟨(some 19), none, .len false (.t 18)⟩, ⟨(some 20), none, .bin .gtr (.t 19) (.c (.int .i64 10))⟩, ⟨(some 21), none, .mv (.t 20)⟩, ⟨(some 22), some (21, false), .mv (.t 1)⟩, ⟨(some 23), some (21, false), .len false (.t 22)⟩, ⟨(some 24), some (21, false), .bin .gtr (.t 23) (.c (.int .i64 10))⟩, ⟨(some 25), none, .pick (.t 21) (.c (.bool true)) (.t 24)⟩, ⟨(some 17), none, .mv (.t 25)⟩])
  (.cond (.t 17) (.seq (.ops [⟨(some 4), none, .mv (.c (.nils))⟩, ⟨(some 5), none, .mv (.c (.int .i64 3))⟩])
  .ret) (.seq (.ops [⟨(some 27), none, .mv (.t 0)⟩, ⟨(some 28), none, .len false (.t 27)⟩, ⟨(some 29), none, .mv (.t 1)⟩, ⟨(some 30), none, .len false (.t 29)⟩, ⟨(some 31), none, .bin .neq (.t 28) (.t 30)⟩, ⟨(some 26), none, .mv (.t 31)⟩])
  (.cond (.t 26) (.seq (.ops [⟨(some 4), none, .mv (.c (.nils))⟩, ⟨(some 5), none, .mv (.c (.int .i64 4))⟩])
  .ret) .skip)))))))
  (.seq (.ops [⟨(some 6), none, .alloc [.nils]⟩])
  (.seq (.ops [⟨(some 32), none, .mv (.t 0)⟩, ⟨(some 33), none, .mv (.t 1)⟩, ⟨(some 34), none, .mkfn (.func 73) [] [(.t 6)]⟩, ⟨(some 35), none, .build [.nils, .nils, .nils, .bool false, .bool false, .bool false, .bool false, .bool false, .bool false, .bool false, .bool false, .bool false, .bool false, .nilf] [(0, 1, (.t 32)), (1, 1, (.t 33)), (13, 1, (.t 34))]⟩, ⟨(some 36), none, .box false (.t 35)⟩, ⟨(some 7), none, .mv (.t 36)⟩])
  (.seq (.seq (.ops [⟨(some 37), none, .mv (.t 7)⟩, ⟨(some 38), none, .call (.c (.fn (.func 70) [] [])) [(.t 37)]⟩])
  (.cond (.t 38) (.seq (.ops [⟨(some 4), none, .mv (.c (.nils))⟩, ⟨(some 5), none, .mv (.c (.int .i64 4))⟩])
  .ret) .skip))
  (.seq (.ops [⟨(some 39), none, .load false 1 (.t 6)⟩, ⟨(some 4), none, .mv (.t 39)⟩, ⟨(some 5), none, .mv (.c (.int .i64 0))⟩])
  .ret))))))
theorem e32 {args : List PV} {σ : Heap} {K : PV → Heap → Prop} (hl : args.length ≤ 40) (h : Wf σ → (∀ a ∈ args, PV.upto σ.length a) → vc (mkCfg Try.prog mixed [] 40 σ.length) k32 (FinK σ.length [.t 4, .t 5] K) (argEnv 0 args) σ) : ACall Try.prog 32 args σ K :=
  ACall_enter (C := mkCfg Try.prog mixed [] 40 σ.length) (c := Try.f32.body.getD .skip) Try.func32 (by kernel_rfl) (by kernel_rfl) (by kernel_rfl) rfl hl (by kernel_rfl) (by kernel_rfl) h
/- impl.FindIsomorphism$1 -/
def k73 : KC := (.seq (.ops [⟨(some 3), none, .mv (.c (.bool false))⟩])
  (.seq (.ops [⟨(some 4), none, .mv (.t 0)⟩, ⟨(some 5), none, .call (.c (.fn (.func 74) [] [])) [(.t 4)]⟩, ⟨none, none, .store 1 (.t 1) (.t 5)⟩])
  (.seq (.ops [⟨(some 3), none, .mv (.c (.bool false))⟩])
  .ret)))
theorem e73 {args : List PV} {σ : Heap} {K : PV → Heap → Prop} (hl : args.length ≤ 6) (h : Wf σ → (∀ a ∈ args, PV.upto σ.length a) → vc (mkCfg Try.prog mixed [] 6 σ.length) k73 (FinK σ.length [.t 3] K) (argEnv 0 args) σ) : ACall Try.prog 73 args σ K :=
  ACall_enter (C := mkCfg Try.prog mixed [] 6 σ.length) (c := Try.f73.body.getD .skip) Try.func73 (by kernel_rfl) (by kernel_rfl) (by kernel_rfl) rfl hl (by kernel_rfl) (by kernel_rfl) h
/- slices.Clone[[]int64,int64] -/
def k74 : KC := (.seq (.ops [⟨(some 2), none, .mv (.c (.nils))⟩])
  (.seq (.seq (.ops [⟨(some 3), none, .mv (.t 0)⟩, ⟨(some 4), none, .isn false (.t 3)⟩])
  (.cond (.t 4) (.seq (.ops [⟨(some 2), none, .mv (.c (.nils))⟩])
  .ret) .skip))
  (.seq (.ops [⟨(some 5), none, .bsl false 2 1 []⟩, ⟨(some 6), none, .mv (.t 0)⟩, ⟨(some 7), none, .app (.t 5) (.t 6) 2 1⟩, ⟨(some 2), none, .mv (.t 7)⟩])
  .ret)))
theorem e74 {args : List PV} {σ : Heap} {K : PV → Heap → Prop} (hl : args.length ≤ 8) (h : Wf σ → (∀ a ∈ args, PV.upto σ.length a) → vc (mkCfg Try.prog mixed [] 8 σ.length) k74 (FinK σ.length [.t 2] K) (argEnv 0 args) σ) : ACall Try.prog 74 args σ K :=
  ACall_enter (C := mkCfg Try.prog mixed [] 8 σ.length) (c := Try.f74.body.getD .skip) Try.func74 (by kernel_rfl) (by kernel_rfl) (by kernel_rfl) rfl hl (by kernel_rfl) (by kernel_rfl) h
end Go.Proofs.Ytkljidghocnllaa
namespace Go.Proofs.Ytkljidghocnllaa
open Go.Kv
set_option linter.unusedVariables false
set_option linter.unusedSimpArgs false
attribute [local irreducible] ACall PCall KL
theorem p72 (a b : List (List Int)) (ha : isTab a = true) (hb : isTab b = true) (hab : b.length = a.length) (h10 : a.length ≤ 10) : ∀ (d : Nat) (p : List Nat), p.length + d = a.length → (∀ i, i < p.length → p.getD i 0 < a.length) →
    Pure Try.prog 72 [.list (rows a), .list (rows b), .list (ints (toI p)), .int .i64 1] (.list (rows (((comps a b d p).take 1).map toI))) := by
  obtain ⟨hna, hsa⟩ := tab_sq ha
  intro d
  induction d with
  | zero =>
    intro p hp hpx
    refine e72 (by simp) fun _ _ => ?_
    simp only [k72, argEnv, toI_length, take6, List.drop_zero, Int.cast_ofNat_Int, go_sem, ↓reduceIte, Nat.reduceEqDiff, Nat.reduceAdd, Nat.reduceMul, Nat.reduceLeDiff, Nat.reduceLT, Int.reduceLE, Int.reduceLT, reduceCtorEq]
    refine ⟨fun _ => ?_, fun h => absurd h (by omega)⟩
    exact Kv.Fin.freeze (Imm.refr (l := [toI p]) rfl rfl) ⟨by simp [comps], rfl⟩
  | succ d ihd =>
    intro p hp hpx
    refine e72 (by simp) fun _ _ => ?_
    simp only [k72, argEnv, toI_length, take6, List.drop_zero, Int.cast_ofNat_Int, go_sem, ↓reduceIte, Nat.reduceEqDiff, Nat.reduceAdd, Nat.reduceMul, Nat.reduceLeDiff, Nat.reduceLT, Int.reduceLE, Int.reduceLT, reduceCtorEq]
    refine ⟨fun h => absurd h (by omega), fun _ => ?_⟩
    refine KL_indD k72_b0.eq_1 (fun x : Nat × Nat × List (List Nat) => [(0, .list (rows a)), (1, .list (rows b)), (2, .list (ints (toI p))), (3, .int .i64 1), (10, .ref 0 x.2.1 0 x.2.2.length), (11, .int .i64 x.1)]) (fun x => [.arr x.2.1 50 1 (rows (x.2.2.map toI))]) (fun x => x.1 ≤ a.length ∧ x.2.2 = (cmpN a b d p x.1).take 1) (fun x => a.length - x.1) [0, 1, 2, 3, 10, 11] (0, 0, []) (by simp [keep]) ⟨[], by simp [rows]⟩ ⟨Nat.zero_le _, by simp [cmpN_zero]⟩ (fun x hx => ?_) fun ⟨x, ver, out⟩ ⟨hx, ho⟩ ih => ?_
    · exact ⟨Nat.zero_le _, Env.undr_upto (by simp [Env.undr, PV.undr, undrX_ints, undrX_rows]), .cons (by simp [AObj.undr, undrX_rows]) (.nil _)⟩
    simp only at hx ho
    have hall := cmpN_all a b d p
    try simp only [List.length_map, take6, List.drop_zero, Int.cast_ofNat_Int, go_sem, ↓reduceIte, Nat.reduceEqDiff, Nat.reduceAdd, Nat.reduceMul, Nat.reduceLeDiff, Nat.reduceLT, Int.reduceLE, Int.reduceLT, reduceCtorEq]
    refine ⟨fun h1 => ⟨fun h2 => ?_, fun h2 => ?_⟩, fun h1 => ?_⟩
    · have hxn : x < a.length := by omega
      obtain rfl : out = [] := by
        cases out with
        | nil => rfl
        | cons c l => simp at h2; omega
      have hc0 : cmpN a b d p x = [] := by
        cases hcx : cmpN a b d p x with
        | nil => rfl
        | cons c l => rw [hcx] at ho; simp at ho
      have hsx := cmpN_succ a b d p x
      rw [hc0, List.nil_append] at hsx
      refine (p109 (toI p) (by simp; omega)).go fun v s ⟨hv, hs⟩ => ?_
      subst hv; subst hs
      try simp only [ren_ref, List.length_map, toI_length, take6, List.drop_zero, Int.cast_ofNat_Int, go_sem, ↓reduceIte, Nat.reduceEqDiff, Nat.reduceAdd, Nat.reduceMul, Nat.reduceLeDiff, Nat.reduceLT, Int.reduceLE, Int.reduceLT, reduceCtorEq]
      have hmp : List.take p.length (toI p) ++ [(x : Int)] = toI (p ++ [x]) := by
        rw [List.take_of_length_le (by simp)]; simp [toI]
      rw [hmp]
      have hq := snoc_lt hpx hxn
      refine ⟨by omega, ?_⟩
      refine (p110 a b (p ++ [x]) ha hb hab h10 (by simp; omega) hq).lend (.cons Imm.still (.cons Imm.still (.cons (Imm.refn (l := toI (p ++ [x])) rfl (by simp)) (.nil _)))) ?_
      cases hF : fitsB a b (p ++ [x]) with
      | false =>
        rw [hF] at hsx
        simp only [Bool.false_eq_true, if_false] at hsx
        try simp only [take6, List.drop_zero, Int.cast_ofNat_Int, go_sem, ↓reduceIte, Nat.reduceEqDiff, Nat.reduceAdd, Nat.reduceMul, Nat.reduceLeDiff, Nat.reduceLT, Int.reduceLE, Int.reduceLT, reduceCtorEq]
        refine ⟨by omega, ?_⟩
        refine ih (x + 1, ver, []) ⟨by show x + 1 ≤ a.length; omega, by show [] = (cmpN a b d p (x + 1)).take 1; rw [hsx]; rfl⟩ (by show a.length - (x + 1) < a.length - x; omega) _ _ (by simp [keep]) ⟨[_], rfl⟩
      | true =>
        rw [hF, if_pos rfl] at hsx
        try simp only [Int.sub_zero, take6, List.drop_zero, Int.cast_ofNat_Int, go_sem, ↓reduceIte, Nat.reduceEqDiff, Nat.reduceAdd, Nat.reduceMul, Nat.reduceLeDiff, Nat.reduceLT, Int.reduceLE, Int.reduceLT, reduceCtorEq]
        refine (ihd (p ++ [x]) (by simp; omega) hq).give (id := 1) rfl (.cons Imm.still (.cons Imm.still (.cons (Imm.refn (solo_get rfl) (by simp)) (.cons Imm.still (.nil _))))) ?_
        try simp only [take6, List.drop_zero, Int.cast_ofNat_Int, go_sem, ↓reduceIte, Nat.reduceEqDiff, Nat.reduceAdd, Nat.reduceMul, Nat.reduceLeDiff, Nat.reduceLT, Int.reduceLE, Int.reduceLT, reduceCtorEq]
        have hl1 : (((comps a b d (p ++ [x])).take 1).map toI).length ≤ 1 := by simp; omega
        refine ⟨by omega, by omega, ?_⟩
        refine ih (x + 1, ver + 1, (comps a b d (p ++ [x])).take 1) ⟨by show x + 1 ≤ a.length; omega, by show _ = (cmpN a b d p (x + 1)).take 1; rw [hsx]⟩ (by show a.length - (x + 1) < a.length - x; omega) _ _ (by simp [keep]) ⟨[_], by simp [rows]; rfl⟩
    · have hne : (cmpN a b d p x) ≠ [] := fun h => by rw [h] at ho; subst ho; simp at h2
      obtain ⟨more, hm⟩ := cmpN_pre a b d p hx
      have e : (comps a b (d + 1) p).take 1 = out := by
        rw [hall, hm, ho]
        cases hcx : cmpN a b d p x with
        | nil => exact absurd hcx hne
        | cons c l => rfl
      rw [e]
      exact Kv.Fin.freeze (Imm.refr (l := out.map toI) rfl (by simp)) ⟨rfl, rfl⟩
    · obtain rfl : x = a.length := by omega
      have e : (comps a b (d + 1) p).take 1 = out := by rw [hall, ho]
      rw [e]
      exact Kv.Fin.freeze (Imm.refr (l := out.map toI) rfl (by simp)) ⟨rfl, rfl⟩
theorem p31 (a b : List (List Int)) (ha : a.length ≤ 1048576) (hla : ∀ r ∈ a, r.length ≤ 1048576) (hb : b.length ≤ 1048576) (hlb : ∀ r ∈ b, r.length ≤ 1048576) {c : Int} {w : PV} [Still w]
    (hR : (isTab a = false ∨ isTab b = false → c = 2 ∧ w = .nils) ∧ (isTab a = true → isTab b = true → (10 < a.length ∨ 10 < b.length → c = 3 ∧ w = .nils) ∧ (a.length ≤ 10 → b.length ≤ 10 → (a.length ≠ b.length → c = 4 ∧ w = .nils) ∧ (a.length = b.length → (comps a b a.length [] = [] → c = 4 ∧ w = .nils) ∧ ∀ q l, comps a b a.length [] = q :: l → c = 0 ∧ w = .list (ints (toI q)))))) :
    Pure Try.prog 31 [.list (rows a), .list (rows b)] (.tup [w, .int .i64 c]) := by
  obtain ⟨h2, hR⟩ := hR
  refine e31 (by simp) fun _ _ => ?_
  simp only [k31, argEnv, take6, List.drop_zero, Int.cast_ofNat_Int, go_sem, ↓reduceIte, Nat.reduceEqDiff, Nat.reduceAdd, Nat.reduceMul, Nat.reduceLeDiff, Nat.reduceLT, Int.reduceLE, Int.reduceLT, reduceCtorEq]
  refine (p66 a ha hla).go ?_
  cases hta : isTab a with
  | false =>
    obtain ⟨rfl, rfl⟩ := h2 (.inl hta)
    try simp only [take6, List.drop_zero, Int.cast_ofNat_Int, go_sem, ↓reduceIte, Nat.reduceEqDiff, Nat.reduceAdd, Nat.reduceMul, Nat.reduceLeDiff, Nat.reduceLT, Int.reduceLE, Int.reduceLT, reduceCtorEq]
    exact Kv.Fin.still ⟨rfl, rfl⟩
  | true =>
    try simp only [take6, List.drop_zero, Int.cast_ofNat_Int, go_sem, ↓reduceIte, Nat.reduceEqDiff, Nat.reduceAdd, Nat.reduceMul, Nat.reduceLeDiff, Nat.reduceLT, Int.reduceLE, Int.reduceLT, reduceCtorEq]
    refine (p66 b hb hlb).go ?_
    cases htb : isTab b with
    | false =>
      obtain ⟨rfl, rfl⟩ := h2 (.inr htb)
      try simp only [take6, List.drop_zero, Int.cast_ofNat_Int, go_sem, ↓reduceIte, Nat.reduceEqDiff, Nat.reduceAdd, Nat.reduceMul, Nat.reduceLeDiff, Nat.reduceLT, Int.reduceLE, Int.reduceLT, reduceCtorEq]
      exact Kv.Fin.still ⟨rfl, rfl⟩
    | true =>
      obtain ⟨h3, hR⟩ := hR hta htb
      try simp only [take6, List.drop_zero, Int.cast_ofNat_Int, go_sem, ↓reduceIte, Nat.reduceEqDiff, Nat.reduceAdd, Nat.reduceMul, Nat.reduceLeDiff, Nat.reduceLT, Int.reduceLE, Int.reduceLT, reduceCtorEq]
      refine ⟨fun h1 => ⟨fun h4 => ?_, fun h4 => ⟨fun h5 => ?_, fun h5 => ?_⟩⟩, fun h1 => ?_⟩
      · obtain ⟨rfl, rfl⟩ := h3 (.inr (by omega))
        exact Kv.Fin.still ⟨rfl, rfl⟩
      · obtain ⟨rfl, rfl⟩ := (hR (by omega) (by omega)).1 (by omega)
        exact Kv.Fin.still ⟨rfl, rfl⟩
      · obtain ⟨h6, h7⟩ := (hR (by omega) (by omega)).2 (by omega)
        refine (p72 a b hta htb (by omega) (by omega) a.length [] (by simp) (by simp)).give (id := 0) rfl (.cons Imm.still (.cons Imm.still (.cons (Imm.refn (l := []) (solo_get (o := .arr 0 2 1 (ints [])) rfl) rfl) (.cons Imm.still (.nil _))))) ?_
        cases hcs : comps a b a.length [] with
        | nil =>
          obtain ⟨rfl, rfl⟩ := h6 hcs
          try simp only [List.take_nil, List.map_nil, take6, List.drop_zero, Int.cast_ofNat_Int, go_sem, ↓reduceIte, Nat.reduceEqDiff, Nat.reduceAdd, Nat.reduceMul, Nat.reduceLeDiff, Nat.reduceLT, Int.reduceLE, Int.reduceLT, reduceCtorEq]
          exact Kv.Fin.still ⟨rfl, rfl⟩
        | cons q l =>
          obtain ⟨rfl, rfl⟩ := h7 q l hcs
          have e : ((q :: l).take 1).map toI = [toI q] := rfl
          rw [e]
          try simp only [take6, List.drop_zero, Int.cast_ofNat_Int, go_sem, ↓reduceIte, Nat.reduceEqDiff, Nat.reduceAdd, Nat.reduceMul, Nat.reduceLeDiff, Nat.reduceLT, Int.reduceLE, Int.reduceLT, reduceCtorEq]
          exact ⟨fun h => absurd h (by decide), fun _ => Kv.Fin.still ⟨rfl, rfl⟩⟩
      · obtain ⟨rfl, rfl⟩ := h3 (.inl (by omega))
        exact Kv.Fin.still ⟨rfl, rfl⟩
theorem aIsn_ints (x : Int) (l : List Int) (K : Bool → Prop) : aIsn (.list (ints (x :: l))) K = K false := rfl
/-- A copy of a slice of at least one number. -/
theorem p74 (l : List Int) (hl : l.length ≤ 4294967296) (h0 : l ≠ []) : ACall Try.prog 74 [.list (ints l)] [] (fun v s => v = .ref 0 1 0 l.length ∧ s = [.arr 1 2 1 (ints l)]) := by
  obtain ⟨x, l, rfl⟩ := List.exists_cons_of_ne_nil h0
  refine e74 (by simp) fun _ _ => ?_
  simp only [k74, argEnv, take6, List.drop_zero, Int.cast_ofNat_Int, go_sem, ↓reduceIte, Nat.reduceEqDiff, Nat.reduceAdd, Nat.reduceMul, Nat.reduceLeDiff, Nat.reduceLT, Int.reduceLE, Int.reduceLT, reduceCtorEq]
  rw [aIsn_ints]
  try simp only [take6, List.drop_zero, Int.cast_ofNat_Int, go_sem, ↓reduceIte, Nat.reduceEqDiff, Nat.reduceAdd, Nat.reduceMul, Nat.reduceLeDiff, Nat.reduceLT, Int.reduceLE, Int.reduceLT, reduceCtorEq]
  refine ⟨by simp at hl; omega, Kv.Fin.now ⟨rfl, ?_⟩⟩
  simp
theorem p73 (a b : List (List Int)) (hn : 1 ≤ a.length ∧ a.length ≤ 40) : Each a b 73 true (fun _ => .nils) (fun q => .ref 3 1 0 q.length) (fun q => [.arr 1 2 1 (ints (toI q))]) := fun s p v tail hp hpx hP hs => by
  rcases hP with ⟨_, h, _⟩ | ⟨ver, rest, rfl, rfl⟩
  · rw [h] at hp; simp at hp; omega
  have hne : toI p ≠ [] := fun h => by have := congrArg List.length h; simp at this; rw [this] at hp; simp at hp; omega
  refine e73 (by simp) fun _ _ => ?_
  simp only [k73, argEnv, take6, List.drop_zero, Int.cast_ofNat_Int, go_sem, ↓reduceIte, Nat.reduceEqDiff, Nat.reduceAdd, Nat.reduceMul, Nat.reduceLeDiff, Nat.reduceLT, Int.reduceLE, Int.reduceLT, reduceCtorEq]
  refine (p74 (toI p) (by simp; omega) hne).lend (.cons (Imm.refp (pre := []) (l := toI p) (post := rest) rfl (by simp) rfl) (.nil _)) fun v s ⟨hv, hs⟩ => ?_
  subst hv; subst hs
  refine ⟨⟨free_ref _ _ _ _, Free.ints _ _ _ _⟩, ?_⟩
  try simp only [OpK_eq, toI_length, take6, List.drop_zero, Int.cast_ofNat_Int, go_sem, ↓reduceIte, Nat.reduceEqDiff, Nat.reduceAdd, Nat.reduceMul, Nat.reduceLeDiff, Nat.reduceLT, Int.reduceLE, Int.reduceLT, reduceCtorEq]
  exact Kv.Fin.now ⟨false, .ref 3 1 0 p.length, [.arr 1 2 1 (ints (toI p))], rfl, rfl, .inl ⟨rfl, rfl, p, [], rfl, rfl, rfl⟩⟩
theorem comps_le (a b : List (List Int)) : ∀ (d : Nat) (p : List Nat), (comps a b d p).length ≤ a.length ^ d ∧ ∀ x, (cmpN a b d p x).length ≤ x * a.length ^ d
  | 0, p => by
    refine ⟨by simp [comps], fun x => ?_⟩
    induction x with
    | zero => simp [cmpN]
    | succ x ih =>
      rw [cmpN_succ, List.length_append, Nat.succ_mul]
      have : (if fitsB a b (p ++ [x]) = true then comps a b 0 (p ++ [x]) else []).length ≤ a.length ^ 0 := by split <;> simp [comps]
      omega
  | d + 1, p => by
    have h1 : ∀ q, (comps a b (d + 1) q).length ≤ a.length ^ (d + 1) := fun q => by
      have := (comps_le a b d q).2 a.length
      rw [Nat.pow_succ, Nat.mul_comm]; exact this
    refine ⟨h1 p, fun x => ?_⟩
    induction x with
    | zero => simp [cmpN]
    | succ x ih =>
      rw [cmpN_succ, List.length_append, Nat.succ_mul]
      have : (if fitsB a b (p ++ [x]) = true then comps a b (d + 1) (p ++ [x]) else []).length ≤ a.length ^ (d + 1) := by
        split
        · exact h1 _
        · simp
      omega
theorem comps_bound {a b : List (List Int)} (h10 : a.length ≤ 10) : (comps a b a.length []).length ≤ 100000000000 := by
  have h1 := (comps_le a b a.length []).1
  have h2 : a.length ^ a.length ≤ 10 ^ a.length := Nat.pow_le_pow_left h10 _
  have h3 : 10 ^ a.length ≤ 10 ^ 10 := Nat.pow_le_pow_right (by omega) h10
  omega
/-- What the search hands back, and its code. -/
def fiR (a b : List (List Int)) (T : List Int) (c : Int) : Prop :=
  ((isTab a = false ∨ isTab b = false) → c = 2 ∧ T = []) ∧ (isTab a = true → isTab b = true → (10 < a.length ∨ 10 < b.length → c = 3 ∧ T = []) ∧ (a.length ≤ 10 → b.length ≤ 10 → (a.length ≠ b.length → c = 4 ∧ T = []) ∧ (a.length = b.length → (comps a b a.length [] = [] → c = 4 ∧ T = []) ∧ ∀ q l, comps a b a.length [] = q :: l → c = 0 ∧ T = toI q)))
theorem p32 (a b : List (List Int)) (ha : a.length ≤ 1048576) (hla : ∀ r ∈ a, r.length ≤ 1048576) (hb : b.length ≤ 1048576) (hlb : ∀ r ∈ b, r.length ≤ 1048576) {c : Int} {T : List Int} (hR : fiR a b T c) :
    NewIO Try.prog 32 [.list (rows a), .list (rows b)] 2 T c := by
  obtain ⟨h2, hR⟩ := hR
  unfold NewIO
  refine e32 (by simp) fun _ _ => ?_
  simp only [k32, argEnv, take6, List.drop_zero, Int.cast_ofNat_Int, go_sem, ↓reduceIte, Nat.reduceEqDiff, Nat.reduceAdd, Nat.reduceMul, Nat.reduceLeDiff, Nat.reduceLT, Int.reduceLE, Int.reduceLT, reduceCtorEq]
  refine (p68 a ha hla).go ?_
  cases hta : isTab a with
  | false =>
    obtain ⟨rfl, rfl⟩ := h2 (.inl hta)
    try simp only [take6, List.drop_zero, Int.cast_ofNat_Int, go_sem, ↓reduceIte, Nat.reduceEqDiff, Nat.reduceAdd, Nat.reduceMul, Nat.reduceLeDiff, Nat.reduceLT, Int.reduceLE, Int.reduceLT, reduceCtorEq]
    exact Kv.Fin.still ⟨_, rfl, .nil, .nil⟩
  | true =>
    try simp only [take6, List.drop_zero, Int.cast_ofNat_Int, go_sem, ↓reduceIte, Nat.reduceEqDiff, Nat.reduceAdd, Nat.reduceMul, Nat.reduceLeDiff, Nat.reduceLT, Int.reduceLE, Int.reduceLT, reduceCtorEq]
    refine (p68 b hb hlb).go ?_
    cases htb : isTab b with
    | false =>
      obtain ⟨rfl, rfl⟩ := h2 (.inr htb)
      try simp only [take6, List.drop_zero, Int.cast_ofNat_Int, go_sem, ↓reduceIte, Nat.reduceEqDiff, Nat.reduceAdd, Nat.reduceMul, Nat.reduceLeDiff, Nat.reduceLT, Int.reduceLE, Int.reduceLT, reduceCtorEq]
      exact Kv.Fin.still ⟨_, rfl, .nil, .nil⟩
    | true =>
      obtain ⟨h3, hR⟩ := hR hta htb
      try simp only [take6, List.drop_zero, Int.cast_ofNat_Int, go_sem, ↓reduceIte, Nat.reduceEqDiff, Nat.reduceAdd, Nat.reduceMul, Nat.reduceLeDiff, Nat.reduceLT, Int.reduceLE, Int.reduceLT, reduceCtorEq]
      refine ⟨fun h1 => ⟨fun h4 => ?_, fun h4 => ⟨fun h5 => ?_, fun h5 => ?_⟩⟩, fun h1 => ?_⟩
      · obtain ⟨rfl, rfl⟩ := h3 (.inr (by omega))
        exact Kv.Fin.still ⟨_, rfl, .nil, .nil⟩
      · obtain ⟨rfl, rfl⟩ := (hR (by omega) (by omega)).1 (by omega)
        exact Kv.Fin.still ⟨_, rfl, .nil, .nil⟩
      · obtain ⟨h6, h7⟩ := (hR (by omega) (by omega)).2 (by omega)
        rw [← fc_new]
        refine ⟨rfl, ?_⟩
        refine (p70 a b hta htb (by omega) (by omega) 73 true (fun _ => .nils) (fun q => .ref 3 1 0 q.length) (fun q => [.arr 1 2 1 (ints (toI q))]) (fun _ => inferInstance) (fun _ => rfl) (p73 a b (tab_sq hta).1) a.length [] 0 .nils [] (by simp) (by simp) (fitA_nil a b) (by have := comps_bound (a := a) (b := b) (by omega); omega) (.inl ⟨rfl, rfl, rfl⟩)).mono fun w σ' ⟨r, Z, m, v', tail', hw, hσ, hP', ho, h1t⟩ => ?_
        subst hw; subst hσ
        rcases ho with ⟨_, hr, q, l, hc, hZ, hm⟩ | ⟨hc, hr, hZ, hm⟩
        · obtain ⟨rfl, rfl⟩ := h7 q l hc
          subst hr; subst hZ; subst hm
          obtain ⟨o, rfl⟩ : ∃ o, tail' = [o] := by
            have := h1t rfl
            match tail', this with
            | [o], _ => exact ⟨o, rfl⟩
          try simp only [OpK_eq, take6, List.drop_zero, Int.cast_ofNat_Int, go_sem, ↓reduceIte, Nat.reduceEqDiff, Nat.reduceAdd, Nat.reduceMul, Nat.reduceLeDiff, Nat.reduceLT, Int.reduceLE, Int.reduceLT, reduceCtorEq]
          have e : (toI q).length = q.length := toI_length q
          refine Kv.Fin.oneT (i := 3) rfl (by simp only [flat_ints]; exact Plain.ints _) 0 ⟨_, rfl, ?_, Free.ints _ _ _ _⟩
          rw [← e]
          exact .own 0 1 [] (toI q) [] (by simp) ⟨Nat.zero_le _, by simp⟩
        · rcases hc with hc | hc
          · cases hc
          obtain ⟨rfl, rfl⟩ := h6 hc
          subst hr; subst hZ; subst hm
          try simp only [OpK_eq, take6, List.drop_zero, Int.cast_ofNat_Int, go_sem, ↓reduceIte, Nat.reduceEqDiff, Nat.reduceAdd, Nat.reduceMul, Nat.reduceLeDiff, Nat.reduceLT, Int.reduceLE, Int.reduceLT, reduceCtorEq]
          exact Kv.Fin.still ⟨_, rfl, .nil, .nil⟩
      · obtain ⟨rfl, rfl⟩ := h3 (.inl (by omega))
        exact Kv.Fin.still ⟨_, rfl, .nil, .nil⟩
end Go.Proofs.Ytkljidghocnllaa
