/- The search of the finder. -/
import Derived.Test.YtkljidghocnllaaCb
import Derived.Test.YtkljidghocnllaaFI
namespace Go.Proofs.Ytkljidghocnllaa
open Go.Kv
set_option maxRecDepth 100000
/- (*impl.finder).from -/
/- live [0, 29, 30, 58, 59] -/
def k70_b0 : KC := (.seq (.ops [⟨(some 31), none, .bin .lss (.t 30) (.t 29)⟩])
  (.seq (.cond (.t 31) .skip (.exit 0))
  (.seq (.block 1 (.seq (.ops [⟨(some 32), none, .mv (.t 30)⟩, ⟨(some 3), none, .mv (.t 32)⟩])
  (.seq (.seq (.ops [⟨(some 33), none, .mv (.t 0)⟩, ⟨(some 34), none, .mv (.t 3)⟩, ⟨(some 35), none, .nilck (.t 33)⟩, ⟨(some 36), none, .fieldA 3 (.t 35)⟩, ⟨(some 37), none, .idxA 10 1 (.t 36) (.t 34)⟩, ⟨(some 38), none, .load false 1 (.t 37)⟩])
  (.cond (.t 38) (.exit 1) .skip))
  (.seq (.ops [⟨(some 39), none, .mv (.t 0)⟩, ⟨(some 40), none, .mv (.t 3)⟩, ⟨(some 41), none, .nilck (.t 39)⟩, ⟨(some 42), none, .fieldA 3 (.t 41)⟩, ⟨(some 43), none, .idxA 10 1 (.t 42) (.t 40)⟩, ⟨none, none, .store 1 (.t 43) (.c (.bool true))⟩])
  (.seq (.ops [⟨(some 44), none, .mv (.t 0)⟩, ⟨(some 45), none, .mv (.t 0)⟩, ⟨(some 46), none, .nilck (.t 45)⟩, ⟨(some 47), none, .fieldA 2 (.t 46)⟩, ⟨(some 48), none, .load false 1 (.t 47)⟩, ⟨(some 49), none, .mv (.t 3)⟩, ⟨(some 50), none, .bsl true 2 1 [(.t 49)]⟩, ⟨(some 51), none, .app (.t 48) (.t 50) 2 1⟩, ⟨(some 52), none, .nilck (.t 44)⟩, ⟨(some 53), none, .fieldA 2 (.t 52)⟩, ⟨none, none, .store 1 (.t 53) (.t 51)⟩])
  (.seq (.ops [⟨(some 54), none, .mv (.t 0)⟩, ⟨(some 55), none, .call (.c (.fn (.func 115) [] [])) [(.t 54)]⟩, ⟨(some 56), none, .not (.t 55)⟩, ⟨(some 57), none, .mv (.t 56)⟩, ⟨(some 58), some (57, false), .mv (.t 0)⟩, ⟨(some 59), some (57, false), .call (.c (.fn (.func 70) [] [])) [(.t 58)]⟩, ⟨(some 60), none, .pick (.t 57) (.c (.bool true)) (.t 59)⟩, ⟨(some 4), none, .mv (.t 60)⟩])
  (.seq (.draw [⟨(some 61), none, .mv (.t 0)⟩, ⟨(some 62), none, .mv (.t 0)⟩, ⟨(some 63), none, .nilck (.t 62)⟩, ⟨(some 64), none, .fieldA 2 (.t 63)⟩, ⟨(some 65), none, .load false 1 (.t 64)⟩, ⟨(some 66), none, .mv (.t 0)⟩, ⟨(some 67), none, .nilck (.t 66)⟩, ⟨(some 68), none, .fieldA 2 (.t 67)⟩, ⟨(some 69), none, .load false 1 (.t 68)⟩, ⟨(some 70), none, .len false (.t 69)⟩, ⟨(some 71), none, .bin .sub (.t 70) (.c (.int .i64 1))⟩, ⟨(some 72), none, .sls 1 (.t 65) none (some (.t 71))⟩, ⟨(some 73), none, .nilck (.t 61)⟩, ⟨(some 74), none, .fieldA 2 (.t 73)⟩, ⟨none, none, .store 1 (.t 74) (.t 72)⟩])
  (.seq (.ops [⟨(some 75), none, .mv (.t 0)⟩, ⟨(some 76), none, .mv (.t 3)⟩, ⟨(some 77), none, .nilck (.t 75)⟩, ⟨(some 78), none, .fieldA 3 (.t 77)⟩, ⟨(some 79), none, .idxA 10 1 (.t 78) (.t 76)⟩, ⟨none, none, .store 1 (.t 79) (.c (.bool false))⟩])
  (.seq (.ops [⟨(some 80), none, .mv (.t 4)⟩, ⟨(some 81), none, .not (.t 80)⟩])
  (.cond (.t 81) (.seq (.ops [⟨(some 2), none, .mv (.c (.bool false))⟩])
  .ret) .skip))))))))))
  (.ops [⟨(some 82), none, .bin .add (.t 30) (.c (.int .i64 1))⟩, ⟨(some 30), none, .mv (.t 82)⟩]))))
def k70 : KC := (.seq (.ops [⟨(some 2), none, .mv (.c (.bool false))⟩])
  (.seq (.seq (.draw [⟨(some 5), none, .mv (.t 0)⟩, ⟨(some 6), none, .nilck (.t 5)⟩, ⟨(some 7), none, .fieldA 2 (.t 6)⟩, ⟨(some 8), none, .load false 1 (.t 7)⟩, ⟨(some 9), none, .len false (.t 8)⟩, ⟨(some 10), none, .mv (.t 0)⟩, ⟨(some 11), none, .nilck (.t 10)⟩, ⟨(some 12), none, .fieldA 0 (.t 11)⟩, ⟨(some 13), none, .load false 1 (.t 12)⟩, ⟨(some 14), none, .len false (.t 13)⟩, ⟨(some 15), none, .bin .eql (.t 9) (.t 14)⟩])
  (.cond (.t 15) (.seq (.draw [⟨(some 16), none, .mv (.t 0)⟩, ⟨(some 17), none, .nilck (.t 16)⟩, ⟨(some 18), none, .fieldA 13 (.t 17)⟩, ⟨(some 19), none, .load false 1 (.t 18)⟩, ⟨(some 20), none, .mv (.t 0)⟩, ⟨(some 21), none, .nilck (.t 20)⟩, ⟨(some 22), none, .fieldA 2 (.t 21)⟩, ⟨(some 23), none, .load false 1 (.t 22)⟩, ⟨(some 24), none, .call (.t 19) [(.t 23)]⟩, ⟨(some 2), none, .mv (.t 24)⟩])
  .ret) .skip))
  (.seq (.seq (.ops [⟨(some 25), none, .mv (.t 0)⟩, ⟨(some 26), none, .nilck (.t 25)⟩, ⟨(some 27), none, .fieldA 0 (.t 26)⟩, ⟨(some 28), none, .load false 1 (.t 27)⟩, ⟨(some 29), none, .len false (.t 28)⟩, ⟨(some 30), none, .mv (.c (.int .i64 0))⟩])
  (.block 0 (.loop k70_b0)))
  (.seq (.ops [⟨(some 2), none, .mv (.c (.bool true))⟩])
  .ret))))
theorem e70 {args : List PV} {σ : Heap} {K : PV → Heap → Prop} (hl : args.length ≤ 83) (h : Wf σ → (∀ a ∈ args, PV.upto σ.length a) → vc (mkCfg Try.prog mixed [50] 83 σ.length) k70 (FinK σ.length [.t 2] K) (argEnv 0 args) σ) : ACall Try.prog 70 args σ K :=
  ACall_enter (C := mkCfg Try.prog mixed [50] 83 σ.length) (c := Try.f70.body.getD .skip) Try.func70 (by kernel_rfl) (by kernel_rfl) (by kernel_rfl) rfl hl (by kernel_rfl) (by kernel_rfl) h
/- impl.CountTableSymmetries$1 -/
def k69 : KC := (.seq (.ops [⟨(some 3), none, .mv (.c (.bool false))⟩])
  (.seq (.ops [⟨(some 4), none, .load false 1 (.t 1)⟩, ⟨(some 5), none, .bin .add (.t 4) (.c (.int .i64 1))⟩, ⟨none, none, .store 1 (.t 1) (.t 5)⟩])
  (.seq (.ops [⟨(some 3), none, .mv (.c (.bool true))⟩])
  .ret)))
theorem e69 {args : List PV} {σ : Heap} {K : PV → Heap → Prop} (hl : args.length ≤ 6) (h : Wf σ → (∀ a ∈ args, PV.upto σ.length a) → vc (mkCfg Try.prog mixed [] 6 σ.length) k69 (FinK σ.length [.t 3] K) (argEnv 0 args) σ) : ACall Try.prog 69 args σ K :=
  ACall_enter (C := mkCfg Try.prog mixed [] 6 σ.length) (c := Try.f69.body.getD .skip) Try.func69 (by kernel_rfl) (by kernel_rfl) (by kernel_rfl) rfl hl (by kernel_rfl) (by kernel_rfl) h
end Go.Proofs.Ytkljidghocnllaa
namespace Go.Proofs.Ytkljidghocnllaa
open Go.Kv
set_option linter.unusedVariables false
set_option linter.unusedSimpArgs false
attribute [local irreducible] ACall PCall KL
def usedOf (p : List Nat) : List PV := (List.range 10).map fun i => PV.bool (decide (i ∈ p))
def fcells (a b : List (List Int)) (v : PV) (p : List Nat) (f : Nat) : List PV := .list (rows a) :: .list (rows b) :: v :: (usedOf p ++ [.fn (.func f) [] [.ptr 0 0]])
section
variable {a b : List (List Int)} {v : PV} {p : List Nat} {f : Nat}
@[simp] theorem usedOf_length (p : List Nat) : (usedOf p).length = 10 := by simp [usedOf]
theorem usedOf_get {q : Nat} (h : q < 10) : (usedOf p)[q]? = some (.bool (decide (q ∈ p))) := by simp [usedOf, h]
@[simp] theorem fc_len : (fcells a b v p f).length = 14 := by simp [fcells]
@[simp] theorem fc_0 : (fcells a b v p f)[0]? = some (.list (rows a)) := rfl
@[simp] theorem fc_1 : (fcells a b v p f)[1]? = some (.list (rows b)) := rfl
@[simp] theorem fc_2 : (fcells a b v p f)[2]? = some v := rfl
@[simp] theorem fc_13 : (fcells a b v p f)[13]? = some (.fn (.func f) [] [.ptr 0 0]) := by
  show (usedOf p ++ [PV.fn (.func f) [] [.ptr 0 0]])[10]? = _
  rw [List.getElem?_append_right (by simp)]; simp
theorem fc_u {q : Nat} (h : q < 10) : (fcells a b v p f)[q + 3]? = some (.bool (decide (q ∈ p))) := by
  show (usedOf p ++ [PV.fn (.func f) [] [.ptr 0 0]])[q]? = _
  rw [List.getElem?_append_left (by simpa using h), usedOf_get h]
@[simp] theorem fc_s2 (v' : PV) : (fcells a b v p f).set 2 v' = fcells a b v' p f := rfl
theorem fc_st {q : Nat} (h : q < 10) : (fcells a b v p f).set (q + 3) (.bool true) = fcells a b v (p ++ [q]) f := by
  show _ :: _ :: _ :: ((usedOf p ++ [PV.fn (.func f) [] [.ptr 0 0]]).set q (.bool true)) = _
  rw [List.set_append_left _ _ (by simpa using h)]
  unfold fcells
  congr 4
  apply List.ext_getElem?
  intro i
  by_cases hi : i < 10
  · rw [usedOf_get hi]
    by_cases e : q = i
    · subst e; rw [List.getElem?_set_self (by simpa using h)]; simp
    · rw [List.getElem?_set_ne e, usedOf_get hi]
      have : (i ∈ p ++ [q]) ↔ i ∈ p := by simp; exact fun h => absurd h.symm e
      simp [Ne.symm e]
  · rw [List.getElem?_eq_none (by simp; omega), List.getElem?_eq_none (by simp; omega)]
theorem fc_sf {q : Nat} (h : q < 10) (hq : q ∉ p) : (fcells a b v (p ++ [q]) f).set (q + 3) (.bool false) = fcells a b v p f := by
  show _ :: _ :: _ :: ((usedOf (p ++ [q]) ++ [PV.fn (.func f) [] [.ptr 0 0]]).set q (.bool false)) = _
  rw [List.set_append_left _ _ (by simpa using h)]
  unfold fcells
  congr 4
  apply List.ext_getElem?
  intro i
  by_cases hi : i < 10
  · rw [usedOf_get hi]
    by_cases e : q = i
    · subst e; rw [List.getElem?_set_self (by simpa using h)]; simp [hq]
    · rw [List.getElem?_set_ne e, usedOf_get hi]
      simp [Ne.symm e]
  · rw [List.getElem?_eq_none (by simp; omega), List.getElem?_eq_none (by simp; omega)]
end
/-- What is led so far, as it lies in the heap. -/
def Pp (v : PV) (tail : Heap) (p : List Nat) : Prop := (v = .nils ∧ p = [] ∧ tail = []) ∨ ∃ (ver : Nat) (rest : List Int), v = .ref 2 ver 0 p.length ∧ tail = [.arr ver 2 1 (ints (toI p ++ rest))]
theorem Pp.len {v : PV} {tail : Heap} {p : List Nat} (h : Pp v tail p) (A B : AObj) (m : Heap) (K : PV → Prop) : aLen v (A :: B :: (tail ++ m)) K = K (.int .i64 p.length) := by
  rcases h with ⟨rfl, rfl, rfl⟩ | ⟨ver, rest, rfl, rfl⟩
  · rfl
  · simp [aLen]
theorem Pp.app {v : PV} {tail : Heap} {p : List Nat} (h : Pp v tail p) (hl : p.length ≤ 10) (q : Nat) (A B : AObj) {K : PV → Heap → Prop} (hK : ∀ ver, K (.ref 2 ver 0 (p.length + 1)) [A, B, .arr ver 2 1 (ints (toI (p ++ [q])))]) : aApp 2 1 v (.list [.int .i64 q]) (A :: B :: tail) K := by
  have hok : okL 1 [PV.int .i64 q] = True := by simp [okL, PV.cs, PV.ok]
  have he : ∀ p : List Nat, toI (p ++ [q]) = toI p ++ [(q : Int)] := fun p => by simp [toI]
  rcases h with ⟨rfl, rfl, rfl⟩ | ⟨ver, rest, rfl, rfl⟩
  · simp only [aApp_nils, aNews_list, hok, true_and, AppN_def]
    refine ⟨by simp, ?_⟩
    have := hK 0
    simpa [toI, ints] using this
  · have h0 : (A :: B :: [AObj.arr ver 2 1 (ints (toI p ++ rest))])[2]? = some (.arr ver 2 1 (ints (toI p ++ rest))) := rfl
    simp only [aApp_ref, h0, AppR_arr, aNews_list, hok, true_and, AppM_def]
    refine ⟨⟨by simp [ints_length], by simp; omega⟩, ?_⟩
    have := hK (ver + 1)
    have h1 : (ints (toI p ++ rest)).take p.length = ints (toI p) := by
      rw [ints_take]; congr 1
      rw [List.take_append_of_le_length (by simp), List.take_of_length_le (by simp)]
    rw [h1]
    simpa [he, ints] using this
theorem HK_v (σ : Heap) (K : PV → Heap → Prop) (v : PV) : HK σ K v = K v σ := rfl
/-- The ways in which the search ends. -/
def Out (stop : Bool) (X : Nat → PV) (Y : List Nat → PV) (M : List Nat → Heap) (cs : List (List Nat)) (s : Nat) (r : Bool) (Z : PV) (m : Heap) : Prop :=
  (stop = true ∧ r = false ∧ ∃ q l, cs = q :: l ∧ Z = Y q ∧ m = M q) ∨ ((stop = false ∨ cs = []) ∧ r = true ∧ Z = X (s + cs.length) ∧ m = [])
def Each (a b : List (List Int)) (f : Nat) (stop : Bool) (X : Nat → PV) (Y : List Nat → PV) (M : List Nat → Heap) : Prop :=
  ∀ (s : Nat) (p : List Nat) (v : PV) (tail : Heap), p.length = a.length → (∀ i, i < p.length → p.getD i 0 < a.length) → Pp v tail p → s ≤ 100000000000 →
    ACall Try.prog f [v, .ptr 0 0] (.box [X s] :: .box (fcells a b v p f) :: tail) (fun w σ' => ∃ r Z m, w = .bool r ∧ σ' = .box [Z] :: .box (fcells a b v p f) :: (tail ++ m) ∧ Out stop X Y M [p] s r Z m)
theorem ImmL.append {σ : Heap} {cs ds cs' ds' : List PV} (h : ImmL σ cs ds) (h' : ImmL σ cs' ds') : ImmL σ (cs ++ cs') (ds ++ ds') := by
  refine ⟨by simp [h.1, h'.1], fun i c d hc hd => ?_⟩
  rw [List.getElem?_append] at hc hd
  rw [← h.1] at hd
  split at hc
  · rename_i hi; rw [if_pos hi] at hd; exact h.2 _ _ _ hc hd
  · rename_i hi; rw [if_neg hi] at hd; exact h'.2 _ _ _ hc hd
theorem imm_fc {a b : List (List Int)} {Z : PV} [Still Z] {p P : List Nat} {f ver k : Nat} (hk : k = P.length) (hZ : Z.ok = true) :
    Imm [.box [Z], .box (fcells a b (.ref 2 ver 0 k) p f), .arr ver 2 1 (ints (toI P))] (.ptr 1 0) (.fptr (.list (rows a) :: .list (rows b) :: .list (ints (toI P)) :: (usedOf p ++ [.fn (.func f) [] [.fptr [Z] 0]])) 0) := by
  subst hk
  have hu : StillL (usedOf p) := ⟨fun c hc => by
    simp only [usedOf, List.mem_map] at hc
    obtain ⟨i, _, rfl⟩ := hc
    infer_instance⟩
  have hl : ImmL [.box [Z], .box (fcells a b (.ref 2 ver 0 P.length) p f), .arr ver 2 1 (ints (toI P))] (fcells a b (.ref 2 ver 0 P.length) p f) (.list (rows a) :: .list (rows b) :: .list (ints (toI P)) :: (usedOf p ++ [.fn (.func f) [] [.fptr [Z] 0]])) := by
    refine .cons Imm.still (.cons Imm.still (.cons (Imm.refn rfl (by simp)) (ImmL.append (.still hu) (.cons (Imm.fnc _ (.cons ?_ (.nil _))) (.nil _)))))
    exact .ptr 0 0 [Z] [Z] rfl rfl (by simp [hZ]) (ImmL.cons Imm.still (.nil _)).2
  refine .ptr 1 0 _ _ rfl hl.1 ?_ hl.2
  simp [usedOf, PV.ok]
theorem cmpN_le (a b : List (List Int)) (d : Nat) (p : List Nat) {x y : Nat} (h : x ≤ y) : (cmpN a b d p x).length ≤ (cmpN a b d p y).length := by
  induction h with
  | refl => exact Nat.le_refl _
  | step _ ih => rw [cmpN_succ, List.length_append]; omega
theorem cmpN_pre (a b : List (List Int)) (d : Nat) (p : List Nat) {x y : Nat} (h : x ≤ y) : ∃ m, cmpN a b d p y = cmpN a b d p x ++ m := by
  induction h with
  | refl => exact ⟨[], by simp⟩
  | step _ ih =>
    obtain ⟨m, ih⟩ := ih
    exact ⟨m ++ _, by rw [cmpN_succ, ih, List.append_assoc]⟩
set_option maxRecDepth 100000 in
theorem p70 (a b : List (List Int)) (ha : isTab a = true) (hb : isTab b = true) (hab : b.length = a.length) (h10 : a.length ≤ 10) (f : Nat) (stop : Bool) (X : Nat → PV) (Y : List Nat → PV) (M : List Nat → Heap) (hX : ∀ s, Still (X s)) (hXo : ∀ s, (X s).ok = true) (hE : Each a b f stop X Y M) :
    ∀ (d : Nat) (p : List Nat) (s : Nat) (v : PV) (tail : Heap), p.length + d = a.length → (∀ i, i < p.length → p.getD i 0 < a.length) → fitA a b p → s + (comps a b d p).length ≤ 100000000000 → Pp v tail p →
      ACall Try.prog 70 [.ptr 1 0] (.box [X s] :: .box (fcells a b v p f) :: tail) (fun w σ' => ∃ r Z m v' tail', w = .bool r ∧ σ' = .box [Z] :: .box (fcells a b v' p f) :: (tail' ++ m) ∧ Pp v' tail' p ∧ Out stop X Y M (comps a b d p) s r Z m ∧ (r = false → tail'.length = 1)) := by
  obtain ⟨hna, hsa⟩ := tab_sq ha
  intro d
  induction d with
  | zero =>
    intro p s v tail hp hpx hA hs hP
    have hlen := hP.len (.box [X s]) (.box (fcells a b v p f)) []
    rw [List.append_nil] at hlen
    refine e70 (by simp) fun _ _ => ?_
    simp only [k70, argEnv, HK_v, OpK_eq, hlen, fc_len, fc_0, fc_1, fc_2, fc_13, take6, List.drop_zero, Int.cast_ofNat_Int, go_sem, ↓reduceIte, Nat.reduceEqDiff, Nat.reduceAdd, Nat.reduceMul, Nat.reduceLeDiff, Nat.reduceLT, Int.reduceLE, Int.reduceLT, reduceCtorEq]
    refine ⟨fun h => ?_, fun h => absurd h (by omega)⟩
    refine (hE s p v tail (by omega) hpx hP (by simp [comps] at hs; omega)).mono fun w σ' ⟨r, Z, m, hw, hσ, ho⟩ => ?_
    subst hw; subst hσ
    try simp only [OpK_eq, take6, List.drop_zero, Int.cast_ofNat_Int, go_sem, ↓reduceIte, Nat.reduceEqDiff, Nat.reduceAdd, Nat.reduceMul, Nat.reduceLeDiff, Nat.reduceLT, Int.reduceLE, Int.reduceLT, reduceCtorEq]
    refine Kv.Fin.now ⟨r, Z, m, v, tail, rfl, rfl, hP, ho, fun _ => ?_⟩
    rcases hP with ⟨_, h, _⟩ | ⟨_, _, _, rfl⟩
    · rw [h] at hp; simp at hp; omega
    · rfl
  | succ d ihd =>
    intro p s v tail hp hpx hA hs hP
    have hlen := hP.len (.box [X s]) (.box (fcells a b v p f)) []
    rw [List.append_nil] at hlen
    refine e70 (by simp) fun _ _ => ?_
    simp only [k70, argEnv, HK_v, OpK_eq, hlen, fc_len, fc_0, fc_1, fc_2, fc_13, take6, List.drop_zero, Int.cast_ofNat_Int, go_sem, ↓reduceIte, Nat.reduceEqDiff, Nat.reduceAdd, Nat.reduceMul, Nat.reduceLeDiff, Nat.reduceLT, Int.reduceLE, Int.reduceLT, reduceCtorEq]
    refine ⟨fun h => absurd h (by omega), fun _ => ?_⟩
    refine KL_ind k70_b0.eq_1 (fun x : Nat × PV × Heap => [(0, .ptr 1 0), (29, .int .i64 a.length), (30, .int .i64 x.1)]) (fun x => .box [X (s + (cmpN a b d p x.1).length)] :: .box (fcells a b x.2.1 p f) :: x.2.2) (fun x => x.1 ≤ a.length ∧ Pp x.2.1 x.2.2 p ∧ (stop = false ∨ cmpN a b d p x.1 = [])) (fun x => a.length - x.1) [0, 29, 30] (0, v, tail) (by simp [keep]) (by simp [cmpN_zero]) ⟨Nat.zero_le _, hP, .inr (cmpN_zero ..)⟩ fun ⟨x, v, tail⟩ ⟨hx, hP, hcs⟩ ih => ?_
    simp only at hx hP hcs
    by_cases hxn : x < a.length
    · have hx10 : x < 10 := by omega
      have hsx := cmpN_succ a b d p x
      cases hmem : decide (x ∈ p) with
      | true =>
        have hm : x ∈ p := by simpa using hmem
        rw [fits_in hm] at hsx
        simp only [Bool.false_eq_true, if_false, List.append_nil] at hsx
        try simp only [HK_v, OpK_eq, fc_len, fc_0, fc_1, fc_2, fc_13, fc_u hx10, hmem, take6, List.drop_zero, Int.cast_ofNat_Int, go_sem, ↓reduceIte, Nat.reduceEqDiff, Nat.reduceAdd, Nat.reduceMul, Nat.reduceLeDiff, Nat.reduceLT, Int.reduceLE, Int.reduceLT, reduceCtorEq]
        refine ⟨fun _ => ⟨by omega, by omega, by omega, ih (x + 1, v, tail) ⟨(by omega : x + 1 ≤ a.length), hP, ?_⟩ (by show a.length - (x + 1) < a.length - x; omega) _ _ (by simp [keep]) (by simp [hsx])⟩, fun h => absurd h (by omega)⟩
        show stop = false ∨ cmpN a b d p (x + 1) = []
        rw [hsx]; exact hcs
      | false =>
        have hm : x ∉ p := by simpa using hmem
        try simp only [HK_v, OpK_eq, fc_len, fc_0, fc_1, fc_2, fc_13, fc_u hx10, hmem, fc_st hx10, fc_s2, take6, List.drop_zero, Int.cast_ofNat_Int, go_sem, ↓reduceIte, Nat.reduceEqDiff, Nat.reduceAdd, Nat.reduceMul, Nat.reduceLeDiff, Nat.reduceLT, Int.reduceLE, Int.reduceLT, reduceCtorEq]
        refine ⟨fun _ => ⟨by omega, by omega, by omega, by omega, hP.app (by omega) x _ _ fun ver => ?_⟩, fun h => absurd h (by omega)⟩
        clear hlen
        have hle := cmpN_le a b d p (x := x + 1) (y := a.length) (by omega)
        rw [cmpN_all] at hs
        have hst := hX (s + (cmpN a b d p x).length)
        have hsub : ((p.length + 1 : Nat) : Int) - 1 = p.length := by omega
        try simp only [HK_v, OpK_eq, fc_s2, take6, List.drop_zero, Int.cast_ofNat_Int, go_sem, ↓reduceIte, Nat.reduceEqDiff, Nat.reduceAdd, Nat.reduceMul, Nat.reduceLeDiff, Nat.reduceLT, Int.reduceLE, Int.reduceLT, reduceCtorEq]
        refine ⟨by simp, ?_⟩
        refine (p115 a b p x _ ha hb hab h10 (by omega) hpx hxn hA).lend (.cons (imm_fc (Z := X (s + (cmpN a b d p x).length)) (k := p.length + 1) (P := p ++ [x]) (by simp) (hXo _)) (.nil _)) ?_
        have hfo := fits_out (a := a) (b := b) hm
        cases hF : fitAB a b (p ++ [x]) with
        | false =>
          rw [hfo, hF] at hsx
          simp only [Bool.false_eq_true, if_false, List.append_nil] at hsx
          try simp only [HK_v, OpK_eq, fc_len, fc_0, fc_1, fc_2, fc_13, fc_sf hx10 hm, fc_s2, hsub, Nat.sub_zero, take6, List.drop_zero, Int.cast_ofNat_Int, go_sem, ↓reduceIte, Nat.reduceEqDiff, Nat.reduceAdd, Nat.reduceMul, Nat.reduceLeDiff, Nat.reduceLT, Int.reduceLE, Int.reduceLT, reduceCtorEq]
          refine ⟨by omega, by omega, by omega, by omega, by omega, ih (x + 1, .ref 2 ver 0 p.length, [.arr ver 2 1 (ints (toI (p ++ [x])))]) ⟨(by omega : x + 1 ≤ a.length), .inr ⟨ver, [(x : Int)], rfl, by simp [toI]⟩, ?_⟩ (by show a.length - (x + 1) < a.length - x; omega) _ _ (by simp [keep]) (by simp [hsx])⟩
          show stop = false ∨ cmpN a b d p (x + 1) = []
          rw [hsx]; exact hcs
        | true =>
          rw [hfo, hF, if_pos rfl] at hsx
          rw [hsx, List.length_append] at hle
          try simp only [HK_v, OpK_eq, take6, List.drop_zero, Int.cast_ofNat_Int, go_sem, ↓reduceIte, Nat.reduceEqDiff, Nat.reduceAdd, Nat.reduceMul, Nat.reduceLeDiff, Nat.reduceLT, Int.reduceLE, Int.reduceLT, reduceCtorEq]
          refine (ihd (p ++ [x]) (s + (cmpN a b d p x).length) (.ref 2 ver 0 (p.length + 1)) [.arr ver 2 1 (ints (toI (p ++ [x])))] (by simp; omega) (snoc_lt hpx hxn) (fitAB_iff.1 hF) (by omega) (.inr ⟨ver, [], by simp, by simp⟩)).mono fun w σ' ⟨r, Z, m, v', tail', hw, hσ, hP', ho, _⟩ => ?_
          subst hw; subst hσ
          rcases hP' with ⟨_, h, _⟩ | ⟨ver', rest, rfl, rfl⟩
          · simp at h
          simp only [List.length_append, List.length_cons, List.length_nil, Nat.zero_add]
          try simp only [HK_v, OpK_eq, fc_len, fc_0, fc_1, fc_2, fc_13, fc_sf hx10 hm, fc_s2, hsub, Nat.sub_zero, take6, List.drop_zero, Int.cast_ofNat_Int, go_sem, ↓reduceIte, Nat.reduceEqDiff, Nat.reduceAdd, Nat.reduceMul, Nat.reduceLeDiff, Nat.reduceLT, Int.reduceLE, Int.reduceLT, reduceCtorEq]
          have hP2 : Pp (.ref 2 ver' 0 p.length) [.arr ver' 2 1 (ints (toI (p ++ [x]) ++ rest))] p := .inr ⟨ver', (x : Int) :: rest, rfl, by simp [toI]⟩
          refine ⟨by omega, by omega, by omega, by omega, fun hr' => ?_, fun hr' => ⟨by omega, ?_⟩⟩
          · rcases ho with ⟨hst1, _, q, l, hc, hZ, hm'⟩ | ⟨_, hr, _, _⟩
            · have h0 : cmpN a b d p x = [] := by
                rcases hcs with h | h
                · rw [h] at hst1; cases hst1
                · exact h
              obtain ⟨more, hmore⟩ := cmpN_pre a b d p (x := x + 1) (y := a.length) (by omega)
              refine Kv.Fin.now ⟨false, Z, m, _, _, rfl, rfl, hP2, .inl ⟨hst1, rfl, q, l ++ more, ?_, hZ, hm'⟩, fun _ => rfl⟩
              rw [cmpN_all, hmore, hsx, h0, hc]; rfl
            · rw [hr] at hr'; cases hr'
          · rcases ho with ⟨_, hr, _⟩ | ⟨hc, _, hZ, hm'⟩
            · rw [hr] at hr'; cases hr'
            · subst hZ; subst hm'
              refine ih (x + 1, .ref 2 ver' 0 p.length, [.arr ver' 2 1 (ints (toI (p ++ [x]) ++ rest))]) ⟨(by omega : x + 1 ≤ a.length), hP2, ?_⟩ (by show a.length - (x + 1) < a.length - x; omega) _ _ (by simp [keep]) (by simp [hsx, Nat.add_assoc])
              show stop = false ∨ cmpN a b d p (x + 1) = []
              rcases hcs with h | h
              · exact .inl h
              · rcases hc with h' | h'
                · exact .inl h'
                · right; rw [hsx, h, h']; rfl
    · obtain rfl : x = a.length := by omega
      try simp only [take6, List.drop_zero, Int.cast_ofNat_Int, go_sem, ↓reduceIte, Nat.reduceEqDiff, Nat.reduceAdd, Nat.reduceMul, Nat.reduceLeDiff, Nat.reduceLT, Int.reduceLE, Int.reduceLT, reduceCtorEq]
      refine ⟨fun h => absurd h (by omega), fun _ => Kv.Fin.now ⟨true, _, [], v, tail, rfl, by rw [List.append_nil], hP, .inr ⟨?_, rfl, by rw [cmpN_all], rfl⟩, fun h => by cases h⟩⟩
      rw [cmpN_all]; exact hcs
end Go.Proofs.Ytkljidghocnllaa
