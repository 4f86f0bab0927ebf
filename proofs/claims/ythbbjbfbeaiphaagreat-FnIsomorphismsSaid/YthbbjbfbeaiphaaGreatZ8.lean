/- Several texts of this session as one, less what the claim does not need. -/
import Derived.Test.YthbbjbfbeaiphaaGreatCb
import Derived.Test.YthbbjbfbeaiphaaGreatZ7
import Derived.RangeFuncBox
import Derived.RangeFuncLeaves
import Derived.Shelf.Abstract
import Derived.WalkKit
import Derived.OwnWalkIn
import Derived.TacticsInMore
import Derived.LoopNIn
import Derived.LoopIn
import Derived.Maps.AppendAt
import Derived.Test.YthbbjbfbeaiphaaGreatProg
import Derived.Shelf.SortM.Plain
import Derived.Shelf.SortM.SortNone
import Derived.Shelf.SlGeneric
import Derived.Ground.SlgmProg
import Derived.Test.YthbbjbfbeaiphaaGreatG1
import Derived.Test.YthbbjbfbeaiphaaGreatFC
import Derived.Test.YthbbjbfbeaiphaaGreatG2
section
/- The search of the finder. -/
namespace Go.Proofs.YthbbjbfbeaiphaaGreat
open Go.Kv
set_option maxRecDepth 100000
def k52_b0 : KC := (.seq (.ops [oP 31 (.bin .lss (.t 30) (.t 29))])
  (.seq (.cond (.t 31) .skip (.exit 0))
  (.seq (.block 1 (.seq (.ops [mV 32 30, mV 3 32])
  (.seq (.seq (.ops [mV 33 0, mV 34 3, oP 35 (.nilck (.t 33)), oP 36 (.fieldA 3 (.t 35)), oP 37 (.idxA 10 1 (.t 36) (.t 34)), oP 38 (.load false 1 (.t 37))])
  (.cond (.t 38) (.exit 1) .skip))
  (.seq (.ops [mV 39 0, mV 40 3, oP 41 (.nilck (.t 39)), oP 42 (.fieldA 3 (.t 41)), oP 43 (.idxA 10 1 (.t 42) (.t 40)), ⟨none, none, .store 1 (.t 43) (.c (.bool true))⟩])
  (.seq (.ops [mV 44 0, mV 45 0, oP 46 (.nilck (.t 45)), oP 47 (.fieldA 2 (.t 46)), oP 48 (.load false 1 (.t 47)), mV 49 3, oP 50 (.bsl true 2 1 [(.t 49)]), oP 51 (.app (.t 48) (.t 50) 2 1), oP 52 (.nilck (.t 44)), oP 53 (.fieldA 2 (.t 52)), ⟨none, none, .store 1 (.t 53) (.t 51)⟩])
  (.seq (.ops [mV 54 0, oP 55 (.call (fC 125) [(.t 54)]), oP 56 (.not (.t 55)), mV 57 56, ⟨(some 58), some (57, false), .mv (.t 0)⟩, ⟨(some 59), some (57, false), .call (fC 52) [(.t 58)]⟩, oP 60 (.pick (.t 57) (.c (.bool true)) (.t 59)), mV 4 60])
  (.seq (.draw [mV 61 0, mV 62 0, oP 63 (.nilck (.t 62)), oP 64 (.fieldA 2 (.t 63)), oP 65 (.load false 1 (.t 64)), mV 66 0, oP 67 (.nilck (.t 66)), oP 68 (.fieldA 2 (.t 67)), oP 69 (.load false 1 (.t 68)), oP 70 (.len false (.t 69)), oP 71 (.bin .sub (.t 70) (iC 1)), oP 72 (.sls 1 (.t 65) none (some (.t 71))), oP 73 (.nilck (.t 61)), oP 74 (.fieldA 2 (.t 73)), ⟨none, none, .store 1 (.t 74) (.t 72)⟩])
  (.seq (.ops [mV 75 0, mV 76 3, oP 77 (.nilck (.t 75)), oP 78 (.fieldA 3 (.t 77)), oP 79 (.idxA 10 1 (.t 78) (.t 76)), ⟨none, none, .store 1 (.t 79) (.c (.bool false))⟩])
  (.seq (.ops [mV 80 4, oP 81 (.not (.t 80))])
  (.cond (.t 81) (.seq (.ops [oP 2 (.mv (.c (.bool false)))])
  .ret) .skip))))))))))
  (.ops [oP 82 (.bin .add (.t 30) (iC 1)), mV 30 82]))))
def k52 : KC := (.seq (.ops [oP 2 (.mv (.c (.bool false)))])
  (.seq (.seq (.draw [mV 5 0, oP 6 (.nilck (.t 5)), oP 7 (.fieldA 2 (.t 6)), oP 8 (.load false 1 (.t 7)), oP 9 (.len false (.t 8)), mV 10 0, oP 11 (.nilck (.t 10)), oP 12 (.fieldA 0 (.t 11)), oP 13 (.load false 1 (.t 12)), oP 14 (.len false (.t 13)), oP 15 (.bin .eql (.t 9) (.t 14))])
  (.cond (.t 15) (.seq (.draw [mV 16 0, oP 17 (.nilck (.t 16)), oP 18 (.fieldA 13 (.t 17)), oP 19 (.load false 1 (.t 18)), mV 20 0, oP 21 (.nilck (.t 20)), oP 22 (.fieldA 2 (.t 21)), oP 23 (.load false 1 (.t 22)), oP 24 (.call (.t 19) [(.t 23)]), mV 2 24])
  .ret) .skip))
  (.seq (.seq (.ops [mV 25 0, oP 26 (.nilck (.t 25)), oP 27 (.fieldA 0 (.t 26)), oP 28 (.load false 1 (.t 27)), oP 29 (.len false (.t 28)), oP 30 (.mv (iC 0))])
  (.block 0 (.loop k52_b0)))
  (.seq (.ops [oP 2 (.mv (.c (.bool true)))])
  .ret))))
theorem e52 : Ent 52 83 [50] [.t 2] k52 := ent Tryz.func52 (by kernel_rfl) (by kernel_rfl) (by kernel_rfl) (fun _ => by kernel_rfl) (by kernel_rfl)
def k65 : KC := (.seq (.ops [oP 3 (.mv (.c (.bool false)))])
  (.seq (.ops [oP 4 (.load false 1 (.t 1)), oP 5 (.bin .add (.t 4) (iC 1)), ⟨none, none, .store 1 (.t 1) (.t 5)⟩])
  (.seq (.ops [oP 3 (.mv (.c (.bool true)))])
  .ret)))
theorem e65 : Ent 65 6 [] [.t 3] k65 := ent Tryz.func65 (by kernel_rfl) (by kernel_rfl) (by kernel_rfl) (fun _ => by kernel_rfl) (by kernel_rfl)
end Go.Proofs.YthbbjbfbeaiphaaGreat
namespace Go.Proofs.YthbbjbfbeaiphaaGreat
open Go.Kv
set_option linter.unusedVariables false
set_option linter.unusedSimpArgs false
attribute [local irreducible] ACall PCall KL
def usedOf (p : List Nat) : List PV := (List.range 10).map fun i => PV.bool (decide (i ∈ p))
def fcells (a b : List (List Int)) (v : PV) (p : List Nat) (f : Nat) : List PV := .list (rows a) :: .list (rows b) :: v :: (usedOf p ++ [.fn (.func f) [] [.ptr 0 0]])
section
variable {a b : List (List Int)} {v : PV} {p : List Nat} {f : Nat}
@[simp] theorem usedOf_length (p : List Nat) : (usedOf p).length = 10 := by simp [usedOf]
theorem usedOf_get {q : Nat} (h : q < 10) : (usedOf p)[q]? = some (.bool (decide (q ∈ p))) := by simp [usedOf, h]
@[simp] theorem fc_len : (fcells a b v p f).length = 14 := by simp [fcells]
@[simp] theorem fc_0 : (fcells a b v p f)[0]? = some (.list (rows a)) := rfl
@[simp] theorem fc_1 : (fcells a b v p f)[1]? = some (.list (rows b)) := rfl
@[simp] theorem fc_2 : (fcells a b v p f)[2]? = some v := rfl
@[simp] theorem fc_13 : (fcells a b v p f)[13]? = some (.fn (.func f) [] [.ptr 0 0]) := by
  show (usedOf p ++ [PV.fn (.func f) [] [.ptr 0 0]])[10]? = _
  rw [List.getElem?_append_right (by simp)]; simp
theorem fc_u {q : Nat} (h : q < 10) : (fcells a b v p f)[q + 3]? = some (.bool (decide (q ∈ p))) := by
  show (usedOf p ++ [PV.fn (.func f) [] [.ptr 0 0]])[q]? = _
  rw [List.getElem?_append_left (by simpa using h), usedOf_get h]
@[simp] theorem fc_s2 (v' : PV) : (fcells a b v p f).set 2 v' = fcells a b v' p f := rfl
theorem fc_st {q : Nat} (h : q < 10) : (fcells a b v p f).set (q + 3) (.bool true) = fcells a b v (p ++ [q]) f := by
  show _ :: _ :: _ :: ((usedOf p ++ [PV.fn (.func f) [] [.ptr 0 0]]).set q (.bool true)) = _
  rw [List.set_append_left _ _ (by simpa using h)]
  unfold fcells
  congr 4
  apply List.ext_getElem?
  intro i
  by_cases hi : i < 10
  · rw [usedOf_get hi]
    by_cases e : q = i
    · subst e; rw [List.getElem?_set_self (by simpa using h)]; simp
    · rw [List.getElem?_set_ne e, usedOf_get hi]
      have : (i ∈ p ++ [q]) ↔ i ∈ p := by simp; exact fun h => absurd h.symm e
      simp [Ne.symm e]
  · rw [List.getElem?_eq_none (by simp; omega), List.getElem?_eq_none (by simp; omega)]
theorem fc_sf {q : Nat} (h : q < 10) (hq : q ∉ p) : (fcells a b v (p ++ [q]) f).set (q + 3) (.bool false) = fcells a b v p f := by
  show _ :: _ :: _ :: ((usedOf (p ++ [q]) ++ [PV.fn (.func f) [] [.ptr 0 0]]).set q (.bool false)) = _
  rw [List.set_append_left _ _ (by simpa using h)]
  unfold fcells
  congr 4
  apply List.ext_getElem?
  intro i
  by_cases hi : i < 10
  · rw [usedOf_get hi]
    by_cases e : q = i
    · subst e; rw [List.getElem?_set_self (by simpa using h)]; simp [hq]
    · rw [List.getElem?_set_ne e, usedOf_get hi]
      simp [Ne.symm e]
  · rw [List.getElem?_eq_none (by simp; omega), List.getElem?_eq_none (by simp; omega)]
end
/-- What is led so far, as it lies in the heap. -/
def Pp (v : PV) (tail : Heap) (p : List Nat) : Prop := (v = .nils ∧ p = [] ∧ tail = []) ∨ ∃ (ver : Nat) (rest : List Int), v = .ref 2 ver 0 p.length ∧ tail = [.arr ver 2 1 (ints (toI p ++ rest))]
theorem Pp.len {v : PV} {tail : Heap} {p : List Nat} (h : Pp v tail p) (A B : AObj) (m : Heap) (K : PV → Prop) : aLen v (A :: B :: (tail ++ m)) K = K (.int .i64 p.length) := by
  rcases h with ⟨rfl, rfl, rfl⟩ | ⟨ver, rest, rfl, rfl⟩
  · rfl
  · simp [aLen]
theorem Pp.app {v : PV} {tail : Heap} {p : List Nat} (h : Pp v tail p) (hl : p.length ≤ 10) (q : Nat) (A B : AObj) {K : PV → Heap → Prop} (hK : ∀ ver, K (.ref 2 ver 0 (p.length + 1)) [A, B, .arr ver 2 1 (ints (toI (p ++ [q])))]) : aApp 2 1 v (.list [.int .i64 q]) (A :: B :: tail) K := by
  have hok : okL 1 [PV.int .i64 q] = True := by simp [okL, PV.cs, PV.ok]
  have he : ∀ p : List Nat, toI (p ++ [q]) = toI p ++ [(q : Int)] := fun p => by simp [toI]
  rcases h with ⟨rfl, rfl, rfl⟩ | ⟨ver, rest, rfl, rfl⟩
  · simp only [aApp_nils, aNews_list, hok, true_and, AppN_def]
    refine ⟨by simp, ?_⟩
    have := hK 0
    simpa [toI, ints] using this
  · have h0 : (A :: B :: [AObj.arr ver 2 1 (ints (toI p ++ rest))])[2]? = some (.arr ver 2 1 (ints (toI p ++ rest))) := rfl
    simp only [aApp_ref, h0, AppR_arr, aNews_list, hok, true_and, AppM_def]
    refine ⟨⟨by simp [ints_length], by simp; omega⟩, ?_⟩
    have := hK (ver + 1)
    have h1 : (ints (toI p ++ rest)).take p.length = ints (toI p) := by
      rw [ints_take]; congr 1
      rw [List.take_append_of_le_length (by simp), List.take_of_length_le (by simp)]
    rw [h1]
    simpa [he, ints] using this
theorem HK_v (σ : Heap) (K : PV → Heap → Prop) (v : PV) : HK σ K v = K v σ := rfl
/-- The ways in which the search ends. -/
def Out (stop : Bool) (X : Nat → PV) (Y : List Nat → PV) (M : List Nat → Heap) (cs : List (List Nat)) (s : Nat) (r : Bool) (Z : PV) (m : Heap) : Prop :=
  (stop = true ∧ r = false ∧ ∃ q l, cs = q :: l ∧ Z = Y q ∧ m = M q) ∨ ((stop = false ∨ cs = []) ∧ r = true ∧ Z = X (s + cs.length) ∧ m = [])
def Each (a b : List (List Int)) (f : Nat) (stop : Bool) (X : Nat → PV) (Y : List Nat → PV) (M : List Nat → Heap) : Prop :=
  ∀ (s : Nat) (p : List Nat) (v : PV) (tail : Heap), p.length = a.length → (∀ i, i < p.length → p.getD i 0 < a.length) → Pp v tail p → s ≤ 100000000000 →
    ACall Tryz.prog f [v, .ptr 0 0] (.box [X s] :: .box (fcells a b v p f) :: tail) (fun w σ' => ∃ r Z m, w = .bool r ∧ σ' = .box [Z] :: .box (fcells a b v p f) :: (tail ++ m) ∧ Out stop X Y M [p] s r Z m)
theorem ImmL.append {σ : Heap} {cs ds cs' ds' : List PV} (h : ImmL σ cs ds) (h' : ImmL σ cs' ds') : ImmL σ (cs ++ cs') (ds ++ ds') := by
  refine ⟨by simp [h.1, h'.1], fun i c d hc hd => ?_⟩
  rw [List.getElem?_append] at hc hd
  rw [← h.1] at hd
  split at hc
  · rename_i hi; rw [if_pos hi] at hd; exact h.2 _ _ _ hc hd
  · rename_i hi; rw [if_neg hi] at hd; exact h'.2 _ _ _ hc hd
theorem imm_fc {a b : List (List Int)} {Z : PV} [Still Z] {p P : List Nat} {f ver k : Nat} (hk : k = P.length) (hZ : Z.ok = true) :
    Imm [.box [Z], .box (fcells a b (.ref 2 ver 0 k) p f), .arr ver 2 1 (ints (toI P))] (.ptr 1 0) (.fptr (.list (rows a) :: .list (rows b) :: .list (ints (toI P)) :: (usedOf p ++ [.fn (.func f) [] [.fptr [Z] 0]])) 0) := by
  subst hk
  have hu : StillL (usedOf p) := ⟨fun c hc => by
    simp only [usedOf, List.mem_map] at hc
    obtain ⟨i, _, rfl⟩ := hc
    infer_instance⟩
  have hl : ImmL [.box [Z], .box (fcells a b (.ref 2 ver 0 P.length) p f), .arr ver 2 1 (ints (toI P))] (fcells a b (.ref 2 ver 0 P.length) p f) (.list (rows a) :: .list (rows b) :: .list (ints (toI P)) :: (usedOf p ++ [.fn (.func f) [] [.fptr [Z] 0]])) := by
    refine .cons Imm.still (.cons Imm.still (.cons (Imm.refn rfl (by simp)) (ImmL.append (.still hu) (.cons (Imm.fnc _ (.cons ?_ (.nil _))) (.nil _)))))
    exact .ptr 0 0 [Z] [Z] rfl rfl (by simp [hZ]) (ImmL.cons Imm.still (.nil _)).2
  refine .ptr 1 0 _ _ rfl hl.1 ?_ hl.2
  simp [usedOf, PV.ok]
theorem cmpN_le (a b : List (List Int)) (d : Nat) (p : List Nat) {x y : Nat} (h : x ≤ y) : (cmpN a b d p x).length ≤ (cmpN a b d p y).length := by
  induction h with
  | refl => exact Nat.le_refl _
  | step _ ih => rw [cmpN_succ, List.length_append]; omega
theorem cmpN_pre (a b : List (List Int)) (d : Nat) (p : List Nat) {x y : Nat} (h : x ≤ y) : ∃ m, cmpN a b d p y = cmpN a b d p x ++ m := by
  induction h with
  | refl => exact ⟨[], by simp⟩
  | step _ ih =>
    obtain ⟨m, ih⟩ := ih
    exact ⟨m ++ _, by rw [cmpN_succ, ih, List.append_assoc]⟩
set_option maxRecDepth 100000 in
theorem p52 (a b : List (List Int)) (ha : isTab a = true) (hb : isTab b = true) (hab : b.length = a.length) (h10 : a.length ≤ 10) (f : Nat) (stop : Bool) (X : Nat → PV) (Y : List Nat → PV) (M : List Nat → Heap) (hX : ∀ s, Still (X s)) (hXo : ∀ s, (X s).ok = true) (hE : Each a b f stop X Y M) :
    ∀ (d : Nat) (p : List Nat) (s : Nat) (v : PV) (tail : Heap), p.length + d = a.length → (∀ i, i < p.length → p.getD i 0 < a.length) → fitA a b p → s + (comps a b d p).length ≤ 100000000000 → Pp v tail p →
      ACall Tryz.prog 52 [.ptr 1 0] (.box [X s] :: .box (fcells a b v p f) :: tail) (fun w σ' => ∃ r Z m v' tail', w = .bool r ∧ σ' = .box [Z] :: .box (fcells a b v' p f) :: (tail' ++ m) ∧ Pp v' tail' p ∧ Out stop X Y M (comps a b d p) s r Z m ∧ (r = false → tail'.length = 1)) := by
  obtain ⟨hna, hsa⟩ := tab_sq ha
  intro d
  induction d with
  | zero =>
    intro p s v tail hp hpx hA hs hP
    have hlen := hP.len (.box [X s]) (.box (fcells a b v p f)) []
    rw [List.append_nil] at hlen
    refine e52 (by simp) fun _ _ => ?_
    simp only [k52, argEnv, HK_v, OpK_eq, hlen, fc_len, fc_0, fc_1, fc_2, fc_13, take6, List.drop_zero, Int.cast_ofNat_Int, go_sem, ↓reduceIte, Nat.reduceEqDiff, Nat.reduceAdd, Nat.reduceMul, Nat.reduceLeDiff, Nat.reduceLT, Int.reduceLE, Int.reduceLT, reduceCtorEq]
    refine ⟨fun h => ?_, fun h => absurd h (by omega)⟩
    refine (hE s p v tail (by omega) hpx hP (by simp [comps] at hs; omega)).mono fun w σ' ⟨r, Z, m, hw, hσ, ho⟩ => ?_
    subst hw; subst hσ
    try simp only [OpK_eq, take6, List.drop_zero, Int.cast_ofNat_Int, go_sem, ↓reduceIte, Nat.reduceEqDiff, Nat.reduceAdd, Nat.reduceMul, Nat.reduceLeDiff, Nat.reduceLT, Int.reduceLE, Int.reduceLT, reduceCtorEq]
    refine Kv.Fin.now ⟨r, Z, m, v, tail, rfl, rfl, hP, ho, fun _ => ?_⟩
    rcases hP with ⟨_, h, _⟩ | ⟨_, _, _, rfl⟩
    · rw [h] at hp; simp at hp; omega
    · rfl
  | succ d ihd =>
    intro p s v tail hp hpx hA hs hP
    have hlen := hP.len (.box [X s]) (.box (fcells a b v p f)) []
    rw [List.append_nil] at hlen
    refine e52 (by simp) fun _ _ => ?_
    simp only [k52, argEnv, HK_v, OpK_eq, hlen, fc_len, fc_0, fc_1, fc_2, fc_13, take6, List.drop_zero, Int.cast_ofNat_Int, go_sem, ↓reduceIte, Nat.reduceEqDiff, Nat.reduceAdd, Nat.reduceMul, Nat.reduceLeDiff, Nat.reduceLT, Int.reduceLE, Int.reduceLT, reduceCtorEq]
    refine ⟨fun h => absurd h (by omega), fun _ => ?_⟩
    refine KL_ind k52_b0.eq_1 (fun x : Nat × PV × Heap => [(0, .ptr 1 0), (29, .int .i64 a.length), (30, .int .i64 x.1)]) (fun x => .box [X (s + (cmpN a b d p x.1).length)] :: .box (fcells a b x.2.1 p f) :: x.2.2) (fun x => x.1 ≤ a.length ∧ Pp x.2.1 x.2.2 p ∧ (stop = false ∨ cmpN a b d p x.1 = [])) (fun x => a.length - x.1) [0, 29, 30] (0, v, tail) (by simp [keep]) (by simp [cmpN_zero]) ⟨Nat.zero_le _, hP, .inr (cmpN_zero ..)⟩ fun ⟨x, v, tail⟩ ⟨hx, hP, hcs⟩ ih => ?_
    simp only at hx hP hcs
    by_cases hxn : x < a.length
    · have hx10 : x < 10 := by omega
      have hsx := cmpN_succ a b d p x
      cases hmem : decide (x ∈ p) with
      | true =>
        have hm : x ∈ p := by simpa using hmem
        rw [fits_in hm] at hsx
        simp only [Bool.false_eq_true, if_false, List.append_nil] at hsx
        try simp only [HK_v, OpK_eq, fc_len, fc_0, fc_1, fc_2, fc_13, fc_u hx10, hmem, take6, List.drop_zero, Int.cast_ofNat_Int, go_sem, ↓reduceIte, Nat.reduceEqDiff, Nat.reduceAdd, Nat.reduceMul, Nat.reduceLeDiff, Nat.reduceLT, Int.reduceLE, Int.reduceLT, reduceCtorEq]
        refine ⟨fun _ => ⟨by omega, by omega, by omega, ih (x + 1, v, tail) ⟨(by omega : x + 1 ≤ a.length), hP, ?_⟩ (by show a.length - (x + 1) < a.length - x; omega) _ _ (by simp [keep]) (by simp [hsx])⟩, fun h => absurd h (by omega)⟩
        show stop = false ∨ cmpN a b d p (x + 1) = []
        rw [hsx]; exact hcs
      | false =>
        have hm : x ∉ p := by simpa using hmem
        try simp only [HK_v, OpK_eq, fc_len, fc_0, fc_1, fc_2, fc_13, fc_u hx10, hmem, fc_st hx10, fc_s2, take6, List.drop_zero, Int.cast_ofNat_Int, go_sem, ↓reduceIte, Nat.reduceEqDiff, Nat.reduceAdd, Nat.reduceMul, Nat.reduceLeDiff, Nat.reduceLT, Int.reduceLE, Int.reduceLT, reduceCtorEq]
        refine ⟨fun _ => ⟨by omega, by omega, by omega, by omega, hP.app (by omega) x _ _ fun ver => ?_⟩, fun h => absurd h (by omega)⟩
        clear hlen
        have hle := cmpN_le a b d p (x := x + 1) (y := a.length) (by omega)
        rw [cmpN_all] at hs
        have hst := hX (s + (cmpN a b d p x).length)
        have hsub : ((p.length + 1 : Nat) : Int) - 1 = p.length := by omega
        try simp only [HK_v, OpK_eq, fc_s2, take6, List.drop_zero, Int.cast_ofNat_Int, go_sem, ↓reduceIte, Nat.reduceEqDiff, Nat.reduceAdd, Nat.reduceMul, Nat.reduceLeDiff, Nat.reduceLT, Int.reduceLE, Int.reduceLT, reduceCtorEq]
        refine ⟨by simp, ?_⟩
        refine (p125 a b p x _ ha hb hab h10 (by omega) hpx hxn hA).lend (.cons (imm_fc (Z := X (s + (cmpN a b d p x).length)) (k := p.length + 1) (P := p ++ [x]) (by simp) (hXo _)) (.nil _)) ?_
        have hfo := fits_out (a := a) (b := b) hm
        cases hF : fitAB a b (p ++ [x]) with
        | false =>
          rw [hfo, hF] at hsx
          simp only [Bool.false_eq_true, if_false, List.append_nil] at hsx
          try simp only [HK_v, OpK_eq, fc_len, fc_0, fc_1, fc_2, fc_13, fc_sf hx10 hm, fc_s2, hsub, Nat.sub_zero, take6, List.drop_zero, Int.cast_ofNat_Int, go_sem, ↓reduceIte, Nat.reduceEqDiff, Nat.reduceAdd, Nat.reduceMul, Nat.reduceLeDiff, Nat.reduceLT, Int.reduceLE, Int.reduceLT, reduceCtorEq]
          refine ⟨by omega, by omega, by omega, by omega, by omega, ih (x + 1, .ref 2 ver 0 p.length, [.arr ver 2 1 (ints (toI (p ++ [x])))]) ⟨(by omega : x + 1 ≤ a.length), .inr ⟨ver, [(x : Int)], rfl, by simp [toI]⟩, ?_⟩ (by show a.length - (x + 1) < a.length - x; omega) _ _ (by simp [keep]) (by simp [hsx])⟩
          show stop = false ∨ cmpN a b d p (x + 1) = []
          rw [hsx]; exact hcs
        | true =>
          rw [hfo, hF, if_pos rfl] at hsx
          rw [hsx, List.length_append] at hle
          try simp only [HK_v, OpK_eq, take6, List.drop_zero, Int.cast_ofNat_Int, go_sem, ↓reduceIte, Nat.reduceEqDiff, Nat.reduceAdd, Nat.reduceMul, Nat.reduceLeDiff, Nat.reduceLT, Int.reduceLE, Int.reduceLT, reduceCtorEq]
          refine (ihd (p ++ [x]) (s + (cmpN a b d p x).length) (.ref 2 ver 0 (p.length + 1)) [.arr ver 2 1 (ints (toI (p ++ [x])))] (by simp; omega) (snoc_lt hpx hxn) (fitAB_iff.1 hF) (by omega) (.inr ⟨ver, [], by simp, by simp⟩)).mono fun w σ' ⟨r, Z, m, v', tail', hw, hσ, hP', ho, _⟩ => ?_
          subst hw; subst hσ
          rcases hP' with ⟨_, h, _⟩ | ⟨ver', rest, rfl, rfl⟩
          · simp at h
          simp only [List.length_append, List.length_cons, List.length_nil, Nat.zero_add]
          try simp only [HK_v, OpK_eq, fc_len, fc_0, fc_1, fc_2, fc_13, fc_sf hx10 hm, fc_s2, hsub, Nat.sub_zero, take6, List.drop_zero, Int.cast_ofNat_Int, go_sem, ↓reduceIte, Nat.reduceEqDiff, Nat.reduceAdd, Nat.reduceMul, Nat.reduceLeDiff, Nat.reduceLT, Int.reduceLE, Int.reduceLT, reduceCtorEq]
          have hP2 : Pp (.ref 2 ver' 0 p.length) [.arr ver' 2 1 (ints (toI (p ++ [x]) ++ rest))] p := .inr ⟨ver', (x : Int) :: rest, rfl, by simp [toI]⟩
          refine ⟨by omega, by omega, by omega, by omega, fun hr' => ?_, fun hr' => ⟨by omega, ?_⟩⟩
          · rcases ho with ⟨hst1, _, q, l, hc, hZ, hm'⟩ | ⟨_, hr, _, _⟩
            · have h0 : cmpN a b d p x = [] := by
                rcases hcs with h | h
                · rw [h] at hst1; cases hst1
                · exact h
              obtain ⟨more, hmore⟩ := cmpN_pre a b d p (x := x + 1) (y := a.length) (by omega)
              refine Kv.Fin.now ⟨false, Z, m, _, _, rfl, rfl, hP2, .inl ⟨hst1, rfl, q, l ++ more, ?_, hZ, hm'⟩, fun _ => rfl⟩
              rw [cmpN_all, hmore, hsx, h0, hc]; rfl
            · rw [hr] at hr'; cases hr'
          · rcases ho with ⟨_, hr, _⟩ | ⟨hc, _, hZ, hm'⟩
            · rw [hr] at hr'; cases hr'
            · subst hZ; subst hm'
              refine ih (x + 1, .ref 2 ver' 0 p.length, [.arr ver' 2 1 (ints (toI (p ++ [x]) ++ rest))]) ⟨(by omega : x + 1 ≤ a.length), hP2, ?_⟩ (by show a.length - (x + 1) < a.length - x; omega) _ _ (by simp [keep]) (by simp [hsx, Nat.add_assoc])
              show stop = false ∨ cmpN a b d p (x + 1) = []
              rcases hcs with h | h
              · exact .inl h
              · rcases hc with h' | h'
                · exact .inl h'
                · right; rw [hsx, h, h']; rfl
    · obtain rfl : x = a.length := by omega
      try simp only [take6, List.drop_zero, Int.cast_ofNat_Int, go_sem, ↓reduceIte, Nat.reduceEqDiff, Nat.reduceAdd, Nat.reduceMul, Nat.reduceLeDiff, Nat.reduceLT, Int.reduceLE, Int.reduceLT, reduceCtorEq]
      refine ⟨fun h => absurd h (by omega), fun _ => Kv.Fin.now ⟨true, _, [], v, tail, rfl, by rw [List.append_nil], hP, .inr ⟨?_, rfl, by rw [cmpN_all], rfl⟩, fun h => by cases h⟩⟩
      rw [cmpN_all]; exact hcs
end Go.Proofs.YthbbjbfbeaiphaaGreat
end
section
/- CountTableSymmetries: the implementation's side. -/
namespace Go.Proofs.YthbbjbfbeaiphaaGreat
open Go.Kv
set_option maxRecDepth 100000
def k14 : KC := (.seq (.ops [oP 2 (.mv (iC 0)), oP 3 (.mv (iC 0))])
  (.seq (.block 0 (.seq (.ops [mV 7 0, oP 8 (.call (fC 49) [(.t 7)]), oP 9 (.not (.t 8)), mV 6 9])
  (.cond (.t 6) (.seq (.ops [oP 2 (.mv (iC 0)), oP 3 (.mv (iC 2))])
  .ret) (.seq (.ops [mV 11 0, oP 12 (.len false (.t 11)), oP 13 (.bin .gtr (.t 12) (iC 10)), mV 10 13])
  (.cond (.t 10) (.seq (.ops [oP 2 (.mv (iC 0)), oP 3 (.mv (iC 3))])
  .ret) .skip)))))
  (.seq (.ops [oP 4 (.alloc [.int .i64 0]), ⟨none, none, .store 1 (.t 4) (iC 0)⟩])
  (.seq (.ops [mV 14 0, mV 15 0, oP 16 (.mkfn (.func 65) [] [(.t 4)]), oP 17 (.build [.nils, .nils, .nils, .bool false, .bool false, .bool false, .bool false, .bool false, .bool false, .bool false, .bool false, .bool false, .bool false, .nilf] [(0, 1, (.t 14)), (1, 1, (.t 15)), (13, 1, (.t 16))]), oP 18 (.box false (.t 17)), mV 5 18])
  (.seq (.ops [mV 19 5, oP 20 (.call (fC 52) [(.t 19)])])
  (.seq (.ops [oP 21 (.load false 1 (.t 4)), mV 2 21, oP 3 (.mv (iC 0))])
  .ret))))))
theorem e14 : Ent 14 22 [] [.t 2, .t 3] k14 := ent Tryz.func14 (by kernel_rfl) (by kernel_rfl) (by kernel_rfl) (fun _ => by kernel_rfl) (by kernel_rfl)
end Go.Proofs.YthbbjbfbeaiphaaGreat
namespace Go.Proofs.YthbbjbfbeaiphaaGreat
open Go.Kv
set_option linter.unusedVariables false
set_option linter.unusedSimpArgs false
attribute [local irreducible] ACall PCall KL
theorem p65 (a b : List (List Int)) : Each a b 65 false (fun s : Nat => .int .i64 s) (fun _ => .nils) (fun _ => []) := fun s p v tail hp hpx hP hs => by
  refine e65 (by simp) fun _ _ => ?_
  simp only [k65, argEnv, take6, List.drop_zero, Int.cast_ofNat_Int, go_sem, ↓reduceIte, Nat.reduceEqDiff, Nat.reduceAdd, Nat.reduceMul, Nat.reduceLeDiff, Nat.reduceLT, Int.reduceLE, Int.reduceLT, reduceCtorEq]
  refine ⟨by omega, Kv.Fin.now ⟨true, .int .i64 (s + 1 : Nat), [], rfl, by simp, .inr ⟨.inl rfl, rfl, rfl, rfl⟩⟩⟩
theorem fc_new (a b : List (List Int)) (f : Nat) : fcells a b .nils [] f = [.list (rows a), .list (rows b), .nils, .bool false, .bool false, .bool false, .bool false, .bool false, .bool false, .bool false, .bool false, .bool false, .bool false, .fn (.func f) [] [.ptr 0 0]] := by
  simp [fcells, usedOf, List.range_succ]
theorem fitA_nil (a b : List (List Int)) : fitA a b [] := fun i k hi => by simp at hi
theorem syc_bound {a : List (List Int)} (h10 : a.length ≤ 10) : syc a a.length [] ≤ 100000000000 := by
  have h1 := (syc_le a a.length []).1
  have h2 : a.length ^ a.length ≤ 10 ^ a.length := Nat.pow_le_pow_left h10 _
  have h3 : 10 ^ a.length ≤ 10 ^ 10 := Nat.pow_le_pow_right (by omega) h10
  omega
theorem p14 (t : List (List Int)) (ht : t.length ≤ 1048576) (hl : ∀ r ∈ t, r.length ≤ 1048576) : Pure Tryz.prog 14 [.list (rows t)] (.tup [.int .i64 (if isTab t = true ∧ t.length ≤ 10 then (syc t t.length [] : Int) else 0), .int .i64 (if isTab t = false then 2 else if t.length ≤ 10 then 0 else 3)]) := by
  refine e14 (by simp) fun _ _ => ?_
  simp only [k14, argEnv, take6, List.drop_zero, Int.cast_ofNat_Int, go_sem, ↓reduceIte, Nat.reduceEqDiff, Nat.reduceAdd, Nat.reduceMul, Nat.reduceLeDiff, Nat.reduceLT, Int.reduceLE, Int.reduceLT, reduceCtorEq]
  refine (p49 t ht hl).go ?_
  cases hb : isTab t with
  | false =>
    try simp only [take6, List.drop_zero, Int.cast_ofNat_Int, go_sem, ↓reduceIte, Nat.reduceEqDiff, Nat.reduceAdd, Nat.reduceMul, Nat.reduceLeDiff, Nat.reduceLT, Int.reduceLE, Int.reduceLT, reduceCtorEq]
    exact Kv.Fin.still ⟨by simp, rfl⟩
  | true =>
    try simp only [take6, List.drop_zero, Int.cast_ofNat_Int, go_sem, ↓reduceIte, Nat.reduceEqDiff, Nat.reduceAdd, Nat.reduceMul, Nat.reduceLeDiff, Nat.reduceLT, Int.reduceLE, Int.reduceLT, reduceCtorEq]
    refine ⟨fun h1 => Kv.Fin.still ⟨?_, rfl⟩, fun h1 => ?_⟩
    · have h2 : ¬ t.length ≤ 10 := by omega
      simp [h2]
    · have h2 : t.length ≤ 10 := by omega
      rw [← fc_new]
      have hc := comps_syc t t.length []
      refine ⟨rfl, ?_⟩
      refine (p52 t t hb hb rfl h2 65 false (fun s : Nat => .int .i64 s) (fun _ => .nils) (fun _ => []) (fun _ => inferInstance) (fun _ => rfl) (p65 t t) t.length [] 0 .nils [] (by simp) (by simp) (fitA_nil t t) (by have := syc_bound h2; omega) (.inl ⟨rfl, rfl, rfl⟩)).mono fun w σ' ⟨r, Z, m, v', tail', hw, hσ, hP', ho, _⟩ => ?_
      subst hw; subst hσ
      rcases ho with ⟨h, _⟩ | ⟨_, hr, hZ, hm⟩
      · cases h
      subst hZ
      try simp only [OpK_eq, take6, List.drop_zero, Int.cast_ofNat_Int, go_sem, ↓reduceIte, Nat.reduceEqDiff, Nat.reduceAdd, Nat.reduceMul, Nat.reduceLeDiff, Nat.reduceLT, Int.reduceLE, Int.reduceLT, reduceCtorEq]
      exact Kv.Fin.still ⟨by simp [h2, hc.1], rfl⟩
end Go.Proofs.YthbbjbfbeaiphaaGreat
end
section
/- All partitions of few points: both sides. -/
namespace Go.Proofs.YthbbjbfbeaiphaaGreat
open Go.Kv
set_option maxRecDepth 100000
def k51 : KC := (.seq (.ops [oP 2 (.mv (.c (.nils)))])
  (.seq (.seq (.ops [mV 3 0, oP 4 (.isn false (.t 3))])
  (.cond (.t 4) (.seq (.ops [oP 2 (.mv (.c (.nils)))])
  .ret) .skip))
  (.seq (.ops [oP 5 (.bsl false 2 1 []), mV 6 0, oP 7 (.app (.t 5) (.t 6) 2 1), mV 2 7])
  .ret)))
theorem e51 : Ent 51 8 [] [.t 2] k51 := ent Tryz.func51 (by kernel_rfl) (by kernel_rfl) (by kernel_rfl) (fun _ => by kernel_rfl) (by kernel_rfl)
end Go.Proofs.YthbbjbfbeaiphaaGreat
namespace Go.Proofs.YthbbjbfbeaiphaaGreat
open Go.Kv
set_option linter.unusedVariables false
set_option linter.unusedSimpArgs false
attribute [local irreducible] ACall PCall KL
def ext (P : List Int) (k : Nat) : List (List Int) := (List.range k).map fun c : Nat => P ++ [(c : Int)]
@[simp] theorem ext_length (P : List Int) (k : Nat) : (ext P k).length = k := by simp [ext]
def okP (n : Nat) (P : List Int) : Bool := decide (P.length = n) && P.all (fun k => decide (0 ≤ k ∧ k ≤ 4)) && decide (P.length = 0 ∨ 0 ≤ mxl P) && decide (mxl P ≤ 4)
theorem HKv (σ : Heap) (K : PV → Heap → Prop) (v : PV) : HK σ K v = K v σ := rfl
/-- A copy of a slice of numbers. -/
theorem p51P (l : List Int) (hl : l.length ≤ 4294967296) : ACall Tryz.prog 51 [.list (ints l)] [] (fun v s => (v = .ref 0 1 0 l.length ∧ s = [.arr 1 2 1 (ints l)]) ∨ (l = [] ∧ v = .nils ∧ s = [])) := by
  cases l with
  | nil =>
    refine e51 (by simp) fun _ _ => ?_
    simp only [k51, argEnv, take6, List.drop_zero, Int.cast_ofNat_Int, go_sem, ↓reduceIte, Nat.reduceEqDiff, Nat.reduceAdd, Nat.reduceMul, Nat.reduceLeDiff, Nat.reduceLT, Int.reduceLE, Int.reduceLT, reduceCtorEq]
    have e : ∀ K : Bool → Prop, aIsn (.list (ints [])) K = (K true ∧ K false) := fun _ => rfl
    rw [e]
    exact ⟨⟨fun _ => Kv.Fin.now (.inr ⟨rfl, rfl⟩), fun h => by cases h⟩, ⟨fun h => (by cases h), fun _ => Kv.Fin.now (.inl ⟨rfl, rfl⟩)⟩⟩
  | cons x l =>
    refine e51 (by simp) fun _ _ => ?_
    simp only [k51, argEnv, take6, List.drop_zero, Int.cast_ofNat_Int, go_sem, ↓reduceIte, Nat.reduceEqDiff, Nat.reduceAdd, Nat.reduceMul, Nat.reduceLeDiff, Nat.reduceLT, Int.reduceLE, Int.reduceLT, reduceCtorEq]
    have e : ∀ K : Bool → Prop, aIsn (.list (ints (x :: l))) K = K false := fun _ => rfl
    rw [e]
    try simp only [take6, List.drop_zero, Int.cast_ofNat_Int, go_sem, ↓reduceIte, Nat.reduceEqDiff, Nat.reduceAdd, Nat.reduceMul, Nat.reduceLeDiff, Nat.reduceLT, Int.reduceLE, Int.reduceLT, reduceCtorEq]
    refine ⟨by simp at hl; omega, Kv.Fin.now (.inl ⟨rfl, ?_⟩)⟩
    simp
end Go.Proofs.YthbbjbfbeaiphaaGreat
end
section
/- FindIsomorphism: both sides. -/
namespace Go.Proofs.YthbbjbfbeaiphaaGreat
open Go.Kv
set_option maxRecDepth 100000
def k7 : KC := (.seq (.ops [oP 4 (.mv (.c (.nils))), oP 5 (.mv (iC 0))])
  (.seq (.block 0 (.seq (.ops [mV 9 0, oP 10 (.call (fC 49) [(.t 9)]), oP 11 (.not (.t 10)), mV 12 11, ⟨(some 13), some (12, false), .mv (.t 1)⟩, ⟨(some 14), some (12, false), .call (fC 49) [(.t 13)]⟩, ⟨(some 15), some (12, false), .not (.t 14)⟩, oP 16 (.pick (.t 12) (.c (.bool true)) (.t 15)), mV 8 16])
  (.cond (.t 8) (.seq (.ops [oP 4 (.mv (.c (.nils))), oP 5 (.mv (iC 2))])
  .ret) (.seq (.ops [mV 18 0, oP 19 (.len false (.t 18)), oP 20 (.bin .gtr (.t 19) (iC 10)), mV 21 20, ⟨(some 22), some (21, false), .mv (.t 1)⟩, ⟨(some 23), some (21, false), .len false (.t 22)⟩, ⟨(some 24), some (21, false), .bin .gtr (.t 23) (iC 10)⟩, oP 25 (.pick (.t 21) (.c (.bool true)) (.t 24)), mV 17 25])
  (.cond (.t 17) (.seq (.ops [oP 4 (.mv (.c (.nils))), oP 5 (.mv (iC 3))])
  .ret) (.seq (.ops [mV 27 0, oP 28 (.len false (.t 27)), mV 29 1, oP 30 (.len false (.t 29)), oP 31 (.bin .neq (.t 28) (.t 30)), mV 26 31])
  (.cond (.t 26) (.seq (.ops [oP 4 (.mv (.c (.nils))), oP 5 (.mv (iC 4))])
  .ret) .skip)))))))
  (.seq (.ops [oP 6 (.alloc [.nils])])
  (.seq (.ops [mV 32 0, mV 33 1, oP 34 (.mkfn (.func 50) [] [(.t 6)]), oP 35 (.build [.nils, .nils, .nils, .bool false, .bool false, .bool false, .bool false, .bool false, .bool false, .bool false, .bool false, .bool false, .bool false, .nilf] [(0, 1, (.t 32)), (1, 1, (.t 33)), (13, 1, (.t 34))]), oP 36 (.box false (.t 35)), mV 7 36])
  (.seq (.seq (.ops [mV 37 7, oP 38 (.call (fC 52) [(.t 37)])])
  (.cond (.t 38) (.seq (.ops [oP 4 (.mv (.c (.nils))), oP 5 (.mv (iC 4))])
  .ret) .skip))
  (.seq (.ops [oP 39 (.load false 1 (.t 6)), mV 4 39, oP 5 (.mv (iC 0))])
  .ret))))))
theorem e7 : Ent 7 40 [] [.t 4, .t 5] k7 := ent Tryz.func7 (by kernel_rfl) (by kernel_rfl) (by kernel_rfl) (fun _ => by kernel_rfl) (by kernel_rfl)
def k50 : KC := (.seq (.ops [oP 3 (.mv (.c (.bool false)))])
  (.seq (.ops [mV 4 0, oP 5 (.call (fC 51) [(.t 4)]), ⟨none, none, .store 1 (.t 1) (.t 5)⟩])
  (.seq (.ops [oP 3 (.mv (.c (.bool false)))])
  .ret)))
theorem e50 : Ent 50 6 [] [.t 3] k50 := ent Tryz.func50 (by kernel_rfl) (by kernel_rfl) (by kernel_rfl) (fun _ => by kernel_rfl) (by kernel_rfl)
end Go.Proofs.YthbbjbfbeaiphaaGreat
namespace Go.Proofs.YthbbjbfbeaiphaaGreat
open Go.Kv
set_option linter.unusedVariables false
set_option linter.unusedSimpArgs false
attribute [local irreducible] ACall PCall KL
theorem p54 (a b : List (List Int)) (ha : isTab a = true) (hb : isTab b = true) (hab : b.length = a.length) (h10 : a.length ≤ 10) : ∀ (d : Nat) (p : List Nat), p.length + d = a.length → (∀ i, i < p.length → p.getD i 0 < a.length) →
    Pure Tryz.prog 54 [.list (rows a), .list (rows b), .list (ints (toI p)), .int .i64 1] (.list (rows (((comps a b d p).take 1).map toI))) := by
  obtain ⟨hna, hsa⟩ := tab_sq ha
  intro d
  induction d with
  | zero =>
    intro p hp hpx
    refine e54 (by simp) fun _ _ => ?_
    simp only [k54, argEnv, toI_length, take6, List.drop_zero, Int.cast_ofNat_Int, go_sem, ↓reduceIte, Nat.reduceEqDiff, Nat.reduceAdd, Nat.reduceMul, Nat.reduceLeDiff, Nat.reduceLT, Int.reduceLE, Int.reduceLT, reduceCtorEq]
    refine ⟨fun _ => ?_, fun h => absurd h (by omega)⟩
    exact Kv.Fin.freeze (Imm.refr (l := [toI p]) rfl rfl) ⟨by simp [comps], rfl⟩
  | succ d ihd =>
    intro p hp hpx
    refine e54 (by simp) fun _ _ => ?_
    simp only [k54, argEnv, toI_length, take6, List.drop_zero, Int.cast_ofNat_Int, go_sem, ↓reduceIte, Nat.reduceEqDiff, Nat.reduceAdd, Nat.reduceMul, Nat.reduceLeDiff, Nat.reduceLT, Int.reduceLE, Int.reduceLT, reduceCtorEq]
    refine ⟨fun h => absurd h (by omega), fun _ => ?_⟩
    refine KL_indD k54_b0.eq_1 (fun x : Nat × Nat × List (List Nat) => [(0, .list (rows a)), (1, .list (rows b)), (2, .list (ints (toI p))), (3, .int .i64 1), (10, .ref 0 x.2.1 0 x.2.2.length), (11, .int .i64 x.1)]) (fun x => [.arr x.2.1 27 1 (rows (x.2.2.map toI))]) (fun x => x.1 ≤ a.length ∧ x.2.2 = (cmpN a b d p x.1).take 1) (fun x => a.length - x.1) [0, 1, 2, 3, 10, 11] (0, 0, []) (by simp [keep]) ⟨[], by simp [rows]⟩ ⟨Nat.zero_le _, by simp [cmpN_zero]⟩ (fun x hx => ?_) fun ⟨x, ver, out⟩ ⟨hx, ho⟩ ih => ?_
    · exact ⟨Nat.zero_le _, Env.undr_upto (by simp [Env.undr, PV.undr, undrX_ints, undrX_rows]), .cons (by simp [AObj.undr, undrX_rows]) (.nil _)⟩
    simp only at hx ho
    have hall := cmpN_all a b d p
    try simp only [List.length_map, take6, List.drop_zero, Int.cast_ofNat_Int, go_sem, ↓reduceIte, Nat.reduceEqDiff, Nat.reduceAdd, Nat.reduceMul, Nat.reduceLeDiff, Nat.reduceLT, Int.reduceLE, Int.reduceLT, reduceCtorEq]
    refine ⟨fun h1 => ⟨fun h2 => ?_, fun h2 => ?_⟩, fun h1 => ?_⟩
    · have hxn : x < a.length := by omega
      obtain rfl : out = [] := by
        cases out with
        | nil => rfl
        | cons c l => simp at h2; omega
      have hc0 : cmpN a b d p x = [] := by
        cases hcx : cmpN a b d p x with
        | nil => rfl
        | cons c l => rw [hcx] at ho; simp at ho
      have hsx := cmpN_succ a b d p x
      rw [hc0, List.nil_append] at hsx
      refine (p105 (toI p) (by simp; omega)).go fun v s ⟨hv, hs⟩ => ?_
      subst hv; subst hs
      try simp only [ren_ref, List.length_map, toI_length, take6, List.drop_zero, Int.cast_ofNat_Int, go_sem, ↓reduceIte, Nat.reduceEqDiff, Nat.reduceAdd, Nat.reduceMul, Nat.reduceLeDiff, Nat.reduceLT, Int.reduceLE, Int.reduceLT, reduceCtorEq]
      have hmp : List.take p.length (toI p) ++ [(x : Int)] = toI (p ++ [x]) := by
        rw [List.take_of_length_le (by simp)]; simp [toI]
      rw [hmp]
      have hq := snoc_lt hpx hxn
      refine ⟨by omega, ?_⟩
      refine (p127 a b (p ++ [x]) ha hb hab h10 (by simp; omega) hq).lend (.cons Imm.still (.cons Imm.still (.cons (Imm.refn (l := toI (p ++ [x])) rfl (by simp)) (.nil _)))) ?_
      cases hF : fitsB a b (p ++ [x]) with
      | false =>
        rw [hF] at hsx
        simp only [Bool.false_eq_true, if_false] at hsx
        try simp only [take6, List.drop_zero, Int.cast_ofNat_Int, go_sem, ↓reduceIte, Nat.reduceEqDiff, Nat.reduceAdd, Nat.reduceMul, Nat.reduceLeDiff, Nat.reduceLT, Int.reduceLE, Int.reduceLT, reduceCtorEq]
        refine ⟨by omega, ?_⟩
        refine ih (x + 1, ver, []) ⟨by show x + 1 ≤ a.length; omega, by show [] = (cmpN a b d p (x + 1)).take 1; rw [hsx]; rfl⟩ (by show a.length - (x + 1) < a.length - x; omega) _ _ (by simp [keep]) ⟨[_], rfl⟩
      | true =>
        rw [hF, if_pos rfl] at hsx
        try simp only [Int.sub_zero, take6, List.drop_zero, Int.cast_ofNat_Int, go_sem, ↓reduceIte, Nat.reduceEqDiff, Nat.reduceAdd, Nat.reduceMul, Nat.reduceLeDiff, Nat.reduceLT, Int.reduceLE, Int.reduceLT, reduceCtorEq]
        refine (ihd (p ++ [x]) (by simp; omega) hq).give (id := 1) rfl (.cons Imm.still (.cons Imm.still (.cons (Imm.refn (solo_get rfl) (by simp)) (.cons Imm.still (.nil _))))) ?_
        try simp only [take6, List.drop_zero, Int.cast_ofNat_Int, go_sem, ↓reduceIte, Nat.reduceEqDiff, Nat.reduceAdd, Nat.reduceMul, Nat.reduceLeDiff, Nat.reduceLT, Int.reduceLE, Int.reduceLT, reduceCtorEq]
        have hl1 : (((comps a b d (p ++ [x])).take 1).map toI).length ≤ 1 := by simp; omega
        refine ⟨by omega, by omega, ?_⟩
        refine ih (x + 1, ver + 1, (comps a b d (p ++ [x])).take 1) ⟨by show x + 1 ≤ a.length; omega, by show _ = (cmpN a b d p (x + 1)).take 1; rw [hsx]⟩ (by show a.length - (x + 1) < a.length - x; omega) _ _ (by simp [keep]) ⟨[_], by simp [rows]; rfl⟩
    · have hne : (cmpN a b d p x) ≠ [] := fun h => by rw [h] at ho; subst ho; simp at h2
      obtain ⟨more, hm⟩ := cmpN_pre a b d p hx
      have e : (comps a b (d + 1) p).take 1 = out := by
        rw [hall, hm, ho]
        cases hcx : cmpN a b d p x with
        | nil => exact absurd hcx hne
        | cons c l => rfl
      rw [e]
      exact Kv.Fin.freeze (Imm.refr (l := out.map toI) rfl (by simp)) ⟨rfl, rfl⟩
    · obtain rfl : x = a.length := by omega
      have e : (comps a b (d + 1) p).take 1 = out := by rw [hall, ho]
      rw [e]
      exact Kv.Fin.freeze (Imm.refr (l := out.map toI) rfl (by simp)) ⟨rfl, rfl⟩
theorem p8 (a b : List (List Int)) (ha : a.length ≤ 1048576) (hla : ∀ r ∈ a, r.length ≤ 1048576) (hb : b.length ≤ 1048576) (hlb : ∀ r ∈ b, r.length ≤ 1048576) {c : Int} {w : PV} [Still w]
    (hR : (isTab a = false ∨ isTab b = false → c = 2 ∧ w = .nils) ∧ (isTab a = true → isTab b = true → (10 < a.length ∨ 10 < b.length → c = 3 ∧ w = .nils) ∧ (a.length ≤ 10 → b.length ≤ 10 → (a.length ≠ b.length → c = 4 ∧ w = .nils) ∧ (a.length = b.length → (comps a b a.length [] = [] → c = 4 ∧ w = .nils) ∧ ∀ q l, comps a b a.length [] = q :: l → c = 0 ∧ w = .list (ints (toI q)))))) :
    Pure Tryz.prog 8 [.list (rows a), .list (rows b)] (.tup [w, .int .i64 c]) := by
  obtain ⟨h2, hR⟩ := hR
  refine e8 (by simp) fun _ _ => ?_
  simp only [k8, argEnv, take6, List.drop_zero, Int.cast_ofNat_Int, go_sem, ↓reduceIte, Nat.reduceEqDiff, Nat.reduceAdd, Nat.reduceMul, Nat.reduceLeDiff, Nat.reduceLT, Int.reduceLE, Int.reduceLT, reduceCtorEq]
  refine (p53 a ha hla).go ?_
  cases hta : isTab a with
  | false =>
    obtain ⟨rfl, rfl⟩ := h2 (.inl hta)
    try simp only [take6, List.drop_zero, Int.cast_ofNat_Int, go_sem, ↓reduceIte, Nat.reduceEqDiff, Nat.reduceAdd, Nat.reduceMul, Nat.reduceLeDiff, Nat.reduceLT, Int.reduceLE, Int.reduceLT, reduceCtorEq]
    exact Kv.Fin.still ⟨rfl, rfl⟩
  | true =>
    try simp only [take6, List.drop_zero, Int.cast_ofNat_Int, go_sem, ↓reduceIte, Nat.reduceEqDiff, Nat.reduceAdd, Nat.reduceMul, Nat.reduceLeDiff, Nat.reduceLT, Int.reduceLE, Int.reduceLT, reduceCtorEq]
    refine (p53 b hb hlb).go ?_
    cases htb : isTab b with
    | false =>
      obtain ⟨rfl, rfl⟩ := h2 (.inr htb)
      try simp only [take6, List.drop_zero, Int.cast_ofNat_Int, go_sem, ↓reduceIte, Nat.reduceEqDiff, Nat.reduceAdd, Nat.reduceMul, Nat.reduceLeDiff, Nat.reduceLT, Int.reduceLE, Int.reduceLT, reduceCtorEq]
      exact Kv.Fin.still ⟨rfl, rfl⟩
    | true =>
      obtain ⟨h3, hR⟩ := hR hta htb
      try simp only [take6, List.drop_zero, Int.cast_ofNat_Int, go_sem, ↓reduceIte, Nat.reduceEqDiff, Nat.reduceAdd, Nat.reduceMul, Nat.reduceLeDiff, Nat.reduceLT, Int.reduceLE, Int.reduceLT, reduceCtorEq]
      refine ⟨fun h1 => ⟨fun h4 => ?_, fun h4 => ⟨fun h5 => ?_, fun h5 => ?_⟩⟩, fun h1 => ?_⟩
      · obtain ⟨rfl, rfl⟩ := h3 (.inr (by omega))
        exact Kv.Fin.still ⟨rfl, rfl⟩
      · obtain ⟨rfl, rfl⟩ := (hR (by omega) (by omega)).1 (by omega)
        exact Kv.Fin.still ⟨rfl, rfl⟩
      · obtain ⟨h6, h7⟩ := (hR (by omega) (by omega)).2 (by omega)
        refine (p54 a b hta htb (by omega) (by omega) a.length [] (by simp) (by simp)).give (id := 0) rfl (.cons Imm.still (.cons Imm.still (.cons (Imm.refn (l := []) (solo_get (o := .arr 0 2 1 (ints [])) rfl) rfl) (.cons Imm.still (.nil _))))) ?_
        cases hcs : comps a b a.length [] with
        | nil =>
          obtain ⟨rfl, rfl⟩ := h6 hcs
          try simp only [List.take_nil, List.map_nil, take6, List.drop_zero, Int.cast_ofNat_Int, go_sem, ↓reduceIte, Nat.reduceEqDiff, Nat.reduceAdd, Nat.reduceMul, Nat.reduceLeDiff, Nat.reduceLT, Int.reduceLE, Int.reduceLT, reduceCtorEq]
          exact Kv.Fin.still ⟨rfl, rfl⟩
        | cons q l =>
          obtain ⟨rfl, rfl⟩ := h7 q l hcs
          have e : ((q :: l).take 1).map toI = [toI q] := rfl
          rw [e]
          try simp only [take6, List.drop_zero, Int.cast_ofNat_Int, go_sem, ↓reduceIte, Nat.reduceEqDiff, Nat.reduceAdd, Nat.reduceMul, Nat.reduceLeDiff, Nat.reduceLT, Int.reduceLE, Int.reduceLT, reduceCtorEq]
          exact ⟨fun h => absurd h (by decide), fun _ => Kv.Fin.still ⟨rfl, rfl⟩⟩
      · obtain ⟨rfl, rfl⟩ := h3 (.inl (by omega))
        exact Kv.Fin.still ⟨rfl, rfl⟩
theorem aIsn_ints (x : Int) (l : List Int) (K : Bool → Prop) : aIsn (.list (ints (x :: l))) K = K false := rfl
/-- A copy of a slice of at least one number. -/
theorem p51 (l : List Int) (hl : l.length ≤ 4294967296) (h0 : l ≠ []) : ACall Tryz.prog 51 [.list (ints l)] [] (fun v s => v = .ref 0 1 0 l.length ∧ s = [.arr 1 2 1 (ints l)]) := by
  obtain ⟨x, l, rfl⟩ := List.exists_cons_of_ne_nil h0
  refine e51 (by simp) fun _ _ => ?_
  simp only [k51, argEnv, take6, List.drop_zero, Int.cast_ofNat_Int, go_sem, ↓reduceIte, Nat.reduceEqDiff, Nat.reduceAdd, Nat.reduceMul, Nat.reduceLeDiff, Nat.reduceLT, Int.reduceLE, Int.reduceLT, reduceCtorEq]
  rw [aIsn_ints]
  try simp only [take6, List.drop_zero, Int.cast_ofNat_Int, go_sem, ↓reduceIte, Nat.reduceEqDiff, Nat.reduceAdd, Nat.reduceMul, Nat.reduceLeDiff, Nat.reduceLT, Int.reduceLE, Int.reduceLT, reduceCtorEq]
  refine ⟨by simp at hl; omega, Kv.Fin.now ⟨rfl, ?_⟩⟩
  simp
theorem p50 (a b : List (List Int)) (hn : 1 ≤ a.length ∧ a.length ≤ 40) : Each a b 50 true (fun _ => .nils) (fun q => .ref 3 1 0 q.length) (fun q => [.arr 1 2 1 (ints (toI q))]) := fun s p v tail hp hpx hP hs => by
  rcases hP with ⟨_, h, _⟩ | ⟨ver, rest, rfl, rfl⟩
  · rw [h] at hp; simp at hp; omega
  have hne : toI p ≠ [] := fun h => by have := congrArg List.length h; simp at this; rw [this] at hp; simp at hp; omega
  refine e50 (by simp) fun _ _ => ?_
  simp only [k50, argEnv, take6, List.drop_zero, Int.cast_ofNat_Int, go_sem, ↓reduceIte, Nat.reduceEqDiff, Nat.reduceAdd, Nat.reduceMul, Nat.reduceLeDiff, Nat.reduceLT, Int.reduceLE, Int.reduceLT, reduceCtorEq]
  refine (p51 (toI p) (by simp; omega) hne).lend (.cons (Imm.refp (pre := []) (l := toI p) (post := rest) rfl (by simp) rfl) (.nil _)) fun v s ⟨hv, hs⟩ => ?_
  subst hv; subst hs
  refine ⟨⟨free_ref _ _ _ _, Free.ints _ _ _ _⟩, ?_⟩
  try simp only [OpK_eq, toI_length, take6, List.drop_zero, Int.cast_ofNat_Int, go_sem, ↓reduceIte, Nat.reduceEqDiff, Nat.reduceAdd, Nat.reduceMul, Nat.reduceLeDiff, Nat.reduceLT, Int.reduceLE, Int.reduceLT, reduceCtorEq]
  exact Kv.Fin.now ⟨false, .ref 3 1 0 p.length, [.arr 1 2 1 (ints (toI p))], rfl, rfl, .inl ⟨rfl, rfl, p, [], rfl, rfl, rfl⟩⟩
theorem comps_le (a b : List (List Int)) : ∀ (d : Nat) (p : List Nat), (comps a b d p).length ≤ a.length ^ d ∧ ∀ x, (cmpN a b d p x).length ≤ x * a.length ^ d
  | 0, p => by
    refine ⟨by simp [comps], fun x => ?_⟩
    induction x with
    | zero => simp [cmpN]
    | succ x ih =>
      rw [cmpN_succ, List.length_append, Nat.succ_mul]
      have : (if fitsB a b (p ++ [x]) = true then comps a b 0 (p ++ [x]) else []).length ≤ a.length ^ 0 := by split <;> simp [comps]
      omega
  | d + 1, p => by
    have h1 : ∀ q, (comps a b (d + 1) q).length ≤ a.length ^ (d + 1) := fun q => by
      have := (comps_le a b d q).2 a.length
      rw [Nat.pow_succ, Nat.mul_comm]; exact this
    refine ⟨h1 p, fun x => ?_⟩
    induction x with
    | zero => simp [cmpN]
    | succ x ih =>
      rw [cmpN_succ, List.length_append, Nat.succ_mul]
      have : (if fitsB a b (p ++ [x]) = true then comps a b (d + 1) (p ++ [x]) else []).length ≤ a.length ^ (d + 1) := by
        split
        · exact h1 _
        · simp
      omega
theorem comps_bound {a b : List (List Int)} (h10 : a.length ≤ 10) : (comps a b a.length []).length ≤ 100000000000 := by
  have h1 := (comps_le a b a.length []).1
  have h2 : a.length ^ a.length ≤ 10 ^ a.length := Nat.pow_le_pow_left h10 _
  have h3 : 10 ^ a.length ≤ 10 ^ 10 := Nat.pow_le_pow_right (by omega) h10
  omega
/-- What the search hands back, and its code. -/
def fiR (a b : List (List Int)) (T : List Int) (c : Int) : Prop :=
  ((isTab a = false ∨ isTab b = false) → c = 2 ∧ T = []) ∧ (isTab a = true → isTab b = true → (10 < a.length ∨ 10 < b.length → c = 3 ∧ T = []) ∧ (a.length ≤ 10 → b.length ≤ 10 → (a.length ≠ b.length → c = 4 ∧ T = []) ∧ (a.length = b.length → (comps a b a.length [] = [] → c = 4 ∧ T = []) ∧ ∀ q l, comps a b a.length [] = q :: l → c = 0 ∧ T = toI q)))
theorem p7 (a b : List (List Int)) (ha : a.length ≤ 1048576) (hla : ∀ r ∈ a, r.length ≤ 1048576) (hb : b.length ≤ 1048576) (hlb : ∀ r ∈ b, r.length ≤ 1048576) {c : Int} {T : List Int} (hR : fiR a b T c) :
    NewIO Tryz.prog 7 [.list (rows a), .list (rows b)] 2 T c := by
  obtain ⟨h2, hR⟩ := hR
  unfold NewIO
  refine e7 (by simp) fun _ _ => ?_
  simp only [k7, argEnv, take6, List.drop_zero, Int.cast_ofNat_Int, go_sem, ↓reduceIte, Nat.reduceEqDiff, Nat.reduceAdd, Nat.reduceMul, Nat.reduceLeDiff, Nat.reduceLT, Int.reduceLE, Int.reduceLT, reduceCtorEq]
  refine (p49 a ha hla).go ?_
  cases hta : isTab a with
  | false =>
    obtain ⟨rfl, rfl⟩ := h2 (.inl hta)
    try simp only [take6, List.drop_zero, Int.cast_ofNat_Int, go_sem, ↓reduceIte, Nat.reduceEqDiff, Nat.reduceAdd, Nat.reduceMul, Nat.reduceLeDiff, Nat.reduceLT, Int.reduceLE, Int.reduceLT, reduceCtorEq]
    exact Kv.Fin.still ⟨_, rfl, .nil, .nil⟩
  | true =>
    try simp only [take6, List.drop_zero, Int.cast_ofNat_Int, go_sem, ↓reduceIte, Nat.reduceEqDiff, Nat.reduceAdd, Nat.reduceMul, Nat.reduceLeDiff, Nat.reduceLT, Int.reduceLE, Int.reduceLT, reduceCtorEq]
    refine (p49 b hb hlb).go ?_
    cases htb : isTab b with
    | false =>
      obtain ⟨rfl, rfl⟩ := h2 (.inr htb)
      try simp only [take6, List.drop_zero, Int.cast_ofNat_Int, go_sem, ↓reduceIte, Nat.reduceEqDiff, Nat.reduceAdd, Nat.reduceMul, Nat.reduceLeDiff, Nat.reduceLT, Int.reduceLE, Int.reduceLT, reduceCtorEq]
      exact Kv.Fin.still ⟨_, rfl, .nil, .nil⟩
    | true =>
      obtain ⟨h3, hR⟩ := hR hta htb
      try simp only [take6, List.drop_zero, Int.cast_ofNat_Int, go_sem, ↓reduceIte, Nat.reduceEqDiff, Nat.reduceAdd, Nat.reduceMul, Nat.reduceLeDiff, Nat.reduceLT, Int.reduceLE, Int.reduceLT, reduceCtorEq]
      refine ⟨fun h1 => ⟨fun h4 => ?_, fun h4 => ⟨fun h5 => ?_, fun h5 => ?_⟩⟩, fun h1 => ?_⟩
      · obtain ⟨rfl, rfl⟩ := h3 (.inr (by omega))
        exact Kv.Fin.still ⟨_, rfl, .nil, .nil⟩
      · obtain ⟨rfl, rfl⟩ := (hR (by omega) (by omega)).1 (by omega)
        exact Kv.Fin.still ⟨_, rfl, .nil, .nil⟩
      · obtain ⟨h6, h7⟩ := (hR (by omega) (by omega)).2 (by omega)
        rw [← fc_new]
        refine ⟨rfl, ?_⟩
        refine (p52 a b hta htb (by omega) (by omega) 50 true (fun _ => .nils) (fun q => .ref 3 1 0 q.length) (fun q => [.arr 1 2 1 (ints (toI q))]) (fun _ => inferInstance) (fun _ => rfl) (p50 a b (tab_sq hta).1) a.length [] 0 .nils [] (by simp) (by simp) (fitA_nil a b) (by have := comps_bound (a := a) (b := b) (by omega); omega) (.inl ⟨rfl, rfl, rfl⟩)).mono fun w σ' ⟨r, Z, m, v', tail', hw, hσ, hP', ho, h1t⟩ => ?_
        subst hw; subst hσ
        rcases ho with ⟨_, hr, q, l, hc, hZ, hm⟩ | ⟨hc, hr, hZ, hm⟩
        · obtain ⟨rfl, rfl⟩ := h7 q l hc
          subst hr; subst hZ; subst hm
          obtain ⟨o, rfl⟩ : ∃ o, tail' = [o] := by
            have := h1t rfl
            match tail', this with
            | [o], _ => exact ⟨o, rfl⟩
          try simp only [OpK_eq, take6, List.drop_zero, Int.cast_ofNat_Int, go_sem, ↓reduceIte, Nat.reduceEqDiff, Nat.reduceAdd, Nat.reduceMul, Nat.reduceLeDiff, Nat.reduceLT, Int.reduceLE, Int.reduceLT, reduceCtorEq]
          have e : (toI q).length = q.length := toI_length q
          refine Kv.Fin.oneT (i := 3) rfl (by simp only [flat_ints]; exact Plain.ints _) 0 ⟨_, rfl, ?_, Free.ints _ _ _ _⟩
          rw [← e]
          exact .own 0 1 [] (toI q) [] (by simp) ⟨Nat.zero_le _, by simp⟩
        · rcases hc with hc | hc
          · cases hc
          obtain ⟨rfl, rfl⟩ := h6 hc
          subst hr; subst hZ; subst hm
          try simp only [OpK_eq, take6, List.drop_zero, Int.cast_ofNat_Int, go_sem, ↓reduceIte, Nat.reduceEqDiff, Nat.reduceAdd, Nat.reduceMul, Nat.reduceLeDiff, Nat.reduceLT, Int.reduceLE, Int.reduceLT, reduceCtorEq]
          exact Kv.Fin.still ⟨_, rfl, .nil, .nil⟩
      · obtain ⟨rfl, rfl⟩ := h3 (.inl (by omega))
        exact Kv.Fin.still ⟨_, rfl, .nil, .nil⟩
end Go.Proofs.YthbbjbfbeaiphaaGreat
end
section
/- slices.AppendSeq over slices.Values of a slice of numbers: in the machine's own terms. -/
namespace Go.Proofs.YthbbjbfbeaiphaaGreat
open Go.RowKit Go.Shelf
set_option linter.unusedVariables false
set_option linter.unusedSimpArgs false
attribute [local go_sem] Oper.semAt_some
def upTo {α : Type} (f : Nat → α) (k : Nat) : List α := (List.range k).map f
theorem upTo_succ {α : Type} (f : Nat → α) (k : Nat) : upTo f (k + 1) = upTo f k ++ [f k] := by simp [upTo, List.range_succ]
theorem upTo_length {α : Type} (f : Nat → α) (k : Nat) : (upTo f k).length = k := by simp [upTo]
theorem upTo_all (zs : List Int) : upTo (fun j => zs[j]?.getD 0) zs.length = zs := by
  apply List.ext_getElem
  · simp [upTo]
  · intro i h1 h2
    simp [upTo, h2]
theorem upTo_take (zs : List Int) {k : Nat} (hk : k ≤ zs.length) : upTo (fun j => zs[j]?.getD 0) k = zs.take k := by
  apply List.ext_getElem
  · simp [upTo, hk]
  · intro i h1 h2
    have : i < zs.length := by simp [upTo] at h1; omega
    simp [upTo, this]
set_option maxRecDepth 100000 in
set_option maxHeartbeats 2000000 in
theorem vals1_in (F : Fence) (n : Nat) (h7 : F.fn 130) (hro : F.round = none) (hn : 1 ≤ n) (l Bs o n₀ b off len cap : Nat) (zs : List Int) (hreach : len * 8 ≤ 140737488351232) (hb : b < n₀) (J Jx : List Int → World → Prop)
    (hY : ∀ pre x W, J pre W → pre.length < len → YieldAt F (n - 1) Tryz.prog l #[.int .i64 x] W fun e W' =>
      (e = .returned (.bool true) ∧ J (pre ++ [x]) W' ∧ Below n₀ W W') ∨ (e = .returned (.bool false) ∧ Jx (pre ++ [x]) W'))
    (W : World) (hBs : W.cell? ⟨Bs, o, none⟩ = some (.slice (some ⟨b, off, none⟩) len cap)) (hc : ∀ j, j < len → W.cell? ⟨b, off + j, none⟩ = some (.int .i64 (zs[j]?.getD 0))) (h0 : J [] W) :
    CallsIn F n Tryz.prog 130 #[.func (.yield l) #[] #[], .pointer (some ⟨Bs, o, none⟩)] W fun e W' => (∃ v, e = .returned v) ∧
      ((∃ ys, ys = upTo (fun j => zs[j]?.getD 0) len ∧ J ys W') ∨ (∃ pre, (∃ k, k ≤ len ∧ pre = upTo (fun j => zs[j]?.getD 0) k) ∧ Jx pre W')) := by
  refine callsIn_of_wp Tryz.func130 rfl h7 ?_ hro
  simp only [Tryz.ntmps130, List.size_toArray, List.length_cons, List.length_nil, Nat.reduceAdd, Nat.reduceSub, Array.replicate_succ, Array.replicate_zero, List.push_toArray, List.append_toArray, List.nil_append, List.cons_append]
  gi_wp2
  gi_loopw [7] (fun i wr => ∃ k : Nat, k ≤ len ∧ i = .int .i64 k ∧ J (upTo (fun j => zs[j]?.getD 0) k) wr ∧ Below n₀ W wr)
    (fun i _ => len - (intOf i).toNat)
  case atStart => exact ⟨0, Nat.zero_le _, rfl, h0, Below.refl _ _⟩
  case round =>
    obtain ⟨k, hk, rfl, hJs, hnx⟩ := hrel
    have hcx : k < len → wr.cell? ⟨b, off + k, none⟩ = some (.int .i64 (zs[k]?.getD 0)) := fun h => (hnx.cell (p := ⟨b, off + k, none⟩) hb).trans (hc k h)
    by_cases hlt : k < len
    · obtain ⟨fn, tmps, assign, body, hy, hR⟩ := hY _ (zs[k]?.getD 0) wr hJs (by rw [upTo_length]; exact hlt)
      have hcx' := hcx hlt
      gi_wp2
      refine hR.mono ?_
      rintro e W3 (⟨rfl, hJ3, hk3⟩ | ⟨rfl, hJx3⟩)
      · gi_wp2
        go_roundw
        case rel => exact ⟨k + 1, by omega, by simp, by rw [upTo_succ]; exact hJ3, hnx.trans hk3⟩
        case measure => simp [intOf]; omega
      · gi_wp2
        refine bodyPost_ret (results_none rfl _ _ _) rfl ?_
        exact ⟨⟨_, rfl⟩, .inr ⟨_, ⟨k + 1, by omega, (upTo_succ _ _).symm⟩, hJx3⟩⟩
    · obtain rfl : k = len := by omega
      gi_wp2
      go_end0
      exact ⟨⟨_, rfl⟩, .inl ⟨_, rfl, hJs⟩⟩
set_option maxRecDepth 100000 in
set_option maxHeartbeats 1000000 in
theorem vals1_none_in (F : Fence) (n : Nat) (h7 : F.fn 130) (hro : F.round = none) (l Bs o cap : Nat) (a : Option Addr) (J : List Int → World → Prop) (W : World) (hBs : W.cell? ⟨Bs, o, none⟩ = some (.slice a 0 cap)) (h0 : J [] W) :
    CallsIn F n Tryz.prog 130 #[.func (.yield l) #[] #[], .pointer (some ⟨Bs, o, none⟩)] W fun e W' => (∃ v, e = .returned v) ∧ J [] W' := by
  refine callsIn_of_wp Tryz.func130 rfl h7 ?_ hro
  simp only [Tryz.ntmps130, List.size_toArray, List.length_cons, List.length_nil, Nat.reduceAdd, Nat.reduceSub, Array.replicate_succ, Array.replicate_zero, List.push_toArray, List.append_toArray, List.nil_append, List.cons_append]
  gi_wp2
  gi_loopw [7] (fun i wr => i = .int .i64 0 ∧ J [] wr) (fun _ _ => 0)
  case atStart => exact ⟨rfl, h0⟩
  case round =>
    obtain ⟨rfl, hJs⟩ := hrel
    gi_wp2
    go_end0
    exact ⟨⟨_, rfl⟩, hJs⟩
/-- The slice value sv holds the numbers zs, in a block below n₀; or there are none. -/
def IntsAt (n₀ : Nat) (W : World) (sv : Value) (zs : List Int) : Prop :=
  (zs = [] ∧ ∃ a cap, sv = .slice a 0 cap) ∨ ∃ b off cap, sv = .slice (some ⟨b, off, none⟩) zs.length cap ∧ b < n₀ ∧ ∀ j, j < zs.length → W.cell? ⟨b, off + j, none⟩ = some (.int .i64 (zs[j]?.getD 0))
theorem IntsAt.below {n₀ : Nat} {A B : World} (h : Below n₀ A B) {sv : Value} {zs : List Int} : IntsAt n₀ A sv zs → IntsAt n₀ B sv zs
  | .inl e => .inl e
  | .inr ⟨b, off, cap, e, hb, hc⟩ => .inr ⟨b, off, cap, e, hb, fun j hj => (h.cell (p := ⟨b, off + j, none⟩) hb).trans (hc j hj)⟩
theorem vals_stops (F : Fence) (n : Nat) (h7 : F.fn 130) (hro : F.round = none) (hn : 1 ≤ n) (Bs o n₀ : Nat) (sv : Value) (zs : List Int) (hreach : zs.length * 8 ≤ 140737488351232) (w : World) (hBs : Bs < w.heap.size) (hn₀ : n₀ ≤ w.heap.size)
    (hc : w.cell? ⟨Bs, o, none⟩ = some sv) (hI : IntsAt n₀ w sv zs) :
    SeqStopsK F n Tryz.prog 130 #[.pointer (some ⟨Bs, o, none⟩)] (fun x : Int => #[Value.int .i64 x]) (Below n₀) (fun ys => ys = zs) (fun pre => pre <+: zs) zs.length w := fun l J Jx W hW _ _ hY h0 => by
  have hc' := (hW.cell (p := ⟨Bs, o, none⟩) hBs).trans hc
  rcases hI.below (hW.mono hn₀) with ⟨rfl, a, cap, rfl⟩ | ⟨b, off, cap, rfl, hb, hcs⟩
  · exact (vals1_none_in F n h7 hro l Bs o cap a J W hc' h0).mono fun e W' ⟨he, hj⟩ => ⟨he, .inl ⟨_, rfl, hj⟩⟩
  · refine (vals1_in F n h7 hro hn l Bs o n₀ b off zs.length cap zs hreach hb J Jx hY W hc' hcs h0).mono ?_
    rintro e W' ⟨he, ⟨ys, rfl, hj⟩ | ⟨pre, ⟨k, hk, rfl⟩, hj⟩⟩
    · exact ⟨he, .inl ⟨_, upTo_all zs, hj⟩⟩
    · exact ⟨he, .inr ⟨_, by rw [upTo_take zs hk]; exact List.take_prefix _ _, hj⟩⟩
theorem info_i64 : (Tryz.prog.info? 2).map (fun i => (i.zero, i.size, i.bytes)) = some (some (.int .i64 0), 1, 8) := by kernel_rfl
set_option maxRecDepth 100000 in
set_option maxHeartbeats 2000000 in
theorem apSeq_in (F : Fence) (n : Nat) (h3 : F.fn 165) (h4 : F.fn 130) (hro : F.round = none) (hn : 3 ≤ n) (Bs o : Nat) (sv : Value) (zs : List Int) (hlen : zs.length ≤ maxLen) (hbytes : zs.length * 8 ≤ 140737488351232) (w : World) (hBs : Bs < w.heap.size) (hc : w.cell? ⟨Bs, o, none⟩ = some sv) (hI : IntsAt w.heap.size w sv zs) :
    CallsIn F n Tryz.prog 165 #[.slice none 0 0, .func (.func 130) #[] #[.pointer (some ⟨Bs, o, none⟩)]] w fun e W' => ∃ v, e = .returned v ∧ W'.ownsRow w.heap.size 2 1 v zs.length (zs.map (Value.int .i64)) ∧ Below w.heap.size w W' := by
  have h1 : 1 ≤ n := by omega
  obtain ⟨i0, hi, hz0, hz1, hz2⟩ := info_parts info_i64
  refine callsIn_of_wp_marks Tryz.func165 rfl h3 ?_ hro
  simp only [Tryz.ntmps165, List.size_toArray, List.length_cons, List.length_nil, Nat.reduceAdd, Nat.reduceSub, Array.replicate_succ, Array.replicate_zero, List.push_toArray, List.append_toArray, List.nil_append, List.cons_append]
  gi_wp2
  have bO := Boxed.new w 27 (.slice none 0 0)
  have hB0 : Below w.heap.size w (w.alloc (.cells #[.slice none 0 0] 27)) := (Below.refl _ w).alloc (Nat.le_refl _) _
  refine wpIn_rangeFunc_ownG hro h1 (gf := 130) (lb := #[.pointer (some ⟨Bs, o, none⟩)]) rfl h4 (enters_of Tryz.func130 (by kernel_rfl) rfl)
    (vals_stops F (n - 1) h4 hro (by omega) Bs o w.heap.size sv zs hbytes _ (by simp; omega) (by simp) ((hB0.cell (p := ⟨Bs, o, none⟩) hBs).trans hc) (hI.below hB0)) belowK_t (belowK_b (by simp)) (Below.refl _ _) (fun _ => rfl)
    (fun pre W => (∃ v, Boxed W w.heap.size 27 v ∧ W.ownsRow w.heap.size 2 1 v pre.length (pre.map (Value.int .i64)) ∧ True) ∧ Below w.heap.size w W)
    (fun _ _ _ => False)
    (OwnFrom.and (Own.from (holdsRow_own w.heap.size w.heap.size 27 2 1 (fun pre : List Int => pre.length) (fun pre : List Int => pre.map (Value.int .i64)) (fun _ _ => True)) _) (ownFrom_below (Nat.le_refl _) (by simp)))
    (fun _ _ _ _ _ hs _ _ => hs)
    ⟨⟨_, bO, World.ownsRow_nil _ _ _ _, trivial⟩, hB0⟩
    (fun x => { tmps := #[.slice none 0 0, .func (.func 130) #[] #[.pointer (some ⟨Bs, o, none⟩)], .pointer (some ⟨w.heap.size, 0, none⟩), undef, .slice none 0 0, .int .i64 x, .func (.func 130) #[] #[.pointer (some ⟨Bs, o, none⟩)], .int .i64 x, undef, undef, undef, undef, undef], defers := [] }) ?assign ?body ?done ?stop
  case assign =>
    intro l x W K hK
    gi_wp2
    exact hK
  case body =>
    rintro l pre x W ⟨⟨v, hv, hrow, _⟩, hB⟩ hlt
    have hcv := hv.cell
    gi_wp2_with (gi_at_builtin; refine wpListIn_append_own _ rfl _ _ 27 rfl w.heap.size 2 i0 (.int .i64 0) 1 8 Tryz.underlying27 hi hz0 hz1 hz2 rfl (by decide) _ _ _ rfl (hrow.alloc _) ⟨W.heap.size, 0, none⟩ 1 1 [.int .i64 x] rfl rfl (cell_one_new _ _ _) (by simp [Value.oneCell']) (by omega) (by omega) (by have := hB.size; simp; omega) ?_; intro v' w1 hown' hgrow _; obtain ⟨g', cap', rfl⟩ := ownsRow_succ hown'; obtain ⟨hv1, hv2, hr2, hk2, hb2⟩ := hv.appended (by decide) hrow hB.size (Nat.le_refl _) hown' hgrow; have hc1 := hv1.cell; have hf1 := hv1.frozen)
    exact ⟨hk2.from _, hb2, ⟨_, hv2, by simpa using hr2, trivial⟩, hB.trans hb2⟩
  case done =>
    rintro D ys W hD rfl ⟨⟨v, hv, hrow, _⟩, hB⟩ hK
    have hcv := hv.cell
    gi_wp2
    refine ⟨by simp, .inl ⟨_, _, rfl, run_takeDeferred hK, ?_⟩⟩
    exact ⟨_, results_tmp rfl _ _ _, v, rfl, ownsRow_putObj hrow _ hK rfl, hB.trans (belowK_b (w := w) (Nat.le_refl _) W D _ _ (by simp at hD; omega) hK rfl rfl)⟩
  case stop =>
    rintro D c pre W _ _ h _
    exact h.elim
end Go.Proofs.YthbbjbfbeaiphaaGreat
end
section
/- slices.Sort of numbers, at whatever length. -/
namespace Go.Proofs
open Go.Shelf Go.RowKit Go.Lib Go.Sort
shelf_lay_g SlLaysM.n5 Slgm 5 at Tryz 129 as YthbbjbfbeaiphaaGreat.sortInts
end Go.Proofs
namespace Go.Proofs.YthbbjbfbeaiphaaGreat
open Go.Shelf Go.RowKit Go.Lib Go.Sort
set_option linter.unusedVariables false
theorem sortI_heap {w : World} {g n : Nat} {os : Array Obj} {cur : Array Value} {e : TypeId} {fr : Nat × Nat} (d : Array Int) (hb : w.heap[g]? = some (.cells cur e fr)) : (grow (putRow (Value.int .i64) (Sort.ahead w n) g 0 d) os).heap[g]? = some (.cells (putCells (Value.int .i64) 0 d cur) e fr) := by
  have hg : g < w.heap.size := (Array.getElem?_eq_some_iff.1 hb).1
  rw [heap_grow_old _ _ (by simpa using hg)]
  simp [putRow, mapBlock, Sort.ahead, Array.getElem?_modify, hb, onCells]
theorem sortI_world {w : World} {g cap : Nat} {e : TypeId} {cur : Array Value} (hb : w.heap[g]? = some (.cells cur e (0, 0))) (l : List Int) (hn : l.length ≤ 4294967296) (hcur : cur.toList.take l.length = l.map (Value.int .i64)) :
    Calls Tryz.prog 129 #[.slice (some ⟨g, 0, none⟩) l.length cap] w fun en w' => en = .returned (.tuple #[]) ∧ ∃ r : List Int, r.Perm l ∧ r.Pairwise (· ≤ ·) ∧
      (∃ cur', w'.heap[g]? = some (.cells cur' e (0, 0)) ∧ cur'.size = cur.size ∧ cur'.toList.take l.length = r.map (Value.int .i64)) ∧ (∀ k, k < w.heap.size → k ≠ g → w'.heap[k]? = w.heap[k]?) ∧ w.heap.size ≤ w'.heap.size ∧ w'.os = w.os ∧ w'.tape = w.tape ∧ w'.output = w.output := by
  have hcs : l.length ≤ cur.size := by
    have := congrArg List.length hcur
    rw [List.length_take, List.length_map] at this
    simp at this; omega
  have hH : Holds (Value.int .i64) w g 0 l.toArray := fun j hj => by
    have hj' : j < l.length := by simpa using hj
    refine ⟨?_, by simp [World.frozen?, hb]⟩
    have h1 : (cur.toList.take l.length)[j]? = (l.map (Value.int .i64))[j]? := by rw [hcur]
    rw [List.getElem?_take_of_lt hj'] at h1
    simp only [World.cell?, hb, Nat.zero_add]
    simp only [Option.isSome_none, Bool.false_eq_true, if_false]
    rw [← Array.getElem?_toList, h1]
    simp [hj']
  have hcon := AnyM.slices_Sort_int sortInts g 0 cap l w hH (Array.getElem?_eq_some_iff.1 hb).1 (by omega)
  change Calls Tryz.prog 129 _ _ _ at hcon
  refine hcon.mono ?_
  rintro en w' ⟨rfl, nn, os, rfl⟩
  have hperm : (l.mergeSort fun x y => decide (x ≤ y)).Perm l := List.mergeSort_perm l _
  have hsort : (l.mergeSort fun x y => decide (x ≤ y)).Pairwise (fun a b : Int => decide (a ≤ b) = true) := List.pairwise_mergeSort (le := fun a b : Int => decide (a ≤ b)) (fun a b c h1 h2 => by simp only [decide_eq_true_eq] at *; omega) (fun a b => by simp only [Bool.or_eq_true, decide_eq_true_eq]; omega) l
  generalize (l.mergeSort fun x y => decide (x ≤ y)) = r at hperm hsort ⊢
  have hrl := hperm.length_eq
  refine ⟨rfl, r, hperm, hsort.imp fun h => of_decide_eq_true h, ⟨_, sortI_heap r.toArray hb, by simp [putCells], ?_⟩, fun k hk hne => ?_, by simp, rfl, rfl, rfl⟩
  · apply List.ext_getElem?
    intro j
    by_cases hj : j < l.length
    · rw [List.getElem?_take_of_lt hj, Array.getElem?_toList]
      have hj2 : j < r.length := by omega
      simp [putCells, hj2, show j < cur.size by omega]
    · rw [List.getElem?_take_eq_none (by omega), List.getElem?_eq_none (by simp; omega)]
  · rw [heap_grow_old _ _ (by simpa using hk)]
    have : g ≠ k := fun e => hne e.symm
    simp [putRow, mapBlock, Sort.ahead, Array.getElem?_modify, this]
end Go.Proofs.YthbbjbfbeaiphaaGreat
end
section
/- Several texts of this session as one. -/
section
/- Iterates of a map, powers, cyclic points, heights, least points of orbits: plain laws. -/
namespace Go.Kv
set_option linter.unusedVariables false
set_option linter.unusedSimpArgs false
/-- Where k steps lead a point. -/
def it (f : List Nat) : Nat → Nat → Nat
  | 0, p => p
  | k + 1, p => f.getD (it f k p) 0
theorem it_add (f : List Nat) (p : Nat) (a : Nat) : ∀ b, it f (a + b) p = it f b (it f a p)
  | 0 => rfl
  | b + 1 => by
    show f.getD (it f (a + b) p) 0 = _
    rw [it_add f p a b]; rfl
theorem it_lt {f : List Nat} {n p : Nat} (hf : Ok f n) (hp : p < n) : ∀ k, it f k p < n
  | 0 => hp
  | k + 1 => hf.get' _
theorem it_mul {f : List Nat} {p d : Nat} (h : it f d p = p) : ∀ k, it f (d * k) p = p
  | 0 => rfl
  | k + 1 => by rw [Nat.mul_succ, it_add, it_mul h k, h]
/-- The k-th power. -/
def itM (f : List Nat) (n k : Nat) : List Nat := (List.range n).map (it f k)
theorem itM_ok {f : List Nat} {n : Nat} (hf : Ok f n) (k : Nat) : Ok (itM f n k) n := ⟨by simp [itM], hf.pos, hf.le, fun x hx => by
  simp only [itM, List.mem_map, List.mem_range] at hx
  obtain ⟨p, hp, rfl⟩ := hx
  exact it_lt hf hp k⟩
/-- Whether a point comes back to itself. -/
def cyc (f : List Nat) (n p : Nat) : Bool := (List.range n).any fun k => decide (it f (k + 1) p = p)
theorem cyc_iff {f : List Nat} {n p : Nat} : cyc f n p = true ↔ ∃ d, 1 ≤ d ∧ d ≤ n ∧ it f d p = p := by
  simp only [cyc, List.any_eq_true, List.mem_range, decide_eq_true_eq]
  constructor
  · rintro ⟨k, hk, h⟩; exact ⟨k + 1, by omega, by omega, h⟩
  · rintro ⟨d, h1, h2, h⟩; exact ⟨d - 1, by omega, by rw [Nat.sub_add_cancel h1]; exact h⟩
theorem nodup_len : ∀ (n : Nat) (l : List Nat), l.Nodup → (∀ x ∈ l, x < n) → l.length ≤ n
  | 0, l, _, h => by
    cases l with
    | nil => simp
    | cons a l => exact absurd (h a (by simp)) (by omega)
  | n + 1, l, hd, h => by
    by_cases hn : n ∈ l
    · have h1 := nodup_len n (l.erase n) (hd.erase n) fun x hx => by
        have := (List.Nodup.mem_erase_iff hd).1 hx
        have := h x this.2
        omega
      rw [List.length_erase_of_mem hn] at h1
      omega
    · have := nodup_len n l hd fun x hx => by
        have := h x hx
        have : x ≠ n := fun e => hn (e ▸ hx)
        omega
      omega
/-- How many steps lead to a cyclic point. -/
def hgt (f : List Nat) (n p : Nat) : Nat := (List.range 61).findIdx fun k => cyc f n (it f k p)
/-- v is the least point that the steps from p meet. -/
def IsMin (f : List Nat) (p v : Nat) : Prop := (∃ k, v = it f k p) ∧ ∀ k, v ≤ it f k p
theorem IsMin.move {f : List Nat} {n p j v : Nat} (hc : cyc f n p = true) (h : IsMin f (it f j p) v) : IsMin f p v := by
  obtain ⟨d, h1, h2, h3⟩ := cyc_iff.1 hc
  obtain ⟨⟨a, ha⟩, hb⟩ := h
  refine ⟨⟨j + a, by rw [it_add]; exact ha⟩, fun k => ?_⟩
  have e : it f k p = it f (d * j - j + k) (it f j p) := by
    have hj : j ≤ d * j := by
      have := Nat.mul_le_mul_right j h1
      omega
    rw [← it_add, ← Nat.add_assoc, show j + (d * j - j) = d * j by omega, it_add, it_mul h3]
  rw [e]; exact hb _
/-- The least of the first m iterates. -/
def lo (f : List Nat) (p : Nat) : Nat → Nat
  | 0 => p
  | m + 1 => min (lo f p m) (it f (m + 1) p)
theorem lo_mem (f : List Nat) (p : Nat) : ∀ m, ∃ k, k ≤ m ∧ lo f p m = it f k p
  | 0 => ⟨0, Nat.le_refl _, rfl⟩
  | m + 1 => by
    obtain ⟨k, hk, h⟩ := lo_mem f p m
    simp only [lo]
    by_cases hle : lo f p m ≤ it f (m + 1) p
    · exact ⟨k, by omega, by rw [Nat.min_eq_left hle]; exact h⟩
    · exact ⟨m + 1, Nat.le_refl _, by rw [Nat.min_eq_right (by omega)]⟩
/-- The points of a list, as the bits of a number. -/
def sb : List Nat → Nat
  | [] => 0
  | p :: l => sb l ||| 2 ^ p
theorem sb_snoc : ∀ (l : List Nat) (p : Nat), sb (l ++ [p]) = sb l ||| 2 ^ p
  | [], p => by simp [sb]
  | a :: l, p => by simp only [List.cons_append, sb, sb_snoc l p, Nat.or_assoc, Nat.or_comm (2 ^ p)]
theorem sb_test : ∀ (l : List Nat) (q : Nat), (sb l).testBit q = decide (q ∈ l)
  | [], q => by simp [sb]
  | a :: l, q => by
    simp only [sb, Nat.testBit_or, sb_test l q, Nat.testBit_two_pow, List.mem_cons]
    by_cases h : a = q
    · simp [h]
    · have : ¬ q = a := fun e => h e.symm
      simp [h, this]
end Go.Kv
end
section
/- Maps: cyclic points, ends, cycles, powers, images. -/
namespace Go.Proofs.YthbbjbfbeaiphaaGreat
open Go.Kv
set_option linter.unusedVariables false
set_option linter.unusedSimpArgs false
attribute [local irreducible] ACall PCall KL
/-- The first steps from p. -/
def its (f : List Nat) (p m : Nat) : List Int := (List.range m).map fun k => (it f k p : Int)
@[simp] theorem its_length (f : List Nat) (p m : Nat) : (its f p m).length = m := by simp [its]
end Go.Proofs.YthbbjbfbeaiphaaGreat
end
section
/- Sorting of at most twelve numbers; what is left when neighbours that are equal are one. -/
namespace Go.Proofs.YthbbjbfbeaiphaaGreat
open Go.Kv
set_option linter.unusedVariables false
set_option linter.unusedSimpArgs false
attribute [local irreducible] ACall PCall KL
/-- The numbers up to place i are in order, but for the one at place j, which is ahead of all behind it. -/
def Jn (m : List Int) (i j : Nat) : Prop := (∀ x y, x < y → y ≤ i → x ≠ j → y ≠ j → m.getD x 0 ≤ m.getD y 0) ∧ ∀ y, j < y → y ≤ i → m.getD j 0 ≤ m.getD y 0
def Sn (m : List Int) (i : Nat) : Prop := ∀ x y, x < y → y < i → m.getD x 0 ≤ m.getD y 0
theorem getD_setI (m : List Int) (i : Nat) (v : Int) (k : Nat) (h : i < m.length) : (m.set i v).getD k 0 = if k = i then v else m.getD k 0 := by
  rw [List.getD_eq_getElem?_getD]
  by_cases e : k = i
  · subst e; rw [List.getElem?_set_self h]; simp
  · rw [List.getElem?_set_ne (Ne.symm e), if_neg e, List.getD_eq_getElem?_getD]
theorem Jn.zero {m : List Int} {i : Nat} (h : Sn m i) : Jn m i i := ⟨fun x y h1 h2 h3 h4 => h x y h1 (by omega), fun y h1 h2 => by omega⟩
theorem Jn.done {m : List Int} {i j : Nat} (h : Jn m i j) (hj : j ≤ i) (hs : j = 0 ∨ m.getD (j - 1) 0 ≤ m.getD j 0) : Sn m (i + 1) := fun x y h1 h2 => by
  by_cases ex : x = j
  · subst ex; exact h.2 y h1 (by omega)
  · by_cases ey : y = j
    · subst ey
      rcases hs with hs | hs
      · omega
      · by_cases e : x = y - 1
        · rw [e]; exact hs
        · exact Int.le_trans (h.1 x (y - 1) (by omega) (by omega) ex (by omega)) hs
    · exact h.1 x y h1 (by omega) ex ey
def swap1 (m : List Int) (j : Nat) : List Int := (m.set j (m.getD (j - 1) 0)).set (j - 1) (m.getD j 0)
@[simp] theorem swap1_length (m : List Int) (j : Nat) : (swap1 m j).length = m.length := by simp [swap1]
theorem swap1_getD {m : List Int} {j : Nat} (h : j < m.length) (k : Nat) : (swap1 m j).getD k 0 = if k = j - 1 then m.getD j 0 else if k = j then m.getD (j - 1) 0 else m.getD k 0 := by
  rw [swap1, getD_setI _ _ _ _ (by simp; omega), getD_setI _ _ _ _ h]
theorem Jn.step {m : List Int} {i j : Nat} (h : Jn m i j) (hi : i < m.length) (hj : j ≤ i) (h0 : 0 < j) (hl : m.getD j 0 < m.getD (j - 1) 0) : Jn (swap1 m j) i (j - 1) := by
  have hg := swap1_getD (m := m) (j := j) (by omega)
  refine ⟨fun x y h1 h2 h3 h4 => ?_, fun y h1 h2 => ?_⟩
  · rw [hg, hg, if_neg h3, if_neg h4]
    by_cases ex : x = j
    · rw [if_pos ex, if_neg (by omega)]
      exact h.1 (j - 1) y (by omega) h2 (by omega) (by omega)
    · rw [if_neg ex]
      by_cases ey : y = j
      · rw [if_pos ey]
        exact h.1 x (j - 1) (by omega) (by omega) ex (by omega)
      · rw [if_neg ey]; exact h.1 x y h1 h2 ex ey
  · rw [hg, hg, if_pos rfl, if_neg (by omega)]
    by_cases ey : y = j
    · rw [if_pos ey]; omega
    · rw [if_neg ey]; exact h.2 y (by omega) h2
end Go.Proofs.YthbbjbfbeaiphaaGreat
end
section
/- Neighbours that are equal become one. -/
namespace Go.Proofs.YthbbjbfbeaiphaaGreat
open Go.Kv
set_option linter.unusedVariables false
set_option linter.unusedSimpArgs false
attribute [local irreducible] ACall PCall KL
/-- The list with one of each run. -/
def cpt : List Int → List Int
  | [] => []
  | a :: l => match l with
    | [] => [a]
    | b :: _ => if a = b then cpt l else a :: cpt l
end Go.Proofs.YthbbjbfbeaiphaaGreat
end
section
/- The idempotents of a table: points, deletion, both sides. -/
namespace Go.Proofs.YthbbjbfbeaiphaaGreat
open Go.Kv
set_option maxRecDepth 100000
def k62_b0 : KC := (.seq (.ops [oP 7 (.bin .lss (.t 6) (.t 5))])
  (.seq (.cond (.t 7) .skip (.exit 0))
  (.seq (.block 1 (.seq (.ops [mV 8 6, mV 4 8])
  (.ops [mV 9 3, mV 10 4, oP 11 (.bsl true 2 1 [(.t 10)]), oP 12 (.app (.t 9) (.t 11) 2 1), mV 3 12])))
  (.ops [oP 13 (.bin .add (.t 6) (iC 1)), mV 6 13]))))
def k62 : KC := (.seq (.ops [oP 2 (.mv (.c (.nils)))])
  (.seq (.ops [oP 3 (.mv (.c (.nils)))])
  (.seq (.seq (.ops [mV 5 0, oP 6 (.mv (iC 0))])
  (.block 0 (.loop k62_b0)))
  (.seq (.ops [mV 14 3, mV 2 14])
  .ret))))
theorem e62 : Ent 62 15 [11] [.t 2] k62 := ent Tryz.func62 (by kernel_rfl) (by kernel_rfl) (by kernel_rfl) (fun _ => by kernel_rfl) (by kernel_rfl)
end Go.Proofs.YthbbjbfbeaiphaaGreat
namespace Go.Proofs.YthbbjbfbeaiphaaGreat
open Go.Kv
set_option linter.unusedVariables false
set_option linter.unusedSimpArgs false
attribute [local irreducible] ACall PCall KL
/-- The numbers below n. -/
def pts (n : Nat) : List Int := mk n fun i => (i : Int)
theorem p62 (n : Nat) (hn : 1 ≤ n ∧ n ≤ 4294967296) : ACall Tryz.prog 62 [.int .i64 n] [] (fun v s => v = .ref 0 (n - 1) 0 (pts n).length ∧ s = [.arr (n - 1) 2 1 (ints (pts n))]) := by
  refine e62 (by simp) fun _ _ => ?_
  simp only [k62, argEnv, go_sem, ↓reduceIte, Nat.reduceEqDiff, Nat.reduceAdd, reduceCtorEq]
  refine KL_ind k62_b0.eq_1 (fun x : Nat => [(6, .int .i64 x), (5, .int .i64 n), (3, if x = 0 then .nils else .ref 0 (x - 1) 0 x)]) (fun x => if x = 0 then [] else [.arr (x - 1) 2 1 (ints (pts x))]) (fun x => x ≤ n) (fun x => n - x) [6, 5, 3] 0 rfl (by simp) (Nat.zero_le _) fun x hi ih => ?_
  simp only [go_sem, ↓reduceIte, Nat.reduceEqDiff, Nat.reduceAdd, reduceCtorEq]
  refine ⟨fun hx => ?_, fun hx => ?_⟩
  · rcases x with _ | x
    · simp only [go_sem, ↓reduceIte, Nat.reduceEqDiff, Nat.reduceAdd, reduceCtorEq]
      repeat' (first | refine And.intro ?_ ?_ | intro _)
      all_goals (try omega)
      refine ih 1 (by omega) (by omega) _ _ ?_ ?_
      · simp [keep]
      · simp [pts, mk, ints]
    · have hne : ¬ (x + 1 = 0) := by omega
      simp only [hne, if_false, Nat.add_sub_cancel]
      simp only [go_sem, ↓reduceIte, Nat.reduceEqDiff, Nat.reduceAdd, reduceCtorEq]
      have hl : (pts (x + 1)).length = x + 1 := by simp [pts]
      repeat' (first | refine And.intro ?_ ?_ | intro _)
      all_goals (try omega)
      refine ih (x + 1 + 1) (by omega) (by omega) _ _ ?_ ?_
      · simp [keep]
      · rw [List.take_of_length_le (by omega)]
        have := mk_succ (x + 1) fun i => (i : Int)
        simp only [pts] at this ⊢
        rw [this]
        rfl
  · obtain rfl : x = n := by omega
    have hne : ¬ (x = 0) := by omega
    simp only [hne, if_false]
    simp only [go_sem, ↓reduceIte, Nat.reduceEqDiff, Nat.reduceAdd, reduceCtorEq]
    refine Kv.Fin.now ⟨?_, rfl⟩
    simp [pts]
end Go.Proofs.YthbbjbfbeaiphaaGreat
end
section
/- All maps of n points. -/
namespace Go.Proofs.YthbbjbfbeaiphaaGreat
open Go.Kv
set_option linter.unusedVariables false
set_option linter.unusedSimpArgs false
attribute [local irreducible] ACall PCall KL
/-- The last j digits of k in base n, the greatest first. -/
def dg (n : Nat) : Nat → Nat → List Nat
  | 0, _ => []
  | j + 1, k => (k / n ^ j % n) :: dg n j k
@[simp] theorem dg_length (n : Nat) : ∀ j k, (dg n j k).length = j
  | 0, k => rfl
  | j + 1, k => by simp [dg, dg_length n j k]
/-- All maps of n points, in order. -/
def allM (n : Nat) : List (List Nat) := (List.range (n ^ n)).map (dg n n)
def fstM (n x : Nat) : List (List Int) := (List.range x).map fun k => mp (dg n n k)
@[simp] theorem fstM_length (n x : Nat) : (fstM n x).length = x := by simp [fstM]
end Go.Proofs.YthbbjbfbeaiphaaGreat
end
section
/- Images of sets of points, ranks, permutations. -/
namespace Go.Proofs.YthbbjbfbeaiphaaGreat
open Go.Kv
set_option linter.unusedVariables false
set_option linter.unusedSimpArgs false
attribute [local irreducible] ACall PCall KL
def insI (x : Int) : List Int → List Int
  | [] => [x]
  | y :: l => if x ≤ y then x :: y :: l else y :: insI x l
/-- The list in order. -/
def srt : List Int → List Int
  | [] => []
  | x :: l => insI x (srt l)
theorem insI_perm (x : Int) : ∀ l, (insI x l).Perm (x :: l)
  | [] => .refl _
  | y :: l => by
    unfold insI
    split
    · exact .refl _
    · exact ((insI_perm x l).cons y).trans (.swap x y l)
theorem srt_perm : ∀ l, (srt l).Perm l
  | [] => .refl _
  | x :: l => (insI_perm x _).trans ((srt_perm l).cons x)
theorem insI_sorted (x : Int) : ∀ l : List Int, l.Pairwise (· ≤ ·) → (insI x l).Pairwise (· ≤ ·)
  | [], _ => by simp [insI]
  | y :: l, h => by
    rw [List.pairwise_cons] at h
    unfold insI
    split
    · rename_i hx
      refine List.pairwise_cons.2 ⟨fun z hz => ?_, List.pairwise_cons.2 h⟩
      rcases List.mem_cons.1 hz with rfl | hz
      · exact hx
      · exact Int.le_trans hx (h.1 z hz)
    · rename_i hx
      refine List.pairwise_cons.2 ⟨fun z hz => ?_, insI_sorted x l h.2⟩
      rcases List.mem_cons.1 ((insI_perm x l).mem_iff.1 hz) with rfl | hz
      · omega
      · exact h.1 z hz
theorem srt_sorted : ∀ l, (srt l).Pairwise (· ≤ ·)
  | [] => .nil
  | x :: l => insI_sorted x _ (srt_sorted l)
theorem sorted_uniq : ∀ {r s : List Int}, r.Perm s → r.Pairwise (· ≤ ·) → s.Pairwise (· ≤ ·) → r = s
  | [], s, h, _, _ => (h.nil_eq)
  | x :: r, [], h, _, _ => by have := h.length_eq; simp at this
  | x :: r, y :: s, h, hr, hs => by
    rw [List.pairwise_cons] at hr hs
    have e : x = y := by
      have h1 : x ∈ y :: s := h.mem_iff.1 (by simp)
      have h2 : y ∈ x :: r := h.mem_iff.2 (by simp)
      rcases List.mem_cons.1 h1 with h1 | h1
      · exact h1
      · rcases List.mem_cons.1 h2 with h2 | h2
        · exact h2.symm
        · have := hs.1 x h1; have := hr.1 y h2; omega
    subst e
    rw [sorted_uniq (List.Perm.cons_inv h) hr.2 hs.2]
@[simp] theorem srt_length (l : List Int) : (srt l).length = l.length := (srt_perm l).length_eq
end Go.Proofs.YthbbjbfbeaiphaaGreat
end
end
section
/- Sets of points: as ascending lists, as bits. -/
namespace Go.Proofs.YthbbjbfbeaiphaaGreat
open Go.Kv
set_option linter.unusedVariables false
set_option linter.unusedSimpArgs false
attribute [local irreducible] ACall PCall KL
theorem sb_ext {l m : List Nat} (h : ∀ x, x ∈ l ↔ x ∈ m) : sb l = sb m := by
  apply Nat.eq_of_testBit_eq
  intro i
  rw [sb_test, sb_test]
  simp only [h i]
/-- The points of a list that are images of points of a set, as far as point x. -/
def mvd (f : List Nat) (l : List Nat) (x : Nat) : List Nat := ((List.range x).filter fun p => decide (p ∈ l)).map fun p => f.getD p 0
theorem mvd_all {f l : List Nat} {n : Nat} (hl : ∀ x ∈ l, x < n) : sb (mvd f l n) = sb (l.map fun p => f.getD p 0) := sb_ext fun y => by
  simp only [mvd, List.mem_map, List.mem_filter, List.mem_range, decide_eq_true_eq]
  exact ⟨fun ⟨p, ⟨_, h⟩, e⟩ => ⟨p, h, e⟩, fun ⟨p, h, e⟩ => ⟨p, ⟨hl p h, h⟩, e⟩⟩
theorem nodup_len : ∀ (n : Nat) (l : List Nat), l.Nodup → (∀ x ∈ l, x < n) → l.length ≤ n
  | 0, l, _, h => by
    cases l with
    | nil => simp
    | cons a l => exact absurd (h a (by simp)) (by omega)
  | n + 1, l, hn, h => by
    have h1 := nodup_len n (l.filter fun x => decide (x ≠ n)) (hn.filter _) fun x hx => by
      simp only [List.mem_filter, decide_eq_true_eq] at hx
      have := h x hx.1
      omega
    have h2 : l.length ≤ (l.filter fun x => decide (x ≠ n)).length + 1 := by
      clear h h1
      induction l with
      | nil => simp
      | cons a l ih =>
        rw [List.nodup_cons] at hn
        by_cases e : a = n
        · subst e
          have : l.filter (fun x => decide (x ≠ a)) = l := List.filter_eq_self.2 fun x hx => by
            simp only [decide_eq_true_eq]; rintro rfl; exact hn.1 hx
          rw [List.filter_cons_of_neg (by simp), this]; simp
        · rw [List.filter_cons_of_pos (by simpa using e)]
          have := ih hn.2
          simp only [List.length_cons]; omega
    omega
/-- The bits of a set, and of its image. -/
def bits (p : List Int) : Nat := sb (p.map Int.toNat)
end Go.Proofs.YthbbjbfbeaiphaaGreat
end
section
/- The search: what it calls. -/
namespace Go.Proofs.YthbbjbfbeaiphaaGreat
open Go.Kv
set_option maxRecDepth 100000
def k59_b0 : KC := (.seq (.ops [oP 14 (.bin .lss (.t 13) (.t 12))])
  (.seq (.cond (.t 14) .skip (.exit 0))
  (.seq (.block 1 (.seq (.ops [mV 15 13, mV 5 15])
  (.seq (.draw [mV 16 0, mV 17 5, oP 18 (.idxS 1 (.t 16) (.t 17)), oP 19 (.load false 1 (.t 18)), mV 20 1, mV 21 5, oP 22 (.idxS 1 (.t 20) (.t 21)), oP 23 (.load false 1 (.t 22)), oP 24 (.bin .neq (.t 19) (.t 23))])
  (.cond (.t 24) (.seq (.ops [oP 4 (.mv (.c (.bool false)))])
  .ret) .skip))))
  (.ops [oP 25 (.bin .add (.t 13) (iC 1)), mV 13 25]))))
def k59 : KC := (.seq (.ops [oP 4 (.mv (.c (.bool false)))])
  (.seq (.seq (.ops [mV 6 0, oP 7 (.len false (.t 6)), mV 8 1, oP 9 (.len false (.t 8)), oP 10 (.bin .neq (.t 7) (.t 9))])
  (.cond (.t 10) (.seq (.ops [oP 4 (.mv (.c (.bool false)))])
  .ret) .skip))
  (.seq (.seq (.ops [mV 11 0, oP 12 (.len false (.t 11)), oP 13 (.mv (iC 0))])
  (.block 0 (.loop k59_b0)))
  (.seq (.ops [oP 4 (.mv (.c (.bool true)))])
  .ret))))
theorem e59 : Ent 59 26 [] [.t 4] k59 := ent Tryz.func59 (by kernel_rfl) (by kernel_rfl) (by kernel_rfl) (fun _ => by kernel_rfl) (by kernel_rfl)
end Go.Proofs.YthbbjbfbeaiphaaGreat
namespace Go.Proofs.YthbbjbfbeaiphaaGreat
open Go.Kv
set_option linter.unusedVariables false
set_option linter.unusedSimpArgs false
attribute [local irreducible] ACall PCall KL
/-- What has been met: points, and a word. -/
abbrev Met := List Int × List Int
def mcell (m : Met) : PV := .agg [.list (ints m.1), .list (ints m.2)]
def mets (l : List Met) : List PV := l.map mcell
@[simp] theorem mets_length (l : List Met) : (mets l).length = l.length := by simp [mets]
theorem mets_get {l : List Met} {i : Nat} (h : i < l.length) : (mets l)[i]? = some (mcell l[i]) := by simp [mets, h]
instance (m : Met) : Still (mcell m) := by unfold mcell; infer_instance
instance (l : List Met) : Still (.list (mets l)) := Still.list fun x hx => by
  obtain ⟨m, _, rfl⟩ := List.mem_map.1 hx
  refine ⟨inferInstance, fun c hc => ?_⟩
  simp only [mcell, PV.cs, List.mem_cons, List.mem_singleton, List.not_mem_nil, or_false] at hc
  rcases hc with rfl | rfl <;> exact upto_ints 0 _
theorem p59 (xs ys : List Int) (hl : ys.length ≤ 4294967296) (hl' : xs.length ≤ 4294967296) : Pure Tryz.prog 59 [.list (ints xs), .list (ints ys)] (.bool (decide (xs = ys))) := by
  refine e59 (by simp) fun _ _ => ?_
  simp only [k59, argEnv, take6, List.drop_zero, Int.cast_ofNat_Int, go_sem, ↓reduceIte, Nat.reduceEqDiff, Nat.reduceAdd, Nat.reduceMul, Nat.reduceLeDiff, Nat.reduceLT, Int.reduceLE, Int.reduceLT, reduceCtorEq]
  refine ⟨fun h => ?_, fun h => ?_⟩
  · exact Kv.Fin.still ⟨by rw [decide_eq_false (fun e => h (by rw [e]))], rfl⟩
  · have hxy : xs.length = ys.length := by omega
    refine KL_ind k59_b0.eq_1 (fun x : Nat => [(0, .list (ints xs)), (1, .list (ints ys)), (12, .int .i64 xs.length), (13, .int .i64 x)]) (fun _ => []) (fun x => x ≤ xs.length ∧ xs.take x = ys.take x) (fun x => xs.length - x) [0, 1, 12, 13] 0 (by rfl) rfl ⟨Nat.zero_le _, by simp⟩ fun x ⟨hx, he⟩ ih => ?_
    try simp only [take6, List.drop_zero, Int.cast_ofNat_Int, go_sem, ↓reduceIte, Nat.reduceEqDiff, Nat.reduceAdd, Nat.reduceMul, Nat.reduceLeDiff, Nat.reduceLT, Int.reduceLE, Int.reduceLT, reduceCtorEq]
    refine ⟨fun h1 => ?_, fun h1 => ?_⟩
    · have h2 : x < xs.length := by omega
      have h3 : x < ys.length := by omega
      refine ⟨by omega, fun _ => ⟨by omega, fun _ => ⟨fun h4 => ?_, fun h4 => ⟨by omega, ?_⟩⟩⟩⟩
      · rw [getD_eq h2, getD_eq h3] at h4
        exact Kv.Fin.still ⟨by rw [decide_eq_false]; rintro rfl; exact h4 rfl, rfl⟩
      · rw [getD_eq h2, getD_eq h3] at h4
        refine ih (x + 1) ⟨by omega, ?_⟩ (by omega) _ _ (by rfl) rfl
        rw [List.take_succ_eq_append_getElem h2, List.take_succ_eq_append_getElem h3, he, h4]
    · obtain rfl : x = xs.length := by omega
      rw [List.take_length, hxy, List.take_length] at he
      exact Kv.Fin.still ⟨by rw [decide_eq_true he], rfl⟩
end Go.Proofs.YthbbjbfbeaiphaaGreat
end
section
/- A word's slice, in the heap. -/
namespace Go.Proofs.YthbbjbfbeaiphaaGreat
open Go.Kv
set_option linter.unusedVariables false
set_option linter.unusedSimpArgs false
attribute [local irreducible] ACall PCall KL
/-- A word's slice, in the heap; A: what is not to be it. -/
def Wd (σ : Heap) (A : Nat → Prop) (w : PV) (l : List Int) : Prop := (w = .nils ∧ l = []) ∨ ∃ id ver, w = .ref id ver 0 l.length ∧ σ[id]? = some (.arr ver 2 1 (ints l)) ∧ ¬ A id
theorem Wd.imm {σ : Heap} {A : Nat → Prop} {w : PV} {l : List Int} (h : Wd σ A w l) : Imm σ w (.list (ints l)) := by
  rcases h with ⟨rfl, rfl⟩ | ⟨id, ver, rfl, h, _⟩
  · exact .nils
  · exact .refi h
theorem Wd.keep {σ σ' : Heap} {A A' : Nat → Prop} {w : PV} {l : List Int} (h : Wd σ A w l) (hk : ∀ id, id < σ.length → ¬ A id → σ'[id]? = σ[id]? ∧ ¬ A' id) : Wd σ' A' w l := by
  rcases h with ⟨rfl, rfl⟩ | ⟨id, ver, rfl, h, ha⟩
  · exact .inl ⟨rfl, rfl⟩
  · have := hk id (List.getElem?_eq_some_iff.1 h).1 ha
    exact .inr ⟨id, ver, rfl, this.1.trans h, this.2⟩
theorem Wd.cs {σ : Heap} {A : Nat → Prop} {w : PV} {l : List Int} (h : Wd σ A w l) : w.cs = [w] ∧ w.ok = true := by
  rcases h with ⟨rfl, rfl⟩ | ⟨id, ver, rfl, h, ha⟩ <;> exact ⟨rfl, rfl⟩
end Go.Proofs.YthbbjbfbeaiphaaGreat
end
section
/- Several texts of this session as one. -/
section
/- The search: its walk. -/
namespace Go.Proofs.YthbbjbfbeaiphaaGreat
open Go.Kv
set_option linter.unusedVariables false
set_option linter.unusedSimpArgs false
attribute [local irreducible] ACall PCall KL
def qcell (w : PV) (m : Met) : PV := .agg [.list (ints m.1), w]
/-- The queue, in the heap. -/
structure QG (σ : Heap) (A : Nat → Prop) (q ver : Nat) (ws : List PV) (L : List Met) : Prop where
  out : σ[q]? = some (.arr ver 166 2 (List.zipWith qcell ws L))
  len : ws.length = L.length
  row : ∀ (i : Nat) (w : PV) (m : Met), ws[i]? = some w → L[i]? = some m → Wd σ (fun id => A id ∨ id = q) w m.2
theorem QG.cell {σ : Heap} {A : Nat → Prop} {q ver : Nat} {ws : List PV} {L : List Met} (h : QG σ A q ver ws L) {i : Nat} (hi : i < L.length) : ∃ w, ws[i]? = some w ∧ (List.zipWith qcell ws L)[i]? = some (qcell w L[i]) ∧ Wd σ (fun id => A id ∨ id = q) w L[i].2 := by
  have hw : i < ws.length := by rw [h.len]; exact hi
  refine ⟨ws[i], by simp [hw], by simp [List.getElem?_zipWith, hw, hi], h.row i _ _ (by simp [hw]) (by simp [hi])⟩
theorem QG.imm {σ : Heap} {A : Nat → Prop} {q ver : Nat} {ws : List PV} {L : List Met} (h : QG σ A q ver ws L) : Imm σ (.ref q ver 0 L.length) (.list (mets L)) := by
  refine .ref q ver 0 L.length 166 2 _ (mets L) h.out (by simp [h.len]) (mets_length L) (fun i x d hx hd => ?_) (fun i x d j c c' hx hd hc hc' => ?_)
  all_goals
    rw [Nat.zero_add] at hx
    have hi : i < L.length := by have := (List.getElem?_eq_some_iff.1 hd).1; simpa using this
    obtain ⟨w, hw, hc0, hW⟩ := h.cell hi
    rw [hc0] at hx; cases hx
    rw [mets_get hi] at hd; cases hd
  · exact ⟨rfl, by simp [mcell, PV.cs, PV.ok]⟩
  · rcases j with _ | _ | j
    · simp only [qcell, mcell, PV.cs, List.getElem?_cons_zero, Option.some.injEq] at hc hc'
      subst hc; subst hc'
      exact .still
    · simp only [qcell, mcell, PV.cs, List.getElem?_cons_succ, List.getElem?_cons_zero, Option.some.injEq] at hc hc'
      subst hc; subst hc'
      exact hW.imm
    · simp [qcell, PV.cs] at hc
theorem QG.keep {σ σ' : Heap} {A A' : Nat → Prop} {q ver : Nat} {ws : List PV} {L : List Met} (h : QG σ A q ver ws L) (hq : ¬ A q) (hk : ∀ id, id < σ.length → ¬ A id → σ'[id]? = σ[id]? ∧ ¬ A' id) : QG σ' A' q ver ws L where
  out := (hk q (List.getElem?_eq_some_iff.1 h.out).1 hq).1.trans h.out
  len := h.len
  row := fun i w m hw hm => (h.row i w m hw hm).keep fun id hid hA => by
    simp only [not_or] at hA ⊢
    exact ⟨(hk id hid hA.1).1, (hk id hid hA.1).2, hA.2⟩
end Go.Proofs.YthbbjbfbeaiphaaGreat
end
section
/- The points that are reached from one. -/
namespace Go.Proofs.YthbbjbfbeaiphaaGreat
open Go.Kv
set_option linter.unusedVariables false
set_option linter.unusedSimpArgs false
attribute [local irreducible] ACall PCall KL
/-- One point. -/
def one (n : Nat) (p : List Int) : Prop := ∃ q, q < n ∧ p = [(q : Int)]
end Go.Proofs.YthbbjbfbeaiphaaGreat
end
end
