/- Isomorphisms of two tables that begin with some numbers: the specification's side of FindIsomorphism; what a fit of one number more is. -/
import Derived.Test.YtkljidghocnllaaCb
import Derived.Test.YtkljidghocnllaaCS
namespace Go.Proofs.Ytkljidghocnllaa
open Go.Kv
set_option maxRecDepth 100000
/- spec.l08Go -/
/- live [0, 1, 2, 3, 10, 11, 27, 28, 29, 30] -/
def k72_b0 : KC := (.seq (.seq (.ops [⟨(some 22), none, .mv (.t 11)⟩, ⟨(some 23), none, .mv (.t 0)⟩, ⟨(some 24), none, .len false (.t 23)⟩, ⟨(some 25), none, .bin .lss (.t 22) (.t 24)⟩, ⟨(some 26), none, .mv (.t 25)⟩, ⟨(some 27), some (26, true), .mv (.t 10)⟩, ⟨(some 28), some (26, true), .len false (.t 27)⟩, ⟨(some 29), some (26, true), .mv (.t 3)⟩, ⟨(some 30), some (26, true), .bin .lss (.t 28) (.t 29)⟩, ⟨(some 31), none, .pick (.t 26) (.t 30) (.c (.bool false))⟩])
  (.cond (.t 31) .skip (.exit 0)))
  (.seq (.block 1 (.seq (.ops [⟨(some 34), none, .mv (.t 2)⟩, ⟨(some 35), none, .call (.c (.fn (.func 109) [] [])) [(.t 34)]⟩, ⟨(some 36), none, .mv (.t 11)⟩, ⟨(some 37), none, .bsl true 2 1 [(.t 36)]⟩, ⟨(some 38), none, .app (.t 35) (.t 37) 2 1⟩, ⟨(some 12), none, .mv (.t 38)⟩])
  (.seq (.ops [⟨(some 39), none, .mv (.t 0)⟩, ⟨(some 40), none, .mv (.t 1)⟩, ⟨(some 41), none, .mv (.t 12)⟩, ⟨(some 42), none, .call (.c (.fn (.func 110) [] [])) [(.t 39), (.t 40), (.t 41)]⟩])
  (.cond (.t 42) (.ops [⟨(some 43), none, .mv (.t 10)⟩, ⟨(some 44), none, .mv (.t 0)⟩, ⟨(some 45), none, .mv (.t 1)⟩, ⟨(some 46), none, .mv (.t 12)⟩, ⟨(some 47), none, .mv (.t 3)⟩, ⟨(some 48), none, .mv (.t 10)⟩, ⟨(some 49), none, .len false (.t 48)⟩, ⟨(some 50), none, .bin .sub (.t 47) (.t 49)⟩, ⟨(some 51), none, .call (.c (.fn (.func 72) [] [])) [(.t 44), (.t 45), (.t 46), (.t 50)]⟩, ⟨(some 52), none, .app (.t 43) (.t 51) 50 1⟩, ⟨(some 10), none, .mv (.t 52)⟩]) .skip))))
  (.ops [⟨(some 32), none, .mv (.t 11)⟩, ⟨(some 33), none, .bin .add (.t 32) (.c (.int .i64 1))⟩, ⟨(some 11), none, .mv (.t 33)⟩])))
def k72 : KC := (.seq (.ops [⟨(some 8), none, .mv (.c (.nils))⟩])
  (.seq (.ops [⟨(some 13), none, .mv (.t 2)⟩, ⟨(some 14), none, .len false (.t 13)⟩, ⟨(some 9), none, .mv (.t 14)⟩])
  (.seq (.seq (.ops [⟨(some 15), none, .mv (.t 9)⟩, ⟨(some 16), none, .mv (.t 0)⟩, ⟨(some 17), none, .len false (.t 16)⟩, ⟨(some 18), none, .bin .eql (.t 15) (.t 17)⟩])
  (.cond (.t 18) (.seq (.ops [⟨(some 19), none, .mv (.t 2)⟩, ⟨(some 20), none, .bsl false 50 1 [(.t 19)]⟩, ⟨(some 8), none, .mv (.t 20)⟩])
  .ret) .skip))
  (.seq (.ops [⟨(some 21), none, .bsl false 50 1 []⟩, ⟨(some 10), none, .mv (.t 21)⟩])
  (.seq (.seq (.ops [⟨(some 11), none, .mv (.c (.int .i64 0))⟩])
  (.block 0 (.loop k72_b0)))
  (.seq (.ops [⟨(some 53), none, .mv (.t 10)⟩, ⟨(some 8), none, .mv (.t 53)⟩])
  .ret))))))
theorem e72 {args : List PV} {σ : Heap} {K : PV → Heap → Prop} (hl : args.length ≤ 54) (h : Wf σ → (∀ a ∈ args, PV.upto σ.length a) → vc (mkCfg Try.prog mixed [37] 54 σ.length) k72 (FinK σ.length [.t 8] K) (argEnv 0 args) σ) : ACall Try.prog 72 args σ K :=
  ACall_enter (C := mkCfg Try.prog mixed [37] 54 σ.length) (c := Try.f72.body.getD .skip) Try.func72 (by kernel_rfl) (by kernel_rfl) (by kernel_rfl) rfl hl (by kernel_rfl) (by kernel_rfl) h
/- spec.FindIsomorphism -/
def k31 : KC := (.seq (.ops [⟨(some 4), none, .mv (.c (.nils))⟩, ⟨(some 5), none, .mv (.c (.int .i64 0))⟩])
  (.seq (.block 0 (.seq (.ops [⟨(some 8), none, .mv (.t 0)⟩, ⟨(some 9), none, .call (.c (.fn (.func 66) [] [])) [(.t 8)]⟩, ⟨(some 10), none, .not (.t 9)⟩, ⟨(some 11), none, .mv (.t 10)⟩, ⟨(some 12), some (11, false), .mv (.t 1)⟩, ⟨(some 13), some (11, false), .call (.c (.fn (.func 66) [] [])) [(.t 12)]⟩, ⟨(some 14), some (11, false), .not (.t 13)⟩, ⟨(some 15), none, .pick (.t 11) (.c (.bool true)) (.t 14)⟩, ⟨(some 7), none, .mv (.t 15)⟩])
  (.cond (.t 7) (.seq (.ops [⟨(some 4), none, .mv (.c (.nils))⟩, ⟨(some 5), none, .mv (.c (.int .i64 2))⟩])
  .ret) (.seq (.ops [⟨(some 17), none, .mv (.t 0)⟩, ⟨(some 18), none, .len false (.t 17)⟩, ⟨(some 19), none, .bin .gtr (.t 18) (.c (.int .i64 10))⟩, ⟨(some 20), none, .mv (.t 19)⟩, ⟨(some 21), some (20, false), .mv (.t 1)⟩, ⟨(some 22), some (20, false), .len false (.t 21)⟩, ⟨(some 23), some (20, false), .bin .gtr (.t 22) (.c (.int .i64 10))⟩, ⟨(some 24), none, .pick (.t 20) (.c (.bool true)) (.t 23)⟩, ⟨(some 16), none, .mv (.t 24)⟩])
  (.cond (.t 16) (.seq (.ops [⟨(some 4), none, .mv (.c (.nils))⟩, ⟨(some 5), none, .mv (.c (.int .i64 3))⟩])
  .ret) (.seq (.ops [⟨(some 26), none, .mv (.t 0)⟩, ⟨(some 27), none, .len false (.t 26)⟩, ⟨(some 28), none, .mv (.t 1)⟩, ⟨(some 29), none, .len false (.t 28)⟩, ⟨(some 30), none, .bin .neq (.t 27) (.t 29)⟩, ⟨(some 25), none, .mv (.t 30)⟩])
  (.cond (.t 25) (.seq (.ops [⟨(some 4), none, .mv (.c (.nils))⟩, ⟨(some 5), none, .mv (.c (.int .i64 4))⟩])
  .ret) .skip)))))))
  (.seq (.ops [⟨(some 31), none, .mv (.t 0)⟩, ⟨(some 32), none, .mv (.t 1)⟩, ⟨(some 33), none, .bsl false 2 1 []⟩, ⟨(some 34), none, .call (.c (.fn (.func 72) [] [])) [(.t 31), (.t 32), (.t 33), (.c (.int .i64 1))]⟩, ⟨(some 6), none, .mv (.t 34)⟩])
  (.seq (.seq (.ops [⟨(some 35), none, .mv (.t 6)⟩, ⟨(some 36), none, .len false (.t 35)⟩, ⟨(some 37), none, .bin .eql (.t 36) (.c (.int .i64 0))⟩])
  (.cond (.t 37) (.seq (.ops [⟨(some 4), none, .mv (.c (.nils))⟩, ⟨(some 5), none, .mv (.c (.int .i64 4))⟩])
  .ret) .skip))
  (.seq (.ops [⟨(some 38), none, .mv (.t 6)⟩, ⟨(some 39), none, .idxS 1 (.t 38) (.c (.int .i64 0))⟩, ⟨(some 40), none, .load false 1 (.t 39)⟩, ⟨(some 4), none, .mv (.t 40)⟩, ⟨(some 5), none, .mv (.c (.int .i64 0))⟩])
  .ret)))))
theorem e31 {args : List PV} {σ : Heap} {K : PV → Heap → Prop} (hl : args.length ≤ 41) (h : Wf σ → (∀ a ∈ args, PV.upto σ.length a) → vc (mkCfg Try.prog mixed [] 41 σ.length) k31 (FinK σ.length [.t 4, .t 5] K) (argEnv 0 args) σ) : ACall Try.prog 31 args σ K :=
  ACall_enter (C := mkCfg Try.prog mixed [] 41 σ.length) (c := Try.f31.body.getD .skip) Try.func31 (by kernel_rfl) (by kernel_rfl) (by kernel_rfl) rfl hl (by kernel_rfl) (by kernel_rfl) h
/- (*impl.finder).fits -/
/- live [0, 3, 4, 17, 18, 25, 26, 43, 44, 45, 46, 47, 48, 49, 50, 51, 52, 53, 54, 55] -/
def k115_b0 : KC := (.seq (.ops [⟨(some 27), none, .bin .lss (.t 26) (.t 25)⟩])
  (.seq (.cond (.t 27) .skip (.exit 2))
  (.seq (.block 3 (.seq (.ops [⟨(some 28), none, .mv (.t 26)⟩, ⟨(some 5), none, .mv (.t 28)⟩])
  (.seq (.ops [⟨(some 29), none, .mv (.t 0)⟩, ⟨(some 30), none, .nilck (.t 29)⟩, ⟨(some 31), none, .fieldA 0 (.t 30)⟩, ⟨(some 32), none, .load false 1 (.t 31)⟩, ⟨(some 33), none, .mv (.t 4)⟩, ⟨(some 34), none, .idxS 1 (.t 32) (.t 33)⟩, ⟨(some 35), none, .load false 1 (.t 34)⟩, ⟨(some 36), none, .mv (.t 5)⟩, ⟨(some 37), none, .idxS 1 (.t 35) (.t 36)⟩, ⟨(some 38), none, .load false 1 (.t 37)⟩, ⟨(some 6), none, .mv (.t 38)⟩])
  (.seq (.seq (.ops [⟨(some 39), none, .mv (.t 6)⟩, ⟨(some 40), none, .mv (.t 3)⟩, ⟨(some 41), none, .bin .gtr (.t 39) (.t 40)⟩, ⟨(some 42), none, .mv (.t 41)⟩, ⟨(some 43), some (42, false), .mv (.t 4)⟩, ⟨(some 44), some (42, false), .mv (.t 3)⟩, ⟨(some 45), some (42, false), .bin .neq (.t 43) (.t 44)⟩, ⟨(some 46), some (42, false), .mv (.t 45)⟩, ⟨(some 47), some (46, true), .mv (.t 5)⟩, ⟨(some 48), some (46, true), .mv (.t 3)⟩, ⟨(some 49), some (46, true), .bin .neq (.t 47) (.t 48)⟩, ⟨(some 50), some (42, false), .pick (.t 46) (.t 49) (.c (.bool false))⟩, ⟨(some 51), some (42, false), .mv (.t 50)⟩, ⟨(some 52), some (51, true), .mv (.t 6)⟩, ⟨(some 53), some (51, true), .mv (.t 3)⟩, ⟨(some 54), some (51, true), .bin .neq (.t 52) (.t 53)⟩, ⟨(some 55), some (42, false), .pick (.t 51) (.t 54) (.c (.bool false))⟩, ⟨(some 56), none, .pick (.t 42) (.c (.bool true)) (.t 55)⟩])
  (.cond (.t 56) (.exit 3) .skip))
  (.seq (.draw [⟨(some 57), none, .mv (.t 0)⟩, ⟨(some 58), none, .nilck (.t 57)⟩, ⟨(some 59), none, .fieldA 1 (.t 58)⟩, ⟨(some 60), none, .load false 1 (.t 59)⟩, ⟨(some 61), none, .mv (.t 0)⟩, ⟨(some 62), none, .nilck (.t 61)⟩, ⟨(some 63), none, .fieldA 2 (.t 62)⟩, ⟨(some 64), none, .load false 1 (.t 63)⟩, ⟨(some 65), none, .mv (.t 4)⟩, ⟨(some 66), none, .idxS 1 (.t 64) (.t 65)⟩, ⟨(some 67), none, .load false 1 (.t 66)⟩, ⟨(some 68), none, .idxS 1 (.t 60) (.t 67)⟩, ⟨(some 69), none, .load false 1 (.t 68)⟩, ⟨(some 70), none, .mv (.t 0)⟩, ⟨(some 71), none, .nilck (.t 70)⟩, ⟨(some 72), none, .fieldA 2 (.t 71)⟩, ⟨(some 73), none, .load false 1 (.t 72)⟩, ⟨(some 74), none, .mv (.t 5)⟩, ⟨(some 75), none, .idxS 1 (.t 73) (.t 74)⟩, ⟨(some 76), none, .load false 1 (.t 75)⟩, ⟨(some 77), none, .idxS 1 (.t 69) (.t 76)⟩, ⟨(some 78), none, .load false 1 (.t 77)⟩, ⟨(some 79), none, .mv (.t 0)⟩, ⟨(some 80), none, .nilck (.t 79)⟩, ⟨(some 81), none, .fieldA 2 (.t 80)⟩, ⟨(some 82), none, .load false 1 (.t 81)⟩, ⟨(some 83), none, .mv (.t 6)⟩, ⟨(some 84), none, .idxS 1 (.t 82) (.t 83)⟩, ⟨(some 85), none, .load false 1 (.t 84)⟩, ⟨(some 86), none, .bin .neq (.t 78) (.t 85)⟩])
  (.cond (.t 86) (.seq (.ops [⟨(some 2), none, .mv (.c (.bool false))⟩])
  .ret) .skip))))))
  (.ops [⟨(some 87), none, .bin .add (.t 26) (.c (.int .i64 1))⟩, ⟨(some 26), none, .mv (.t 87)⟩]))))
/- live [0, 3, 17, 18, 43, 44, 45, 46, 47, 48, 49, 50, 51, 52, 53, 54, 55] -/
def k115_b1 : KC := (.seq (.ops [⟨(some 19), none, .bin .lss (.t 18) (.t 17)⟩])
  (.seq (.cond (.t 19) .skip (.exit 0))
  (.seq (.block 1 (.seq (.ops [⟨(some 20), none, .mv (.t 18)⟩, ⟨(some 4), none, .mv (.t 20)⟩])
  (.seq (.ops [⟨(some 21), none, .mv (.t 0)⟩, ⟨(some 22), none, .nilck (.t 21)⟩, ⟨(some 23), none, .fieldA 2 (.t 22)⟩, ⟨(some 24), none, .load false 1 (.t 23)⟩, ⟨(some 25), none, .len false (.t 24)⟩, ⟨(some 26), none, .mv (.c (.int .i64 0))⟩])
  (.block 2 (.loop k115_b0)))))
  (.ops [⟨(some 88), none, .bin .add (.t 18) (.c (.int .i64 1))⟩, ⟨(some 18), none, .mv (.t 88)⟩]))))
def k115 : KC := (.seq (.ops [⟨(some 2), none, .mv (.c (.bool false))⟩])
  (.seq (.ops [⟨(some 7), none, .mv (.t 0)⟩, ⟨(some 8), none, .nilck (.t 7)⟩, ⟨(some 9), none, .fieldA 2 (.t 8)⟩, ⟨(some 10), none, .load false 1 (.t 9)⟩, ⟨(some 11), none, .len false (.t 10)⟩, ⟨(some 12), none, .bin .sub (.t 11) (.c (.int .i64 1))⟩, ⟨(some 3), none, .mv (.t 12)⟩])
  (.seq (.seq (.ops [⟨(some 13), none, .mv (.t 0)⟩, ⟨(some 14), none, .nilck (.t 13)⟩, ⟨(some 15), none, .fieldA 2 (.t 14)⟩, ⟨(some 16), none, .load false 1 (.t 15)⟩, ⟨(some 17), none, .len false (.t 16)⟩, ⟨(some 18), none, .mv (.c (.int .i64 0))⟩])
  (.block 0 (.loop k115_b1)))
  (.seq (.ops [⟨(some 2), none, .mv (.c (.bool true))⟩])
  .ret))))
theorem e115 {args : List PV} {σ : Heap} {K : PV → Heap → Prop} (hl : args.length ≤ 89) (h : Wf σ → (∀ a ∈ args, PV.upto σ.length a) → vc (mkCfg Try.prog mixed [] 89 σ.length) k115 (FinK σ.length [.t 2] K) (argEnv 0 args) σ) : ACall Try.prog 115 args σ K :=
  ACall_enter (C := mkCfg Try.prog mixed [] 89 σ.length) (c := Try.f115.body.getD .skip) Try.func115 (by kernel_rfl) (by kernel_rfl) (by kernel_rfl) rfl hl (by kernel_rfl) (by kernel_rfl) h
end Go.Proofs.Ytkljidghocnllaa
namespace Go.Proofs.Ytkljidghocnllaa
open Go.Kv
set_option linter.unusedVariables false
set_option linter.unusedSimpArgs false
attribute [local irreducible] ACall PCall KL
/-- All isomorphisms that begin with p, d numbers being left, in order. -/
noncomputable def comps (a b : List (List Int)) : Nat → List Nat → List (List Nat)
  | 0, p => [p]
  | d + 1, p => ((List.range a.length).map fun q => if fitsB a b (p ++ [q]) = true then comps a b d (p ++ [q]) else []).flatten
noncomputable def cmpN (a b : List (List Int)) (d : Nat) (p : List Nat) (x : Nat) : List (List Nat) := ((List.range x).map fun q => if fitsB a b (p ++ [q]) = true then comps a b d (p ++ [q]) else []).flatten
theorem cmpN_succ (a b : List (List Int)) (d : Nat) (p : List Nat) (x : Nat) : cmpN a b d p (x + 1) = cmpN a b d p x ++ if fitsB a b (p ++ [x]) = true then comps a b d (p ++ [x]) else [] := by
  simp [cmpN, List.range_succ, List.flatten_append]
theorem cmpN_zero (a b : List (List Int)) (d : Nat) (p : List Nat) : cmpN a b d p 0 = [] := rfl
theorem cmpN_all (a b : List (List Int)) (d : Nat) (p : List Nat) : comps a b (d + 1) p = cmpN a b d p a.length := rfl
theorem comps_syc (a : List (List Int)) : ∀ (d : Nat) (p : List Nat), (comps a a d p).length = syc a d p ∧ ∀ x, (cmpN a a d p x).length = sycN a d p x
  | 0, p => by
    refine ⟨rfl, fun x => ?_⟩
    induction x with
    | zero => simp [sycN, cmpN]
    | succ x ih =>
      rw [sycN_succ, cmpN_succ, List.length_append, ih]
      split
      · rfl
      · rfl
  | d + 1, p => by
    have h1 : ∀ q, (comps a a (d + 1) q).length = syc a (d + 1) q := fun q => (comps_syc a d q).2 a.length
    refine ⟨h1 p, fun x => ?_⟩
    induction x with
    | zero => simp [sycN, cmpN]
    | succ x ih =>
      rw [sycN_succ, cmpN_succ, List.length_append, ih]
      split
      · rw [h1]
      · rfl
def toI (q : List Nat) : List Int := q.map fun x : Nat => (x : Int)
theorem comps_len {a b : List (List Int)} : ∀ (d : Nat) (p : List Nat), ∀ q ∈ comps a b d p, q.length = p.length + d
  | 0, p, q, h => by simp [comps] at h; subst h; rfl
  | d + 1, p, q, h => by
    simp only [comps, List.mem_flatten, List.mem_map] at h
    obtain ⟨l, ⟨x, _, rfl⟩, h⟩ := h
    split at h
    · have := comps_len d _ q h; simp at this; omega
    · simp at h
/-- Products agree where all three are told, everywhere. -/
def fitA (a b : List (List Int)) (p : List Nat) : Prop := ∀ i k, i < p.length → k < p.length → fit1 a b p i k
noncomputable def fitAB (a b : List (List Int)) (p : List Nat) : Bool := @decide (fitA a b p) (Classical.propDecidable _)
theorem fitAB_true {a b : List (List Int)} {p : List Nat} (h : fitA a b p) : fitAB a b p = true := by
  unfold fitAB; exact @decide_eq_true _ (Classical.propDecidable _) h
theorem fitAB_false {a b : List (List Int)} {p : List Nat} (h : ¬ fitA a b p) : fitAB a b p = false := by
  unfold fitAB; exact @decide_eq_false _ (Classical.propDecidable _) h
theorem fitAB_iff {a b : List (List Int)} {p : List Nat} : fitAB a b p = true ↔ fitA a b p := by
  by_cases h : fitA a b p
  · simp [fitAB_true h, h]
  · simp [fitAB_false h, h]
theorem getD_snoc (p : List Nat) (q i : Nat) : (p ++ [q]).getD i 0 = if i < p.length then p.getD i 0 else if i = p.length then q else 0 := by
  rw [List.getD_eq_getElem?_getD, List.getElem?_append]
  split
  · rw [List.getD_eq_getElem?_getD]
  · split
    · rename_i h1 h2; subst h2; simp
    · rename_i h1 h2
      have : ([q] : List Nat)[i - p.length]? = none := by rw [List.getElem?_eq_none_iff]; simp; omega
      rw [this]; rfl
/-- What is told of the first numbers stays so. -/
theorem fit1_snoc {a b : List (List Int)} {p : List Nat} (h : fitA a b p) (q : Nat) {i k : Nat} (hi : i < p.length) (hk : k < p.length) (h0 : 0 ≤ tat a i k) (hz : tat a i k ≠ p.length) : fit1 a b (p ++ [q]) i k := by
  intro hlt
  simp only [List.length_append, List.length_cons, List.length_nil] at hlt
  have h1 := h i k hi hk (by omega)
  rw [getD_snoc, getD_snoc, getD_snoc, if_pos (by omega), if_pos hi, if_pos hk]
  exact h1
theorem fits_snoc {a b : List (List Int)} {p : List Nat} {q : Nat} : Fits a b (p ++ [q]) ↔ q ∉ p ∧ fitA a b (p ++ [q]) := by
  have hl : (p ++ [q]).length = p.length + 1 := by simp
  constructor
  · rintro ⟨h1, h2⟩
    refine ⟨fun hm => ?_, h2⟩
    obtain ⟨i, hi, e⟩ := List.mem_iff_getElem.1 hm
    refine h1 i (by omega) ?_
    rw [hl, Nat.add_sub_cancel, getD_snoc, getD_snoc, if_pos hi, if_neg (by omega), if_pos rfl, List.getD_eq_getElem?_getD, List.getElem?_eq_getElem hi, ← e]
    rfl
  · rintro ⟨h1, h2⟩
    refine ⟨fun i hi => ?_, h2⟩
    rw [hl, Nat.add_sub_cancel, getD_snoc, getD_snoc, if_pos (by omega), if_neg (by omega), if_pos rfl, List.getD_eq_getElem?_getD, List.getElem?_eq_getElem (by omega : i < p.length)]
    intro e
    exact h1 (by rw [← e]; exact List.getElem_mem _)
theorem fits_in {a b : List (List Int)} {p : List Nat} {q : Nat} (h : q ∈ p) : fitsB a b (p ++ [q]) = false := fitsB_false fun hf => (fits_snoc.1 hf).1 h
theorem fits_out {a b : List (List Int)} {p : List Nat} {q : Nat} (h : q ∉ p) : fitsB a b (p ++ [q]) = fitAB a b (p ++ [q]) := by
  by_cases hf : fitA a b (p ++ [q])
  · rw [fitsB_true (fits_snoc.2 ⟨h, hf⟩), fitAB_true hf]
  · rw [fitsB_false fun hx => hf (fits_snoc.1 hx).2, fitAB_false hf]
@[simp] theorem toI_length (q : List Nat) : (toI q).length = q.length := by simp [toI]
theorem snoc_lt {p : List Nat} {q n : Nat} (hpx : ∀ i, i < p.length → p.getD i 0 < n) (hq : q < n) : ∀ i, i < (p ++ [q]).length → (p ++ [q]).getD i 0 < n := fun i hi => by
  rw [getD_snoc]
  simp only [List.length_append, List.length_cons, List.length_nil] at hi
  split
  · exact hpx i (by assumption)
  · rw [if_pos (by omega)]; exact hq
theorem toI_getD (q : List Nat) (i : Nat) : (toI q).getD i 0 = (q.getD i 0 : Int) := natD q i
set_option maxRecDepth 100000 in
theorem p115 (a b : List (List Int)) (p : List Nat) (q : Nat) (tl : List PV) (ha : isTab a = true) (hb : isTab b = true) (hab : b.length = a.length) (h10 : a.length ≤ 10) (hp : p.length < a.length) (hpx : ∀ i, i < p.length → p.getD i 0 < a.length) (hq : q < a.length) (hA : fitA a b p) :
    Pure Try.prog 115 [.fptr (.list (rows a) :: .list (rows b) :: .list (ints (toI (p ++ [q]))) :: tl) 0] (.bool (fitAB a b (p ++ [q]))) := by
  obtain ⟨hna, hsa⟩ := tab_sq ha
  obtain ⟨hnb, hsb⟩ := tab_sq hb
  have hPx := snoc_lt hpx hq
  have hPl : (p ++ [q]).length = p.length + 1 := by simp
  have hfs := fun i k (hi : i < p.length) (hk : k < p.length) => fit1_snoc hA q hi hk (tab_at ha (i := i) (j := k) (by omega) (by omega)).1
  generalize hP : p ++ [q] = P at *
  have hl1 : ((p.length + 1 : Nat) : Int) - 1 = p.length := by omega
  refine e115 (by simp) fun _ _ => ?_
  simp only [k115, argEnv, toI_length, hPl, hl1, take6, List.drop_zero, Int.cast_ofNat_Int, go_sem, ↓reduceIte, Nat.reduceEqDiff, Nat.reduceAdd, Nat.reduceMul, Nat.reduceLeDiff, Nat.reduceLT, Int.reduceLE, Int.reduceLT, reduceCtorEq]
  refine ⟨by omega, by omega, by omega, ?_⟩
  refine KL_ind k115_b1.eq_1 (fun x : Nat => [(0, .fptr (.list (rows a) :: .list (rows b) :: .list (ints (toI P)) :: tl) 0), (3, .int .i64 p.length), (17, .int .i64 (p.length + 1)), (18, .int .i64 x)]) (fun _ => []) (fun i => i ≤ p.length + 1 ∧ ∀ j k, j < i → k < p.length + 1 → fit1 a b P j k) (fun i => p.length + 1 - i) [0, 3, 17, 18] 0 (by simp [keep]) rfl ⟨Nat.zero_le _, fun j k hj => by omega⟩ fun i ⟨hi, hfi⟩ ihi => ?_
  try simp only [toI_length, hPl, take6, List.drop_zero, Int.cast_ofNat_Int, go_sem, ↓reduceIte, Nat.reduceEqDiff, Nat.reduceAdd, Nat.reduceMul, Nat.reduceLeDiff, Nat.reduceLT, Int.reduceLE, Int.reduceLT, reduceCtorEq]
  refine ⟨fun h2 => ?_, fun h2 => ?_⟩
  · have hip : i < p.length + 1 := by omega
    refine ⟨by omega, ?_⟩
    refine KL_ind k115_b0.eq_1 (fun k : Nat => [(0, .fptr (.list (rows a) :: .list (rows b) :: .list (ints (toI P)) :: tl) 0), (3, .int .i64 p.length), (4, .int .i64 i), (17, .int .i64 (p.length + 1)), (18, .int .i64 i), (25, .int .i64 (p.length + 1)), (26, .int .i64 k)]) (fun _ => []) (fun k => k ≤ p.length + 1 ∧ ∀ j, j < k → fit1 a b P i j) (fun k => p.length + 1 - k) [0, 3, 4, 17, 18, 25, 26] 0 (by simp [keep]) rfl ⟨Nat.zero_le _, fun j hj => by omega⟩ fun k ⟨hk, hfk⟩ ihk => ?_
    have hrow := hsa i (by omega)
    have hrb := hsb (P.getD i 0) (by have := hPx i (by omega); omega)
    try simp only [toI_length, toI_getD, hPl, hrow, hrb, take6, List.drop_zero, Int.cast_ofNat_Int, go_sem, ↓reduceIte, Nat.reduceEqDiff, Nat.reduceAdd, Nat.reduceMul, Nat.reduceLeDiff, Nat.reduceLT, Int.reduceLE, Int.reduceLT, reduceCtorEq]
    refine ⟨fun h3 => ?_, fun h3 => ?_⟩
    · have hkp : k < p.length + 1 := by omega
      have hta := tab_at ha (i := i) (j := k) (by omega) (by omega)
      have e1 : (a.getD i []).getD k 0 = tat a i k := rfl
      have e2 : (b.getD (P.getD i 0) []).getD (P.getD k 0) 0 = tat b (P.getD i 0) (P.getD k 0) := rfl
      have hpi := hPx i (by omega)
      have hpk := hPx k (by omega)
      rw [e1, e2]
      have hst : fit1 a b P i k → ∀ j, j < k + 1 → fit1 a b P i j := fun h j hj => by
        by_cases e : j = k
        · rw [e]; exact h
        · exact hfk j (by omega)
      repeat' (first | refine And.intro ?_ ?_ | intro _)
      all_goals first
        | omega
        | exact Kv.Fin.still ⟨by rw [fitAB_false fun h => by have := h i k (by omega) (by omega) (by omega); omega], rfl⟩
        | (refine ihk (k + 1) ⟨by omega, hst ?_⟩ (by omega) _ _ (by simp [keep]) rfl
           first
             | exact hfs i k (by omega) (by omega) (by omega)
             | (intro hlt; omega))
    · obtain rfl : k = p.length + 1 := by omega
      refine ⟨by omega, ?_⟩
      refine ihi (i + 1) ⟨by omega, fun j k hj hk => ?_⟩ (by omega) _ _ (by simp [keep]) rfl
      by_cases e : j = i
      · rw [e]; exact hfk k hk
      · exact hfi j k (by omega) hk
  · obtain rfl : i = p.length + 1 := by omega
    exact Kv.Fin.still ⟨by rw [fitAB_true fun i k hi hk => hfi i k (by omega) (by omega)], rfl⟩
end Go.Proofs.Ytkljidghocnllaa
