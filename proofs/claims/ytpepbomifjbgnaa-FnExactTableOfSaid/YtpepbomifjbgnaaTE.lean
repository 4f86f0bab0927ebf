/- A map's number: the implementation. -/
import Derived.Test.YtpepbomifjbgnaaCb
import Derived.Test.YtpepbomifjbgnaaTD
namespace Go.Proofs.Ytpepbomifjbgnaa
open Go.Kv
set_option maxRecDepth 100000
/- (impl.Map).number -/
/- live [3, 7, 8] -/
def k145_b0 : KC := (.seq (.ops [⟨(some 9), none, .bin .lss (.t 8) (.c (.int .i64 5))⟩])
  (.seq (.cond (.t 9) .skip (.exit 0))
  (.seq (.block 1 (.seq (.ops [⟨(some 10), none, .idxV 5 1 false (.t 7) (.t 8)⟩, ⟨(some 5), none, .mv (.t 10)⟩])
  (.ops [⟨(some 11), none, .mv (.t 3)⟩, ⟨(some 12), none, .bin .mul (.t 11) (.c (.int .i64 5))⟩, ⟨(some 13), none, .mv (.t 5)⟩, ⟨(some 14), none, .bin .add (.t 12) (.t 13)⟩, ⟨(some 3), none, .mv (.t 14)⟩])))
  (.ops [⟨(some 15), none, .bin .add (.t 8) (.c (.int .i64 1))⟩, ⟨(some 8), none, .mv (.t 15)⟩]))))
def k145 : KC := (.seq (.ops [⟨(some 1), none, .box true (.t 0)⟩, ⟨(some 2), none, .mv (.c (.int .i64 0))⟩])
  (.seq (.ops [⟨(some 3), none, .mv (.c (.int .i64 0))⟩])
  (.seq (.seq (.ops [⟨(some 6), none, .fieldA 1 (.t 1)⟩, ⟨(some 7), none, .load true 5 (.t 6)⟩, ⟨(some 8), none, .mv (.c (.int .i64 0))⟩])
  (.block 0 (.loop k145_b0)))
  (.seq (.ops [⟨(some 16), none, .mv (.t 3)⟩, ⟨(some 2), none, .mv (.t 16)⟩])
  .ret))))
theorem e145 {args : List PV} {σ : Heap} {K : PV → Heap → Prop} (hl : args.length ≤ 17) (h : Wf σ → (∀ a ∈ args, PV.upto σ.length a) → vc (mkCfg Try.prog mixed [1] 17 σ.length) k145 (FinK σ.length [.t 2] K) (argEnv 0 args) σ) : ACall Try.prog 145 args σ K :=
  ACall_enter (C := mkCfg Try.prog mixed [1] 17 σ.length) (c := Try.f145.body.getD .skip) Try.func145 (by kernel_rfl) (by kernel_rfl) (by kernel_rfl) rfl hl (by kernel_rfl) (by kernel_rfl) h
end Go.Proofs.Ytpepbomifjbgnaa
namespace Go.Proofs.Ytpepbomifjbgnaa
open Go.Kv
set_option linter.unusedVariables false
set_option linter.unusedSimpArgs false
attribute [local irreducible] ACall PCall KL
/-- The number of five cells, of which k are read. -/
def numK (f : List Nat) : Nat → Nat
  | 0 => 0
  | k + 1 => numK f k * 5 + f.getD k 0
theorem numK_lt {f : List Nat} (h : ∀ x ∈ f, x < 5) : ∀ k, numK f k < 5 ^ k
  | 0 => by simp [numK]
  | k + 1 => by
    have h1 := numK_lt h k
    have h2 : f.getD k 0 < 5 := by
      rw [List.getD_eq_getElem?_getD]
      cases e : f[k]? with
      | none => simp
      | some x => exact h x (List.mem_of_getElem? e)
    rw [numK, Nat.pow_succ]; omega
theorem numK_inj {f g : List Nat} (hf : ∀ x ∈ f, x < 5) (hg : ∀ x ∈ g, x < 5) : ∀ k, numK f k = numK g k → ∀ i, i < k → f.getD i 0 = g.getD i 0
  | 0, _, i, hi => by omega
  | k + 1, h, i, hi => by
    have h2 : ∀ {f : List Nat}, (∀ x ∈ f, x < 5) → f.getD k 0 < 5 := fun {f} hf => by
      rw [List.getD_eq_getElem?_getD]
      cases e : f[k]? with
      | none => simp
      | some x => exact hf x (List.mem_of_getElem? e)
    have a := h2 hf
    have b := h2 hg
    simp only [numK] at h
    rcases Nat.lt_succ_iff_lt_or_eq.1 hi with c | rfl
    · exact numK_inj hf hg k (by omega) i c
    · omega
/-- Maps with as many points and one number are one map. -/
theorem num_inj {f g : List Nat} {n : Nat} (hf : Ok f n) (hg : Ok g n) (h : numK f 5 = numK g 5) : f = g := by
  have h5 := hf.le
  have e := numK_inj (fun x hx => by have := hf.lt x hx; omega) (fun x hx => by have := hg.lt x hx; omega) 5 h
  refine List.ext_getElem (by rw [hf.len, hg.len]) fun i h1 h2 => ?_
  have := e i (by have := hf.len; omega)
  simpa [List.getD_eq_getElem?_getD, h1, h2] using this
theorem p145 (f : List Nat) (n : Nat) (hf : Ok f n) : Pure Try.prog 145 [.agg (ints (mp f))] (.int .i64 (numK f 5)) := by
  have hlf := hf.mp_len
  have h5 := hf.le
  refine e145 (by simp) fun _ _ => ?_
  simp only [k145, argEnv, hlf, take6, List.drop_zero, Int.cast_ofNat_Int, go_sem, ↓reduceIte, Nat.reduceEqDiff, Nat.reduceAdd, Nat.reduceMul, Nat.reduceLeDiff, Nat.reduceLT, Int.reduceLE, Int.reduceLT, reduceCtorEq]
  refine KL_ind k145_b0.eq_1 (fun y : Nat => [(3, .int .i64 (numK f y)), (7, .agg (ints (List.take 5 (List.drop 1 (mp f))))), (8, .int .i64 y)]) (fun _ => []) (fun y => y ≤ 5) (fun y => 5 - y) [3, 7, 8] 0 (by simp [keep, numK]) rfl (Nat.zero_le _) fun y hy ih => ?_
  have hl5 : (List.take 5 (List.drop 1 (mp f))).length = 5 := by simp [hlf]
  try simp only [hl5, take6, List.drop_zero, Int.cast_ofNat_Int, go_sem, ↓reduceIte, Nat.reduceEqDiff, Nat.reduceAdd, Nat.reduceMul, Nat.reduceLeDiff, Nat.reduceLT, Int.reduceLE, Int.reduceLT, reduceCtorEq]
  refine ⟨fun g1 => ?_, fun g1 => ?_⟩
  · have hN := numK_lt (f := f) (fun x hx => by have := hf.lt x hx; omega) y
    have hN' : numK f y < 3125 := Nat.lt_of_lt_of_le hN (by
      have : (5 : Nat) ^ y ≤ 5 ^ 5 := Nat.pow_le_pow_right (by decide) hy
      omega)
    have hg : (List.take 5 (List.drop 1 (mp f))).getD y 0 = (f.getD y 0 : Int) := by
      have : (List.take 5 (List.drop 1 (mp f))).getD y 0 = (mp f).getD (y + 1) 0 := by
        rw [List.take_of_length_le (by simp [hlf])]
        simp [List.getD_eq_getElem?_getD, Nat.add_comm]
      rw [this, mp, mpN_get]
    have hb : f.getD y 0 < 5 := by
      rw [List.getD_eq_getElem?_getD]
      cases e : f[y]? with
      | none => simp
      | some x => have := hf.lt x (List.mem_of_getElem? e); simp; omega
    rw [hg]
    have g2 : y < 5 := by omega
    exact ⟨g1, g2, fun _ => ⟨by omega, by omega, by omega, ih (y + 1) (by omega) (by omega) _ _ (by simp [keep, numK]) rfl⟩⟩
  · obtain rfl : y = 5 := by omega
    try simp only [take6, List.drop_zero, Int.cast_ofNat_Int, go_sem, ↓reduceIte, Nat.reduceEqDiff, Nat.reduceAdd, Nat.reduceMul, Nat.reduceLeDiff, Nat.reduceLT, Int.reduceLE, Int.reduceLT, reduceCtorEq]
    exact Kv.Fin.still ⟨rfl, rfl⟩
end Go.Proofs.Ytpepbomifjbgnaa
