/- IsIsomorphism: both sides. -/
import Derived.Test.YtpepbomifjbgnaaCb
import Derived.Test.YtpepbomifjbgnaaSN
import Derived.Test.YtpepbomifjbgnaaG3
import Derived.Test.YtpepbomifjbgnaaG5
import Derived.Test.YtpepbomifjbgnaaG1
namespace Go.Proofs.Ytpepbomifjbgnaa
open Go.Kv
set_option maxRecDepth 100000
/- impl.IsIsomorphism -/
/- live [0, 1, 2, 8, 36, 37, 41, 42] -/
def k16_b0 : KC := (.seq (.ops [⟨(some 43), none, .bin .lss (.t 42) (.t 41)⟩])
  (.seq (.cond (.t 43) .skip (.exit 2))
  (.seq (.block 3 (.seq (.ops [⟨(some 44), none, .mv (.t 42)⟩, ⟨(some 9), none, .mv (.t 44)⟩])
  (.seq (.draw [⟨(some 45), none, .mv (.t 2)⟩, ⟨(some 46), none, .mv (.t 0)⟩, ⟨(some 47), none, .mv (.t 8)⟩, ⟨(some 48), none, .idxS 1 (.t 46) (.t 47)⟩, ⟨(some 49), none, .load false 1 (.t 48)⟩, ⟨(some 50), none, .mv (.t 9)⟩, ⟨(some 51), none, .idxS 1 (.t 49) (.t 50)⟩, ⟨(some 52), none, .load false 1 (.t 51)⟩, ⟨(some 53), none, .idxS 1 (.t 45) (.t 52)⟩, ⟨(some 54), none, .load false 1 (.t 53)⟩, ⟨(some 55), none, .mv (.t 1)⟩, ⟨(some 56), none, .mv (.t 2)⟩, ⟨(some 57), none, .mv (.t 8)⟩, ⟨(some 58), none, .idxS 1 (.t 56) (.t 57)⟩, ⟨(some 59), none, .load false 1 (.t 58)⟩, ⟨(some 60), none, .idxS 1 (.t 55) (.t 59)⟩, ⟨(some 61), none, .load false 1 (.t 60)⟩, ⟨(some 62), none, .mv (.t 2)⟩, ⟨(some 63), none, .mv (.t 9)⟩, ⟨(some 64), none, .idxS 1 (.t 62) (.t 63)⟩, ⟨(some 65), none, .load false 1 (.t 64)⟩, ⟨(some 66), none, .idxS 1 (.t 61) (.t 65)⟩, ⟨(some 67), none, .load false 1 (.t 66)⟩, ⟨(some 68), none, .bin .neq (.t 54) (.t 67)⟩])
  (.cond (.t 68) (.seq (.ops [⟨(some 6), none, .mv (.c (.bool false))⟩, ⟨(some 7), none, .mv (.c (.int .i64 0))⟩])
  .ret) .skip))))
  (.ops [⟨(some 69), none, .bin .add (.t 42) (.c (.int .i64 1))⟩, ⟨(some 42), none, .mv (.t 69)⟩]))))
/- live [0, 1, 2, 36, 37] -/
def k16_b1 : KC := (.seq (.ops [⟨(some 38), none, .bin .lss (.t 37) (.t 36)⟩])
  (.seq (.cond (.t 38) .skip (.exit 0))
  (.seq (.block 1 (.seq (.ops [⟨(some 39), none, .mv (.t 37)⟩, ⟨(some 8), none, .mv (.t 39)⟩])
  (.seq (.ops [⟨(some 40), none, .mv (.t 0)⟩, ⟨(some 41), none, .len false (.t 40)⟩, ⟨(some 42), none, .mv (.c (.int .i64 0))⟩])
  (.block 2 (.loop k16_b0)))))
  (.ops [⟨(some 70), none, .bin .add (.t 37) (.c (.int .i64 1))⟩, ⟨(some 37), none, .mv (.t 70)⟩]))))
def k16 : KC := (.seq (.ops [⟨(some 6), none, .mv (.c (.bool false))⟩, ⟨(some 7), none, .mv (.c (.int .i64 0))⟩])
  (.seq (.seq (.ops [⟨(some 10), none, .mv (.t 0)⟩, ⟨(some 11), none, .call (.c (.fn (.func 46) [] [])) [(.t 10)]⟩, ⟨(some 12), none, .not (.t 11)⟩, ⟨(some 13), none, .mv (.t 12)⟩, ⟨(some 14), some (13, false), .mv (.t 1)⟩, ⟨(some 15), some (13, false), .call (.c (.fn (.func 46) [] [])) [(.t 14)]⟩, ⟨(some 16), some (13, false), .not (.t 15)⟩, ⟨(some 17), none, .pick (.t 13) (.c (.bool true)) (.t 16)⟩, ⟨(some 18), none, .mv (.t 17)⟩, ⟨(some 19), some (18, false), .mv (.t 0)⟩, ⟨(some 20), some (18, false), .len false (.t 19)⟩, ⟨(some 21), some (18, false), .mv (.t 1)⟩, ⟨(some 22), some (18, false), .len false (.t 21)⟩, ⟨(some 23), some (18, false), .bin .neq (.t 20) (.t 22)⟩, ⟨(some 24), none, .pick (.t 18) (.c (.bool true)) (.t 23)⟩, ⟨(some 25), none, .mv (.t 24)⟩, ⟨(some 26), some (25, false), .mv (.t 2)⟩, ⟨(some 27), some (25, false), .call (.c (.fn (.func 49) [] [])) [(.t 26)]⟩, ⟨(some 28), some (25, false), .call (.c (.fn (.func 48) [] [])) [(.t 27)]⟩, ⟨(some 29), some (25, false), .mv (.t 0)⟩, ⟨(some 30), some (25, false), .len false (.t 29)⟩, ⟨(some 31), some (25, false), .call (.c (.fn (.func 50) [] [])) [(.t 30)]⟩, ⟨(some 32), some (25, false), .call (.c (.fn (.func 47) [] [])) [(.t 28), (.t 31)]⟩, ⟨(some 33), some (25, false), .not (.t 32)⟩, ⟨(some 34), none, .pick (.t 25) (.c (.bool true)) (.t 33)⟩])
  (.cond (.t 34) (.seq (.ops [⟨(some 6), none, .mv (.c (.bool false))⟩, ⟨(some 7), none, .mv (.c (.int .i64 2))⟩])
  .ret) .skip))
  (.seq (.seq (.ops [⟨(some 35), none, .mv (.t 0)⟩, ⟨(some 36), none, .len false (.t 35)⟩, ⟨(some 37), none, .mv (.c (.int .i64 0))⟩])
  (.block 0 (.loop k16_b1)))
  (.seq (.ops [⟨(some 6), none, .mv (.c (.bool true))⟩, ⟨(some 7), none, .mv (.c (.int .i64 0))⟩])
  .ret))))
theorem e16 {args : List PV} {σ : Heap} {K : PV → Heap → Prop} (hl : args.length ≤ 71) (h : Wf σ → (∀ a ∈ args, PV.upto σ.length a) → vc (mkCfg Try.prog mixed [] 71 σ.length) k16 (FinK σ.length [.t 6, .t 7] K) (argEnv 0 args) σ) : ACall Try.prog 16 args σ K :=
  ACall_enter (C := mkCfg Try.prog mixed [] 71 σ.length) (c := Try.f16.body.getD .skip) Try.func16 (by kernel_rfl) (by kernel_rfl) (by kernel_rfl) rfl hl (by kernel_rfl) (by kernel_rfl) h
/- spec.IsIsomorphism -/
/- live [0, 1, 2, 8, 9] -/
def k13_b0 : KC := (.seq (.seq (.ops [⟨(some 38), none, .mv (.t 9)⟩, ⟨(some 39), none, .mv (.t 0)⟩, ⟨(some 40), none, .len false (.t 39)⟩, ⟨(some 41), none, .bin .lss (.t 38) (.t 40)⟩])
  (.cond (.t 41) .skip (.exit 2)))
  (.seq (.block 3 (.seq (.draw [⟨(some 44), none, .mv (.t 2)⟩, ⟨(some 45), none, .mv (.t 0)⟩, ⟨(some 46), none, .mv (.t 8)⟩, ⟨(some 47), none, .idxS 1 (.t 45) (.t 46)⟩, ⟨(some 48), none, .load false 1 (.t 47)⟩, ⟨(some 49), none, .mv (.t 9)⟩, ⟨(some 50), none, .idxS 1 (.t 48) (.t 49)⟩, ⟨(some 51), none, .load false 1 (.t 50)⟩, ⟨(some 52), none, .idxS 1 (.t 44) (.t 51)⟩, ⟨(some 53), none, .load false 1 (.t 52)⟩, ⟨(some 54), none, .mv (.t 1)⟩, ⟨(some 55), none, .mv (.t 2)⟩, ⟨(some 56), none, .mv (.t 8)⟩, ⟨(some 57), none, .idxS 1 (.t 55) (.t 56)⟩, ⟨(some 58), none, .load false 1 (.t 57)⟩, ⟨(some 59), none, .idxS 1 (.t 54) (.t 58)⟩, ⟨(some 60), none, .load false 1 (.t 59)⟩, ⟨(some 61), none, .mv (.t 2)⟩, ⟨(some 62), none, .mv (.t 9)⟩, ⟨(some 63), none, .idxS 1 (.t 61) (.t 62)⟩, ⟨(some 64), none, .load false 1 (.t 63)⟩, ⟨(some 65), none, .idxS 1 (.t 60) (.t 64)⟩, ⟨(some 66), none, .load false 1 (.t 65)⟩, ⟨(some 67), none, .bin .neq (.t 53) (.t 66)⟩])
  (.cond (.t 67) (.seq (.ops [⟨(some 6), none, .mv (.c (.bool false))⟩, ⟨(some 7), none, .mv (.c (.int .i64 0))⟩])
  .ret) .skip)))
  (.ops [⟨(some 42), none, .mv (.t 9)⟩, ⟨(some 43), none, .bin .add (.t 42) (.c (.int .i64 1))⟩, ⟨(some 9), none, .mv (.t 43)⟩])))
/- live [0, 1, 2, 8] -/
def k13_b1 : KC := (.seq (.seq (.ops [⟨(some 32), none, .mv (.t 8)⟩, ⟨(some 33), none, .mv (.t 0)⟩, ⟨(some 34), none, .len false (.t 33)⟩, ⟨(some 35), none, .bin .lss (.t 32) (.t 34)⟩])
  (.cond (.t 35) .skip (.exit 0)))
  (.seq (.block 1 (.seq (.ops [⟨(some 9), none, .mv (.c (.int .i64 0))⟩])
  (.block 2 (.loop k13_b0))))
  (.ops [⟨(some 36), none, .mv (.t 8)⟩, ⟨(some 37), none, .bin .add (.t 36) (.c (.int .i64 1))⟩, ⟨(some 8), none, .mv (.t 37)⟩])))
def k13 : KC := (.seq (.ops [⟨(some 6), none, .mv (.c (.bool false))⟩, ⟨(some 7), none, .mv (.c (.int .i64 0))⟩])
  (.seq (.seq (.ops [⟨(some 10), none, .mv (.t 0)⟩, ⟨(some 11), none, .call (.c (.fn (.func 44) [] [])) [(.t 10)]⟩, ⟨(some 12), none, .not (.t 11)⟩, ⟨(some 13), none, .mv (.t 12)⟩, ⟨(some 14), some (13, false), .mv (.t 1)⟩, ⟨(some 15), some (13, false), .call (.c (.fn (.func 44) [] [])) [(.t 14)]⟩, ⟨(some 16), some (13, false), .not (.t 15)⟩, ⟨(some 17), none, .pick (.t 13) (.c (.bool true)) (.t 16)⟩, ⟨(some 18), none, .mv (.t 17)⟩, ⟨(some 19), some (18, false), .mv (.t 0)⟩, ⟨(some 20), some (18, false), .len false (.t 19)⟩, ⟨(some 21), some (18, false), .mv (.t 1)⟩, ⟨(some 22), some (18, false), .len false (.t 21)⟩, ⟨(some 23), some (18, false), .bin .neq (.t 20) (.t 22)⟩, ⟨(some 24), none, .pick (.t 18) (.c (.bool true)) (.t 23)⟩, ⟨(some 25), none, .mv (.t 24)⟩, ⟨(some 26), some (25, false), .mv (.t 2)⟩, ⟨(some 27), some (25, false), .mv (.t 0)⟩, ⟨(some 28), some (25, false), .len false (.t 27)⟩, ⟨(some 29), some (25, false), .call (.c (.fn (.func 45) [] [])) [(.t 26), (.t 28)]⟩, ⟨(some 30), some (25, false), .not (.t 29)⟩, ⟨(some 31), none, .pick (.t 25) (.c (.bool true)) (.t 30)⟩])
  (.cond (.t 31) (.seq (.ops [⟨(some 6), none, .mv (.c (.bool false))⟩, ⟨(some 7), none, .mv (.c (.int .i64 2))⟩])
  .ret) .skip))
  (.seq (.seq (.ops [⟨(some 8), none, .mv (.c (.int .i64 0))⟩])
  (.block 0 (.loop k13_b1)))
  (.seq (.ops [⟨(some 6), none, .mv (.c (.bool true))⟩, ⟨(some 7), none, .mv (.c (.int .i64 0))⟩])
  .ret))))
theorem e13 {args : List PV} {σ : Heap} {K : PV → Heap → Prop} (hl : args.length ≤ 68) (h : Wf σ → (∀ a ∈ args, PV.upto σ.length a) → vc (mkCfg Try.prog mixed [] 68 σ.length) k13 (FinK σ.length [.t 6, .t 7] K) (argEnv 0 args) σ) : ACall Try.prog 13 args σ K :=
  ACall_enter (C := mkCfg Try.prog mixed [] 68 σ.length) (c := Try.f13.body.getD .skip) Try.func13 (by kernel_rfl) (by kernel_rfl) (by kernel_rfl) rfl hl (by kernel_rfl) (by kernel_rfl) h
/- spec.l08Order -/
/- live [0, 1, 5, 6, 27, 28, 29, 30, 31, 32, 33] -/
def k45_b0 : KC := (.seq (.seq (.ops [⟨(some 13), none, .mv (.t 6)⟩, ⟨(some 14), none, .mv (.t 1)⟩, ⟨(some 15), none, .bin .lss (.t 13) (.t 14)⟩])
  (.cond (.t 15) .skip (.exit 0)))
  (.seq (.block 1 (.seq (.seq (.ops [⟨(some 18), none, .mv (.t 0)⟩, ⟨(some 19), none, .mv (.t 6)⟩, ⟨(some 20), none, .idxS 1 (.t 18) (.t 19)⟩, ⟨(some 21), none, .load false 1 (.t 20)⟩, ⟨(some 22), none, .mv (.t 1)⟩, ⟨(some 23), none, .bin .sub (.t 22) (.c (.int .i64 1))⟩, ⟨(some 24), none, .call (.c (.fn (.func 90) [] [])) [(.t 21), (.c (.int .i64 0)), (.t 23)]⟩, ⟨(some 25), none, .not (.t 24)⟩, ⟨(some 26), none, .mv (.t 25)⟩, ⟨(some 27), some (26, false), .mv (.t 5)⟩, ⟨(some 28), some (26, false), .mv (.t 0)⟩, ⟨(some 29), some (26, false), .mv (.t 6)⟩, ⟨(some 30), some (26, false), .idxS 1 (.t 28) (.t 29)⟩, ⟨(some 31), some (26, false), .load false 1 (.t 30)⟩, ⟨(some 32), some (26, false), .idxS 1 (.t 27) (.t 31)⟩, ⟨(some 33), some (26, false), .load false 1 (.t 32)⟩, ⟨(some 34), none, .pick (.t 26) (.c (.bool true)) (.t 33)⟩])
  (.cond (.t 34) (.seq (.ops [⟨(some 4), none, .mv (.c (.bool false))⟩])
  .ret) .skip))
  (.ops [⟨(some 35), none, .mv (.t 5)⟩, ⟨(some 36), none, .mv (.t 0)⟩, ⟨(some 37), none, .mv (.t 6)⟩, ⟨(some 38), none, .idxS 1 (.t 36) (.t 37)⟩, ⟨(some 39), none, .load false 1 (.t 38)⟩, ⟨(some 40), none, .idxS 1 (.t 35) (.t 39)⟩, ⟨none, none, .store 1 (.t 40) (.c (.bool true))⟩])))
  (.ops [⟨(some 16), none, .mv (.t 6)⟩, ⟨(some 17), none, .bin .add (.t 16) (.c (.int .i64 1))⟩, ⟨(some 6), none, .mv (.t 17)⟩])))
def k45 : KC := (.seq (.ops [⟨(some 4), none, .mv (.c (.bool false))⟩])
  (.seq (.ops [⟨(some 7), none, .mv (.t 1)⟩, ⟨(some 8), none, .mks 4 1 (.bool false) (.t 7) (.t 7)⟩, ⟨(some 5), none, .mv (.t 8)⟩])
  (.seq (.seq (.ops [⟨(some 9), none, .mv (.t 0)⟩, ⟨(some 10), none, .len false (.t 9)⟩, ⟨(some 11), none, .mv (.t 1)⟩, ⟨(some 12), none, .bin .neq (.t 10) (.t 11)⟩])
  (.cond (.t 12) (.seq (.ops [⟨(some 4), none, .mv (.c (.bool false))⟩])
  .ret) .skip))
  (.seq (.seq (.ops [⟨(some 6), none, .mv (.c (.int .i64 0))⟩])
  (.block 0 (.loop k45_b0)))
  (.seq (.ops [⟨(some 4), none, .mv (.c (.bool true))⟩])
  .ret)))))
theorem e45 {args : List PV} {σ : Heap} {K : PV → Heap → Prop} (hl : args.length ≤ 41) (h : Wf σ → (∀ a ∈ args, PV.upto σ.length a) → vc (mkCfg Try.prog mixed [] 41 σ.length) k45 (FinK σ.length [.t 4] K) (argEnv 0 args) σ) : ACall Try.prog 45 args σ K :=
  ACall_enter (C := mkCfg Try.prog mixed [] 41 σ.length) (c := Try.f45.body.getD .skip) Try.func45 (by kernel_rfl) (by kernel_rfl) (by kernel_rfl) rfl hl (by kernel_rfl) (by kernel_rfl) h
end Go.Proofs.Ytpepbomifjbgnaa
namespace Go.Proofs.Ytpepbomifjbgnaa
open Go.Kv
set_option linter.unusedVariables false
set_option linter.unusedSimpArgs false
attribute [local irreducible] ACall PCall KL
/-- A list has the numbers 0 to n - 1, each once. -/
def ordB (p : List Int) (n : Nat) : Bool := decide (srt p = pts n)
theorem pts_mem (n : Nat) (x : Int) : x ∈ pts n ↔ 0 ≤ x ∧ x ≤ (n : Int) - 1 := by
  unfold pts mk
  rw [List.mem_map]
  constructor
  · rintro ⟨i, hi, rfl⟩
    rw [List.mem_range] at hi
    omega
  · intro h
    exact ⟨x.toNat, List.mem_range.2 (by omega), by omega⟩
theorem pts_nodup (n : Nat) : (pts n).Nodup := by
  unfold pts mk
  rw [List.nodup_iff_pairwise_ne, List.pairwise_map]
  exact List.pairwise_lt_range.imp fun h e => by omega
theorem pts_sorted (n : Nat) : (pts n).Pairwise (· ≤ ·) := by
  unfold pts mk
  rw [List.pairwise_map]
  exact List.pairwise_lt_range.imp fun h => by omega
theorem pts_len (n : Nat) : (pts n).length = n := by simp [pts, mk]
theorem ord_perm {p : List Int} {n : Nat} (h : ordB p n = true) : p.Perm (pts n) := by
  have h := of_decide_eq_true h
  rw [← h]; exact (srt_perm p).symm
theorem ord_true {p : List Int} {n : Nat} (hl : p.length = n) (hr : ∀ x ∈ p, 0 ≤ x ∧ x ≤ (n : Int) - 1) (hd : p.Nodup) : ordB p n = true := by
  have hsub : ∀ x, x ∈ pts n → x ∈ p := fun x hx => by
    refine Classical.byContradiction fun hno => ?_
    have h1 := nodup_len n ((x :: p).map Int.toNat) ?_ ?_
    · simp at h1; omega
    · rw [List.nodup_iff_pairwise_ne, List.pairwise_map, List.pairwise_cons]
      have hx2 := (pts_mem n x).1 hx
      refine ⟨fun y hy e => hno ?_, ?_⟩
      · have := hr y hy
        have : x = y := by omega
        rw [this]; exact hy
      · exact (List.nodup_iff_pairwise_ne.1 hd).imp_of_mem fun {a b} ha hb hab e => by
          have := hr a ha; have := hr b hb
          exact hab (by omega)
    · intro y hy
      obtain ⟨z, hz, rfl⟩ := List.mem_map.1 hy
      rcases List.mem_cons.1 hz with rfl | hz
      · have := (pts_mem n z).1 hx; omega
      · have := hr z hz; omega
  have hp : p.Perm (pts n) := (List.perm_ext_iff_of_nodup hd (pts_nodup n)).2 fun x => ⟨fun hx => (pts_mem n x).2 (hr x hx), hsub x⟩
  exact decide_eq_true (sorted_uniq ((srt_perm p).trans hp) (srt_sorted p) (pts_sorted n))
theorem ord_all {p : List Int} {n : Nat} (h : ordB p n = true) : p.length = n ∧ (∀ x ∈ p, 0 ≤ x ∧ x ≤ (n : Int) - 1) ∧ p.Nodup := by
  have hp := ord_perm h
  exact ⟨by rw [hp.length_eq, pts_len], fun x hx => (pts_mem n x).1 (hp.mem_iff.1 hx), hp.nodup_iff.2 (pts_nodup n)⟩
def blz (m : List Bool) : List PV := m.map PV.bool
@[simp] theorem blz_length (m : List Bool) : (blz m).length = m.length := by simp [blz]
theorem blz_get {m : List Bool} {i : Nat} (h : i < m.length) : (blz m)[i]? = some (.bool (m.getD i false)) := by
  simp [blz, List.getD_eq_getElem?_getD, h]
theorem blz_set (m : List Bool) (i : Nat) (b : Bool) : (blz m).set i (.bool b) = blz (m.set i b) := by simp [blz, List.map_set]
/-- What has been met among the first x. -/
def mtk (p : List Int) (n x : Nat) : List Bool := (List.range n).map fun y : Nat => decide ((y : Int) ∈ p.take x)
theorem mtk_len (p : List Int) (n x : Nat) : (mtk p n x).length = n := by simp [mtk]
theorem mtk_get {p : List Int} {n x y : Nat} (h : y < n) : (mtk p n x).getD y false = decide ((y : Int) ∈ p.take x) := by
  simp [mtk, List.getD_eq_getElem?_getD, h]
theorem mtk_set {p : List Int} {n x : Nat} (h : x < p.length) (hr : 0 ≤ p[x] ∧ p[x] ≤ (n : Int) - 1) : (mtk p n x).set (p[x]).toNat true = mtk p n (x + 1) := by
  apply List.ext_getElem?
  intro i
  rw [List.getElem?_set, mtk_len]
  have hm : ∀ z i, (mtk p n z)[i]? = if i < n then some (decide ((i : Int) ∈ p.take z)) else none := fun z i => by
    unfold mtk
    rw [List.getElem?_map]
    by_cases hi : i < n
    · rw [List.getElem?_range hi, if_pos hi]; rfl
    · rw [List.getElem?_eq_none (by simpa using hi), if_neg hi]; rfl
  rw [hm, hm, List.take_succ_eq_append_getElem h]
  by_cases e : (p[x]).toNat = i
  · have hin : i < n := by omega
    have e2 : (i : Int) = p[x] := by omega
    rw [if_pos e, if_pos (by omega), if_pos hin, decide_eq_true (List.mem_append.2 (.inr (by rw [e2]; simp)))]
  · rw [if_neg e]
    by_cases hi : i < n
    · have e2 : ¬ (i : Int) = p[x] := by omega
      rw [if_pos hi, if_pos hi]
      congr 1
      exact decide_eq_decide.2 ⟨fun q => List.mem_append.2 (.inl q), fun q => by
        rcases List.mem_append.1 q with q | q
        · exact q
        · rw [List.mem_singleton] at q; exact absurd q e2⟩
    · rw [if_neg hi, if_neg hi]
theorem p45 (p : List Int) (n : Nat) (hp : p.length ≤ 1048576) (hn : n ≤ 1048576) : Pure Try.prog 45 [.list (ints p), .int .i64 n] (.bool (ordB p n)) := by
  refine e45 (by simp) fun _ _ => ?_
  simp only [k45, argEnv, take6, List.drop_zero, Int.cast_ofNat_Int, go_sem, ↓reduceIte, Nat.reduceEqDiff, Nat.reduceAdd, Nat.reduceMul, Nat.reduceLeDiff, Nat.reduceLT, Int.reduceLE, Int.reduceLT, reduceCtorEq]
  refine ⟨by omega, fun h1 => ?_, fun h1 => ?_⟩
  · refine Kv.Fin.still ⟨?_, rfl⟩
    cases ho : ordB p n with
    | false => rfl
    | true => have := (ord_all ho).1; omega
  · have hln : p.length = n := by omega
    have hrep : (List.replicate n (PV.bool false)) = blz (mtk p n 0) := by
      apply List.ext_getElem?
      intro i
      simp only [blz, mtk, List.take_zero, List.not_mem_nil, decide_false, List.getElem?_map, List.getElem?_replicate]
      by_cases hi : i < n
      · rw [List.getElem?_range hi, if_pos hi]; rfl
      · rw [List.getElem?_eq_none (by simpa using hi), if_neg hi]; rfl
    rw [hrep]
    refine KL_ind k45_b0.eq_1 (fun x : Nat => [(0, .list (ints p)), (1, .int .i64 n), (5, .ref 0 0 0 n), (6, .int .i64 x)]) (fun x => [.arr 0 4 1 (blz (mtk p n x))]) (fun x => x ≤ n ∧ (∀ y ∈ p.take x, 0 ≤ y ∧ y ≤ (n : Int) - 1) ∧ (p.take x).Nodup) (fun x => n - x) [0, 1, 5, 6] 0 (by simp [keep]) rfl ⟨Nat.zero_le _, by simp, by simp⟩ fun x ⟨hx, hrx, hdx⟩ ih => ?_
    try simp only [OpK_eq, HKv, take6, List.drop_zero, Int.cast_ofNat_Int, go_sem, ↓reduceIte, Nat.reduceEqDiff, Nat.reduceAdd, Nat.reduceMul, Nat.reduceLeDiff, Nat.reduceLT, Int.reduceLE, Int.reduceLT, reduceCtorEq]
    refine ⟨fun h2 => ⟨by omega, fun hxl => ⟨by omega, ?_⟩⟩, fun h2 => ?_⟩
    · rw [getD_eq hxl]
      refine (p90 _ _ _).go ?_
      by_cases hin : 0 ≤ p[x] ∧ p[x] ≤ (n : Int) - 1
      · rw [decide_eq_true hin]
        try simp only [OpK_eq, HKv, blz_length, mtk_len, getD_eq hxl, take6, List.drop_zero, Int.cast_ofNat_Int, go_sem, ↓reduceIte, Nat.reduceEqDiff, Nat.reduceAdd, Nat.reduceMul, Nat.reduceLeDiff, Nat.reduceLT, Int.reduceLE, Int.reduceLT, reduceCtorEq]
        have hput : ∀ b y, putE (.bool b) 0 y = y := fun b y => rfl
        refine ⟨by omega, fun _ => ⟨⟨by omega, by omega, Nat.le_refl _⟩, by omega, fun q hq => ?_⟩⟩
        have hgm := mtk_get (p := p) (n := n) (x := x) (y := (p[x]).toNat) (by omega)
        have hpx : (((p[x]).toNat : Nat) : Int) = p[x] := by omega
        rw [hpx] at hgm
        rw [blz_get (by rw [mtk_len]; omega), hgm] at hq; cases hq
        refine ⟨by simp [PV.cs], fun c hc => ?_⟩
        simp only [PV.cs, List.getElem?_cons_zero, Option.some.injEq] at hc
        subst hc
        try simp only [OpK_eq, HKv, blz_length, mtk_len, getD_eq hxl, take6, List.drop_zero, Int.cast_ofNat_Int, go_sem, ↓reduceIte, Nat.reduceEqDiff, Nat.reduceAdd, Nat.reduceMul, Nat.reduceLeDiff, Nat.reduceLT, Int.reduceLE, Int.reduceLT, reduceCtorEq]
        refine ⟨fun h3 => ?_, fun h3 => ⟨by omega, fun _ => ⟨⟨by omega, by omega, Nat.le_refl _⟩, by omega, fun q hq => ?_⟩⟩⟩
        · refine Kv.Fin.still ⟨?_, rfl⟩
          cases ho : ordB p n with
          | false => rfl
          | true =>
            have hd := (ord_all ho).2.2
            have hd2 : (p.take (x + 1)).Nodup := (List.take_sublist _ _).nodup hd
            rw [List.take_succ_eq_append_getElem hxl, List.nodup_append] at hd2
            exact absurd rfl (hd2.2.2 _ h3 _ (by simp))
        · rw [blz_get (by rw [mtk_len]; omega), hgm] at hq; cases hq
          rw [hput, blz_set, mtk_set hxl hin]
          refine ⟨by simp [PV.cs], ?_⟩
          try simp only [OpK_eq, HKv, take6, List.drop_zero, Int.cast_ofNat_Int, go_sem, ↓reduceIte, Nat.reduceEqDiff, Nat.reduceAdd, Nat.reduceMul, Nat.reduceLeDiff, Nat.reduceLT, Int.reduceLE, Int.reduceLT, reduceCtorEq]
          refine ⟨by omega, ih (x + 1) ⟨by omega, fun y hy => ?_, ?_⟩ (by omega) _ _ (by simp [keep]) rfl⟩
          · rw [List.take_succ_eq_append_getElem hxl] at hy
            rcases List.mem_append.1 hy with hy | hy
            · exact hrx y hy
            · rw [List.mem_singleton] at hy; subst hy; exact hin
          · rw [List.take_succ_eq_append_getElem hxl, List.nodup_append]
            refine ⟨hdx, by simp, fun a ha b hb e => ?_⟩
            rw [List.mem_singleton] at hb
            subst hb; subst e
            exact h3 ha
      · rw [decide_eq_false hin]
        try simp only [OpK_eq, HKv, take6, List.drop_zero, Int.cast_ofNat_Int, go_sem, ↓reduceIte, Nat.reduceEqDiff, Nat.reduceAdd, Nat.reduceMul, Nat.reduceLeDiff, Nat.reduceLT, Int.reduceLE, Int.reduceLT, reduceCtorEq]
        refine Kv.Fin.still ⟨?_, rfl⟩
        cases ho : ordB p n with
        | false => rfl
        | true => exact absurd ((ord_all ho).2.1 _ (List.getElem_mem hxl)) hin
    · obtain rfl : x = n := by omega
      refine Kv.Fin.still ⟨?_, rfl⟩
      rw [List.take_of_length_le (by omega)] at hrx hdx
      rw [ord_true hln hrx hdx]
/-- One agreement. -/
def isoAt (a b : List (List Int)) (p : List Int) (x y : Nat) : Bool := decide (p.getD (tat a x y).toNat 0 = tat b (p.getD x 0).toNat (p.getD y 0).toNat)
def isoR (a b : List (List Int)) (p : List Int) (x : Nat) : Bool := (List.range a.length).all (isoAt a b p x)
def isoB (a b : List (List Int)) (p : List Int) : Bool := (List.range a.length).all (isoR a b p)
def okI (a b : List (List Int)) (p : List Int) : Bool := isTab a && isTab b && decide (a.length = b.length) && ordB p a.length
theorem ra_false {f : Nat → Bool} {n x : Nat} (hx : x < n) (h : f x = false) : (List.range n).all f = false := by
  rw [List.all_eq_false]
  exact ⟨x, List.mem_range.2 hx, by simp [h]⟩
theorem ra_succ {f : Nat → Bool} {x : Nat} (h : (List.range x).all f = true) (h2 : f x = true) : (List.range (x + 1)).all f = true := by
  rw [List.range_succ, List.all_append, h]; simp [h2]
theorem p16 (a b : List (List Int)) (p : List Int) (ha : a.length ≤ 1048576) (hla : ∀ r ∈ a, r.length ≤ 1048576) (hb : b.length ≤ 1048576) (hlb : ∀ r ∈ b, r.length ≤ 1048576) (hp : p.length ≤ 1048576) :
    Pure Try.prog 16 [.list (rows a), .list (rows b), .list (ints p)] (.tup [.bool (okI a b p && isoB a b p), .int .i64 (if okI a b p = true then 0 else 2)]) := by
  have fl : okI a b p = false → ∀ v s, (v = PV.tup [.bool false, .int .i64 2] ∧ s = []) → (v = PV.tup [.bool (okI a b p && isoB a b p), .int .i64 (if okI a b p = true then 0 else 2)] ∧ s = ([] : Heap)) := fun h v s hv => by rw [h]; exact hv
  refine e16 (by simp) fun _ _ => ?_
  simp only [k16, argEnv, take6, List.drop_zero, Int.cast_ofNat_Int, go_sem, ↓reduceIte, Nat.reduceEqDiff, Nat.reduceAdd, Nat.reduceMul, Nat.reduceLeDiff, Nat.reduceLT, Int.reduceLE, Int.reduceLT, reduceCtorEq]
  refine (p46 a ha hla).go ?_
  cases ha' : isTab a with
  | false =>
    try simp only [OpK_eq, HKv, take6, List.drop_zero, Int.cast_ofNat_Int, go_sem, ↓reduceIte, Nat.reduceEqDiff, Nat.reduceAdd, Nat.reduceMul, Nat.reduceLeDiff, Nat.reduceLT, Int.reduceLE, Int.reduceLT, reduceCtorEq]
    exact Kv.Fin.still (fl (by rw [okI, ha']; rfl) _ _ ⟨rfl, rfl⟩)
  | true =>
    try simp only [OpK_eq, HKv, take6, List.drop_zero, Int.cast_ofNat_Int, go_sem, ↓reduceIte, Nat.reduceEqDiff, Nat.reduceAdd, Nat.reduceMul, Nat.reduceLeDiff, Nat.reduceLT, Int.reduceLE, Int.reduceLT, reduceCtorEq]
    refine (p46 b hb hlb).go ?_
    cases hb' : isTab b with
    | false =>
      try simp only [OpK_eq, HKv, take6, List.drop_zero, Int.cast_ofNat_Int, go_sem, ↓reduceIte, Nat.reduceEqDiff, Nat.reduceAdd, Nat.reduceMul, Nat.reduceLeDiff, Nat.reduceLT, Int.reduceLE, Int.reduceLT, reduceCtorEq]
      exact Kv.Fin.still (fl (by rw [okI, ha', hb']; rfl) _ _ ⟨rfl, rfl⟩)
    | true =>
      try simp only [OpK_eq, HKv, take6, List.drop_zero, Int.cast_ofNat_Int, go_sem, ↓reduceIte, Nat.reduceEqDiff, Nat.reduceAdd, Nat.reduceMul, Nat.reduceLeDiff, Nat.reduceLT, Int.reduceLE, Int.reduceLT, reduceCtorEq]
      refine ⟨fun h1 => ?_, fun h1 => ?_⟩
      · have hab : a.length = b.length := by omega
        obtain ⟨hna, hsa⟩ := tab_sq ha'
        obtain ⟨hnb, hsb⟩ := tab_sq hb'
        refine (p49 p).go ?_
        try simp only [OpK_eq, HKv, take6, List.drop_zero, Int.cast_ofNat_Int, go_sem, ↓reduceIte, Nat.reduceEqDiff, Nat.reduceAdd, Nat.reduceMul, Nat.reduceLeDiff, Nat.reduceLT, Int.reduceLE, Int.reduceLT, reduceCtorEq]
        refine sorted_any p hp [] _ fun r hr1 hr2 => ?_
        have hrs : r = srt p := sorted_uniq (hr1.trans (srt_perm p).symm) hr2 (srt_sorted p)
        subst hrs
        have hsl := (srt_perm p).length_eq
        try simp only [OpK_eq, HKv, take6, List.drop_zero, Int.cast_ofNat_Int, go_sem, ↓reduceIte, Nat.reduceEqDiff, Nat.reduceAdd, Nat.reduceMul, Nat.reduceLeDiff, Nat.reduceLT, Int.reduceLE, Int.reduceLT, reduceCtorEq]
        refine (p50 a.length (by omega)).go fun v s ⟨hv, hs⟩ => ?_
        subst hv; subst hs
        try simp only [OpK_eq, HKv, take6, List.drop_zero, Int.cast_ofNat_Int, go_sem, ↓reduceIte, Nat.reduceEqDiff, Nat.reduceAdd, Nat.reduceMul, Nat.reduceLeDiff, Nat.reduceLT, Int.reduceLE, Int.reduceLT, reduceCtorEq]
        refine (p47 (srt p) (pts a.length) (by rw [pts_len]; omega) (by omega)).lend (.cons (Imm.refn rfl hsl.symm) (.cons (Imm.refn rfl rfl) (.nil _))) ?_
        have ho : decide (srt p = pts a.length) = ordB p a.length := rfl
        rw [ho]
        cases ho' : ordB p a.length with
        | false =>
          try simp only [OpK_eq, HKv, take6, List.drop_zero, Int.cast_ofNat_Int, go_sem, ↓reduceIte, Nat.reduceEqDiff, Nat.reduceAdd, Nat.reduceMul, Nat.reduceLeDiff, Nat.reduceLT, Int.reduceLE, Int.reduceLT, reduceCtorEq]
          exact Kv.Fin.still (fl (by rw [okI, ho']; simp) _ _ ⟨rfl, rfl⟩)
        | true =>
          have hok : okI a b p = true := by rw [okI, ha', hb', ho', decide_eq_true hab]; rfl
          rw [hok]
          clear fl
          obtain ⟨hpl, hpr, _⟩ := ord_all ho'
          have hpx : ∀ i, i < a.length → 0 ≤ p.getD i 0 ∧ p.getD i 0 ≤ (a.length : Int) - 1 := fun i hi => by rw [getD_eq (by omega)]; exact hpr _ (List.getElem_mem _)
          try simp only [OpK_eq, HKv, take6, List.drop_zero, Int.cast_ofNat_Int, go_sem, ↓reduceIte, Nat.reduceEqDiff, Nat.reduceAdd, Nat.reduceMul, Nat.reduceLeDiff, Nat.reduceLT, Int.reduceLE, Int.reduceLT, reduceCtorEq]
          refine KL_freeze (env' := [(0, .list (rows a)), (1, .list (rows b)), (2, .list (ints p)), (36, .int .i64 a.length), (37, .int .i64 0)]) [0, 1, 2, 36, 37] rfl (by simp [keep]) (.cons Imm.still (.cons Imm.still (.cons Imm.still (.cons Imm.still (.cons Imm.still .nil))))) ?_
          refine KL_ind k16_b1.eq_1 (fun x : Nat => [(0, .list (rows a)), (1, .list (rows b)), (2, .list (ints p)), (36, .int .i64 a.length), (37, .int .i64 x)]) (fun _ => []) (fun x => x ≤ a.length ∧ (List.range x).all (isoR a b p) = true) (fun x => a.length - x) [0, 1, 2, 36, 37] 0 (by simp [keep]) rfl ⟨Nat.zero_le _, by simp⟩ fun x ⟨hx, hR⟩ ih => ?_
          try simp only [OpK_eq, HKv, take6, List.drop_zero, Int.cast_ofNat_Int, go_sem, ↓reduceIte, Nat.reduceEqDiff, Nat.reduceAdd, Nat.reduceMul, Nat.reduceLeDiff, Nat.reduceLT, Int.reduceLE, Int.reduceLT, reduceCtorEq]
          refine ⟨fun h2 => ?_, fun h2 => ?_⟩
          · have hxl : x < a.length := by omega
            refine KL_ind k16_b0.eq_1 (fun y : Nat => [(0, .list (rows a)), (1, .list (rows b)), (2, .list (ints p)), (8, .int .i64 x), (36, .int .i64 a.length), (37, .int .i64 x), (41, .int .i64 a.length), (42, .int .i64 y)]) (fun _ => []) (fun y => y ≤ a.length ∧ (List.range y).all (isoAt a b p x) = true) (fun y => a.length - y) [0, 1, 2, 8, 36, 37, 41, 42] 0 (by simp [keep]) rfl ⟨Nat.zero_le _, by simp⟩ fun y ⟨hy, hA⟩ ihy => ?_
            try simp only [OpK_eq, HKv, take6, List.drop_zero, Int.cast_ofNat_Int, go_sem, ↓reduceIte, Nat.reduceEqDiff, Nat.reduceAdd, Nat.reduceMul, Nat.reduceLeDiff, Nat.reduceLT, Int.reduceLE, Int.reduceLT, reduceCtorEq]
            refine ⟨fun h3 => ?_, fun h3 => ?_⟩
            · have hyl : y < a.length := by omega
              have t1 := tab_at ha' hxl hyl
              have p1 := hpx x hxl
              have p2 := hpx y hyl
              have t2 := tab_at hb' (i := (p.getD x 0).toNat) (j := (p.getD y 0).toNat) (by omega) (by omega)
              have s1 := hsa x hxl
              have s2 := hsb (p.getD x 0).toNat (by omega)
              have e1 : (a.getD x []).getD y 0 = tat a x y := rfl
              have e2 : (b.getD (p.getD x 0).toNat []).getD (p.getD y 0).toNat 0 = tat b (p.getD x 0).toNat (p.getD y 0).toNat := rfl
              have ed : isoAt a b p x y = decide (p.getD (tat a x y).toNat 0 = tat b (p.getD x 0).toNat (p.getD y 0).toNat) := rfl
              simp only [e1, e2, s1, s2]
              refine ⟨by omega, fun _ => ⟨by omega, fun _ => ⟨⟨t1.1, by omega⟩, fun _ => ⟨by omega, fun _ => ⟨⟨p1.1, by omega⟩, fun _ => ⟨by omega, fun _ => ⟨⟨p2.1, by omega⟩, fun _ => ⟨fun h4 => ?_, fun h4 => ⟨by omega, ?_⟩⟩⟩⟩⟩⟩⟩⟩⟩
              · refine Kv.Fin.still ⟨?_, rfl⟩
                have : isoB a b p = false := ra_false hxl (ra_false hyl (by rw [ed]; exact decide_eq_false h4))
                rw [this]
              · exact ihy (y + 1) ⟨by omega, ra_succ hA (by rw [ed]; exact decide_eq_true h4)⟩ (by omega) _ _ (by simp [keep]) rfl
            · obtain rfl : y = a.length := by omega
              exact ⟨by omega, ih (x + 1) ⟨by omega, ra_succ hR hA⟩ (by omega) _ _ (by simp [keep]) rfl⟩
          · obtain rfl : x = a.length := by omega
            refine Kv.Fin.still ⟨?_, rfl⟩
            rw [show isoB a b p = true from hR]
      · exact Kv.Fin.still (fl (by rw [okI, decide_eq_false (by omega : ¬ a.length = b.length)]; simp) _ _ ⟨rfl, rfl⟩)
theorem p13 (a b : List (List Int)) (p : List Int) (ha : a.length ≤ 1048576) (hla : ∀ r ∈ a, r.length ≤ 1048576) (hb : b.length ≤ 1048576) (hlb : ∀ r ∈ b, r.length ≤ 1048576) (hp : p.length ≤ 1048576) :
    Pure Try.prog 13 [.list (rows a), .list (rows b), .list (ints p)] (.tup [.bool (okI a b p && isoB a b p), .int .i64 (if okI a b p = true then 0 else 2)]) := by
  have fl : okI a b p = false → ∀ v s, (v = PV.tup [.bool false, .int .i64 2] ∧ s = []) → (v = PV.tup [.bool (okI a b p && isoB a b p), .int .i64 (if okI a b p = true then 0 else 2)] ∧ s = ([] : Heap)) := fun h v s hv => by rw [h]; exact hv
  refine e13 (by simp) fun _ _ => ?_
  simp only [k13, argEnv, take6, List.drop_zero, Int.cast_ofNat_Int, go_sem, ↓reduceIte, Nat.reduceEqDiff, Nat.reduceAdd, Nat.reduceMul, Nat.reduceLeDiff, Nat.reduceLT, Int.reduceLE, Int.reduceLT, reduceCtorEq]
  refine (p44 a ha hla).go ?_
  cases ha' : isTab a with
  | false =>
    try simp only [OpK_eq, HKv, take6, List.drop_zero, Int.cast_ofNat_Int, go_sem, ↓reduceIte, Nat.reduceEqDiff, Nat.reduceAdd, Nat.reduceMul, Nat.reduceLeDiff, Nat.reduceLT, Int.reduceLE, Int.reduceLT, reduceCtorEq]
    exact Kv.Fin.still (fl (by rw [okI, ha']; rfl) _ _ ⟨rfl, rfl⟩)
  | true =>
    try simp only [OpK_eq, HKv, take6, List.drop_zero, Int.cast_ofNat_Int, go_sem, ↓reduceIte, Nat.reduceEqDiff, Nat.reduceAdd, Nat.reduceMul, Nat.reduceLeDiff, Nat.reduceLT, Int.reduceLE, Int.reduceLT, reduceCtorEq]
    refine (p44 b hb hlb).go ?_
    cases hb' : isTab b with
    | false =>
      try simp only [OpK_eq, HKv, take6, List.drop_zero, Int.cast_ofNat_Int, go_sem, ↓reduceIte, Nat.reduceEqDiff, Nat.reduceAdd, Nat.reduceMul, Nat.reduceLeDiff, Nat.reduceLT, Int.reduceLE, Int.reduceLT, reduceCtorEq]
      exact Kv.Fin.still (fl (by rw [okI, ha', hb']; rfl) _ _ ⟨rfl, rfl⟩)
    | true =>
      try simp only [OpK_eq, HKv, take6, List.drop_zero, Int.cast_ofNat_Int, go_sem, ↓reduceIte, Nat.reduceEqDiff, Nat.reduceAdd, Nat.reduceMul, Nat.reduceLeDiff, Nat.reduceLT, Int.reduceLE, Int.reduceLT, reduceCtorEq]
      refine ⟨fun h1 => ?_, fun h1 => ?_⟩
      · have hab : a.length = b.length := by omega
        obtain ⟨hna, hsa⟩ := tab_sq ha'
        obtain ⟨hnb, hsb⟩ := tab_sq hb'
        refine (p45 p a.length hp (by omega)).go ?_
        cases ho' : ordB p a.length with
        | false =>
          try simp only [OpK_eq, HKv, take6, List.drop_zero, Int.cast_ofNat_Int, go_sem, ↓reduceIte, Nat.reduceEqDiff, Nat.reduceAdd, Nat.reduceMul, Nat.reduceLeDiff, Nat.reduceLT, Int.reduceLE, Int.reduceLT, reduceCtorEq]
          exact Kv.Fin.still (fl (by rw [okI, ho']; simp) _ _ ⟨rfl, rfl⟩)
        | true =>
          have hok : okI a b p = true := by rw [okI, ha', hb', ho', decide_eq_true hab]; rfl
          rw [hok]
          clear fl
          obtain ⟨hpl, hpr, _⟩ := ord_all ho'
          have hpx : ∀ i, i < a.length → 0 ≤ p.getD i 0 ∧ p.getD i 0 ≤ (a.length : Int) - 1 := fun i hi => by rw [getD_eq (by omega)]; exact hpr _ (List.getElem_mem _)
          try simp only [OpK_eq, HKv, take6, List.drop_zero, Int.cast_ofNat_Int, go_sem, ↓reduceIte, Nat.reduceEqDiff, Nat.reduceAdd, Nat.reduceMul, Nat.reduceLeDiff, Nat.reduceLT, Int.reduceLE, Int.reduceLT, reduceCtorEq]
          refine KL_ind k13_b1.eq_1 (fun x : Nat => [(0, .list (rows a)), (1, .list (rows b)), (2, .list (ints p)), (8, .int .i64 x)]) (fun _ => []) (fun x => x ≤ a.length ∧ (List.range x).all (isoR a b p) = true) (fun x => a.length - x) [0, 1, 2, 8] 0 (by simp [keep]) rfl ⟨Nat.zero_le _, by simp⟩ fun x ⟨hx, hR⟩ ih => ?_
          try simp only [OpK_eq, HKv, take6, List.drop_zero, Int.cast_ofNat_Int, go_sem, ↓reduceIte, Nat.reduceEqDiff, Nat.reduceAdd, Nat.reduceMul, Nat.reduceLeDiff, Nat.reduceLT, Int.reduceLE, Int.reduceLT, reduceCtorEq]
          refine ⟨fun h2 => ?_, fun h2 => ?_⟩
          · have hxl : x < a.length := by omega
            refine KL_ind k13_b0.eq_1 (fun y : Nat => [(0, .list (rows a)), (1, .list (rows b)), (2, .list (ints p)), (8, .int .i64 x), (9, .int .i64 y)]) (fun _ => []) (fun y => y ≤ a.length ∧ (List.range y).all (isoAt a b p x) = true) (fun y => a.length - y) [0, 1, 2, 8, 9] 0 (by simp [keep]) rfl ⟨Nat.zero_le _, by simp⟩ fun y ⟨hy, hA⟩ ihy => ?_
            try simp only [OpK_eq, HKv, take6, List.drop_zero, Int.cast_ofNat_Int, go_sem, ↓reduceIte, Nat.reduceEqDiff, Nat.reduceAdd, Nat.reduceMul, Nat.reduceLeDiff, Nat.reduceLT, Int.reduceLE, Int.reduceLT, reduceCtorEq]
            refine ⟨fun h3 => ?_, fun h3 => ?_⟩
            · have hyl : y < a.length := by omega
              have t1 := tab_at ha' hxl hyl
              have p1 := hpx x hxl
              have p2 := hpx y hyl
              have t2 := tab_at hb' (i := (p.getD x 0).toNat) (j := (p.getD y 0).toNat) (by omega) (by omega)
              have s1 := hsa x hxl
              have s2 := hsb (p.getD x 0).toNat (by omega)
              have e1 : (a.getD x []).getD y 0 = tat a x y := rfl
              have e2 : (b.getD (p.getD x 0).toNat []).getD (p.getD y 0).toNat 0 = tat b (p.getD x 0).toNat (p.getD y 0).toNat := rfl
              have ed : isoAt a b p x y = decide (p.getD (tat a x y).toNat 0 = tat b (p.getD x 0).toNat (p.getD y 0).toNat) := rfl
              simp only [e1, e2, s1, s2]
              refine ⟨by omega, fun _ => ⟨by omega, fun _ => ⟨⟨t1.1, by omega⟩, fun _ => ⟨by omega, fun _ => ⟨⟨p1.1, by omega⟩, fun _ => ⟨by omega, fun _ => ⟨⟨p2.1, by omega⟩, fun _ => ⟨fun h4 => ?_, fun h4 => ⟨by omega, ?_⟩⟩⟩⟩⟩⟩⟩⟩⟩
              · refine Kv.Fin.still ⟨?_, rfl⟩
                have : isoB a b p = false := ra_false hxl (ra_false hyl (by rw [ed]; exact decide_eq_false h4))
                rw [this]
              · exact ihy (y + 1) ⟨by omega, ra_succ hA (by rw [ed]; exact decide_eq_true h4)⟩ (by omega) _ _ (by simp [keep]) rfl
            · obtain rfl : y = a.length := by omega
              exact ⟨by omega, ih (x + 1) ⟨by omega, ra_succ hR hA⟩ (by omega) _ _ (by simp [keep]) rfl⟩
          · obtain rfl : x = a.length := by omega
            refine Kv.Fin.still ⟨?_, rfl⟩
            rw [show isoB a b p = true from hR]
      · exact Kv.Fin.still (fl (by rw [okI, decide_eq_false (by omega : ¬ a.length = b.length)]; simp) _ _ ⟨rfl, rfl⟩)
end Go.Proofs.Ytpepbomifjbgnaa
