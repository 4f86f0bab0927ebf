/- The source of the draws: numbers. -/
import Derived.Test.YtpfapiiinkkcgaaGreatCb
import Derived.Test.YtpfapiiinkkcgaaGreatAY
import Derived.Test.YtpfapiiinkkcgaaGreatFE
import Derived.Test.YtpfapiiinkkcgaaGreatPA
namespace Go.Proofs.YtpfapiiinkkcgaaGreat
open Go.Kv
set_option maxRecDepth 100000
/- laws.big -/
def k6 : KC := (.seq (.ops [⟨(some 2), none, .mv (.c (.bool false))⟩])
  (.seq (.ops [⟨(some 3), none, .mv (.t 0)⟩, ⟨(some 4), none, .len false (.t 3)⟩, ⟨(some 5), none, .bin .gtr (.t 4) (.c (.int .i64 4096))⟩, ⟨(some 2), none, .mv (.t 5)⟩])
  .ret))
theorem e6 {args : List PV} {σ : Heap} {K : PV → Heap → Prop} (hl : args.length ≤ 6) (h : Wf σ → (∀ a ∈ args, PV.upto σ.length a) → vc (mkCfg Tryz.prog mixed [] 6 σ.length) k6 (FinK σ.length [.t 2] K) (argEnv 0 args) σ) : ACall Tryz.prog 6 args σ K :=
  ACall_enter (C := mkCfg Tryz.prog mixed [] 6 σ.length) (c := Tryz.f6.body.getD .skip) Tryz.func6 (by kernel_rfl) (by kernel_rfl) (by kernel_rfl) rfl hl (by kernel_rfl) (by kernel_rfl) h
/- spec.l01From -/
/- live [0, 3, 4, 17, 18] -/
def k68_b0 : KC := (.seq (.seq (.ops [⟨(some 12), none, .mv (.t 4)⟩, ⟨(some 13), none, .mv (.t 0)⟩, ⟨(some 14), none, .len false (.t 13)⟩, ⟨(some 15), none, .bin .lss (.t 12) (.t 14)⟩, ⟨(some 16), none, .mv (.t 15)⟩, ⟨(some 17), some (16, true), .mv (.t 4)⟩, ⟨(some 18), some (16, true), .bin .lss (.t 17) (.c (.int .i64 4096))⟩, ⟨(some 19), none, .pick (.t 16) (.t 18) (.c (.bool false))⟩])
  (.cond (.t 19) .skip (.exit 0)))
  (.seq (.block 1 (.draw [⟨(some 22), none, .mv (.t 3)⟩, ⟨(some 23), none, .mv (.t 3)⟩, ⟨(some 24), none, .nilck (.t 23)⟩, ⟨(some 25), none, .fieldA 2 (.t 24)⟩, ⟨(some 26), none, .load false 1 (.t 25)⟩, ⟨(some 27), none, .bin .mul (.t 26) (.c (.int .u64 1099511628211))⟩, ⟨(some 28), none, .mv (.t 0)⟩, ⟨(some 29), none, .mv (.t 4)⟩, ⟨(some 30), none, .idxS 1 (.t 28) (.t 29)⟩, ⟨(some 31), none, .load false 1 (.t 30)⟩, ⟨(some 32), none, .conv .u64 (.t 31)⟩, ⟨(some 33), none, .bin .add (.t 27) (.t 32)⟩, ⟨(some 34), none, .bin .add (.t 33) (.c (.int .u64 181))⟩, ⟨(some 35), none, .nilck (.t 22)⟩, ⟨(some 36), none, .fieldA 2 (.t 35)⟩, ⟨none, none, .store 1 (.t 36) (.t 34)⟩]))
  (.ops [⟨(some 20), none, .mv (.t 4)⟩, ⟨(some 21), none, .bin .add (.t 20) (.c (.int .i64 1))⟩, ⟨(some 4), none, .mv (.t 21)⟩])))
def k68 : KC := (.seq (.ops [⟨(some 2), none, .mv (.c (.nilptr))⟩])
  (.seq (.ops [⟨(some 5), none, .mv (.t 0)⟩, ⟨(some 6), none, .mv (.t 0)⟩, ⟨(some 7), none, .len false (.t 6)⟩, ⟨(some 8), none, .conv .u64 (.t 7)⟩, ⟨(some 9), none, .bin .add (.c (.int .u64 13591)) (.t 8)⟩, ⟨(some 10), none, .build [.nils, .int .i64 0, .int .u64 0] [(0, 1, (.t 5)), (2, 1, (.t 9))]⟩, ⟨(some 11), none, .box false (.t 10)⟩, ⟨(some 3), none, .mv (.t 11)⟩])
  (.seq (.seq (.ops [⟨(some 4), none, .mv (.c (.int .i64 0))⟩])
  (.block 0 (.loop k68_b0)))
  (.seq (.ops [⟨(some 37), none, .mv (.t 3)⟩, ⟨(some 2), none, .mv (.t 37)⟩])
  .ret))))
theorem e68 {args : List PV} {σ : Heap} {K : PV → Heap → Prop} (hl : args.length ≤ 38) (h : Wf σ → (∀ a ∈ args, PV.upto σ.length a) → vc (mkCfg Tryz.prog mixed [] 38 σ.length) k68 (FinK σ.length [.t 2] K) (argEnv 0 args) σ) : ACall Tryz.prog 68 args σ K :=
  ACall_enter (C := mkCfg Tryz.prog mixed [] 38 σ.length) (c := Tryz.f68.body.getD .skip) Tryz.func68 (by kernel_rfl) (by kernel_rfl) (by kernel_rfl) rfl hl (by kernel_rfl) (by kernel_rfl) h
/- spec.l01Next -/
def k124 : KC := (.seq (.ops [⟨(some 4), none, .mv (.c (.int .i64 0))⟩])
  (.seq (.seq (.ops [⟨(some 6), none, .mv (.t 1)⟩, ⟨(some 7), none, .bin .lss (.t 6) (.c (.int .i64 1))⟩])
  (.cond (.t 7) (.seq (.ops [⟨(some 4), none, .mv (.c (.int .i64 0))⟩])
  .ret) .skip))
  (.seq (.ops [⟨(some 8), none, .mv (.t 0)⟩, ⟨(some 9), none, .mv (.t 0)⟩, ⟨(some 10), none, .nilck (.t 9)⟩, ⟨(some 11), none, .fieldA 2 (.t 10)⟩, ⟨(some 12), none, .load false 1 (.t 11)⟩, ⟨(some 13), none, .bin .mul (.t 12) (.c (.int .u64 6364136223846793005))⟩, ⟨(some 14), none, .bin .add (.t 13) (.c (.int .u64 1442695040888963407))⟩, ⟨(some 15), none, .nilck (.t 8)⟩, ⟨(some 16), none, .fieldA 2 (.t 15)⟩, ⟨none, none, .store 1 (.t 16) (.t 14)⟩])
  (.seq (.ops [⟨(some 17), none, .mv (.t 0)⟩, ⟨(some 18), none, .nilck (.t 17)⟩, ⟨(some 19), none, .fieldA 2 (.t 18)⟩, ⟨(some 20), none, .load false 1 (.t 19)⟩, ⟨(some 21), none, .bin .shr (.t 20) (.c (.int .u64 33))⟩, ⟨(some 22), none, .bin .and (.t 21) (.c (.int .u64 16777215))⟩, ⟨(some 23), none, .conv .i64 (.t 22)⟩, ⟨(some 5), none, .mv (.t 23)⟩])
  (.seq (.seq (.draw [⟨(some 24), none, .mv (.t 0)⟩, ⟨(some 25), none, .nilck (.t 24)⟩, ⟨(some 26), none, .fieldA 1 (.t 25)⟩, ⟨(some 27), none, .load false 1 (.t 26)⟩, ⟨(some 28), none, .mv (.t 0)⟩, ⟨(some 29), none, .nilck (.t 28)⟩, ⟨(some 30), none, .fieldA 0 (.t 29)⟩, ⟨(some 31), none, .load false 1 (.t 30)⟩, ⟨(some 32), none, .len false (.t 31)⟩, ⟨(some 33), none, .bin .lss (.t 27) (.t 32)⟩])
  (.cond (.t 33) (.seq (.draw [⟨(some 34), none, .mv (.t 5)⟩, ⟨(some 35), none, .mv (.t 0)⟩, ⟨(some 36), none, .nilck (.t 35)⟩, ⟨(some 37), none, .fieldA 0 (.t 36)⟩, ⟨(some 38), none, .load false 1 (.t 37)⟩, ⟨(some 39), none, .mv (.t 0)⟩, ⟨(some 40), none, .nilck (.t 39)⟩, ⟨(some 41), none, .fieldA 1 (.t 40)⟩, ⟨(some 42), none, .load false 1 (.t 41)⟩, ⟨(some 43), none, .idxS 1 (.t 38) (.t 42)⟩, ⟨(some 44), none, .load false 1 (.t 43)⟩, ⟨(some 45), none, .conv .i64 (.t 44)⟩, ⟨(some 46), none, .bin .add (.t 34) (.t 45)⟩, ⟨(some 5), none, .mv (.t 46)⟩])
  (.ops [⟨(some 47), none, .mv (.t 0)⟩, ⟨(some 48), none, .mv (.t 0)⟩, ⟨(some 49), none, .nilck (.t 48)⟩, ⟨(some 50), none, .fieldA 1 (.t 49)⟩, ⟨(some 51), none, .load false 1 (.t 50)⟩, ⟨(some 52), none, .bin .add (.t 51) (.c (.int .i64 1))⟩, ⟨(some 53), none, .nilck (.t 47)⟩, ⟨(some 54), none, .fieldA 1 (.t 53)⟩, ⟨none, none, .store 1 (.t 54) (.t 52)⟩])) .skip))
  (.seq (.ops [⟨(some 55), none, .mv (.t 5)⟩, ⟨(some 56), none, .mv (.t 1)⟩, ⟨(some 57), none, .bin .rem (.t 55) (.t 56)⟩, ⟨(some 4), none, .mv (.t 57)⟩])
  .ret))))))
theorem e124 {args : List PV} {σ : Heap} {K : PV → Heap → Prop} (hl : args.length ≤ 58) (h : Wf σ → (∀ a ∈ args, PV.upto σ.length a) → vc (mkCfg Tryz.prog mixed [] 58 σ.length) k124 (FinK σ.length [.t 4] K) (argEnv 0 args) σ) : ACall Tryz.prog 124 args σ K :=
  ACall_enter (C := mkCfg Tryz.prog mixed [] 58 σ.length) (c := Tryz.f124.body.getD .skip) Tryz.func124 (by kernel_rfl) (by kernel_rfl) (by kernel_rfl) rfl hl (by kernel_rfl) (by kernel_rfl) h
/- spec.l01Pick -/
def k76 : KC := (.seq (.ops [⟨(some 4), none, .mv (.c (.int .i64 0))⟩])
  (.seq (.ops [⟨(some 5), none, .mv (.t 1)⟩, ⟨(some 6), none, .mv (.t 0)⟩, ⟨(some 7), none, .mv (.t 1)⟩, ⟨(some 8), none, .len false (.t 7)⟩, ⟨(some 9), none, .call (.c (.fn (.func 124) [] [])) [(.t 6), (.t 8)]⟩, ⟨(some 10), none, .idxS 1 (.t 5) (.t 9)⟩, ⟨(some 11), none, .load false 1 (.t 10)⟩, ⟨(some 4), none, .mv (.t 11)⟩])
  .ret))
theorem e76 {args : List PV} {σ : Heap} {K : PV → Heap → Prop} (hl : args.length ≤ 12) (h : Wf σ → (∀ a ∈ args, PV.upto σ.length a) → vc (mkCfg Tryz.prog mixed [] 12 σ.length) k76 (FinK σ.length [.t 4] K) (argEnv 0 args) σ) : ACall Tryz.prog 76 args σ K :=
  ACall_enter (C := mkCfg Tryz.prog mixed [] 12 σ.length) (c := Tryz.f76.body.getD .skip) Tryz.func76 (by kernel_rfl) (by kernel_rfl) (by kernel_rfl) rfl hl (by kernel_rfl) (by kernel_rfl) h
end Go.Proofs.YtpfapiiinkkcgaaGreat
namespace Go.Proofs.YtpfapiiinkkcgaaGreat
open Go.Kv
set_option linter.unusedVariables false
set_option linter.unusedSimpArgs false
attribute [local irreducible] ACall PCall KL
/-- The source, in the heap. -/
def srcO (l : List Int) (p : Nat) (h : Int) : AObj := .box [.list (u8s l), .int .i64 p, .int .u64 h]
def Src (σ : Heap) (b : Nat) (l : List Int) : Prop := ∃ (p : Nat) (h : Int), σ[b]? = some (srcO l p h) ∧ p ≤ l.length
/-- All else is kept. -/
def Kept (σ σ' : Heap) (b : Nat) : Prop := σ.length ≤ σ'.length ∧ ∀ j, j < σ.length → j ≠ b → σ'[j]? = σ[j]?
/-- Bytes, not too many. -/
def Byt (l : List Int) : Prop := l.length ≤ 4096 ∧ ∀ z ∈ l, 0 ≤ z ∧ z ≤ 255
theorem Kept.refl (σ : Heap) (b : Nat) : Kept σ σ b := ⟨Nat.le_refl _, fun _ _ _ => rfl⟩
theorem Kept.trans {σ τ ρ : Heap} {b : Nat} (h : Kept σ τ b) (h' : Kept τ ρ b) : Kept σ ρ b :=
  ⟨Nat.le_trans h.1 h'.1, fun j hj hb => (h'.2 j (Nat.lt_of_lt_of_le hj h.1) hb).trans (h.2 j hj hb)⟩
theorem Src.lt {σ : Heap} {b : Nat} {l : List Int} (h : Src σ b l) : b < σ.length := by
  obtain ⟨p, x, h, _⟩ := h
  exact (List.getElem?_eq_some_iff.1 h).1
theorem Kept.set {σ : Heap} {b : Nat} (o : AObj) : Kept σ (σ.set b o) b := ⟨by simp, fun j _ hb => List.getElem?_set_ne (Ne.symm hb)⟩
theorem Kept.app (σ τ : Heap) (b : Nat) : Kept σ (σ ++ τ) b := ⟨by simp, fun j hj _ => List.getElem?_append_left hj⟩
theorem Src.app {σ : Heap} {b : Nat} {l : List Int} (h : Src σ b l) (τ : Heap) : Src (σ ++ τ) b l := by
  have := h.lt
  obtain ⟨p, x, h, h2⟩ := h
  exact ⟨p, x, (List.getElem?_append_left this).trans h, h2⟩
theorem p6 (l : List Int) (hl : l.length ≤ 9223372036854775807) : Pure Tryz.prog 6 [.list (u8s l)] (.bool (decide (4096 < (l.length : Int)))) := by
  refine e6 (by simp) fun _ _ => ?_
  simp only [k6, argEnv, take6, List.drop_zero, Int.cast_ofNat_Int, go_sem, ↓reduceIte, Nat.reduceEqDiff, Nat.reduceAdd, Nat.reduceMul, Nat.reduceLeDiff, Nat.reduceLT, Int.reduceLE, Int.reduceLT, reduceCtorEq]
  exact Kv.Fin.still ⟨rfl, rfl⟩
theorem put3 (a b c d : PV) : putC [a, b, c] 2 [d] = [a, b, d] := by unfold putC; first | rfl | (split <;> rfl) | simp
theorem put31 (a b c d : PV) : putC [a, b, c] 1 [d] = [a, d, c] := by unfold putC; first | rfl | (split <;> rfl) | simp
/-- The low 24 bits. -/
def andV (a : Int) : Nat := (BitVec.ofInt 64 a &&& BitVec.ofInt 64 16777215).toNat
theorem andV_le (a : Int) : andV a ≤ 16777215 := by
  unfold andV
  rw [BitVec.toNat_and]
  exact Nat.le_trans Nat.and_le_right (by decide)
theorem wrapU64 {n : Nat} (h : n < 18446744073709551616) : IntKind.u64.wrap (n : Int) = n := by
  have : IntKind.u64.wrap (n : Int) = (n : Int) % 18446744073709551616 := by simp [IntKind.wrap, IntKind.bits, IntKind.signed]
  rw [this]; omega
theorem aInt_and24 (a : Int) (K : PV → Prop) : aInt .and .u64 a 16777215 K = K (.int .u64 (andV a)) := by
  have h := andV_le a
  have : IntKind.u64.wrap ((BitVec.ofInt 64 a &&& BitVec.ofInt 64 16777215).toNat : Int) = ((andV a : Nat) : Int) := wrapU64 (by omega)
  show K (.int .u64 (IntKind.u64.wrap ((BitVec.ofInt 64 a &&& BitVec.ofInt 64 16777215).toNat : Int))) = _
  rw [this]
theorem aInt_shrU (a b : Int) (K : PV → Prop) : aInt .shr .u64 a b K = ((0 ≤ b ∧ b ≤ (64 : Nat)) ∧ K (.int .u64 (a.fdiv (2 ^ b.toNat)))) := Eq.trans rfl rfl
theorem aWrapU (n : Int) (K : PV → Prop) : aWrap .u64 n K = K (.int .u64 (IntKind.u64.wrap n)) := Eq.trans rfl rfl
theorem u8s_getD {l : List Int} {i : Nat} (h : i < l.length) : (u8s l)[i]? = some (.int .u8 l[i]) := by simp [u8s, h]
theorem p124 {l : List Int} (hl : Byt l) {σ : Heap} {b : Nat} (hS : Src σ b l) (n : Int) {K : PV → Heap → Prop}
    (hK : ∀ (r : Int) σ', 0 ≤ r → (1 ≤ n → r < n) → Src σ' b l → Kept σ σ' b → σ'.length = σ.length → K (.int .i64 r) σ') : ACall Tryz.prog 124 [.ptr b 0, .int .i64 n] σ K := by
  have hlt := hS.lt
  obtain ⟨p, x, hb, hp⟩ := hS
  have hself : ∀ o, (σ.set b o)[b]? = some o := fun o => List.getElem?_set_self hlt
  have hset : ∀ o o', (σ.set b o).set b o' = σ.set b o' := fun o o' => List.set_set ..
  unfold srcO at hb
  refine e124 (by simp) fun _ _ => ?_
  simp only [k124, argEnv, take6, List.drop_zero, Int.cast_ofNat_Int, go_sem, ↓reduceIte, Nat.reduceEqDiff, Nat.reduceAdd, Nat.reduceMul, Nat.reduceLeDiff, Nat.reduceLT, Int.reduceLE, Int.reduceLT, reduceCtorEq]
  try simp only [OpK_eq, HKv, hb, hself, hset, put3, put31, aWrapU, aInt_and24, aInt_shrU, take6, List.drop_zero, Int.cast_ofNat_Int, go_sem, ↓reduceIte, Nat.reduceEqDiff, Nat.reduceAdd, Nat.reduceMul, Nat.reduceLeDiff, Nat.reduceLT, Int.reduceLE, Int.reduceLT, reduceCtorEq]
  generalize hV : andV _ = V
  have hV1 : V ≤ 16777215 := by rw [← hV]; exact andV_le _
  clear hV
  generalize IntKind.u64.wrap _ = x1
  refine ⟨fun h => ?_, fun h1 => ?_⟩
  · exact Kv.Fin.now (hK 0 σ (by omega) (fun h' => by omega) ⟨p, x, hb, hp⟩ (Kept.refl _ _) rfl)
  refine ⟨by omega, fun h2 => ⟨h2, fun y hy => ?_⟩, fun h2 => ?_⟩
  · have hpl : p < l.length := by omega
    rw [u8s_getD hpl] at hy; cases hy
    have hbt := hl.2 _ (List.getElem_mem hpl)
    have hcs : (PV.int .u8 l[p]).cs = [.int .u8 l[p]] := rfl
    rw [hcs]
    refine ⟨rfl, by simp, fun c hc => ?_⟩
    simp only [List.getElem?_cons_zero, Option.some.injEq] at hc
    subst hc
    have hpl2 := hl.1
    try simp only [OpK_eq, HKv, hself, hset, put3, put31, take6, List.drop_zero, Int.cast_ofNat_Int, go_sem, ↓reduceIte, Nat.reduceEqDiff, Nat.reduceAdd, Nat.reduceMul, Nat.reduceLeDiff, Nat.reduceLT, Int.reduceLE, Int.reduceLT, reduceCtorEq]
    iterate 6 (try refine ⟨by omega, ?_⟩)
    exact Kv.Fin.now (hK _ _ (Int.emod_nonneg _ (by omega)) (fun h' => Int.emod_lt_of_pos _ (by omega)) ⟨p + 1, x1, hself _, by omega⟩ (Kept.set _) (by simp))
  · try simp only [OpK_eq, HKv, hself, hset, take6, List.drop_zero, Int.cast_ofNat_Int, go_sem, ↓reduceIte, Nat.reduceEqDiff, Nat.reduceAdd, Nat.reduceMul, Nat.reduceLeDiff, Nat.reduceLT, Int.reduceLE, Int.reduceLT, reduceCtorEq]
    iterate 6 (try refine ⟨by omega, ?_⟩)
    exact Kv.Fin.now (hK _ _ (Int.emod_nonneg _ (by omega)) (fun h' => Int.emod_lt_of_pos _ (by omega)) ⟨p, x1, hself _, hp⟩ (Kept.set _) (by simp))
theorem getD_memD {l : List Int} {i : Nat} (h : i < l.length) : l.getD i 0 ∈ l := by
  rw [List.getD_eq_getElem?_getD, List.getElem?_eq_getElem h]; exact List.getElem_mem _
theorem p76 {l : List Int} (hl : Byt l) {σ : Heap} {b : Nat} (hS : Src σ b l) (L : List Int) (h0 : 1 ≤ L.length ∧ L.length ≤ 1000) {id ver : Nat} {e : TypeId} (hid : σ[id]? = some (.arr ver e 1 (ints L))) (hne : id ≠ b) (k : Nat) (hk : k = L.length) {K : PV → Heap → Prop}
    (hK : ∀ (r : Int) σ', r ∈ L → Src σ' b l → Kept σ σ' b → σ'.length = σ.length → K (.int .i64 r) σ') : ACall Tryz.prog 76 [.ptr b 0, .ref id ver 0 k] σ K := by
  subst hk
  refine e76 (by simp) fun _ _ => ?_
  simp only [k76, argEnv, take6, List.drop_zero, Int.cast_ofNat_Int, go_sem, ↓reduceIte, Nat.reduceEqDiff, Nat.reduceAdd, Nat.reduceMul, Nat.reduceLeDiff, Nat.reduceLT, Int.reduceLE, Int.reduceLT, reduceCtorEq]
  try simp only [OpK_eq, HKv, hid, take6, List.drop_zero, Int.cast_ofNat_Int, go_sem, ↓reduceIte, Nat.reduceEqDiff, Nat.reduceAdd, Nat.reduceMul, Nat.reduceLeDiff, Nat.reduceLT, Int.reduceLE, Int.reduceLT, reduceCtorEq]
  refine p124 hl hS _ fun r σ' h1 h2 h3 h4 h5 => ?_
  have hid2 := (h4.2 id (List.getElem?_eq_some_iff.1 hid).1 hne).trans hid
  have hrl := h2 (by omega)
  try simp only [OpK_eq, HKv, hid2, take6, List.drop_zero, Int.cast_ofNat_Int, go_sem, ↓reduceIte, Nat.reduceEqDiff, Nat.reduceAdd, Nat.reduceMul, Nat.reduceLeDiff, Nat.reduceLT, Int.reduceLE, Int.reduceLT, reduceCtorEq]
  exact ⟨by omega, by omega, fun _ => Kv.Fin.now (hK _ σ' (getD_memD (by omega)) h3 h4 h5)⟩
theorem p68 {l : List Int} (hl : Byt l) {K : PV → Heap → Prop} (hK : ∀ h, K (.ptr 0 0) [srcO l 0 h]) : ACall Tryz.prog 68 [.list (u8s l)] [] K := by
  have hll := hl.1
  refine e68 (by simp) fun _ _ => ?_
  simp only [k68, argEnv, aWrapU, take6, List.drop_zero, Int.cast_ofNat_Int, go_sem, ↓reduceIte, Nat.reduceEqDiff, Nat.reduceAdd, Nat.reduceMul, Nat.reduceLeDiff, Nat.reduceLT, Int.reduceLE, Int.reduceLT, reduceCtorEq]
  generalize IntKind.u64.wrap _ = h0
  refine KL_ind k68_b0.eq_1 (fun y : Nat × Int × PV × PV => [(0, .list (u8s l)), (3, .ptr 0 0), (4, .int .i64 y.1), (17, y.2.2.1), (18, y.2.2.2)]) (fun y => [srcO l 0 y.2.1]) (fun y => y.1 ≤ l.length) (fun y => l.length - y.1) [0, 3, 4, 17, 18] (0, h0, .undef, .undef) (by simp [keep]) (by rfl) (Nat.zero_le _) fun ⟨k, h, v1, v2⟩ hk ih => ?_
  simp only at hk
  have hb : ∀ h, [srcO l 0 h][0]? = some (.box [.list (u8s l), .int .i64 (0 : Nat), .int .u64 h]) := fun h => rfl
  have hset : ∀ o o' : AObj, [o].set 0 o' = [o'] := fun o o' => rfl
  try simp only [OpK_eq, HKv, hb, hset, put3, aWrapU, take6, List.drop_zero, Int.cast_ofNat_Int, go_sem, ↓reduceIte, Nat.reduceEqDiff, Nat.reduceAdd, Nat.reduceMul, Nat.reduceLeDiff, Nat.reduceLT, Int.reduceLE, Int.reduceLT, reduceCtorEq]
  refine ⟨fun h1 => ⟨fun h2 => ⟨h1, fun y hy => ?_⟩, fun h2 => Kv.Fin.now (hK h)⟩, fun h1 => Kv.Fin.now (hK h)⟩
  have hkl : k < l.length := by omega
  rw [u8s_getD hkl] at hy; cases hy
  have hcs : (PV.int .u8 l[k]).cs = [.int .u8 l[k]] := rfl
  rw [hcs]
  refine ⟨rfl, by simp, fun c hc => ?_⟩
  simp only [List.getElem?_cons_zero, Option.some.injEq] at hc
  subst hc
  try simp only [OpK_eq, HKv, hb, hset, put3, aWrapU, take6, List.drop_zero, Int.cast_ofNat_Int, go_sem, ↓reduceIte, Nat.reduceEqDiff, Nat.reduceAdd, Nat.reduceMul, Nat.reduceLeDiff, Nat.reduceLT, Int.reduceLE, Int.reduceLT, reduceCtorEq]
  iterate 4 (try refine ⟨by omega, ?_⟩)
  exact ih (k + 1, _, _, _) (by show k + 1 ≤ l.length; omega) (by show l.length - (k + 1) < l.length - k; omega) _ _ (by simp [keep]; exact ⟨rfl, rfl⟩) rfl
end Go.Proofs.YtpfapiiinkkcgaaGreat
