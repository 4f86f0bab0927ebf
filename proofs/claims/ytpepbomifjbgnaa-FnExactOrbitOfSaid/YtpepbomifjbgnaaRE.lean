/- The points that are reached from one. -/
import Derived.Test.YtpepbomifjbgnaaCb
import Derived.Test.YtpepbomifjbgnaaSJ
namespace Go.Proofs.Ytpepbomifjbgnaa
open Go.Kv
set_option maxRecDepth 100000
/- impl.lead -/
/- live [2, 5, 8, 9, 10] -/
def k140_b0 : KC := (.seq (.ops [⟨(some 11), none, .bin .lss (.t 10) (.t 9)⟩])
  (.seq (.cond (.t 11) .skip (.exit 0))
  (.seq (.block 1 (.seq (.ops [⟨(some 12), none, .idxS 1 (.t 8) (.t 10)⟩, ⟨(some 13), none, .load false 1 (.t 12)⟩, ⟨(some 7), none, .mv (.t 13)⟩])
  (.ops [⟨(some 14), none, .mv (.t 5)⟩, ⟨(some 15), none, .mv (.t 7)⟩, ⟨(some 16), none, .fieldA 1 (.t 2)⟩, ⟨(some 17), none, .idxA 5 1 (.t 16) (.t 15)⟩, ⟨(some 18), none, .load false 1 (.t 17)⟩, ⟨(some 19), none, .bsl true 2 1 [(.t 18)]⟩, ⟨(some 20), none, .app (.t 14) (.t 19) 2 1⟩, ⟨(some 5), none, .mv (.t 20)⟩])))
  (.ops [⟨(some 21), none, .bin .add (.t 10) (.c (.int .i64 1))⟩, ⟨(some 10), none, .mv (.t 21)⟩]))))
def k140 : KC := (.seq (.ops [⟨(some 2), none, .box true (.t 0)⟩, ⟨(some 4), none, .mv (.c (.nils))⟩])
  (.seq (.ops [⟨(some 5), none, .mv (.c (.nils))⟩])
  (.seq (.seq (.ops [⟨(some 8), none, .mv (.t 1)⟩, ⟨(some 9), none, .len false (.t 8)⟩, ⟨(some 10), none, .mv (.c (.int .i64 0))⟩])
  (.block 0 (.loop k140_b0)))
  (.seq (.ops [⟨(some 22), none, .mv (.t 5)⟩, ⟨(some 4), none, .mv (.t 22)⟩])
  .ret))))
theorem e140 {args : List PV} {σ : Heap} {K : PV → Heap → Prop} (hl : args.length ≤ 23) (h : Wf σ → (∀ a ∈ args, PV.upto σ.length a) → vc (mkCfg Try.prog mixed [2, 19] 23 σ.length) k140 (FinK σ.length [.t 4] K) (argEnv 0 args) σ) : ACall Try.prog 140 args σ K :=
  ACall_enter (C := mkCfg Try.prog mixed [2, 19] 23 σ.length) (c := Try.f140.body.getD .skip) Try.func140 (by kernel_rfl) (by kernel_rfl) (by kernel_rfl) rfl hl (by kernel_rfl) (by kernel_rfl) h
/- impl.reached$1 -/
def k141 : KC := (.seq (.ops [⟨(some 2), none, .box true (.t 0)⟩, ⟨(some 3), none, .mv (.c (.bool false))⟩])
  (.seq (.draw [⟨(some 4), none, .load false 1 (.t 1)⟩, ⟨(some 5), none, .fieldA 0 (.t 2)⟩, ⟨(some 6), none, .load false 1 (.t 5)⟩, ⟨(some 7), none, .idxS 1 (.t 6) (.c (.int .i64 0))⟩, ⟨(some 8), none, .load false 1 (.t 7)⟩, ⟨(some 9), none, .bsl true 2 1 [(.t 8)]⟩, ⟨(some 10), none, .app (.t 4) (.t 9) 2 1⟩, ⟨none, none, .store 1 (.t 1) (.t 10)⟩])
  (.seq (.ops [⟨(some 3), none, .mv (.c (.bool true))⟩])
  .ret)))
theorem e141 {args : List PV} {σ : Heap} {K : PV → Heap → Prop} (hl : args.length ≤ 11) (h : Wf σ → (∀ a ∈ args, PV.upto σ.length a) → vc (mkCfg Try.prog mixed [2, 9] 11 σ.length) k141 (FinK σ.length [.t 3] K) (argEnv 0 args) σ) : ACall Try.prog 141 args σ K :=
  ACall_enter (C := mkCfg Try.prog mixed [2, 9] 11 σ.length) (c := Try.f141.body.getD .skip) Try.func141 (by kernel_rfl) (by kernel_rfl) (by kernel_rfl) rfl hl (by kernel_rfl) (by kernel_rfl) h
end Go.Proofs.Ytpepbomifjbgnaa
namespace Go.Proofs.Ytpepbomifjbgnaa
open Go.Kv
set_option linter.unusedVariables false
set_option linter.unusedSimpArgs false
attribute [local irreducible] ACall PCall KL
def ldp (f : List Nat) (p : List Int) : List Int := p.map fun x => (f.getD x.toNat 0 : Int)
/-- One point. -/
def one (n : Nat) (p : List Int) : Prop := ∃ q, q < n ∧ p = [(q : Int)]
theorem ldp_one {f : List Nat} {n : Nat} (hf : Ok f n) {p : List Int} (h : one n p) : one n (ldp f p) := by
  obtain ⟨q, hq, rfl⟩ := h
  exact ⟨f.getD q 0, hf.get hq, by simp [ldp]⟩
theorem p140 (f : List Nat) (n : Nat) (hf : Ok f n) (p : List Int) (h : one n p) : Pure Try.prog 140 [.agg (ints (mp f)), .list (ints p)] (.list (ints (ldp f p))) := by
  obtain ⟨q, hq, rfl⟩ := h
  have hlf := hf.mp_len
  have h5 := hf.le
  refine e140 (by simp) fun _ _ => ?_
  simp only [k140, argEnv, hlf, take6, List.drop_zero, Int.cast_ofNat_Int, go_sem, ↓reduceIte, Nat.reduceEqDiff, Nat.reduceAdd, Nat.reduceMul, Nat.reduceLeDiff, Nat.reduceLT, Int.reduceLE, Int.reduceLT, reduceCtorEq]
  refine KL_ind k140_b0.eq_1 (fun x : Nat => [(2, .fptr (ints (mp f)) 0), (5, nref 0 x), (8, .list (ints [(q : Int)])), (9, .int .i64 1), (10, .int .i64 x)]) (fun x => nhp [.arr (x - 1) 2 1 (ints ((ldp f [(q : Int)]).take x))] x) (fun x => x ≤ 1) (fun x => 1 - x) [2, 5, 8, 9, 10] 0 (by rfl) (by rfl) (Nat.zero_le _) fun x hx ih => ?_
  try simp only [hlf, take6, List.drop_zero, Int.cast_ofNat_Int, go_sem, ↓reduceIte, Nat.reduceEqDiff, Nat.reduceAdd, Nat.reduceMul, Nat.reduceLeDiff, Nat.reduceLT, Int.reduceLE, Int.reduceLT, reduceCtorEq]
  refine ⟨fun h1 => ?_, fun h1 => ?_⟩
  · obtain rfl : x = 0 := by omega
    have hq0 : [(q : Int)].getD 0 0 = (q : Int) := rfl
    have hqt : (q : Int).toNat = q := by omega
    rw [hq0, hqt]
    have e1 : (ldp f [(q : Int)]).take 1 = [(f.getD q 0 : Int)] := by simp [ldp]
    try simp only [take6, List.drop_zero, Int.cast_ofNat_Int, go_sem, ↓reduceIte, Nat.reduceEqDiff, Nat.reduceAdd, Nat.reduceMul, Nat.reduceLeDiff, Nat.reduceLT, Int.reduceLE, Int.reduceLT, reduceCtorEq]
    refine ⟨by omega, by omega, fun _ => ⟨by omega, ih 1 (by omega) (by omega) _ _ (by simp [keep, nref]) ?_⟩⟩
    rw [e1]; rfl
  · obtain rfl : x = 1 := by omega
    have e1 : (ldp f [(q : Int)]).take 1 = ldp f [(q : Int)] := by simp [ldp]
    rw [e1]
    exact Kv.Fin.freeze (Imm.refn (l := ldp f [(q : Int)]) rfl (by simp [ldp])) ⟨rfl, rfl⟩
theorem p141n (σ : Heap) (q : Int) (w : PV) (h0 : σ[0]? = some (.box [.nils])) (hw : w.ok = true) (K : PV → Heap → Prop)
    (hK : K (.bool true) ((σ ++ [AObj.arr 0 2 1 (ints [q])]).set 0 (AObj.box [.ref σ.length 0 0 1]))) :
    ACall Try.prog 141 [.agg [.list (ints [q]), w], .ptr 0 0] σ K := by
  have hlt0 := (List.getElem?_eq_some_iff.1 h0).1
  have hwok : [PV.list (ints [q]), w].all PV.ok = true := by simp [PV.ok]; exact hw
  have hput : ∀ v, putC [PV.nils] 0 [v] = [v] := fun v => by unfold putC; first | rfl | (split <;> rfl) | simp
  have h1 : (σ ++ [AObj.arr 0 2 1 (ints [q])])[0]? = some (.box [.nils]) := (List.getElem?_append_left hlt0).trans h0
  have e : ints [q] = [PV.int .i64 q] := rfl
  rw [e] at h1 hK
  refine e141 (by simp) fun _ _ => ?_
  simp only [k141, argEnv, take6, List.drop_zero, Int.cast_ofNat_Int, go_sem, ↓reduceIte, Nat.reduceEqDiff, Nat.reduceAdd, Nat.reduceMul, Nat.reduceLeDiff, Nat.reduceLT, Int.reduceLE, Int.reduceLT, reduceCtorEq]
  try simp only [OpK_eq, hwok, h0, HKv, take6, List.drop_zero, Int.cast_ofNat_Int, go_sem, ↓reduceIte, Nat.reduceEqDiff, Nat.reduceAdd, Nat.reduceMul, Nat.reduceLeDiff, Nat.reduceLT, Int.reduceLE, Int.reduceLT, reduceCtorEq]
  refine ⟨hw, ?_⟩
  have hq0 : [q].getD 0 0 = q := rfl
  rw [hq0]
  try simp only [OpK_eq, h1, hput, HKv, take6, List.drop_zero, Int.cast_ofNat_Int, go_sem, ↓reduceIte, Nat.reduceEqDiff, Nat.reduceAdd, Nat.reduceMul, Nat.reduceLeDiff, Nat.reduceLT, Int.reduceLE, Int.reduceLT, reduceCtorEq]
  exact Kv.Fin.now hK
theorem p141r (σ : Heap) (q : Int) (w : PV) (a : List Int) (hl : a.length ≤ 1000) (id ver : Nat) (hid : σ[id]? = some (.arr ver 2 1 (ints a))) (hne : id ≠ 0) (h0 : σ[0]? = some (.box [.ref id ver 0 a.length])) (hw : w.ok = true) (K : PV → Heap → Prop)
    (hK : K (.bool true) ((σ.set id (.arr (ver + 1) 2 1 (ints (a ++ [q])))).set 0 (.box [.ref id (ver + 1) 0 (a.length + 1)]))) :
    ACall Try.prog 141 [.agg [.list (ints [q]), w], .ptr 0 0] σ K := by
  have hlt0 := (List.getElem?_eq_some_iff.1 h0).1
  have hwok : [PV.list (ints [q]), w].all PV.ok = true := by simp [PV.ok]; exact hw
  have hput : ∀ v, putC [PV.ref id ver 0 a.length] 0 [v] = [v] := fun v => by unfold putC; first | rfl | (split <;> rfl) | simp
  have h1 : ∀ o, (σ.set id o)[0]? = some (.box [.ref id ver 0 a.length]) := fun o => (List.getElem?_set_ne hne).trans h0
  refine e141 (by simp) fun _ _ => ?_
  simp only [k141, argEnv, take6, List.drop_zero, Int.cast_ofNat_Int, go_sem, ↓reduceIte, Nat.reduceEqDiff, Nat.reduceAdd, Nat.reduceMul, Nat.reduceLeDiff, Nat.reduceLT, Int.reduceLE, Int.reduceLT, reduceCtorEq]
  try simp only [OpK_eq, hwok, h0, HKv, take6, List.drop_zero, Int.cast_ofNat_Int, go_sem, ↓reduceIte, Nat.reduceEqDiff, Nat.reduceAdd, Nat.reduceMul, Nat.reduceLeDiff, Nat.reduceLT, Int.reduceLE, Int.reduceLT, reduceCtorEq]
  refine ⟨hw, ?_⟩
  have hq0 : [q].getD 0 0 = q := rfl
  rw [hq0]
  try simp only [OpK_eq, hid, h1, hput, HKv, take6, List.drop_zero, Int.cast_ofNat_Int, go_sem, ↓reduceIte, Nat.reduceEqDiff, Nat.reduceAdd, Nat.reduceMul, Nat.reduceLeDiff, Nat.reduceLT, Int.reduceLE, Int.reduceLT, reduceCtorEq]
  exact ⟨⟨Nat.le_refl _, by omega⟩, Kv.Fin.now hK⟩
/-- What has been reached, in order. -/
def rch (fs : List (List Nat)) (q : Nat) (i : Nat) : List Int := ((bl fs ldp [(q : Int)] i).take i).flatMap Prod.fst
/-- The caller's part of the heap: the list so far, and where it lies. -/
def RI (x : List Int × Option Nat) (σ : Heap) : Prop :=
  match x.2 with
  | none => σ[0]? = some (.box [.nils]) ∧ x.1 = []
  | some id => ∃ ver, σ[0]? = some (.box [.ref id ver 0 x.1.length]) ∧ σ[id]? = some (.arr ver 2 1 (ints x.1)) ∧ id ≠ 0
theorem advN_preE (fs : List (List Nat)) (bf : List Nat → List Int → List Int) (Q : List Met) (m : Met) : ∀ k, ∃ r, advN fs bf Q m k = Q ++ r
  | 0 => ⟨[], by simp [advN]⟩
  | k + 1 => by
    obtain ⟨r, h⟩ := advN_preE fs bf Q m k
    rw [advN_succ]
    split
    · exact ⟨r, h⟩
    · exact ⟨r ++ [(bf (fs.getD k []) m.1, m.2 ++ [(k : Int)])], by rw [h, List.append_assoc]⟩
theorem rch_succ {fs : List (List Nat)} {q i : Nat} (h : i < (bl fs ldp [(q : Int)] i).length) : rch fs q (i + 1) = rch fs q i ++ (bl fs ldp [(q : Int)] i)[i].1 := by
  unfold rch
  rw [bl_succ h]
  obtain ⟨r, hr⟩ := advN_preE fs ldp (bl fs ldp [(q : Int)] i) (bl fs ldp [(q : Int)] i)[i] fs.length
  rw [hr, List.take_append_of_le_length (by omega), List.take_succ_eq_append_getElem h, List.flatMap_append]
  simp
end Go.Proofs.Ytpepbomifjbgnaa
