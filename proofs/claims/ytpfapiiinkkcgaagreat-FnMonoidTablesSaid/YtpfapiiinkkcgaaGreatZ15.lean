/- Several texts of this session as one, less what the claim does not need. -/
import Derived.Test.YtpfapiiinkkcgaaGreatCb
import Derived.Test.YtpfapiiinkkcgaaGreatZ8
import Derived.Test.YtpfapiiinkkcgaaGreatZ7
import Derived.Test.YtpfapiiinkkcgaaGreatZ11
import Derived.Test.YtpfapiiinkkcgaaGreatZ9
import Derived.Test.YtpfapiiinkkcgaaGreatZ14
import Derived.Test.YtpfapiiinkkcgaaGreatZ12
import Derived.Test.YtpfapiiinkkcgaaGreatZ13
section
/- The maps of a table: both sides. -/
namespace Go.Proofs.YtpfapiiinkkcgaaGreat
open Go.Kv
set_option maxRecDepth 100000
/- impl.MapOf -/
def k115 : KC := (.seq (.ops [⟨(some 2), none, .alloc [.int .i64 0, .int .i64 0, .int .i64 0, .int .i64 0, .int .i64 0, .int .i64 0]⟩, ⟨(some 3), none, .mv (.c (.int .i64 0))⟩])
  (.seq (.ops [⟨(some 5), none, .mv (.t 0)⟩, ⟨(some 6), none, .len false (.t 5)⟩, ⟨(some 7), none, .build [.int .i64 0, .int .i64 0, .int .i64 0, .int .i64 0, .int .i64 0, .int .i64 0] [(0, 1, (.t 6))]⟩, ⟨(some 4), none, .alloc [.int .i64 0, .int .i64 0, .int .i64 0, .int .i64 0, .int .i64 0, .int .i64 0]⟩, ⟨none, none, .store 6 (.t 4) (.t 7)⟩])
  (.seq (.seq (.ops [⟨(some 8), none, .fieldA 0 (.t 4)⟩, ⟨(some 9), none, .load false 1 (.t 8)⟩, ⟨(some 10), none, .call (.c (.fn (.func 77) [] [])) [(.t 9), (.c (.int .i64 1)), (.c (.int .i64 5))]⟩, ⟨(some 11), none, .not (.t 10)⟩])
  (.cond (.t 11) (.seq (.ops [⟨(some 12), none, .build [.int .i64 0, .int .i64 0, .int .i64 0, .int .i64 0, .int .i64 0, .int .i64 0] []⟩, ⟨none, none, .store 6 (.t 2) (.t 12)⟩, ⟨(some 3), none, .mv (.c (.int .i64 2))⟩])
  .ret) .skip))
  (.seq (.ops [⟨(some 13), none, .fieldA 1 (.t 4)⟩, ⟨(some 14), none, .slA 5 (.t 13) none⟩, ⟨(some 15), none, .mv (.t 0)⟩, ⟨(some 16), none, .cpy (.t 14) (.t 15)⟩])
  (.seq (.seq (.ops [⟨(some 17), none, .load true 6 (.t 4)⟩, ⟨(some 18), none, .call (.c (.fn (.func 85) [] [])) [(.t 17)]⟩, ⟨(some 19), none, .not (.t 18)⟩])
  (.cond (.t 19) (.seq (.ops [⟨(some 20), none, .build [.int .i64 0, .int .i64 0, .int .i64 0, .int .i64 0, .int .i64 0, .int .i64 0] []⟩, ⟨none, none, .store 6 (.t 2) (.t 20)⟩, ⟨(some 3), none, .mv (.c (.int .i64 2))⟩])
  .ret) .skip))
  (.seq (.ops [⟨(some 21), none, .load true 6 (.t 4)⟩, ⟨none, none, .store 6 (.t 2) (.t 21)⟩, ⟨(some 3), none, .mv (.c (.int .i64 0))⟩])
  .ret))))))
theorem e115 {args : List PV} {σ : Heap} {K : PV → Heap → Prop} (hl : args.length ≤ 22) (h : Wf σ → (∀ a ∈ args, PV.upto σ.length a) → vc (mkCfg Tryz.prog mixed [] 22 σ.length) k115 (FinK σ.length [.cell 2 true 6, .t 3] K) (argEnv 0 args) σ) : ACall Tryz.prog 115 args σ K :=
  ACall_enter (C := mkCfg Tryz.prog mixed [] 22 σ.length) (c := Tryz.f115.body.getD .skip) Tryz.func115 (by kernel_rfl) (by kernel_rfl) (by kernel_rfl) rfl hl (by kernel_rfl) (by kernel_rfl) h
/- impl.MapsOfTable -/
/- live [0, 4, 21, 22] -/
def k42_b0 : KC := (.seq (.ops [⟨(some 23), none, .bin .lss (.t 22) (.t 21)⟩])
  (.seq (.cond (.t 23) .skip (.exit 1))
  (.seq (.block 2 (.seq (.ops [⟨(some 24), none, .mv (.t 22)⟩, ⟨(some 5), none, .mv (.t 24)⟩])
  (.seq (.ops [⟨(some 26), none, .mv (.t 0)⟩, ⟨(some 27), none, .mv (.t 5)⟩, ⟨(some 28), none, .call (.c (.fn (.func 114) [] [])) [(.t 26), (.t 27)]⟩, ⟨(some 29), none, .call (.c (.fn (.func 115) [] [])) [(.t 28)]⟩, ⟨(some 25), none, .mv (.t 29)⟩, ⟨(some 30), none, .extr 0 (.t 25)⟩, ⟨(some 31), none, .extr 1 (.t 25)⟩, ⟨(some 6), none, .alloc [.int .i64 0, .int .i64 0, .int .i64 0, .int .i64 0, .int .i64 0, .int .i64 0]⟩, ⟨none, none, .store 6 (.t 6) (.t 30)⟩, ⟨(some 7), none, .mv (.t 31)⟩])
  (.ops [⟨(some 32), none, .mv (.t 4)⟩, ⟨(some 33), none, .load true 6 (.t 6)⟩, ⟨(some 34), none, .bsl true 34 6 [(.t 33)]⟩, ⟨(some 35), none, .app (.t 32) (.t 34) 34 6⟩, ⟨(some 4), none, .mv (.t 35)⟩]))))
  (.ops [⟨(some 36), none, .bin .add (.t 22) (.c (.int .i64 1))⟩, ⟨(some 22), none, .mv (.t 36)⟩]))))
def k42 : KC := (.seq (.ops [⟨(some 2), none, .mv (.c (.nils))⟩, ⟨(some 3), none, .mv (.c (.int .i64 0))⟩])
  (.seq (.block 0 (.seq (.ops [⟨(some 9), none, .mv (.t 0)⟩, ⟨(some 10), none, .call (.c (.fn (.func 105) [] [])) [(.t 9)]⟩, ⟨(some 11), none, .not (.t 10)⟩, ⟨(some 8), none, .mv (.t 11)⟩])
  (.cond (.t 8) (.seq (.ops [⟨(some 2), none, .mv (.c (.nils))⟩, ⟨(some 3), none, .mv (.c (.int .i64 2))⟩])
  .ret) (.seq (.ops [⟨(some 13), none, .mv (.t 0)⟩, ⟨(some 14), none, .len false (.t 13)⟩, ⟨(some 15), none, .bin .gtr (.t 14) (.c (.int .i64 5))⟩, ⟨(some 12), none, .mv (.t 15)⟩])
  (.cond (.t 12) (.seq (.ops [⟨(some 2), none, .mv (.c (.nils))⟩, ⟨(some 3), none, .mv (.c (.int .i64 3))⟩])
  .ret) (.seq (.ops [⟨(some 17), none, .mv (.t 0)⟩, ⟨(some 18), none, .call (.c (.fn (.func 106) [] [])) [(.t 17)]⟩, ⟨(some 19), none, .not (.t 18)⟩, ⟨(some 16), none, .mv (.t 19)⟩])
  (.cond (.t 16) (.seq (.ops [⟨(some 2), none, .mv (.c (.nils))⟩, ⟨(some 3), none, .mv (.c (.int .i64 5))⟩])
  .ret) .skip)))))))
  (.seq (.ops [⟨(some 4), none, .mv (.c (.nils))⟩])
  (.seq (.seq (.ops [⟨(some 20), none, .mv (.t 0)⟩, ⟨(some 21), none, .len false (.t 20)⟩, ⟨(some 22), none, .mv (.c (.int .i64 0))⟩])
  (.block 1 (.loop k42_b0)))
  (.seq (.ops [⟨(some 37), none, .mv (.t 4)⟩, ⟨(some 2), none, .mv (.t 37)⟩, ⟨(some 3), none, .mv (.c (.int .i64 0))⟩])
  .ret)))))
theorem e42 {args : List PV} {σ : Heap} {K : PV → Heap → Prop} (hl : args.length ≤ 38) (h : Wf σ → (∀ a ∈ args, PV.upto σ.length a) → vc (mkCfg Tryz.prog mixed [34] 38 σ.length) k42 (FinK σ.length [.t 2, .t 3] K) (argEnv 0 args) σ) : ACall Tryz.prog 42 args σ K :=
  ACall_enter (C := mkCfg Tryz.prog mixed [34] 38 σ.length) (c := Tryz.f42.body.getD .skip) Tryz.func42 (by kernel_rfl) (by kernel_rfl) (by kernel_rfl) rfl hl (by kernel_rfl) (by kernel_rfl) h
/- spec.MapsOfTable -/
/- live [0, 4, 5, 6, 7] -/
def k43_b0 : KC := (.seq (.seq (.ops [⟨(some 28), none, .mv (.t 7)⟩, ⟨(some 29), none, .mv (.t 0)⟩, ⟨(some 30), none, .len false (.t 29)⟩, ⟨(some 31), none, .bin .lss (.t 28) (.t 30)⟩])
  (.cond (.t 31) .skip (.exit 3)))
  (.seq (.block 4 (.ops [⟨(some 34), none, .mv (.t 6)⟩, ⟨(some 35), none, .mv (.t 0)⟩, ⟨(some 36), none, .mv (.t 7)⟩, ⟨(some 37), none, .idxS 1 (.t 35) (.t 36)⟩, ⟨(some 38), none, .load false 1 (.t 37)⟩, ⟨(some 39), none, .mv (.t 5)⟩, ⟨(some 40), none, .idxS 1 (.t 38) (.t 39)⟩, ⟨(some 41), none, .load false 1 (.t 40)⟩, ⟨(some 42), none, .bsl true 2 1 [(.t 41)]⟩, ⟨(some 43), none, .app (.t 34) (.t 42) 2 1⟩, ⟨(some 6), none, .mv (.t 43)⟩]))
  (.ops [⟨(some 32), none, .mv (.t 7)⟩, ⟨(some 33), none, .bin .add (.t 32) (.c (.int .i64 1))⟩, ⟨(some 7), none, .mv (.t 33)⟩])))
/- live [0, 4, 5] -/
def k43_b1 : KC := (.seq (.seq (.ops [⟨(some 21), none, .mv (.t 5)⟩, ⟨(some 22), none, .mv (.t 0)⟩, ⟨(some 23), none, .len false (.t 22)⟩, ⟨(some 24), none, .bin .lss (.t 21) (.t 23)⟩])
  (.cond (.t 24) .skip (.exit 1)))
  (.seq (.block 2 (.seq (.ops [⟨(some 27), none, .bsl false 2 1 []⟩, ⟨(some 6), none, .mv (.t 27)⟩])
  (.seq (.seq (.ops [⟨(some 7), none, .mv (.c (.int .i64 0))⟩])
  (.block 3 (.loop k43_b0)))
  (.ops [⟨(some 44), none, .mv (.t 4)⟩, ⟨(some 45), none, .mv (.t 6)⟩, ⟨(some 46), none, .call (.c (.fn (.func 116) [] [])) [(.t 45)]⟩, ⟨(some 47), none, .bsl true 34 6 [(.t 46)]⟩, ⟨(some 48), none, .app (.t 44) (.t 47) 34 6⟩, ⟨(some 4), none, .mv (.t 48)⟩]))))
  (.ops [⟨(some 25), none, .mv (.t 5)⟩, ⟨(some 26), none, .bin .add (.t 25) (.c (.int .i64 1))⟩, ⟨(some 5), none, .mv (.t 26)⟩])))
def k43 : KC := (.seq (.ops [⟨(some 2), none, .mv (.c (.nils))⟩, ⟨(some 3), none, .mv (.c (.int .i64 0))⟩])
  (.seq (.block 0 (.seq (.ops [⟨(some 9), none, .mv (.t 0)⟩, ⟨(some 10), none, .call (.c (.fn (.func 107) [] [])) [(.t 9)]⟩, ⟨(some 11), none, .not (.t 10)⟩, ⟨(some 8), none, .mv (.t 11)⟩])
  (.cond (.t 8) (.seq (.ops [⟨(some 2), none, .mv (.c (.nils))⟩, ⟨(some 3), none, .mv (.c (.int .i64 2))⟩])
  .ret) (.seq (.ops [⟨(some 13), none, .mv (.t 0)⟩, ⟨(some 14), none, .len false (.t 13)⟩, ⟨(some 15), none, .bin .gtr (.t 14) (.c (.int .i64 5))⟩, ⟨(some 12), none, .mv (.t 15)⟩])
  (.cond (.t 12) (.seq (.ops [⟨(some 2), none, .mv (.c (.nils))⟩, ⟨(some 3), none, .mv (.c (.int .i64 3))⟩])
  .ret) (.seq (.ops [⟨(some 17), none, .mv (.t 0)⟩, ⟨(some 18), none, .call (.c (.fn (.func 108) [] [])) [(.t 17)]⟩, ⟨(some 19), none, .not (.t 18)⟩, ⟨(some 16), none, .mv (.t 19)⟩])
  (.cond (.t 16) (.seq (.ops [⟨(some 2), none, .mv (.c (.nils))⟩, ⟨(some 3), none, .mv (.c (.int .i64 5))⟩])
  .ret) .skip)))))))
  (.seq (.ops [⟨(some 20), none, .bsl false 34 6 []⟩, ⟨(some 4), none, .mv (.t 20)⟩])
  (.seq (.seq (.ops [⟨(some 5), none, .mv (.c (.int .i64 0))⟩])
  (.block 1 (.loop k43_b1)))
  (.seq (.ops [⟨(some 49), none, .mv (.t 4)⟩, ⟨(some 2), none, .mv (.t 49)⟩, ⟨(some 3), none, .mv (.c (.int .i64 0))⟩])
  .ret)))))
theorem e43 {args : List PV} {σ : Heap} {K : PV → Heap → Prop} (hl : args.length ≤ 50) (h : Wf σ → (∀ a ∈ args, PV.upto σ.length a) → vc (mkCfg Tryz.prog mixed [42, 47] 50 σ.length) k43 (FinK σ.length [.t 2, .t 3] K) (argEnv 0 args) σ) : ACall Tryz.prog 43 args σ K :=
  ACall_enter (C := mkCfg Tryz.prog mixed [42, 47] 50 σ.length) (c := Tryz.f43.body.getD .skip) Tryz.func43 (by kernel_rfl) (by kernel_rfl) (by kernel_rfl) rfl hl (by kernel_rfl) (by kernel_rfl) h
end Go.Proofs.YtpfapiiinkkcgaaGreat
namespace Go.Proofs.YtpfapiiinkkcgaaGreat
open Go.Kv
set_option linter.unusedVariables false
set_option linter.unusedSimpArgs false
attribute [local irreducible] ACall PCall KL
theorem p115 (l : List Nat) (n : Nat) (h : Ok l n) : Pure Tryz.prog 115 [.list (ints (l.map fun x : Nat => (x : Int)))] (.tup [.agg (ints (mp l)), .int .i64 0]) := by
  have hl := h.len
  have h1 := h.pos
  have h5 := h.le
  refine e115 (by simp) fun _ _ => ?_
  simp only [k115, argEnv, List.length_map, take6, List.drop_zero, Int.cast_ofNat_Int, go_sem, ↓reduceIte, Nat.reduceEqDiff, Nat.reduceAdd, Nat.reduceMul, Nat.reduceLeDiff, Nat.reduceLT, Int.reduceLE, Int.reduceLT, reduceCtorEq]
  refine (p77 _ _ _).go ?_
  have hpc := putC_map' l.length l (by omega)
  have h6 := h.mp_len
  have hmp : mpN l.length l = mp l := rfl
  rw [hmp] at hpc
  try simp only [hpc, h6, take6, List.drop_zero, Int.cast_ofNat_Int, go_sem, ↓reduceIte, Nat.reduceEqDiff, Nat.reduceAdd, Nat.reduceMul, Nat.reduceLeDiff, Nat.reduceLT, Int.reduceLE, Int.reduceLT, reduceCtorEq]
  refine ⟨fun h => absurd (by omega) h, fun _ => ?_⟩
  refine (p85 (mp l) h6).go ?_
  rw [isM_mp h]
  try simp only [h6, take6, List.drop_zero, Int.cast_ofNat_Int, go_sem, ↓reduceIte, Nat.reduceEqDiff, Nat.reduceAdd, Nat.reduceMul, Nat.reduceLeDiff, Nat.reduceLT, Int.reduceLE, Int.reduceLT, reduceCtorEq]
  exact Kv.Fin.still ⟨rfl, rfl⟩
/-- The images that a column tells. -/
def cn (t : List (List Int)) (a : Nat) : List Nat := (List.range t.length).map fun b => (tat t b a).toNat
theorem cn_col {t : List (List Int)} (h : isTab t = true) {a : Nat} (ha : a < t.length) : colL t a t.length = (cn t a).map fun x : Nat => (x : Int) := by
  simp only [colL, cn, List.map_map]
  refine List.map_congr_left fun b hb => ?_
  have := tab_at h (List.mem_range.1 hb) ha
  simp; omega
theorem cn_ok {t : List (List Int)} (h : isTab t = true) (h5 : t.length ≤ 5) {a : Nat} (ha : a < t.length) : Ok (cn t a) t.length := by
  obtain ⟨hn, _⟩ := tab_sq h
  refine ⟨by simp [cn], hn.1, h5, fun x hx => ?_⟩
  simp only [cn, List.mem_map, List.mem_range] at hx
  obtain ⟨b, hb, rfl⟩ := hx
  have := tab_at h hb ha
  omega
def mot (t : List (List Int)) (x : Nat) : List (List Int) := (List.range x).map fun a => mp (cn t a)
@[simp] theorem mot_length (t : List (List Int)) (x : Nat) : (mot t x).length = x := by simp [mot]
theorem mot_succ (t : List (List Int)) (x : Nat) : mot t x ++ [mp (cn t x)] = mot t (x + 1) := by simp [mot, List.range_succ]
theorem p42_in (t : List (List Int)) (ht : t.length ≤ 1048576) (hl : ∀ r ∈ t, r.length ≤ 1048576) (h : isTab t = true) (h5 : t.length ≤ 5) (hm : monB t = true) : NewAO Tryz.prog 42 [.list (rows t)] 34 (mot t t.length) 0 := by
  obtain ⟨hn, hsq⟩ := tab_sq h
  unfold NewAO
  refine e42 (by simp) fun _ _ => ?_
  simp only [k42, argEnv, take6, List.drop_zero, Int.cast_ofNat_Int, go_sem, ↓reduceIte, Nat.reduceEqDiff, Nat.reduceAdd, Nat.reduceMul, Nat.reduceLeDiff, Nat.reduceLT, Int.reduceLE, Int.reduceLT, reduceCtorEq]
  refine (p105 t ht hl).go ?_
  rw [h]
  try simp only [take6, List.drop_zero, Int.cast_ofNat_Int, go_sem, ↓reduceIte, Nat.reduceEqDiff, Nat.reduceAdd, Nat.reduceMul, Nat.reduceLeDiff, Nat.reduceLT, Int.reduceLE, Int.reduceLT, reduceCtorEq]
  refine ⟨fun h => absurd h (by omega), fun _ => ?_⟩
  refine (p106 t h).go ?_
  rw [hm]
  try simp only [take6, List.drop_zero, Int.cast_ofNat_Int, go_sem, ↓reduceIte, Nat.reduceEqDiff, Nat.reduceAdd, Nat.reduceMul, Nat.reduceLeDiff, Nat.reduceLT, Int.reduceLE, Int.reduceLT, reduceCtorEq]
  refine KL_ind k42_b0.eq_1 (fun x : Nat × PV × Heap => [(0, .list (rows t)), (4, x.2.1), (21, .int .i64 t.length), (22, .int .i64 x.1)]) (fun x => x.2.2) (fun x => x.1 ≤ t.length ∧ OwnA 34 x.2.2 0 x.2.2.length x.2.1 (mot t x.1) ∧ Free x.2.2) (fun x => t.length - x.1) [0, 4, 21, 22] (0, .nils, []) (by rfl) (by rfl) ⟨Nat.zero_le _, .nil, .nil⟩ fun ⟨x, v, σ⟩ ⟨hx, hT, hf⟩ ih => ?_
  simp only at hx hT hf
  try simp only [take6, List.drop_zero, Int.cast_ofNat_Int, go_sem, ↓reduceIte, Nat.reduceEqDiff, Nat.reduceAdd, Nat.reduceMul, Nat.reduceLeDiff, Nat.reduceLT, Int.reduceLE, Int.reduceLT, reduceCtorEq]
  refine ⟨fun h1 => ?_, fun h1 => ?_⟩
  · have hxt : x < t.length := by omega
    have hok := cn_ok h h5 hxt
    have h6 := hok.mp_len
    refine (p114 t h x hxt).go fun v' s' ⟨hv, hs⟩ => ?_
    subst hv; subst hs
    rw [cn_col h hxt]
    try simp only [ren_ref, take6, List.drop_zero, Int.cast_ofNat_Int, go_sem, ↓reduceIte, Nat.reduceEqDiff, Nat.reduceAdd, Nat.reduceMul, Nat.reduceLeDiff, Nat.reduceLT, Int.reduceLE, Int.reduceLT, reduceCtorEq]
    refine (p115 (cn t x) t.length hok).lend (.cons (Imm.refn (ver := t.length - 1) (e := 2) (l := (cn t x).map fun x : Nat => (x : Int)) (by simp) (by simp [hok.len])) (.nil _)) ?_
    have hbx : ∀ a b : AObj, (σ ++ [a] ++ [b])[σ.length + 1]? = some b := fun a b => by rw [List.getElem?_append_right (by simp)]; simp
    have hbs : ∀ a b b' : AObj, (σ ++ [a] ++ [b]).set (σ.length + 1) b' = σ ++ [a] ++ [b'] := fun a b b' => by rw [List.set_append_right _ _ (by simp)]; simp
    try simp only [h6, hbx, hbs, OpK_eq, take6, List.drop_zero, Int.cast_ofNat_Int, go_sem, ↓reduceIte, Nat.reduceEqDiff, Nat.reduceAdd, Nat.reduceMul, Nat.reduceLeDiff, Nat.reduceLT, Int.reduceLE, Int.reduceLT, reduceCtorEq]
    refine OwnA.push (OwnA.append (OwnA.append hT _) _) ((hf.append (Free.ints _ _ _ _)).append (Free.boxI _)) (mp (cn t x)) h6 (by simp; omega) fun v' σ' hT' hf' => ?_
    try simp only [OpK_eq, take6, List.drop_zero, Int.cast_ofNat_Int, go_sem, ↓reduceIte, Nat.reduceEqDiff, Nat.reduceAdd, Nat.reduceMul, Nat.reduceLeDiff, Nat.reduceLT, Int.reduceLE, Int.reduceLT, reduceCtorEq]
    repeat' (first | refine And.intro ?_ ?_ | intro _)
    all_goals (try omega)
    refine ih (x + 1, v', σ') ⟨by show x + 1 ≤ t.length; omega, ?_, hf'⟩ (by show t.length - (x + 1) < t.length - x; omega) _ _ (by rfl) rfl
    rw [← mot_succ]; exact hT'
  · obtain rfl : x = t.length := by omega
    try simp only [OpK_eq, take6, List.drop_zero, Int.cast_ofNat_Int, go_sem, ↓reduceIte, Nat.reduceEqDiff, Nat.reduceAdd, Nat.reduceMul, Nat.reduceLeDiff, Nat.reduceLT, Int.reduceLE, Int.reduceLT, reduceCtorEq]
    exact Kv.Fin.now ⟨v, rfl, hT, hf⟩
/-- The code of a table. -/
def mtc (t : List (List Int)) : Int := if isTab t = false then 2 else if 5 < t.length then 3 else if monB t = false then 5 else 0
theorem p42_out (t : List (List Int)) (ht : t.length ≤ 1048576) (hl : ∀ r ∈ t, r.length ≤ 1048576) (h : mtc t ≠ 0) : Pure Tryz.prog 42 [.list (rows t)] (.tup [.nils, .int .i64 (mtc t)]) := by
  refine e42 (by simp) fun _ _ => ?_
  simp only [k42, argEnv, take6, List.drop_zero, Int.cast_ofNat_Int, go_sem, ↓reduceIte, Nat.reduceEqDiff, Nat.reduceAdd, Nat.reduceMul, Nat.reduceLeDiff, Nat.reduceLT, Int.reduceLE, Int.reduceLT, reduceCtorEq]
  refine (p105 t ht hl).go ?_
  cases hb : isTab t with
  | false =>
    try simp only [take6, List.drop_zero, Int.cast_ofNat_Int, go_sem, ↓reduceIte, Nat.reduceEqDiff, Nat.reduceAdd, Nat.reduceMul, Nat.reduceLeDiff, Nat.reduceLT, Int.reduceLE, Int.reduceLT, reduceCtorEq]
    exact Kv.Fin.still ⟨by simp [mtc, hb], rfl⟩
  | true =>
    try simp only [take6, List.drop_zero, Int.cast_ofNat_Int, go_sem, ↓reduceIte, Nat.reduceEqDiff, Nat.reduceAdd, Nat.reduceMul, Nat.reduceLeDiff, Nat.reduceLT, Int.reduceLE, Int.reduceLT, reduceCtorEq]
    refine ⟨fun h1 => Kv.Fin.still ⟨?_, rfl⟩, fun h1 => ?_⟩
    · rw [mtc, if_neg (by simp [hb]), if_pos (by omega)]
    · refine (p106 t hb).go ?_
      cases hm : monB t with
      | false =>
        try simp only [take6, List.drop_zero, Int.cast_ofNat_Int, go_sem, ↓reduceIte, Nat.reduceEqDiff, Nat.reduceAdd, Nat.reduceMul, Nat.reduceLeDiff, Nat.reduceLT, Int.reduceLE, Int.reduceLT, reduceCtorEq]
        exact Kv.Fin.still ⟨by rw [mtc, if_neg (by simp [hb]), if_neg (by omega), if_pos hm], rfl⟩
      | true => exact absurd (by rw [mtc, if_neg (by simp [hb]), if_neg (by omega), if_neg (by simp [hm])]) h
theorem p43_out (t : List (List Int)) (ht : t.length ≤ 1048576) (hl : ∀ r ∈ t, r.length ≤ 1048576) (h : mtc t ≠ 0) : Pure Tryz.prog 43 [.list (rows t)] (.tup [.nils, .int .i64 (mtc t)]) := by
  refine e43 (by simp) fun _ _ => ?_
  simp only [k43, argEnv, take6, List.drop_zero, Int.cast_ofNat_Int, go_sem, ↓reduceIte, Nat.reduceEqDiff, Nat.reduceAdd, Nat.reduceMul, Nat.reduceLeDiff, Nat.reduceLT, Int.reduceLE, Int.reduceLT, reduceCtorEq]
  refine (p107 t ht hl).go ?_
  cases hb : isTab t with
  | false =>
    try simp only [take6, List.drop_zero, Int.cast_ofNat_Int, go_sem, ↓reduceIte, Nat.reduceEqDiff, Nat.reduceAdd, Nat.reduceMul, Nat.reduceLeDiff, Nat.reduceLT, Int.reduceLE, Int.reduceLT, reduceCtorEq]
    exact Kv.Fin.still ⟨by simp [mtc, hb], rfl⟩
  | true =>
    try simp only [take6, List.drop_zero, Int.cast_ofNat_Int, go_sem, ↓reduceIte, Nat.reduceEqDiff, Nat.reduceAdd, Nat.reduceMul, Nat.reduceLeDiff, Nat.reduceLT, Int.reduceLE, Int.reduceLT, reduceCtorEq]
    refine ⟨fun h1 => Kv.Fin.still ⟨?_, rfl⟩, fun h1 => ?_⟩
    · rw [mtc, if_neg (by simp [hb]), if_pos (by omega)]
    · refine (p108 t hb).go ?_
      cases hm : monB t with
      | false =>
        try simp only [take6, List.drop_zero, Int.cast_ofNat_Int, go_sem, ↓reduceIte, Nat.reduceEqDiff, Nat.reduceAdd, Nat.reduceMul, Nat.reduceLeDiff, Nat.reduceLT, Int.reduceLE, Int.reduceLT, reduceCtorEq]
        exact Kv.Fin.still ⟨by rw [mtc, if_neg (by simp [hb]), if_neg (by omega), if_pos hm], rfl⟩
      | true => exact absurd (by rw [mtc, if_neg (by simp [hb]), if_neg (by omega), if_neg (by simp [hm])]) h
theorem p43_in (t : List (List Int)) (ht : t.length ≤ 1048576) (hl : ∀ r ∈ t, r.length ≤ 1048576) (h : isTab t = true) (h5 : t.length ≤ 5) (hm : monB t = true) : Pure Tryz.prog 43 [.list (rows t)] (.tup [.list (aggs (mot t t.length)), .int .i64 0]) := by
  obtain ⟨hn, hsq⟩ := tab_sq h
  refine e43 (by simp) fun _ _ => ?_
  simp only [k43, argEnv, take6, List.drop_zero, Int.cast_ofNat_Int, go_sem, ↓reduceIte, Nat.reduceEqDiff, Nat.reduceAdd, Nat.reduceMul, Nat.reduceLeDiff, Nat.reduceLT, Int.reduceLE, Int.reduceLT, reduceCtorEq]
  refine (p107 t ht hl).go ?_
  rw [h]
  try simp only [take6, List.drop_zero, Int.cast_ofNat_Int, go_sem, ↓reduceIte, Nat.reduceEqDiff, Nat.reduceAdd, Nat.reduceMul, Nat.reduceLeDiff, Nat.reduceLT, Int.reduceLE, Int.reduceLT, reduceCtorEq]
  refine ⟨fun h => absurd h (by omega), fun _ => ?_⟩
  refine (p108 t h).go ?_
  rw [hm]
  try simp only [take6, List.drop_zero, Int.cast_ofNat_Int, go_sem, ↓reduceIte, Nat.reduceEqDiff, Nat.reduceAdd, Nat.reduceMul, Nat.reduceLeDiff, Nat.reduceLT, Int.reduceLE, Int.reduceLT, reduceCtorEq]
  refine KL_ind k43_b1.eq_1 (fun x : Nat × PV × Heap => [(0, .list (rows t)), (4, x.2.1), (5, .int .i64 x.1)]) (fun x => x.2.2) (fun x => x.1 ≤ t.length ∧ OwnA 34 x.2.2 0 x.2.2.length x.2.1 (mot t x.1) ∧ Free x.2.2) (fun x => t.length - x.1) [0, 4, 5] (0, .ref 0 0 0 0, [.arr 0 34 6 []]) (by rfl) (by rfl) ⟨Nat.zero_le _, .own 0 0 [] [] rfl (by simp) ⟨Nat.zero_le _, by simp⟩, Free.empty _ _ _⟩ fun ⟨x, v, σ⟩ ⟨hx, hT, hf⟩ ih => ?_
  simp only at hx hT hf
  try simp only [take6, List.drop_zero, Int.cast_ofNat_Int, go_sem, ↓reduceIte, Nat.reduceEqDiff, Nat.reduceAdd, Nat.reduceMul, Nat.reduceLeDiff, Nat.reduceLT, Int.reduceLE, Int.reduceLT, reduceCtorEq]
  refine ⟨fun h1 => ?_, fun h1 => ?_⟩
  · have hxt : x < t.length := by omega
    have hok := cn_ok h h5 hxt
    have h6 := hok.mp_len
    have hself : ∀ a : AObj, (σ ++ [a])[σ.length]? = some a := fun a => by simp
    have hset : ∀ a b : AObj, (σ ++ [a]).set σ.length b = σ ++ [b] := fun a b => by simp [List.set_append_right]
    refine KL_ind k43_b0.eq_1 (fun y : Nat => [(0, .list (rows t)), (4, v), (5, .int .i64 x), (6, .ref σ.length y 0 y), (7, .int .i64 y)]) (fun y => σ ++ [.arr y 2 1 (ints (colL t x y))]) (fun y => y ≤ t.length) (fun y => t.length - y) [0, 4, 5, 6, 7] 0 (by simp [keep]) (by simp [colL, ints]) (Nat.zero_le _) fun y hy ihy => ?_
    have hcl := colL_length t x y
    try simp only [hself, hset, hcl, take6, List.drop_zero, Int.cast_ofNat_Int, go_sem, ↓reduceIte, Nat.reduceEqDiff, Nat.reduceAdd, Nat.reduceMul, Nat.reduceLeDiff, Nat.reduceLT, Int.reduceLE, Int.reduceLT, reduceCtorEq]
    refine ⟨fun h2 => ?_, fun h2 => ?_⟩
    · have hyt : y < t.length := by omega
      have hs := hsq y hyt
      have e : (t.getD y []).getD x 0 = tat t y x := rfl
      refine ⟨by omega, fun _ => ⟨by rw [hs]; omega, fun _ => ⟨by omega, by omega, ?_⟩⟩⟩
      refine ihy (y + 1) (by omega) (by omega) _ _ (by rfl) ?_
      rw [List.take_of_length_le (Nat.le_of_eq hcl), ← colL_succ]
      rfl
    · obtain rfl : y = t.length := by omega
      rw [cn_col h hxt]
      refine (p116 (cn t x) (by rw [hok.len]; exact h5)).lend (.cons (Imm.refn (ver := t.length) (e := 2) (l := (cn t x).map fun x : Nat => (x : Int)) (by simp) (by simp [hok.len])) (.nil _)) ?_
      try simp only [h6, OpK_eq, take6, List.drop_zero, Int.cast_ofNat_Int, go_sem, ↓reduceIte, Nat.reduceEqDiff, Nat.reduceAdd, Nat.reduceMul, Nat.reduceLeDiff, Nat.reduceLT, Int.reduceLE, Int.reduceLT, reduceCtorEq]
      refine OwnA.push (OwnA.append hT _) (hf.append (Free.ints _ _ _ _)) (mp (cn t x)) h6 (by simp; omega) fun v' σ' hT' hf' => ?_
      try simp only [OpK_eq, take6, List.drop_zero, Int.cast_ofNat_Int, go_sem, ↓reduceIte, Nat.reduceEqDiff, Nat.reduceAdd, Nat.reduceMul, Nat.reduceLeDiff, Nat.reduceLT, Int.reduceLE, Int.reduceLT, reduceCtorEq]
      repeat' (first | refine And.intro ?_ ?_ | intro _)
      all_goals (try omega)
      refine ih (x + 1, v', σ') ⟨by show x + 1 ≤ t.length; omega, ?_, hf'⟩ (by show t.length - (x + 1) < t.length - x; omega) _ _ (by rfl) rfl
      rw [← mot_succ]; exact hT'
  · obtain rfl : x = t.length := by omega
    try simp only [OpK_eq, take6, List.drop_zero, Int.cast_ofNat_Int, go_sem, ↓reduceIte, Nat.reduceEqDiff, Nat.reduceAdd, Nat.reduceMul, Nat.reduceLeDiff, Nat.reduceLT, Int.reduceLE, Int.reduceLT, reduceCtorEq]
    exact Fin.freeze (Imm.tupL (.cons hT.imm (.cons (.int _ _ _) (.nil _)))) ⟨rfl, rfl⟩
end Go.Proofs.YtpfapiiinkkcgaaGreat
end
section
/- Draws of numbers and of one map; sums, members. -/
namespace Go.Proofs.YtpfapiiinkkcgaaGreat
open Go.Kv
set_option maxRecDepth 100000
/- spec.l01Near -/
/- spec.DrawCountByRank -/
def k7 : KC := (.seq (.ops [⟨(some 2), none, .mv (.c (.int .i64 0))⟩])
  (.seq (.ops [⟨(some 3), none, .mv (.t 0)⟩, ⟨(some 4), none, .call (.c (.fn (.func 68) [] [])) [(.t 3)]⟩, ⟨(some 5), none, .call (.c (.fn (.func 67) [] [])) [(.t 4), (.c (.int .i64 11))]⟩, ⟨(some 6), none, .bin .add (.c (.int .i64 1)) (.t 5)⟩, ⟨(some 2), none, .mv (.t 6)⟩])
  .ret))
theorem e7 {args : List PV} {σ : Heap} {K : PV → Heap → Prop} (hl : args.length ≤ 7) (h : Wf σ → (∀ a ∈ args, PV.upto σ.length a) → vc (mkCfg Tryz.prog mixed [] 7 σ.length) k7 (FinK σ.length [.t 2] K) (argEnv 0 args) σ) : ACall Tryz.prog 7 args σ K :=
  ACall_enter (C := mkCfg Tryz.prog mixed [] 7 σ.length) (c := Tryz.f7.body.getD .skip) Tryz.func7 (by kernel_rfl) (by kernel_rfl) (by kernel_rfl) rfl hl (by kernel_rfl) (by kernel_rfl) h
/- spec.DrawCountShapes -/
/- spec.DrawBasinsOf -/
/- laws.sum -/
/- live [0, 3, 4] -/
def k15_b0 : KC := (.seq (.seq (.ops [⟨(some 5), none, .mv (.t 4)⟩, ⟨(some 6), none, .mv (.t 0)⟩, ⟨(some 7), none, .len false (.t 6)⟩, ⟨(some 8), none, .bin .lss (.t 5) (.t 7)⟩])
  (.cond (.t 8) .skip (.exit 0)))
  (.seq (.block 1 (.ops [⟨(some 11), none, .mv (.t 3)⟩, ⟨(some 12), none, .mv (.t 0)⟩, ⟨(some 13), none, .mv (.t 4)⟩, ⟨(some 14), none, .idxS 1 (.t 12) (.t 13)⟩, ⟨(some 15), none, .load false 1 (.t 14)⟩, ⟨(some 16), none, .bin .add (.t 11) (.t 15)⟩, ⟨(some 3), none, .mv (.t 16)⟩]))
  (.ops [⟨(some 9), none, .mv (.t 4)⟩, ⟨(some 10), none, .bin .add (.t 9) (.c (.int .i64 1))⟩, ⟨(some 4), none, .mv (.t 10)⟩])))
def k15 : KC := (.seq (.ops [⟨(some 2), none, .mv (.c (.int .i64 0))⟩])
  (.seq (.ops [⟨(some 3), none, .mv (.c (.int .i64 0))⟩])
  (.seq (.seq (.ops [⟨(some 4), none, .mv (.c (.int .i64 0))⟩])
  (.block 0 (.loop k15_b0)))
  (.seq (.ops [⟨(some 17), none, .mv (.t 3)⟩, ⟨(some 2), none, .mv (.t 17)⟩])
  .ret))))
theorem e15 {args : List PV} {σ : Heap} {K : PV → Heap → Prop} (hl : args.length ≤ 18) (h : Wf σ → (∀ a ∈ args, PV.upto σ.length a) → vc (mkCfg Tryz.prog mixed [] 18 σ.length) k15 (FinK σ.length [.t 2] K) (argEnv 0 args) σ) : ACall Tryz.prog 15 args σ K :=
  ACall_enter (C := mkCfg Tryz.prog mixed [] 18 σ.length) (c := Tryz.f15.body.getD .skip) Tryz.func15 (by kernel_rfl) (by kernel_rfl) (by kernel_rfl) rfl hl (by kernel_rfl) (by kernel_rfl) h
/- laws.hasInt -/
/- live [0, 1, 5] -/
def k27_b0 : KC := (.seq (.seq (.ops [⟨(some 6), none, .mv (.t 5)⟩, ⟨(some 7), none, .mv (.t 0)⟩, ⟨(some 8), none, .len false (.t 7)⟩, ⟨(some 9), none, .bin .lss (.t 6) (.t 8)⟩])
  (.cond (.t 9) .skip (.exit 0)))
  (.seq (.block 1 (.seq (.ops [⟨(some 12), none, .mv (.t 0)⟩, ⟨(some 13), none, .mv (.t 5)⟩, ⟨(some 14), none, .idxS 1 (.t 12) (.t 13)⟩, ⟨(some 15), none, .load false 1 (.t 14)⟩, ⟨(some 16), none, .mv (.t 1)⟩, ⟨(some 17), none, .bin .eql (.t 15) (.t 16)⟩])
  (.cond (.t 17) (.seq (.ops [⟨(some 4), none, .mv (.c (.bool true))⟩])
  .ret) .skip)))
  (.ops [⟨(some 10), none, .mv (.t 5)⟩, ⟨(some 11), none, .bin .add (.t 10) (.c (.int .i64 1))⟩, ⟨(some 5), none, .mv (.t 11)⟩])))
def k27 : KC := (.seq (.ops [⟨(some 4), none, .mv (.c (.bool false))⟩])
  (.seq (.seq (.ops [⟨(some 5), none, .mv (.c (.int .i64 0))⟩])
  (.block 0 (.loop k27_b0)))
  (.seq (.ops [⟨(some 4), none, .mv (.c (.bool false))⟩])
  .ret)))
theorem e27 {args : List PV} {σ : Heap} {K : PV → Heap → Prop} (hl : args.length ≤ 18) (h : Wf σ → (∀ a ∈ args, PV.upto σ.length a) → vc (mkCfg Tryz.prog mixed [] 18 σ.length) k27 (FinK σ.length [.t 4] K) (argEnv 0 args) σ) : ACall Tryz.prog 27 args σ K :=
  ACall_enter (C := mkCfg Tryz.prog mixed [] 18 σ.length) (c := Tryz.f27.body.getD .skip) Tryz.func27 (by kernel_rfl) (by kernel_rfl) (by kernel_rfl) rfl hl (by kernel_rfl) (by kernel_rfl) h
end Go.Proofs.YtpfapiiinkkcgaaGreat
namespace Go.Proofs.YtpfapiiinkkcgaaGreat
open Go.Kv
set_option linter.unusedVariables false
set_option linter.unusedSimpArgs false
attribute [local irreducible] ACall PCall KL
/-- A sum whose parts are small. -/
theorem p15 (L : List Int) (hL : L.length ≤ 1000) (hb : ∀ k, k ≤ L.length → 0 ≤ (L.take k).sum ∧ (L.take k).sum ≤ 1000000000000000000) : Pure Tryz.prog 15 [.list (ints L)] (.int .i64 L.sum) := by
  refine e15 (by simp) fun _ _ => ?_
  simp only [k15, argEnv, take6, List.drop_zero, Int.cast_ofNat_Int, go_sem, ↓reduceIte, Nat.reduceEqDiff, Nat.reduceAdd, Nat.reduceMul, Nat.reduceLeDiff, Nat.reduceLT, Int.reduceLE, Int.reduceLT, reduceCtorEq]
  refine KL_ind k15_b0.eq_1 (fun x : Nat => [(0, .list (ints L)), (3, .int .i64 (L.take x).sum), (4, .int .i64 x)]) (fun _ => []) (fun x => x ≤ L.length) (fun x => L.length - x) [0, 3, 4] 0 (by simp [keep]) rfl (Nat.zero_le _) fun x hx ih => ?_
  try simp only [OpK_eq, HKv, take6, List.drop_zero, Int.cast_ofNat_Int, go_sem, ↓reduceIte, Nat.reduceEqDiff, Nat.reduceAdd, Nat.reduceMul, Nat.reduceLeDiff, Nat.reduceLT, Int.reduceLE, Int.reduceLT, reduceCtorEq]
  refine ⟨fun g1 => ?_, fun g1 => ?_⟩
  · have hxl : x < L.length := by omega
    have hs : (L.take (x + 1)).sum = (L.take x).sum + L.getD x 0 := by
      rw [List.take_succ_eq_append_getElem hxl, List.sum_append]
      simp [List.getD_eq_getElem?_getD, hxl]
    have h1 := hb (x + 1) (by omega)
    rw [hs] at h1
    exact ⟨by omega, fun _ => ⟨by omega, by omega, ih (x + 1) (by omega) (by omega) _ _ (by simp [keep, hs]) rfl⟩⟩
  · obtain rfl : x = L.length := by omega
    rw [List.take_length]
    exact Kv.Fin.still ⟨rfl, rfl⟩
theorem p27 (L : List Int) (hL : L.length ≤ 1000) (v : Int) : Pure Tryz.prog 27 [.list (ints L), .int .i64 v] (.bool (decide (v ∈ L))) := by
  refine e27 (by simp) fun _ _ => ?_
  simp only [k27, argEnv, take6, List.drop_zero, Int.cast_ofNat_Int, go_sem, ↓reduceIte, Nat.reduceEqDiff, Nat.reduceAdd, Nat.reduceMul, Nat.reduceLeDiff, Nat.reduceLT, Int.reduceLE, Int.reduceLT, reduceCtorEq]
  refine KL_ind k27_b0.eq_1 (fun x : Nat => [(0, .list (ints L)), (1, .int .i64 v), (5, .int .i64 x)]) (fun _ => []) (fun x => x ≤ L.length ∧ v ∉ L.take x) (fun x => L.length - x) [0, 1, 5] 0 (by simp [keep]) rfl ⟨Nat.zero_le _, by simp⟩ fun x ⟨hx, hn⟩ ih => ?_
  try simp only [OpK_eq, HKv, take6, List.drop_zero, Int.cast_ofNat_Int, go_sem, ↓reduceIte, Nat.reduceEqDiff, Nat.reduceAdd, Nat.reduceMul, Nat.reduceLeDiff, Nat.reduceLT, Int.reduceLE, Int.reduceLT, reduceCtorEq]
  refine ⟨fun g1 => ?_, fun g1 => ?_⟩
  · have hxl : x < L.length := by omega
    have hg : L.getD x 0 = L[x] := by simp [List.getD_eq_getElem?_getD, hxl]
    rw [hg]
    refine ⟨by omega, fun _ => ⟨fun h => Kv.Fin.still ⟨?_, rfl⟩, fun h => ⟨by omega, ih (x + 1) ⟨by omega, ?_⟩ (by omega) _ _ (by simp [keep]) rfl⟩⟩⟩
    · rw [decide_eq_true (by rw [← h]; exact List.getElem_mem hxl)]
    · rw [List.take_succ_eq_append_getElem hxl, List.mem_append, List.mem_singleton]
      rintro (h' | h')
      · exact hn h'
      · exact h h'.symm
  · obtain rfl : x = L.length := by omega
    rw [List.take_length] at hn
    rw [decide_eq_false hn]
    exact Kv.Fin.still ⟨rfl, rfl⟩
end Go.Proofs.YtpfapiiinkkcgaaGreat
end
section
/- Roots of maps: both sides. -/
namespace Go.Proofs.YtpfapiiinkkcgaaGreat
open Go.Kv
set_option maxRecDepth 100000
/- impl.roots -/
/- impl.roots$1 -/
/- (impl.Map).power -/
/- live [1, 2, 4, 5] -/
/- impl.CountRoots -/
/- spec.CountRoots -/
/- live [1, 2, 7, 8, 9] -/
/- spec.l09Code -/
/- impl.FirstRoot -/
/- spec.FirstRoot -/
/- live [1, 2, 4, 7, 8] -/
end Go.Proofs.YtpfapiiinkkcgaaGreat
namespace Go.Proofs.YtpfapiiinkkcgaaGreat
open Go.Kv
set_option linter.unusedVariables false
set_option linter.unusedSimpArgs false
attribute [local irreducible] ACall PCall KL
end Go.Proofs.YtpfapiiinkkcgaaGreat
end
section
/- The draws of the law of shapes. -/
namespace Go.Proofs.YtpfapiiinkkcgaaGreat
open Go.Kv
set_option maxRecDepth 100000
/- spec.DrawAreSameShape -/
/- spec.l09With -/
/- spec.DrawFirstRoot -/
/- spec.DrawCountRoots -/
/- spec.DrawCountSameShape -/
/- spec.DrawLeastForm -/
/- spec.DrawCycleType -/
/- impl.PowerOf -/
/- impl.ProductOf -/
def k45 : KC := (.seq (.ops [⟨(some 2), none, .box true (.t 0)⟩, ⟨(some 3), none, .box true (.t 1)⟩, ⟨(some 4), none, .alloc [.int .i64 0, .int .i64 0, .int .i64 0, .int .i64 0, .int .i64 0, .int .i64 0]⟩, ⟨(some 5), none, .mv (.c (.int .i64 0))⟩])
  (.seq (.seq (.ops [⟨(some 7), none, .load true 6 (.t 2)⟩, ⟨(some 8), none, .load true 6 (.t 3)⟩, ⟨(some 9), none, .call (.c (.fn (.func 117) [] [])) [(.t 7), (.t 8)]⟩, ⟨(some 6), none, .mv (.t 9)⟩])
  (.seq (.ops [⟨(some 10), none, .mv (.t 6)⟩, ⟨(some 11), none, .bin .neq (.t 10) (.c (.int .i64 0))⟩])
  (.cond (.t 11) (.seq (.ops [⟨(some 12), none, .build [.int .i64 0, .int .i64 0, .int .i64 0, .int .i64 0, .int .i64 0, .int .i64 0] []⟩, ⟨(some 13), none, .mv (.t 6)⟩, ⟨none, none, .store 6 (.t 4) (.t 12)⟩, ⟨(some 5), none, .mv (.t 13)⟩])
  .ret) .skip)))
  (.seq (.ops [⟨(some 14), none, .load true 6 (.t 2)⟩, ⟨(some 15), none, .load true 6 (.t 3)⟩, ⟨(some 16), none, .call (.c (.fn (.func 118) [] [])) [(.t 14), (.t 15)]⟩, ⟨none, none, .store 6 (.t 4) (.t 16)⟩, ⟨(some 5), none, .mv (.c (.int .i64 0))⟩])
  .ret)))
theorem e45 {args : List PV} {σ : Heap} {K : PV → Heap → Prop} (hl : args.length ≤ 17) (h : Wf σ → (∀ a ∈ args, PV.upto σ.length a) → vc (mkCfg Tryz.prog mixed [2, 3] 17 σ.length) k45 (FinK σ.length [.cell 4 true 6, .t 5] K) (argEnv 0 args) σ) : ACall Tryz.prog 45 args σ K :=
  ACall_enter (C := mkCfg Tryz.prog mixed [2, 3] 17 σ.length) (c := Tryz.f45.body.getD .skip) Tryz.func45 (by kernel_rfl) (by kernel_rfl) (by kernel_rfl) rfl hl (by kernel_rfl) (by kernel_rfl) h
end Go.Proofs.YtpfapiiinkkcgaaGreat
namespace Go.Proofs.YtpfapiiinkkcgaaGreat
open Go.Kv
set_option linter.unusedVariables false
set_option linter.unusedSimpArgs false
attribute [local irreducible] ACall PCall KL
theorem p45 (f g : List Nat) (n : Nat) (hf : Ok f n) (hg : Ok g n) : Pure Tryz.prog 45 [.agg (ints (mp f)), .agg (ints (mp g))] (.tup [.agg (ints (mp (mul f g))), .int .i64 0]) := by
  have h6 := hf.mp_len
  have h6g := hg.mp_len
  have h6m := (hf.mul hg).mp_len
  have hil : (ints (mp (mul f g))).length = 6 := by rw [ints_length, h6m]
  have hp : pcd (mp f) (mp g) = 0 := by
    have e1 : (mp f).getD 0 0 = (f.length : Int) := rfl
    have e2 : (mp g).getD 0 0 = (g.length : Int) := rfl
    rw [pcd, isM_mp hf, isM_mp hg, if_neg (by simp), e1, e2, hf.len, hg.len, if_pos rfl]
  refine e45 (by simp) fun _ _ => ?_
  simp only [k45, argEnv, h6, h6g, take6, List.drop_zero, Int.cast_ofNat_Int, go_sem, ↓reduceIte, Nat.reduceEqDiff, Nat.reduceAdd, Nat.reduceMul, Nat.reduceLeDiff, Nat.reduceLT, Int.reduceLE, Int.reduceLT, reduceCtorEq]
  refine (p117 (mp f) (mp g) h6 h6g).go ?_
  rw [hp]
  try simp only [OpK_eq, HKv, h6, h6g, take6, List.drop_zero, Int.cast_ofNat_Int, go_sem, ↓reduceIte, Nat.reduceEqDiff, Nat.reduceAdd, Nat.reduceMul, Nat.reduceLeDiff, Nat.reduceLT, Int.reduceLE, Int.reduceLT, reduceCtorEq]
  refine (p118 f g n hf hg).go ?_
  try simp only [OpK_eq, HKv, hil, h6m, take6, List.drop_zero, Int.cast_ofNat_Int, go_sem, ↓reduceIte, Nat.reduceEqDiff, Nat.reduceAdd, Nat.reduceMul, Nat.reduceLeDiff, Nat.reduceLT, Int.reduceLE, Int.reduceLT, reduceCtorEq]
  exact Kv.Fin.still ⟨rfl, rfl⟩
end Go.Proofs.YtpfapiiinkkcgaaGreat
end
section
/- What both sides answer at drawn tables: for the law of monoid tables. -/
namespace Go.Proofs.YtpfapiiinkkcgaaGreat
open Go.Kv
set_option linter.unusedVariables false
set_option linter.unusedSimpArgs false
attribute [local irreducible] ACall PCall KL
/-- The maps of a table have its products. -/
theorem cn_mul {t : List (List Int)} (h : isTab t = true) (ha : asc t = true) {a b : Nat} (hat : a < t.length) (hbt : b < t.length) : mul (cn t a) (cn t b) = cn t (tat t a b).toNat := by
  apply List.ext_getElem (by simp [cn])
  intro x hx _
  have hxt : x < t.length := by simpa [cn] using hx
  have hxa := tab_at h hxt hat
  have e1 : (cn t a)[x]'(by simpa [cn] using hxt) = (tat t x a).toNat := by simp [cn]
  have e2 : (cn t b).getD (tat t x a).toNat 0 = (tat t (tat t x a).toNat b).toNat := by
    have : (tat t x a).toNat < t.length := by omega
    simp [cn, List.getD_eq_getElem?_getD, this]
  have e3 : (cn t (tat t a b).toNat)[x]'(by simpa [cn] using hxt) = (tat t x (tat t a b).toNat).toNat := by simp [cn]
  have e4 : (mul (cn t a) (cn t b))[x]'hx = (cn t b).getD ((cn t a)[x]'(by simpa [cn] using hxt)) 0 := by simp [mul]
  rw [e4, e1, e2, e3]
  have hs := ha
  unfold asc at hs
  simp only [ascA, ascB, ascC, List.all_eq_true, List.mem_range, decide_eq_true_eq] at hs
  rw [hs x hxt a hat b hbt]
set_option maxRecDepth 8000 in
theorem tb_loc (t : List (List Int)) (h7 : t.length ≤ 7) (h6 : ∀ r ∈ t, r.length = 6) : ∃ (X : PV) (c : Int), Still X ∧ Pure Tryz.prog 29 [.list (aggs t)] (.tup [X, .int .i64 c]) ∧ Pure Tryz.prog 30 [.list (aggs t)] (.tup [X, .int .i64 c]) ∧ Pure Tryz.prog 31 [X, X] (.bool true) ∧
    ((c = 0 ∧ ∃ (T : List (List Int)) (A : List (List Int)), X = .list (rows T) ∧ isTab T = true ∧ monB T = true ∧ Pure Tryz.prog 46 [.list (aggs t)] (.tup [.list (aggs A), .int .i64 0]) ∧ (idl T T.length).length = A.length) ∨ (c ≠ 0 ∧ X = .nils)) := by
  by_cases hl : lcode t [] = 0
  · obtain ⟨fs, n, e, hf, h0, hfl, hn, h1, h5⟩ := lcode_maps h6 hl
    subst e
    have hi := p29_of fs n h1 h5 hf h0 hfl hl (monOk fs n h1 h5 hf (by omega))
    have hs := p30_in fs n h1 h5 hf h0 hfl hl
    cases hR : clR fs n with
    | none =>
      rw [hR] at hi hs
      exact ⟨.nils, 3, inferInstance, hi, hs, p31nn, .inr ⟨by decide, rfl⟩⟩
    | some Q =>
      have hM := clR_mnd h1 h5 hf hR
      have hId := p46_in fs n h1 h5 hf h0 hfl hl hR
      rw [hR] at hi hs
      simp only at hi hs
      by_cases g : 40 < (elS n Q).length
      · rw [if_pos g] at hi hs
        exact ⟨.nils, 3, inferInstance, hi, hs, p31nn, .inr ⟨by decide, rfl⟩⟩
      · rw [if_neg g] at hi hs
        have hT := hM.isTab (by omega)
        obtain ⟨⟨a1, a2⟩, a3, _⟩ := isTab_sq hT
        refine ⟨_, 0, inferInstance, hi, hs, p31 _ (by omega) (fun r hr => by rw [a3.2 r hr]; omega), .inl ⟨rfl, _, _, rfl, hT, hM.monB, hId, ?_⟩⟩
        rw [hM.idl_len, List.length_map]
  · exact ⟨.nils, lcode t [], inferInstance, p29_out t (by omega) h6 hl, p30_out t (by omega) h6 hl, p31nn, .inr ⟨hl, rfl⟩⟩
theorem idl_le (t : List (List Int)) (x : Nat) : (idl t x).length ≤ x := by
  unfold idl pts
  exact Nat.le_trans (List.length_filter_le _ _) (by simp [mk])
theorem id_loc (t : List (List Int)) (h41 : t.length ≤ 41) (hr : ∀ r ∈ t, r.length ≤ 40) : ∃ (V : PV) (c : Int), Still V ∧ Pure Tryz.prog 37 [.list (rows t)] (.tup [V, .int .i64 c]) ∧ Pure Tryz.prog 38 [.list (rows t)] (.tup [V, .int .i64 c]) ∧ Pure Tryz.prog 14 [V, V] (.bool true) ∧
    ((isTab t = true ∧ c = 0 ∧ V = .list (ints (idl t t.length))) ∨ (isTab t = false ∧ c = 2 ∧ V = .nils)) := by
  have hr' : ∀ r ∈ t, r.length ≤ 1048576 := fun r h => by have := hr r h; omega
  by_cases h : isTab t = true
  · exact ⟨_, 0, inferInstance, NewIO.frozen (NewI.own (p37_in t (by omega) hr' h)), NewIO.frozen (NewI.own (p38_in t (by omega) hr' h)), p14 _ (by have := idl_le t t.length; omega), .inl ⟨h, rfl, rfl⟩⟩
  · exact ⟨_, 2, inferInstance, p37_out t (by omega) hr' h, p38_out t (by omega) hr' h, p14n, .inr ⟨by simpa using h, rfl, rfl⟩⟩
theorem op_loc (t : List (List Int)) (h41 : t.length ≤ 41) (hr : ∀ r ∈ t, r.length ≤ 40) : ∃ (V : PV) (c : Int), Still V ∧ Pure Tryz.prog 39 [.list (rows t)] (.tup [V, .int .i64 c]) ∧ Pure Tryz.prog 40 [.list (rows t)] (.tup [V, .int .i64 c]) ∧ Pure Tryz.prog 31 [V, V] (.bool true) ∧
    ((isTab t = true ∧ c = 0 ∧ V = .list (rows (opp t t.length))) ∨ (isTab t = false ∧ c = 2 ∧ V = .nils)) := by
  have hr' : ∀ r ∈ t, r.length ≤ 1048576 := fun r h => by have := hr r h; omega
  by_cases h : isTab t = true
  · obtain ⟨⟨a1, a2⟩, a3, _⟩ := isTab_sq (opp_isTab h)
    exact ⟨_, 0, inferInstance, NewTO.frozen (NewTN.own (p39_in t (by omega) hr' h)), p40_in t (by omega) hr' h, p31 _ (by omega) (fun r hr => by rw [a3.2 r hr]; omega), .inl ⟨h, rfl, rfl⟩⟩
  · have h' : isTab t = false := by simpa using h
    exact ⟨_, 2, inferInstance, p39_out t (by omega) hr' h', p40_out t (by omega) hr' h', p31nn, .inr ⟨h', rfl, rfl⟩⟩
theorem mt_loc (t : List (List Int)) (h41 : t.length ≤ 41) (hr : ∀ r ∈ t, r.length ≤ 40) : ∃ (V : PV) (c : Int), Still V ∧ Pure Tryz.prog 42 [.list (rows t)] (.tup [V, .int .i64 c]) ∧ Pure Tryz.prog 43 [.list (rows t)] (.tup [V, .int .i64 c]) ∧ Pure Tryz.prog 44 [V, V] (.bool true) ∧
    ((c = 0 ∧ isTab t = true ∧ t.length ≤ 5 ∧ monB t = true ∧ V = .list (aggs (mot t t.length))) ∨ (c ≠ 0 ∧ V = .nils)) := by
  have hr' : ∀ r ∈ t, r.length ≤ 1048576 := fun r h => by have := hr r h; omega
  by_cases h : mtc t = 0
  · have h2 : isTab t = true ∧ t.length ≤ 5 ∧ monB t = true := by
      unfold mtc at h
      split at h
      · omega
      · rename_i g1
        split at h
        · omega
        · rename_i g2
          split at h
          · omega
          · rename_i g3
            exact ⟨by simpa using g1, by omega, by simpa using g3⟩
    refine ⟨_, 0, inferInstance, NewAO.frozen (p42_in t (by omega) hr' h2.1 h2.2.1 h2.2.2), p43_in t (by omega) hr' h2.1 h2.2.1 h2.2.2, p44 _ (by simp; omega) (fun r hr => ?_), .inl ⟨rfl, h2.1, h2.2.1, h2.2.2, rfl⟩⟩
    obtain ⟨a, ha, rfl⟩ := List.mem_map.1 hr
    exact (cn_ok h2.1 h2.2.1 (List.mem_range.1 ha)).mp_len
  · exact ⟨_, mtc t, inferInstance, p42_out t (by omega) hr' h, p43_out t (by omega) hr' h, p44n, .inr ⟨h, rfl⟩⟩
theorem im_loc (t : List (List Int)) (h41 : t.length ≤ 41) (hr : ∀ r ∈ t, r.length ≤ 40) : ∃ (v : Bool) (c : Int), Pure Tryz.prog 33 [.list (rows t)] (.tup [.bool v, .int .i64 c]) ∧ Pure Tryz.prog 34 [.list (rows t)] (.tup [.bool v, .int .i64 c]) ∧
    ((isTab t = true ∧ c = 0 ∧ v = monB t) ∨ (isTab t = false ∧ c = 2)) := by
  have hr' : ∀ r ∈ t, r.length ≤ 1048576 := fun r h => by have := hr r h; omega
  refine ⟨_, _, p33 t (by omega) hr', p34 t (by omega) hr', ?_⟩
  cases h : isTab t with
  | true => exact .inl ⟨rfl, rfl, rfl⟩
  | false => exact .inr ⟨rfl, rfl⟩
theorem idt_loc (t : List (List Int)) (h41 : t.length ≤ 41) (hr : ∀ r ∈ t, r.length ≤ 40) : ∃ (v c : Int), Pure Tryz.prog 35 [.list (rows t)] (.tup [.int .i64 v, .int .i64 c]) ∧ Pure Tryz.prog 36 [.list (rows t)] (.tup [.int .i64 v, .int .i64 c]) ∧
    (isTab t = true → monB t = true → c = 0 ∧ v ∈ idl t t.length) := by
  have hr' : ∀ r ∈ t, r.length ≤ 1048576 := fun r h => by have := hr r h; omega
  refine ⟨_, _, p35 t (by omega) hr', p36 t (by omega) hr', fun h1 h2 => ?_⟩
  obtain ⟨h3, h4⟩ := id_idem h1 h2
  unfold idA idB
  rw [if_pos h1, if_pos h1, if_neg (by omega), if_neg (by omega)]
  exact ⟨rfl, h4⟩
theorem ob_loc {t : List (List Int)} (h : isTab t = true) : Pure Tryz.prog 39 [.list (rows (opp t t.length))] (.tup [.list (rows t), .int .i64 0]) ∧ Pure Tryz.prog 33 [.list (rows (opp t t.length))] (.tup [.bool (monB t), .int .i64 0]) ∧ Pure Tryz.prog 31 [.list (rows t), .list (rows t)] (.bool true) := by
  have hI := opp_isTab h
  obtain ⟨⟨a1, a2⟩, a3, _⟩ := isTab_sq hI
  obtain ⟨⟨b1, b2⟩, b3, _⟩ := isTab_sq h
  have hr' : ∀ r ∈ opp t t.length, r.length ≤ 1048576 := fun r hr => by rw [a3.2 r hr]; omega
  have h1 := NewTO.frozen (NewTN.own (p39_in (opp t t.length) (by omega) hr' hI))
  rw [opp_back h] at h1
  have h2 := p33 (opp t t.length) (by omega) hr'
  rw [hI, opp_monB h] at h2
  exact ⟨h1, h2, p31 _ (by omega) fun r hr => by rw [b3.2 r hr]; omega⟩
theorem tm_loc {T : List (List Int)} (h : isTab T = true) (hm : monB T = true) : Pure Tryz.prog 33 [.list (rows T)] (.tup [.bool true, .int .i64 0]) ∧ Pure Tryz.prog 37 [.list (rows T)] (.tup [.list (ints (idl T T.length)), .int .i64 0]) := by
  obtain ⟨⟨a1, a2⟩, a3, _⟩ := isTab_sq h
  have hr' : ∀ r ∈ T, r.length ≤ 1048576 := fun r hr => by rw [a3.2 r hr]; omega
  have h2 := p33 T (by omega) hr'
  rw [h, hm] at h2
  exact ⟨h2, NewIO.frozen (NewI.own (p37_in T (by omega) hr' h))⟩
end Go.Proofs.YtpfapiiinkkcgaaGreat
end
