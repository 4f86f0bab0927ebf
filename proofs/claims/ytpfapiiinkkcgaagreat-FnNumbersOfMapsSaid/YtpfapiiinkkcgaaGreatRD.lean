/- The round of the powers of a map: the implementation. -/
import Derived.Test.YtpfapiiinkkcgaaGreatCb
import Derived.Test.YtpfapiiinkkcgaaGreatNU
import Derived.Test.YtpfapiiinkkcgaaGreatID
import Derived.Test.YtpfapiiinkkcgaaGreatLP
import Derived.Test.YtpfapiiinkkcgaaGreatOR
import Derived.Test.YtpfapiiinkkcgaaGreatPA
namespace Go.Proofs.YtpfapiiinkkcgaaGreat
open Go.Kv
set_option maxRecDepth 100000
/- (impl.Map).round -/
/- live [1, 4] -/
def k98_b0 : KC := (.block 1 (.seq (.draw [⟨(some 11), none, .mv (.t 4)⟩, ⟨(some 12), none, .mv (.t 4)⟩, ⟨(some 13), none, .len false (.t 12)⟩, ⟨(some 14), none, .bin .sub (.t 13) (.c (.int .i64 1))⟩, ⟨(some 15), none, .idxS 6 (.t 11) (.t 14)⟩, ⟨(some 16), none, .load true 6 (.t 15)⟩, ⟨(some 17), none, .load true 6 (.t 1)⟩, ⟨(some 18), none, .pcall (.c (.fn (.func 118) [] [])) [(.t 16), (.t 17)]⟩, ⟨(some 5), none, .alloc [.int .i64 0, .int .i64 0, .int .i64 0, .int .i64 0, .int .i64 0, .int .i64 0]⟩, ⟨none, none, .store 6 (.t 5) (.t 18)⟩])
  (.seq (.seq (.ops [⟨(some 19), none, .mv (.t 4)⟩, ⟨(some 20), none, .load true 6 (.t 5)⟩, ⟨(some 21), none, .call (.c (.fn (.func 149) [] [])) [(.t 19), (.t 20)]⟩, ⟨(some 6), none, .mv (.t 21)⟩])
  (.seq (.ops [⟨(some 22), none, .mv (.t 6)⟩, ⟨(some 23), none, .bin .geq (.t 22) (.c (.int .i64 0))⟩])
  (.cond (.t 23) (.seq (.ops [⟨(some 24), none, .mv (.t 6)⟩, ⟨(some 25), none, .mv (.t 4)⟩, ⟨(some 26), none, .len false (.t 25)⟩, ⟨(some 27), none, .mv (.t 6)⟩, ⟨(some 28), none, .bin .sub (.t 26) (.t 27)⟩, ⟨(some 2), none, .mv (.t 24)⟩, ⟨(some 3), none, .mv (.t 28)⟩])
  .ret) .skip)))
  (.ops [⟨(some 29), none, .mv (.t 4)⟩, ⟨(some 30), none, .load true 6 (.t 5)⟩, ⟨(some 31), none, .bsl true 34 6 [(.t 30)]⟩, ⟨(some 32), none, .app (.t 29) (.t 31) 34 6⟩, ⟨(some 4), none, .mv (.t 32)⟩]))))
def k98 : KC := (.seq (.ops [⟨(some 1), none, .box true (.t 0)⟩, ⟨(some 2), none, .mv (.c (.int .i64 0))⟩, ⟨(some 3), none, .mv (.c (.int .i64 0))⟩])
  (.seq (.ops [⟨(some 7), none, .fieldA 0 (.t 1)⟩, ⟨(some 8), none, .load false 1 (.t 7)⟩, ⟨(some 9), none, .call (.c (.fn (.func 148) [] [])) [(.t 8)]⟩, ⟨(some 10), none, .bsl false 34 6 [(.t 9)]⟩, ⟨(some 4), none, .mv (.t 10)⟩])
  (.block 0 (.loop k98_b0))))
theorem e98 {args : List PV} {σ : Heap} {K : PV → Heap → Prop} (hl : args.length ≤ 33) (h : Wf σ → (∀ a ∈ args, PV.upto σ.length a) → vc (mkCfg Tryz.prog mixed [1, 31] 33 σ.length) k98 (FinK σ.length [.t 2, .t 3] K) (argEnv 0 args) σ) : ACall Tryz.prog 98 args σ K :=
  ACall_enter (C := mkCfg Tryz.prog mixed [1, 31] 33 σ.length) (c := Tryz.f98.body.getD .skip) Tryz.func98 (by kernel_rfl) (by kernel_rfl) (by kernel_rfl) rfl hl (by kernel_rfl) (by kernel_rfl) h
/- slices.Index[[]impl.Map,impl.Map] -/
/- live [0, 3, 7, 8] -/
def k149_b0 : KC := (.seq (.ops [⟨(some 9), none, .bin .lss (.t 8) (.t 7)⟩])
  (.seq (.cond (.t 9) .skip (.exit 0))
  (.seq (.block 1 (.seq (.ops [⟨(some 10), none, .mv (.t 8)⟩, ⟨(some 5), none, .mv (.t 10)⟩])
  (.seq (.draw [⟨(some 11), none, .load true 6 (.t 3)⟩, ⟨(some 12), none, .mv (.t 0)⟩, ⟨(some 13), none, .mv (.t 5)⟩, ⟨(some 14), none, .idxS 6 (.t 12) (.t 13)⟩, ⟨(some 15), none, .load true 6 (.t 14)⟩, ⟨(some 16), none, .aeq false 6 (.t 11) (.t 15)⟩])
  (.cond (.t 16) (.seq (.ops [⟨(some 17), none, .mv (.t 5)⟩, ⟨(some 4), none, .mv (.t 17)⟩])
  .ret) .skip))))
  (.ops [⟨(some 18), none, .bin .add (.t 8) (.c (.int .i64 1))⟩, ⟨(some 8), none, .mv (.t 18)⟩]))))
def k149 : KC := (.seq (.ops [⟨(some 3), none, .box true (.t 1)⟩, ⟨(some 4), none, .mv (.c (.int .i64 0))⟩])
  (.seq (.seq (.ops [⟨(some 6), none, .mv (.t 0)⟩, ⟨(some 7), none, .len false (.t 6)⟩, ⟨(some 8), none, .mv (.c (.int .i64 0))⟩])
  (.block 0 (.loop k149_b0)))
  (.seq (.ops [⟨(some 4), none, .mv (.c (.int .i64 (-1)))⟩])
  .ret)))
theorem e149 {args : List PV} {σ : Heap} {K : PV → Heap → Prop} (hl : args.length ≤ 19) (h : Wf σ → (∀ a ∈ args, PV.upto σ.length a) → vc (mkCfg Tryz.prog mixed [3] 19 σ.length) k149 (FinK σ.length [.t 4] K) (argEnv 0 args) σ) : ACall Tryz.prog 149 args σ K :=
  ACall_enter (C := mkCfg Tryz.prog mixed [3] 19 σ.length) (c := Tryz.f149.body.getD .skip) Tryz.func149 (by kernel_rfl) (by kernel_rfl) (by kernel_rfl) rfl hl (by kernel_rfl) (by kernel_rfl) h
/- impl.IndexAndPeriod -/
def k26 : KC := (.seq (.ops [⟨(some 1), none, .box true (.t 0)⟩, ⟨(some 2), none, .mv (.c (.int .i64 0))⟩, ⟨(some 3), none, .mv (.c (.int .i64 0))⟩, ⟨(some 4), none, .mv (.c (.int .i64 0))⟩])
  (.seq (.seq (.ops [⟨(some 7), none, .load true 6 (.t 1)⟩, ⟨(some 8), none, .call (.c (.fn (.func 85) [] [])) [(.t 7)]⟩, ⟨(some 9), none, .not (.t 8)⟩])
  (.cond (.t 9) (.seq (.ops [⟨(some 2), none, .mv (.c (.int .i64 0))⟩, ⟨(some 3), none, .mv (.c (.int .i64 0))⟩, ⟨(some 4), none, .mv (.c (.int .i64 1))⟩])
  .ret) .skip))
  (.seq (.ops [⟨(some 11), none, .load true 6 (.t 1)⟩, ⟨(some 12), none, .call (.c (.fn (.func 98) [] [])) [(.t 11)]⟩, ⟨(some 10), none, .mv (.t 12)⟩, ⟨(some 13), none, .extr 0 (.t 10)⟩, ⟨(some 14), none, .extr 1 (.t 10)⟩, ⟨(some 5), none, .mv (.t 13)⟩, ⟨(some 6), none, .mv (.t 14)⟩])
  (.seq (.ops [⟨(some 15), none, .mv (.t 5)⟩, ⟨(some 16), none, .mv (.t 6)⟩, ⟨(some 2), none, .mv (.t 15)⟩, ⟨(some 3), none, .mv (.t 16)⟩, ⟨(some 4), none, .mv (.c (.int .i64 0))⟩])
  .ret))))
theorem e26 {args : List PV} {σ : Heap} {K : PV → Heap → Prop} (hl : args.length ≤ 17) (h : Wf σ → (∀ a ∈ args, PV.upto σ.length a) → vc (mkCfg Tryz.prog mixed [1] 17 σ.length) k26 (FinK σ.length [.t 2, .t 3, .t 4] K) (argEnv 0 args) σ) : ACall Tryz.prog 26 args σ K :=
  ACall_enter (C := mkCfg Tryz.prog mixed [1] 17 σ.length) (c := Tryz.f26.body.getD .skip) Tryz.func26 (by kernel_rfl) (by kernel_rfl) (by kernel_rfl) rfl hl (by kernel_rfl) (by kernel_rfl) h
/- impl.CyclicPoints -/
def k24 : KC := (.seq (.ops [⟨(some 1), none, .box true (.t 0)⟩, ⟨(some 2), none, .mv (.c (.nils))⟩, ⟨(some 3), none, .mv (.c (.int .i64 0))⟩])
  (.seq (.seq (.ops [⟨(some 4), none, .load true 6 (.t 1)⟩, ⟨(some 5), none, .call (.c (.fn (.func 85) [] [])) [(.t 4)]⟩, ⟨(some 6), none, .not (.t 5)⟩])
  (.cond (.t 6) (.seq (.ops [⟨(some 2), none, .mv (.c (.nils))⟩, ⟨(some 3), none, .mv (.c (.int .i64 1))⟩])
  .ret) .skip))
  (.seq (.ops [⟨(some 7), none, .load true 6 (.t 1)⟩, ⟨(some 8), none, .load true 6 (.t 1)⟩, ⟨(some 9), none, .mkfn (.func 94) [(.t 8)] []⟩, ⟨(some 10), none, .call (.c (.fn (.func 93) [] [])) [(.t 7), (.t 9)]⟩, ⟨(some 2), none, .mv (.t 10)⟩, ⟨(some 3), none, .mv (.c (.int .i64 0))⟩])
  .ret)))
theorem e24 {args : List PV} {σ : Heap} {K : PV → Heap → Prop} (hl : args.length ≤ 11) (h : Wf σ → (∀ a ∈ args, PV.upto σ.length a) → vc (mkCfg Tryz.prog mixed [1] 11 σ.length) k24 (FinK σ.length [.t 2, .t 3] K) (argEnv 0 args) σ) : ACall Tryz.prog 24 args σ K :=
  ACall_enter (C := mkCfg Tryz.prog mixed [1] 11 σ.length) (c := Tryz.f24.body.getD .skip) Tryz.func24 (by kernel_rfl) (by kernel_rfl) (by kernel_rfl) rfl hl (by kernel_rfl) (by kernel_rfl) h
end Go.Proofs.YtpfapiiinkkcgaaGreat
namespace Go.Proofs.YtpfapiiinkkcgaaGreat
open Go.Kv
set_option linter.unusedVariables false
set_option linter.unusedSimpArgs false
attribute [local irreducible] ACall PCall KL
theorem range_okR {n : Nat} (h1 : 1 ≤ n) (h5 : n ≤ 5) : Ok (List.range n) n := by
  refine ⟨?_, ?_, ?_, ?_⟩ <;> first | exact h1 | exact h5 | simp
/-- Where a map stands in a list; -1 if it doesn't. -/
def ixM (Q : List (List Nat)) (g : List Nat) : Int := if g ∈ Q then (Q.idxOf g : Int) else -1
theorem ix_at {g : List Nat} : ∀ {Q : List (List Nat)} {x : Nat} (h : x < Q.length), Q[x] = g → g ∉ Q.take x → Q.idxOf g = x
  | a :: Q, 0, _, he, _ => by
    simp only [List.getElem_cons_zero] at he
    subst he; simp
  | a :: Q, x + 1, h, he, hn => by
    simp only [List.getElem_cons_succ] at he
    simp only [List.take_succ_cons, List.mem_cons, not_or] at hn
    have := ix_at (by simpa using h) he hn.2
    rw [List.idxOf_cons, this]
    have hne : (a == g) = false := by simpa using Ne.symm hn.1
    rw [hne]; rfl
theorem p149 (Q : List (List Nat)) (n : Nat) (hQ : ∀ f ∈ Q, Ok f n) (hl : Q.length ≤ 4000) (g : List Nat) (hg : Ok g n) : Pure Tryz.prog 149 [.list (aggs (Q.map mp)), .agg (ints (mp g))] (.int .i64 (ixM Q g)) := by
  have h6g := hg.mp_len
  refine e149 (by simp) fun _ _ => ?_
  simp only [k149, argEnv, h6g, take6, List.drop_zero, Int.cast_ofNat_Int, go_sem, ↓reduceIte, Nat.reduceEqDiff, Nat.reduceAdd, Nat.reduceMul, Nat.reduceLeDiff, Nat.reduceLT, Int.reduceLE, Int.reduceLT, reduceCtorEq]
  try simp only [aggs_length, List.length_map, take6, List.drop_zero, Int.cast_ofNat_Int, go_sem, ↓reduceIte, Nat.reduceEqDiff, Nat.reduceAdd, Nat.reduceMul, Nat.reduceLeDiff, Nat.reduceLT, Int.reduceLE, Int.reduceLT, reduceCtorEq]
  have hg0 : (List.map (fun k => mp k) Q).length = Q.length := List.length_map _
  refine KL_ind k149_b0.eq_1 (fun x : Nat => [(0, .list (aggs (Q.map mp))), (3, .fptr (ints (mp g)) 0), (7, .int .i64 Q.length), (8, .int .i64 x)]) (fun _ => []) (fun x => x ≤ Q.length ∧ g ∉ Q.take x) (fun x => Q.length - x) [0, 3, 7, 8] 0 (by simp [keep]) rfl ⟨Nat.zero_le _, by simp⟩ fun x ⟨hx, hn⟩ ih => ?_
  try simp only [OpK_eq, HKv, aggs_length, List.length_map, h6g, take6, List.drop_zero, Int.cast_ofNat_Int, go_sem, ↓reduceIte, Nat.reduceEqDiff, Nat.reduceAdd, Nat.reduceMul, Nat.reduceLeDiff, Nat.reduceLT, Int.reduceLE, Int.reduceLT, reduceCtorEq]
  refine ⟨fun g1 => ?_, fun g1 => ?_⟩
  · have hxl : x < Q.length := by omega
    have hgx : (Q.map mp).getD x [] = mp Q[x] := by simp [List.getD_eq_getElem?_getD, hxl]
    have h6x := (hQ _ (List.getElem_mem hxl)).mp_len
    have hcd : decide (mp g = mp Q[x]) = decide (g = Q[x]) := decide_eq_decide.2 ⟨mp_inj, fun h => by rw [h]⟩
    try simp only [OpK_eq, HKv, aggs_length, List.length_map, h6g, hgx, h6x, hcd, take6, List.drop_zero, Int.cast_ofNat_Int, go_sem, ↓reduceIte, Nat.reduceEqDiff, Nat.reduceAdd, Nat.reduceMul, Nat.reduceLeDiff, Nat.reduceLT, Int.reduceLE, Int.reduceLT, reduceCtorEq]
    refine ⟨by omega, fun _ => ⟨fun h => Kv.Fin.still ⟨?_, rfl⟩, fun h => ⟨by omega, ih (x + 1) ⟨by omega, ?_⟩ (by omega) _ _ (by simp [keep]) rfl⟩⟩⟩
    · have e := mp_inj h
      rw [ixM, if_pos (by rw [e]; exact List.getElem_mem hxl), ix_at hxl e.symm hn]
    · rw [List.take_succ_eq_append_getElem hxl, List.mem_append, List.mem_singleton]
      rintro (h' | h')
      · exact hn h'
      · exact h (by rw [h'])
  · obtain rfl : x = Q.length := by omega
    rw [List.take_length] at hn
    refine Kv.Fin.still ⟨?_, rfl⟩
    rw [ixM, if_neg hn]
theorem p98 (f : List Nat) (n : Nat) (hf : Ok f n) {K : PV → Heap → Prop} (hK : ∀ a L, Rnd f n a L → L ≤ 3125 → K (.tup [.int .i64 a, .int .i64 ((L : Int) - a)]) []) : ACall Tryz.prog 98 [.agg (ints (mp f))] [] K := by
  have h6f := hf.mp_len
  have h1 := hf.pos
  have h5 := hf.le
  have h06 := (range_okR h1 h5).mp_len
  have hp0 : (mp f).getD 0 0 = (n : Int) := by rw [mp, hf.len]; rfl
  refine e98 (by simp) fun _ _ => ?_
  simp only [k98, argEnv, h6f, hp0, take6, List.drop_zero, Int.cast_ofNat_Int, go_sem, ↓reduceIte, Nat.reduceEqDiff, Nat.reduceAdd, Nat.reduceMul, Nat.reduceLeDiff, Nat.reduceLT, Int.reduceLE, Int.reduceLT, reduceCtorEq]
  refine (p148 n h1 h5).go ?_
  try simp only [OpK_eq, HKv, h06, take6, List.drop_zero, Int.cast_ofNat_Int, go_sem, ↓reduceIte, Nat.reduceEqDiff, Nat.reduceAdd, Nat.reduceMul, Nat.reduceLeDiff, Nat.reduceLT, Int.reduceLE, Int.reduceLT, reduceCtorEq]
  refine KL_ind k98_b0.eq_1 (fun x : Nat × Nat × Heap => [(1, .fptr (ints (mp f)) 0), (4, .ref 0 x.2.1 0 x.1)]) (fun x => .arr x.2.1 34 6 (aggs ((List.range x.1).map fun k => mp (itM f n k))) :: x.2.2) (fun x => 1 ≤ x.1 ∧ ∀ i j, i < j → j < x.1 → itM f n i ≠ itM f n j) (fun x => 3126 - x.1) [1, 4] (1, 0, []) (by simp [keep]) (by try rw [show (List.range 1).map (fun k => mp (itM f n k)) = [mp (List.range n)] by simp [itM_zero]]; rfl) ⟨Nat.le_refl _, fun i j h1 h2 => by omega⟩ fun ⟨L, ver, X⟩ ⟨hL, hnd⟩ ih => ?_
  simp only at hL hnd
  have hfew := pow_few hf hnd
  have hgl : ((List.range L).map fun k => mp (itM f n k)).getD (L - 1) [] = mp (itM f n (L - 1)) := by
    rw [List.getD_eq_getElem?_getD, List.getElem?_map, List.getElem?_range (by omega)]; rfl
  have hO := itM_ok hf (L - 1)
  have hOL := itM_ok hf L
  have h6O := hO.mp_len
  have h6L := hOL.mp_len
  have hnat : ((L : Int) - 1).toNat = L - 1 := by omega
  have hal : ((List.range L).map fun k => mp (itM f n k)).length = L := by simp
  have h00 : ∀ (a : AObj) (Y : Heap), (a :: Y)[0]? = some a := fun a Y => rfl
  try simp only [OpK_eq, HKv, h00, aggs_length, hal, hnat, hgl, h6O, h6f, take6, List.drop_zero, Int.cast_ofNat_Int, go_sem, ↓reduceIte, Nat.reduceEqDiff, Nat.reduceAdd, Nat.reduceMul, Nat.reduceLeDiff, Nat.reduceLT, Int.reduceLE, Int.reduceLT, reduceCtorEq]
  refine ⟨by omega, ⟨by omega, by omega, Nat.le_refl _⟩, by omega, fun _ => ?_⟩
  refine (p118 _ f n hO hf).pgo ?_
  have hmul : mul (itM f n (L - 1)) f = itM f n L := by
    have := itM_mul hf (L - 1) 1
    rwa [itM_one hf, Nat.sub_add_cancel hL] at this
  rw [hmul]
  have hil : (ints (mp (itM f n L))).length = 6 := by rw [ints_length, h6L]
  have hgb : ∀ (a : AObj) (Y : Heap) (z : AObj), (a :: (Y ++ [z]))[Y.length + 1]? = some z := fun a Y z => by simp
  have hsb : ∀ (a : AObj) (Y : Heap) (z z' : AObj), (a :: (Y ++ [z])).set (Y.length + 1) z' = a :: (Y ++ [z']) := fun a Y z z' => by simp [List.set_append_right]
  try simp only [OpK_eq, HKv, h00, hil, List.length_cons, List.cons_append, hgb, hsb, h6L, take6, List.drop_zero, Int.cast_ofNat_Int, go_sem, ↓reduceIte, Nat.reduceEqDiff, Nat.reduceAdd, Nat.reduceMul, Nat.reduceLeDiff, Nat.reduceLT, Int.reduceLE, Int.reduceLT, reduceCtorEq]
  have hQm : ((List.range L).map fun k => mp (itM f n k)) = ((List.range L).map fun k => itM f n k).map mp := by rw [List.map_map]; rfl
  have hQO : ∀ g ∈ (List.range L).map (fun k => itM f n k), Ok g n := fun g hg => by
    obtain ⟨k, _, rfl⟩ := List.mem_map.1 hg
    exact itM_ok hf k
  have hix := p149 ((List.range L).map fun k => itM f n k) n hQO (by simp; omega) (itM f n L) hOL
  rw [← hQm] at hix
  refine hix.lend (.cons (Imm.refa' (h00 _ _) hal.symm) (.cons Imm.still (.nil _))) ?_
  try simp only [OpK_eq, HKv, h00, hil, List.length_cons, List.cons_append, hgb, hsb, h6L, aggs_length, hal, take6, List.drop_zero, Int.cast_ofNat_Int, go_sem, ↓reduceIte, Nat.reduceEqDiff, Nat.reduceAdd, Nat.reduceMul, Nat.reduceLeDiff, Nat.reduceLT, Int.reduceLE, Int.reduceLT, reduceCtorEq]
  by_cases hin : itM f n L ∈ (List.range L).map fun k => itM f n k
  · have hlt := List.idxOf_lt_length_iff.2 hin
    have hge := List.getElem_idxOf hlt
    rw [ixM, if_pos hin]
    generalize ((List.range L).map fun k => itM f n k).idxOf (itM f n L) = a at hlt hge ⊢
    simp only [List.length_map, List.length_range] at hlt
    simp only [List.getElem_map, List.getElem_range] at hge
    refine ⟨fun _ => ⟨by omega, Kv.Fin.still (hK a L ⟨hlt, hge.symm, hnd⟩ hfew)⟩, fun h => absurd h (by omega)⟩
  · rw [ixM, if_neg hin]
    refine ⟨fun h => absurd h (by omega), fun _ => ⟨⟨Nat.le_refl _, by omega⟩, ih (L + 1, ver + 1, X ++ [.box (ints (mp (itM f n L)))]) ⟨by show 1 ≤ L + 1; omega, fun i j h1 h2 e => ?_⟩ (by show 3126 - (L + 1) < 3126 - L; omega) _ _ (by simp [keep]) ?_⟩⟩
    · by_cases hj : j = L
      · subst hj
        exact hin (List.mem_map.2 ⟨i, List.mem_range.2 h1, e⟩)
      · exact hnd i j h1 (by have : j < L + 1 := h2; omega) e
    · simp [aggs, List.range_succ]
      exact List.take_of_length_le (by simp)
theorem p26_in (f : List Nat) (n : Nat) (hf : Ok f n) {K : PV → Heap → Prop} (hK : ∀ a L, Rnd f n a L → L ≤ 3125 → K (.tup [.int .i64 a, .int .i64 ((L : Int) - a), .int .i64 0]) []) : ACall Tryz.prog 26 [.agg (ints (mp f))] [] K := by
  have h6f := hf.mp_len
  refine e26 (by simp) fun _ _ => ?_
  simp only [k26, argEnv, h6f, take6, List.drop_zero, Int.cast_ofNat_Int, go_sem, ↓reduceIte, Nat.reduceEqDiff, Nat.reduceAdd, Nat.reduceMul, Nat.reduceLeDiff, Nat.reduceLT, Int.reduceLE, Int.reduceLT, reduceCtorEq]
  refine (p85 (mp f) h6f).go ?_
  rw [isM_mp hf]
  try simp only [OpK_eq, HKv, h6f, take6, List.drop_zero, Int.cast_ofNat_Int, go_sem, ↓reduceIte, Nat.reduceEqDiff, Nat.reduceAdd, Nat.reduceMul, Nat.reduceLeDiff, Nat.reduceLT, Int.reduceLE, Int.reduceLT, reduceCtorEq]
  refine p98 f n hf fun a L h1 h2 => ?_
  try simp only [OpK_eq, HKv, h6f, take6, List.drop_zero, Int.cast_ofNat_Int, go_sem, ↓reduceIte, Nat.reduceEqDiff, Nat.reduceAdd, Nat.reduceMul, Nat.reduceLeDiff, Nat.reduceLT, Int.reduceLE, Int.reduceLT, reduceCtorEq]
  exact Kv.Fin.still (hK a L h1 h2)
theorem p26G (f : List Nat) (n : Nat) (hf : Ok f n) {σ : Heap} {K : PV → Heap → Prop} (hK : ∀ a L, Rnd f n a L → L ≤ 3125 → K (.tup [.int .i64 a, .int .i64 ((L : Int) - a), .int .i64 0]) σ) : ACall Tryz.prog 26 [.agg (ints (mp f))] σ K := by
  refine ACall.go (p26_in f n hf (K := fun v s => ∃ a L, Rnd f n a L ∧ L ≤ 3125 ∧ v = .tup [.int .i64 a, .int .i64 ((L : Int) - a), .int .i64 0] ∧ s = []) fun a L h1 h2 => ⟨a, L, h1, h2, rfl, rfl⟩) fun v s ⟨a, L, h1, h2, hv, hs⟩ => ?_
  subst hv; subst hs
  have := hK a L h1 h2
  simpa [PV.ren] using this
theorem p24_in (f : List Nat) (n : Nat) (hf : Ok f n) : Pure Tryz.prog 24 [.agg (ints (mp f))] (.tup [.list (ints (((List.range n).filter (cyc f n)).map fun x : Nat => (x : Int))), .int .i64 0]) := by
  have h6f := hf.mp_len
  refine e24 (by simp) fun _ _ => ?_
  simp only [k24, argEnv, h6f, take6, List.drop_zero, Int.cast_ofNat_Int, go_sem, ↓reduceIte, Nat.reduceEqDiff, Nat.reduceAdd, Nat.reduceMul, Nat.reduceLeDiff, Nat.reduceLT, Int.reduceLE, Int.reduceLT, reduceCtorEq]
  refine (p85 (mp f) h6f).go ?_
  rw [isM_mp hf]
  try simp only [OpK_eq, HKv, h6f, take6, List.drop_zero, Int.cast_ofNat_Int, go_sem, ↓reduceIte, Nat.reduceEqDiff, Nat.reduceAdd, Nat.reduceMul, Nat.reduceLeDiff, Nat.reduceLT, Int.reduceLE, Int.reduceLT, reduceCtorEq]
  refine (p93 f n hf).go ?_
  try simp only [OpK_eq, HKv, take6, List.drop_zero, Int.cast_ofNat_Int, go_sem, ↓reduceIte, Nat.reduceEqDiff, Nat.reduceAdd, Nat.reduceMul, Nat.reduceLeDiff, Nat.reduceLT, Int.reduceLE, Int.reduceLT, reduceCtorEq]
  exact Kv.Fin.still ⟨rfl, rfl⟩
end Go.Proofs.YtpfapiiinkkcgaaGreat
