/- Images of sets of points, ranks, permutations. -/
import Derived.Test.YtpepbomifjbgnaaCb
import Derived.Test.YtpepbomifjbgnaaCP
import Derived.Test.YtpepbomifjbgnaaI
import Derived.Test.YtpepbomifjbgnaaMB
import Derived.Test.YtpepbomifjbgnaaCL
import Derived.Test.YtpepbomifjbgnaaTG
namespace Go.Proofs.Ytpepbomifjbgnaa
open Go.Kv
set_option maxRecDepth 100000
/- (impl.Map).image -/
/- live [2, 5, 8, 9, 10] -/
def k79_b0 : KC := (.seq (.ops [⟨(some 11), none, .bin .lss (.t 10) (.t 9)⟩])
  (.seq (.cond (.t 11) .skip (.exit 0))
  (.seq (.block 1 (.seq (.ops [⟨(some 12), none, .idxS 1 (.t 8) (.t 10)⟩, ⟨(some 13), none, .load false 1 (.t 12)⟩, ⟨(some 7), none, .mv (.t 13)⟩])
  (.ops [⟨(some 14), none, .mv (.t 5)⟩, ⟨(some 15), none, .mv (.t 7)⟩, ⟨(some 16), none, .fieldA 1 (.t 2)⟩, ⟨(some 17), none, .idxA 5 1 (.t 16) (.t 15)⟩, ⟨(some 18), none, .load false 1 (.t 17)⟩, ⟨(some 19), none, .bsl true 2 1 [(.t 18)]⟩, ⟨(some 20), none, .app (.t 14) (.t 19) 2 1⟩, ⟨(some 5), none, .mv (.t 20)⟩])))
  (.ops [⟨(some 21), none, .bin .add (.t 10) (.c (.int .i64 1))⟩, ⟨(some 10), none, .mv (.t 21)⟩]))))
def k79 : KC := (.seq (.ops [⟨(some 2), none, .box true (.t 0)⟩, ⟨(some 4), none, .mv (.c (.nils))⟩])
  (.seq (.ops [⟨(some 5), none, .mv (.c (.nils))⟩])
  (.seq (.seq (.ops [⟨(some 8), none, .mv (.t 1)⟩, ⟨(some 9), none, .len false (.t 8)⟩, ⟨(some 10), none, .mv (.c (.int .i64 0))⟩])
  (.block 0 (.loop k79_b0)))
  (.seq (.ops [⟨(some 22), none, .mv (.t 5)⟩, ⟨(some 23), none, .call (.c (.fn (.func 96) [] [])) [(.t 22)]⟩])
  (.seq (.ops [⟨(some 24), none, .mv (.t 5)⟩, ⟨(some 25), none, .call (.c (.fn (.func 125) [] [])) [(.t 24)]⟩, ⟨(some 4), none, .mv (.t 25)⟩])
  .ret)))))
theorem e79 {args : List PV} {σ : Heap} {K : PV → Heap → Prop} (hl : args.length ≤ 26) (h : Wf σ → (∀ a ∈ args, PV.upto σ.length a) → vc (mkCfg Try.prog mixed [2, 19] 26 σ.length) k79 (FinK σ.length [.t 4] K) (argEnv 0 args) σ) : ACall Try.prog 79 args σ K :=
  ACall_enter (C := mkCfg Try.prog mixed [2, 19] 26 σ.length) (c := Try.f79.body.getD .skip) Try.func79 (by kernel_rfl) (by kernel_rfl) (by kernel_rfl) rfl hl (by kernel_rfl) (by kernel_rfl) h
end Go.Proofs.Ytpepbomifjbgnaa
namespace Go.Proofs.Ytpepbomifjbgnaa
open Go.Kv
set_option linter.unusedVariables false
set_option linter.unusedSimpArgs false
attribute [local irreducible] ACall PCall KL
def insI (x : Int) : List Int → List Int
  | [] => [x]
  | y :: l => if x ≤ y then x :: y :: l else y :: insI x l
/-- The list in order. -/
def srt : List Int → List Int
  | [] => []
  | x :: l => insI x (srt l)
theorem insI_perm (x : Int) : ∀ l, (insI x l).Perm (x :: l)
  | [] => .refl _
  | y :: l => by
    unfold insI
    split
    · exact .refl _
    · exact ((insI_perm x l).cons y).trans (.swap x y l)
theorem srt_perm : ∀ l, (srt l).Perm l
  | [] => .refl _
  | x :: l => (insI_perm x _).trans ((srt_perm l).cons x)
theorem insI_sorted (x : Int) : ∀ l : List Int, l.Pairwise (· ≤ ·) → (insI x l).Pairwise (· ≤ ·)
  | [], _ => by simp [insI]
  | y :: l, h => by
    rw [List.pairwise_cons] at h
    unfold insI
    split
    · rename_i hx
      refine List.pairwise_cons.2 ⟨fun z hz => ?_, List.pairwise_cons.2 h⟩
      rcases List.mem_cons.1 hz with rfl | hz
      · exact hx
      · exact Int.le_trans hx (h.1 z hz)
    · rename_i hx
      refine List.pairwise_cons.2 ⟨fun z hz => ?_, insI_sorted x l h.2⟩
      rcases List.mem_cons.1 ((insI_perm x l).mem_iff.1 hz) with rfl | hz
      · omega
      · exact h.1 z hz
theorem srt_sorted : ∀ l, (srt l).Pairwise (· ≤ ·)
  | [] => .nil
  | x :: l => insI_sorted x _ (srt_sorted l)
theorem sorted_uniq : ∀ {r s : List Int}, r.Perm s → r.Pairwise (· ≤ ·) → s.Pairwise (· ≤ ·) → r = s
  | [], s, h, _, _ => (h.nil_eq)
  | x :: r, [], h, _, _ => by have := h.length_eq; simp at this
  | x :: r, y :: s, h, hr, hs => by
    rw [List.pairwise_cons] at hr hs
    have e : x = y := by
      have h1 : x ∈ y :: s := h.mem_iff.1 (by simp)
      have h2 : y ∈ x :: r := h.mem_iff.2 (by simp)
      rcases List.mem_cons.1 h1 with h1 | h1
      · exact h1
      · rcases List.mem_cons.1 h2 with h2 | h2
        · exact h2.symm
        · have := hs.1 x h1; have := hr.1 y h2; omega
    subst e
    rw [sorted_uniq (List.Perm.cons_inv h) hr.2 hs.2]
theorem srt_eq {r l : List Int} (h : r.Perm l) (hr : r.Pairwise (· ≤ ·)) : r = srt l := sorted_uniq (h.trans (srt_perm l).symm) hr (srt_sorted l)
@[simp] theorem srt_length (l : List Int) : (srt l).length = l.length := (srt_perm l).length_eq
/-- Nothing is left out just where nothing stands twice. -/
theorem cpt_nodup : ∀ r : List Int, r.Pairwise (· ≤ ·) → (cpt r).length ≤ r.length ∧ ((cpt r).length = r.length ↔ r.Nodup)
  | [], _ => by simp [cpt]
  | [a], _ => by simp [cpt]
  | a :: b :: l, h => by
    rw [List.pairwise_cons] at h
    obtain ⟨h1, h2⟩ := cpt_nodup (b :: l) h.2
    rw [cpt_two]
    by_cases e : a = b
    · rw [if_pos e]
      refine ⟨by simp at h1 ⊢; omega, ⟨fun h3 => by simp at h1 h3; omega, fun h3 => ?_⟩⟩
      rw [List.nodup_cons] at h3
      exact absurd (by rw [e]; simp) h3.1
    · rw [if_neg e]
      refine ⟨by simp at h1 ⊢; omega, ?_⟩
      have hna : a ∉ b :: l := fun hm => by
        rcases List.mem_cons.1 hm with hm | hm
        · exact e hm
        · have g1 := h.1 b (by simp)
          have g2 := (List.pairwise_cons.1 h.2).1 a hm
          omega
      rw [List.nodup_cons, ← h2]
      simp [hna]
theorem sortN (σ : Heap) (id ver : Nat) (e : TypeId) (l : List Int) (k : Nat) (hk : k = l.length) (hid : σ[id]? = some (.arr ver e 1 (ints l))) (hn : l.length ≤ 12) {K : PV → Heap → Prop} (hK : ∀ r : List Int, r.Perm l → r.Pairwise (· ≤ ·) → K (.tup []) (σ.set id (.arr ver e 1 (ints r)))) :
    ACall Try.prog 96 [.ref id ver 0 k] σ K := by
  subst hk; exact p96 σ id ver e l hid hn hK
theorem compactN (σ : Heap) (id ver : Nat) (e : TypeId) (r : List Int) (k : Nat) (hk : k = r.length) (hid : σ[id]? = some (.arr ver e 1 (ints r))) (hn : r.length ≤ 4294967296) {K : PV → Heap → Prop} (hK : ∀ post : List Int, K (.ref id ver 0 (cpt r).length) (σ.set id (.arr ver e 1 (ints (cpt r ++ post))))) :
    ACall Try.prog 125 [.ref id ver 0 k] σ K := by
  subst hk; exact p125 σ id ver e r hid hn hK
/-- The images of points, in order. -/
def imgs (f : List Nat) (l : List Nat) : List Int := cpt (srt (l.map fun p => (f.getD p 0 : Int)))
theorem p79 (f : List Nat) (n : Nat) (hf : Ok f n) (l : List Nat) (hl : ∀ x ∈ l, x < n) (h1 : 1 ≤ l.length) (h12 : l.length ≤ 12) : Pure Try.prog 79 [.agg (ints (mp f)), .list (ints (l.map fun x : Nat => (x : Int)))] (.list (ints (imgs f l))) := by
  have hlf := hf.mp_len
  have h5 := hf.le
  refine e79 (by simp) fun _ _ => ?_
  simp only [k79, argEnv, hlf, List.length_map, take6, List.drop_zero, Int.cast_ofNat_Int, go_sem, ↓reduceIte, Nat.reduceEqDiff, Nat.reduceAdd, Nat.reduceMul, Nat.reduceLeDiff, Nat.reduceLT, Int.reduceLE, Int.reduceLT, reduceCtorEq]
  refine KL_ind k79_b0.eq_1 (fun x : Nat => [(2, .fptr (ints (mp f)) 0), (5, nref 0 x), (8, .list (ints (l.map fun x : Nat => (x : Int)))), (9, .int .i64 l.length), (10, .int .i64 x)]) (fun x => nhp [.arr (x - 1) 2 1 (ints ((l.take x).map fun p => (f.getD p 0 : Int)))] x) (fun x => x ≤ l.length) (fun x => l.length - x) [2, 5, 8, 9, 10] 0 (by rfl) (by rfl) (Nat.zero_le _) fun x hx ih => ?_
  have hgl : ∀ x, x < l.length → l.getD x 0 < n := fun x hx => by
    rw [List.getD_eq_getElem?_getD, List.getElem?_eq_getElem hx]
    exact hl _ (List.getElem_mem hx)
  have hsn : ∀ x, x < l.length → (l.take (x + 1)).map (fun p => (f.getD p 0 : Int)) = (l.take x).map (fun p => (f.getD p 0 : Int)) ++ [(f.getD (l.getD x 0) 0 : Int)] := fun x hx => by
    rw [List.take_succ_eq_append_getElem hx, List.map_append]
    simp [List.getD_eq_getElem?_getD, hx]
  have hn0 : ∀ k : Nat, (k : Int).toNat = k := fun k => by omega
  try simp only [hlf, natD, List.length_map, hn0, take6, List.drop_zero, Int.cast_ofNat_Int, go_sem, ↓reduceIte, Nat.reduceEqDiff, Nat.reduceAdd, Nat.reduceMul, Nat.reduceLeDiff, Nat.reduceLT, Int.reduceLE, Int.reduceLT, reduceCtorEq]
  refine ⟨fun h2 => ?_, fun h2 => ?_⟩
  · have hxl : x < l.length := by omega
    have hgx := hgl x hxl
    rcases x with _ | x
    · try simp only [hlf, natD, List.length_map, hn0, take6, List.drop_zero, Int.cast_ofNat_Int, go_sem, ↓reduceIte, Nat.reduceEqDiff, Nat.reduceAdd, Nat.reduceMul, Nat.reduceLeDiff, Nat.reduceLT, Int.reduceLE, Int.reduceLT, reduceCtorEq]
      refine ⟨by omega, fun _ => ⟨by omega, by omega, fun _ => ⟨by omega, ih 1 (by omega) (by omega) _ _ (by rfl) ?_⟩⟩⟩
      show _ = [AObj.arr 0 2 1 (ints ((l.take (0 + 1)).map fun p => (f.getD p 0 : Int)))]
      rw [hsn 0 hxl]; rfl
    · have hlt : (l.take (x + 1)).length = x + 1 := by simp; omega
      try simp only [hlf, natD, List.length_map, hn0, hlt, take6, List.drop_zero, Int.cast_ofNat_Int, go_sem, ↓reduceIte, Nat.reduceEqDiff, Nat.reduceAdd, Nat.reduceMul, Nat.reduceLeDiff, Nat.reduceLT, Int.reduceLE, Int.reduceLT, reduceCtorEq]
      refine ⟨by omega, fun _ => ⟨by omega, by omega, fun _ => ⟨by omega, by omega, ih (x + 1 + 1) (by omega) (by omega) _ _ (by rfl) ?_⟩⟩⟩
      show _ = [AObj.arr (x + 1) 2 1 (ints ((l.take (x + 1 + 1)).map fun p => (f.getD p 0 : Int)))]
      rw [hsn (x + 1) hxl, List.take_of_length_le (by simp; omega)]
  · obtain rfl : x = l.length := by omega
    rw [nref_pos (by omega), nhp_pos (by omega), List.take_length]
    try simp only [take6, List.drop_zero, Int.cast_ofNat_Int, go_sem, ↓reduceIte, Nat.reduceEqDiff, Nat.reduceAdd, Nat.reduceMul, Nat.reduceLeDiff, Nat.reduceLT, Int.reduceLE, Int.reduceLT, reduceCtorEq]
    refine sortN _ 0 (l.length - 1) 2 (l.map fun p => (f.getD p 0 : Int)) l.length (by simp) rfl (by simp; omega) fun r hp hS => ?_
    have hrl : l.length = r.length := by have := hp.length_eq; simpa using this.symm
    try simp only [take6, List.drop_zero, Int.cast_ofNat_Int, go_sem, ↓reduceIte, Nat.reduceEqDiff, Nat.reduceAdd, Nat.reduceMul, Nat.reduceLeDiff, Nat.reduceLT, Int.reduceLE, Int.reduceLT, reduceCtorEq]
    refine compactN _ 0 (l.length - 1) 2 r l.length hrl rfl (by omega) fun post => ?_
    try simp only [take6, List.drop_zero, Int.cast_ofNat_Int, go_sem, ↓reduceIte, Nat.reduceEqDiff, Nat.reduceAdd, Nat.reduceMul, Nat.reduceLeDiff, Nat.reduceLT, Int.reduceLE, Int.reduceLT, reduceCtorEq]
    have hr := srt_eq hp hS
    subst hr
    exact Kv.Fin.freeze (Imm.refp (pre := []) (l := imgs f l) (post := post) rfl rfl rfl) ⟨rfl, rfl⟩
theorem points_pure (n : Nat) (hn : 1 ≤ n ∧ n ≤ 4294967296) : Pure Try.prog 50 [.int .i64 n] (.list (ints ((List.range n).map fun x : Nat => (x : Int)))) :=
  ACall.ret (p50 n hn) fun v s ⟨hv, hs⟩ => by
    subst hv; subst hs
    have e : pts n = (List.range n).map fun x : Nat => (x : Int) := rfl
    rw [← e]
    exact Kv.Fin.freeze (Imm.refi rfl) ⟨rfl, rfl⟩
theorem map_getD_range (f : List Nat) : (List.range f.length).map (fun p => (f.getD p 0 : Int)) = f.map fun x : Nat => (x : Int) := by
  apply List.ext_getElem (by simp)
  intro i h1 h2
  simp at h1 h2
  simp [List.getD_eq_getElem?_getD, h1]
/-- A map has as many images as points just where no image stands twice. -/
theorem rank_nodup {f : List Nat} {n : Nat} (hf : Ok f n) : (imgs f (List.range n)).length = n ↔ f.Nodup := by
  have h := (cpt_nodup _ (srt_sorted (f.map fun x : Nat => (x : Int)))).2
  rw [srt_length, List.length_map, hf.len, (srt_perm _).nodup_iff] at h
  unfold imgs
  rw [← hf.len, map_getD_range, hf.len, h]
  rw [List.nodup_iff_pairwise_ne, List.nodup_iff_pairwise_ne, List.pairwise_map]
  constructor
  · intro h; exact h.imp fun h' e => h' (by rw [e])
  · intro h; exact h.imp fun h' e => h' (by omega)
end Go.Proofs.Ytpepbomifjbgnaa
