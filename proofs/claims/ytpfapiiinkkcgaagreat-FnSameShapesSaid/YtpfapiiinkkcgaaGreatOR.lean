/- All permutations of few points: the specification's recursion, and that they are the maps whose images differ. -/
import Derived.Test.YtpfapiiinkkcgaaGreatCb
import Derived.Test.YtpfapiiinkkcgaaGreatG3
import Derived.Test.YtpfapiiinkkcgaaGreatG5
import Derived.Test.YtpfapiiinkkcgaaGreatLP
namespace Go.Proofs.YtpfapiiinkkcgaaGreat
open Go.Kv
set_option maxRecDepth 100000
/- spec.l09Orders -/
/- live [0, 1, 5, 6, 7, 8, 30, 31, 32, 33, 34, 35] -/
def k81_b0 : KC := (.seq (.seq (.ops [⟨(some 22), none, .mv (.t 8)⟩, ⟨(some 23), none, .mv (.t 1)⟩, ⟨(some 24), none, .len false (.t 23)⟩, ⟨(some 25), none, .bin .lss (.t 22) (.t 24)⟩])
  (.cond (.t 25) .skip (.exit 2)))
  (.seq (.block 3 (.ops [⟨(some 28), none, .mv (.t 7)⟩, ⟨(some 29), none, .mv (.t 28)⟩, ⟨(some 30), some (29, false), .mv (.t 1)⟩, ⟨(some 31), some (29, false), .mv (.t 8)⟩, ⟨(some 32), some (29, false), .idxS 1 (.t 30) (.t 31)⟩, ⟨(some 33), some (29, false), .load false 1 (.t 32)⟩, ⟨(some 34), some (29, false), .mv (.t 6)⟩, ⟨(some 35), some (29, false), .bin .eql (.t 33) (.t 34)⟩, ⟨(some 36), none, .pick (.t 29) (.c (.bool true)) (.t 35)⟩, ⟨(some 7), none, .mv (.t 36)⟩]))
  (.ops [⟨(some 26), none, .mv (.t 8)⟩, ⟨(some 27), none, .bin .add (.t 26) (.c (.int .i64 1))⟩, ⟨(some 8), none, .mv (.t 27)⟩])))
/- live [0, 1, 5, 6, 30, 31, 32, 33, 34, 35] -/
def k81_b1 : KC := (.seq (.seq (.ops [⟨(some 17), none, .mv (.t 6)⟩, ⟨(some 18), none, .mv (.t 0)⟩, ⟨(some 19), none, .bin .lss (.t 17) (.t 18)⟩])
  (.cond (.t 19) .skip (.exit 0)))
  (.seq (.block 1 (.seq (.ops [⟨(some 7), none, .mv (.c (.bool false))⟩])
  (.seq (.seq (.ops [⟨(some 8), none, .mv (.c (.int .i64 0))⟩])
  (.block 2 (.loop k81_b0)))
  (.seq (.ops [⟨(some 37), none, .mv (.t 7)⟩, ⟨(some 38), none, .not (.t 37)⟩])
  (.cond (.t 38) (.ops [⟨(some 39), none, .mv (.t 5)⟩, ⟨(some 40), none, .mv (.t 0)⟩, ⟨(some 41), none, .mv (.t 1)⟩, ⟨(some 42), none, .call (.c (.fn (.func 141) [] [])) [(.t 41)]⟩, ⟨(some 43), none, .mv (.t 6)⟩, ⟨(some 44), none, .bsl true 2 1 [(.t 43)]⟩, ⟨(some 45), none, .app (.t 42) (.t 44) 2 1⟩, ⟨(some 46), none, .call (.c (.fn (.func 81) [] [])) [(.t 40), (.t 45)]⟩, ⟨(some 47), none, .app (.t 39) (.t 46) 34 6⟩, ⟨(some 5), none, .mv (.t 47)⟩]) .skip)))))
  (.ops [⟨(some 20), none, .mv (.t 6)⟩, ⟨(some 21), none, .bin .add (.t 20) (.c (.int .i64 1))⟩, ⟨(some 6), none, .mv (.t 21)⟩])))
def k81 : KC := (.seq (.ops [⟨(some 4), none, .mv (.c (.nils))⟩])
  (.seq (.seq (.ops [⟨(some 9), none, .mv (.t 1)⟩, ⟨(some 10), none, .len false (.t 9)⟩, ⟨(some 11), none, .mv (.t 0)⟩, ⟨(some 12), none, .bin .eql (.t 10) (.t 11)⟩])
  (.cond (.t 12) (.seq (.ops [⟨(some 13), none, .mv (.t 1)⟩, ⟨(some 14), none, .call (.c (.fn (.func 116) [] [])) [(.t 13)]⟩, ⟨(some 15), none, .bsl false 34 6 [(.t 14)]⟩, ⟨(some 4), none, .mv (.t 15)⟩])
  .ret) .skip))
  (.seq (.ops [⟨(some 16), none, .bsl false 34 6 []⟩, ⟨(some 5), none, .mv (.t 16)⟩])
  (.seq (.seq (.ops [⟨(some 6), none, .mv (.c (.int .i64 0))⟩])
  (.block 0 (.loop k81_b1)))
  (.seq (.ops [⟨(some 48), none, .mv (.t 5)⟩, ⟨(some 4), none, .mv (.t 48)⟩])
  .ret)))))
theorem e81 {args : List PV} {σ : Heap} {K : PV → Heap → Prop} (hl : args.length ≤ 49) (h : Wf σ → (∀ a ∈ args, PV.upto σ.length a) → vc (mkCfg Tryz.prog mixed [44] 49 σ.length) k81 (FinK σ.length [.t 4] K) (argEnv 0 args) σ) : ACall Tryz.prog 81 args σ K :=
  ACall_enter (C := mkCfg Tryz.prog mixed [44] 49 σ.length) (c := Tryz.f81.body.getD .skip) Tryz.func81 (by kernel_rfl) (by kernel_rfl) (by kernel_rfl) rfl hl (by kernel_rfl) (by kernel_rfl) h
end Go.Proofs.YtpfapiiinkkcgaaGreat
namespace Go.Proofs.YtpfapiiinkkcgaaGreat
open Go.Kv
set_option linter.unusedVariables false
set_option linter.unusedSimpArgs false
attribute [local irreducible] ACall PCall KL
def ords (n : Nat) : Nat → List Nat → List (List Nat)
  | 0, p => [p]
  | d + 1, p => ((List.range n).map fun q => if q ∈ p then [] else ords n d (p ++ [q])).flatten
def ordN (n d : Nat) (p : List Nat) (x : Nat) : List (List Nat) := ((List.range x).map fun q => if q ∈ p then [] else ords n d (p ++ [q])).flatten
theorem ordN_succ (n d : Nat) (p : List Nat) (x : Nat) : ordN n d p (x + 1) = ordN n d p x ++ if x ∈ p then [] else ords n d (p ++ [x]) := by
  simp [ordN, List.range_succ, List.flatten_append]
theorem ords_le (n : Nat) : ∀ (d : Nat) (p : List Nat), (ords n d p).length ≤ n ^ d ∧ ∀ x, (ordN n d p x).length ≤ x * n ^ d
  | 0, p => by
    refine ⟨by simp [ords], fun x => ?_⟩
    induction x with
    | zero => simp [ordN]
    | succ x ih =>
      rw [ordN_succ, List.length_append, Nat.succ_mul]
      have : (if x ∈ p then [] else ords n 0 (p ++ [x])).length ≤ n ^ 0 := by split <;> simp [ords]
      omega
  | d + 1, p => by
    have h1 : ∀ q, (ords n (d + 1) q).length ≤ n ^ (d + 1) := fun q => by
      have := (ords_le n d q).2 n
      rw [Nat.pow_succ, Nat.mul_comm]; exact this
    refine ⟨h1 p, fun x => ?_⟩
    induction x with
    | zero => simp [ordN]
    | succ x ih =>
      rw [ordN_succ, List.length_append, Nat.succ_mul]
      have : (if x ∈ p then [] else ords n (d + 1) (p ++ [x])).length ≤ n ^ (d + 1) := by
        split
        · simp
        · exact h1 _
      omega
theorem pow5 {n d : Nat} (hn : n ≤ 5) (hd : d ≤ 5) : n ^ d ≤ 3125 := by
  have h1 : n ^ d ≤ 5 ^ d := Nat.pow_le_pow_left hn d
  have h2 : 5 ^ d ≤ 5 ^ 5 := Nat.pow_le_pow_right (by omega) hd
  omega
theorem ords_mem (n : Nat) : ∀ (d : Nat) (p : List Nat), (∀ x ∈ p, x < n) → ∀ f ∈ ords n d p, f.length = p.length + d ∧ ∀ x ∈ f, x < n
  | 0, p, hp, f, hf => by
    simp only [ords, List.mem_singleton] at hf
    subst hf; exact ⟨rfl, hp⟩
  | d + 1, p, hp, f, hf => by
    simp only [ords, List.mem_flatten, List.mem_map, List.mem_range] at hf
    obtain ⟨l, ⟨q, hq, rfl⟩, hf⟩ := hf
    split at hf
    · simp at hf
    · obtain ⟨h1, h2⟩ := ords_mem n d (p ++ [q]) (fun x hx => by
        rcases List.mem_append.1 hx with hx | hx
        · exact hp x hx
        · simp at hx; omega) f hf
      exact ⟨by simp at h1; omega, h2⟩
/-- All lists of d numbers below n, in order. -/
def wds (n : Nat) : Nat → List (List Nat)
  | 0 => [[]]
  | d + 1 => ((List.range n).map fun q => (wds n d).map (q :: ·)).flatten
theorem dg_mod (n : Nat) (hn : 1 ≤ n) : ∀ (d k q : Nat), dg n d (q * n ^ d + k) = dg n d k
  | 0, k, q => rfl
  | d + 1, k, q => by
    have hp : 0 < n ^ d := Nat.pow_pos hn
    have e : q * n ^ (d + 1) + k = (q * n) * n ^ d + k := by rw [Nat.pow_succ, Nat.mul_assoc, Nat.mul_comm n]
    simp only [dg]
    rw [e, dg_mod n hn d k (q * n)]
    congr 1
    rw [Nat.add_comm, Nat.add_mul_div_right _ _ hp, Nat.add_mul_mod_self_right]
theorem range_mul (a b : Nat) : List.range (a * b) = ((List.range a).map fun q => (List.range b).map fun k => q * b + k).flatten := by
  induction a with
  | zero => simp
  | succ a ih =>
    rw [Nat.succ_mul, List.range_add, ih, List.range_succ, List.map_append, List.flatten_append]
    simp
theorem wds_dg (n : Nat) (hn : 1 ≤ n) : ∀ d, (List.range (n ^ d)).map (dg n d) = wds n d
  | 0 => rfl
  | d + 1 => by
    have hp : 0 < n ^ d := Nat.pow_pos hn
    rw [Nat.pow_succ, Nat.mul_comm, range_mul, wds, ← wds_dg n hn d, List.map_flatten, List.map_map]
    congr 1
    refine List.map_congr_left fun q hq => ?_
    rw [List.mem_range] at hq
    simp only [Function.comp_def, List.map_map]
    refine List.map_congr_left fun k hk => ?_
    rw [List.mem_range] at hk
    show dg n (d + 1) (q * n ^ d + k) = q :: dg n d k
    simp only [dg]
    rw [dg_mod n hn d k q, Nat.add_comm, Nat.add_mul_div_right _ _ hp, Nat.div_eq_of_lt hk, Nat.zero_add, Nat.mod_eq_of_lt hq]
theorem ords_wds (n : Nat) : ∀ (d : Nat) (p : List Nat), p.Nodup → ords n d p = ((wds n d).map (p ++ ·)).filter fun f => decide f.Nodup
  | 0, p, hp => by simp [ords, wds, hp]
  | d + 1, p, hp => by
    simp only [ords, wds]
    rw [List.map_flatten, List.filter_flatten, List.map_map, List.map_map]
    congr 1
    refine List.map_congr_left fun q _ => ?_
    have e : List.map (fun x => p ++ x) (List.map (fun x => q :: x) (wds n d)) = (wds n d).map ((p ++ [q]) ++ ·) := by
      rw [List.map_map]
      exact List.map_congr_left fun x _ => by simp
    simp only [Function.comp_def]
    rw [e]
    split
    · rename_i hq
      symm
      rw [List.filter_eq_nil_iff]
      intro f hf
      obtain ⟨x, _, rfl⟩ := List.mem_map.1 hf
      simp only [decide_eq_true_eq]
      intro hnd
      rw [List.append_assoc, List.nodup_append] at hnd
      exact hnd.2.2 q hq q (by simp) rfl
    · rename_i hq
      exact ords_wds n d _ (by
        rw [List.nodup_append]
        refine ⟨hp, by simp, fun x hx y hy => ?_⟩
        simp only [List.mem_singleton] at hy
        subst hy
        exact fun e => hq (e ▸ hx))
/-- The permutations of n points, in order. -/
def prm (n : Nat) : List (List Nat) := (allM n).filter fun f => decide f.Nodup
theorem ords_all (n : Nat) (hn : 1 ≤ n) : ords n n [] = prm n := by
  rw [ords_wds n n [] .nil, ← wds_dg n hn n]
  simp [prm, allM, Function.comp_def]
theorem known_take {p : List Nat} {q x : Nat} (h : x < p.length) : (decide (q ∈ p.take x) || decide (p.getD x 0 = q)) = decide (q ∈ p.take (x + 1)) := by
  rw [List.take_succ_eq_append_getElem h, List.getD_eq_getElem?_getD, List.getElem?_eq_getElem h]
  rw [Bool.eq_iff_iff]
  simp only [Bool.or_eq_true, decide_eq_true_eq, List.mem_append, List.mem_singleton, Option.getD_some]
  exact ⟨fun h => h.imp id Eq.symm, fun h => h.imp id Eq.symm⟩
theorem Imm.refa' {σ : Heap} {id ver k : Nat} {e : TypeId} {n : Nat} {l : List (List Int)} (h : σ[id]? = some (.arr ver e n (aggs l))) (hk : k = l.length) : Imm σ (.ref id ver 0 k) (.list (aggs l)) := hk ▸ Imm.refa h
theorem p81 (n : Nat) (hn : 1 ≤ n) (h5 : n ≤ 5) : ∀ (d : Nat) (p : List Nat), p.length + d = n → (∀ x ∈ p, x < n) →
    Pure Tryz.prog 81 [.int .i64 n, .list (ints (p.map fun x : Nat => (x : Int)))] (.list (aggs ((ords n d p).map mp))) := by
  intro d
  induction d with
  | zero =>
    intro p hp hpx
    have h6 : (mp p).length = 6 := mpN_length (by omega)
    refine e81 (by simp) fun _ _ => ?_
    simp only [k81, argEnv, List.length_map, take6, List.drop_zero, Int.cast_ofNat_Int, go_sem, ↓reduceIte, Nat.reduceEqDiff, Nat.reduceAdd, Nat.reduceMul, Nat.reduceLeDiff, Nat.reduceLT, Int.reduceLE, Int.reduceLT, reduceCtorEq]
    refine ⟨fun _ => ?_, fun h => absurd h (by omega)⟩
    refine (p116 p (by omega)).go ?_
    try simp only [h6, take6, List.drop_zero, Int.cast_ofNat_Int, go_sem, ↓reduceIte, Nat.reduceEqDiff, Nat.reduceAdd, Nat.reduceMul, Nat.reduceLeDiff, Nat.reduceLT, Int.reduceLE, Int.reduceLT, reduceCtorEq]
    exact Kv.Fin.freeze (Imm.refa (l := [mp p]) rfl) ⟨by simp [ords], rfl⟩
  | succ d ihd =>
    intro p hp hpx
    refine e81 (by simp) fun _ _ => ?_
    simp only [k81, argEnv, List.length_map, take6, List.drop_zero, Int.cast_ofNat_Int, go_sem, ↓reduceIte, Nat.reduceEqDiff, Nat.reduceAdd, Nat.reduceMul, Nat.reduceLeDiff, Nat.reduceLT, Int.reduceLE, Int.reduceLT, reduceCtorEq]
    refine ⟨fun h => absurd h (by omega), fun _ => ?_⟩
    refine KL_indD k81_b1.eq_1 (fun x : Nat × Nat => [(0, .int .i64 n), (1, .list (ints (p.map fun x : Nat => (x : Int)))), (5, .ref 0 x.2 0 (ordN n d p x.1).length), (6, .int .i64 x.1)]) (fun x => [.arr x.2 34 6 (aggs ((ordN n d p x.1).map mp))]) (fun x => x.1 ≤ n) (fun x => n - x.1) [0, 1, 5, 6] (0, 0) (by simp [keep, ordN]) ⟨[], by simp [ordN, aggs]⟩ (Nat.zero_le _) (fun x hx => ?_) fun ⟨x, ver⟩ hx ih => ?_
    · exact ⟨Nat.zero_le _, Env.undr_upto (by simp [Env.undr, PV.undr, undrX_ints]), .cons (by simp [AObj.undr, undrX_aggs]) (.nil _)⟩
    simp only at hx
    have hle := (ords_le n d p).2 (x + 1)
    have hpw : (x + 1) * n ^ d ≤ 6 * 3125 := Nat.mul_le_mul (by omega) (pow5 h5 (by omega))
    have hsx := ordN_succ n d p x
    try simp only [List.length_map, take6, List.drop_zero, Int.cast_ofNat_Int, go_sem, ↓reduceIte, Nat.reduceEqDiff, Nat.reduceAdd, Nat.reduceMul, Nat.reduceLeDiff, Nat.reduceLT, Int.reduceLE, Int.reduceLT, reduceCtorEq]
    refine ⟨fun h1 => ?_, fun h1 => ?_⟩
    · have hxn : x < n := by omega
      refine KL_ind k81_b0.eq_1 (fun y : Nat => [(0, .int .i64 n), (1, .list (ints (p.map fun x : Nat => (x : Int)))), (5, .ref 0 ver 0 (ordN n d p x).length), (6, .int .i64 x), (7, .bool (decide (x ∈ p.take y))), (8, .int .i64 y)]) (fun _ => [.arr ver 34 6 (aggs ((ordN n d p x).map mp))]) (fun y => y ≤ p.length) (fun y => p.length - y) [0, 1, 5, 6, 7, 8] 0 (by simp [keep]) rfl (Nat.zero_le _) fun y hy ihy => ?_
      cases hk : decide (x ∈ p.take y) with
      | true =>
        try simp only [List.length_map, natD, take6, List.drop_zero, Int.cast_ofNat_Int, go_sem, ↓reduceIte, Nat.reduceEqDiff, Nat.reduceAdd, Nat.reduceMul, Nat.reduceLeDiff, Nat.reduceLT, Int.reduceLE, Int.reduceLT, reduceCtorEq]
        refine ⟨fun h2 => ⟨by omega, ?_⟩, fun h2 => ⟨by omega, ?_⟩⟩
        · have hkt := known_take (p := p) (q := x) (x := y) (by omega)
          rw [hk, Bool.true_or] at hkt
          exact ihy (y + 1) (by omega) (by omega) _ _ (by simp [keep, ← hkt]) rfl
        · obtain rfl : y = p.length := by omega
          rw [List.take_length] at hk
          have hm : x ∈ p := by simpa using hk
          rw [if_pos hm, List.append_nil] at hsx
          exact ih (x + 1, ver) (by show x + 1 ≤ n; omega) (by show n - (x + 1) < n - x; omega) _ _ (by simp [keep, hsx]) ⟨[], by simp [hsx]⟩
      | false =>
        try simp only [List.length_map, natD, take6, List.drop_zero, Int.cast_ofNat_Int, go_sem, ↓reduceIte, Nat.reduceEqDiff, Nat.reduceAdd, Nat.reduceMul, Nat.reduceLeDiff, Nat.reduceLT, Int.reduceLE, Int.reduceLT, reduceCtorEq]
        refine ⟨fun h2 => ?_, fun h2 => ?_⟩
        · have hkt := known_take (p := p) (q := x) (x := y) (by omega)
          rw [hk, Bool.false_or] at hkt
          exact ⟨by omega, fun _ => ⟨by omega, ihy (y + 1) (by omega) (by omega) _ _ (by simp [keep, ← hkt, Int.natCast_inj]) rfl⟩⟩
        · obtain rfl : y = p.length := by omega
          rw [List.take_length] at hk
          have hm : x ∉ p := by simpa using hk
          rw [if_neg hm] at hsx
          refine (p141 (p.map fun x : Nat => (x : Int)) (by simp; omega)).go fun v s ⟨hv, hs⟩ => ?_
          subst hv; subst hs
          try simp only [ren_ref, List.length_map, take6, List.drop_zero, Int.cast_ofNat_Int, go_sem, ↓reduceIte, Nat.reduceEqDiff, Nat.reduceAdd, Nat.reduceMul, Nat.reduceLeDiff, Nat.reduceLT, Int.reduceLE, Int.reduceLT, reduceCtorEq]
          have hmp : List.take p.length (p.map fun x : Nat => (x : Int)) ++ [(x : Int)] = (p ++ [x]).map fun x : Nat => (x : Int) := by
            rw [List.take_of_length_le (by simp)]; simp
          rw [hmp]
          have hq : ∀ y ∈ p ++ [x], y < n := fun y hy => by
            rcases List.mem_append.1 hy with hy | hy
            · exact hpx y hy
            · simp at hy; omega
          have hok : okL 6 (aggs ((ords n d (p ++ [x])).map mp)) = True := by
            rw [okL_aggs, eq_iff_iff, iff_true]
            intro m hm
            obtain ⟨f, hf, rfl⟩ := List.mem_map.1 hm
            have := (ords_mem n d _ hq f hf).1
            exact mpN_length (by simp at this; omega)
          refine ⟨by omega, (ihd (p ++ [x]) (by simp; omega) hq).give (id := 1) rfl (.cons Imm.still (.cons (Imm.refn (solo_get rfl) (by simp)) (.nil _))) ?_⟩
          rw [hsx, List.length_append] at hle
          try simp only [hok, List.length_map, take6, List.drop_zero, Int.cast_ofNat_Int, go_sem, ↓reduceIte, Nat.reduceEqDiff, Nat.reduceAdd, Nat.reduceMul, Nat.reduceLeDiff, Nat.reduceLT, Int.reduceLE, Int.reduceLT, reduceCtorEq]
          refine ⟨by omega, by omega, ih (x + 1, ver + 1) (by show x + 1 ≤ n; omega) (by show n - (x + 1) < n - x; omega) _ _ (by simp [keep, hsx]) ⟨[.dead], ?_⟩⟩
          rw [hsx, List.map_append, List.take_of_length_le (by simp)]; rfl
    · obtain rfl : x = n := by omega
      exact Kv.Fin.freeze (Imm.refa' (l := (ordN x d p x).map mp) rfl (by simp)) ⟨rfl, rfl⟩
theorem wds_mem (n : Nat) : ∀ f : List Nat, (∀ x ∈ f, x < n) → f ∈ wds n f.length
  | [], _ => by simp [wds]
  | a :: f, h => by
    simp only [List.length_cons, wds, List.mem_flatten, List.mem_map, List.mem_range]
    exact ⟨_, ⟨a, h a (by simp), rfl⟩, List.mem_map.2 ⟨f, wds_mem n f fun x hx => h x (by simp [hx]), rfl⟩⟩
theorem allM_mem {n : Nat} (hn : 1 ≤ n) {f : List Nat} (hl : f.length = n) (h : ∀ x ∈ f, x < n) : f ∈ allM n := by
  have := wds_mem n f h
  rw [hl, ← wds_dg n hn n] at this
  exact this
theorem range_prm {n : Nat} (hn : 1 ≤ n) : List.range n ∈ prm n := by
  rw [prm, List.mem_filter]
  exact ⟨allM_mem hn (by simp) (by simp), by simpa using List.nodup_range⟩
theorem prm_ok {n : Nat} (h1 : 1 ≤ n) (h5 : n ≤ 5) {g : List Nat} (h : g ∈ prm n) : Ok g n := by
  have h := (List.mem_filter.1 h).1
  simp only [allM, List.mem_map] at h
  obtain ⟨k, _, rfl⟩ := h
  exact dg_ok h1 h5 k
theorem prm_len {n : Nat} (h1 : 1 ≤ n) (h5 : n ≤ 5) : (prm n).length ≤ 3125 := by
  have h := List.length_filter_le (fun f : List Nat => decide f.Nodup) (allM n)
  have h2 : (allM n).length = n ^ n := by simp [allM]
  have h3 := nn_le n (by omega)
  simp only [prm]; omega
end Go.Proofs.YtpfapiiinkkcgaaGreat
