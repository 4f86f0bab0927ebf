/- Tables: their size, their copies, their equality. -/
import Derived.Test.YtpepbomifjbgnaaCb
import Derived.Test.YtpepbomifjbgnaaB
import Derived.Test.YtpepbomifjbgnaaMk
namespace Go.Proofs.Ytpepbomifjbgnaa
open Go.Kv
set_option maxRecDepth 100000
/- laws.szInt64SS -/
/- live [0, 1, 5] -/
def k12_b0 : KC := (.seq (.seq (.ops [⟨(some 12), none, .mv (.t 5)⟩, ⟨(some 13), none, .mv (.t 0)⟩, ⟨(some 14), none, .len false (.t 13)⟩, ⟨(some 15), none, .bin .lss (.t 12) (.t 14)⟩])
  (.cond (.t 15) .skip (.exit 0)))
  (.seq (.block 1 (.seq (.ops [⟨(some 18), none, .mv (.t 0)⟩, ⟨(some 19), none, .mv (.t 5)⟩, ⟨(some 20), none, .idxS 1 (.t 18) (.t 19)⟩, ⟨(some 21), none, .load false 1 (.t 20)⟩, ⟨(some 22), none, .mv (.t 1)⟩, ⟨(some 23), none, .call (.c (.fn (.func 43) [] [])) [(.t 21), (.t 22)]⟩, ⟨(some 1), none, .mv (.t 23)⟩])
  (.seq (.ops [⟨(some 24), none, .mv (.t 1)⟩, ⟨(some 25), none, .bin .lss (.t 24) (.c (.int .i64 0))⟩])
  (.cond (.t 25) (.seq (.ops [⟨(some 4), none, .mv (.c (.int .i64 (-1)))⟩])
  .ret) .skip))))
  (.ops [⟨(some 16), none, .mv (.t 5)⟩, ⟨(some 17), none, .bin .add (.t 16) (.c (.int .i64 1))⟩, ⟨(some 5), none, .mv (.t 17)⟩])))
def k12 : KC := (.seq (.ops [⟨(some 4), none, .mv (.c (.int .i64 0))⟩])
  (.seq (.ops [⟨(some 6), none, .mv (.t 1)⟩, ⟨(some 7), none, .mv (.t 0)⟩, ⟨(some 8), none, .len false (.t 7)⟩, ⟨(some 9), none, .bin .sub (.t 6) (.t 8)⟩, ⟨(some 1), none, .mv (.t 9)⟩])
  (.seq (.seq (.ops [⟨(some 10), none, .mv (.t 1)⟩, ⟨(some 11), none, .bin .lss (.t 10) (.c (.int .i64 0))⟩])
  (.cond (.t 11) (.seq (.ops [⟨(some 4), none, .mv (.c (.int .i64 (-1)))⟩])
  .ret) .skip))
  (.seq (.seq (.ops [⟨(some 5), none, .mv (.c (.int .i64 0))⟩])
  (.block 0 (.loop k12_b0)))
  (.seq (.ops [⟨(some 26), none, .mv (.t 1)⟩, ⟨(some 4), none, .mv (.t 26)⟩])
  .ret)))))
theorem e12 {args : List PV} {σ : Heap} {K : PV → Heap → Prop} (hl : args.length ≤ 27) (h : Wf σ → (∀ a ∈ args, PV.upto σ.length a) → vc (mkCfg Try.prog mixed [] 27 σ.length) k12 (FinK σ.length [.t 4] K) (argEnv 0 args) σ) : ACall Try.prog 12 args σ K :=
  ACall_enter (C := mkCfg Try.prog mixed [] 27 σ.length) (c := Try.f12.body.getD .skip) Try.func12 (by kernel_rfl) (by kernel_rfl) (by kernel_rfl) rfl hl (by kernel_rfl) (by kernel_rfl) h
/- laws.toInt64SS -/
/- live [0, 3, 4] -/
def k14_b0 : KC := (.seq (.seq (.ops [⟨(some 8), none, .mv (.t 4)⟩, ⟨(some 9), none, .mv (.t 0)⟩, ⟨(some 10), none, .len false (.t 9)⟩, ⟨(some 11), none, .bin .lss (.t 8) (.t 10)⟩])
  (.cond (.t 11) .skip (.exit 0)))
  (.seq (.block 1 (.ops [⟨(some 14), none, .mv (.t 3)⟩, ⟨(some 15), none, .mv (.t 4)⟩, ⟨(some 16), none, .mv (.t 0)⟩, ⟨(some 17), none, .mv (.t 4)⟩, ⟨(some 18), none, .idxS 1 (.t 16) (.t 17)⟩, ⟨(some 19), none, .load false 1 (.t 18)⟩, ⟨(some 20), none, .call (.c (.fn (.func 15) [] [])) [(.t 19)]⟩, ⟨(some 21), none, .idxS 1 (.t 14) (.t 15)⟩, ⟨none, none, .store 1 (.t 21) (.t 20)⟩]))
  (.ops [⟨(some 12), none, .mv (.t 4)⟩, ⟨(some 13), none, .bin .add (.t 12) (.c (.int .i64 1))⟩, ⟨(some 4), none, .mv (.t 13)⟩])))
def k14 : KC := (.seq (.ops [⟨(some 2), none, .mv (.c (.nils))⟩])
  (.seq (.ops [⟨(some 5), none, .mv (.t 0)⟩, ⟨(some 6), none, .len false (.t 5)⟩, ⟨(some 7), none, .mks 23 1 (.nils) (.t 6) (.t 6)⟩, ⟨(some 3), none, .mv (.t 7)⟩])
  (.seq (.seq (.ops [⟨(some 4), none, .mv (.c (.int .i64 0))⟩])
  (.block 0 (.loop k14_b0)))
  (.seq (.ops [⟨(some 22), none, .mv (.t 3)⟩, ⟨(some 2), none, .mv (.t 22)⟩])
  .ret))))
theorem e14 {args : List PV} {σ : Heap} {K : PV → Heap → Prop} (hl : args.length ≤ 23) (h : Wf σ → (∀ a ∈ args, PV.upto σ.length a) → vc (mkCfg Try.prog mixed [] 23 σ.length) k14 (FinK σ.length [.t 2] K) (argEnv 0 args) σ) : ACall Try.prog 14 args σ K :=
  ACall_enter (C := mkCfg Try.prog mixed [] 23 σ.length) (c := Try.f14.body.getD .skip) Try.func14 (by kernel_rfl) (by kernel_rfl) (by kernel_rfl) rfl hl (by kernel_rfl) (by kernel_rfl) h
/- laws.eqInt64SS -/
/- live [0, 1, 5] -/
def k17_b0 : KC := (.seq (.seq (.ops [⟨(some 11), none, .mv (.t 5)⟩, ⟨(some 12), none, .mv (.t 0)⟩, ⟨(some 13), none, .len false (.t 12)⟩, ⟨(some 14), none, .bin .lss (.t 11) (.t 13)⟩])
  (.cond (.t 14) .skip (.exit 0)))
  (.seq (.block 1 (.seq (.draw [⟨(some 17), none, .mv (.t 0)⟩, ⟨(some 18), none, .mv (.t 5)⟩, ⟨(some 19), none, .idxS 1 (.t 17) (.t 18)⟩, ⟨(some 20), none, .load false 1 (.t 19)⟩, ⟨(some 21), none, .mv (.t 1)⟩, ⟨(some 22), none, .mv (.t 5)⟩, ⟨(some 23), none, .idxS 1 (.t 21) (.t 22)⟩, ⟨(some 24), none, .load false 1 (.t 23)⟩, ⟨(some 25), none, .pcall (.c (.fn (.func 18) [] [])) [(.t 20), (.t 24)]⟩, ⟨(some 26), none, .not (.t 25)⟩])
  (.cond (.t 26) (.seq (.ops [⟨(some 4), none, .mv (.c (.bool false))⟩])
  .ret) .skip)))
  (.ops [⟨(some 15), none, .mv (.t 5)⟩, ⟨(some 16), none, .bin .add (.t 15) (.c (.int .i64 1))⟩, ⟨(some 5), none, .mv (.t 16)⟩])))
def k17 : KC := (.seq (.ops [⟨(some 4), none, .mv (.c (.bool false))⟩])
  (.seq (.seq (.ops [⟨(some 6), none, .mv (.t 0)⟩, ⟨(some 7), none, .len false (.t 6)⟩, ⟨(some 8), none, .mv (.t 1)⟩, ⟨(some 9), none, .len false (.t 8)⟩, ⟨(some 10), none, .bin .neq (.t 7) (.t 9)⟩])
  (.cond (.t 10) (.seq (.ops [⟨(some 4), none, .mv (.c (.bool false))⟩])
  .ret) .skip))
  (.seq (.seq (.ops [⟨(some 5), none, .mv (.c (.int .i64 0))⟩])
  (.block 0 (.loop k17_b0)))
  (.seq (.ops [⟨(some 4), none, .mv (.c (.bool true))⟩])
  .ret))))
theorem e17 {args : List PV} {σ : Heap} {K : PV → Heap → Prop} (hl : args.length ≤ 27) (h : Wf σ → (∀ a ∈ args, PV.upto σ.length a) → vc (mkCfg Try.prog mixed [] 27 σ.length) k17 (FinK σ.length [.t 4] K) (argEnv 0 args) σ) : ACall Try.prog 17 args σ K :=
  ACall_enter (C := mkCfg Try.prog mixed [] 27 σ.length) (c := Try.f17.body.getD .skip) Try.func17 (by kernel_rfl) (by kernel_rfl) (by kernel_rfl) rfl hl (by kernel_rfl) (by kernel_rfl) h
/- laws.szInt64S -/
def k43 : KC := (.seq (.ops [⟨(some 4), none, .mv (.c (.int .i64 0))⟩])
  (.seq (.ops [⟨(some 5), none, .mv (.t 1)⟩, ⟨(some 6), none, .mv (.t 0)⟩, ⟨(some 7), none, .len false (.t 6)⟩, ⟨(some 8), none, .bin .sub (.t 5) (.t 7)⟩, ⟨(some 1), none, .mv (.t 8)⟩])
  (.seq (.seq (.ops [⟨(some 9), none, .mv (.t 1)⟩, ⟨(some 10), none, .bin .lss (.t 9) (.c (.int .i64 0))⟩])
  (.cond (.t 10) (.seq (.ops [⟨(some 4), none, .mv (.c (.int .i64 (-1)))⟩])
  .ret) .skip))
  (.seq (.ops [⟨(some 11), none, .mv (.t 1)⟩, ⟨(some 4), none, .mv (.t 11)⟩])
  .ret))))
theorem e43 {args : List PV} {σ : Heap} {K : PV → Heap → Prop} (hl : args.length ≤ 12) (h : Wf σ → (∀ a ∈ args, PV.upto σ.length a) → vc (mkCfg Try.prog mixed [] 12 σ.length) k43 (FinK σ.length [.t 4] K) (argEnv 0 args) σ) : ACall Try.prog 43 args σ K :=
  ACall_enter (C := mkCfg Try.prog mixed [] 12 σ.length) (c := Try.f43.body.getD .skip) Try.func43 (by kernel_rfl) (by kernel_rfl) (by kernel_rfl) rfl hl (by kernel_rfl) (by kernel_rfl) h
/- laws.toInt64S -/
/- live [0, 3, 4] -/
def k15_b0 : KC := (.seq (.seq (.ops [⟨(some 8), none, .mv (.t 4)⟩, ⟨(some 9), none, .mv (.t 0)⟩, ⟨(some 10), none, .len false (.t 9)⟩, ⟨(some 11), none, .bin .lss (.t 8) (.t 10)⟩])
  (.cond (.t 11) .skip (.exit 0)))
  (.seq (.block 1 (.ops [⟨(some 14), none, .mv (.t 3)⟩, ⟨(some 15), none, .mv (.t 4)⟩, ⟨(some 16), none, .mv (.t 0)⟩, ⟨(some 17), none, .mv (.t 4)⟩, ⟨(some 18), none, .idxS 1 (.t 16) (.t 17)⟩, ⟨(some 19), none, .load false 1 (.t 18)⟩, ⟨(some 20), none, .idxS 1 (.t 14) (.t 15)⟩, ⟨none, none, .store 1 (.t 20) (.t 19)⟩]))
  (.ops [⟨(some 12), none, .mv (.t 4)⟩, ⟨(some 13), none, .bin .add (.t 12) (.c (.int .i64 1))⟩, ⟨(some 4), none, .mv (.t 13)⟩])))
def k15 : KC := (.seq (.ops [⟨(some 2), none, .mv (.c (.nils))⟩])
  (.seq (.ops [⟨(some 5), none, .mv (.t 0)⟩, ⟨(some 6), none, .len false (.t 5)⟩, ⟨(some 7), none, .mks 2 1 (.int .i64 0) (.t 6) (.t 6)⟩, ⟨(some 3), none, .mv (.t 7)⟩])
  (.seq (.seq (.ops [⟨(some 4), none, .mv (.c (.int .i64 0))⟩])
  (.block 0 (.loop k15_b0)))
  (.seq (.ops [⟨(some 21), none, .mv (.t 3)⟩, ⟨(some 2), none, .mv (.t 21)⟩])
  .ret))))
theorem e15 {args : List PV} {σ : Heap} {K : PV → Heap → Prop} (hl : args.length ≤ 22) (h : Wf σ → (∀ a ∈ args, PV.upto σ.length a) → vc (mkCfg Try.prog mixed [] 22 σ.length) k15 (FinK σ.length [.t 2] K) (argEnv 0 args) σ) : ACall Try.prog 15 args σ K :=
  ACall_enter (C := mkCfg Try.prog mixed [] 22 σ.length) (c := Try.f15.body.getD .skip) Try.func15 (by kernel_rfl) (by kernel_rfl) (by kernel_rfl) rfl hl (by kernel_rfl) (by kernel_rfl) h
end Go.Proofs.Ytpepbomifjbgnaa
namespace Go.Proofs.Ytpepbomifjbgnaa
open Go.Kv
set_option linter.unusedVariables false
set_option linter.unusedSimpArgs false
attribute [local irreducible] ACall PCall KL
theorem p43 (l : List Int) (k : Int) (hl : l.length ≤ 9223372036854775807) (hk : 0 ≤ k ∧ k ≤ 4294967296) : Pure Try.prog 43 [.list (ints l), .int .i64 k] (.int .i64 (if k - l.length < 0 then -1 else k - l.length)) := by
  refine e43 (by simp) fun _ _ => ?_
  simp only [k43, argEnv, go_sem, ↓reduceIte, Nat.reduceEqDiff, Nat.reduceAdd, reduceCtorEq]
  repeat' (first | refine And.intro ?_ ?_ | intro _)
  all_goals (try omega)
  · rename_i h
    exact Kv.Fin.now ⟨by rw [if_pos h], rfl⟩
  · rename_i h
    exact Kv.Fin.now ⟨by rw [if_neg h], rfl⟩
/-- What is left of k behind the rows. -/
def szR : List (List Int) → Int → Int
  | [], k => k
  | r :: t, k => if k - r.length < 0 then -1 else szR t (k - r.length)
theorem szR_le : ∀ (t : List (List Int)) (k : Int), 0 ≤ k → szR t k ≤ k
  | [], k, h => by simp [szR]
  | r :: t, k, h => by
    simp only [szR]
    split
    · omega
    · have := szR_le t (k - r.length) (by omega); omega
theorem szR_rows : ∀ (t : List (List Int)) (k : Int), 0 ≤ k → 0 ≤ szR t k → ∀ r ∈ t, (r.length : Int) ≤ k
  | [], k, h, h', r, hr => by simp at hr
  | a :: t, k, h, h', r, hr => by
    simp only [szR] at h'
    split at h'
    · omega
    · rcases List.mem_cons.1 hr with rfl | hr
      · omega
      · have := szR_rows t (k - a.length) (by omega) h' r hr; omega
def szT (t : List (List Int)) (k : Int) : Int := if k - t.length < 0 then -1 else szR t (k - t.length)
theorem rows_getD_len {t : List (List Int)} {x : Nat} (h : x < t.length) : t.getD x [] ∈ t := by
  rw [List.getD_eq_getElem?_getD, List.getElem?_eq_getElem h]; exact List.getElem_mem h
theorem drop_getD {t : List (List Int)} {x : Nat} (h : x < t.length) : t.drop x = t.getD x [] :: t.drop (x + 1) := by
  rw [List.drop_eq_getElem_cons h, List.getD_eq_getElem?_getD, List.getElem?_eq_getElem h]; rfl
theorem p12 (t : List (List Int)) (k : Int) (ht : t.length ≤ 9223372036854775807) (hl : ∀ r ∈ t, r.length ≤ 9223372036854775807) (hk : 0 ≤ k ∧ k ≤ 4294967296) : Pure Try.prog 12 [.list (rows t), .int .i64 k] (.int .i64 (szT t k)) := by
  refine e12 (by simp) fun _ _ => ?_
  simp only [k12, argEnv, go_sem, ↓reduceIte, Nat.reduceEqDiff, Nat.reduceAdd, reduceCtorEq]
  repeat' (first | refine And.intro ?_ ?_ | intro _)
  all_goals (try omega)
  · rename_i h
    exact Kv.Fin.now ⟨by rw [szT, if_pos h], rfl⟩
  · rename_i h
    refine KL_ind k12_b0.eq_1 (fun x : Nat × Int => [(5, .int .i64 x.1), (0, .list (rows t)), (1, .int .i64 x.2)]) (fun _ => []) (fun x => x.1 ≤ t.length ∧ (0 ≤ x.2 ∧ x.2 ≤ 4294967296) ∧ szR (t.drop x.1) x.2 = szT t k) (fun x => t.length - x.1) [5, 0, 1] (0, k - t.length) (by simp [keep]) rfl ⟨Nat.zero_le _, by omega, by simp [szT, h]⟩ fun ⟨x, q⟩ ⟨hx, hq, hs⟩ ih => ?_
    simp only at hx hq hs
    simp only [go_sem, ↓reduceIte, Nat.reduceEqDiff, Nat.reduceAdd, reduceCtorEq]
    refine ⟨fun h1 => ⟨by omega, fun h2 => ?_⟩, fun h1 => ?_⟩
    · have hm := hl _ (rows_getD_len h2)
      refine (p43 (t.getD x []) q hm hq).use (.int _ _) (.cons (.listi _ _) (.cons (.int _ _ _) (.nil _))) ?_
      rw [drop_getD h2] at hs
      simp only [szR] at hs
      simp only [go_sem, ↓reduceIte, Nat.reduceEqDiff, Nat.reduceAdd, reduceCtorEq]
      by_cases h3 : q - (t.getD x []).length < 0
      · rw [if_pos h3] at hs ⊢
        repeat' (first | refine And.intro ?_ ?_ | intro _)
        all_goals (try omega)
        exact Kv.Fin.now ⟨by rw [← hs], rfl⟩
      · rw [if_neg h3] at hs ⊢
        repeat' (first | refine And.intro ?_ ?_ | intro _)
        all_goals (try omega)
        exact ih (x + 1, q - (t.getD x []).length) ⟨(by omega : x + 1 ≤ t.length), ⟨(by omega : 0 ≤ q - (t.getD x []).length), (by omega : q - (t.getD x []).length ≤ 4294967296)⟩, hs⟩ (by show t.length - (x + 1) < t.length - x; omega) _ _ (by simp [keep]) rfl
    · obtain rfl : x = t.length := by omega
      simp only [List.drop_length, szR] at hs
      exact Kv.Fin.now ⟨by rw [hs], rfl⟩
/-- A new copy, frozen. -/
theorem p15 (l : List Int) (hl : l.length ≤ 1048576) : ACall Try.prog 15 [.list (ints l)] [] (fun v s => v = .list (ints l) ∧ s = []) := by
  refine e15 (by simp) fun _ _ => ?_
  simp only [k15, argEnv, go_sem, ↓reduceIte, Nat.reduceEqDiff, Nat.reduceAdd, reduceCtorEq]
  refine ⟨by omega, ?_⟩
  refine KL_ind k15_b0.eq_1 (fun x : Nat => [(4, .int .i64 x), (3, .ref 0 0 0 l.length), (0, .list (ints l))]) (fun x => [.arr 0 2 1 (ints (l.take x ++ List.replicate (l.length - x) 0))]) (fun x => x ≤ l.length) (fun x => l.length - x) [4, 3, 0] 0 (by simp [keep]) (by simp) (Nat.zero_le _) fun x hi ih => ?_
  simp only [go_sem, ↓reduceIte, Nat.reduceEqDiff, Nat.reduceAdd, reduceCtorEq]
  repeat' (first | refine And.intro ?_ ?_ | intro _)
  all_goals (try simp only [List.length_append, List.length_take, List.length_replicate])
  all_goals (try omega)
  · rw [copy_step (by omega)]
    exact ih (x + 1) (by omega) (by omega) _ _ (by simp [keep]) rfl
  · obtain rfl : x = l.length := by omega
    have e : l.take l.length ++ List.replicate (l.length - l.length) 0 = l := by simp
    rw [e]
    exact Kv.Fin.freeze (.refn (l := l) rfl rfl) ⟨rfl, rfl⟩
/-- The rows that are copied so far. -/
def rowsN (t : List (List Int)) (x : Nat) : List PV := rows (t.take x) ++ List.replicate (t.length - x) .nils
theorem rowsN_step {t : List (List Int)} {x : Nat} (h : x < t.length) : (rowsN t x).set x (.list (ints (t.getD x []))) = rowsN t (x + 1) := by
  unfold rowsN
  have e : t.length - x = (t.length - (x + 1)) + 1 := by omega
  have hm : min x t.length = x := by omega
  rw [e, List.replicate_succ, List.set_append_right _ _ (by rw [rows_length, List.length_take]; omega), rows_length, List.length_take, hm, Nat.sub_self, List.set_cons_zero, List.take_succ_eq_append_getElem h, List.getD_eq_getElem?_getD, List.getElem?_eq_getElem h, ← rows_snoc, List.append_assoc]
  rfl
theorem rowsN_length {t : List (List Int)} {x : Nat} (h : x ≤ t.length) : (rowsN t x).length = t.length := by
  simp [rowsN, rows_length]; omega
theorem rowsN_get {t : List (List Int)} {x : Nat} (h : x < t.length) : (rowsN t x)[x]? = some .nils := by
  unfold rowsN
  rw [List.getElem?_append_right (by rw [rows_length, List.length_take]; omega), rows_length, List.length_take, Nat.min_eq_left (by omega), Nat.sub_self]
  simp [List.getElem?_replicate]; omega
theorem Imm.refr {σ : Heap} {id ver n : Nat} {e : TypeId} {l : List (List Int)} (h : σ[id]? = some (.arr ver e 1 (rows l))) (hn : n = l.length) : Imm σ (.ref id ver 0 n) (.list (rows l)) := by
  subst hn
  exact .ref id ver 0 l.length e 1 (rows l) (rows l) h (by simp [rows_length]) (rows_length l)
    (fun i x d hx hd => by simp only [Nat.zero_add, hd, Option.some.injEq] at hx; subst hx; obtain ⟨y, _, rfl⟩ := rows_get hd; exact ⟨rfl, rfl⟩)
    (fun i x d j c c' hx hd hc hc' => by
      simp only [Nat.zero_add, hd, Option.some.injEq] at hx; subst hx
      obtain ⟨y, _, rfl⟩ := rows_get hd
      rw [hc] at hc'; cases hc'
      simp only [PV.cs] at hc
      have := List.mem_of_getElem? hc
      simp at this; subst this
      exact .listi _ _)
theorem p14 (t : List (List Int)) (ht : t.length ≤ 1048576) (hl : ∀ r ∈ t, r.length ≤ 1048576) : ACall Try.prog 14 [.list (rows t)] [] (fun v s => v = .list (rows t) ∧ s = []) := by
  refine e14 (by simp) fun _ _ => ?_
  simp only [k14, argEnv, go_sem, ↓reduceIte, Nat.reduceEqDiff, Nat.reduceAdd, reduceCtorEq]
  refine ⟨by omega, ?_⟩
  refine KL_ind k14_b0.eq_1 (fun x : Nat => [(4, .int .i64 x), (3, .ref 0 0 0 t.length), (0, .list (rows t))]) (fun x => [.arr 0 23 1 (rowsN t x)]) (fun x => x ≤ t.length) (fun x => t.length - x) [4, 3, 0] 0 (by simp [keep]) (by simp [rowsN, rows]) (Nat.zero_le _) fun x hi ih => ?_
  simp only [go_sem, ↓reduceIte, Nat.reduceEqDiff, Nat.reduceAdd, reduceCtorEq]
  refine ⟨fun h1 => ⟨by omega, fun h2 => ?_⟩, fun h1 => ?_⟩
  · refine (p15 (t.getD x []) (hl _ (rows_getD_len h2))).frame (up1 (upto_ints 0 _)) fun v s ⟨hv, hs⟩ => ?_
    subst hv; subst hs
    simp only [go_sem, ↓reduceIte, Nat.reduceEqDiff, Nat.reduceAdd, reduceCtorEq]
    have hn := rowsN_length (t := t) (x := x) (by omega)
    refine ⟨by omega, by omega, ?_⟩
    rw [rowsN_get h2]
    simp only [go_sem, ↓reduceIte, Nat.reduceEqDiff, Nat.reduceAdd, reduceCtorEq]
    refine ⟨by omega, by omega, ?_⟩
    rw [rowsN_step h2]
    exact ih (x + 1) (by omega) (by omega) _ _ (by simp [keep]) rfl
  · obtain rfl : x = t.length := by omega
    have e : rowsN t t.length = rows t := by simp [rowsN]
    rw [e]
    exact Kv.Fin.freeze (Imm.refr (l := t) rfl rfl) ⟨rfl, rfl⟩
theorem p17 (a b : List (List Int)) (ha : a.length ≤ 4294967296) (hb : b.length ≤ 4294967296) (hra : ∀ r ∈ a, r.length ≤ 4294967296) (hrb : ∀ r ∈ b, r.length ≤ 4294967296) : Pure Try.prog 17 [.list (rows a), .list (rows b)] (.bool (decide (a = b))) := by
  refine e17 (by simp) fun _ _ => ?_
  simp only [k17, argEnv, go_sem, ↓reduceIte, Nat.reduceEqDiff, Nat.reduceAdd, reduceCtorEq]
  refine ⟨fun h => Kv.Fin.now ⟨?_, rfl⟩, fun h => ?_⟩
  · have : a ≠ b := fun e => h (by rw [e])
    simp [this]
  · have hlen : a.length = b.length := by omega
    refine KL_ind k17_b0.eq_1 (fun x : Nat => [(5, .int .i64 x), (0, .list (rows a)), (1, .list (rows b))]) (fun _ => []) (fun x => x ≤ a.length ∧ a.take x = b.take x) (fun x => a.length - x) [5, 0, 1] 0 rfl rfl ⟨Nat.zero_le _, by simp⟩ fun x ⟨hi, ht⟩ ih => ?_
    simp only [go_sem, ↓reduceIte, Nat.reduceEqDiff, Nat.reduceAdd, reduceCtorEq]
    refine ⟨fun h1 => ⟨by omega, fun h2 => ⟨by omega, fun h3 => ?_⟩⟩, fun h1 => ?_⟩
    · refine (p18 _ _ (hra _ (rows_getD_len h2)) (hrb _ (rows_getD_len h3))).puse (.bool _) (.cons (.listi _ _) (.cons (.listi _ _) (.nil _))) ?_
      simp only [go_sem, ↓reduceIte, Nat.reduceEqDiff, Nat.reduceAdd, reduceCtorEq]
      repeat' (first | refine And.intro ?_ ?_ | intro _)
      all_goals (try omega)
      · rename_i h4
        have : a ≠ b := fun e => h4 (by rw [e])
        exact Kv.Fin.now ⟨by simp [this], rfl⟩
      · rename_i h4
        refine ih (x + 1) ⟨by omega, ?_⟩ (by omega) _ _ rfl rfl
        rw [List.take_succ_eq_append_getElem h2, List.take_succ_eq_append_getElem h3, ht]
        simp [List.getD_eq_getElem?_getD, h2, h3] at h4
        rw [h4]
    · obtain rfl : x = a.length := by omega
      have : a = b := by rw [List.take_length, hlen, List.take_length] at ht; exact ht
      exact Kv.Fin.now ⟨by simp [this], rfl⟩
end Go.Proofs.Ytpepbomifjbgnaa
