/- compareSets in the machine's own terms. -/
import Derived.RangeFuncBox
import Derived.RangeFuncLeaves
import Derived.Shelf.Abstract
import Derived.WalkKit
import Derived.OwnWalkIn
import Derived.TacticsInMore
import Derived.LoopNIn
import Derived.LoopIn
import Derived.Maps.AppendAt
import Derived.Test.YtpepbomifjbgnaaProg
namespace Go.Proofs.Ytpepbomifjbgnaa
open Go.RowKit Go.Shelf
set_option linter.unusedVariables false
set_option linter.unusedSimpArgs false
attribute [local go_sem] Oper.semAt_some
def cI (x y : Int) : Int := if x < y then -1 else if y < x then 1 else 0
/-- How slices.Compare compares. -/
def slc : List Int → List Int → Int
  | [], [] => 0
  | [], _ :: _ => -1
  | _ :: _, [] => 1
  | x :: xs, y :: ys => if x < y then -1 else if y < x then 1 else slc xs ys
theorem slc_drop {xs ys : List Int} {k : Nat} (h1 : k < xs.length) (h2 : k < ys.length) : slc (xs.drop k) (ys.drop k) = if (xs[k]?.getD 0) < (ys[k]?.getD 0) then -1 else if (ys[k]?.getD 0) < (xs[k]?.getD 0) then 1 else slc (xs.drop (k + 1)) (ys.drop (k + 1)) := by
  rw [List.drop_eq_getElem_cons h1, List.drop_eq_getElem_cons h2, slc]
  simp [h1, h2]
theorem slc_short {xs ys : List Int} {k : Nat} (h1 : k < xs.length) (h2 : ys.length ≤ k) : slc (xs.drop k) (ys.drop k) = 1 := by
  rw [List.drop_eq_getElem_cons h1, List.drop_of_length_le h2, slc]
theorem slc_end (xs ys : List Int) : slc (xs.drop xs.length) (ys.drop xs.length) = if xs.length < ys.length then -1 else 0 := by
  rw [List.drop_length]
  split
  · rename_i h; rw [List.drop_eq_getElem_cons h, slc]
  · rename_i h; rw [List.drop_of_length_le (by omega), slc]
def orV (u v : Int) : Int := if u = 0 then v else u
theorem orV_ne {u v : Int} (h : u ≠ 0) : orV u v = u := if_neg h
theorem orV_zero (v : Int) : orV 0 v = v := rfl
/-- How sets are compared. -/
def stc (xs ys : List Int) : Int := orV (cI xs.length ys.length) (slc xs ys)
set_option maxHeartbeats 1000000 in
theorem nan64_in (F : Fence) (n : Nat) (h : F.fn 180) (hro : F.round = none) (x : Int) (w : World) : CallsIn F n Try.prog 180 #[.int .i64 x] w fun e w' => e = .returned (.bool false) ∧ w' = w := by
  refine callsIn_of_wp Try.func180 rfl h ?_ hro
  simp only [Try.ntmps180, List.size_toArray, List.length_cons, List.length_nil, Nat.reduceAdd, Nat.reduceSub, Array.replicate_succ, Array.replicate_zero, List.push_toArray, List.append_toArray, List.nil_append, List.cons_append]
  gi_wp2
  go_ret
  exact ⟨by simp, rfl⟩
set_option maxHeartbeats 1000000 in
theorem nanI_in (F : Fence) (n : Nat) (h : F.fn 160) (hro : F.round = none) (x : Int) (w : World) : CallsIn F n Try.prog 160 #[.int .i64 x] w fun e w' => e = .returned (.bool false) ∧ w' = w := by
  refine callsIn_of_wp Try.func160 rfl h ?_ hro
  simp only [Try.ntmps160, List.size_toArray, List.length_cons, List.length_nil, Nat.reduceAdd, Nat.reduceSub, Array.replicate_succ, Array.replicate_zero, List.push_toArray, List.append_toArray, List.nil_append, List.cons_append]
  gi_wp2
  go_ret
  exact ⟨by simp, rfl⟩
set_option maxHeartbeats 1000000 in
theorem cmp64_in (F : Fence) (n : Nat) (h : F.fn 161) (h2 : F.fn 180) (hro : F.round = none) (hn : 1 ≤ n) (x y : Int) (w : World) : CallsIn F n Try.prog 161 #[.int .i64 x, .int .i64 y] w fun e w' => e = .returned (.int .i64 (cI x y)) ∧ w' = w := by
  refine callsIn_of_wp Try.func161 rfl h ?_ hro
  simp only [Try.ntmps161, List.size_toArray, List.length_cons, List.length_nil, Nat.reduceAdd, Nat.reduceSub, Array.replicate_succ, Array.replicate_zero, List.push_toArray, List.append_toArray, List.nil_append, List.cons_append]
  gi_wp2_with (gi_at_call 180; refine (nan64_in F (n - 1) h2 hro _ _).mono ?_; rintro e w' ⟨rfl, rfl⟩)
  all_goals go_ret
  all_goals (refine ⟨?_, rfl⟩; unfold cI; (repeat' split) <;> first | rfl | omega)
set_option maxHeartbeats 1000000 in
theorem cmpI_in (F : Fence) (n : Nat) (h : F.fn 129) (h2 : F.fn 160) (hro : F.round = none) (hn : 1 ≤ n) (x y : Int) (w : World) : CallsIn F n Try.prog 129 #[.int .i64 x, .int .i64 y] w fun e w' => e = .returned (.int .i64 (cI x y)) ∧ w' = w := by
  refine callsIn_of_wp Try.func129 rfl h ?_ hro
  simp only [Try.ntmps129, List.size_toArray, List.length_cons, List.length_nil, Nat.reduceAdd, Nat.reduceSub, Array.replicate_succ, Array.replicate_zero, List.push_toArray, List.append_toArray, List.nil_append, List.cons_append]
  gi_wp2_with (gi_at_call 160; refine (nanI_in F (n - 1) h2 hro _ _).mono ?_; rintro e w' ⟨rfl, rfl⟩)
  all_goals go_ret
  all_goals (refine ⟨?_, rfl⟩; unfold cI; (repeat' split) <;> first | rfl | omega)
set_option maxRecDepth 100000 in
set_option maxHeartbeats 2000000 in
theorem slc_in (F : Fence) (n : Nat) (h : F.fn 130) (h1 : F.fn 161) (h2 : F.fn 180) (hro : F.round = none) (hn : 2 ≤ n) (b1 o1 c1 b2 o2 c2 : Nat) (xs ys : List Int) (hx : xs.length ≤ 1000000) (hy : ys.length ≤ 1000000) (w : World)
    (hc1 : ∀ j, j < xs.length → w.cell? ⟨b1, o1 + j, none⟩ = some (.int .i64 (xs[j]?.getD 0))) (hc2 : ∀ j, j < ys.length → w.cell? ⟨b2, o2 + j, none⟩ = some (.int .i64 (ys[j]?.getD 0))) :
    CallsIn F n Try.prog 130 #[.slice (some ⟨b1, o1, none⟩) xs.length c1, .slice (some ⟨b2, o2, none⟩) ys.length c2] w fun e w' => e = .returned (.int .i64 (slc xs ys)) ∧ w' = w := by
  have h3 : 1 ≤ n - 1 := by omega
  have h4 : 1 ≤ n := by omega
  refine callsIn_of_wp Try.func130 rfl h ?_ hro
  simp only [Try.ntmps130, List.size_toArray, List.length_cons, List.length_nil, Nat.reduceAdd, Nat.reduceSub, Array.replicate_succ, Array.replicate_zero, List.push_toArray, List.append_toArray, List.nil_append, List.cons_append]
  gi_wp2
  gi_loopw [11] (fun i wr => ∃ k : Nat, k ≤ xs.length ∧ i = .int .i64 k ∧ slc (xs.drop k) (ys.drop k) = slc xs ys ∧ wr = w)
    (fun i _ => xs.length - (intOf i).toNat)
  case atStart => exact ⟨0, Nat.zero_le _, rfl, rfl, rfl⟩
  case round =>
    obtain ⟨k, hk, rfl, hs, rfl⟩ := hrel
    have hx1 : k < xs.length → wr.cell? ⟨b1, o1 + k, none⟩ = some (.int .i64 (xs[k]?.getD 0)) := hc1 k
    have hy1 : k < ys.length → wr.cell? ⟨b2, o2 + k, none⟩ = some (.int .i64 (ys[k]?.getD 0)) := hc2 k
    by_cases hlt : k < xs.length
    · have hx2 := hx1 hlt
      by_cases hlt2 : k < ys.length
      · have hy2 := hy1 hlt2
        have hd := slc_drop hlt hlt2
        rw [hs] at hd
        clear hs
        gi_wp2_with (gi_at_call 161; refine (cmp64_in F (n - 1) h1 h2 hro h3 _ _ _).mono ?_; rintro e w' ⟨rfl, rfl⟩)
        · have hb : (cI xs[k] ys[k] != 0) = true := by assumption
          have hne : ¬ cI xs[k] ys[k] = 0 := by simpa using hb
          go_ret
          refine ⟨?_, rfl⟩
          show Ending.returned (Value.int .i64 (cI xs[k] ys[k])) = _
          rw [hd]
          simp only [List.getElem?_eq_getElem hlt, List.getElem?_eq_getElem hlt2, Option.getD_some]
          unfold cI at hne ⊢
          (repeat' split) <;> first | rfl | omega | (simp_all)
        · have hb : (cI xs[k] ys[k] != 0) = false := by assumption
          have he : cI xs[k] ys[k] = 0 := by simpa using hb
          refine ⟨⟨k + 1, by omega, by simp, ?_, trivial⟩, by simp [intOf]; omega⟩
          rw [hd]
          simp only [List.getElem?_eq_getElem hlt, List.getElem?_eq_getElem hlt2, Option.getD_some]
          unfold cI at he
          split at he
          · cases he
          · split at he
            · cases he
            · rename_i q1 q2
              rw [if_neg q1, if_neg q2]
      · have hd := slc_short hlt (Nat.le_of_not_lt hlt2)
        rw [hs] at hd
        clear hs
        gi_wp2
        go_ret
        exact ⟨by show Ending.returned (Value.int .i64 1) = _; rw [hd], rfl⟩
    · obtain rfl : k = xs.length := by omega
      rw [slc_end] at hs
      gi_wp2
      all_goals go_ret
      all_goals (refine ⟨?_, rfl⟩; rw [← hs]; split <;> first | rfl | omega)
set_option maxHeartbeats 2000000 in
theorem or_in (F : Fence) (n : Nat) (h : F.fn 128) (hro : F.round = none) (b : Nat) (u v : Int) (w : World) (hu : w.cell? ⟨b, 0, none⟩ = some (.int .i64 u)) (hv : w.cell? ⟨b, 1, none⟩ = some (.int .i64 v)) :
    CallsIn F n Try.prog 128 #[.slice (some ⟨b, 0, none⟩) 2 2] w fun e w' => e = .returned (.int .i64 (orV u v)) ∧ w' = w := by
  refine callsIn_of_wp Try.func128 rfl h ?_ hro
  simp only [Try.ntmps128, List.size_toArray, List.length_cons, List.length_nil, Nat.reduceAdd, Nat.reduceSub, Array.replicate_succ, Array.replicate_zero, List.push_toArray, List.append_toArray, List.nil_append, List.cons_append]
  gi_wp2
  gi_loopw [8] (fun i wr => ∃ k : Nat, k ≤ 2 ∧ i = .int .i64 k ∧ (1 ≤ k → u = 0) ∧ (2 ≤ k → v = 0) ∧ wr = w)
    (fun i _ => 2 - (intOf i).toNat)
  case atStart => exact ⟨0, Nat.zero_le _, rfl, fun h => by omega, fun h => by omega, rfl⟩
  case round =>
    obtain ⟨k, hk, rfl, hk1, hk2, rfl⟩ := hrel
    have h012 : k = 0 ∨ k = 1 ∨ k = 2 := by omega
    rcases h012 with rfl | rfl | rfl
    · gi_wp2
      · have hb : (u != 0) = true := by assumption
        have hne : u ≠ 0 := by simpa using hb
        go_ret
        exact ⟨by show Ending.returned (Value.int .i64 u) = _; rw [orV_ne hne], rfl⟩
      · have hb : (u != 0) = false := by assumption
        have he : u = 0 := by simpa using hb
        exact ⟨⟨1, by omega, by simp, fun _ => he, fun h => by omega, trivial⟩, by simp [intOf]⟩
    · have h0 := hk1 (Nat.le_refl _)
      subst h0
      gi_wp2
      · go_ret
        exact ⟨by show Ending.returned (Value.int .i64 v) = _; rw [orV_zero], rfl⟩
      · have hb : (v != 0) = false := by assumption
        have he : v = 0 := by simpa using hb
        exact ⟨⟨2, by omega, by simp, fun _ => by trivial, fun _ => he, trivial⟩, by simp [intOf]⟩
    · have h0 := hk1 (by omega)
      have h1 := hk2 (by omega)
      subst h0; subst h1
      gi_wp2
      go_ret
      exact ⟨rfl, rfl⟩
theorem cell_two (w : World) (a b : Value) (t : TypeId) : (w.alloc (.cells #[a, b] t)).cell? ⟨w.heap.size, 0, none⟩ = some a ∧ (w.alloc (.cells #[a, b] t)).cell? ⟨w.heap.size, 1, none⟩ = some b := by
  have h := World.alloc_heap_new w (.cells #[a, b] t)
  constructor <;> (unfold World.cell?; rw [h]; rfl)
set_option maxHeartbeats 2000000 in
theorem stc_in (F : Fence) (n : Nat) (h : F.fn 81) (h1 : F.fn 129) (h2 : F.fn 160) (h3 : F.fn 130) (h4 : F.fn 161) (h5 : F.fn 180) (h6 : F.fn 128) (hro : F.round = none) (hn : 3 ≤ n) (b1 o1 c1 b2 o2 c2 : Nat) (xs ys : List Int) (hx : xs.length ≤ 1000000) (hy : ys.length ≤ 1000000) (w : World)
    (hc1 : ∀ j, j < xs.length → w.cell? ⟨b1, o1 + j, none⟩ = some (.int .i64 (xs[j]?.getD 0))) (hc2 : ∀ j, j < ys.length → w.cell? ⟨b2, o2 + j, none⟩ = some (.int .i64 (ys[j]?.getD 0))) :
    CallsIn F n Try.prog 81 #[.slice (some ⟨b1, o1, none⟩) xs.length c1, .slice (some ⟨b2, o2, none⟩) ys.length c2] w fun e w' => e = .returned (.int .i64 (stc xs ys)) ∧ ∃ o, w' = w.alloc o := by
  have q1 : 1 ≤ n := by omega
  have q2 : 1 ≤ n - 1 := by omega
  have q3 : 2 ≤ n - 1 := by omega
  refine callsIn_of_wp Try.func81 rfl h ?_ hro
  simp only [Try.ntmps81, List.size_toArray, List.length_cons, List.length_nil, Nat.reduceAdd, Nat.reduceSub, Array.replicate_succ, Array.replicate_zero, List.push_toArray, List.append_toArray, List.nil_append, List.cons_append]
  gi_wp2_with (first
    | (gi_at_call 129; refine (cmpI_in F (n - 1) h1 h2 hro q2 _ _ _).mono ?_; rintro e w' ⟨rfl, rfl⟩)
    | (gi_at_call 130; refine (slc_in F (n - 1) h3 h4 h5 hro q3 b1 o1 c1 b2 o2 c2 xs ys hx hy _ hc1 hc2).mono ?_; rintro e w' ⟨rfl, rfl⟩))
  refine (or_in F (n - 1) h6 hro _ (cI xs.length ys.length) (slc xs ys) _ (cell_two _ _ _ _).1 (cell_two _ _ _ _).2).mono ?_
  rintro e w'' ⟨rfl, rfl⟩
  gi_wp2
  go_ret
  exact ⟨rfl, _, rfl⟩
end Go.Proofs.Ytpepbomifjbgnaa
