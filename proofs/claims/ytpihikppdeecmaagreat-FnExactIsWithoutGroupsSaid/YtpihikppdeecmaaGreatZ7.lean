/- Several texts of this session as one, less what the claim does not need. -/
import Derived.Test.YtpihikppdeecmaaGreatCb
import Derived.Test.YtpihikppdeecmaaGreatZ6
import Derived.Test.YtpihikppdeecmaaGreatG1
import Derived.RangeFuncBox
import Derived.RangeFuncLeaves
import Derived.Shelf.Abstract
import Derived.WalkKit
import Derived.OwnWalkIn
import Derived.TacticsInMore
import Derived.LoopNIn
import Derived.LoopIn
import Derived.Maps.AppendAt
import Derived.Test.YtpihikppdeecmaaGreatProg
import Derived.Test.YtpihikppdeecmaaGreatFC
section
/- Sets of points: as ascending lists, as bits. -/
namespace Go.Proofs.YtpihikppdeecmaaGreat
open Go.Kv
set_option maxRecDepth 100000
def k89_b0 : KC := (.seq (.ops [oP 10 (.bin .lss (.t 9) (.t 8))])
  (.seq (.cond (.t 10) .skip (.exit 0))
  (.seq (.block 1 (.seq (.ops [mV 11 9, oP 12 (.idxS 1 (.t 7) (.t 9)), oP 13 (.load false 1 (.t 12)), mV 5 11, mV 6 13])
  (.seq (.ops [mV 14 6, mV 15 1, oP 16 (.bin .sub (.t 15) (iC 1)), oP 17 (.call (fC 77) [(.t 14), (iC 0), (.t 16)]), oP 18 (.not (.t 17)), mV 19 18, ⟨(some 20), some (19, false), .mv (.t 5)⟩, ⟨(some 21), some (19, false), .bin .gtr (.t 20) (iC 0)⟩, ⟨(some 22), some (19, false), .mv (.t 21)⟩, ⟨(some 23), some (22, true), .mv (.t 0)⟩, ⟨(some 24), some (22, true), .mv (.t 5)⟩, ⟨(some 25), some (22, true), .bin .sub (.t 24) (iC 1)⟩, ⟨(some 26), some (22, true), .idxS 1 (.t 23) (.t 25)⟩, ⟨(some 27), some (22, true), .load false 1 (.t 26)⟩, ⟨(some 28), some (22, true), .mv (.t 6)⟩, ⟨(some 29), some (22, true), .bin .geq (.t 27) (.t 28)⟩, ⟨(some 30), some (19, false), .pick (.t 22) (.t 29) (.c (.bool false))⟩, oP 31 (.pick (.t 19) (.c (.bool true)) (.t 30))])
  (.cond (.t 31) (.seq (.ops [oP 4 (.mv (.c (.bool false)))])
  .ret) .skip))))
  (.ops [oP 32 (.bin .add (.t 9) (iC 1)), mV 9 32]))))
def k89 : KC := (.seq (.ops [oP 4 (.mv (.c (.bool false)))])
  (.seq (.seq (.ops [mV 7 0, oP 8 (.len false (.t 7)), oP 9 (.mv (iC 0))])
  (.block 0 (.loop k89_b0)))
  (.seq (.ops [oP 4 (.mv (.c (.bool true)))])
  .ret)))
theorem e89 : Ent 89 33 [] [.t 4] k89 := ent Tryz.func89 (by kernel_rfl) (by kernel_rfl) (by kernel_rfl) (fun _ => by kernel_rfl) (by kernel_rfl)
def k104_b0 : KC := (.seq (.seq (.ops [mV 5 4, mV 6 0, oP 7 (.len false (.t 6)), oP 8 (.bin .lss (.t 5) (.t 7))])
  (.cond (.t 8) .skip (.exit 0)))
  (.seq (.block 1 (.ops [mV 11 3, mV 12 0, mV 13 4, oP 14 (.idxS 1 (.t 12) (.t 13)), oP 15 (.load false 1 (.t 14)), oP 16 (.conv .u64 (.t 15)), oP 17 (.bin .shl (iC 1) (.t 16)), oP 18 (.bin .or (.t 11) (.t 17)), mV 3 18]))
  (.ops [mV 9 4, oP 10 (.bin .add (.t 9) (iC 1)), mV 4 10])))
def k104 : KC := (.seq (.ops [oP 2 (.mv (iC 0))])
  (.seq (.ops [oP 3 (.mv (iC 0))])
  (.seq (.seq (.ops [oP 4 (.mv (iC 0))])
  (.block 0 (.loop k104_b0)))
  (.seq (.ops [mV 19 3, mV 2 19])
  .ret))))
theorem e104 : Ent 104 20 [] [.t 2] k104 := ent Tryz.func104 (by kernel_rfl) (by kernel_rfl) (by kernel_rfl) (fun _ => by kernel_rfl) (by kernel_rfl)
end Go.Proofs.YtpihikppdeecmaaGreat
namespace Go.Proofs.YtpihikppdeecmaaGreat
open Go.Kv
set_option linter.unusedVariables false
set_option linter.unusedSimpArgs false
attribute [local irreducible] ACall PCall KL
/-- An ascending list of points below n. -/
def stp (l : List Int) (n : Int) (i : Nat) : Bool := decide (0 ≤ l.getD i 0 ∧ l.getD i 0 ≤ n - 1) && (decide (i = 0) || decide (l.getD (i - 1) 0 < l.getD i 0))
def stB (l : List Int) (n : Int) : Bool := (List.range l.length).all (stp l n)
theorem range_all_succ (p : Nat → Bool) (x : Nat) : (List.range (x + 1)).all p = ((List.range x).all p && p x) := by
  rw [List.range_succ, List.all_append]; simp
theorem range_all_false {p : Nat → Bool} {x n : Nat} (h : x < n) (hp : p x = false) : (List.range n).all p = false := by
  rw [List.all_eq_false]
  exact ⟨x, by simpa using h, by simp [hp]⟩
theorem p89 (l : List Int) (n : Int) (hl : l.length ≤ 1048576) (hn : 1 ≤ n ∧ n ≤ 5) : Pure Tryz.prog 89 [.list (ints l), .int .i64 n] (.bool (stB l n)) := by
  refine e89 (by simp) fun _ _ => ?_
  simp only [k89, argEnv, go_sem]
  refine KL_ind k89_b0.eq_1 (fun x : Nat => [(0, .list (ints l)), (1, .int .i64 n), (7, .list (ints l)), (8, .int .i64 l.length), (9, .int .i64 x)]) (fun _ => []) (fun x => x ≤ l.length ∧ (List.range x).all (stp l n) = true) (fun x => l.length - x) [0, 1, 7, 8, 9] 0 (by rfl) rfl ⟨Nat.zero_le _, rfl⟩ fun x ⟨hx, hall⟩ ih => ?_
  have hx1 : ((x : Int) - 1).toNat = x - 1 := by omega
  have hra := range_all_succ (stp l n) x
  rw [hall, Bool.true_and] at hra
  try simp only [OpK_eq, go_sem]
  refine ⟨fun h1 => ?_, fun h1 => ?_⟩
  · have hxl : x < l.length := by omega
    refine ⟨h1, fun _ => ⟨by omega, ?_⟩⟩
    refine (p77 _ _ _).go ?_
    have hst : stp l n x = (decide (0 ≤ l.getD x 0 ∧ l.getD x 0 ≤ n - 1) && (decide (x = 0) || decide (l.getD (x - 1) 0 < l.getD x 0))) := rfl
    generalize decide (0 ≤ l.getD x 0 ∧ l.getD x 0 ≤ n - 1) = b1 at *
    cases b1 with
    | false =>
      try simp only [OpK_eq, hx1, go_sem]
      exact Kv.Fin.still ⟨by rw [stB, range_all_false hxl (by rw [hst]; rfl)], rfl⟩
    | true =>
      rw [Bool.true_and] at hst
      try simp only [OpK_eq, hx1, go_sem]
      refine ⟨fun h2 => ⟨by omega, by omega, fun _ => ⟨fun h3 => ?_, fun h3 => ⟨by omega, ?_⟩⟩⟩, fun h2 => ⟨by omega, ?_⟩⟩
      · refine Kv.Fin.still ⟨by rw [stB, range_all_false hxl]; rw [hst, decide_eq_false (by omega : ¬ x = 0), decide_eq_false (by omega)]; rfl, rfl⟩
      · refine ih (x + 1) ⟨by omega, ?_⟩ (by omega) _ _ (by rfl) rfl
        rw [hra, hst, decide_eq_true (by omega : l.getD (x - 1) 0 < l.getD x 0), Bool.or_true]
      · refine ih (x + 1) ⟨by omega, ?_⟩ (by omega) _ _ (by rfl) rfl
        rw [hra, hst, decide_eq_true (by omega : x = 0), Bool.true_or]
  · obtain rfl : x = l.length := by omega
    exact Kv.Fin.still ⟨by rw [stB, hall], rfl⟩
theorem sb_ext {l m : List Nat} (h : ∀ x, x ∈ l ↔ x ∈ m) : sb l = sb m := by
  apply Nat.eq_of_testBit_eq
  intro i
  rw [sb_test, sb_test]
  simp only [h i]
theorem p104 (l : List Nat) (hl : ∀ x ∈ l, x < 5) (hn : l.length ≤ 1048576) : Pure Tryz.prog 104 [.list (ints (l.map fun x : Nat => (x : Int)))] (.int .i64 (sb l)) := by
  refine e104 (by simp) fun _ _ => ?_
  simp only [k104, argEnv, List.length_map, go_sem]
  refine KL_ind k104_b0.eq_1 (fun x : Nat => [(0, .list (ints (l.map fun x : Nat => (x : Int)))), (3, .int .i64 (sb (l.take x))), (4, .int .i64 x)]) (fun _ => []) (fun x => x ≤ l.length) (fun x => l.length - x) [0, 3, 4] 0 (by rfl) rfl (Nat.zero_le _) fun x hx ih => ?_
  have hb : sb (l.take x) < 2 ^ 62 := Nat.lt_trans (sb_lt (n := 5) fun y hy => hl y (List.mem_of_mem_take hy)) (by decide)
  have hp : l.getD x 0 < 5 := by
    rw [List.getD_eq_getElem?_getD]
    by_cases h : x < l.length
    · rw [List.getElem?_eq_getElem h]; exact hl _ (List.getElem_mem h)
    · rw [List.getElem?_eq_none (by omega)]; decide
  have hb2 : 2 ^ l.getD x 0 < 2 ^ 62 := Nat.pow_lt_pow_right (by omega) (by omega)
  have hp61 : l.getD x 0 ≤ 61 := by omega
  have hnat : (l.map fun x : Nat => (x : Int)).getD x 0 = (l.getD x 0 : Int) := by
    simp only [List.getD_eq_getElem?_getD, List.getElem?_map]; cases l[x]? <;> rfl
  try simp only [List.length_map, hnat, aConv_u64 hp61, aBin_shl1 hp61, aBin_or hb hb2, go_sem]
  refine ⟨fun h1 => ?_, fun h1 => ?_⟩
  · repeat' (first | refine And.intro ?_ ?_ | intro _)
    all_goals (try omega)
    refine ih (x + 1) (by omega) (by omega) _ _ ?_ rfl
    have hxl : x < l.length := by omega
    rw [List.take_succ_eq_append_getElem hxl, sb_snoc, List.getD_eq_getElem?_getD, List.getElem?_eq_getElem hxl]
    rfl
  · obtain rfl : x = l.length := by omega
    rw [List.take_length]
    exact Kv.Fin.still ⟨rfl, rfl⟩
/-- The points of a list that are images of points of a set, as far as point x. -/
def mvd (f : List Nat) (l : List Nat) (x : Nat) : List Nat := ((List.range x).filter fun p => decide (p ∈ l)).map fun p => f.getD p 0
theorem mvd_all {f l : List Nat} {n : Nat} (hl : ∀ x ∈ l, x < n) : sb (mvd f l n) = sb (l.map fun p => f.getD p 0) := sb_ext fun y => by
  simp only [mvd, List.mem_map, List.mem_filter, List.mem_range, decide_eq_true_eq]
  exact ⟨fun ⟨p, ⟨_, h⟩, e⟩ => ⟨p, h, e⟩, fun ⟨p, h, e⟩ => ⟨p, ⟨hl p h, h⟩, e⟩⟩
theorem nodup_len : ∀ (n : Nat) (l : List Nat), l.Nodup → (∀ x ∈ l, x < n) → l.length ≤ n
  | 0, l, _, h => by
    cases l with
    | nil => simp
    | cons a l => exact absurd (h a (by simp)) (by omega)
  | n + 1, l, hn, h => by
    have h1 := nodup_len n (l.filter fun x => decide (x ≠ n)) (hn.filter _) fun x hx => by
      simp only [List.mem_filter, decide_eq_true_eq] at hx
      have := h x hx.1
      omega
    have h2 : l.length ≤ (l.filter fun x => decide (x ≠ n)).length + 1 := by
      clear h h1
      induction l with
      | nil => simp
      | cons a l ih =>
        rw [List.nodup_cons] at hn
        by_cases e : a = n
        · subst e
          have : l.filter (fun x => decide (x ≠ a)) = l := List.filter_eq_self.2 fun x hx => by
            simp only [decide_eq_true_eq]; rintro rfl; exact hn.1 hx
          rw [List.filter_cons_of_neg (by simp), this]; simp
        · rw [List.filter_cons_of_pos (by simpa using e)]
          have := ih hn.2
          simp only [List.length_cons]; omega
    omega
/-- A set of points, as an ascending list that is not empty. -/
def asc (n : Nat) (p : List Int) : Prop := ∃ l : List Nat, p = l.map (fun x : Nat => (x : Int)) ∧ l ≠ [] ∧ (∀ x ∈ l, x < n) ∧ l.Pairwise (· < ·)
/-- The bits of a set, and of its image. -/
def bits (p : List Int) : Nat := sb (p.map Int.toNat)
/-- What a list that is a set is. -/
theorem stB_asc {l : List Int} {n : Nat} (h : stB l n = true) (h0 : l ≠ []) : asc n l := by
  have hall : ∀ i, i < l.length → stp l n i = true := fun i hi => by
    unfold stB at h
    exact List.all_eq_true.1 h i (by simpa using hi)
  have hb : ∀ i, (hi : i < l.length) → 0 ≤ l[i] ∧ l[i] ≤ (n : Int) - 1 ∧ (0 < i → ∀ h' : i - 1 < l.length, l[i - 1] < l[i]) := fun i hi => by
    have := hall i hi
    simp only [stp, Bool.and_eq_true, Bool.or_eq_true, decide_eq_true_eq] at this
    obtain ⟨h1, h2⟩ := this
    have e : l.getD i 0 = l[i] := by simp [List.getD_eq_getElem?_getD, hi]
    rw [e] at h1 h2
    refine ⟨h1.1, h1.2, fun hp h' => ?_⟩
    rcases h2 with h2 | h2
    · omega
    · have e2 : l.getD (i - 1) 0 = l[i - 1] := by simp [List.getD_eq_getElem?_getD, h']
      rwa [e2] at h2
  refine ⟨l.map Int.toNat, ?_, by simpa using h0, fun x hx => ?_, ?_⟩
  · rw [List.map_map]
    conv => lhs; rw [← List.map_id l]
    refine List.map_congr_left fun x hx => ?_
    obtain ⟨i, hi, rfl⟩ := List.getElem_of_mem hx
    have := hb i hi
    simp only [id_eq, Function.comp_def]; omega
  · obtain ⟨y, hy, rfl⟩ := List.mem_map.1 hx
    obtain ⟨i, hi, rfl⟩ := List.getElem_of_mem hy
    have := hb i hi
    omega
  · rw [List.pairwise_map]
    have key : ∀ d i, (hi : i + 1 + d < l.length) → l[i]'(by omega) < l[i + 1 + d] := fun d => by
      induction d with
      | zero =>
        intro i hi
        have := (hb (i + 1) hi).2.2 (by omega) (by omega)
        simpa using this
      | succ d ih =>
        intro i hi
        have h1 := ih i (by omega)
        have h2 := (hb (i + 1 + (d + 1)) hi).2.2 (by omega) (by omega)
        have e : i + 1 + (d + 1) - 1 = i + 1 + d := by omega
        simp only [e] at h2
        omega
    rw [List.pairwise_iff_getElem]
    intro i j hi hj hij
    have h1 := key (j - i - 1) i (by omega)
    have e : i + 1 + (j - i - 1) = j := by omega
    simp only [e] at h1
    have := (hb i hi).1
    omega
end Go.Proofs.YtpihikppdeecmaaGreat
end
section
/- The search: what it calls. -/
namespace Go.Proofs.YtpihikppdeecmaaGreat
open Go.Kv
set_option maxRecDepth 100000
def k134_b0 : KC := (.seq (.ops [oP 14 (.bin .lss (.t 13) (.t 12))])
  (.seq (.cond (.t 14) .skip (.exit 0))
  (.seq (.block 1 (.seq (.ops [mV 15 13, mV 5 15])
  (.seq (.draw [mV 16 0, mV 17 5, oP 18 (.idxS 1 (.t 16) (.t 17)), oP 19 (.load false 1 (.t 18)), mV 20 1, mV 21 5, oP 22 (.idxS 1 (.t 20) (.t 21)), oP 23 (.load false 1 (.t 22)), oP 24 (.bin .neq (.t 19) (.t 23))])
  (.cond (.t 24) (.seq (.ops [oP 4 (.mv (.c (.bool false)))])
  .ret) .skip))))
  (.ops [oP 25 (.bin .add (.t 13) (iC 1)), mV 13 25]))))
def k134 : KC := (.seq (.ops [oP 4 (.mv (.c (.bool false)))])
  (.seq (.seq (.ops [mV 6 0, oP 7 (.len false (.t 6)), mV 8 1, oP 9 (.len false (.t 8)), oP 10 (.bin .neq (.t 7) (.t 9))])
  (.cond (.t 10) (.seq (.ops [oP 4 (.mv (.c (.bool false)))])
  .ret) .skip))
  (.seq (.seq (.ops [mV 11 0, oP 12 (.len false (.t 11)), oP 13 (.mv (iC 0))])
  (.block 0 (.loop k134_b0)))
  (.seq (.ops [oP 4 (.mv (.c (.bool true)))])
  .ret))))
theorem e134 : Ent 134 26 [] [.t 4] k134 := ent Tryz.func134 (by kernel_rfl) (by kernel_rfl) (by kernel_rfl) (fun _ => by kernel_rfl) (by kernel_rfl)
def k133 : KC := (.seq (.ops [oP 2 (.box true (.t 0)), oP 3 (.mv (.c (.bool false)))])
  (.seq (.ops [oP 4 (.fieldA 0 (.t 2)), oP 5 (.load false 1 (.t 4)), oP 6 (.load false 1 (.t 1)), oP 7 (.call (fC 134) [(.t 5), (.t 6)]), mV 3 7])
  .ret))
theorem e133 : Ent 133 8 [2] [.t 3] k133 := ent Tryz.func133 (by kernel_rfl) (by kernel_rfl) (by kernel_rfl) (fun _ => by kernel_rfl) (by kernel_rfl)
def k144_b0 : KC := (.seq (.ops [oP 9 (.bin .lss (.t 8) (.t 7))])
  (.seq (.cond (.t 9) .skip (.exit 0))
  (.seq (.block 1 (.seq (.ops [mV 10 8, mV 5 10])
  (.seq (.ops [mV 11 1, mV 12 0, mV 13 5, oP 14 (.idxS 2 (.t 12) (.t 13)), oP 15 (.load true 2 (.t 14)), oP 16 (.call (.t 11) [(.t 15)])])
  (.cond (.t 16) (.seq (.ops [mV 17 5, mV 4 17])
  .ret) .skip))))
  (.ops [oP 18 (.bin .add (.t 8) (iC 1)), mV 8 18]))))
def k144 : KC := (.seq (.ops [oP 4 (.mv (iC 0))])
  (.seq (.seq (.ops [mV 6 0, oP 7 (.len false (.t 6)), oP 8 (.mv (iC 0))])
  (.block 0 (.loop k144_b0)))
  (.seq (.ops [oP 4 (.mv (iC (-1)))])
  .ret)))
theorem e144 : Ent 144 19 [] [.t 4] k144 := ent Tryz.func144 (by kernel_rfl) (by kernel_rfl) (by kernel_rfl) (fun _ => by kernel_rfl) (by kernel_rfl)
def k132 : KC := (.seq (.ops [oP 4 (.mv (.c (.bool false)))])
  (.seq (.ops [mV 5 0, mV 6 1, oP 7 (.call (fC 144) [(.t 5), (.t 6)]), oP 8 (.bin .geq (.t 7) (iC 0)), mV 4 8])
  .ret))
theorem e132 : Ent 132 9 [] [.t 4] k132 := ent Tryz.func132 (by kernel_rfl) (by kernel_rfl) (by kernel_rfl) (fun _ => by kernel_rfl) (by kernel_rfl)
end Go.Proofs.YtpihikppdeecmaaGreat
namespace Go.Proofs.YtpihikppdeecmaaGreat
open Go.Kv
set_option linter.unusedVariables false
set_option linter.unusedSimpArgs false
attribute [local irreducible] ACall PCall KL
/-- What has been met: points, and a word. -/
abbrev Met := List Int × List Int
def mcell (m : Met) : PV := .agg [.list (ints m.1), .list (ints m.2)]
def mets (l : List Met) : List PV := l.map mcell
theorem subC2 (a b : PV) : subC [a, b] 0 2 = [a, b] := by unfold subC; first | rfl | (split <;> rfl) | simp
theorem mcell_sub (m : Met) : PV.agg (subC (mcell m).cs 0 2) = mcell m := by
  show PV.agg (subC [_, _] 0 2) = _
  rw [subC2]; rfl
@[simp] theorem mets_length (l : List Met) : (mets l).length = l.length := by simp [mets]
theorem mets_get {l : List Met} {i : Nat} (h : i < l.length) : (mets l)[i]? = some (mcell l[i]) := by simp [mets, h]
instance (m : Met) : Still (mcell m) := by unfold mcell; infer_instance
instance (l : List Met) : Still (.list (mets l)) := Still.list fun x hx => by
  obtain ⟨m, _, rfl⟩ := List.mem_map.1 hx
  refine ⟨inferInstance, fun c hc => ?_⟩
  simp only [mcell, PV.cs, List.mem_cons, List.mem_singleton, List.not_mem_nil, or_false] at hc
  rcases hc with rfl | rfl <;> exact upto_ints 0 _
theorem p134 (xs ys : List Int) (hl : ys.length ≤ 4294967296) (hl' : xs.length ≤ 4294967296) : Pure Tryz.prog 134 [.list (ints xs), .list (ints ys)] (.bool (decide (xs = ys))) := by
  refine e134 (by simp) fun _ _ => ?_
  simp only [k134, argEnv, go_sem]
  refine ⟨fun h => ?_, fun h => ?_⟩
  · exact Kv.Fin.still ⟨by rw [decide_eq_false (fun e => h (by rw [e]))], rfl⟩
  · have hxy : xs.length = ys.length := by omega
    refine KL_ind k134_b0.eq_1 (fun x : Nat => [(0, .list (ints xs)), (1, .list (ints ys)), (12, .int .i64 xs.length), (13, .int .i64 x)]) (fun _ => []) (fun x => x ≤ xs.length ∧ xs.take x = ys.take x) (fun x => xs.length - x) [0, 1, 12, 13] 0 (by rfl) rfl ⟨Nat.zero_le _, by simp⟩ fun x ⟨hx, he⟩ ih => ?_
    try simp only [go_sem]
    refine ⟨fun h1 => ?_, fun h1 => ?_⟩
    · have h2 : x < xs.length := by omega
      have h3 : x < ys.length := by omega
      refine ⟨by omega, fun _ => ⟨by omega, fun _ => ⟨fun h4 => ?_, fun h4 => ⟨by omega, ?_⟩⟩⟩⟩
      · rw [getD_eq h2, getD_eq h3] at h4
        exact Kv.Fin.still ⟨by rw [decide_eq_false]; rintro rfl; exact h4 rfl, rfl⟩
      · rw [getD_eq h2, getD_eq h3] at h4
        refine ih (x + 1) ⟨by omega, ?_⟩ (by omega) _ _ (by rfl) rfl
        rw [List.take_succ_eq_append_getElem h2, List.take_succ_eq_append_getElem h3, he, h4]
    · obtain rfl : x = xs.length := by omega
      rw [List.take_length, hxy, List.take_length] at he
      exact Kv.Fin.still ⟨by rw [decide_eq_true he], rfl⟩
theorem p133 (m : Met) (nx : List Int) (hl : nx.length ≤ 4294967296) (hl' : m.1.length ≤ 4294967296) : Pure Tryz.prog 133 [mcell m, .fptr [.list (ints nx)] 0] (.bool (decide (m.1 = nx))) := by
  unfold mcell
  refine e133 (by simp) fun _ _ => ?_
  simp only [k133, argEnv, go_sem]
  refine (p134 m.1 nx hl hl').go ?_
  try simp only [go_sem]
  exact Kv.Fin.still ⟨rfl, rfl⟩
theorem p144 (l : List Met) (hl : l.length ≤ 4294967296) (fid : FuncId) (caps : List PV) [hc : StillL caps] (p : Met → Bool) (hp : ∀ x ∈ l, Pure Tryz.prog fid (mcell x :: caps) (.bool (p x))) :
    Pure Tryz.prog 144 [.list (mets l), .fn (.func fid) [] caps] (.int .i64 (idx p l)) := by
  have hlen := mets_length l
  refine e144 (by simp) fun _ _ => ?_
  simp only [k144, argEnv, hlen, go_sem]
  refine KL_ind k144_b0.eq_1 (fun x : Nat => [(0, .list (mets l)), (1, .fn (.func fid) [] caps), (7, .int .i64 l.length), (8, .int .i64 x)]) (fun _ => []) (fun x => x ≤ l.length ∧ (l.take x).any p = false) (fun x => l.length - x) [0, 1, 7, 8] 0 rfl rfl ⟨Nat.zero_le _, by simp⟩ fun x ⟨hx, hall⟩ ih => ?_
  try simp only [hlen, go_sem]
  refine ⟨fun h1 => ?_, fun h1 => ?_⟩
  · have h2 : x < l.length := by omega
    have hg := mets_get h2
    have hpx := hp _ (List.getElem_mem h2)
    refine ⟨h1, fun y hy => ?_⟩
    rw [hg] at hy; cases hy
    refine ⟨rfl, Nat.le_refl _, ?_⟩
    rw [mcell_sub]
    refine hpx.go ?_
    try simp only [go_sem]
    refine ⟨fun h3 => ?_, fun h3 => ⟨by omega, ?_⟩⟩
    · exact Kv.Fin.now ⟨by rw [idx_some h2 hall h3], rfl⟩
    · refine ih (x + 1) ⟨by omega, ?_⟩ (by omega) _ _ rfl rfl
      rw [any_take_succ _ h2, hall, h3]; rfl
  · obtain rfl : x = l.length := by omega
    rw [List.take_length] at hall
    exact Kv.Fin.now ⟨by rw [idx_none hall], rfl⟩
theorem p132 (l : List Met) (hl : l.length ≤ 4294967296) (fid : FuncId) (caps : List PV) [hc : StillL caps] (p : Met → Bool) (hp : ∀ x ∈ l, Pure Tryz.prog fid (mcell x :: caps) (.bool (p x))) :
    Pure Tryz.prog 132 [.list (mets l), .fn (.func fid) [] caps] (.bool (l.any p)) := by
  refine e132 (by simp) fun _ _ => ?_
  simp only [k132, argEnv, go_sem]
  refine (p144 l hl fid caps p hp).go ?_
  try simp only [go_sem]
  exact Kv.Fin.still ⟨by rw [idx_nonneg], rfl⟩
end Go.Proofs.YtpihikppdeecmaaGreat
end
section
/- All partitions of few points: both sides. -/
namespace Go.Proofs.YtpihikppdeecmaaGreat
open Go.Kv
set_option maxRecDepth 100000
def k107 : KC := (.seq (.ops [oP 2 (.mv (.c (.nils)))])
  (.seq (.seq (.ops [mV 3 0, oP 4 (.isn false (.t 3))])
  (.cond (.t 4) (.seq (.ops [oP 2 (.mv (.c (.nils)))])
  .ret) .skip))
  (.seq (.ops [oP 5 (.bsl false 2 1 []), mV 6 0, oP 7 (.app (.t 5) (.t 6) 2 1), mV 2 7])
  .ret)))
theorem e107 : Ent 107 8 [] [.t 2] k107 := ent Tryz.func107 (by kernel_rfl) (by kernel_rfl) (by kernel_rfl) (fun _ => by kernel_rfl) (by kernel_rfl)
end Go.Proofs.YtpihikppdeecmaaGreat
namespace Go.Proofs.YtpihikppdeecmaaGreat
open Go.Kv
set_option linter.unusedVariables false
set_option linter.unusedSimpArgs false
attribute [local irreducible] ACall PCall KL
def ext (P : List Int) (k : Nat) : List (List Int) := (List.range k).map fun c : Nat => P ++ [(c : Int)]
@[simp] theorem ext_length (P : List Int) (k : Nat) : (ext P k).length = k := by simp [ext]
def okP (n : Nat) (P : List Int) : Bool := decide (P.length = n) && P.all (fun k => decide (0 ≤ k ∧ k ≤ 4)) && decide (P.length = 0 ∨ 0 ≤ mxl P) && decide (mxl P ≤ 4)
theorem HKv (σ : Heap) (K : PV → Heap → Prop) (v : PV) : HK σ K v = K v σ := Eq.trans rfl rfl
/-- A copy of a slice of numbers. -/
theorem p107P (l : List Int) (hl : l.length ≤ 4294967296) : ACall Tryz.prog 107 [.list (ints l)] [] (fun v s => (v = .ref 0 1 0 l.length ∧ s = [.arr 1 2 1 (ints l)]) ∨ (l = [] ∧ v = .nils ∧ s = [])) := by
  cases l with
  | nil =>
    refine e107 (by simp) fun _ _ => ?_
    simp only [k107, argEnv, go_sem]
    have e : ∀ K : Bool → Prop, aIsn (.list (ints [])) K = (K true ∧ K false) := fun _ => rfl
    rw [e]
    exact ⟨⟨fun _ => Kv.Fin.now (.inr ⟨rfl, rfl⟩), fun h => by cases h⟩, ⟨fun h => (by cases h), fun _ => Kv.Fin.now (.inl ⟨rfl, rfl⟩)⟩⟩
  | cons x l =>
    refine e107 (by simp) fun _ _ => ?_
    simp only [k107, argEnv, go_sem]
    have e : ∀ K : Bool → Prop, aIsn (.list (ints (x :: l))) K = K false := fun _ => rfl
    rw [e]
    try simp only [go_sem]
    refine ⟨by simp at hl; omega, Kv.Fin.now (.inl ⟨rfl, ?_⟩)⟩
    simp
end Go.Proofs.YtpihikppdeecmaaGreat
end
section
/- A word's slice, in the heap. -/
namespace Go.Proofs.YtpihikppdeecmaaGreat
open Go.Kv
set_option linter.unusedVariables false
set_option linter.unusedSimpArgs false
attribute [local irreducible] ACall PCall KL
/-- A word's slice, in the heap; A: what is not to be it. -/
def Wd (σ : Heap) (A : Nat → Prop) (w : PV) (l : List Int) : Prop := (w = .nils ∧ l = []) ∨ ∃ id ver, w = .ref id ver 0 l.length ∧ σ[id]? = some (.arr ver 2 1 (ints l)) ∧ ¬ A id
theorem Wd.imm {σ : Heap} {A : Nat → Prop} {w : PV} {l : List Int} (h : Wd σ A w l) : Imm σ w (.list (ints l)) := by
  rcases h with ⟨rfl, rfl⟩ | ⟨id, ver, rfl, h, _⟩
  · exact .nils
  · exact .refi h
theorem Wd.keep {σ σ' : Heap} {A A' : Nat → Prop} {w : PV} {l : List Int} (h : Wd σ A w l) (hk : ∀ id, id < σ.length → ¬ A id → σ'[id]? = σ[id]? ∧ ¬ A' id) : Wd σ' A' w l := by
  rcases h with ⟨rfl, rfl⟩ | ⟨id, ver, rfl, h, ha⟩
  · exact .inl ⟨rfl, rfl⟩
  · have := hk id (List.getElem?_eq_some_iff.1 h).1 ha
    exact .inr ⟨id, ver, rfl, this.1.trans h, this.2⟩
theorem Wd.cs {σ : Heap} {A : Nat → Prop} {w : PV} {l : List Int} (h : Wd σ A w l) : w.cs = [w] ∧ w.ok = true := by
  rcases h with ⟨rfl, rfl⟩ | ⟨id, ver, rfl, h, ha⟩ <;> exact ⟨rfl, rfl⟩
end Go.Proofs.YtpihikppdeecmaaGreat
end
section
/- Several texts of this session as one. -/
section
/- The search: its walk. -/
namespace Go.Proofs.YtpihikppdeecmaaGreat
open Go.Kv
set_option maxRecDepth 100000
abbrev k110_b0s0 : KT := (.op (oP 55 (.build [.nils, .nils] [(0, 1, (.t 48)), (1, 1, (.t 54))])) (.op (oP 56 (.bsl true 140 2 [(.t 55)])) (.op (oP 57 (.app (.t 47) (.t 56) 140 2)) (.op (mV 8 57) .fin))))
abbrev k110_b0s1 : KT := (.op (oP 54 (.app (.t 51) (.t 53) 2 1)) k110_b0s0)
abbrev k110_b0s2 : KT := (.op (oP 53 (.bsl true 2 1 [(.t 52)])) k110_b0s1)
abbrev k110_b0s3 : KT := (.op (oP 51 (.call (fC 107) [(.t 50)])) k110_b0s1)
abbrev k110_b0s4 : KT := (.alt (.op (oP 51 (.call (fC 107) [(.t 50)])) k110_b0s2) (.op (oP 53 (.bsl true 2 1 [(.t 52)])) k110_b0s3))
abbrev k110_b0s5 : KT := (.op (oP 50 (.load false 1 (.t 49))) k110_b0s3)
abbrev k110_b0s6 : KT := (.alt (.op (oP 50 (.load false 1 (.t 49))) k110_b0s4) (.op (oP 53 (.bsl true 2 1 [(.t 52)])) k110_b0s5))
abbrev k110_b0s7 : KT := (.op (oP 49 (.fieldA 1 (.t 10))) k110_b0s5)
abbrev k110_b0s8 : KT := (.alt (.op (oP 48 (.load false 1 (.t 13))) k110_b0s1) (.op (oP 54 (.app (.t 51) (.t 53) 2 1)) (.op (oP 48 (.load false 1 (.t 13))) k110_b0s0)))
abbrev k110_b0s9 : KT := (.alt (.op (oP 48 (.load false 1 (.t 13))) k110_b0s3) (.op (oP 51 (.call (fC 107) [(.t 50)])) k110_b0s8))
abbrev k110_b0s10 : KT := (.alt (.op (oP 48 (.load false 1 (.t 13))) k110_b0s5) (.op (oP 50 (.load false 1 (.t 49))) k110_b0s9))
def k110_b0 : KC := (.seq (.ops [oP 34 (.bin .lss (.t 33) (.t 32))])
  (.seq (.cond (.t 34) .skip (.exit 2))
  (.seq (.block 3 (.seq (.ops [mV 35 33, oP 36 (.idxS 6 (.t 31) (.t 33)), oP 37 (.load true 6 (.t 36)), oP 12 (.alloc [.int .i64 0, .int .i64 0, .int .i64 0, .int .i64 0, .int .i64 0, .int .i64 0]), mV 11 35, ⟨none, none, .store 6 (.t 12) (.t 37)⟩])
  (.seq (.ops [mV 38 2, oP 39 (.load true 6 (.t 12)), oP 40 (.fieldA 0 (.t 10)), oP 41 (.load false 1 (.t 40)), oP 42 (.call (.t 38) [(.t 39), (.t 41)]), oP 13 (.alloc [.nils]), ⟨none, none, .store 1 (.t 13) (.t 42)⟩])
  (.seq (.ops [mV 43 8, oP 44 (.mkfn (.func 133) [] [(.t 13)]), oP 45 (.call (fC 132) [(.t 43), (.t 44)]), oP 46 (.not (.t 45))])
  (.cond (.t 46) (.tree (.op (mV 47 8) (.op (mV 52 11) (.alt (.op (oP 48 (.load false 1 (.t 13))) (.alt (.op (oP 49 (.fieldA 1 (.t 10))) k110_b0s6) (.op (oP 53 (.bsl true 2 1 [(.t 52)])) k110_b0s7))) (.alt (.op (oP 49 (.fieldA 1 (.t 10))) (.alt (.op (oP 48 (.load false 1 (.t 13))) k110_b0s6) (.alt (.op (oP 50 (.load false 1 (.t 49))) (.alt (.op (oP 48 (.load false 1 (.t 13))) k110_b0s4) (.alt (.op (oP 51 (.call (fC 107) [(.t 50)])) (.alt (.op (oP 48 (.load false 1 (.t 13))) k110_b0s2) (.op (oP 53 (.bsl true 2 1 [(.t 52)])) k110_b0s8))) (.op (oP 53 (.bsl true 2 1 [(.t 52)])) k110_b0s9)))) (.op (oP 53 (.bsl true 2 1 [(.t 52)])) k110_b0s10)))) (.op (oP 53 (.bsl true 2 1 [(.t 52)])) (.alt (.op (oP 48 (.load false 1 (.t 13))) k110_b0s7) (.op (oP 49 (.fieldA 1 (.t 10))) k110_b0s10)))))))) .skip)))))
  (.ops [oP 58 (.bin .add (.t 33) (iC 1)), mV 33 58]))))
def k110_b1 : KC := (.seq (.seq (.ops [mV 17 9, mV 18 8, oP 19 (.len false (.t 18)), oP 20 (.bin .lss (.t 17) (.t 19))])
  (.cond (.t 20) .skip (.exit 0)))
  (.seq (.block 1 (.seq (.ops [mV 23 8, mV 24 9, oP 25 (.idxS 2 (.t 23) (.t 24)), oP 26 (.load true 2 (.t 25)), oP 10 (.alloc [.nils, .nils]), ⟨none, none, .store 2 (.t 10) (.t 26)⟩])
  (.seq (.seq (.ops [mV 27 3, oP 28 (.load true 2 (.t 10)), oP 29 (.call (.t 27) [(.t 28)]), oP 30 (.not (.t 29))])
  (.cond (.t 30) .ret .skip))
  (.seq (.ops [mV 31 0, oP 32 (.len false (.t 31)), oP 33 (.mv (iC 0))])
  (.block 2 (.loop k110_b0))))))
  (.ops [mV 21 9, oP 22 (.bin .add (.t 21) (iC 1)), mV 9 22])))
def k110 : KC := (.seq (.ops [mV 14 1, oP 15 (.build [.nils, .nils] [(0, 1, (.t 14)), (1, 1, (.c (.nils)))]), oP 16 (.bsl false 140 2 [(.t 15)]), mV 8 16])
  (.seq (.ops [oP 9 (.mv (iC 0))])
  (.block 0 (.loop k110_b1))))
theorem e110 : Ent 110 59 [53, 56] [] k110 := ent Tryz.func110 (by kernel_rfl) (by kernel_rfl) (by kernel_rfl) (fun _ => by kernel_rfl) (by kernel_rfl)
end Go.Proofs.YtpihikppdeecmaaGreat
namespace Go.Proofs.YtpihikppdeecmaaGreat
open Go.Kv
set_option linter.unusedVariables false
set_option linter.unusedSimpArgs false
attribute [local irreducible] ACall PCall KL
def qcell (w : PV) (m : Met) : PV := .agg [.list (ints m.1), w]
/-- The queue, in the heap. -/
structure QG (σ : Heap) (A : Nat → Prop) (q ver : Nat) (ws : List PV) (L : List Met) : Prop where
  out : σ[q]? = some (.arr ver 140 2 (List.zipWith qcell ws L))
  len : ws.length = L.length
  row : ∀ (i : Nat) (w : PV) (m : Met), ws[i]? = some w → L[i]? = some m → Wd σ (fun id => A id ∨ id = q) w m.2
theorem QG.cell {σ : Heap} {A : Nat → Prop} {q ver : Nat} {ws : List PV} {L : List Met} (h : QG σ A q ver ws L) {i : Nat} (hi : i < L.length) : ∃ w, ws[i]? = some w ∧ (List.zipWith qcell ws L)[i]? = some (qcell w L[i]) ∧ Wd σ (fun id => A id ∨ id = q) w L[i].2 := by
  have hw : i < ws.length := by rw [h.len]; exact hi
  refine ⟨ws[i], by simp [hw], by simp [List.getElem?_zipWith, hw, hi], h.row i _ _ (by simp [hw]) (by simp [hi])⟩
theorem QG.imm {σ : Heap} {A : Nat → Prop} {q ver : Nat} {ws : List PV} {L : List Met} (h : QG σ A q ver ws L) : Imm σ (.ref q ver 0 L.length) (.list (mets L)) := by
  refine .ref q ver 0 L.length 140 2 _ (mets L) h.out (by simp [h.len]) (mets_length L) (fun i x d hx hd => ?_) (fun i x d j c c' hx hd hc hc' => ?_)
  all_goals
    rw [Nat.zero_add] at hx
    have hi : i < L.length := by have := (List.getElem?_eq_some_iff.1 hd).1; simpa using this
    obtain ⟨w, hw, hc0, hW⟩ := h.cell hi
    rw [hc0] at hx; cases hx
    rw [mets_get hi] at hd; cases hd
  · exact ⟨rfl, by simp [mcell, PV.cs, PV.ok]⟩
  · rcases j with _ | _ | j
    · simp only [qcell, mcell, PV.cs, List.getElem?_cons_zero, Option.some.injEq] at hc hc'
      subst hc; subst hc'
      exact .still
    · simp only [qcell, mcell, PV.cs, List.getElem?_cons_succ, List.getElem?_cons_zero, Option.some.injEq] at hc hc'
      subst hc; subst hc'
      exact hW.imm
    · simp [qcell, PV.cs] at hc
theorem QG.keep {σ σ' : Heap} {A A' : Nat → Prop} {q ver : Nat} {ws : List PV} {L : List Met} (h : QG σ A q ver ws L) (hq : ¬ A q) (hk : ∀ id, id < σ.length → ¬ A id → σ'[id]? = σ[id]? ∧ ¬ A' id) : QG σ' A' q ver ws L where
  out := (hk q (List.getElem?_eq_some_iff.1 h.out).1 hq).1.trans h.out
  len := h.len
  row := fun i w m hw hm => (h.row i w m hw hm).keep fun id hid hA => by
    simp only [not_or] at hA ⊢
    exact ⟨(hk id hid hA.1).1, (hk id hid hA.1).2, hA.2⟩
theorem QG.push {σ : Heap} {A : Nat → Prop} {q ver : Nat} {ws : List PV} {L : List Met} (h : QG σ A q ver ws L) {p l : List Int} {w : PV} (hw : Wd σ (fun id => A id ∨ id = q) w l) (hl : L.length ≤ 1000) {K : PV → Heap → Prop}
    (hK : QG (σ.set q (.arr (ver + 1) 140 2 (List.zipWith qcell ws L ++ [qcell w (p, l)]))) A q (ver + 1) (ws ++ [w]) (L ++ [(p, l)]) → K (.ref q (ver + 1) 0 (L.length + 1)) (σ.set q (.arr (ver + 1) 140 2 (List.zipWith qcell ws L ++ [qcell w (p, l)])))) :
    aApp 140 2 (.ref q ver 0 L.length) (.list [.agg [.list (ints p), w]]) σ K := by
  have hlt := (List.getElem?_eq_some_iff.1 h.out).1
  have hzl : (List.zipWith qcell ws L).length = L.length := by simp [h.len]
  have hok : okL 2 [PV.agg [.list (ints p), w]] = True := by
    rcases hw with ⟨rfl, rfl⟩ | ⟨id, ver, rfl, _, _⟩ <;> simp [okL, PV.cs, PV.ok]
  have hQ : QG (σ.set q (.arr (ver + 1) 140 2 (List.zipWith qcell ws L ++ [qcell w (p, l)]))) A q (ver + 1) (ws ++ [w]) (L ++ [(p, l)]) := by
    refine ⟨?_, by simp [h.len], fun i w' m hw' hm => ?_⟩
    · rw [List.getElem?_set_self hlt, List.zipWith_append h.len]
      rfl
    · have hset : ∀ id, id < σ.length → ¬ (A id ∨ id = q) → (σ.set q (.arr (ver + 1) 140 2 (List.zipWith qcell ws L ++ [qcell w (p, l)])))[id]? = σ[id]? ∧ ¬ (A id ∨ id = q) := fun id _ hA => by
        refine ⟨List.getElem?_set_ne ?_, hA⟩
        rintro rfl; exact hA (.inr rfl)
      rw [List.getElem?_append] at hw' hm
      split at hw'
      · rename_i hi
        rw [if_pos (by rw [← h.len]; exact hi)] at hm
        exact (h.row i w' m hw' hm).keep hset
      · rename_i hi
        rw [if_neg (by rw [← h.len]; exact hi)] at hm
        have e1 := List.mem_of_getElem? hw'
        have e2 := List.mem_of_getElem? hm
        simp only [List.mem_singleton] at e1 e2
        subst e1; subst e2
        exact hw.keep hset
  simp only [aApp_ref, h.out, AppR_arr, aNews_list, hok, true_and, AppM_def]
  rw [List.take_of_length_le (by omega)]
  exact ⟨⟨by omega, by simp; omega⟩, hK hQ⟩
theorem putC2 (a b c d : PV) : putC [a, b] 0 [c, d] = [c, d] := by unfold putC; first | rfl | (split <;> rfl) | simp
/-- What one met list gives: the queue, by the first k maps. -/
def advN (fs : List (List Nat)) (bf : List Nat → List Int → List Int) (Q : List Met) (m : Met) (k : Nat) : List Met :=
  (List.range k).foldl (fun Q k => if (Q.any fun x => decide (x.1 = bf (fs.getD k []) m.1)) = true then Q else Q ++ [(bf (fs.getD k []) m.1, m.2 ++ [(k : Int)])]) Q
theorem advN_succ (fs : List (List Nat)) (bf : List Nat → List Int → List Int) (Q : List Met) (m : Met) (k : Nat) : advN fs bf Q m (k + 1) = if ((advN fs bf Q m k).any fun x => decide (x.1 = bf (fs.getD k []) m.1)) = true then advN fs bf Q m k else advN fs bf Q m k ++ [(bf (fs.getD k []) m.1, m.2 ++ [(k : Int)])] := by
  unfold advN
  rw [List.range_succ, List.foldl_append]
  rfl
theorem advN_mono (fs : List (List Nat)) (bf : List Nat → List Int → List Int) (Q : List Met) (m : Met) {k k' : Nat} (h : k ≤ k') : (advN fs bf Q m k).length ≤ (advN fs bf Q m k').length := by
  induction k' with
  | zero => obtain rfl : k = 0 := by omega
            exact Nat.le_refl _
  | succ k' ih =>
    by_cases e : k = k' + 1
    · subst e; exact Nat.le_refl _
    · refine Nat.le_trans (ih (by omega)) ?_
      rw [advN_succ]
      split
      · exact Nat.le_refl _
      · simp
/-- The queue, and what each has made of it, behind i met lists. -/
def bq {α : Type} (fs : List (List Nat)) (bf : List Nat → List Int → List Int) (nx : α → List Int → α) (s0 : List Met × α) : Nat → List Met × α
  | 0 => s0
  | i + 1 => match (bq fs bf nx s0 i).1[i]? with
    | some m => (advN fs bf (bq fs bf nx s0 i).1 m fs.length, nx (bq fs bf nx s0 i).2 m.1)
    | none => bq fs bf nx s0 i
theorem bq_succ {α : Type} {fs : List (List Nat)} {bf : List Nat → List Int → List Int} {nx : α → List Int → α} {s0 : List Met × α} {i : Nat} (h : i < (bq fs bf nx s0 i).1.length) :
    bq fs bf nx s0 (i + 1) = (advN fs bf (bq fs bf nx s0 i).1 (bq fs bf nx s0 i).1[i] fs.length, nx (bq fs bf nx s0 i).2 (bq fs bf nx s0 i).1[i].1) := by
  have : (bq fs bf nx s0 i).1[i]? = some (bq fs bf nx s0 i).1[i] := List.getElem?_eq_getElem h
  rw [bq, this]
set_option maxHeartbeats 4000000 in
theorem p110 {α : Type} (fs : List (List Nat)) (n : Nat) (hf : ∀ f ∈ fs, Ok f n) (hfl : fs.length ≤ 1000) (bid eid : FuncId) (caps : List PV) (bf : List Nat → List Int → List Int) (okp : List Int → Prop)
    (hokl : ∀ p, okp p → p.length ≤ 1000) (hokb : ∀ f ∈ fs, ∀ p, okp p → okp (bf f p))
    (hby : ∀ f ∈ fs, ∀ p, okp p → Pure Tryz.prog bid [.agg (ints (mp f)), .list (ints p)] (.list (ints (bf f p))))
    (I : α → Heap → Prop) (U : α → Nat → Prop) (nx : α → List Int → α) (go : α → List Int → Bool) (D : α → List Int → List Int → Heap → Prop)
    (hIlt : ∀ a σ id, I a σ → U a id → id < σ.length) (hIk : ∀ a σ σ', I a σ → (∀ id, U a id → σ'[id]? = σ[id]?) → σ.length ≤ σ'.length → I a σ')
    (heach : ∀ a σ p w l, okp p → I a σ → Wd σ (U a) w l → ∀ K : PV → Heap → Prop,
      (go a p = true → ∀ σ', I (nx a p) σ' → σ.length ≤ σ'.length → (∀ id, id < σ.length → ¬ U a id → σ'[id]? = σ[id]? ∧ ¬ U (nx a p) id) → K (.bool true) σ') →
      (go a p = false → ∀ σ', D a p l σ' → K (.bool false) σ') → ACall Tryz.prog eid (.agg [.list (ints p), w] :: caps) σ K)
    (a0 : α) (from0 : List Int) (hok0 : okp from0) (N : Nat) (hN : N ≤ 1000) (hB : ∀ i, (bq fs bf nx ([(from0, [])], a0) i).1.length ≤ N)
    (σ0 : Heap) (hI0 : I a0 σ0) (K : PV → Heap → Prop)
    (hK1 : ∀ i (h : i < (bq fs bf nx ([(from0, [])], a0) i).1.length), go (bq fs bf nx ([(from0, [])], a0) i).2 (bq fs bf nx ([(from0, [])], a0) i).1[i].1 = false → (∀ j (h : j < (bq fs bf nx ([(from0, [])], a0) j).1.length), j < i → go (bq fs bf nx ([(from0, [])], a0) j).2 (bq fs bf nx ([(from0, [])], a0) j).1[j].1 = true) →
      ∀ σ', D (bq fs bf nx ([(from0, [])], a0) i).2 (bq fs bf nx ([(from0, [])], a0) i).1[i].1 (bq fs bf nx ([(from0, [])], a0) i).1[i].2 σ' → K (.tup []) σ')
    (hK2 : ∀ i, i = (bq fs bf nx ([(from0, [])], a0) i).1.length → (∀ j (h : j < (bq fs bf nx ([(from0, [])], a0) j).1.length), j < i → go (bq fs bf nx ([(from0, [])], a0) j).2 (bq fs bf nx ([(from0, [])], a0) j).1[j].1 = true) → ∀ σ', I (bq fs bf nx ([(from0, [])], a0) i).2 σ' → K (.tup []) σ') :
    ACall Tryz.prog 110 [.list (aggs (fs.map mp)), .list (ints from0), .fn (.func bid) [] [], .fn (.func eid) [] caps] σ0 K := by
  generalize hs : bq fs bf nx ([(from0, [])], a0) = S at *
  have hS0 : S 0 = ([(from0, [])], a0) := by rw [← hs]; rfl
  have hSs : ∀ i (h : i < (S i).1.length), S (i + 1) = (advN fs bf (S i).1 (S i).1[i] fs.length, nx (S i).2 (S i).1[i].1) := by
    rw [← hs]; exact fun i h => bq_succ h
  refine e110 (by simp) fun _ _ => ?_
  simp only [k110, argEnv, go_sem]
  try simp only [go_sem]
  generalize hq : σ0.length = q at *
  refine KL_ind k110_b1.eq_1 (fun x : Nat × Nat × List PV × Heap => [(0, .list (aggs (fs.map mp))), (2, .fn (.func bid) [] []), (3, .fn (.func eid) [] caps), (8, .ref q x.2.1 0 (S x.1).1.length), (9, .int .i64 x.1)]) (fun x => x.2.2.2)
    (fun x => x.1 ≤ (S x.1).1.length ∧ (∀ j (h : j < (S j).1.length), j < x.1 → go (S j).2 (S j).1[j].1 = true) ∧ I (S x.1).2 x.2.2.2 ∧ ¬ U (S x.1).2 q ∧ QG x.2.2.2 (U (S x.1).2) q x.2.1 x.2.2.1 (S x.1).1 ∧ (∀ m ∈ (S x.1).1, okp m.1 ∧ m.2.length + 1 ≤ (S x.1).1.length)) (fun x => N + 1 - x.1) [0, 2, 3, 8, 9]
    (0, 0, [.nils], σ0 ++ [.arr 0 140 2 [.agg [.list (ints from0), .nils]]]) ?_ rfl ?_ fun ⟨i, ver, ws, σ⟩ ⟨hi, hgo, hI, hUq, hG, hok⟩ ih => ?_
  · simp [keep, hS0]
  · have hlen0 : q < (σ0 ++ [AObj.arr 0 140 2 [.agg [.list (ints from0), .nils]]]).length := by simp [← hq]
    have hU0 : ¬ U (S 0).2 q := fun h => by
      rw [hS0] at h
      have := hIlt _ _ _ hI0 h
      omega
    refine ⟨Nat.zero_le _, fun j _ h => by omega, ?_, hU0, ?_, ?_⟩
    · show I (S 0).2 _
      rw [hS0]
      refine hIk a0 σ0 _ hI0 (fun id hid => ?_) (by simp)
      rw [List.getElem?_append_left (hIlt _ _ _ hI0 hid)]
    · show QG _ _ q 0 [.nils] (S 0).1
      rw [hS0]
      refine ⟨by simp [← hq, qcell], rfl, fun i w m hw hm => .inl ⟨?_, ?_⟩⟩
      · have := List.mem_of_getElem? hw; simpa using this
      · have := List.mem_of_getElem? hm
        simp only [List.mem_singleton] at this; rw [this]
    · intro m hm
      have hm : m ∈ (S 0).1 := hm
      show okp m.1 ∧ m.2.length + 1 ≤ (S 0).1.length
      rw [hS0] at hm ⊢
      simp only [List.mem_singleton] at hm
      subst hm
      exact ⟨hok0, by simp⟩
  · simp only at hi hgo hI hUq hG hok
    have hBi := hB i
    have hout := hG.out
    have hqlt := (List.getElem?_eq_some_iff.1 hout).1
    have hzl : (List.zipWith qcell ws (S i).1).length = (S i).1.length := by simp [hG.len]
    try simp only [OpK_eq, hout, hzl, go_sem]
    refine ⟨fun h1 => ?_, fun h1 => ?_⟩
    · have hil : i < (S i).1.length := by omega
      obtain ⟨w, hw, hcell, hW⟩ := hG.cell hil
      have hSi := hSs i hil
      have hmem := hok _ (List.getElem_mem hil)
      generalize hm : (S i).1[i] = m at *
      have hsub : subC (qcell w m).cs 0 2 = [.list (ints m.1), w] := subC2 _ _
      have hput : putC [.nils, .nils] 0 [.list (ints m.1), w] = [PV.list (ints m.1), w] := putC2 _ _ _ _
      have hwok : [PV.list (ints m.1), w].all PV.ok = true := by rcases hW with ⟨rfl, _⟩ | ⟨_, _, rfl, _⟩ <;> simp [PV.ok]
      refine ⟨⟨h1, Nat.le_refl _⟩, hil, fun x hx => ?_⟩
      rw [hcell] at hx; cases hx
      rw [hsub, hput, subC2]
      refine ⟨Nat.le_refl _, ⟨rfl, hwok⟩, Nat.le_refl _, ?_⟩
      have hlt1 : ∀ id, id < σ.length → (σ ++ [AObj.box [.list (ints m.1), w]])[id]? = σ[id]? := fun id h => List.getElem?_append_left h
      have hI1 : I (S i).2 (σ ++ [AObj.box [.list (ints m.1), w]]) := hIk _ _ _ hI (fun id hid => hlt1 id (hIlt _ _ _ hI hid)) (by simp)
      have hW1 : Wd (σ ++ [AObj.box [.list (ints m.1), w]]) (U (S i).2) w m.2 := hW.keep fun id hid hA => ⟨hlt1 id hid, fun hu => hA (.inl hu)⟩
      refine heach _ _ m.1 w m.2 hmem.1 hI1 hW1 _ (fun hgt σ' hI' hle hkeep => ?_) (fun hgf σ' hD => ?_)
      · have hb10 : σ'[σ.length]? = some (.box [.list (ints m.1), w]) := by
          rw [(hkeep σ.length (by simp) (fun hu => by have := hIlt _ _ _ hI hu; omega)).1]
          simp
        have hUb : ¬ U (nx (S i).2 m.1) σ.length := (hkeep σ.length (by simp) (fun hu => by have := hIlt _ _ _ hI hu; omega)).2
        have hkeep2 : ∀ id, id < σ.length → ¬ U (S i).2 id → σ'[id]? = σ[id]? ∧ ¬ U (nx (S i).2 m.1) id := fun id hid hu => by
          obtain ⟨k1, k2⟩ := hkeep id (by simp; omega) hu
          exact ⟨k1.trans (hlt1 id hid), k2⟩
        have hG' := hG.keep hUq hkeep2
        have hUq' := (hkeep2 q hqlt hUq).2
        have hW' : Wd σ' (fun id => U (nx (S i).2 m.1) id ∨ id = q) w m.2 := hW.keep fun id hid hA => by
          simp only [not_or] at hA ⊢
          exact ⟨(hkeep2 id hid hA.1).1, (hkeep2 id hid hA.1).2, hA.2⟩
        have hgo' : ∀ j (h : j < (S j).1.length), j < i + 1 → go (S j).2 (S j).1[j].1 = true := fun j h hj => by
          by_cases e : j = i
          · subst e; rw [hm]; exact hgt
          · exact hgo j h (by omega)
        have hbq : σ.length ≠ q := by omega
        generalize hb : σ.length = b at *
        generalize ha' : nx (S i).2 m.1 = a' at *
        clear hkeep hkeep2 hI1 hW1 hlt1 hG hI hW hcell hw hout hzl
        clear hb hqlt
        try simp only [OpK_eq, List.length_map, go_sem]
        have hadvB : ∀ k, k ≤ fs.length → (advN fs bf (S i).1 m k).length ≤ N := fun k hk => by
          have h1 := advN_mono fs bf (S i).1 m hk
          have h2 := hB (i + 1)
          rw [hSi] at h2
          exact Nat.le_trans h1 h2
        refine KL_ind k110_b0.eq_1 (fun x : Nat × Nat × List PV × Heap => [(0, .list (aggs (fs.map mp))), (2, .fn (.func bid) [] []), (3, .fn (.func eid) [] caps), (8, .ref q x.2.1 0 (advN fs bf (S i).1 m x.1).length), (9, .int .i64 i), (10, .ptr b 0), (31, .list (aggs (fs.map mp))), (32, .int .i64 fs.length), (33, .int .i64 x.1)]) (fun x => x.2.2.2)
          (fun x => x.1 ≤ fs.length ∧ I a' x.2.2.2 ∧ QG x.2.2.2 (U a') q x.2.1 x.2.2.1 (advN fs bf (S i).1 m x.1) ∧ x.2.2.2[b]? = some (.box [.list (ints m.1), w]) ∧ Wd x.2.2.2 (fun id => U a' id ∨ id = q) w m.2 ∧ (∀ y ∈ advN fs bf (S i).1 m x.1, okp y.1 ∧ y.2.length + 1 ≤ (advN fs bf (S i).1 m x.1).length)) (fun x => fs.length - x.1) [0, 2, 3, 8, 9, 10, 31, 32, 33]
          (0, ver, ws, σ') (by rfl) rfl ⟨Nat.zero_le _, hI', hG', hb10, hW', hok⟩ fun ⟨k, ver2, ws2, τ⟩ ⟨hk, hI2, hG2, hb2, hW2, hok2⟩ ihk => ?_
        simp only at hk hI2 hG2 hb2 hW2 hok2
        clear hI' hG' hb10 hW' hok hle
        have hsucc := advN_succ fs bf (S i).1 m k
        have hlenB := hadvB k hk
        have hmlen := hmem.2
        generalize hL : advN fs bf (S i).1 m k = L at *
        have hout := hG2.out
        have hblt := (List.getElem?_eq_some_iff.1 hb2).1
        have hqlt := (List.getElem?_eq_some_iff.1 hout).1
        try simp only [OpK_eq, List.length_map, go_sem]
        refine ⟨fun h3 => ?_, fun h3 => ?_⟩
        · have hkl : k < fs.length := by omega
          have hfk := hf _ (List.getElem_mem hkl)
          have h6 := hfk.mp_len
          have hgk : (fs.map mp).getD k [] = mp fs[k] := by simp [List.getD_eq_getElem?_getD, hkl]
          rw [hgk]
          try simp only [OpK_eq, h6, go_sem]
          refine ⟨h3, fun _ => ?_⟩
          have hbx : ∀ X, (τ ++ X)[b]? = some (.box [.list (ints m.1), w]) := fun X => (List.getElem?_append_left hblt).trans hb2
          have ht0 : ∀ (x : AObj) X, (τ ++ x :: X)[τ.length]? = some x := fun x X => by simp
          have ht1 : ∀ (x y : AObj) X, (τ ++ x :: y :: X)[τ.length + 1]? = some y := fun x y X => by
            rw [List.getElem?_append_right (by omega)]; simp
          have hs0 : ∀ (x z : AObj) X, (τ ++ x :: X).set τ.length z = τ ++ z :: X := fun x z X => by
            rw [List.set_append_right _ _ (Nat.le_refl _)]; simp
          have hs1 : ∀ (x y z : AObj) X, (τ ++ x :: y :: X).set (τ.length + 1) z = τ ++ x :: z :: X := fun x y z X => by
            rw [List.set_append_right _ _ (by omega)]; simp
          try simp only [OpK_eq, h6, hbx, HKv, List.append_assoc, List.cons_append, List.nil_append, ht0, ht1, hs0, hs1, go_sem]
          refine (hby _ (List.getElem_mem hkl) m.1 hmem.1).go ?_
          have hnx := hokb _ (List.getElem_mem hkl) m.1 hmem.1
          have hgf : fs.getD k [] = fs[k] := by simp [List.getD_eq_getElem?_getD, hkl]
          rw [hgf] at hsucc
          generalize hnxe : bf fs[k] m.1 = nxp at *
          try simp only [OpK_eq, h6, hbx, HKv, List.append_assoc, List.cons_append, List.nil_append, ht0, ht1, hs0, hs1, go_sem]
          have hG3 : ∀ X, QG (τ ++ X) (U a') q ver2 ws2 L := fun X => hG2.keep hUq' fun id hid hu => ⟨List.getElem?_append_left hid, hu⟩
          have hW3 : ∀ X, Wd (τ ++ X) (fun id => U a' id ∨ id = q) w m.2 := fun X => hW2.keep fun id hid hu => ⟨List.getElem?_append_left hid, hu⟩
          have hI3 : ∀ X, I a' (τ ++ X) := fun X => hIk _ _ _ hI2 (fun id hid => List.getElem?_append_left (hIlt _ _ _ hI2 hid)) (by simp)
          refine (p132 L (by omega) 133 [.fptr [.list (ints nxp)] 0] (fun x => decide (x.1 = nxp)) (fun x hx => p133 x nxp (by have := hokl _ hnx; omega) (by have := hokl _ (hok2 x hx).1; omega))).lend (.cons (hG3 _).imm (.cons (Imm.fnc _ (.cons (Imm.ptr (τ.length + 1) 0 [.list (ints nxp)] [.list (ints nxp)] (ht1 _ _ _) rfl (by simp [PV.ok]) (fun j c d hc hd => by rw [hc] at hd; cases hd; have := List.mem_of_getElem? hc; simp only [List.mem_singleton] at this; subst this; exact .still)) (.nil _))) (.nil _))) ?_
          cases hany : L.any (fun x => decide (x.1 = nxp)) with
          | true =>
            rw [if_pos hany] at hsucc
            try simp only [OpK_eq, go_sem]
            refine ⟨by omega, ihk (k + 1, ver2, ws2, τ ++ _) ⟨by show k + 1 ≤ fs.length; omega, hI3 _, ?_, hbx _, hW3 _, ?_⟩ (by show fs.length - (k + 1) < fs.length - k; omega) _ _ ?_ rfl⟩
            · show QG _ _ q ver2 ws2 (advN fs bf (S i).1 m (k + 1))
              rw [hsucc]; exact hG3 _
            · show ∀ y ∈ advN fs bf (S i).1 m (k + 1), _ ∧ _ ≤ (advN fs bf (S i).1 m (k + 1)).length
              rw [hsucc]; exact hok2
            · simp [keep, hsucc]
          | false =>
            rw [if_neg (by rw [hany]; simp)] at hsucc
            have hlenB1 := hadvB (k + 1) (by omega)
            rw [hsucc, List.length_append, List.length_singleton] at hlenB1
            have hnext : ∀ ver' w' ρ, I a' ρ → QG ρ (U a') q ver' (ws2 ++ [w']) (L ++ [(nxp, m.2 ++ [(k : Int)])]) → ρ[b]? = some (.box [.list (ints m.1), w]) → Wd ρ (fun id => U a' id ∨ id = q) w m.2 → ∀ env, keep [0, 2, 3, 8, 9, 10, 31, 32, 33] env = [(0, .list (aggs (fs.map mp))), (2, .fn (.func bid) [] []), (3, .fn (.func eid) [] caps), (8, .ref q ver' 0 (L.length + 1)), (9, .int .i64 i), (10, .ptr b 0), (31, .list (aggs (fs.map mp))), (32, .int .i64 fs.length), (33, .int .i64 (k + 1 : Nat))] → KL (mkCfg Tryz.prog mixed [53, 56] 59 q) k110_b0 _ env ρ := fun ver' w' ρ q1 q2 q3 q4 env q5 =>
              ihk (k + 1, ver', ws2 ++ [w'], ρ) ⟨by show k + 1 ≤ fs.length; omega, q1, by show QG ρ _ q ver' _ (advN fs bf (S i).1 m (k + 1)); rw [hsucc]; exact q2, q3, q4, by
                show ∀ y ∈ advN fs bf (S i).1 m (k + 1), _ ∧ _ ≤ (advN fs bf (S i).1 m (k + 1)).length
                rw [hsucc]
                intro y hy
                rw [List.length_append, List.length_singleton]
                rcases List.mem_append.1 hy with hy | hy
                · have := hok2 y hy; exact ⟨this.1, by omega⟩
                · simp only [List.mem_singleton] at hy; subst hy
                  refine ⟨hnx, ?_⟩
                  simp only [List.length_append, List.length_singleton]
                  have hmono := advN_mono fs bf (S i).1 m (Nat.zero_le k)
                  rw [hL] at hmono
                  have e : advN fs bf (S i).1 m 0 = (S i).1 := rfl
                  rw [e] at hmono
                  omega⟩ (by show fs.length - (k + 1) < fs.length - k; omega) env ρ (by rw [q5, hsucc]; simp) rfl
            clear ih ihk
            have hpush : ∀ X w', Wd (τ ++ X) (fun id => U a' id ∨ id = q) w' (m.2 ++ [(k : Int)]) → ∀ K' : PV → Heap → Prop,
                (∀ ρ, I a' ρ → QG ρ (U a') q (ver2 + 1) (ws2 ++ [w']) (L ++ [(nxp, m.2 ++ [(k : Int)])]) → ρ[b]? = some (.box [.list (ints m.1), w]) → Wd ρ (fun id => U a' id ∨ id = q) w m.2 → K' (.ref q (ver2 + 1) 0 (L.length + 1)) ρ) →
                aApp 140 2 (.ref q ver2 0 L.length) (.list [.agg [.list (ints nxp), w']]) (τ ++ X) K' := fun X w' hw' K' hK' =>
              (hG3 X).push hw' (by omega) fun hQ => by
                refine hK' _ ?_ hQ ?_ ?_
                · refine hIk _ _ _ (hI3 X) (fun id hid => List.getElem?_set_ne ?_) (by simp)
                  rintro rfl; exact hUq' hid
                · rw [List.getElem?_set_ne (Ne.symm hbq)]; exact hbx X
                · refine (hW3 X).keep fun id _ hA => ⟨List.getElem?_set_ne ?_, hA⟩
                  rintro rfl; exact hA (.inr rfl)
            have ht2 : ∀ (x y z : AObj) X, (τ ++ x :: y :: z :: X)[τ.length + 2]? = some z := fun x y z X => by
              rw [List.getElem?_append_right (by omega)]; simp
            have hs2 : ∀ (x y z u : AObj) X, (τ ++ x :: y :: z :: X).set (τ.length + 2) u = τ ++ x :: y :: u :: X := fun x y z u X => by
              rw [List.set_append_right _ _ (by omega)]; simp
            have hwd : ∀ (x y : AObj) vr l, Wd (τ ++ [x, y, .arr vr 2 1 (ints l)]) (fun id => U a' id ∨ id = q) (.ref (τ.length + 2) vr 0 l.length) l := fun x y vr l => by
              refine .inr ⟨_, vr, rfl, ht2 _ _ _ _, fun h => ?_⟩
              rcases h with h | h
              · have := hIlt _ _ _ hI2 h; omega
              · omega
            have hwd1 : ∀ (x y : AObj), Wd (τ ++ [x, y, .arr 2 2 1 (ints (m.2 ++ [(k : Int)]))]) (fun id => U a' id ∨ id = q) (.ref (τ.length + 2) 2 0 (m.2.length + 1)) (m.2 ++ [(k : Int)]) := fun x y => by
              have := hwd x y 2 (m.2 ++ [(k : Int)])
              rwa [List.length_append, List.length_singleton] at this
            have hwd0 : m.2 = [] → ∀ (x y : AObj), Wd (τ ++ [x, y, .arr 0 2 1 [.int .i64 k]]) (fun id => U a' id ∨ id = q) (.ref (τ.length + 2) 0 0 1) (m.2 ++ [(k : Int)]) := fun h0 x y => by
              rw [h0]; exact hwd x y 0 [(k : Int)]
            generalize hvq : PV.ref q ver2 0 L.length = vq at *
            try simp only [OpK_eq, hbx, HKv, ht0, ht1, go_sem]
            iterate 8
              all_goals (try (rw [vT_alt]; refine ⟨?_, ?_⟩))
              all_goals (try (try simp only [OpK_eq, hbx, HKv, ht0, ht1, go_sem] ))
            all_goals (refine ACall.lend (p107P m.2 (by omega)) (.cons (hW3 _).imm (.nil _)) fun v s hv => ?_)
            all_goals (rcases hv with ⟨rfl, rfl⟩ | ⟨hl0, rfl, rfl⟩)
            all_goals (first | refine ⟨⟨free_ref _ _ _ _, Free.ints _ _ _ _⟩, ?_⟩ | refine ⟨⟨Plain.nils.fr, Free.nil⟩, ?_⟩)
            all_goals (try (try simp only [OpK_eq, hbx, HKv, ht0, ht1, ht2, hs2, ren_ref, List.append_assoc, List.cons_append, List.nil_append, go_sem] ))
            iterate 8
              all_goals (try (rw [vT_alt]; refine ⟨?_, ?_⟩))
              all_goals (try (try simp only [OpK_eq, hbx, HKv, ht0, ht1, ht2, hs2, ren_ref, List.append_assoc, List.cons_append, List.nil_append, go_sem] ))
            all_goals (first | refine ⟨⟨Nat.le_refl _, by omega⟩, hpush [_, _, _] _ (hwd1 _ _) _ fun ρ q1 q2 q3 q4 => ?_⟩ | refine hpush [_, _, _] _ (hwd0 hl0 _ _) _ fun ρ q1 q2 q3 q4 => ?_)
            all_goals (try simp only [OpK_eq, go_sem] )
            all_goals exact ⟨by omega, hnext (ver2 + 1) _ ρ q1 q2 q3 q4 _ (by simp [keep])⟩
        · have hke : k = fs.length := by omega
          subst hke
          try simp only [go_sem]
          refine ⟨by omega, ih (i + 1, ver2, ws2, τ) ⟨?_, hgo', ?_, ?_, ?_, ?_⟩ (by show N + 1 - (i + 1) < N + 1 - i; omega) _ _ ?_ rfl⟩
          · show i + 1 ≤ (S (i + 1)).1.length
            rw [hSi]
            have := advN_mono fs bf (S i).1 m (Nat.zero_le fs.length)
            have e : advN fs bf (S i).1 m 0 = (S i).1 := rfl
            rw [e] at this
            show i + 1 ≤ (advN fs bf (S i).1 m fs.length).length
            omega
          · show I (S (i + 1)).2 τ
            rw [hSi]; exact hI2
          · show ¬ U (S (i + 1)).2 q
            rw [hSi]; exact hUq'
          · show QG τ (U (S (i + 1)).2) q ver2 ws2 (S (i + 1)).1
            rw [hSi, hL]; exact hG2
          · show ∀ y ∈ (S (i + 1)).1, okp y.1 ∧ y.2.length + 1 ≤ (S (i + 1)).1.length
            rw [hSi, hL]; exact hok2
          · rw [hSi, hL]; simp [keep]
      · try simp only [OpK_eq, go_sem]
        exact Kv.Fin.now (hK1 i hil (by rw [hm]; exact hgf) hgo σ' (by rw [hm]; exact hD))
    · have hie : i = (S i).1.length := by omega
      exact Kv.Fin.now (hK2 i hie hgo σ hI)
end Go.Proofs.YtpihikppdeecmaaGreat
end
section
/- The search again: the caller's state may hang on the heap. -/
namespace Go.Proofs.YtpihikppdeecmaaGreat
open Go.Kv
set_option linter.unusedVariables false
set_option linter.unusedSimpArgs false
attribute [local irreducible] ACall PCall KL
/-- The queue behind i met lists. -/
def bl (fs : List (List Nat)) (bf : List Nat → List Int → List Int) (p : List Int) : Nat → List Met
  | 0 => [(p, [])]
  | i + 1 => match (bl fs bf p i)[i]? with
    | some m => advN fs bf (bl fs bf p i) m fs.length
    | none => bl fs bf p i
theorem bl_succ {fs : List (List Nat)} {bf : List Nat → List Int → List Int} {p : List Int} {i : Nat} (h : i < (bl fs bf p i).length) : bl fs bf p (i + 1) = advN fs bf (bl fs bf p i) (bl fs bf p i)[i] fs.length := by
  have : (bl fs bf p i)[i]? = some (bl fs bf p i)[i] := List.getElem?_eq_getElem h
  rw [bl, this]
set_option maxHeartbeats 4000000 in
theorem p110J {α : Type} (fs : List (List Nat)) (n : Nat) (hf : ∀ f ∈ fs, Ok f n) (hfl : fs.length ≤ 1000) (bid eid : FuncId) (caps : List PV) (bf : List Nat → List Int → List Int) (okp : List Int → Prop)
    (hokl : ∀ p, okp p → p.length ≤ 1000) (hokb : ∀ f ∈ fs, ∀ p, okp p → okp (bf f p))
    (hby : ∀ f ∈ fs, ∀ p, okp p → Pure Tryz.prog bid [.agg (ints (mp f)), .list (ints p)] (.list (ints (bf f p))))
    (I : α → Heap → Prop) (U : α → Nat → Prop) (nx : α → List Int → α → Prop) (go : α → List Int → Bool) (D : α → List Int → List Int → Heap → Prop)
    (hIlt : ∀ a σ id, I a σ → U a id → id < σ.length) (hIk : ∀ a σ σ', I a σ → (∀ id, U a id → σ'[id]? = σ[id]?) → σ.length ≤ σ'.length → I a σ')
    (N : Nat) (J : Nat → α → Prop)
    (heach : ∀ i a σ p w l, J i a → i ≤ N → okp p → I a σ → Wd σ (U a) w l → ∀ K : PV → Heap → Prop,
      (go a p = true → ∀ a' σ', nx a p a' → I a' σ' → σ.length ≤ σ'.length → (∀ id, id < σ.length → ¬ U a id → σ'[id]? = σ[id]? ∧ ¬ U a' id) → K (.bool true) σ') →
      (go a p = false → ∀ σ', D a p l σ' → K (.bool false) σ') → ACall Tryz.prog eid (.agg [.list (ints p), w] :: caps) σ K)
    (a0 : α) (from0 : List Int) (hok0 : okp from0) (hN : N ≤ 1000) (hB : ∀ i, (bl fs bf from0 i).length ≤ N) (hJ0 : J 0 a0) (hJs : ∀ i a a' (h : i < (bl fs bf from0 i).length), J i a → go a (bl fs bf from0 i)[i].1 = true → nx a (bl fs bf from0 i)[i].1 a' → J (i + 1) a')
    (σ0 : Heap) (hI0 : I a0 σ0) (K : PV → Heap → Prop)
    (hK1 : ∀ i a (h : i < (bl fs bf from0 i).length), J i a → go a (bl fs bf from0 i)[i].1 = false → ∀ σ', D a (bl fs bf from0 i)[i].1 (bl fs bf from0 i)[i].2 σ' → K (.tup []) σ')
    (hK2 : ∀ i a, i = (bl fs bf from0 i).length → J i a → ∀ σ', I a σ' → K (.tup []) σ') :
    ACall Tryz.prog 110 [.list (aggs (fs.map mp)), .list (ints from0), .fn (.func bid) [] [], .fn (.func eid) [] caps] σ0 K := by
  generalize hs : bl fs bf from0 = S at *
  have hS0 : S 0 = [(from0, [])] := by rw [← hs]; rfl
  have hSs : ∀ i (h : i < (S i).length), S (i + 1) = advN fs bf (S i) (S i)[i] fs.length := by
    rw [← hs]; exact fun i h => bl_succ h
  refine e110 (by simp) fun _ _ => ?_
  simp only [k110, argEnv, go_sem]
  try simp only [go_sem]
  generalize hq : σ0.length = q at *
  refine KL_ind k110_b1.eq_1 (fun x : Nat × Nat × List PV × α × Heap => [(0, .list (aggs (fs.map mp))), (2, .fn (.func bid) [] []), (3, .fn (.func eid) [] caps), (8, .ref q x.2.1 0 (S x.1).length), (9, .int .i64 x.1)]) (fun x => x.2.2.2.2)
    (fun x => x.1 ≤ (S x.1).length ∧ J x.1 x.2.2.2.1 ∧ I x.2.2.2.1 x.2.2.2.2 ∧ ¬ U x.2.2.2.1 q ∧ QG x.2.2.2.2 (U x.2.2.2.1) q x.2.1 x.2.2.1 (S x.1) ∧ (∀ m ∈ S x.1, okp m.1 ∧ m.2.length + 1 ≤ (S x.1).length)) (fun x => N + 1 - x.1) [0, 2, 3, 8, 9]
    (0, 0, [.nils], a0, σ0 ++ [.arr 0 140 2 [.agg [.list (ints from0), .nils]]]) ?_ rfl ?_ fun ⟨i, ver, ws, a, σ⟩ ⟨hi, hJ, hI, hUq, hG, hok⟩ ih => ?_
  · simp [keep, hS0]
  · have hlen0 : q < (σ0 ++ [AObj.arr 0 140 2 [.agg [.list (ints from0), .nils]]]).length := by simp [← hq]
    have hU0 : ¬ U a0 q := fun h => by
      have := hIlt _ _ _ hI0 h
      omega
    refine ⟨Nat.zero_le _, hJ0, ?_, hU0, ?_, ?_⟩
    · show I a0 _
      refine hIk a0 σ0 _ hI0 (fun id hid => ?_) (by simp)
      rw [List.getElem?_append_left (hIlt _ _ _ hI0 hid)]
    · show QG _ _ q 0 [.nils] (S 0)
      rw [hS0]
      refine ⟨by simp [← hq, qcell], rfl, fun i w m hw hm => .inl ⟨?_, ?_⟩⟩
      · have := List.mem_of_getElem? hw; simpa using this
      · have := List.mem_of_getElem? hm
        simp only [List.mem_singleton] at this; rw [this]
    · intro m hm
      have hm : m ∈ S 0 := hm
      show okp m.1 ∧ m.2.length + 1 ≤ (S 0).length
      rw [hS0] at hm ⊢
      simp only [List.mem_singleton] at hm
      subst hm
      exact ⟨hok0, by simp⟩
  · simp only at hi hJ hI hUq hG hok
    have hBi := hB i
    have hout := hG.out
    have hqlt := (List.getElem?_eq_some_iff.1 hout).1
    have hzl : (List.zipWith qcell ws (S i)).length = (S i).length := by simp [hG.len]
    try simp only [OpK_eq, hout, hzl, go_sem]
    refine ⟨fun h1 => ?_, fun h1 => ?_⟩
    · have hil : i < (S i).length := by omega
      obtain ⟨w, hw, hcell, hW⟩ := hG.cell hil
      have hSi := hSs i hil
      have hmem := hok _ (List.getElem_mem hil)
      generalize hm : (S i)[i] = m at *
      have hsub : subC (qcell w m).cs 0 2 = [.list (ints m.1), w] := subC2 _ _
      have hput : putC [.nils, .nils] 0 [.list (ints m.1), w] = [PV.list (ints m.1), w] := putC2 _ _ _ _
      have hwok : [PV.list (ints m.1), w].all PV.ok = true := by rcases hW with ⟨rfl, _⟩ | ⟨_, _, rfl, _⟩ <;> simp [PV.ok]
      refine ⟨⟨h1, Nat.le_refl _⟩, hil, fun x hx => ?_⟩
      rw [hcell] at hx; cases hx
      rw [hsub, hput, subC2]
      refine ⟨Nat.le_refl _, ⟨rfl, hwok⟩, Nat.le_refl _, ?_⟩
      have hlt1 : ∀ id, id < σ.length → (σ ++ [AObj.box [.list (ints m.1), w]])[id]? = σ[id]? := fun id h => List.getElem?_append_left h
      have hI1 : I a (σ ++ [AObj.box [.list (ints m.1), w]]) := hIk _ _ _ hI (fun id hid => hlt1 id (hIlt _ _ _ hI hid)) (by simp)
      have hW1 : Wd (σ ++ [AObj.box [.list (ints m.1), w]]) (U a) w m.2 := hW.keep fun id hid hA => ⟨hlt1 id hid, fun hu => hA (.inl hu)⟩
      refine heach i _ _ m.1 w m.2 hJ (by omega) hmem.1 hI1 hW1 _ (fun hgt a' σ' hnx hI' hle hkeep => ?_) (fun hgf σ' hD => ?_)
      · have hb10 : σ'[σ.length]? = some (.box [.list (ints m.1), w]) := by
          rw [(hkeep σ.length (by simp) (fun hu => by have := hIlt _ _ _ hI hu; omega)).1]
          simp
        have hUb : ¬ U (a') σ.length := (hkeep σ.length (by simp) (fun hu => by have := hIlt _ _ _ hI hu; omega)).2
        have hkeep2 : ∀ id, id < σ.length → ¬ U a id → σ'[id]? = σ[id]? ∧ ¬ U (a') id := fun id hid hu => by
          obtain ⟨k1, k2⟩ := hkeep id (by simp; omega) hu
          exact ⟨k1.trans (hlt1 id hid), k2⟩
        have hG' := hG.keep hUq hkeep2
        have hUq' := (hkeep2 q hqlt hUq).2
        have hW' : Wd σ' (fun id => U (a') id ∨ id = q) w m.2 := hW.keep fun id hid hA => by
          simp only [not_or] at hA ⊢
          exact ⟨(hkeep2 id hid hA.1).1, (hkeep2 id hid hA.1).2, hA.2⟩
        have hJ' : J (i + 1) a' := hJs i a a' hil hJ (by rw [hm]; exact hgt) (by rw [hm]; exact hnx)
        have hbq : σ.length ≠ q := by omega
        generalize hb : σ.length = b at *
        clear hkeep hkeep2 hI1 hW1 hlt1 hG hI hW hcell hw hout hzl
        clear hb hqlt
        try simp only [OpK_eq, List.length_map, go_sem]
        have hadvB : ∀ k, k ≤ fs.length → (advN fs bf (S i) m k).length ≤ N := fun k hk => by
          have h1 := advN_mono fs bf (S i) m hk
          have h2 := hB (i + 1)
          rw [hSi] at h2
          exact Nat.le_trans h1 h2
        refine KL_ind k110_b0.eq_1 (fun x : Nat × Nat × List PV × Heap => [(0, .list (aggs (fs.map mp))), (2, .fn (.func bid) [] []), (3, .fn (.func eid) [] caps), (8, .ref q x.2.1 0 (advN fs bf (S i) m x.1).length), (9, .int .i64 i), (10, .ptr b 0), (31, .list (aggs (fs.map mp))), (32, .int .i64 fs.length), (33, .int .i64 x.1)]) (fun x => x.2.2.2)
          (fun x => x.1 ≤ fs.length ∧ I a' x.2.2.2 ∧ QG x.2.2.2 (U a') q x.2.1 x.2.2.1 (advN fs bf (S i) m x.1) ∧ x.2.2.2[b]? = some (.box [.list (ints m.1), w]) ∧ Wd x.2.2.2 (fun id => U a' id ∨ id = q) w m.2 ∧ (∀ y ∈ advN fs bf (S i) m x.1, okp y.1 ∧ y.2.length + 1 ≤ (advN fs bf (S i) m x.1).length)) (fun x => fs.length - x.1) [0, 2, 3, 8, 9, 10, 31, 32, 33]
          (0, ver, ws, σ') (by rfl) rfl ⟨Nat.zero_le _, hI', hG', hb10, hW', hok⟩ fun ⟨k, ver2, ws2, τ⟩ ⟨hk, hI2, hG2, hb2, hW2, hok2⟩ ihk => ?_
        simp only at hk hI2 hG2 hb2 hW2 hok2
        clear hI' hG' hb10 hW' hok hle
        have hsucc := advN_succ fs bf (S i) m k
        have hlenB := hadvB k hk
        have hmlen := hmem.2
        generalize hL : advN fs bf (S i) m k = L at *
        have hout := hG2.out
        have hblt := (List.getElem?_eq_some_iff.1 hb2).1
        have hqlt := (List.getElem?_eq_some_iff.1 hout).1
        try simp only [OpK_eq, List.length_map, go_sem]
        refine ⟨fun h3 => ?_, fun h3 => ?_⟩
        · have hkl : k < fs.length := by omega
          have hfk := hf _ (List.getElem_mem hkl)
          have h6 := hfk.mp_len
          have hgk : (fs.map mp).getD k [] = mp fs[k] := by simp [List.getD_eq_getElem?_getD, hkl]
          rw [hgk]
          try simp only [OpK_eq, h6, go_sem]
          refine ⟨h3, fun _ => ?_⟩
          have hbx : ∀ X, (τ ++ X)[b]? = some (.box [.list (ints m.1), w]) := fun X => (List.getElem?_append_left hblt).trans hb2
          have ht0 : ∀ (x : AObj) X, (τ ++ x :: X)[τ.length]? = some x := fun x X => by simp
          have ht1 : ∀ (x y : AObj) X, (τ ++ x :: y :: X)[τ.length + 1]? = some y := fun x y X => by
            rw [List.getElem?_append_right (by omega)]; simp
          have hs0 : ∀ (x z : AObj) X, (τ ++ x :: X).set τ.length z = τ ++ z :: X := fun x z X => by
            rw [List.set_append_right _ _ (Nat.le_refl _)]; simp
          have hs1 : ∀ (x y z : AObj) X, (τ ++ x :: y :: X).set (τ.length + 1) z = τ ++ x :: z :: X := fun x y z X => by
            rw [List.set_append_right _ _ (by omega)]; simp
          try simp only [OpK_eq, h6, hbx, HKv, List.append_assoc, List.cons_append, List.nil_append, ht0, ht1, hs0, hs1, go_sem]
          refine (hby _ (List.getElem_mem hkl) m.1 hmem.1).go ?_
          have hnx := hokb _ (List.getElem_mem hkl) m.1 hmem.1
          have hgf : fs.getD k [] = fs[k] := by simp [List.getD_eq_getElem?_getD, hkl]
          rw [hgf] at hsucc
          generalize hnxe : bf fs[k] m.1 = nxp at *
          try simp only [OpK_eq, h6, hbx, HKv, List.append_assoc, List.cons_append, List.nil_append, ht0, ht1, hs0, hs1, go_sem]
          have hG3 : ∀ X, QG (τ ++ X) (U a') q ver2 ws2 L := fun X => hG2.keep hUq' fun id hid hu => ⟨List.getElem?_append_left hid, hu⟩
          have hW3 : ∀ X, Wd (τ ++ X) (fun id => U a' id ∨ id = q) w m.2 := fun X => hW2.keep fun id hid hu => ⟨List.getElem?_append_left hid, hu⟩
          have hI3 : ∀ X, I a' (τ ++ X) := fun X => hIk _ _ _ hI2 (fun id hid => List.getElem?_append_left (hIlt _ _ _ hI2 hid)) (by simp)
          refine (p132 L (by omega) 133 [.fptr [.list (ints nxp)] 0] (fun x => decide (x.1 = nxp)) (fun x hx => p133 x nxp (by have := hokl _ hnx; omega) (by have := hokl _ (hok2 x hx).1; omega))).lend (.cons (hG3 _).imm (.cons (Imm.fnc _ (.cons (Imm.ptr (τ.length + 1) 0 [.list (ints nxp)] [.list (ints nxp)] (ht1 _ _ _) rfl (by simp [PV.ok]) (fun j c d hc hd => by rw [hc] at hd; cases hd; have := List.mem_of_getElem? hc; simp only [List.mem_singleton] at this; subst this; exact .still)) (.nil _))) (.nil _))) ?_
          cases hany : L.any (fun x => decide (x.1 = nxp)) with
          | true =>
            rw [if_pos hany] at hsucc
            try simp only [OpK_eq, go_sem]
            refine ⟨by omega, ihk (k + 1, ver2, ws2, τ ++ _) ⟨by show k + 1 ≤ fs.length; omega, hI3 _, ?_, hbx _, hW3 _, ?_⟩ (by show fs.length - (k + 1) < fs.length - k; omega) _ _ ?_ rfl⟩
            · show QG _ _ q ver2 ws2 (advN fs bf (S i) m (k + 1))
              rw [hsucc]; exact hG3 _
            · show ∀ y ∈ advN fs bf (S i) m (k + 1), _ ∧ _ ≤ (advN fs bf (S i) m (k + 1)).length
              rw [hsucc]; exact hok2
            · simp [keep, hsucc]
          | false =>
            rw [if_neg (by rw [hany]; simp)] at hsucc
            have hlenB1 := hadvB (k + 1) (by omega)
            rw [hsucc, List.length_append, List.length_singleton] at hlenB1
            have hnext : ∀ ver' w' ρ, I a' ρ → QG ρ (U a') q ver' (ws2 ++ [w']) (L ++ [(nxp, m.2 ++ [(k : Int)])]) → ρ[b]? = some (.box [.list (ints m.1), w]) → Wd ρ (fun id => U a' id ∨ id = q) w m.2 → ∀ env, keep [0, 2, 3, 8, 9, 10, 31, 32, 33] env = [(0, .list (aggs (fs.map mp))), (2, .fn (.func bid) [] []), (3, .fn (.func eid) [] caps), (8, .ref q ver' 0 (L.length + 1)), (9, .int .i64 i), (10, .ptr b 0), (31, .list (aggs (fs.map mp))), (32, .int .i64 fs.length), (33, .int .i64 (k + 1 : Nat))] → KL (mkCfg Tryz.prog mixed [53, 56] 59 q) k110_b0 _ env ρ := fun ver' w' ρ q1 q2 q3 q4 env q5 =>
              ihk (k + 1, ver', ws2 ++ [w'], ρ) ⟨by show k + 1 ≤ fs.length; omega, q1, by show QG ρ _ q ver' _ (advN fs bf (S i) m (k + 1)); rw [hsucc]; exact q2, q3, q4, by
                show ∀ y ∈ advN fs bf (S i) m (k + 1), _ ∧ _ ≤ (advN fs bf (S i) m (k + 1)).length
                rw [hsucc]
                intro y hy
                rw [List.length_append, List.length_singleton]
                rcases List.mem_append.1 hy with hy | hy
                · have := hok2 y hy; exact ⟨this.1, by omega⟩
                · simp only [List.mem_singleton] at hy; subst hy
                  refine ⟨hnx, ?_⟩
                  simp only [List.length_append, List.length_singleton]
                  have hmono := advN_mono fs bf (S i) m (Nat.zero_le k)
                  rw [hL] at hmono
                  have e : advN fs bf (S i) m 0 = (S i) := rfl
                  rw [e] at hmono
                  omega⟩ (by show fs.length - (k + 1) < fs.length - k; omega) env ρ (by rw [q5, hsucc]; simp) rfl
            clear ih ihk
            have hpush : ∀ X w', Wd (τ ++ X) (fun id => U a' id ∨ id = q) w' (m.2 ++ [(k : Int)]) → ∀ K' : PV → Heap → Prop,
                (∀ ρ, I a' ρ → QG ρ (U a') q (ver2 + 1) (ws2 ++ [w']) (L ++ [(nxp, m.2 ++ [(k : Int)])]) → ρ[b]? = some (.box [.list (ints m.1), w]) → Wd ρ (fun id => U a' id ∨ id = q) w m.2 → K' (.ref q (ver2 + 1) 0 (L.length + 1)) ρ) →
                aApp 140 2 (.ref q ver2 0 L.length) (.list [.agg [.list (ints nxp), w']]) (τ ++ X) K' := fun X w' hw' K' hK' =>
              (hG3 X).push hw' (by omega) fun hQ => by
                refine hK' _ ?_ hQ ?_ ?_
                · refine hIk _ _ _ (hI3 X) (fun id hid => List.getElem?_set_ne ?_) (by simp)
                  rintro rfl; exact hUq' hid
                · rw [List.getElem?_set_ne (Ne.symm hbq)]; exact hbx X
                · refine (hW3 X).keep fun id _ hA => ⟨List.getElem?_set_ne ?_, hA⟩
                  rintro rfl; exact hA (.inr rfl)
            have ht2 : ∀ (x y z : AObj) X, (τ ++ x :: y :: z :: X)[τ.length + 2]? = some z := fun x y z X => by
              rw [List.getElem?_append_right (by omega)]; simp
            have hs2 : ∀ (x y z u : AObj) X, (τ ++ x :: y :: z :: X).set (τ.length + 2) u = τ ++ x :: y :: u :: X := fun x y z u X => by
              rw [List.set_append_right _ _ (by omega)]; simp
            have hwd : ∀ (x y : AObj) vr l, Wd (τ ++ [x, y, .arr vr 2 1 (ints l)]) (fun id => U a' id ∨ id = q) (.ref (τ.length + 2) vr 0 l.length) l := fun x y vr l => by
              refine .inr ⟨_, vr, rfl, ht2 _ _ _ _, fun h => ?_⟩
              rcases h with h | h
              · have := hIlt _ _ _ hI2 h; omega
              · omega
            have hwd1 : ∀ (x y : AObj), Wd (τ ++ [x, y, .arr 2 2 1 (ints (m.2 ++ [(k : Int)]))]) (fun id => U a' id ∨ id = q) (.ref (τ.length + 2) 2 0 (m.2.length + 1)) (m.2 ++ [(k : Int)]) := fun x y => by
              have := hwd x y 2 (m.2 ++ [(k : Int)])
              rwa [List.length_append, List.length_singleton] at this
            have hwd0 : m.2 = [] → ∀ (x y : AObj), Wd (τ ++ [x, y, .arr 0 2 1 [.int .i64 k]]) (fun id => U a' id ∨ id = q) (.ref (τ.length + 2) 0 0 1) (m.2 ++ [(k : Int)]) := fun h0 x y => by
              rw [h0]; exact hwd x y 0 [(k : Int)]
            generalize hvq : PV.ref q ver2 0 L.length = vq at *
            try simp only [OpK_eq, hbx, HKv, ht0, ht1, go_sem]
            iterate 8
              all_goals (try (rw [vT_alt]; refine ⟨?_, ?_⟩))
              all_goals (try (try simp only [OpK_eq, hbx, HKv, ht0, ht1, go_sem] ))
            all_goals (refine ACall.lend (p107P m.2 (by omega)) (.cons (hW3 _).imm (.nil _)) fun v s hv => ?_)
            all_goals (rcases hv with ⟨rfl, rfl⟩ | ⟨hl0, rfl, rfl⟩)
            all_goals (first | refine ⟨⟨free_ref _ _ _ _, Free.ints _ _ _ _⟩, ?_⟩ | refine ⟨⟨Plain.nils.fr, Free.nil⟩, ?_⟩)
            all_goals (try (try simp only [OpK_eq, hbx, HKv, ht0, ht1, ht2, hs2, ren_ref, List.append_assoc, List.cons_append, List.nil_append, go_sem] ))
            iterate 8
              all_goals (try (rw [vT_alt]; refine ⟨?_, ?_⟩))
              all_goals (try (try simp only [OpK_eq, hbx, HKv, ht0, ht1, ht2, hs2, ren_ref, List.append_assoc, List.cons_append, List.nil_append, go_sem] ))
            all_goals (first | refine ⟨⟨Nat.le_refl _, by omega⟩, hpush [_, _, _] _ (hwd1 _ _) _ fun ρ q1 q2 q3 q4 => ?_⟩ | refine hpush [_, _, _] _ (hwd0 hl0 _ _) _ fun ρ q1 q2 q3 q4 => ?_)
            all_goals (try simp only [OpK_eq, go_sem] )
            all_goals exact ⟨by omega, hnext (ver2 + 1) _ ρ q1 q2 q3 q4 _ (by simp [keep])⟩
        · have hke : k = fs.length := by omega
          subst hke
          try simp only [go_sem]
          refine ⟨by omega, ih (i + 1, ver2, ws2, a', τ) ⟨?_, hJ', hI2, hUq', ?_, ?_⟩ (by show N + 1 - (i + 1) < N + 1 - i; omega) _ _ ?_ rfl⟩
          · show i + 1 ≤ (S (i + 1)).length
            rw [hSi]
            have := advN_mono fs bf (S i) m (Nat.zero_le fs.length)
            have e : advN fs bf (S i) m 0 = S i := rfl
            rw [e] at this
            omega
          · show QG τ (U a') q ver2 ws2 (S (i + 1))
            rw [hSi, hL]; exact hG2
          · show ∀ y ∈ S (i + 1), okp y.1 ∧ y.2.length + 1 ≤ (S (i + 1)).length
            rw [hSi, hL]; exact hok2
          · rw [hSi, hL]; simp [keep]
      · try simp only [OpK_eq, go_sem]
        exact Kv.Fin.now (hK1 i a hil hJ (by rw [hm]; exact hgf) σ' (by rw [hm]; exact hD))
    · have hie : i = (S i).length := by omega
      exact Kv.Fin.now (hK2 i a hie hJ σ hI)
end Go.Proofs.YtpihikppdeecmaaGreat
end
section
/- The points that are reached from one. -/
namespace Go.Proofs.YtpihikppdeecmaaGreat
open Go.Kv
set_option maxRecDepth 100000
def k60_b0 : KC := (.seq (.ops [oP 11 (.bin .lss (.t 10) (.t 9))])
  (.seq (.cond (.t 11) .skip (.exit 0))
  (.seq (.block 1 (.seq (.ops [oP 12 (.idxS 1 (.t 8) (.t 10)), oP 13 (.load false 1 (.t 12)), mV 7 13])
  (.ops [mV 14 5, mV 15 7, oP 16 (.fieldA 1 (.t 2)), oP 17 (.idxA 5 1 (.t 16) (.t 15)), oP 18 (.load false 1 (.t 17)), oP 19 (.bsl true 2 1 [(.t 18)]), oP 20 (.app (.t 14) (.t 19) 2 1), mV 5 20])))
  (.ops [oP 21 (.bin .add (.t 10) (iC 1)), mV 10 21]))))
def k60 : KC := (.seq (.ops [oP 2 (.box true (.t 0)), oP 4 (.mv (.c (.nils)))])
  (.seq (.ops [oP 5 (.mv (.c (.nils)))])
  (.seq (.seq (.ops [mV 8 1, oP 9 (.len false (.t 8)), oP 10 (.mv (iC 0))])
  (.block 0 (.loop k60_b0)))
  (.seq (.ops [mV 22 5, mV 4 22])
  .ret))))
theorem e60 : Ent 60 23 [2, 19] [.t 4] k60 := ent Tryz.func60 (by kernel_rfl) (by kernel_rfl) (by kernel_rfl) (fun _ => by kernel_rfl) (by kernel_rfl)
def k116 : KC := (.seq (.ops [oP 2 (.box true (.t 0)), oP 3 (.mv (.c (.bool false)))])
  (.seq (.draw [oP 4 (.load false 1 (.t 1)), oP 5 (.fieldA 0 (.t 2)), oP 6 (.load false 1 (.t 5)), oP 7 (.idxS 1 (.t 6) (iC 0)), oP 8 (.load false 1 (.t 7)), oP 9 (.bsl true 2 1 [(.t 8)]), oP 10 (.app (.t 4) (.t 9) 2 1), ⟨none, none, .store 1 (.t 1) (.t 10)⟩])
  (.seq (.ops [oP 3 (.mv (.c (.bool true)))])
  .ret)))
theorem e116 : Ent 116 11 [2, 9] [.t 3] k116 := ent Tryz.func116 (by kernel_rfl) (by kernel_rfl) (by kernel_rfl) (fun _ => by kernel_rfl) (by kernel_rfl)
end Go.Proofs.YtpihikppdeecmaaGreat
namespace Go.Proofs.YtpihikppdeecmaaGreat
open Go.Kv
set_option linter.unusedVariables false
set_option linter.unusedSimpArgs false
attribute [local irreducible] ACall PCall KL
def ldp (f : List Nat) (p : List Int) : List Int := p.map fun x => (f.getD x.toNat 0 : Int)
/-- One point. -/
def one (n : Nat) (p : List Int) : Prop := ∃ q, q < n ∧ p = [(q : Int)]
theorem ldp_one {f : List Nat} {n : Nat} (hf : Ok f n) {p : List Int} (h : one n p) : one n (ldp f p) := by
  obtain ⟨q, hq, rfl⟩ := h
  exact ⟨f.getD q 0, hf.get hq, by simp [ldp]⟩
theorem p60 (f : List Nat) (n : Nat) (hf : Ok f n) (p : List Int) (h : one n p) : Pure Tryz.prog 60 [.agg (ints (mp f)), .list (ints p)] (.list (ints (ldp f p))) := by
  obtain ⟨q, hq, rfl⟩ := h
  have hlf := hf.mp_len
  have h5 := hf.le
  refine e60 (by simp) fun _ _ => ?_
  simp only [k60, argEnv, hlf, go_sem]
  refine KL_ind k60_b0.eq_1 (fun x : Nat => [(2, .fptr (ints (mp f)) 0), (5, nref 0 x), (8, .list (ints [(q : Int)])), (9, .int .i64 1), (10, .int .i64 x)]) (fun x => nhp [.arr (x - 1) 2 1 (ints ((ldp f [(q : Int)]).take x))] x) (fun x => x ≤ 1) (fun x => 1 - x) [2, 5, 8, 9, 10] 0 (by rfl) (by rfl) (Nat.zero_le _) fun x hx ih => ?_
  try simp only [hlf, go_sem]
  refine ⟨fun h1 => ?_, fun h1 => ?_⟩
  · obtain rfl : x = 0 := by omega
    have hq0 : [(q : Int)].getD 0 0 = (q : Int) := rfl
    have hqt : (q : Int).toNat = q := by omega
    rw [hq0, hqt]
    have e1 : (ldp f [(q : Int)]).take 1 = [(f.getD q 0 : Int)] := by simp [ldp]
    try simp only [go_sem]
    refine ⟨by omega, by omega, fun _ => ⟨by omega, ih 1 (by omega) (by omega) _ _ (by simp [keep, nref]) ?_⟩⟩
    rw [e1]; rfl
  · obtain rfl : x = 1 := by omega
    have e1 : (ldp f [(q : Int)]).take 1 = ldp f [(q : Int)] := by simp [ldp]
    rw [e1]
    exact Kv.Fin.freeze (Imm.refn (l := ldp f [(q : Int)]) rfl (by simp [ldp])) ⟨rfl, rfl⟩
theorem p116n (σ : Heap) (q : Int) (w : PV) (h0 : σ[0]? = some (.box [.nils])) (hw : w.ok = true) (K : PV → Heap → Prop)
    (hK : K (.bool true) ((σ ++ [AObj.arr 0 2 1 (ints [q])]).set 0 (AObj.box [.ref σ.length 0 0 1]))) :
    ACall Tryz.prog 116 [.agg [.list (ints [q]), w], .ptr 0 0] σ K := by
  have hlt0 := (List.getElem?_eq_some_iff.1 h0).1
  have hwok : [PV.list (ints [q]), w].all PV.ok = true := by simp [PV.ok]; exact hw
  have hput : ∀ v, putC [PV.nils] 0 [v] = [v] := fun v => by unfold putC; first | rfl | (split <;> rfl) | simp
  have h1 : (σ ++ [AObj.arr 0 2 1 (ints [q])])[0]? = some (.box [.nils]) := (List.getElem?_append_left hlt0).trans h0
  have e : ints [q] = [PV.int .i64 q] := rfl
  rw [e] at h1 hK
  refine e116 (by simp) fun _ _ => ?_
  simp only [k116, argEnv, go_sem]
  try simp only [OpK_eq, hwok, h0, HKv, go_sem]
  refine ⟨hw, ?_⟩
  have hq0 : [q].getD 0 0 = q := rfl
  rw [hq0]
  try simp only [OpK_eq, h1, hput, HKv, go_sem]
  exact Kv.Fin.now hK
theorem p116r (σ : Heap) (q : Int) (w : PV) (a : List Int) (hl : a.length ≤ 1000) (id ver : Nat) (hid : σ[id]? = some (.arr ver 2 1 (ints a))) (hne : id ≠ 0) (h0 : σ[0]? = some (.box [.ref id ver 0 a.length])) (hw : w.ok = true) (K : PV → Heap → Prop)
    (hK : K (.bool true) ((σ.set id (.arr (ver + 1) 2 1 (ints (a ++ [q])))).set 0 (.box [.ref id (ver + 1) 0 (a.length + 1)]))) :
    ACall Tryz.prog 116 [.agg [.list (ints [q]), w], .ptr 0 0] σ K := by
  have hlt0 := (List.getElem?_eq_some_iff.1 h0).1
  have hwok : [PV.list (ints [q]), w].all PV.ok = true := by simp [PV.ok]; exact hw
  have hput : ∀ v, putC [PV.ref id ver 0 a.length] 0 [v] = [v] := fun v => by unfold putC; first | rfl | (split <;> rfl) | simp
  have h1 : ∀ o, (σ.set id o)[0]? = some (.box [.ref id ver 0 a.length]) := fun o => (List.getElem?_set_ne hne).trans h0
  refine e116 (by simp) fun _ _ => ?_
  simp only [k116, argEnv, go_sem]
  try simp only [OpK_eq, hwok, h0, HKv, go_sem]
  refine ⟨hw, ?_⟩
  have hq0 : [q].getD 0 0 = q := rfl
  rw [hq0]
  try simp only [OpK_eq, hid, h1, hput, HKv, go_sem]
  exact ⟨⟨Nat.le_refl _, by omega⟩, Kv.Fin.now hK⟩
/-- What has been reached, in order. -/
def rch (fs : List (List Nat)) (q : Nat) (i : Nat) : List Int := ((bl fs ldp [(q : Int)] i).take i).flatMap Prod.fst
/-- The caller's part of the heap: the list so far, and where it lies. -/
def RI (x : List Int × Option Nat) (σ : Heap) : Prop :=
  match x.2 with
  | none => σ[0]? = some (.box [.nils]) ∧ x.1 = []
  | some id => ∃ ver, σ[0]? = some (.box [.ref id ver 0 x.1.length]) ∧ σ[id]? = some (.arr ver 2 1 (ints x.1)) ∧ id ≠ 0
theorem advN_preE (fs : List (List Nat)) (bf : List Nat → List Int → List Int) (Q : List Met) (m : Met) : ∀ k, ∃ r, advN fs bf Q m k = Q ++ r
  | 0 => ⟨[], by simp [advN]⟩
  | k + 1 => by
    obtain ⟨r, h⟩ := advN_preE fs bf Q m k
    rw [advN_succ]
    split
    · exact ⟨r, h⟩
    · exact ⟨r ++ [(bf (fs.getD k []) m.1, m.2 ++ [(k : Int)])], by rw [h, List.append_assoc]⟩
theorem rch_succ {fs : List (List Nat)} {q i : Nat} (h : i < (bl fs ldp [(q : Int)] i).length) : rch fs q (i + 1) = rch fs q i ++ (bl fs ldp [(q : Int)] i)[i].1 := by
  unfold rch
  rw [bl_succ h]
  obtain ⟨r, hr⟩ := advN_preE fs ldp (bl fs ldp [(q : Int)] i) (bl fs ldp [(q : Int)] i)[i] fs.length
  rw [hr, List.take_append_of_le_length (by omega), List.take_succ_eq_append_getElem h, List.flatMap_append]
  simp
end Go.Proofs.YtpihikppdeecmaaGreat
end
section
/- The points that are reached: the walk. -/
namespace Go.Proofs.YtpihikppdeecmaaGreat
open Go.Kv
set_option maxRecDepth 100000
def k71 : KC := (.seq (.ops [oP 4 (.mv (.c (.nils)))])
  (.seq (.ops [oP 5 (.alloc [.nils])])
  (.seq (.ops [mV 6 0, mV 7 1, oP 8 (.bsl false 2 1 [(.t 7)]), oP 9 (.mkfn (.func 116) [] [(.t 5)]), oP 10 (.call (fC 110) [(.t 6), (.t 8), (fC 60), (.t 9)])])
  (.seq (.ops [oP 11 (.load false 1 (.t 5)), mV 4 11])
  .ret))))
theorem e71 : Ent 71 12 [] [.t 4] k71 := ent Tryz.func71 (by kernel_rfl) (by kernel_rfl) (by kernel_rfl) (fun _ => by kernel_rfl) (by kernel_rfl)
end Go.Proofs.YtpihikppdeecmaaGreat
namespace Go.Proofs.YtpihikppdeecmaaGreat
open Go.Kv
set_option linter.unusedVariables false
set_option linter.unusedSimpArgs false
attribute [local irreducible] ACall PCall KL
theorem p71 (fs : List (List Nat)) (n : Nat) (hf : ∀ f ∈ fs, Ok f n) (hfl : fs.length ≤ 1000) (q : Nat) (hq : q < n) (N : Nat) (hN : N ≤ 900) (hB : ∀ i, (bl fs ldp [(q : Int)] i).length ≤ N) (K : PV → Heap → Prop)
    (hK : ∀ i, i = (bl fs ldp [(q : Int)] i).length → K (.list (ints (rch fs q i))) []) : ACall Tryz.prog 71 [.list (aggs (fs.map mp)), .int .i64 q] [] K := by
  refine e71 (by simp) fun _ _ => ?_
  simp only [k71, argEnv, go_sem]
  try simp only [OpK_eq, go_sem]
  refine ACall.giveAt (id := 1) (args' := [.list (aggs (fs.map mp)), .list (ints [(q : Int)]), .fn (.func 60) [] [], .fn (.func 116) [] [.ptr 0 0]]) rfl ?_ rfl (fun i c d hc hd => ?_)
  rotate_left
  · rcases i with _ | _ | _ | _ | i
    · simp only [List.getElem?_cons_zero, Option.some.injEq] at hc hd; subst hc; subst hd
      exact .inl Imm.still
    · simp only [List.getElem?_cons_succ, List.getElem?_cons_zero, Option.some.injEq] at hc hd; subst hc; subst hd
      exact .inl (Imm.refn (l := [(q : Int)]) (solo_get (o := .arr 0 2 1 (ints [(q : Int)])) rfl) rfl)
    · simp only [List.getElem?_cons_succ, List.getElem?_cons_zero, Option.some.injEq] at hc hd; subst hc; subst hd
      exact .inl Imm.still
    · simp only [List.getElem?_cons_succ, List.getElem?_cons_zero, Option.some.injEq] at hc hd; subst hc; subst hd
      exact .inr ⟨rfl, Kv.undr_upto (by simp [PV.undr, PV.undrL])⟩
    · simp at hc
  refine p110J (α := List Int × Option Nat) fs n hf hfl 60 116 [.ptr 0 0] ldp (one n) (fun p hp => by obtain ⟨x, _, rfl⟩ := hp; simp) (fun f hf' p hp => ldp_one (hf f hf') hp) (fun f hf' p hp => p60 f n (hf f hf') p hp)
    RI (fun x id => id = 0 ∨ x.2 = some id) (fun x p y => y.1 = x.1 ++ p ∧ p.length = 1) (fun _ _ => true) (fun _ _ _ _ => False) (fun x σ id hI hU => ?_) (fun x σ σ' hI hk hl => ?_) N (fun i x => x.1 = rch fs q i ∧ x.1.length ≤ i) (fun i x σ p w l hJ hi hp hI hw K' k1 k2 => ?_) ([], none) [(q : Int)] ⟨q, hq, rfl⟩ (by omega) hB ⟨rfl, by simp⟩ (fun i x y h hJ _ hy => ?_) _ ⟨rfl, rfl⟩ _ (fun i x h hJ hgo => by cases hgo) (fun i x hi hJ σ hI => ?_)
  · obtain ⟨l, o⟩ := x
    cases o with
    | none =>
      rcases hU with rfl | hU
      · exact (List.getElem?_eq_some_iff.1 hI.1).1
      · cases hU
    | some id' =>
      obtain ⟨ver, h1, h2, h3⟩ := hI
      rcases hU with rfl | hU
      · exact (List.getElem?_eq_some_iff.1 h1).1
      · simp only [Option.some.injEq] at hU; subst hU
        exact (List.getElem?_eq_some_iff.1 h2).1
  · obtain ⟨l, o⟩ := x
    have k0 := hk 0 (.inl rfl)
    cases o with
    | none => exact ⟨k0.trans hI.1, hI.2⟩
    | some id' =>
      obtain ⟨ver, h1, h2, h3⟩ := hI
      exact ⟨ver, k0.trans h1, (hk id' (.inr rfl)).trans h2, h3⟩
  · obtain ⟨l0, o⟩ := x
    obtain ⟨y, hy, rfl⟩ := hp
    have hwok : w.ok = true := hw.cs.2
    cases o with
    | none =>
      obtain ⟨h1, h2⟩ := hI
      have h2 : l0 = [] := h2
      subst h2
      have hlt := (List.getElem?_eq_some_iff.1 h1).1
      refine p116n σ y w h1 hwok K' (k1 rfl ([(y : Int)], some σ.length) _ ⟨rfl, rfl⟩ ⟨0, ?_, ?_, by omega⟩ (by simp) fun id hid hu => ⟨?_, ?_⟩)
      · exact List.getElem?_set_self (by simp)
      · show _ = some (AObj.arr 0 2 1 (ints [(y : Int)]))
        rw [List.getElem?_set_ne (by omega)]; simp
      · rw [List.getElem?_set_ne (fun e => hu (.inl e.symm)), List.getElem?_append_left hid]
      · rintro (rfl | h)
        · exact hu (.inl rfl)
        · simp only [Option.some.injEq] at h; omega
    | some id' =>
      obtain ⟨ver, h1, h2, h3⟩ := hI
      have hlt := (List.getElem?_eq_some_iff.1 h1).1
      have hlt2 := (List.getElem?_eq_some_iff.1 h2).1
      have hJl : l0.length ≤ i := hJ.2
      refine p116r σ y w l0 (by omega) id' ver h2 h3 h1 hwok K' (k1 rfl (l0 ++ [(y : Int)], some id') _ ⟨rfl, rfl⟩ ⟨ver + 1, ?_, ?_, h3⟩ (by simp) fun id hid hu => ⟨?_, ?_⟩)
      · show _ = some (AObj.box [.ref id' (ver + 1) 0 (l0 ++ [(y : Int)]).length])
        rw [List.length_append, List.length_singleton]
        exact List.getElem?_set_self (by simpa using hlt)
      · show _ = some (AObj.arr (ver + 1) 2 1 (ints (l0 ++ [(y : Int)])))
        rw [List.getElem?_set_ne (Ne.symm h3), List.getElem?_set_self hlt2]
      · rw [List.getElem?_set_ne (fun e => hu (.inl e.symm)), List.getElem?_set_ne (fun e => hu (.inr (by rw [e])))]
      · exact hu
  · obtain ⟨h1, h2⟩ := hJ
    refine ⟨?_, ?_⟩
    · show y.1 = rch fs q (i + 1)
      rw [rch_succ h, hy.1, h1]
    · show y.1.length ≤ i + 1
      rw [hy.1, List.length_append, hy.2]; omega
  · have hK' := hK i hi
    rw [← hJ.1] at hK'
    clear hK
    obtain ⟨l0, o⟩ := x
    cases o with
    | none =>
      obtain ⟨h1, h2⟩ := hI
      have h2 : l0 = [] := h2
      subst h2
      try simp only [OpK_eq, HKv, h1, go_sem]
      exact Kv.Fin.freeze .nils hK'
    | some id' =>
      obtain ⟨ver, h1, h2, h3⟩ := hI
      try simp only [OpK_eq, HKv, h1, go_sem]
      exact Kv.Fin.freeze (.refi h2) hK'
end Go.Proofs.YtpihikppdeecmaaGreat
end
end
section
/- slices.AppendSeq over slices.Values of a slice of numbers: in the machine's own terms. -/
namespace Go.Proofs.YtpihikppdeecmaaGreat
open Go.RowKit Go.Shelf
set_option linter.unusedVariables false
set_option linter.unusedSimpArgs false
attribute [local go_sem] Oper.semAt_some
/-- The slice value sv holds the numbers zs, in a block below n₀; or there are none. -/
def IntsAt (n₀ : Nat) (W : World) (sv : Value) (zs : List Int) : Prop :=
  (zs = [] ∧ ∃ a cap, sv = .slice a 0 cap) ∨ ∃ b off cap, sv = .slice (some ⟨b, off, none⟩) zs.length cap ∧ b < n₀ ∧ ∀ j, j < zs.length → W.cell? ⟨b, off + j, none⟩ = some (.int .i64 (zs[j]?.getD 0))
theorem IntsAt.below {n₀ : Nat} {A B : World} (h : Below n₀ A B) {sv : Value} {zs : List Int} : IntsAt n₀ A sv zs → IntsAt n₀ B sv zs
  | .inl e => .inl e
  | .inr ⟨b, off, cap, e, hb, hc⟩ => .inr ⟨b, off, cap, e, hb, fun j hj => (h.cell (p := ⟨b, off + j, none⟩) hb).trans (hc j hj)⟩
end Go.Proofs.YtpihikppdeecmaaGreat
end
section
/- slices.AppendSeq over slices.Values of a slice of numbers: over abstract values. -/
end
