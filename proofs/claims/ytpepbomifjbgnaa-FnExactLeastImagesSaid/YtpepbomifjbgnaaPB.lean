/- Sets as bits, kept in order: the specification. -/
import Derived.Test.YtpepbomifjbgnaaCb
import Derived.Test.YtpepbomifjbgnaaG6
import Derived.Test.YtpepbomifjbgnaaSZ
import Derived.Test.YtpepbomifjbgnaaG3
namespace Go.Proofs.Ytpepbomifjbgnaa
open Go.Kv
set_option maxRecDepth 100000
/- spec.l10Before -/
/- live [5, 6, 7] -/
def k121_b0 : KC := (.seq (.seq (.ops [⟨(some 22), none, .mv (.t 7)⟩, ⟨(some 23), none, .mv (.t 5)⟩, ⟨(some 24), none, .len false (.t 23)⟩, ⟨(some 25), none, .bin .lss (.t 22) (.t 24)⟩])
  (.cond (.t 25) .skip (.exit 0)))
  (.seq (.block 1 (.seq (.draw [⟨(some 28), none, .mv (.t 5)⟩, ⟨(some 29), none, .mv (.t 7)⟩, ⟨(some 30), none, .idxS 1 (.t 28) (.t 29)⟩, ⟨(some 31), none, .load false 1 (.t 30)⟩, ⟨(some 32), none, .mv (.t 6)⟩, ⟨(some 33), none, .mv (.t 7)⟩, ⟨(some 34), none, .idxS 1 (.t 32) (.t 33)⟩, ⟨(some 35), none, .load false 1 (.t 34)⟩, ⟨(some 36), none, .bin .neq (.t 31) (.t 35)⟩])
  (.cond (.t 36) (.seq (.draw [⟨(some 37), none, .mv (.t 5)⟩, ⟨(some 38), none, .mv (.t 7)⟩, ⟨(some 39), none, .idxS 1 (.t 37) (.t 38)⟩, ⟨(some 40), none, .load false 1 (.t 39)⟩, ⟨(some 41), none, .mv (.t 6)⟩, ⟨(some 42), none, .mv (.t 7)⟩, ⟨(some 43), none, .idxS 1 (.t 41) (.t 42)⟩, ⟨(some 44), none, .load false 1 (.t 43)⟩, ⟨(some 45), none, .bin .lss (.t 40) (.t 44)⟩, ⟨(some 4), none, .mv (.t 45)⟩])
  .ret) .skip)))
  (.ops [⟨(some 26), none, .mv (.t 7)⟩, ⟨(some 27), none, .bin .add (.t 26) (.c (.int .i64 1))⟩, ⟨(some 7), none, .mv (.t 27)⟩])))
def k121 : KC := (.seq (.ops [⟨(some 4), none, .mv (.c (.bool false))⟩])
  (.seq (.ops [⟨(some 8), none, .mv (.t 0)⟩, ⟨(some 9), none, .call (.c (.fn (.func 58) [] [])) [(.t 8)]⟩, ⟨(some 10), none, .mv (.t 1)⟩, ⟨(some 11), none, .call (.c (.fn (.func 58) [] [])) [(.t 10)]⟩, ⟨(some 5), none, .mv (.t 9)⟩, ⟨(some 6), none, .mv (.t 11)⟩])
  (.seq (.seq (.ops [⟨(some 12), none, .mv (.t 5)⟩, ⟨(some 13), none, .len false (.t 12)⟩, ⟨(some 14), none, .mv (.t 6)⟩, ⟨(some 15), none, .len false (.t 14)⟩, ⟨(some 16), none, .bin .neq (.t 13) (.t 15)⟩])
  (.cond (.t 16) (.seq (.ops [⟨(some 17), none, .mv (.t 5)⟩, ⟨(some 18), none, .len false (.t 17)⟩, ⟨(some 19), none, .mv (.t 6)⟩, ⟨(some 20), none, .len false (.t 19)⟩, ⟨(some 21), none, .bin .lss (.t 18) (.t 20)⟩, ⟨(some 4), none, .mv (.t 21)⟩])
  .ret) .skip))
  (.seq (.seq (.ops [⟨(some 7), none, .mv (.c (.int .i64 0))⟩])
  (.block 0 (.loop k121_b0)))
  (.seq (.ops [⟨(some 4), none, .mv (.c (.bool false))⟩])
  .ret)))))
theorem e121 {args : List PV} {σ : Heap} {K : PV → Heap → Prop} (hl : args.length ≤ 46) (h : Wf σ → (∀ a ∈ args, PV.upto σ.length a) → vc (mkCfg Try.prog mixed [] 46 σ.length) k121 (FinK σ.length [.t 4] K) (argEnv 0 args) σ) : ACall Try.prog 121 args σ K :=
  ACall_enter (C := mkCfg Try.prog mixed [] 46 σ.length) (c := Try.f121.body.getD .skip) Try.func121 (by kernel_rfl) (by kernel_rfl) (by kernel_rfl) rfl hl (by kernel_rfl) (by kernel_rfl) h
/- spec.l10Put -/
/- live [0, 1, 5, 12, 13, 14, 15, 16, 17, 18, 25, 26, 27, 28, 29, 30, 31] -/
def k72_b0 : KC := (.seq (.seq (.ops [⟨(some 9), none, .mv (.t 5)⟩, ⟨(some 10), none, .bin .gtr (.t 9) (.c (.int .i64 0))⟩, ⟨(some 11), none, .mv (.t 10)⟩, ⟨(some 12), some (11, true), .mv (.t 1)⟩, ⟨(some 13), some (11, true), .mv (.t 0)⟩, ⟨(some 14), some (11, true), .mv (.t 5)⟩, ⟨(some 15), some (11, true), .bin .sub (.t 14) (.c (.int .i64 1))⟩, ⟨(some 16), some (11, true), .idxS 1 (.t 13) (.t 15)⟩, ⟨(some 17), some (11, true), .load false 1 (.t 16)⟩, ⟨(some 18), some (11, true), .call (.c (.fn (.func 121) [] [])) [(.t 12), (.t 17)]⟩, ⟨(some 19), none, .pick (.t 11) (.t 18) (.c (.bool false))⟩])
  (.cond (.t 19) .skip (.exit 0)))
  (.block 1 (.ops [⟨(some 20), none, .mv (.t 5)⟩, ⟨(some 21), none, .bin .sub (.t 20) (.c (.int .i64 1))⟩, ⟨(some 5), none, .mv (.t 21)⟩])))
def k72 : KC := (.seq (.ops [⟨(some 4), none, .mv (.c (.nils))⟩])
  (.seq (.ops [⟨(some 7), none, .mv (.t 0)⟩, ⟨(some 8), none, .len false (.t 7)⟩, ⟨(some 5), none, .mv (.t 8)⟩])
  (.seq (.block 0 (.loop k72_b0))
  (.seq (.seq (.ops [⟨(some 22), none, .mv (.t 5)⟩, ⟨(some 23), none, .bin .gtr (.t 22) (.c (.int .i64 0))⟩, ⟨(some 24), none, .mv (.t 23)⟩, ⟨(some 25), some (24, true), .mv (.t 0)⟩, ⟨(some 26), some (24, true), .mv (.t 5)⟩, ⟨(some 27), some (24, true), .bin .sub (.t 26) (.c (.int .i64 1))⟩, ⟨(some 28), some (24, true), .idxS 1 (.t 25) (.t 27)⟩, ⟨(some 29), some (24, true), .load false 1 (.t 28)⟩, ⟨(some 30), some (24, true), .mv (.t 1)⟩, ⟨(some 31), some (24, true), .bin .eql (.t 29) (.t 30)⟩, ⟨(some 32), none, .pick (.t 24) (.t 31) (.c (.bool false))⟩])
  (.cond (.t 32) (.seq (.ops [⟨(some 33), none, .mv (.t 0)⟩, ⟨(some 4), none, .mv (.t 33)⟩])
  .ret) .skip))
  (.seq (.ops [⟨(some 34), none, .mv (.t 1)⟩, ⟨(some 35), none, .bsl false 2 1 [(.t 34)]⟩, ⟨(some 36), none, .mv (.t 0)⟩, ⟨(some 37), none, .mv (.t 5)⟩, ⟨(some 38), none, .sls 1 (.t 36) (some (.t 37)) none⟩, ⟨(some 39), none, .app (.t 35) (.t 38) 2 1⟩, ⟨(some 6), none, .mv (.t 39)⟩])
  (.seq (.ops [⟨(some 40), none, .mv (.t 0)⟩, ⟨(some 41), none, .mv (.t 5)⟩, ⟨(some 42), none, .sls 1 (.t 40) none (some (.t 41))⟩, ⟨(some 43), none, .call (.c (.fn (.func 122) [] [])) [(.t 42)]⟩, ⟨(some 44), none, .mv (.t 6)⟩, ⟨(some 45), none, .app (.t 43) (.t 44) 2 1⟩, ⟨(some 4), none, .mv (.t 45)⟩])
  .ret))))))
theorem e72 {args : List PV} {σ : Heap} {K : PV → Heap → Prop} (hl : args.length ≤ 46) (h : Wf σ → (∀ a ∈ args, PV.upto σ.length a) → vc (mkCfg Try.prog mixed [] 46 σ.length) k72 (FinK σ.length [.t 4] K) (argEnv 0 args) σ) : ACall Try.prog 72 args σ K :=
  ACall_enter (C := mkCfg Try.prog mixed [] 46 σ.length) (c := Try.f72.body.getD .skip) Try.func72 (by kernel_rfl) (by kernel_rfl) (by kernel_rfl) rfl hl (by kernel_rfl) (by kernel_rfl) h
/- spec.l10Lists -/
/- live [0, 3, 4] -/
def k73_b0 : KC := (.seq (.seq (.ops [⟨(some 6), none, .mv (.t 4)⟩, ⟨(some 7), none, .mv (.t 0)⟩, ⟨(some 8), none, .len false (.t 7)⟩, ⟨(some 9), none, .bin .lss (.t 6) (.t 8)⟩])
  (.cond (.t 9) .skip (.exit 0)))
  (.seq (.block 1 (.ops [⟨(some 12), none, .mv (.t 3)⟩, ⟨(some 13), none, .mv (.t 0)⟩, ⟨(some 14), none, .mv (.t 4)⟩, ⟨(some 15), none, .idxS 1 (.t 13) (.t 14)⟩, ⟨(some 16), none, .load false 1 (.t 15)⟩, ⟨(some 17), none, .call (.c (.fn (.func 58) [] [])) [(.t 16)]⟩, ⟨(some 18), none, .bsl true 23 1 [(.t 17)]⟩, ⟨(some 19), none, .app (.t 12) (.t 18) 23 1⟩, ⟨(some 3), none, .mv (.t 19)⟩]))
  (.ops [⟨(some 10), none, .mv (.t 4)⟩, ⟨(some 11), none, .bin .add (.t 10) (.c (.int .i64 1))⟩, ⟨(some 4), none, .mv (.t 11)⟩])))
def k73 : KC := (.seq (.ops [⟨(some 2), none, .mv (.c (.nils))⟩])
  (.seq (.ops [⟨(some 5), none, .bsl false 23 1 []⟩, ⟨(some 3), none, .mv (.t 5)⟩])
  (.seq (.seq (.ops [⟨(some 4), none, .mv (.c (.int .i64 0))⟩])
  (.block 0 (.loop k73_b0)))
  (.seq (.ops [⟨(some 20), none, .mv (.t 3)⟩, ⟨(some 2), none, .mv (.t 20)⟩])
  .ret))))
theorem e73 {args : List PV} {σ : Heap} {K : PV → Heap → Prop} (hl : args.length ≤ 21) (h : Wf σ → (∀ a ∈ args, PV.upto σ.length a) → vc (mkCfg Try.prog mixed [18] 21 σ.length) k73 (FinK σ.length [.t 2] K) (argEnv 0 args) σ) : ACall Try.prog 73 args σ K :=
  ACall_enter (C := mkCfg Try.prog mixed [18] 21 σ.length) (c := Try.f73.body.getD .skip) Try.func73 (by kernel_rfl) (by kernel_rfl) (by kernel_rfl) rfl hl (by kernel_rfl) (by kernel_rfl) h
end Go.Proofs.Ytpepbomifjbgnaa
namespace Go.Proofs.Ytpepbomifjbgnaa
open Go.Kv
set_option linter.unusedVariables false
set_option linter.unusedSimpArgs false
attribute [local irreducible] ACall PCall KL
theorem pof_lt {s n : Nat} (h : s < 2 ^ n) : sb (pof s n) = s := by
  apply Nat.eq_of_testBit_eq
  intro i
  rw [sb_test]
  by_cases hi : i < n
  · unfold pof
    cases hb : s.testBit i with
    | true => exact decide_eq_true (List.mem_filter.2 ⟨List.mem_range.2 hi, hb⟩)
    | false => exact decide_eq_false fun hm => by rw [(List.mem_filter.1 hm).2] at hb; cases hb
  · have hb : s.testBit i = false := Nat.testBit_lt_two_pow (Nat.lt_of_lt_of_le h (Nat.pow_le_pow_right (by omega) (by omega)))
    rw [hb]
    exact decide_eq_false fun hm => hi (List.mem_range.1 (List.mem_filter.1 hm).1)
theorem pof_ext {s n : Nat} (h : s < 2 ^ n) : ∀ k, pof s (n + k) = pof s n
  | 0 => rfl
  | k + 1 => by
    have hb : s.testBit (n + k) = false := Nat.testBit_lt_two_pow (Nat.lt_of_lt_of_le h (Nat.pow_le_pow_right (by omega) (by omega)))
    rw [show n + (k + 1) = n + k + 1 by omega, pof_succ, hb, pof_ext h k]; simp
theorem pof_asc (s n : Nat) : (pof s n).Pairwise (· < ·) := List.Pairwise.filter _ List.pairwise_lt_range
theorem pof_inj {a b n : Nat} (ha : a < 2 ^ n) (hb : b < 2 ^ n) (h : pof a n = pof b n) : a = b := by rw [← pof_lt ha, ← pof_lt hb, h]
theorem nz_inj {l m : List Nat} (h : nz l = nz m) : l = m := by
  have := congrArg (List.map Int.toNat) h
  rwa [nz, nz, toNat_map, toNat_map] at this
/-- A set comes ahead of another. -/
def bef (a b : Nat) : Bool := decide (stc (nz (pof a 62)) (nz (pof b 62)) < 0)
theorem bef_irr (a : Nat) : bef a a = false := by
  unfold bef
  have := stc_anti (nz (pof a 62)) (nz (pof a 62))
  exact decide_eq_false (by omega)
theorem bef_trans {a b c : Nat} (h1 : bef a b = true) (h2 : bef b c = true) : bef a c = true := by
  have := (stc_swo fun x : Nat => nz (pof x 62)).trans a b c h1 h2
  exact this
theorem bef_total {a b : Nat} (ha : a < 2 ^ 62) (hb : b < 2 ^ 62) (hne : a ≠ b) (h : bef a b = false) : bef b a = true := by
  unfold bef at h ⊢
  have h := of_decide_eq_false h
  refine decide_eq_true ?_
  have h1 := stc_anti (nz (pof a 62)) (nz (pof b 62))
  refine Classical.byContradiction fun hn => hne (pof_inj ha hb (nz_inj (stc_eq (by omega))))
/-- Where a set is to be put, among the first k. -/
def atB (S : List Nat) (own : Nat) : Nat → Nat
  | 0 => 0
  | k + 1 => if bef own (S.getD k 0) = true then atB S own k else k + 1
theorem atB_le (S : List Nat) (own : Nat) : ∀ k, atB S own k ≤ k
  | 0 => Nat.le_refl _
  | k + 1 => by
    unfold atB
    split
    · have := atB_le S own k; omega
    · exact Nat.le_refl _
theorem atB_bef (S : List Nat) (own : Nat) : ∀ k i, atB S own k ≤ i → i < k → bef own (S.getD i 0) = true
  | 0, i, _, h => by omega
  | k + 1, i, h, hi => by
    unfold atB at h
    split at h
    · rename_i hb
      by_cases e : i = k
      · subst e; exact hb
      · exact atB_bef S own k i h (by omega)
    · omega
theorem atB_not (S : List Nat) (own : Nat) : ∀ k, 0 < atB S own k → bef own (S.getD (atB S own k - 1) 0) = false
  | 0, h => by simp [atB] at h
  | k + 1, h => by
    unfold atB at h ⊢
    split
    · rename_i hb
      rw [if_pos hb] at h
      exact atB_not S own k h
    · rename_i hb
      simpa using hb
def putB (S : List Nat) (own : Nat) : List Nat :=
  if 0 < atB S own S.length ∧ S.getD (atB S own S.length - 1) 0 = own then S else S.take (atB S own S.length) ++ own :: S.drop (atB S own S.length)
theorem putB_mem {S : List Nat} {own x : Nat} : x ∈ putB S own ↔ x = own ∨ x ∈ S := by
  unfold putB
  split
  · rename_i h
    have hl := atB_le S own S.length
    have : own ∈ S := by
      rw [← h.2]
      exact getD_mem (by omega) 0
    exact ⟨fun hx => .inr hx, fun hx => by rcases hx with rfl | hx <;> assumption⟩
  · rw [List.mem_append, List.mem_cons]
    constructor
    · rintro (h | h | h)
      · exact .inr (List.mem_of_mem_take h)
      · exact .inl h
      · exact .inr (List.mem_of_mem_drop h)
    · rintro (h | h)
      · exact .inr (.inl h)
      · rw [← List.take_append_drop (atB S own S.length) S, List.mem_append] at h
        rcases h with h | h
        · exact .inl h
        · exact .inr (.inr h)
/-- In order, each once. -/
def Srt (S : List Nat) : Prop := S.Pairwise (fun a b => bef a b = true) ∧ ∀ x ∈ S, x < 2 ^ 62
theorem putB_srt {S : List Nat} (h : Srt S) {own : Nat} (ho : own < 2 ^ 62) : Srt (putB S own) := by
  obtain ⟨hp, hl⟩ := h
  refine ⟨?_, fun x hx => ?_⟩
  · unfold putB
    split
    · exact hp
    · rename_i hno
      have hle := atB_le S own S.length
      have hbef := atB_bef S own S.length
      have hnot := atB_not S own S.length
      generalize atB S own S.length = j at *
      have hget : ∀ i, (hi : i < S.length) → S.getD i 0 = S[i] := fun i hi => by simp [List.getD_eq_getElem?_getD, hi]
      have hfront : ∀ x ∈ S.take j, bef x own = true := fun x hx => by
        obtain ⟨i, hi, rfl⟩ := List.getElem_of_mem hx
        rw [List.length_take] at hi
        rw [List.getElem_take]
        have h0 : 0 < j := by omega
        have hj1 : j - 1 < S.length := by omega
        have hb := hnot h0
        rw [hget _ hj1] at hb
        have hne : S[j - 1] ≠ own := fun e => hno ⟨h0, by rw [hget _ hj1]; exact e⟩
        have hb2 := bef_total ho (hl _ (List.getElem_mem hj1)) (fun e => hne e.symm) hb
        by_cases e : i = j - 1
        · subst e; exact hb2
        · exact bef_trans (List.pairwise_iff_getElem.1 hp i (j - 1) (by omega) hj1 (by omega)) hb2
      have hback : ∀ x ∈ S.drop j, bef own x = true := fun x hx => by
        obtain ⟨i, hi, rfl⟩ := List.getElem_of_mem hx
        rw [List.length_drop] at hi
        rw [List.getElem_drop, ← hget _ (by omega)]
        exact hbef _ (by omega) (by omega)
      rw [List.pairwise_append, List.pairwise_cons]
      refine ⟨hp.sublist (List.take_sublist _ _), ⟨hback, hp.sublist (List.drop_sublist _ _)⟩, fun a ha b hb => ?_⟩
      rcases List.mem_cons.1 hb with rfl | hb
      · exact hfront a ha
      · exact bef_trans (hfront a ha) (hback b hb)
  · rcases putB_mem.1 hx with rfl | hx
    · exact ho
    · exact hl x hx
theorem srt_nodup {S : List Nat} (h : Srt S) : S.Nodup := by
  rw [List.nodup_iff_pairwise_ne]
  exact h.1.imp fun {a b} hab e => by rw [e, bef_irr] at hab; cases hab
theorem putB_len {S : List Nat} (h : Srt S) (own : Nat) : (putB S own).length = if own ∈ S then S.length else S.length + 1 := by
  have hle := atB_le S own S.length
  have hbef := atB_bef S own S.length
  have hnot := atB_not S own S.length
  have hget : ∀ i, (hi : i < S.length) → S.getD i 0 = S[i] := fun i hi => by simp [List.getD_eq_getElem?_getD, hi]
  unfold putB
  split
  · rename_i hh
    have : own ∈ S := by
      rw [← hh.2]; exact getD_mem (by omega) 0
    rw [if_pos this]
  · rename_i hno
    have : own ∉ S := fun hm => by
      obtain ⟨i, hi, e⟩ := List.getElem_of_mem hm
      generalize atB S own S.length = j at *
      by_cases hij : j ≤ i
      · have := hbef i hij hi
        rw [hget i hi, e, bef_irr] at this; cases this
      · have h0 : 0 < j := by omega
        have hb := hnot h0
        rw [hget _ (by omega)] at hb
        by_cases e2 : i = j - 1
        · exact hno ⟨h0, by rw [hget _ (by omega), ← e]; congr 1; exact e2.symm⟩
        · have := List.pairwise_iff_getElem.1 h.1 i (j - 1) hi (by omega) (by omega)
          rw [e, hb] at this; cases this
    rw [if_neg this, List.length_append, List.length_cons, List.length_take, List.length_drop]
    omega
theorem perm_uniq {α : Type} {le : α → α → Prop} (anti : ∀ a b, le a b → le b a → a = b) : ∀ {r s : List α}, r.Perm s → r.Pairwise le → s.Pairwise le → r = s
  | [], s, h, _, _ => h.nil_eq
  | x :: r, [], h, _, _ => by have := h.length_eq; simp at this
  | x :: r, y :: s, h, hr, hs => by
    rw [List.pairwise_cons] at hr hs
    have e : x = y := by
      rcases List.mem_cons.1 (h.mem_iff.1 (List.mem_cons_self ..)) with e | hx
      · exact e
      · rcases List.mem_cons.1 (h.mem_iff.2 (List.mem_cons_self ..)) with e | hy
        · exact e.symm
        · exact anti _ _ (hr.1 y hy) (hs.1 x hx)
    subst e
    rw [perm_uniq anti h.cons_inv hr.2 hs.2]
/-- The rows of sets that are kept in order. -/
def rowsB (S : List Nat) : List (List Int) := S.map fun b => nz (pof b 62)
/-- Rows in order, each once, that are those of sets in order are these. -/
theorem rowsB_uniq {S : List Nat} (hS : Srt S) {t : List (List Int)} (hd : t.Nodup) (hm : ∀ r, r ∈ t ↔ r ∈ rowsB S) (ht : t.Pairwise (fun a b => stc a b ≤ 0)) : t = rowsB S := by
  have hdS : (rowsB S).Nodup := by
    rw [rowsB, List.nodup_iff_pairwise_ne, List.pairwise_map]
    exact hS.1.imp fun {a b} hab e => by
      unfold bef at hab
      rw [e] at hab
      have h1 := of_decide_eq_true hab
      have := stc_anti (nz (pof b 62)) (nz (pof b 62))
      omega
  refine perm_uniq (le := fun a b => stc a b ≤ 0) (fun a b h1 h2 => ?_) ((List.perm_ext_iff_of_nodup hd hdS).2 hm) ht ?_
  · have := stc_anti a b
    exact stc_eq (by omega)
  · rw [rowsB, List.pairwise_map]
    exact hS.1.imp fun {a b} hab => by
      unfold bef at hab
      have := of_decide_eq_true hab
      omega
theorem p121 (a b : Nat) (ha : a < 2 ^ 62) (hb : b < 2 ^ 62) : Pure Try.prog 121 [.int .i64 a, .int .i64 b] (.bool (bef a b)) := by
  have hbf : bef a b = decide (stc (nz (pof a 62)) (nz (pof b 62)) < 0) := rfl
  have hla := pof_le a 62
  have hlb := pof_le b 62
  rw [← nz_len] at hla hlb
  refine e121 (by simp) fun _ _ => ?_
  simp only [k121, argEnv, take6, List.drop_zero, Int.cast_ofNat_Int, go_sem, ↓reduceIte, Nat.reduceEqDiff, Nat.reduceAdd, Nat.reduceMul, Nat.reduceLeDiff, Nat.reduceLT, Int.reduceLE, Int.reduceLT, reduceCtorEq]
  refine (p58 a ha).go ?_
  try simp only [OpK_eq, HKv, take6, List.drop_zero, Int.cast_ofNat_Int, go_sem, ↓reduceIte, Nat.reduceEqDiff, Nat.reduceAdd, Nat.reduceMul, Nat.reduceLeDiff, Nat.reduceLT, Int.reduceLE, Int.reduceLT, reduceCtorEq]
  refine (p58 b hb).go ?_
  have e1 : (pof a 62).map (fun x : Nat => (x : Int)) = nz (pof a 62) := rfl
  have e2 : (pof b 62).map (fun x : Nat => (x : Int)) = nz (pof b 62) := rfl
  rw [e1, e2]
  generalize nz (pof a 62) = xs at *
  generalize nz (pof b 62) = ys at *
  try simp only [OpK_eq, HKv, take6, List.drop_zero, Int.cast_ofNat_Int, go_sem, ↓reduceIte, Nat.reduceEqDiff, Nat.reduceAdd, Nat.reduceMul, Nat.reduceLeDiff, Nat.reduceLT, Int.reduceLE, Int.reduceLT, reduceCtorEq]
  have hcI : cI xs.length ys.length = if xs.length < ys.length then -1 else if ys.length < xs.length then 1 else 0 := by
    unfold cI
    (repeat' split) <;> omega
  refine ⟨fun h1 => ?_, fun h1 => ?_⟩
  · refine Kv.Fin.still ⟨?_, rfl⟩
    rw [hbf]
    congr 1
    refine decide_eq_decide.2 ?_
    unfold stc orV
    rw [hcI]
    (repeat' split) <;> omega
  · have hls : xs.length = ys.length := by omega
    have hc0 : cI xs.length ys.length = 0 := by rw [hcI, if_neg (by omega), if_neg (by omega)]
    have hsl : stc xs ys = slc xs ys := by unfold stc; rw [hc0]; rfl
    rw [hsl] at hbf
    refine KL_ind k121_b0.eq_1 (fun x : Nat => [(5, .list (ints xs)), (6, .list (ints ys)), (7, .int .i64 x)]) (fun _ => []) (fun x => x ≤ xs.length ∧ slc (xs.drop x) (ys.drop x) = slc xs ys) (fun x => xs.length - x) [5, 6, 7] 0 (by simp [keep]) rfl ⟨Nat.zero_le _, rfl⟩ fun x ⟨hx, hs⟩ ih => ?_
    try simp only [OpK_eq, HKv, take6, List.drop_zero, Int.cast_ofNat_Int, go_sem, ↓reduceIte, Nat.reduceEqDiff, Nat.reduceAdd, Nat.reduceMul, Nat.reduceLeDiff, Nat.reduceLT, Int.reduceLE, Int.reduceLT, reduceCtorEq]
    refine ⟨fun h2 => ?_, fun h2 => ?_⟩
    · have hd := slc_drop (xs := xs) (ys := ys) (k := x) (by omega) (by omega)
      rw [hs, ← List.getD_eq_getElem?_getD, ← List.getD_eq_getElem?_getD] at hd
      refine ⟨by omega, fun _ => ⟨by omega, fun _ => ⟨fun h3 => ⟨by omega, fun _ => ⟨by omega, fun _ => ?_⟩⟩, fun h3 => ⟨by omega, ?_⟩⟩⟩⟩
      · refine Kv.Fin.still ⟨?_, rfl⟩
        rw [hbf, hd]
        congr 1
        refine decide_eq_decide.2 ?_
        (repeat' split) <;> omega
      · refine ih (x + 1) ⟨by omega, ?_⟩ (by omega) _ _ (by simp [keep]) rfl
        rw [hd, if_neg (by omega), if_neg (by omega)]
    · obtain rfl : x = xs.length := by omega
      refine Kv.Fin.still ⟨?_, rfl⟩
      rw [hbf, ← hs, slc_end, if_neg (by omega)]; rfl
theorem nzD (S : List Nat) (i : Nat) : (nz S).getD i 0 = (S.getD i 0 : Int) := by
  unfold nz
  simp only [List.getD_eq_getElem?_getD, List.getElem?_map]
  cases S[i]? <;> rfl
theorem p72 (S : List Nat) (own : Nat) (hS : Srt S) (ho : own < 2 ^ 62) (hl : S.length ≤ 100000) : Pure Try.prog 72 [.list (ints (nz S)), .int .i64 own] (.list (ints (nz (putB S own)))) := by
  have hat := atB_le S own S.length
  refine e72 (by simp) fun _ _ => ?_
  simp only [k72, argEnv, nz_len, take6, List.drop_zero, Int.cast_ofNat_Int, go_sem, ↓reduceIte, Nat.reduceEqDiff, Nat.reduceAdd, Nat.reduceMul, Nat.reduceLeDiff, Nat.reduceLT, Int.reduceLE, Int.reduceLT, reduceCtorEq]
  refine KL_ind k72_b0.eq_1 (fun k : Nat => [(0, .list (ints (nz S))), (1, .int .i64 own), (5, .int .i64 k)]) (fun _ => []) (fun k => k ≤ S.length ∧ atB S own k = atB S own S.length) (fun k => k) [0, 1, 5] S.length (by simp [keep]) rfl ⟨Nat.le_refl _, rfl⟩ fun k ⟨hk, hke⟩ ih => ?_
  have hnz : ∀ j, nz (S.take j) = (nz S).take j := fun j => by simp [nz, List.map_take]
  have hnzd : ∀ j, nz (S.drop j) = (nz S).drop j := fun j => by simp [nz, List.map_drop]
  have hput : ¬ (0 < k ∧ S.getD (k - 1) 0 = own) → atB S own S.length = k → putB S own = S.take k ++ own :: S.drop k := fun h1 h2 => by
    unfold putB; rw [h2, if_neg h1]
  have hput2 : (0 < k ∧ S.getD (k - 1) 0 = own) → atB S own S.length = k → putB S own = S := fun h1 h2 => by
    unfold putB; rw [h2, if_pos h1]
  try simp only [OpK_eq, HKv, nz_len, nzD, take6, List.drop_zero, Int.cast_ofNat_Int, go_sem, ↓reduceIte, Nat.reduceEqDiff, Nat.reduceAdd, Nat.reduceMul, Nat.reduceLeDiff, Nat.reduceLT, Int.reduceLE, Int.reduceLT, reduceCtorEq]
  refine ⟨fun h1 => ⟨by omega, ⟨by omega, by omega⟩, fun h2 => ?_⟩, fun h1 => ?_⟩
  · have hk1 : ((k : Int) - 1).toNat = k - 1 := by omega
    rw [hk1]
    have hSk : S.getD (k - 1) 0 < 2 ^ 62 := hS.2 _ (getD_mem (by omega) 0)
    refine (p121 own (S.getD (k - 1) 0) ho hSk).go ?_
    cases hb : bef own (S.getD (k - 1) 0) with
    | true =>
      try simp only [OpK_eq, HKv, take6, List.drop_zero, Int.cast_ofNat_Int, go_sem, ↓reduceIte, Nat.reduceEqDiff, Nat.reduceAdd, Nat.reduceMul, Nat.reduceLeDiff, Nat.reduceLT, Int.reduceLE, Int.reduceLT, reduceCtorEq]
      refine ⟨by omega, ih (k - 1) ⟨by omega, ?_⟩ (by omega) _ _ (by simp [keep]; omega) rfl⟩
      have : atB S own k = atB S own (k - 1) := by
        obtain ⟨m, rfl⟩ : ∃ m, k = m + 1 := ⟨k - 1, by omega⟩
        rw [atB, if_pos (by simpa using hb)]; rfl
      rw [← this]; exact hke
    | false =>
      have hkk : atB S own S.length = k := by
        rw [← hke]
        obtain ⟨m, rfl⟩ : ∃ m, k = m + 1 := ⟨k - 1, by omega⟩
        rw [atB, if_neg (by simpa using hb)]
      have htd : (List.drop k (nz S)).take (S.length - k) = nz (S.drop k) := by rw [hnzd, List.take_of_length_le (by rw [List.length_drop, nz_len]; omega)]
      have htk : List.take (k - 0) (nz S) = nz (S.take k) := by rw [hnz, Nat.sub_zero]
      have hld : (S.drop k).length = S.length - k := List.length_drop
      have hlt : (S.take k).length = k := by rw [List.length_take]; omega
      try simp only [OpK_eq, HKv, nz_len, nzD, hk1, htd, htk, hld, take6, List.drop_zero, Int.cast_ofNat_Int, go_sem, ↓reduceIte, Nat.reduceEqDiff, Nat.reduceAdd, Nat.reduceMul, Nat.reduceLeDiff, Nat.reduceLT, Int.reduceLE, Int.reduceLT, reduceCtorEq]
      refine ⟨fun _ => ⟨by omega, ⟨by omega, by omega⟩, fun _ => ⟨fun h4 => ?_, fun h4 => ⟨⟨by omega, by omega⟩, by omega, by omega, ?_⟩⟩⟩, fun h => absurd h (by omega)⟩
      · rw [hput2 ⟨by omega, by omega⟩ hkk]
        exact Kv.Fin.still ⟨rfl, rfl⟩
      · rw [hput (fun h => h4 (by rw [h.2])) hkk]
        refine (p122 (nz (S.take k)) (by rw [nz_len]; omega)).go fun v s ⟨hv, hs⟩ => ?_
        subst hv; subst hs
        try simp only [OpK_eq, HKv, nz_len, ren_ref, ren_arr, ren_ints, hld, hlt, take6, List.drop_zero, Int.cast_ofNat_Int, go_sem, ↓reduceIte, Nat.reduceEqDiff, Nat.reduceAdd, Nat.reduceMul, Nat.reduceLeDiff, Nat.reduceLT, Int.reduceLE, Int.reduceLT, reduceCtorEq]
        have e1 : (List.take 1 [PV.int .i64 (own : Int)] ++ ints (nz (S.drop k))) = ints (nz (own :: S.drop k)) := rfl
        have l1 : (ints (nz (own :: S.drop k))).length = 1 + (S.length - k) := by simp [ints, nz]; omega
        have e2 : List.take (1 + (S.length - k)) (ints (nz (own :: S.drop k))) = ints (nz (own :: S.drop k)) := List.take_of_length_le (by omega)
        have e3 : List.take k (nz (S.take k)) = nz (S.take k) := List.take_of_length_le (by rw [nz_len, hlt]; exact Nat.le_refl _)
        have e4 : ints (nz (S.take k)) ++ ints (nz (own :: S.drop k)) = ints (nz (S.take k ++ own :: S.drop k)) := by simp [ints, nz]
        have l2 : (nz (S.take k ++ own :: S.drop k)).length = k + (1 + (S.length - k)) := by rw [nz_len, List.length_append, hlt, List.length_cons, hld]; omega
        rw [e1, e2, e3, e4, l1]
        refine ⟨by simp, ⟨Nat.le_refl _, by omega⟩, Kv.Fin.freeze (Imm.refn rfl l2.symm) ⟨rfl, rfl⟩⟩
  · obtain rfl : k = 0 := by omega
    have htd : List.take (S.length - 0) (nz S) = nz S := by rw [Nat.sub_zero, List.take_of_length_le (by rw [nz_len]; omega)]
    have hkk : atB S own S.length = 0 := by rw [← hke]; rfl
    have ht0 : List.take (0 - 0) (nz S) = nz [] := rfl
    rw [hput (fun h => absurd h.1 (by omega)) hkk]
    try simp only [OpK_eq, HKv, nz_len, nzD, htd, ht0, take6, List.drop_zero, Int.cast_ofNat_Int, go_sem, ↓reduceIte, Nat.reduceEqDiff, Nat.reduceAdd, Nat.reduceMul, Nat.reduceLeDiff, Nat.reduceLT, Int.reduceLE, Int.reduceLT, reduceCtorEq]
    refine ⟨by omega, by omega, ?_⟩
    refine (p122 (nz []) (by rw [nz_len]; simp)).go fun v s ⟨hv, hs⟩ => ?_
    subst hv; subst hs
    try simp only [OpK_eq, HKv, nz_len, ren_ref, ren_arr, ren_ints, take6, List.drop_zero, Int.cast_ofNat_Int, go_sem, ↓reduceIte, Nat.reduceEqDiff, Nat.reduceAdd, Nat.reduceMul, Nat.reduceLeDiff, Nat.reduceLT, Int.reduceLE, Int.reduceLT, reduceCtorEq]
    have e1 : (List.take 1 [PV.int .i64 (own : Int)] ++ ints (nz S)) = ints (nz (own :: S)) := rfl
    have l1 : (ints (nz (own :: S))).length = 1 + S.length := by simp [ints, nz]; omega
    have e2 : List.take (1 + S.length) (ints (nz (own :: S))) = ints (nz (own :: S)) := List.take_of_length_le (by omega)
    have e4 : ints (List.take 0 (nz [])) ++ ints (nz (own :: S)) = ints (nz (S.take 0 ++ own :: S)) := rfl
    rw [e1, e2, e4, l1]
    refine ⟨by simp, by omega, Kv.Fin.freeze (Imm.refn rfl (by rw [nz_len]; simp; omega)) ⟨rfl, rfl⟩⟩
theorem p73 (S : List Nat) (hS : ∀ x ∈ S, x < 2 ^ 62) (hl : S.length ≤ 100000) : Pure Try.prog 73 [.list (ints (nz S))] (.list (rows (rowsB S))) := by
  refine e73 (by simp) fun _ _ => ?_
  simp only [k73, argEnv, take6, List.drop_zero, Int.cast_ofNat_Int, go_sem, ↓reduceIte, Nat.reduceEqDiff, Nat.reduceAdd, Nat.reduceMul, Nat.reduceLeDiff, Nat.reduceLT, Int.reduceLE, Int.reduceLT, reduceCtorEq]
  refine KL_ind k73_b0.eq_1 (fun x : Nat => [(0, .list (ints (nz S))), (3, .ref 0 x 0 x), (4, .int .i64 x)]) (fun x => [.arr x 23 1 (rows (rowsB (S.take x)))]) (fun x => x ≤ S.length) (fun x => S.length - x) [0, 3, 4] 0 (by rfl) (by rfl) (Nat.zero_le _) fun x hx ih => ?_
  try simp only [nz_len, nzD, take6, List.drop_zero, Int.cast_ofNat_Int, go_sem, ↓reduceIte, Nat.reduceEqDiff, Nat.reduceAdd, Nat.reduceMul, Nat.reduceLeDiff, Nat.reduceLT, Int.reduceLE, Int.reduceLT, reduceCtorEq]
  refine ⟨fun h2 => ?_, fun h2 => ?_⟩
  · have hxl : x < S.length := by omega
    refine ⟨by omega, fun _ => ?_⟩
    refine (p58 _ (hS _ (getD_mem hxl 0))).go ?_
    have hrl : (rowsB (S.take x)).length = x := by rw [rowsB, List.length_map, List.length_take]; omega
    have hts : rowsB (S.take (x + 1)) = rowsB (S.take x) ++ [nz (pof (S.getD x 0) 62)] := by
      rw [List.take_succ_eq_append_getElem hxl, rowsB, List.map_append, getD_eq hxl]; rfl
    try simp only [OpK_eq, HKv, hrl, take6, List.drop_zero, Int.cast_ofNat_Int, go_sem, ↓reduceIte, Nat.reduceEqDiff, Nat.reduceAdd, Nat.reduceMul, Nat.reduceLeDiff, Nat.reduceLT, Int.reduceLE, Int.reduceLT, reduceCtorEq]
    refine ⟨⟨Nat.le_refl _, by omega⟩, by omega, ih (x + 1) (by omega) (by omega) _ _ (by simp [keep]) ?_⟩
    rw [hts, List.take_of_length_le (by omega)]; rfl
  · obtain rfl : x = S.length := by omega
    rw [List.take_length]
    exact Kv.Fin.freeze (Imm.refr rfl (by rw [rowsB, List.length_map])) ⟨rfl, rfl⟩
end Go.Proofs.Ytpepbomifjbgnaa
