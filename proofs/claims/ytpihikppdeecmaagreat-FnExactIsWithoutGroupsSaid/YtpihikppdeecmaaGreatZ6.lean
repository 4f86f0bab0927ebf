/- Several texts of this session as one, less what the claim does not need. -/
import Derived.Test.YtpihikppdeecmaaGreatCb
import Derived.Test.YtpihikppdeecmaaGreatG1
import Derived.Test.YtpihikppdeecmaaGreatFC
section
/- Several texts of this session as one. -/
section
/- Maps, compared by the laws' functions. -/
namespace Go.Proofs.YtpihikppdeecmaaGreat
open Go.Kv
set_option maxRecDepth 100000
def k99 : KC := (.seq (.ops [oP 2 (.box true (.t 0)), oP 3 (.box true (.t 1)), oP 4 (.mv (.c (.bool false)))])
  (.seq (.seq (.ops [oP 5 (.fieldA 0 (.t 2)), oP 6 (.load false 1 (.t 5)), oP 7 (.fieldA 0 (.t 3)), oP 8 (.load false 1 (.t 7)), oP 9 (.bin .neq (.t 6) (.t 8))])
  (.cond (.t 9) (.seq (.ops [oP 4 (.mv (.c (.bool false)))])
  .ret) .skip))
  (.seq (.seq (.ops [oP 10 (.fieldA 1 (.t 2)), oP 11 (.load true 5 (.t 10)), oP 12 (.fieldA 1 (.t 3)), oP 13 (.load true 5 (.t 12)), oP 14 (.call (fC 129) [(.t 11), (.t 13)]), oP 15 (.not (.t 14))])
  (.cond (.t 15) (.seq (.ops [oP 4 (.mv (.c (.bool false)))])
  .ret) .skip))
  (.seq (.ops [oP 4 (.mv (.c (.bool true)))])
  .ret))))
theorem e99 : Ent 99 16 [2, 3] [.t 4] k99 := ent Tryz.func99 (by kernel_rfl) (by kernel_rfl) (by kernel_rfl) (fun _ => by kernel_rfl) (by kernel_rfl)
def k129_b0 : KC := (.seq (.seq (.ops [mV 6 5, oP 7 (.bin .lss (.t 6) (iC 5))])
  (.cond (.t 7) .skip (.exit 0)))
  (.seq (.block 1 (.seq (.draw [mV 10 5, oP 11 (.idxA 5 1 (.t 2) (.t 10)), oP 12 (.load false 1 (.t 11)), mV 13 5, oP 14 (.idxA 5 1 (.t 3) (.t 13)), oP 15 (.load false 1 (.t 14)), oP 16 (.bin .neq (.t 12) (.t 15))])
  (.cond (.t 16) (.seq (.ops [oP 4 (.mv (.c (.bool false)))])
  .ret) .skip)))
  (.ops [mV 8 5, oP 9 (.bin .add (.t 8) (iC 1)), mV 5 9])))
def k129 : KC := (.seq (.ops [oP 2 (.box true (.t 0)), oP 3 (.box true (.t 1)), oP 4 (.mv (.c (.bool false)))])
  (.seq (.seq (.ops [oP 5 (.mv (iC 0))])
  (.block 0 (.loop k129_b0)))
  (.seq (.ops [oP 4 (.mv (.c (.bool true)))])
  .ret)))
theorem e129 : Ent 129 17 [2, 3] [.t 4] k129 := ent Tryz.func129 (by kernel_rfl) (by kernel_rfl) (by kernel_rfl) (fun _ => by kernel_rfl) (by kernel_rfl)
end Go.Proofs.YtpihikppdeecmaaGreat
namespace Go.Proofs.YtpihikppdeecmaaGreat
open Go.Kv
set_option linter.unusedVariables false
set_option linter.unusedSimpArgs false
attribute [local irreducible] ACall PCall KL
theorem p129 (a b : List Int) (ha : a.length = 5) (hb : b.length = 5) : Pure Tryz.prog 129 [.agg (ints a), .agg (ints b)] (.bool (decide (a = b))) := by
  refine e129 (by simp) fun _ _ => ?_
  simp only [k129, argEnv, ha, hb, go_sem]
  refine KL_ind k129_b0.eq_1 (fun x : Nat => [(2, .fptr (ints a) 0), (3, .fptr (ints b) 0), (5, .int .i64 x)]) (fun _ => []) (fun x => x ≤ 5 ∧ a.take x = b.take x) (fun x => 5 - x) [2, 3, 5] 0 (by rfl) rfl ⟨Nat.zero_le _, rfl⟩ fun x ⟨hx, ht⟩ ih => ?_
  try simp only [ha, hb, go_sem]
  refine ⟨fun h1 => ⟨by omega, by omega, fun h2 => ⟨by omega, by omega, fun h3 => ⟨fun h4 => ?_, fun h4 => ⟨by omega, ?_⟩⟩⟩⟩, fun h1 => ?_⟩
  · have : a ≠ b := fun e => h4 (by rw [e])
    exact Kv.Fin.now ⟨by rw [decide_eq_false this], rfl⟩
  · exact ih (x + 1) ⟨by omega, take_succ_eq ht (by omega) (by omega) h4⟩ (by omega) _ _ (by rfl) rfl
  · obtain rfl : x = 5 := by omega
    rw [List.take_of_length_le (by omega), List.take_of_length_le (by omega)] at ht
    exact Kv.Fin.now ⟨by rw [decide_eq_true ht], rfl⟩
theorem eq_of_drop {a b : List Int} (ha : a.length = 6) (hb : b.length = 6) : (a = b) ↔ (a.getD 0 0 = b.getD 0 0 ∧ (a.drop 1).take 5 = (b.drop 1).take 5) := by
  obtain ⟨x, a, rfl⟩ : ∃ x l, a = x :: l := by
    match a, ha with
    | x :: l, _ => exact ⟨x, l, rfl⟩
  obtain ⟨y, b, rfl⟩ : ∃ x l, b = x :: l := by
    match b, hb with
    | x :: l, _ => exact ⟨x, l, rfl⟩
  simp only [List.length_cons] at ha hb
  simp only [List.drop_succ_cons, List.drop_zero, List.getD_cons_zero, List.cons.injEq]
  rw [List.take_of_length_le (by omega), List.take_of_length_le (by omega)]
theorem p99 (a b : List Int) (ha : a.length = 6) (hb : b.length = 6) : Pure Tryz.prog 99 [.agg (ints a), .agg (ints b)] (.bool (decide (a = b))) := by
  have hd : decide (a = b) = (decide (a.getD 0 0 = b.getD 0 0) && decide ((a.drop 1).take 5 = (b.drop 1).take 5)) := by
    rw [decide_eq_decide.2 (eq_of_drop ha hb), Bool.decide_and]
  have ha5 : ((a.drop 1).take 5).length = 5 := by simp [ha]
  have hb5 : ((b.drop 1).take 5).length = 5 := by simp [hb]
  rw [hd]
  refine e99 (by simp) fun _ _ => ?_
  simp only [k99, argEnv, ha, hb, go_sem]
  refine ⟨fun h => ?_, fun h => ?_⟩
  · exact Kv.Fin.now ⟨by rw [decide_eq_false h]; rfl, rfl⟩
  · refine (p129 _ _ ha5 hb5).go ?_
    rw [decide_eq_true h]
    cases decide ((a.drop 1).take 5 = (b.drop 1).take 5)
    · try simp only [go_sem]
      exact Kv.Fin.now ⟨rfl, rfl⟩
    · try simp only [go_sem]
      exact Kv.Fin.now ⟨rfl, rfl⟩
end Go.Proofs.YtpihikppdeecmaaGreat
end
section
/- Searching in lists of maps, and deleting from them. -/
namespace Go.Proofs.YtpihikppdeecmaaGreat
open Go.Kv
set_option maxRecDepth 100000
def k117_b0 : KC := (.seq (.ops [oP 9 (.bin .lss (.t 8) (.t 7))])
  (.seq (.cond (.t 9) .skip (.exit 0))
  (.seq (.block 1 (.seq (.ops [mV 10 8, mV 5 10])
  (.seq (.ops [mV 11 1, mV 12 0, mV 13 5, oP 14 (.idxS 6 (.t 12) (.t 13)), oP 15 (.load true 6 (.t 14)), oP 16 (.call (.t 11) [(.t 15)])])
  (.cond (.t 16) (.seq (.ops [mV 17 5, mV 4 17])
  .ret) .skip))))
  (.ops [oP 18 (.bin .add (.t 8) (iC 1)), mV 8 18]))))
def k117 : KC := (.seq (.ops [oP 4 (.mv (iC 0))])
  (.seq (.seq (.ops [mV 6 0, oP 7 (.len false (.t 6)), oP 8 (.mv (iC 0))])
  (.block 0 (.loop k117_b0)))
  (.seq (.ops [oP 4 (.mv (iC (-1)))])
  .ret)))
theorem e117 : Ent 117 19 [] [.t 4] k117 := ent Tryz.func117 (by kernel_rfl) (by kernel_rfl) (by kernel_rfl) (fun _ => by kernel_rfl) (by kernel_rfl)
end Go.Proofs.YtpihikppdeecmaaGreat
namespace Go.Proofs.YtpihikppdeecmaaGreat
open Go.Kv
set_option linter.unusedVariables false
set_option linter.unusedSimpArgs false
attribute [local irreducible] ACall PCall KL
theorem p117 (l : List (List Int)) (hm : ∀ x ∈ l, x.length = 6) (hl : l.length ≤ 4294967296) (fid : FuncId) (caps : List PV) [hc : StillL caps] (p : List Int → Bool) (hp : ∀ x ∈ l, Pure Tryz.prog fid (.agg (ints x) :: caps) (.bool (p x))) :
    Pure Tryz.prog 117 [.list (aggs l), .fn (.func fid) [] caps] (.int .i64 (idx p l)) := by
  refine e117 (by simp) fun _ _ => ?_
  simp only [k117, argEnv, go_sem]
  refine KL_ind k117_b0.eq_1 (fun x : Nat => [(0, .list (aggs l)), (1, .fn (.func fid) [] caps), (7, .int .i64 l.length), (8, .int .i64 x)]) (fun _ => []) (fun x => x ≤ l.length ∧ (l.take x).any p = false) (fun x => l.length - x) [0, 1, 7, 8] 0 rfl rfl ⟨Nat.zero_le _, by simp⟩ fun x ⟨hx, hall⟩ ih => ?_
  try simp only [go_sem]
  refine ⟨fun h1 => ⟨by omega, fun h2 => ?_⟩, fun h1 => ?_⟩
  · rw [getD_eq h2]
    have h6 := hm _ (List.getElem_mem h2)
    try simp only [h6, go_sem]
    refine (hp _ (List.getElem_mem h2)).go ?_
    try simp only [go_sem]
    refine ⟨fun h3 => ?_, fun h3 => ⟨by omega, ?_⟩⟩
    · exact Kv.Fin.now ⟨by rw [idx_some h2 hall h3], rfl⟩
    · refine ih (x + 1) ⟨by omega, ?_⟩ (by omega) _ _ rfl rfl
      rw [any_take_succ _ h2, hall, h3]; rfl
  · obtain rfl : x = l.length := by omega
    rw [List.take_length] at hall
    exact Kv.Fin.now ⟨by rw [idx_none hall], rfl⟩
end Go.Proofs.YtpihikppdeecmaaGreat
end
section
/- Lists of maps: their size, their copies, their equality; the lists that are joined. -/
namespace Go.Proofs.YtpihikppdeecmaaGreat
open Go.Kv
set_option maxRecDepth 100000
def k33 : KC := (.seq (.ops [oP 4 (.mv (iC 0))])
  (.seq (.ops [mV 5 1, mV 6 0, oP 7 (.len false (.t 6)), oP 8 (.bin .sub (.t 5) (.t 7)), mV 1 8])
  (.seq (.seq (.ops [mV 9 1, oP 10 (.bin .lss (.t 9) (iC 0))])
  (.cond (.t 10) (.seq (.ops [oP 4 (.mv (iC (-1)))])
  .ret) .skip))
  (.seq (.ops [mV 11 1, mV 4 11])
  .ret))))
theorem e33 : Ent 33 12 [] [.t 4] k33 := ent Tryz.func33 (by kernel_rfl) (by kernel_rfl) (by kernel_rfl) (fun _ => by kernel_rfl) (by kernel_rfl)
def k39_b0 : KC := (.seq (.seq (.ops [mV 8 4, mV 9 0, oP 10 (.len false (.t 9)), oP 11 (.bin .lss (.t 8) (.t 10))])
  (.cond (.t 11) .skip (.exit 0)))
  (.seq (.block 1 (.ops [mV 14 3, mV 15 4, mV 16 0, mV 17 4, oP 18 (.idxS 6 (.t 16) (.t 17)), oP 19 (.load true 6 (.t 18)), oP 20 (.call (fC 87) [(.t 19)]), oP 21 (.idxS 6 (.t 14) (.t 15)), ⟨none, none, .store 6 (.t 21) (.t 20)⟩]))
  (.ops [mV 12 4, oP 13 (.bin .add (.t 12) (iC 1)), mV 4 13])))
def k39 : KC := (.seq (.ops [oP 2 (.mv (.c (.nils)))])
  (.seq (.ops [mV 5 0, oP 6 (.len false (.t 5)), oP 7 (.mks 54 6 (.agg [.int .i64 0, .int .i64 0, .int .i64 0, .int .i64 0, .int .i64 0, .int .i64 0]) (.t 6) (.t 6)), mV 3 7])
  (.seq (.seq (.ops [oP 4 (.mv (iC 0))])
  (.block 0 (.loop k39_b0)))
  (.seq (.ops [mV 22 3, mV 2 22])
  .ret))))
theorem e39 : Ent 39 23 [] [.t 2] k39 := ent Tryz.func39 (by kernel_rfl) (by kernel_rfl) (by kernel_rfl) (fun _ => by kernel_rfl) (by kernel_rfl)
def k47_b0 : KC := (.seq (.seq (.ops [mV 11 5, mV 12 0, oP 13 (.len false (.t 12)), oP 14 (.bin .lss (.t 11) (.t 13))])
  (.cond (.t 14) .skip (.exit 0)))
  (.seq (.block 1 (.seq (.draw [mV 17 0, mV 18 5, oP 19 (.idxS 6 (.t 17) (.t 18)), oP 20 (.load true 6 (.t 19)), mV 21 1, mV 22 5, oP 23 (.idxS 6 (.t 21) (.t 22)), oP 24 (.load true 6 (.t 23)), oP 25 (.pcall (fC 99) [(.t 20), (.t 24)]), oP 26 (.not (.t 25))])
  (.cond (.t 26) (.seq (.ops [oP 4 (.mv (.c (.bool false)))])
  .ret) .skip)))
  (.ops [mV 15 5, oP 16 (.bin .add (.t 15) (iC 1)), mV 5 16])))
def k47 : KC := (.seq (.ops [oP 4 (.mv (.c (.bool false)))])
  (.seq (.seq (.ops [mV 6 0, oP 7 (.len false (.t 6)), mV 8 1, oP 9 (.len false (.t 8)), oP 10 (.bin .neq (.t 7) (.t 9))])
  (.cond (.t 10) (.seq (.ops [oP 4 (.mv (.c (.bool false)))])
  .ret) .skip))
  (.seq (.seq (.ops [oP 5 (.mv (iC 0))])
  (.block 0 (.loop k47_b0)))
  (.seq (.ops [oP 4 (.mv (.c (.bool true)))])
  .ret))))
theorem e47 : Ent 47 27 [] [.t 4] k47 := ent Tryz.func47 (by kernel_rfl) (by kernel_rfl) (by kernel_rfl) (fun _ => by kernel_rfl) (by kernel_rfl)
def k138 : KC := (.seq (.ops [oP 4 (.mv (.c (.nils)))])
  (.seq (.seq (.ops [mV 5 1, oP 6 (.bin .lss (.t 5) (iC 0))])
  (.cond (.t 6) (.ops [oP 7 (.bad), ⟨none, none, .bad⟩]) .skip))
  (.seq (.seq (.ops [mV 8 1, mV 9 0, oP 10 (.cap0 (.t 9)), mV 11 0, oP 12 (.len false (.t 11)), oP 13 (.bin .sub (.t 10) (.t 12)), oP 14 (.bin .sub (.t 8) (.t 13)), mV 1 14])
  (.seq (.ops [mV 15 1, oP 16 (.bin .gtr (.t 15) (iC 0))])
  (.cond (.t 16) (.ops [mV 17 0, mV 18 0, oP 19 (.cap0 (.t 18)), oP 20 (.sls 6 (.t 17) none (some (.t 19))), mV 21 1, oP 22 (.apn (.t 20) (.t 21) 54 6 (.agg [.int .i64 0, .int .i64 0, .int .i64 0, .int .i64 0, .int .i64 0, .int .i64 0])), mV 23 0, oP 24 (.len false (.t 23)), oP 25 (.sls 6 (.t 22) none (some (.t 24))), mV 0 25]) .skip)))
  (.seq (.ops [mV 26 0, mV 4 26])
  .ret))))
theorem e138 : Ent 138 27 [] [.t 4] k138 := ent Tryz.func138 (by kernel_rfl) (by kernel_rfl) (by kernel_rfl) (fun _ => by kernel_rfl) (by kernel_rfl)
def k123_b0 : KC := (.seq (.ops [oP 12 (.bin .lss (.t 11) (.t 10))])
  (.seq (.cond (.t 12) .skip (.exit 0))
  (.seq (.block 1 (.seq (.ops [oP 13 (.idxS 1 (.t 9) (.t 11)), oP 14 (.load false 1 (.t 13)), mV 5 14])
  (.seq (.ops [mV 15 3, mV 16 5, oP 17 (.len false (.t 16)), oP 18 (.bin .add (.t 15) (.t 17)), mV 3 18])
  (.seq (.ops [mV 19 3, oP 20 (.bin .lss (.t 19) (iC 0))])
  (.cond (.t 20) (.ops [oP 21 (.bad), ⟨none, none, .bad⟩]) .skip)))))
  (.ops [oP 22 (.bin .add (.t 11) (iC 1)), mV 11 22]))))
def k123_b1 : KC := (.seq (.ops [oP 28 (.bin .lss (.t 27) (.t 26))])
  (.seq (.cond (.t 28) .skip (.exit 2))
  (.seq (.block 3 (.seq (.ops [oP 29 (.idxS 1 (.t 25) (.t 27)), oP 30 (.load false 1 (.t 29)), mV 8 30])
  (.ops [mV 31 6, mV 32 8, oP 33 (.app (.t 31) (.t 32) 54 6), mV 6 33])))
  (.ops [oP 34 (.bin .add (.t 27) (iC 1)), mV 27 34]))))
def k123 : KC := (.seq (.ops [oP 2 (.mv (.c (.nils)))])
  (.seq (.ops [oP 3 (.mv (iC 0))])
  (.seq (.seq (.ops [mV 9 0, oP 10 (.len false (.t 9)), oP 11 (.mv (iC 0))])
  (.block 0 (.loop k123_b0)))
  (.seq (.ops [mV 23 3, oP 24 (.call (fC 138) [(.c (.nils)), (.t 23)]), mV 6 24])
  (.seq (.seq (.ops [mV 25 0, oP 26 (.len false (.t 25)), oP 27 (.mv (iC 0))])
  (.block 2 (.loop k123_b1)))
  (.seq (.ops [mV 35 6, mV 2 35])
  .ret))))))
theorem e123 : Ent 123 36 [] [.t 2] k123 := ent Tryz.func123 (by kernel_rfl) (by kernel_rfl) (by kernel_rfl) (fun _ => by kernel_rfl) (by kernel_rfl)
end Go.Proofs.YtpihikppdeecmaaGreat
namespace Go.Proofs.YtpihikppdeecmaaGreat
open Go.Kv
set_option linter.unusedVariables false
set_option linter.unusedSimpArgs false
attribute [local irreducible] ACall PCall KL
theorem p33 (l : List (List Int)) (k : Int) (hl : l.length ≤ 9223372036854775807) (hk : 0 ≤ k ∧ k ≤ 4294967296) : Pure Tryz.prog 33 [.list (aggs l), .int .i64 k] (.int .i64 (if k - l.length < 0 then -1 else k - l.length)) := by
  refine e33 (by simp) fun _ _ => ?_
  simp only [k33, argEnv, go_sem]
  repeat' (first | refine And.intro ?_ ?_ | intro _)
  all_goals (try omega)
  · rename_i h
    exact Kv.Fin.now ⟨by rw [if_pos h], rfl⟩
  · rename_i h
    exact Kv.Fin.now ⟨by rw [if_neg h], rfl⟩
theorem aggs_repl (n : Nat) : List.replicate n (PV.agg [.int .i64 0, .int .i64 0, .int .i64 0, .int .i64 0, .int .i64 0, .int .i64 0]) = aggs (List.replicate n [0, 0, 0, 0, 0, 0]) := by simp [aggs, ints]
theorem copyA_step {l : List (List Int)} {x : Nat} (z : List Int) (h : x < l.length) : (l.take x ++ List.replicate (l.length - x) z).set x (l.getD x []) = l.take (x + 1) ++ List.replicate (l.length - (x + 1)) z := by
  have e : l.length - x = (l.length - (x + 1)) + 1 := by omega
  rw [e, List.replicate_succ, List.set_append_right _ _ (by simp; omega), List.length_take, Nat.min_eq_left (by omega), Nat.sub_self, List.set_cons_zero, List.take_succ_eq_append_getElem h, List.append_assoc]
  simp [List.getD_eq_getElem?_getD, h]
theorem mixA_get {l : List (List Int)} {x : Nat} (z : List Int) (h : x < l.length) : (l.take x ++ List.replicate (l.length - x) z).getD x [] = z := by
  have e : l.length - x = (l.length - (x + 1)) + 1 := by omega
  rw [List.getD_eq_getElem?_getD, List.getElem?_append_right (by simp; omega), List.length_take, Nat.min_eq_left (by omega), Nat.sub_self, e]
  rfl
theorem p39o (l : List (List Int)) (hl : l.length ≤ 1048576) (hm : ∀ r ∈ l, r.length = 6) : ACall Tryz.prog 39 [.list (aggs l)] [] (fun v s => v = .ref 0 0 0 l.length ∧ s = [.arr 0 54 6 (aggs l)]) := by
  refine e39 (by simp) fun _ _ => ?_
  simp only [k39, argEnv, aggs_repl, go_sem]
  refine ⟨by omega, ?_⟩
  refine KL_ind k39_b0.eq_1 (fun x : Nat => [(4, .int .i64 x), (3, .ref 0 0 0 l.length), (0, .list (aggs l))]) (fun x => [.arr 0 54 6 (aggs (l.take x ++ List.replicate (l.length - x) [0, 0, 0, 0, 0, 0]))]) (fun x => x ≤ l.length) (fun x => l.length - x) [4, 3, 0] 0 (by simp [keep]) (by simp) (Nat.zero_le _) fun x hi ih => ?_
  try simp only [go_sem]
  refine ⟨fun h1 => ⟨by omega, fun h2 => ?_⟩, fun h1 => ?_⟩
  · have h6 : (l.getD x []).length = 6 := by rw [getD_eq h2]; exact hm _ (List.getElem_mem h2)
    try simp only [h6, go_sem]
    refine (p87 _ h6).go ?_
    try simp only [h6, List.length_take, List.length_replicate, mixA_get _ h2, go_sem]
    repeat' (first | refine And.intro ?_ ?_ | intro _)
    all_goals (try omega)
    all_goals first
      | (rw [copyA_step _ h2]; exact ih (x + 1) (by omega) (by omega) _ _ (by simp [keep]) rfl)
      | skip
  · obtain rfl : x = l.length := by omega
    have e : l.take l.length ++ List.replicate (l.length - l.length) [0, 0, 0, 0, 0, 0] = l := by simp
    rw [e]
    exact Kv.Fin.now ⟨rfl, rfl⟩
theorem p39 (l : List (List Int)) (hl : l.length ≤ 1048576) (hm : ∀ r ∈ l, r.length = 6) : Pure Tryz.prog 39 [.list (aggs l)] (.list (aggs l)) :=
  ACall.ret (p39o l hl hm) fun v s ⟨hv, hs⟩ => by
    subst hv; subst hs
    exact Fin.freeze (Imm.refa rfl) ⟨rfl, rfl⟩
theorem takeL_succ_eq {xs ys : List (List Int)} {x : Nat} (ht : xs.take x = ys.take x) (h1 : x < xs.length) (h2 : x < ys.length) (he : xs.getD x [] = ys.getD x []) : xs.take (x + 1) = ys.take (x + 1) := by
  rw [List.take_succ_eq_append_getElem h1, List.take_succ_eq_append_getElem h2, ht]
  simp [List.getD_eq_getElem?_getD, h1, h2] at he
  rw [he]
theorem p47 (a b : List (List Int)) (ha : a.length ≤ 4294967296) (hb : b.length ≤ 4294967296) (hma : ∀ r ∈ a, r.length = 6) (hmb : ∀ r ∈ b, r.length = 6) : Pure Tryz.prog 47 [.list (aggs a), .list (aggs b)] (.bool (decide (a = b))) := by
  refine e47 (by simp) fun _ _ => ?_
  simp only [k47, argEnv, go_sem]
  refine ⟨fun h => Kv.Fin.now ⟨?_, rfl⟩, fun h => ?_⟩
  · have : a ≠ b := fun e => h (by rw [e])
    simp [this]
  · have hlen : a.length = b.length := by omega
    refine KL_ind k47_b0.eq_1 (fun x : Nat => [(5, .int .i64 x), (0, .list (aggs a)), (1, .list (aggs b))]) (fun _ => []) (fun x => x ≤ a.length ∧ a.take x = b.take x) (fun x => a.length - x) [5, 0, 1] 0 (by rfl) rfl ⟨Nat.zero_le _, by simp⟩ fun x ⟨hi, ht⟩ ih => ?_
    try simp only [go_sem]
    refine ⟨fun h1 => ⟨by omega, fun h2 => ?_⟩, fun h1 => ?_⟩
    · have h6 : (a.getD x []).length = 6 := by rw [getD_eq h2]; exact hma _ (List.getElem_mem h2)
      have h2' : x < b.length := by omega
      have h6' : (b.getD x []).length = 6 := by rw [getD_eq h2']; exact hmb _ (List.getElem_mem h2')
      try simp only [h6, h6', h2', go_sem]
      refine ⟨by omega, ?_⟩
      refine (p99 _ _ h6 h6').pgo ?_
      try simp only [go_sem]
      refine ⟨fun h4 => ?_, fun h4 => ⟨by omega, ?_⟩⟩
      · have : a ≠ b := fun e => h4 (by rw [e])
        exact Kv.Fin.now ⟨by simp [this], rfl⟩
      · exact ih (x + 1) ⟨by omega, takeL_succ_eq ht h2 h2' h4⟩ (by omega) _ _ (by rfl) rfl
    · obtain rfl : x = a.length := by omega
      have : a = b := by rw [List.take_length, hlen, List.take_length] at ht; exact ht
      exact Kv.Fin.now ⟨by simp [this], rfl⟩
end Go.Proofs.YtpihikppdeecmaaGreat
end
section
/- Lists of maps, joined. -/
namespace Go.Proofs.YtpihikppdeecmaaGreat
open Go.Kv
set_option linter.unusedVariables false
set_option linter.unusedSimpArgs false
attribute [local irreducible] ACall PCall KL
theorem p138 (n : Int) (h00 : 0 ≤ n) (hn : n ≤ 4294967296) {K : PV → Heap → Prop} (h0 : n = 0 → K .nils []) (h1 : 0 < n → K (.ref 0 0 0 0) [.arr 0 54 6 (aggs (List.replicate n.toNat [0, 0, 0, 0, 0, 0]))]) :
    ACall Tryz.prog 138 [.nils, .int .i64 n] [] K := by
  refine e138 (by simp) fun _ _ => ?_
  simp only [k138, argEnv, go_sem]
  repeat' (first | refine And.intro ?_ ?_ | intro _)
  all_goals (try omega)
  · rename_i hp
    have e : n - (0 - 0) = n := by omega
    rw [e, aggs_repl]
    exact Kv.Fin.now (h1 (by omega))
  · exact Kv.Fin.now (h0 (by omega))
/-- A list of maps as a value: nil, or a list. -/
inductive Ms : PV → List (List Int) → Prop
  | nil : Ms .nils []
  | list (l : List (List Int)) : Ms (.list (aggs l)) l
theorem p123 (w : PV) (a b : List (List Int)) (hw : Ms w b) (ha : a.length ≤ 1048576) (hb : b.length ≤ 1048576) (hma : ∀ r ∈ a, r.length = 6) (hmb : ∀ r ∈ b, r.length = 6) :
    ACall Tryz.prog 123 [.list [.list (aggs a), w]] [] (fun v s => ∃ ver, v = .ref 0 ver 0 (a ++ b).length ∧ s = [.arr ver 54 6 (aggs (a ++ b))]) := by
  have hoa := okL_aggs 6 a
  have hob := okL_aggs 6 b
  rw [eq_true hma] at hoa
  rw [eq_true hmb] at hob
  have hap : aggs a ++ aggs b = aggs (a ++ b) := by simp [aggs]
  have hnil : aggs ([] : List (List Int)) = [] := rfl
  cases hw
  all_goals
    refine e123 (by simp) fun _ _ => ?_
    simp only [k123, argEnv, go_sem]
    refine KL_round ?_
    rw [k123_b0.eq_1]
    try simp only [go_sem]
    repeat' (first | refine And.intro ?_ ?_ | intro _)
    all_goals (try omega)
    refine KL_round ?_
    try simp only [Int.reduceAdd, Int.reduceToNat, Int.zero_add, go_sem]
    repeat' (first | refine And.intro ?_ ?_ | intro _)
    all_goals (try omega)
    refine KL_round ?_
    try simp only [Int.reduceAdd, Int.reduceToNat, Int.zero_add, go_sem]
    repeat' (first | refine And.intro ?_ ?_ | intro _)
    all_goals (try omega)
    refine (p138 _ (by omega) (by omega) (fun h0 => ?_) (fun h0 => ?_))
  all_goals
    try simp only [go_sem]
    refine KL_round ?_
    rw [k123_b1.eq_1]
    try simp only [hoa, hob, hap, hnil, go_sem]
    repeat' (first | refine And.intro ?_ ?_ | intro _)
    all_goals (try omega)
    refine KL_round ?_
    try simp only [Int.reduceAdd, Int.reduceToNat, Int.zero_add, hoa, hob, hap, hnil, go_sem]
    repeat' (first | refine And.intro ?_ ?_ | intro _)
    all_goals (try omega)
    refine KL_round ?_
    try simp only [Int.reduceAdd, Int.reduceToNat, Int.zero_add, hoa, hob, hap, hnil, go_sem]
    repeat' (first | refine And.intro ?_ ?_ | intro _)
    all_goals (try omega)
    refine Kv.Fin.now ?_
  · exact ⟨1, rfl, rfl⟩
  · exact ⟨2, rfl, by simp⟩
  · exact ⟨1, rfl, rfl⟩
  · exact ⟨2, rfl, by simp⟩
theorem Imm.refs {σ : Heap} {id ver n : Nat} {e : TypeId} {cs : List PV} (h : σ[id]? = some (.arr ver e 1 cs)) (hn : n = cs.length) (hc : ∀ c ∈ cs, c.cs = [c] ∧ c.ok = true ∧ Still c) : Imm σ (.ref id ver 0 n) (.list cs) := by
  subst hn
  exact .ref id ver 0 cs.length e 1 cs cs h (by simp) rfl
    (fun i x d hx hd => by simp only [Nat.zero_add, hd, Option.some.injEq] at hx; subst hx; have h1 := hc _ (List.mem_of_getElem? hd); rw [h1.1]; exact ⟨rfl, by simp [h1.2.1]⟩)
    (fun i x d j c c' hx hd hcc hc' => by
      simp only [Nat.zero_add, hd, Option.some.injEq] at hx; subst hx
      have h1 := hc _ (List.mem_of_getElem? hd)
      rw [hcc] at hc'; cases hc'
      rw [h1.1] at hcc
      have := List.mem_of_getElem? hcc
      simp only [List.mem_singleton] at this; subst this
      have := h1.2.2
      exact Imm.still)
theorem Ms.still {w : PV} {l : List (List Int)} (h : Ms w l) : w.cs = [w] ∧ w.ok = true ∧ Still w := by
  cases h
  · exact ⟨rfl, rfl, inferInstance⟩
  · exact ⟨rfl, rfl, inferInstance⟩
theorem p123L (σ : Heap) (id : Nat) (w : PV) (a b : List (List Int)) (hw : Ms w b) (hid : σ[id]? = some (.arr 0 29 1 [.list (aggs a), w])) (ha : a.length ≤ 1048576) (hb : b.length ≤ 1048576) (hma : ∀ r ∈ a, r.length = 6) (hmb : ∀ r ∈ b, r.length = 6) {K : PV → Heap → Prop}
    (hK : ∀ ver, K (.ref σ.length ver 0 (a ++ b).length) (σ ++ [.arr ver 54 6 (aggs (a ++ b))])) :
    ACall Tryz.prog 123 [.ref id 0 0 2] σ K := by
  have him : Imm σ (.ref id 0 0 2) (.list [.list (aggs a), w]) := Imm.refs hid rfl fun c hc => by
    simp only [List.mem_cons, List.not_mem_nil, or_false] at hc
    rcases hc with rfl | rfl
    · exact ⟨rfl, rfl, inferInstance⟩
    · exact hw.still
  refine ACall.lend (p123 w a b hw ha hb hma hmb) (.cons him (.nil _)) fun v s ⟨ver, hv, hs⟩ => ?_
  subst hv; subst hs
  refine ⟨⟨free_ref _ _ _ _, ?_⟩, ?_⟩
  · intro o ho
    simp only [List.mem_singleton] at ho; subst ho
    exact fun c hc => (flat_aggs c hc).fr
  · simpa only [ren_ref, ren_arr, ren_aggs, List.map_cons, List.map_nil, sh_def, Nat.zero_add] using hK ver
end Go.Proofs.YtpihikppdeecmaaGreat
end
section
/- Counts by formula: choose, power, and the number of idempotents. -/
namespace Go.Proofs.YtpihikppdeecmaaGreat
open Go.Kv
set_option linter.unusedVariables false
set_option linter.unusedSimpArgs false
attribute [local irreducible] ACall PCall KL
def ch (n : Nat) : Nat → Int
  | 0 => 1
  | i + 1 => ch n i * ((n : Int) - i) / ((i : Int) + 1)
end Go.Proofs.YtpihikppdeecmaaGreat
end
section
/- The code of lists of maps: both sides. -/
namespace Go.Proofs.YtpihikppdeecmaaGreat
open Go.Kv
set_option maxRecDepth 100000
def k88_b0 : KC := (.seq (.ops [oP 15 (.bin .lss (.t 14) (.t 13))])
  (.seq (.cond (.t 15) .skip (.exit 0))
  (.seq (.block 1 (.seq (.ops [oP 16 (.idxS 6 (.t 12) (.t 14)), oP 17 (.load true 6 (.t 16)), oP 6 (.alloc [.int .i64 0, .int .i64 0, .int .i64 0, .int .i64 0, .int .i64 0, .int .i64 0]), ⟨none, none, .store 6 (.t 6) (.t 17)⟩])
  (.seq (.ops [oP 18 (.load true 6 (.t 6)), oP 19 (.call (fC 62) [(.t 18)]), oP 20 (.not (.t 19))])
  (.cond (.t 20) (.seq (.ops [oP 4 (.mv (iC 1))])
  .ret) .skip))))
  (.ops [oP 21 (.bin .add (.t 14) (iC 1)), mV 14 21]))))
def k88_b1 : KC := (.seq (.ops [oP 32 (.bin .lss (.t 31) (.t 30))])
  (.seq (.cond (.t 32) .skip (.exit 2))
  (.seq (.block 3 (.seq (.ops [oP 33 (.idxS 6 (.t 29) (.t 31)), oP 34 (.load true 6 (.t 33)), oP 8 (.alloc [.int .i64 0, .int .i64 0, .int .i64 0, .int .i64 0, .int .i64 0, .int .i64 0]), ⟨none, none, .store 6 (.t 8) (.t 34)⟩])
  (.seq (.draw [oP 35 (.fieldA 0 (.t 8)), oP 36 (.load false 1 (.t 35)), mV 37 0, oP 38 (.idxS 6 (.t 37) (iC 0)), oP 39 (.fieldA 0 (.t 38)), oP 40 (.load false 1 (.t 39)), oP 41 (.bin .neq (.t 36) (.t 40))])
  (.cond (.t 41) (.seq (.ops [oP 4 (.mv (iC 2))])
  .ret) .skip))))
  (.ops [oP 42 (.bin .add (.t 31) (iC 1)), mV 31 42]))))
def k88 : KC := (.seq (.ops [oP 4 (.mv (iC 0))])
  (.seq (.seq (.ops [mV 9 0, mV 10 1, oP 11 (.bsl false 29 1 [(.t 9), (.t 10)]), oP 12 (.call (fC 123) [(.t 11)]), oP 13 (.len false (.t 12)), oP 14 (.mv (iC 0))])
  (.block 0 (.loop k88_b0)))
  (.seq (.seq (.ops [mV 22 0, oP 23 (.len false (.t 22)), oP 24 (.call (fC 77) [(.t 23), (iC 1), (iC 6)]), oP 25 (.not (.t 24))])
  (.cond (.t 25) (.seq (.ops [oP 4 (.mv (iC 2))])
  .ret) .skip))
  (.seq (.seq (.ops [mV 26 0, mV 27 1, oP 28 (.bsl false 29 1 [(.t 26), (.t 27)]), oP 29 (.call (fC 123) [(.t 28)]), oP 30 (.len false (.t 29)), oP 31 (.mv (iC 0))])
  (.block 2 (.loop k88_b1)))
  (.seq (.ops [oP 4 (.mv (iC 0))])
  .ret)))))
theorem e88 : Ent 88 43 [] [.t 4] k88 := ent Tryz.func88 (by kernel_rfl) (by kernel_rfl) (by kernel_rfl) (fun _ => by kernel_rfl) (by kernel_rfl)
def k80_b0 : KC := (.seq (.seq (.ops [mV 8 5, mV 9 0, oP 10 (.len false (.t 9)), oP 11 (.bin .lss (.t 8) (.t 10))])
  (.cond (.t 11) .skip (.exit 0)))
  (.seq (.block 1 (.seq (.ops [mV 14 0, mV 15 5, oP 16 (.idxS 6 (.t 14) (.t 15)), oP 17 (.load true 6 (.t 16)), oP 18 (.call (fC 119) [(.t 17)]), oP 19 (.not (.t 18))])
  (.cond (.t 19) (.seq (.ops [oP 4 (.mv (iC 1))])
  .ret) .skip)))
  (.ops [mV 12 5, oP 13 (.bin .add (.t 12) (iC 1)), mV 5 13])))
def k80_b1 : KC := (.seq (.seq (.ops [mV 20 6, mV 21 1, oP 22 (.len false (.t 21)), oP 23 (.bin .lss (.t 20) (.t 22))])
  (.cond (.t 23) .skip (.exit 2)))
  (.seq (.block 3 (.seq (.ops [mV 26 1, mV 27 6, oP 28 (.idxS 6 (.t 26) (.t 27)), oP 29 (.load true 6 (.t 28)), oP 30 (.call (fC 119) [(.t 29)]), oP 31 (.not (.t 30))])
  (.cond (.t 31) (.seq (.ops [oP 4 (.mv (iC 1))])
  .ret) .skip)))
  (.ops [mV 24 6, oP 25 (.bin .add (.t 24) (iC 1)), mV 6 25])))
def k80_b2 : KC := (.seq (.seq (.ops [mV 35 7, mV 36 1, oP 37 (.len false (.t 36)), oP 38 (.bin .lss (.t 35) (.t 37))])
  (.cond (.t 38) .skip (.exit 4)))
  (.seq (.block 5 (.seq (.draw [mV 41 1, mV 42 7, oP 43 (.idxS 6 (.t 41) (.t 42)), oP 44 (.fieldA 0 (.t 43)), oP 45 (.load false 1 (.t 44)), mV 46 0, oP 47 (.idxS 6 (.t 46) (iC 0)), oP 48 (.fieldA 0 (.t 47)), oP 49 (.load false 1 (.t 48)), oP 50 (.bin .neq (.t 45) (.t 49))])
  (.cond (.t 50) (.seq (.ops [oP 4 (.mv (iC 2))])
  .ret) .skip)))
  (.ops [mV 39 7, oP 40 (.bin .add (.t 39) (iC 1)), mV 7 40])))
def k80 : KC := (.seq (.ops [oP 4 (.mv (iC 0))])
  (.seq (.seq (.ops [oP 5 (.mv (iC 0))])
  (.block 0 (.loop k80_b0)))
  (.seq (.seq (.ops [oP 6 (.mv (iC 0))])
  (.block 2 (.loop k80_b1)))
  (.seq (.seq (.ops [mV 32 0, oP 33 (.call (fC 78) [(.t 32)]), oP 34 (.not (.t 33))])
  (.cond (.t 34) (.seq (.ops [oP 4 (.mv (iC 2))])
  .ret) .skip))
  (.seq (.seq (.ops [oP 7 (.mv (iC 0))])
  (.block 4 (.loop k80_b2)))
  (.seq (.ops [oP 4 (.mv (iC 0))])
  .ret))))))
theorem e80 : Ent 80 51 [] [.t 4] k80 := ent Tryz.func80 (by kernel_rfl) (by kernel_rfl) (by kernel_rfl) (fun _ => by kernel_rfl) (by kernel_rfl)
def k78_b0 : KC := (.seq (.seq (.ops [mV 12 3, mV 13 0, oP 14 (.len false (.t 13)), oP 15 (.bin .lss (.t 12) (.t 14))])
  (.cond (.t 15) .skip (.exit 0)))
  (.seq (.block 1 (.seq (.draw [mV 18 0, mV 19 3, oP 20 (.idxS 6 (.t 18) (.t 19)), oP 21 (.load true 6 (.t 20)), oP 22 (.pcall (fC 119) [(.t 21)]), oP 23 (.not (.t 22)), mV 24 23, ⟨(some 25), some (24, false), .mv (.t 0)⟩, ⟨(some 26), some (24, false), .mv (.t 3)⟩, ⟨(some 27), some (24, false), .idxS 6 (.t 25) (.t 26)⟩, ⟨(some 28), some (24, false), .fieldA 0 (.t 27)⟩, ⟨(some 29), some (24, false), .load false 1 (.t 28)⟩, ⟨(some 30), some (24, false), .mv (.t 0)⟩, ⟨(some 31), some (24, false), .idxS 6 (.t 30) (iC 0)⟩, ⟨(some 32), some (24, false), .fieldA 0 (.t 31)⟩, ⟨(some 33), some (24, false), .load false 1 (.t 32)⟩, ⟨(some 34), some (24, false), .bin .neq (.t 29) (.t 33)⟩, oP 35 (.pick (.t 24) (.c (.bool true)) (.t 34))])
  (.cond (.t 35) (.seq (.ops [oP 2 (.mv (.c (.bool false)))])
  .ret) .skip)))
  (.ops [mV 16 3, oP 17 (.bin .add (.t 16) (iC 1)), mV 3 17])))
def k78 : KC := (.seq (.ops [oP 2 (.mv (.c (.bool false)))])
  (.seq (.seq (.ops [mV 4 0, oP 5 (.len false (.t 4)), oP 6 (.bin .lss (.t 5) (iC 1)), mV 7 6, ⟨(some 8), some (7, false), .mv (.t 0)⟩, ⟨(some 9), some (7, false), .len false (.t 8)⟩, ⟨(some 10), some (7, false), .bin .gtr (.t 9) (iC 6)⟩, oP 11 (.pick (.t 7) (.c (.bool true)) (.t 10))])
  (.cond (.t 11) (.seq (.ops [oP 2 (.mv (.c (.bool false)))])
  .ret) .skip))
  (.seq (.seq (.ops [oP 3 (.mv (iC 0))])
  (.block 0 (.loop k78_b0)))
  (.seq (.ops [oP 2 (.mv (.c (.bool true)))])
  .ret))))
theorem e78 : Ent 78 36 [] [.t 2] k78 := ent Tryz.func78 (by kernel_rfl) (by kernel_rfl) (by kernel_rfl) (fun _ => by kernel_rfl) (by kernel_rfl)
end Go.Proofs.YtpihikppdeecmaaGreat
namespace Go.Proofs.YtpihikppdeecmaaGreat
open Go.Kv
set_option linter.unusedVariables false
set_option linter.unusedSimpArgs false
attribute [local irreducible] ACall PCall KL
/-- What a list of maps and some more come to: none is no map, their number, their points. -/
def lcode (a b : List (List Int)) : Int :=
  if (a ++ b).all isM = false then 1 else if ¬ (1 ≤ a.length ∧ a.length ≤ 6) then 2 else if (a ++ b).all (fun r => decide (r.getD 0 0 = (a.getD 0 []).getD 0 0)) = false then 2 else 0
theorem all_false {α : Type} {l : List α} {x : Nat} {p : α → Bool} (h : x < l.length) (hp : p l[x] = false) : l.all p = false := by
  rw [List.all_eq_false]; exact ⟨l[x], List.getElem_mem h, by simp [hp]⟩
theorem p88 (w : PV) (a b : List (List Int)) (hw : Ms w b) (ha : a.length ≤ 1048576) (hb : b.length ≤ 1048576) (hma : ∀ r ∈ a, r.length = 6) (hmb : ∀ r ∈ b, r.length = 6) :
    Pure Tryz.prog 88 [.list (aggs a), w] (.int .i64 (lcode a b)) := by
  have hab : ∀ r ∈ a ++ b, r.length = 6 := fun r hr => (List.mem_append.1 hr).elim (hma r) (hmb r)
  have hlab : (a ++ b).length ≤ 2097152 := by simp; omega
  have hwu : ∀ n, w.undr n = true := fun n => by cases hw <;> simp [PV.undr, undrX_aggs]
  have hwc := hw.still
  have hwk : w.cs.length = 1 := by rw [hwc.1]; rfl
  have hwk2 : w.cs.all PV.ok = true := by rw [hwc.1]; simp [hwc.2.1]
  refine e88 (by simp) fun _ _ => ?_
  simp only [k88, argEnv, OpK_eq, hwk, hwk2, go_sem]
  refine p123L _ 0 w a b hw rfl ha hb hma hmb fun ver => ?_
  try simp only [go_sem]
  have hsum : a.length + b.length = (a ++ b).length := by simp
  rw [hsum]
  have hlc : lcode a b = if (a ++ b).all isM = false then 1 else if ¬ (1 ≤ a.length ∧ a.length ≤ 6) then 2 else if (a ++ b).all (fun r => decide (r.getD 0 0 = (a.getD 0 []).getD 0 0)) = false then 2 else 0 := rfl
  generalize hL : a ++ b = l at *
  refine KL_indD k88_b0.eq_1 (fun x : Nat => [(0, .list (aggs a)), (1, w), (12, .ref 1 ver 0 l.length), (13, .int .i64 l.length), (14, .int .i64 x)]) (fun _ => [.arr 0 29 1 [.list (aggs a), w], .arr ver 54 6 (aggs l)]) (fun x => x ≤ l.length ∧ (l.take x).all isM = true) (fun x => l.length - x) [0, 1, 12, 13, 14] 0 (by rfl) ⟨[], rfl⟩ ⟨Nat.zero_le _, by simp⟩ (fun x hx => ?_) fun x ⟨hx, hall⟩ ih => ?_
  · refine ⟨Nat.zero_le _, ?_, ?_⟩
    · exact Env.undr_upto (by simp [Env.undr, PV.undr, hwu, undrX_aggs])
    · exact .cons (by simp [AObj.undr, PV.undr, PV.undrX, hwu, undrX_aggs]) (.cons (by simp [AObj.undr, undrX_aggs]) (.nil _))
  try simp only [go_sem]
  refine ⟨fun h1 => ⟨by omega, by omega, fun h2 => ?_⟩, fun h1 => ?_⟩
  · have h6 := hab _ (List.getElem_mem h2)
    rw [getD_eq h2]
    try simp only [h6, go_sem]
    refine (p62 _ h6).go ?_
    try simp only [go_sem]
    refine ⟨fun h3 => ?_, fun h3 => ⟨by omega, ?_⟩⟩
    · refine Kv.Fin.still ⟨?_, rfl⟩
      rw [hlc, if_pos (all_false h2 h3)]
    · refine ih (x + 1) ⟨by omega, ?_⟩ (by omega) _ _ (by rfl) ⟨[_], rfl⟩
      rw [all_take_succ _ h2, hall, h3]; rfl
  · obtain rfl : x = l.length := by omega
    rw [List.take_length] at hall
    have hlc : lcode a b = if ¬ (1 ≤ a.length ∧ a.length ≤ 6) then 2 else if l.all (fun r => decide (r.getD 0 0 = (a.getD 0 []).getD 0 0)) = false then 2 else 0 := by rw [hlc, if_neg (by rw [hall]; simp)]
    refine (p77 _ _ _).go ?_
    try simp only [go_sem]
    refine ⟨fun h2 => Kv.Fin.still ⟨by rw [hlc, if_pos (by omega)], rfl⟩, fun h2 => ?_⟩
    have hlc : lcode a b = if l.all (fun r => decide (r.getD 0 0 = (a.getD 0 []).getD 0 0)) = false then 2 else 0 := by rw [hlc, if_neg (by omega)]
    try simp only [OpK_eq, hwk, hwk2, go_sem]
    refine p123L _ 2 w a b hw rfl ha hb hma hmb fun ver2 => ?_
    rw [hL]
    try simp only [go_sem]
    have h0 : 0 < a.length := by omega
    have h06 : (a.getD 0 []).length = 6 := by rw [getD_eq h0]; exact hma _ (List.getElem_mem h0)
    refine KL_indD k88_b1.eq_1 (fun x : Nat => [(0, .list (aggs a)), (29, .ref 3 ver2 0 l.length), (30, .int .i64 l.length), (31, .int .i64 x)]) (fun _ => [.arr 0 29 1 [.list (aggs a), w], .arr ver 54 6 (aggs l), .arr 0 29 1 [.list (aggs a), w], .arr ver2 54 6 (aggs l)]) (fun x => x ≤ l.length ∧ (l.take x).all (fun r => decide (r.getD 0 0 = (a.getD 0 []).getD 0 0)) = true) (fun x => l.length - x) [0, 29, 30, 31] 0 (by rfl) ⟨[], rfl⟩ ⟨Nat.zero_le _, by simp⟩ (fun x hx => ?_) fun x ⟨hx, hall⟩ ih => ?_
    · refine ⟨Nat.zero_le _, ?_, ?_⟩
      · exact Env.undr_upto (by simp [Env.undr, PV.undr, hwu, undrX_aggs])
      · exact .cons (by simp [AObj.undr, PV.undr, PV.undrX, hwu, undrX_aggs]) (.cons (by simp [AObj.undr, undrX_aggs]) (.cons (by simp [AObj.undr, PV.undr, PV.undrX, hwu, undrX_aggs]) (.cons (by simp [AObj.undr, undrX_aggs]) (.nil _))))
    try simp only [go_sem]
    refine ⟨fun h1 => ⟨by omega, by omega, fun h2 => ?_⟩, fun h1 => ?_⟩
    · have h6 := hab _ (List.getElem_mem h2)
      rw [getD_eq h2]
      try simp only [h6, h06, h0, go_sem]
      refine ⟨by omega, fun h3 => ?_, fun h3 => ⟨by omega, ?_⟩⟩
      · refine Kv.Fin.still ⟨?_, rfl⟩
        rw [hlc, if_pos (all_false h2 (by simpa using h3))]
      · refine ih (x + 1) ⟨by omega, ?_⟩ (by omega) _ _ (by rfl) ⟨[_], rfl⟩
        rw [all_take_succ _ h2, hall, h3]; simp
    · obtain rfl : x = l.length := by omega
      rw [List.take_length] at hall
      exact Kv.Fin.still ⟨by rw [hlc, if_neg (by rw [hall]; simp)], rfl⟩
/-- Maps of one number of points. -/
def same (l : List (List Int)) : Bool := decide (1 ≤ l.length ∧ l.length ≤ 6) && l.all fun r => isM r && decide (r.getD 0 0 = (l.getD 0 []).getD 0 0)
theorem p78 (l : List (List Int)) (hl : l.length ≤ 1048576) (hm : ∀ r ∈ l, r.length = 6) : Pure Tryz.prog 78 [.list (aggs l)] (.bool (same l)) := by
  have hsame : same l = (decide (1 ≤ l.length ∧ l.length ≤ 6) && l.all fun r => isM r && decide (r.getD 0 0 = (l.getD 0 []).getD 0 0)) := rfl
  refine e78 (by simp) fun _ _ => ?_
  simp only [k78, argEnv, go_sem]
  refine ⟨fun h1 => ⟨fun h2 => ?_, fun h2 => ?_⟩, fun h1 => ?_⟩
  · exact Kv.Fin.still ⟨by rw [hsame, decide_eq_false (by omega)]; rfl, rfl⟩
  · have hsame : same l = l.all fun r => isM r && decide (r.getD 0 0 = (l.getD 0 []).getD 0 0) := by rw [hsame, decide_eq_true (by omega), Bool.true_and]
    have h0 : 0 < l.length := by omega
    have h06 : (l.getD 0 []).length = 6 := by rw [getD_eq h0]; exact hm _ (List.getElem_mem h0)
    refine KL_ind k78_b0.eq_1 (fun x : Nat => [(0, .list (aggs l)), (3, .int .i64 x)]) (fun _ => []) (fun x => x ≤ l.length ∧ (l.take x).all (fun r => isM r && decide (r.getD 0 0 = (l.getD 0 []).getD 0 0)) = true) (fun x => l.length - x) [0, 3] 0 (by rfl) rfl ⟨Nat.zero_le _, by simp⟩ fun x ⟨hx, hall⟩ ih => ?_
    try simp only [go_sem]
    refine ⟨fun h3 => ⟨by omega, fun h4 => ?_⟩, fun h3 => ?_⟩
    · have h6 := hm _ (List.getElem_mem h4)
      rw [getD_eq h4]
      try simp only [h6, go_sem]
      refine (p119 _ h6).pgo ?_
      cases hM : isM l[x] with
      | false =>
        try simp only [go_sem]
        exact Kv.Fin.still ⟨by rw [hsame, all_false h4 (by simp [hM])], rfl⟩
      | true =>
        try simp only [go_sem]
        refine ⟨by omega, fun h5 => ?_⟩
        rw [getD_eq h4]
        try simp only [h6, h06, h0, go_sem]
        refine ⟨by omega, fun h7 => ?_, fun h7 => ⟨by omega, ?_⟩⟩
        · exact Kv.Fin.still ⟨by rw [hsame, all_false h4 (by simp only [hM, Bool.true_and]; exact decide_eq_false h7)], rfl⟩
        · refine ih (x + 1) ⟨by omega, ?_⟩ (by omega) _ _ (by rfl) rfl
          rw [all_take_succ _ h4, hall, hM, h7]; simp
    · obtain rfl : x = l.length := by omega
      rw [List.take_length] at hall
      exact Kv.Fin.still ⟨by rw [hsame, hall], rfl⟩
  · exact Kv.Fin.still ⟨by rw [hsame, decide_eq_false (by omega)]; rfl, rfl⟩
theorem lcode_eq (a b : List (List Int)) : lcode a b = if a.all isM = false then 1 else if b.all isM = false then 1 else if same a = false then 2 else if b.all (fun r => decide (r.getD 0 0 = (a.getD 0 []).getD 0 0)) = false then 2 else 0 := by
  have h3 : a.all isM = true → (a.all fun r => isM r && decide (r.getD 0 0 = (a.getD 0 []).getD 0 0)) = a.all fun r => decide (r.getD 0 0 = (a.getD 0 []).getD 0 0) := fun h1 => by
    rw [Bool.eq_iff_iff]
    simp only [List.all_eq_true, Bool.and_eq_true] at h1 ⊢
    exact ⟨fun h r hr => (h r hr).2, fun h r hr => ⟨h1 r hr, h r hr⟩⟩
  simp only [lcode, List.all_append]
  cases h1 : a.all isM
  · simp only [Bool.false_and, if_true]
  cases h2 : b.all isM
  · simp only [Bool.true_and, if_true, Bool.false_and, reduceCtorEq, if_false]
  have hs : same a = (decide (1 ≤ a.length ∧ a.length ≤ 6) && a.all fun r => decide (r.getD 0 0 = (a.getD 0 []).getD 0 0)) := by unfold same; rw [h3 h1]
  rw [hs]
  generalize (a.all fun r => decide (r.getD 0 0 = (a.getD 0 []).getD 0 0)) = x
  generalize (b.all fun r => decide (r.getD 0 0 = (a.getD 0 []).getD 0 0)) = y
  by_cases hc : (1 ≤ a.length ∧ a.length ≤ 6) <;> cases x <;> cases y <;> simp [hc]
theorem p80n (a : List (List Int)) (ha : a.length ≤ 1048576) (hma : ∀ r ∈ a, r.length = 6) :
    Pure Tryz.prog 80 [.list (aggs a), .nils] (.int .i64 (lcode a [])) := by
  rw [lcode_eq]
  refine e80 (by simp) fun _ _ => ?_
  simp only [k80, argEnv, go_sem]
  refine KL_ind k80_b0.eq_1 (fun x : Nat => [(0, .list (aggs a)), (1, .nils), (5, .int .i64 x)]) (fun _ => []) (fun x => x ≤ a.length ∧ (a.take x).all isM = true) (fun x => a.length - x) [0, 1, 5] 0 (by rfl) rfl ⟨Nat.zero_le _, by simp⟩ fun x ⟨hx, hall⟩ ih => ?_
  try simp only [go_sem]
  refine ⟨fun h3 => ⟨by omega, fun h4 => ?_⟩, fun h3 => ?_⟩
  · have h6 := hma _ (List.getElem_mem h4)
    rw [getD_eq h4]
    try simp only [h6, go_sem]
    refine (p119 _ h6).go ?_
    try simp only [go_sem]
    refine ⟨fun h5 => Kv.Fin.still ⟨by rw [if_pos (all_false h4 h5)], rfl⟩, fun h5 => ⟨by omega, ?_⟩⟩
    refine ih (x + 1) ⟨by omega, ?_⟩ (by omega) _ _ (by rfl) rfl
    rw [all_take_succ _ h4, hall, h5]; rfl
  obtain rfl : x = a.length := by omega
  rw [List.take_length] at hall
  rw [if_neg (by rw [hall]; simp)]
  clear ih
  refine KL_round ?_
  rw [k80_b1.eq_1]
  try simp only [Int.reduceNeg, Int.lt_irrefl, go_sem]
  refine (p78 a ha hma).go ?_
  cases hs : same a with
  | false =>
    try simp only [go_sem]
    exact Kv.Fin.still ⟨by simp, rfl⟩
  | true =>
    try simp only [go_sem]
    refine KL_round ?_
    rw [k80_b2.eq_1]
    try simp only [Int.lt_irrefl, go_sem]
    exact Kv.Fin.still ⟨by simp, rfl⟩
end Go.Proofs.YtpihikppdeecmaaGreat
end
section
/- Partitions: whether they are, whether they are invariant; both sides. -/
namespace Go.Proofs.YtpihikppdeecmaaGreat
open Go.Kv
set_option maxRecDepth 100000
def k95_b0 : KC := (.seq (.ops [oP 9 (.bin .lss (.t 8) (.t 7))])
  (.seq (.cond (.t 9) .skip (.exit 0))
  (.seq (.block 1 (.seq (.ops [mV 10 8, mV 5 10])
  (.seq (.ops [mV 11 1, mV 12 0, mV 13 5, oP 14 (.idxS 1 (.t 12) (.t 13)), oP 15 (.load false 1 (.t 14)), oP 16 (.bin .eql (.t 11) (.t 15))])
  (.cond (.t 16) (.seq (.ops [mV 17 5, mV 4 17])
  .ret) .skip))))
  (.ops [oP 18 (.bin .add (.t 8) (iC 1)), mV 8 18]))))
def k95 : KC := (.seq (.ops [oP 4 (.mv (iC 0))])
  (.seq (.seq (.ops [mV 6 0, oP 7 (.len false (.t 6)), oP 8 (.mv (iC 0))])
  (.block 0 (.loop k95_b0)))
  (.seq (.ops [oP 4 (.mv (iC (-1)))])
  .ret)))
theorem e95 : Ent 95 19 [] [.t 4] k95 := ent Tryz.func95 (by kernel_rfl) (by kernel_rfl) (by kernel_rfl) (fun _ => by kernel_rfl) (by kernel_rfl)
end Go.Proofs.YtpihikppdeecmaaGreat
namespace Go.Proofs.YtpihikppdeecmaaGreat
open Go.Kv
set_option linter.unusedVariables false
set_option linter.unusedSimpArgs false
attribute [local irreducible] ACall PCall KL
theorem p95 (l : List Int) (k : Int) (hl : l.length ≤ 1048576) : Pure Tryz.prog 95 [.list (ints l), .int .i64 k] (.int .i64 (idx (fun y => decide (k = y)) l)) := by
  refine e95 (by simp) fun _ _ => ?_
  simp only [k95, argEnv, go_sem]
  refine KL_ind k95_b0.eq_1 (fun x : Nat => [(0, .list (ints l)), (1, .int .i64 k), (7, .int .i64 l.length), (8, .int .i64 x)]) (fun _ => []) (fun x => x ≤ l.length ∧ (l.take x).any (fun y => decide (k = y)) = false) (fun x => l.length - x) [0, 1, 7, 8] 0 (by rfl) rfl ⟨Nat.zero_le _, by simp⟩ fun x ⟨hx, hall⟩ ih => ?_
  try simp only [go_sem]
  refine ⟨fun h1 => ⟨by omega, fun h2 => ?_⟩, fun h1 => ?_⟩
  · rw [getD_eq h2]
    refine ⟨fun h3 => ?_, fun h3 => ⟨by omega, ?_⟩⟩
    · exact Kv.Fin.still ⟨by rw [idx_some h2 hall (by simpa using h3)], rfl⟩
    · refine ih (x + 1) ⟨by omega, ?_⟩ (by omega) _ _ (by rfl) rfl
      rw [any_take_succ _ h2, hall, decide_eq_false h3]; rfl
  · obtain rfl : x = l.length := by omega
    rw [List.take_length] at hall
    exact Kv.Fin.still ⟨by rw [idx_none hall], rfl⟩
/-- What a right list of maps is. -/
theorem lcode_maps {a : List (List Int)} (h6 : ∀ r ∈ a, r.length = 6) (h : lcode a [] = 0) : ∃ (fs : List (List Nat)) (n : Nat), a = fs.map mp ∧ (∀ f ∈ fs, Ok f n) ∧ 1 ≤ fs.length ∧ fs.length ≤ 6 ∧ (a.getD 0 []).getD 0 0 = n ∧ 1 ≤ n ∧ n ≤ 5 := by
  unfold lcode at h
  rw [List.append_nil] at h
  split at h
  · omega
  rename_i h1
  split at h
  · omega
  rename_i h2
  split at h
  · omega
  rename_i h3
  simp only [Bool.not_eq_false, List.all_eq_true, decide_eq_true_eq] at h1 h3
  have h2' : 1 ≤ a.length ∧ a.length ≤ 6 := by omega
  have h0 : 0 < a.length := by omega
  obtain ⟨f0, n, hf0, e0⟩ := isM_ok (h6 _ (List.getElem_mem h0)) (h1 _ (List.getElem_mem h0))
  have hn : (a.getD 0 []).getD 0 0 = n := by rw [getD_eq h0, e0, mp_get0, hf0.len]
  have key : ∀ r ∈ a, r = mp (um r) ∧ Ok (um r) n := fun r hr => by
    obtain ⟨f, n', hf, e⟩ := isM_ok (h6 r hr) (h1 r hr)
    have h4 := h3 r hr
    rw [hn, e, mp_get0, hf.len] at h4
    obtain rfl : n' = n := by omega
    rw [e, um_mp]
    exact ⟨rfl, hf⟩
  refine ⟨a.map um, n, ?_, ?_, by simpa using h2'.1, by simpa using h2'.2, hn, hf0.pos, hf0.le⟩
  · rw [List.map_map]
    conv => lhs; rw [← List.map_id a]
    exact List.map_congr_left fun r hr => by simpa using (key r hr).1
  · intro f hf
    obtain ⟨r, hr, rfl⟩ := List.mem_map.1 hf
    exact (key r hr).2
theorem map_getD {fs : List (List Nat)} {x : Nat} (h : x < fs.length) : (fs.map mp).getD x [] = mp fs[x] := by simp [List.getD_eq_getElem?_getD, h]
end Go.Proofs.YtpihikppdeecmaaGreat
end
section
/- Marking and holding of lists of maps. -/
namespace Go.Proofs.YtpihikppdeecmaaGreat
open Go.Kv
set_option linter.unusedVariables false
set_option linter.unusedSimpArgs false
attribute [local irreducible] ACall PCall KL
/-- Maps whose numbers are those from k on. -/
def seqA (k : Int) (n : Nat) : List (List Int) := (List.range n).map fun i => seqI (k + 6 * (i : Nat)) 6
@[simp] theorem seqA_length (k : Int) (n : Nat) : (seqA k n).length = n := by simp [seqA]
end Go.Proofs.YtpihikppdeecmaaGreat
end
end
section
/- Several texts of this session as one. -/
section
/- Tables: their size, their copies, their equality. -/
namespace Go.Proofs.YtpihikppdeecmaaGreat
open Go.Kv
set_option maxRecDepth 100000
def k34 : KC := (.seq (.ops [oP 4 (.mv (iC 0))])
  (.seq (.ops [mV 5 1, mV 6 0, oP 7 (.len false (.t 6)), oP 8 (.bin .sub (.t 5) (.t 7)), mV 1 8])
  (.seq (.seq (.ops [mV 9 1, oP 10 (.bin .lss (.t 9) (iC 0))])
  (.cond (.t 10) (.seq (.ops [oP 4 (.mv (iC (-1)))])
  .ret) .skip))
  (.seq (.ops [mV 11 1, mV 4 11])
  .ret))))
theorem e34 : Ent 34 12 [] [.t 4] k34 := ent Tryz.func34 (by kernel_rfl) (by kernel_rfl) (by kernel_rfl) (fun _ => by kernel_rfl) (by kernel_rfl)
def k40_b0 : KC := (.seq (.seq (.ops [mV 8 4, mV 9 0, oP 10 (.len false (.t 9)), oP 11 (.bin .lss (.t 8) (.t 10))])
  (.cond (.t 11) .skip (.exit 0)))
  (.seq (.block 1 (.ops [mV 14 3, mV 15 4, mV 16 0, mV 17 4, oP 18 (.idxS 1 (.t 16) (.t 17)), oP 19 (.load false 1 (.t 18)), oP 20 (.idxS 1 (.t 14) (.t 15)), ⟨none, none, .store 1 (.t 20) (.t 19)⟩]))
  (.ops [mV 12 4, oP 13 (.bin .add (.t 12) (iC 1)), mV 4 13])))
def k40 : KC := (.seq (.ops [oP 2 (.mv (.c (.nils)))])
  (.seq (.ops [mV 5 0, oP 6 (.len false (.t 5)), oP 7 (.mks 2 1 (.int .i64 0) (.t 6) (.t 6)), mV 3 7])
  (.seq (.seq (.ops [oP 4 (.mv (iC 0))])
  (.block 0 (.loop k40_b0)))
  (.seq (.ops [mV 21 3, mV 2 21])
  .ret))))
theorem e40 : Ent 40 22 [] [.t 2] k40 := ent Tryz.func40 (by kernel_rfl) (by kernel_rfl) (by kernel_rfl) (fun _ => by kernel_rfl) (by kernel_rfl)
end Go.Proofs.YtpihikppdeecmaaGreat
namespace Go.Proofs.YtpihikppdeecmaaGreat
open Go.Kv
set_option linter.unusedVariables false
set_option linter.unusedSimpArgs false
attribute [local irreducible] ACall PCall KL
theorem p34 (l : List Int) (k : Int) (hl : l.length ≤ 9223372036854775807) (hk : 0 ≤ k ∧ k ≤ 4294967296) : Pure Tryz.prog 34 [.list (ints l), .int .i64 k] (.int .i64 (if k - l.length < 0 then -1 else k - l.length)) := by
  refine e34 (by simp) fun _ _ => ?_
  simp only [k34, argEnv, go_sem, ↓reduceIte, Nat.reduceEqDiff, Nat.reduceAdd, reduceCtorEq]
  repeat' (first | refine And.intro ?_ ?_ | intro _)
  all_goals (try omega)
  · rename_i h
    exact Kv.Fin.now ⟨by rw [if_pos h], rfl⟩
  · rename_i h
    exact Kv.Fin.now ⟨by rw [if_neg h], rfl⟩
/-- What is left of k behind the rows. -/
def szR : List (List Int) → Int → Int
  | [], k => k
  | r :: t, k => if k - r.length < 0 then -1 else szR t (k - r.length)
def szT (t : List (List Int)) (k : Int) : Int := if k - t.length < 0 then -1 else szR t (k - t.length)
/-- A new copy, frozen. -/
theorem p40 (l : List Int) (hl : l.length ≤ 1048576) : ACall Tryz.prog 40 [.list (ints l)] [] (fun v s => v = .list (ints l) ∧ s = []) := by
  refine e40 (by simp) fun _ _ => ?_
  simp only [k40, argEnv, go_sem, ↓reduceIte, Nat.reduceEqDiff, Nat.reduceAdd, reduceCtorEq]
  refine ⟨by omega, ?_⟩
  refine KL_ind k40_b0.eq_1 (fun x : Nat => [(4, .int .i64 x), (3, .ref 0 0 0 l.length), (0, .list (ints l))]) (fun x => [.arr 0 2 1 (ints (l.take x ++ List.replicate (l.length - x) 0))]) (fun x => x ≤ l.length) (fun x => l.length - x) [4, 3, 0] 0 (by simp [keep]) (by simp) (Nat.zero_le _) fun x hi ih => ?_
  simp only [go_sem, ↓reduceIte, Nat.reduceEqDiff, Nat.reduceAdd, reduceCtorEq]
  repeat' (first | refine And.intro ?_ ?_ | intro _)
  all_goals (try simp only [List.length_append, List.length_take, List.length_replicate])
  all_goals (try omega)
  · rw [copy_step (by omega)]
    exact ih (x + 1) (by omega) (by omega) _ _ (by simp [keep]) rfl
  · obtain rfl : x = l.length := by omega
    have e : l.take l.length ++ List.replicate (l.length - l.length) 0 = l := by simp
    rw [e]
    exact Kv.Fin.freeze (.refn (l := l) rfl rfl) ⟨rfl, rfl⟩
end Go.Proofs.YtpihikppdeecmaaGreat
end
section
/- Tables that are owned: an outer slice of rows, each a slice of its own. -/
namespace Go.Kv
set_option linter.unusedVariables false
set_option linter.unusedSimpArgs false
def refs (rs : List (Nat × Nat)) (t : List (List Int)) : List PV := List.zipWith (fun r l => PV.ref r.1 r.2 0 l.length) rs t
/-- In heap σ, object id is a table t; its rows lie in the objects rs. e2, e1: the types of a row, of a number. -/
structure TabAt (e2 e1 : TypeId) (σ : Heap) (id ver : Nat) (rs : List (Nat × Nat)) (t : List (List Int)) : Prop where
  out : σ[id]? = some (.arr ver e2 1 (refs rs t))
  len : rs.length = t.length
  row : ∀ (i : Nat) (r : Nat × Nat) (l : List Int), rs[i]? = some r → t[i]? = some l → σ[r.1]? = some (.arr r.2 e1 1 (ints l))
  nd : (rs.map Prod.fst).Nodup
  ni : id ∉ rs.map Prod.fst
theorem refs_length {rs : List (Nat × Nat)} {t : List (List Int)} (h : rs.length = t.length) : (refs rs t).length = t.length := by simp [refs, h]
theorem refs_get {rs : List (Nat × Nat)} {t : List (List Int)} {i : Nat} {x : PV} (h : (refs rs t)[i]? = some x) : ∃ r l, rs[i]? = some r ∧ t[i]? = some l ∧ x = .ref r.1 r.2 0 l.length := by
  simp only [refs, List.getElem?_zipWith] at h
  cases hr : rs[i]? with
  | none => simp [hr] at h
  | some r =>
    cases hl : t[i]? with
    | none => simp [hr, hl] at h
    | some l => simp [hr, hl] at h; exact ⟨r, l, rfl, rfl, h.symm⟩
variable {e2 e1 : TypeId} {σ : Heap} {id ver : Nat} {rs : List (Nat × Nat)} {t : List (List Int)}
theorem TabAt.imm (h : TabAt e2 e1 σ id ver rs t) {n : Nat} (hn : n = t.length) : Imm σ (.ref id ver 0 n) (.list (rows t)) := by
  subst hn
  refine .ref id ver 0 t.length e2 1 (refs rs t) (rows t) h.out (by rw [refs_length h.len]; omega) (rows_length t) (fun i x d hx hd => ?_) (fun i x d j c c' hx hd hc hc' => ?_)
  · obtain ⟨r, l, hr, hl, rfl⟩ := refs_get hx
    obtain ⟨y, _, rfl⟩ := rows_get hd
    exact ⟨rfl, rfl⟩
  · rw [Nat.zero_add] at hx
    obtain ⟨r, l, hr, hl, rfl⟩ := refs_get hx
    obtain ⟨y, hy, rfl⟩ := rows_get hd
    rw [hl] at hy; cases hy
    have h1 := List.mem_of_getElem? hc
    have h2 := List.mem_of_getElem? hc'
    simp [PV.cs] at h1 h2; subst h1; subst h2
    exact .refi (h.row i r l hr hl)
theorem TabAt.append (h : TabAt e2 e1 σ id ver rs t) (τ : Heap) : TabAt e2 e1 (σ ++ τ) id ver rs t where
  out := by rw [List.getElem?_append_left (List.getElem?_eq_some_iff.1 h.out).1]; exact h.out
  len := h.len
  row := fun i r l hr hl => by
    have := h.row i r l hr hl
    rw [List.getElem?_append_left (List.getElem?_eq_some_iff.1 this).1]; exact this
  nd := h.nd
  ni := h.ni
def shR (n : Nat) (rs : List (Nat × Nat)) : List (Nat × Nat) := rs.map fun r => (r.1 + n, r.2)
theorem TabAt.shift (h : TabAt e2 e1 σ id ver rs t) (τ : Heap) : TabAt e2 e1 (τ ++ σ.map (AObj.ren (sh τ.length))) (id + τ.length) ver (shR τ.length rs) t where
  out := by
    rw [List.getElem?_append_right (by omega), Nat.add_sub_cancel, List.getElem?_map, h.out]
    simp only [Option.map_some, ren_arr, Option.some.injEq, AObj.arr.injEq, true_and]
    simp only [refs, shR, List.map_zipWith, List.zipWith_map_left, ren_ref, sh_def]
  len := by simp [shR, h.len]
  row := fun i r l hr hl => by
    simp only [shR, List.getElem?_map, Option.map_eq_some_iff] at hr
    obtain ⟨q, hq, rfl⟩ := hr
    rw [List.getElem?_append_right (by omega), Nat.add_sub_cancel, List.getElem?_map, h.row i q l hq hl]
    simp only [Option.map_some, ren_arr, ren_ints]
  nd := by
    have e : (shR τ.length rs).map Prod.fst = (rs.map Prod.fst).map (· + τ.length) := by simp [shR, List.map_map, Function.comp_def]
    rw [e]
    exact List.Pairwise.map _ (fun a b (hab : a ≠ b) => show a + τ.length ≠ b + τ.length by omega) h.nd
  ni := by
    have e : (shR τ.length rs).map Prod.fst = (rs.map Prod.fst).map (· + τ.length) := by simp [shR, List.map_map, Function.comp_def]
    rw [e]
    intro hm
    obtain ⟨x, hx, hxe⟩ := List.mem_map.1 hm
    have : x = id := by omega
    exact h.ni (this ▸ hx)
theorem TabAt.keep (h : TabAt e2 e1 σ id ver rs t) {σ' : Heap} (h1 : σ'[id]? = σ[id]?) (h2 : ∀ r ∈ rs, σ'[r.1]? = σ[r.1]?) : TabAt e2 e1 σ' id ver rs t where
  out := h1.trans h.out
  len := h.len
  row := fun i r l hr hl => (h2 r (List.mem_of_getElem? hr)).trans (h.row i r l hr hl)
  nd := h.nd
  ni := h.ni
/-- One row is written. -/
theorem TabAt.set (h : TabAt e2 e1 σ id ver rs t) {i : Nat} {r : Nat × Nat} (hr : rs[i]? = some r) {l m : List Int} (hl : t[i]? = some l) (hm : m.length = l.length) : TabAt e2 e1 (σ.set r.1 (.arr r.2 e1 1 (ints m))) id ver rs (t.set i m) := by
  have hrm : r.1 ∈ rs.map Prod.fst := List.mem_map.2 ⟨r, List.mem_of_getElem? hr, rfl⟩
  have hit := (List.getElem?_eq_some_iff.1 hl).1
  refine ⟨?_, by rw [List.length_set]; exact h.len, fun j q n hq hn => ?_, h.nd, h.ni⟩
  · rw [List.getElem?_set_ne (fun e : r.1 = id => h.ni (by rw [← e]; exact hrm)), h.out]
    congr 2
    apply List.ext_getElem?
    intro j
    simp only [refs, List.getElem?_zipWith, List.getElem?_set]
    by_cases e : i = j
    · subst e
      rw [if_pos rfl, if_pos hit, hr, hl]
      simp [hm]
    · rw [if_neg e]
  · by_cases e : i = j
    · subst e
      rw [hr] at hq; cases hq
      rw [List.getElem?_set_self hit] at hn; cases hn
      rw [List.getElem?_set_self (List.getElem?_eq_some_iff.1 (h.row i r l hr hl)).1]
    · rw [List.getElem?_set_ne e] at hn
      have hne : r.1 ≠ q.1 := fun e2 => by
        have hi := (List.getElem?_eq_some_iff.1 hr)
        have hj := (List.getElem?_eq_some_iff.1 hq)
        have := (List.getElem_inj (h₀ := by simpa using hi.1) (h₁ := by simpa using hj.1) h.nd).1 (by simp [hi.2, hj.2, e2])
        exact e this
      rw [List.getElem?_set_ne hne]
      exact h.row j q n hq hn
theorem TabAt.lt (h : TabAt e2 e1 σ id ver rs t) : id < σ.length ∧ ∀ r ∈ rs, r.1 < σ.length := by
  refine ⟨(List.getElem?_eq_some_iff.1 h.out).1, fun r hr => ?_⟩
  obtain ⟨i, hi⟩ := List.getElem?_of_mem hr
  have hlt := (List.getElem?_eq_some_iff.1 hi).1
  exact (List.getElem?_eq_some_iff.1 (h.row i r (t[i]'(h.len ▸ hlt)) hi (List.getElem?_eq_getElem (h.len ▸ hlt)))).1
/-- A call that hands back a new table of one's own, and a number. -/
def NewT (P : Program) (f : FuncId) (args : List PV) (e2 e1 : TypeId) (T : List (List Int)) (r : Int) : Prop :=
  ACall P f args [] fun v s => ∃ id ver rs, v = .tup [.ref id ver 0 T.length, .int .i64 r] ∧ TabAt e2 e1 s id ver rs T ∧ ∀ o ∈ s, o.free
theorem shR_ge {n : Nat} {rs : List (Nat × Nat)} : ∀ r ∈ shR n rs, n ≤ r.1 := fun r hr => by
  simp only [shR, List.mem_map] at hr
  obtain ⟨q, _, rfl⟩ := hr
  simp
theorem NewT.call {P : Program} {f : FuncId} {args : List PV} {T : List (List Int)} {r : Int} (h : NewT P f args e2 e1 T r) {σ : Heap} {K : PV → Heap → Prop} (ha : ∀ a ∈ args, PV.upto 0 a)
    (hk : ∀ (id ver : Nat) (rs : List (Nat × Nat)) (s : Heap), TabAt e2 e1 (σ ++ s) id ver rs T → σ.length ≤ id → (∀ r ∈ rs, σ.length ≤ r.1) → K (.tup [.ref id ver 0 T.length, .int .i64 r]) (σ ++ s)) : ACall P f args σ K := by
  refine ACall.frame h ha fun v s ⟨id, ver, rs, hv, hT, _⟩ => ?_
  subst hv
  have := hk _ _ _ _ (hT.shift σ) (by omega) shR_ge
  simpa only [ren_tup, ren_ref, ren_int, List.map_cons, List.map_nil, sh_def] using this
theorem NewT.lend {P : Program} {f : FuncId} {args args' : List PV} {T : List (List Int)} {r : Int} (h : NewT P f args' e2 e1 T r) {σ : Heap} {K : PV → Heap → Prop} (ha : ImmL σ args args')
    (hk : ∀ (id ver : Nat) (rs : List (Nat × Nat)) (s : Heap), TabAt e2 e1 (σ ++ s) id ver rs T → σ.length ≤ id → (∀ r ∈ rs, σ.length ≤ r.1) → K (.tup [.ref id ver 0 T.length, .int .i64 r]) (σ ++ s)) : ACall P f args σ K := by
  refine ACall.lend h ha fun v s ⟨id, ver, rs, hv, hT, hf⟩ => ?_
  subst hv
  refine ⟨⟨free_tup fun c hc => ?_, hf⟩, ?_⟩
  · simp only [List.mem_cons, List.not_mem_nil, or_false] at hc
    rcases hc with rfl | rfl
    · exact free_ref _ _ _ _
    · exact (Plain.int _ _).fr
  · have := hk _ _ _ _ (hT.shift σ) (by omega) shR_ge
    simpa only [ren_tup, ren_ref, ren_int, List.map_cons, List.map_nil, sh_def] using this
end Go.Kv
end
section
/- What is owned within a part of the heap: rows, numbers; new, marked, kept. -/
namespace Go.Proofs.YtpihikppdeecmaaGreat
open Go.Kv
set_option linter.unusedVariables false
set_option linter.unusedSimpArgs false
attribute [local irreducible] ACall PCall KL
/-- Owned rows. -/
inductive OwnT (e2 e1 : TypeId) (σ : Heap) (lo hi : Nat) : PV → List (List Int) → Prop
  | nil : OwnT e2 e1 σ lo hi .nils []
  | tab (id ver : Nat) (rs : List Rw) (t : List (List Int)) (h : TabG e2 e1 σ id ver rs t) (h1 : lo ≤ id ∧ id < hi) (h2 : ∀ r ∈ rs, r.nil = false → lo ≤ r.id ∧ r.id < hi) : OwnT e2 e1 σ lo hi (.ref id ver 0 t.length) t
/-- Owned numbers. -/
inductive OwnI (e : TypeId) (σ : Heap) (lo hi : Nat) : PV → List Int → Prop
  | nil : OwnI e σ lo hi .nils []
  | own (id ver : Nat) (pre l post : List Int) (h : σ[id]? = some (.arr ver e 1 (ints (pre ++ l ++ post)))) (h1 : lo ≤ id ∧ id < hi) : OwnI e σ lo hi (.ref id ver pre.length l.length) l
variable {e2 e1 e : TypeId} {σ : Heap} {lo hi : Nat} {x : PV} {t : List (List Int)} {l : List Int}
theorem OwnT.imm (h : OwnT e2 e1 σ lo hi x t) : Imm σ x (.list (rows t)) := by
  cases h with
  | nil => exact .nils
  | tab id ver rs t h _ _ => exact h.imm rfl
theorem OwnI.imm (h : OwnI e σ lo hi x l) : Imm σ x (.list (ints l)) := by
  cases h with
  | nil => exact .nils
  | own id ver pre l post h _ => exact .refp h rfl rfl
theorem OwnT.keep (h : OwnT e2 e1 σ lo hi x t) {σ' : Heap} (hk : ∀ j, lo ≤ j → j < hi → σ'[j]? = σ[j]?) : OwnT e2 e1 σ' lo hi x t := by
  cases h with
  | nil => exact .nil
  | tab id ver rs t h h1 h2 => exact .tab id ver rs t (h.keep (hk id h1.1 h1.2) fun r hr hn => hk _ (h2 r hr hn).1 (h2 r hr hn).2) h1 h2
theorem OwnI.keep (h : OwnI e σ lo hi x l) {σ' : Heap} (hk : ∀ j, lo ≤ j → j < hi → σ'[j]? = σ[j]?) : OwnI e σ' lo hi x l := by
  cases h with
  | nil => exact .nil
  | own id ver pre l post h h1 => exact .own id ver pre l post ((hk id h1.1 h1.2).trans h) h1
theorem OwnT.shift (h : OwnT e2 e1 σ lo hi x t) (τ : Heap) : OwnT e2 e1 (τ ++ σ.map (AObj.ren (Kv.sh τ.length))) (lo + τ.length) (hi + τ.length) (x.ren (Kv.sh τ.length)) t := by
  cases h with
  | nil => simp only [ren_nils]; exact .nil
  | tab id ver rs t h h1 h2 =>
    simp only [ren_ref, sh_def]
    refine .tab _ _ _ t (h.shift τ) (by omega) fun r hr hn => ?_
    obtain ⟨q, hq, rfl⟩ := List.mem_map.1 hr
    have := h2 q hq hn
    simp only [Rw.sh]; omega
theorem OwnI.shift (h : OwnI e σ lo hi x l) (τ : Heap) : OwnI e (τ ++ σ.map (AObj.ren (Kv.sh τ.length))) (lo + τ.length) (hi + τ.length) (x.ren (Kv.sh τ.length)) l := by
  cases h with
  | nil => simp only [ren_nils]; exact .nil
  | own id ver pre l post h h1 =>
    simp only [ren_ref, sh_def]
    refine .own _ ver pre l post ?_ (by omega)
    rw [List.getElem?_append_right (by omega), Nat.add_sub_cancel, List.getElem?_map, h]
    simp only [Option.map_some, ren_arr, ren_ints]
theorem OwnT.fr (h : OwnT e2 e1 σ lo hi x t) : x.free := by
  cases h with
  | nil => exact Plain.nils.fr
  | tab id ver rs t h _ _ => exact free_ref _ _ _ _
theorem OwnI.fr (h : OwnI e σ lo hi x l) : x.free := by
  cases h with
  | nil => exact Plain.nils.fr
  | own id ver pre l post h _ => exact free_ref _ _ _ _
/-- New rows of one's own, and a number. -/
def NewTO (P : Program) (f : FuncId) (args : List PV) (e2 e1 : TypeId) (T : List (List Int)) (r : Int) : Prop :=
  ACall P f args [] fun v s => ∃ x, v = .tup [x, .int .i64 r] ∧ OwnT e2 e1 s 0 s.length x T ∧ Free s
def NewIO (P : Program) (f : FuncId) (args : List PV) (e : TypeId) (l : List Int) (r : Int) : Prop :=
  ACall P f args [] fun v s => ∃ x, v = .tup [x, .int .i64 r] ∧ OwnI e s 0 s.length x l ∧ Free s
theorem NewTN.own {P : Program} {f : FuncId} {args : List PV} {T : List (List Int)} {r : Int} (h : NewTN P f args e2 e1 T r) : NewTO P f args e2 e1 T r :=
  ACall.mono h fun v s ⟨x, hv, hT, hf⟩ => ⟨x, hv, (by
    cases hT with
    | nil => exact .nil
    | tab id ver rs _ h => exact .tab id ver rs _ h ⟨Nat.zero_le _, h.lt.1⟩ fun r hr hn => ⟨Nat.zero_le _, h.lt.2 r hr hn⟩), hf⟩
theorem NewI.own {P : Program} {f : FuncId} {args : List PV} {l : List Int} {r : Int} (h : NewI P f args e l r) : NewIO P f args e l r :=
  ACall.mono h fun v s ⟨ver, pre, post, hv, hs⟩ => ⟨_, hv, hs ▸ .own 0 ver pre l post rfl ⟨Nat.zero_le _, by simp⟩, hs ▸ .ints _ _ _ _⟩
theorem NewTO.frozen {P : Program} {f : FuncId} {args : List PV} {T : List (List Int)} {r : Int} (h : NewTO P f args e2 e1 T r) : Pure P f args (.tup [.list (rows T), .int .i64 r]) :=
  ACall.ret h fun v s ⟨x, hv, hT, _⟩ => by
    subst hv
    exact Fin.freeze (Imm.tupL (.cons hT.imm (.cons (.int _ _ _) (.nil _)))) ⟨rfl, rfl⟩
theorem NewIO.frozen {P : Program} {f : FuncId} {args : List PV} {l : List Int} {r : Int} (h : NewIO P f args e l r) : Pure P f args (.tup [.list (ints l), .int .i64 r]) :=
  ACall.ret h fun v s ⟨x, hv, hT, _⟩ => by
    subst hv
    exact Fin.freeze (Imm.tupL (.cons hT.imm (.cons (.int _ _ _) (.nil _)))) ⟨rfl, rfl⟩
theorem NewTO.lend {P : Program} {f : FuncId} {args args' : List PV} {T : List (List Int)} {r : Int} (h : NewTO P f args' e2 e1 T r) {σ : Heap} {K : PV → Heap → Prop} (ha : ImmL σ args args')
    (hk : ∀ (x : PV) (σ' : Heap), OwnT e2 e1 σ' σ.length σ'.length x T → (∀ j, j < σ.length → σ'[j]? = σ[j]?) → σ.length ≤ σ'.length → K (.tup [x, .int .i64 r]) σ') : ACall P f args σ K := by
  refine ACall.lend h ha fun v s ⟨x, hv, hT, hf⟩ => ?_
  subst hv
  refine ⟨⟨free_tup fun c hc => ?_, hf⟩, ?_⟩
  · simp only [List.mem_cons, List.not_mem_nil, or_false] at hc
    rcases hc with rfl | rfl
    · exact hT.fr
    · exact (Plain.int _ _).fr
  · have h1 := hT.shift σ
    have e : (σ ++ s.map (AObj.ren (Kv.sh σ.length))).length = s.length + σ.length := by simp; omega
    rw [Nat.zero_add, ← e] at h1
    have := hk _ _ h1 (fun j hj => List.getElem?_append_left hj) (by simp)
    simpa only [ren_tup, ren_int, List.map_cons, List.map_nil] using this
theorem NewIO.lend {P : Program} {f : FuncId} {args args' : List PV} {l : List Int} {r : Int} (h : NewIO P f args' e l r) {σ : Heap} {K : PV → Heap → Prop} (ha : ImmL σ args args')
    (hk : ∀ (x : PV) (σ' : Heap), OwnI e σ' σ.length σ'.length x l → (∀ j, j < σ.length → σ'[j]? = σ[j]?) → σ.length ≤ σ'.length → K (.tup [x, .int .i64 r]) σ') : ACall P f args σ K := by
  refine ACall.lend h ha fun v s ⟨x, hv, hT, hf⟩ => ?_
  subst hv
  refine ⟨⟨free_tup fun c hc => ?_, hf⟩, ?_⟩
  · simp only [List.mem_cons, List.not_mem_nil, or_false] at hc
    rcases hc with rfl | rfl
    · exact hT.fr
    · exact (Plain.int _ _).fr
  · have h1 := hT.shift σ
    have e : (σ ++ s.map (AObj.ren (Kv.sh σ.length))).length = s.length + σ.length := by simp; omega
    rw [Nat.zero_add, ← e] at h1
    have := hk _ _ h1 (fun j hj => List.getElem?_append_left hj) (by simp)
    simpa only [ren_tup, ren_int, List.map_cons, List.map_nil] using this
end Go.Proofs.YtpihikppdeecmaaGreat
end
section
/- Lists of maps that are owned within a part of the heap. -/
namespace Go.Proofs.YtpihikppdeecmaaGreat
open Go.Kv
set_option linter.unusedVariables false
set_option linter.unusedSimpArgs false
attribute [local irreducible] ACall PCall KL
inductive OwnA (e : TypeId) (σ : Heap) (lo hi : Nat) : PV → List (List Int) → Prop
  | nil : OwnA e σ lo hi .nils []
  | own (id ver : Nat) (l post : List (List Int)) (h : σ[id]? = some (.arr ver e 6 (aggs (l ++ post)))) (h6 : ∀ r ∈ l, r.length = 6) (h1 : lo ≤ id ∧ id < hi) : OwnA e σ lo hi (.ref id ver 0 l.length) l
variable {e : TypeId} {σ : Heap} {lo hi : Nat} {x : PV} {l : List (List Int)}
theorem Imm.refap {σ : Heap} {id ver n : Nat} {e : TypeId} {l post : List (List Int)} (h : σ[id]? = some (.arr ver e 6 (aggs (l ++ post)))) (h6 : ∀ r ∈ l, r.length = 6) (hn : n = l.length) : Imm σ (.ref id ver 0 n) (.list (aggs l)) := by
  subst hn
  have hg : ∀ (i : Nat) (x d : PV), (aggs (l ++ post))[i]? = some x → (aggs l)[i]? = some d → x = d := fun i x d hx hd => by
    have hlt := (List.getElem?_eq_some_iff.1 hd).1
    rw [← aggs_append, List.getElem?_append_left hlt, hd] at hx
    exact (Option.some.inj hx).symm
  refine .ref id ver 0 l.length e 6 (aggs (l ++ post)) (aggs l) h (by simp [aggs_length]) (aggs_length l) (fun i x d hx hd => ?_) (fun i x d j c c' hx hd hc hc' => ?_)
  · rw [Nat.zero_add] at hx
    obtain rfl := hg i x d hx hd
    obtain ⟨y, hy, rfl⟩ := aggs_get hd
    exact ⟨rfl, ints_ok y⟩
  · rw [Nat.zero_add] at hx
    obtain rfl := hg i x d hx hd
    obtain ⟨y, _, rfl⟩ := aggs_get hd
    rw [hc] at hc'; cases hc'
    exact .refl _ ((Plain.ints y c (List.mem_of_getElem? hc)).up)
theorem OwnA.imm (h : OwnA e σ lo hi x l) : Imm σ x (.list (aggs l)) := by
  cases h with
  | nil => exact .nils
  | own id ver l post h h6 _ => exact Imm.refap h h6 rfl
theorem OwnA.keep (h : OwnA e σ lo hi x l) {σ' : Heap} (hk : ∀ j, lo ≤ j → j < hi → σ'[j]? = σ[j]?) : OwnA e σ' lo hi x l := by
  cases h with
  | nil => exact .nil
  | own id ver l post h h6 h1 => exact .own id ver l post ((hk id h1.1 h1.2).trans h) h6 h1
theorem OwnA.shift (h : OwnA e σ lo hi x l) (τ : Heap) : OwnA e (τ ++ σ.map (AObj.ren (Kv.sh τ.length))) (lo + τ.length) (hi + τ.length) (x.ren (Kv.sh τ.length)) l := by
  cases h with
  | nil => simp only [ren_nils]; exact .nil
  | own id ver l post h h6 h1 =>
    simp only [ren_ref, sh_def]
    refine .own _ ver l post ?_ h6 (by omega)
    rw [List.getElem?_append_right (by omega), Nat.add_sub_cancel, List.getElem?_map, h]
    simp only [Option.map_some, ren_arr, ren_aggs]
theorem OwnA.fr (h : OwnA e σ lo hi x l) : x.free := by
  cases h with
  | nil => exact Plain.nils.fr
  | own id ver l post h _ _ => exact free_ref _ _ _ _
theorem free_aggs {v : Nat} {e : TypeId} {s : Nat} (l : List (List Int)) : AObj.free (.arr v e s (aggs l)) := fun c hc => (flat_aggs c hc).fr
theorem Free.aggs (v : Nat) (e : TypeId) (s : Nat) (l : List (List Int)) : Free [.arr v e s (Kv.aggs l)] := fun o ho => by
  simp at ho; subst ho; exact free_aggs l
/-- New maps of one's own, and a number. -/
def NewAO (P : Program) (f : FuncId) (args : List PV) (e : TypeId) (l : List (List Int)) (r : Int) : Prop :=
  ACall P f args [] fun v s => ∃ x, v = .tup [x, .int .i64 r] ∧ OwnA e s 0 s.length x l ∧ Free s
theorem NewAO.frozen {P : Program} {f : FuncId} {args : List PV} {r : Int} (h : NewAO P f args e l r) : Pure P f args (.tup [.list (aggs l), .int .i64 r]) :=
  ACall.ret h fun v s ⟨x, hv, hT, _⟩ => by
    subst hv
    exact Fin.freeze (Imm.tupL (.cons hT.imm (.cons (.int _ _ _) (.nil _)))) ⟨rfl, rfl⟩
theorem NewAO.lend {P : Program} {f : FuncId} {args args' : List PV} {r : Int} (h : NewAO P f args' e l r) {σ : Heap} {K : PV → Heap → Prop} (ha : ImmL σ args args')
    (hk : ∀ (x : PV) (σ' : Heap), OwnA e σ' σ.length σ'.length x l → (∀ j, j < σ.length → σ'[j]? = σ[j]?) → σ.length ≤ σ'.length → K (.tup [x, .int .i64 r]) σ') : ACall P f args σ K := by
  refine ACall.lend h ha fun v s ⟨x, hv, hT, hf⟩ => ?_
  subst hv
  refine ⟨⟨free_tup fun c hc => ?_, hf⟩, ?_⟩
  · simp only [List.mem_cons, List.not_mem_nil, or_false] at hc
    rcases hc with rfl | rfl
    · exact hT.fr
    · exact (Plain.int _ _).fr
  · have h1 := hT.shift σ
    have e : (σ ++ s.map (AObj.ren (Kv.sh σ.length))).length = s.length + σ.length := by simp; omega
    rw [Nat.zero_add, ← e] at h1
    have := hk _ _ h1 (fun j hj => List.getElem?_append_left hj) (by simp)
    simpa only [ren_tup, ren_int, List.map_cons, List.map_nil] using this
end Go.Proofs.YtpihikppdeecmaaGreat
end
section
/- The list of maps of the classes of an invariant partition: both sides. -/
namespace Go.Proofs.YtpihikppdeecmaaGreat
open Go.Kv
set_option maxRecDepth 100000
def k94 : KC := (.seq (.ops [oP 2 (.mv (iC 0))])
  (.seq (.ops [mV 3 0, oP 4 (.call (fC 128) [(.t 3)]), oP 5 (.bin .add (.t 4) (iC 1)), mV 2 5])
  .ret))
theorem e94 : Ent 94 6 [] [.t 2] k94 := ent Tryz.func94 (by kernel_rfl) (by kernel_rfl) (by kernel_rfl) (fun _ => by kernel_rfl) (by kernel_rfl)
def k128_b0 : KC := (.seq (.seq (.ops [mV 12 4, mV 13 0, oP 14 (.len false (.t 13)), oP 15 (.bin .lss (.t 12) (.t 14))])
  (.cond (.t 15) .skip (.exit 0)))
  (.seq (.block 1 (.ops [mV 18 3, mV 19 0, mV 20 4, oP 21 (.idxS 1 (.t 19) (.t 20)), oP 22 (.load false 1 (.t 21)), oP 23 (.mnmx true (.t 18) [(.t 22)]), mV 3 23]))
  (.ops [mV 16 4, oP 17 (.bin .add (.t 16) (iC 1)), mV 4 17])))
def k128 : KC := (.seq (.ops [oP 2 (.mv (iC 0))])
  (.seq (.seq (.ops [mV 5 0, oP 6 (.len false (.t 5)), oP 7 (.bin .lss (.t 6) (iC 1))])
  (.cond (.t 7) (.ops [oP 8 (.bad), ⟨none, none, .bad⟩]) .skip))
  (.seq (.ops [mV 9 0, oP 10 (.idxS 1 (.t 9) (iC 0)), oP 11 (.load false 1 (.t 10)), mV 3 11])
  (.seq (.seq (.ops [oP 4 (.mv (iC 1))])
  (.block 0 (.loop k128_b0)))
  (.seq (.ops [mV 24 3, mV 2 24])
  .ret)))))
theorem e128 : Ent 128 25 [] [.t 2] k128 := ent Tryz.func128 (by kernel_rfl) (by kernel_rfl) (by kernel_rfl) (fun _ => by kernel_rfl) (by kernel_rfl)
end Go.Proofs.YtpihikppdeecmaaGreat
namespace Go.Proofs.YtpihikppdeecmaaGreat
open Go.Kv
set_option linter.unusedVariables false
set_option linter.unusedSimpArgs false
attribute [local irreducible] ACall PCall KL
/-- The greatest of numbers. -/
def mxl (P : List Int) : Int := P.foldl max (-1)
theorem mxl_snoc (P : List Int) (k : Int) : mxl (P ++ [k]) = max (mxl P) k := by simp [mxl]
theorem foldl_max_ge : ∀ (P : List Int) (v : Int), v ≤ P.foldl max v ∧ ∀ k ∈ P, k ≤ P.foldl max v
  | [], v => ⟨Int.le_refl _, by simp⟩
  | a :: r, v => by
    obtain ⟨h1, h2⟩ := foldl_max_ge r (max v a)
    simp only [List.foldl_cons]
    refine ⟨by omega, fun k hk => ?_⟩
    rcases List.mem_cons.1 hk with rfl | hk
    · omega
    · exact h2 k hk
theorem mxl_le {P : List Int} {b : Int} (h : ∀ k ∈ P, k ≤ b) (h0 : -1 ≤ b) : mxl P ≤ b := by
  have : ∀ (P : List Int) (v : Int), v ≤ b → (∀ k ∈ P, k ≤ b) → P.foldl max v ≤ b := fun P => by
    induction P with
    | nil => intro v h _; exact h
    | cons a r ih => intro v hv hr; exact ih _ (by have := hr a (by simp); omega) fun k hk => hr k (by simp [hk])
  exact this P _ h0 h
theorem p128 (P : List Int) (h1 : 1 ≤ P.length) (hl : P.length ≤ 1048576) (h0 : ∀ k ∈ P, 0 ≤ k) : Pure Tryz.prog 128 [.list (ints P)] (.int .i64 (mxl P)) := by
  have h01 : 0 < P.length := by omega
  have hP0 : 0 ≤ P[0] := h0 _ (List.getElem_mem h01)
  refine e128 (by simp) fun _ _ => ?_
  simp only [k128, argEnv, go_sem]
  refine ⟨fun h => absurd h (by omega), fun _ => ⟨by omega, fun _ => ?_⟩⟩
  rw [getD_eq h01]
  have e0 : mxl (P.take 1) = P[0] := by
    rw [show P.take 1 = [] ++ [P[0]] from by rw [List.take_succ_eq_append_getElem h01]; rfl, mxl_snoc]
    simp [mxl]; omega
  refine KL_ind k128_b0.eq_1 (fun x : Nat => [(0, .list (ints P)), (3, .int .i64 (mxl (P.take x))), (4, .int .i64 x)]) (fun _ => []) (fun x => 1 ≤ x ∧ x ≤ P.length) (fun x => P.length - x) [0, 3, 4] 1 (by simp [keep, e0]) rfl ⟨Nat.le_refl _, by omega⟩ fun x ⟨hx1, hx⟩ ih => ?_
  try simp only [go_sem]
  refine ⟨fun h3 => ⟨by omega, fun h4 => ?_⟩, fun h3 => ?_⟩
  · rw [getD_eq h4]
    try simp only [mnmxV, if_true]
    try simp only [go_sem]
    refine ⟨by omega, ?_⟩
    refine ih (x + 1) ⟨by omega, by omega⟩ (by omega) _ _ ?_ rfl
    rw [List.take_succ_eq_append_getElem h4, mxl_snoc]
    simp [keep]
  · obtain rfl : x = P.length := by omega
    rw [List.take_length]
    exact Kv.Fin.still ⟨rfl, rfl⟩
theorem p94 (P : List Int) (h1 : 1 ≤ P.length) (hl : P.length ≤ 1048576) (h0 : ∀ k ∈ P, 0 ≤ k) (hm : mxl P ≤ 1048576) : Pure Tryz.prog 94 [.list (ints P)] (.int .i64 (mxl P + 1)) := by
  have := (foldl_max_ge P (-1)).1
  have hm1 : -1 ≤ mxl P := this
  refine e94 (by simp) fun _ _ => ?_
  simp only [k94, argEnv, go_sem]
  refine (p128 P h1 hl h0).go ?_
  try simp only [go_sem]
  repeat' (first | refine And.intro ?_ ?_ | intro _)
  all_goals (try omega)
  exact Kv.Fin.still ⟨rfl, rfl⟩
theorem natD (l : List Nat) (x : Nat) : (l.map fun x : Nat => (x : Int)).getD x 0 = (l.getD x 0 : Int) := by
  simp only [List.getD_eq_getElem?_getD, List.getElem?_map]
  cases l[x]? <;> rfl
/-- The images of the classes, of the first x points. -/
def st (Q f : List Nat) (c x : Nat) : List Nat := (List.range x).foldl (fun s p => s.set (Q.getD p 0) (Q.getD (f.getD p 0) 0)) (List.replicate c 0)
theorem st_zero (Q f : List Nat) (c : Nat) : st Q f c 0 = List.replicate c 0 := rfl
theorem st_succ (Q f : List Nat) (c x : Nat) : st Q f c (x + 1) = (st Q f c x).set (Q.getD x 0) (Q.getD (f.getD x 0) 0) := by simp [st, List.range_succ]
@[simp] theorem st_length (Q f : List Nat) (c : Nat) : ∀ x, (st Q f c x).length = c
  | 0 => by simp [st_zero]
  | x + 1 => by rw [st_succ, List.length_set, st_length Q f c x]
/-- What a right list and an invariant partition give. -/
def lcl (Q : List Nat) (c : Nat) (fs : List (List Nat)) : List (List Int) := fs.map fun f => mp (st Q f c Q.length)
@[simp] theorem lcl_length (Q : List Nat) (c : Nat) (fs : List (List Nat)) : (lcl Q c fs).length = fs.length := by simp [lcl]
end Go.Proofs.YtpihikppdeecmaaGreat
end
section
/- The symmetries of a table, counted: the specification's side. -/
namespace Go.Proofs.YtpihikppdeecmaaGreat
open Go.Kv
set_option maxRecDepth 100000
def k108 : KC := (.seq (.ops [oP 2 (.mv (.c (.nils)))])
  (.seq (.ops [oP 3 (.bsl false 2 1 []), mV 4 0, oP 5 (.app (.t 3) (.t 4) 2 1), mV 2 5])
  .ret))
theorem e108 : Ent 108 6 [] [.t 2] k108 := ent Tryz.func108 (by kernel_rfl) (by kernel_rfl) (by kernel_rfl) (fun _ => by kernel_rfl) (by kernel_rfl)
end Go.Proofs.YtpihikppdeecmaaGreat
namespace Go.Proofs.YtpihikppdeecmaaGreat
open Go.Kv
set_option linter.unusedVariables false
set_option linter.unusedSimpArgs false
attribute [local irreducible] ACall PCall KL
theorem p108 (l : List Int) (hl : l.length ≤ 1048576) : ACall Tryz.prog 108 [.list (ints l)] [] (fun v s => v = .ref 0 1 0 l.length ∧ s = [.arr 1 2 1 (ints l)]) := by
  refine e108 (by simp) fun _ _ => ?_
  simp only [k108, argEnv, go_sem]
  repeat' (first | refine And.intro ?_ ?_ | intro _)
  all_goals (try omega)
  exact Kv.Fin.now ⟨rfl, rfl⟩
end Go.Proofs.YtpihikppdeecmaaGreat
end
end
section
/- Several texts of this session as one. -/
section
/- Iterates of a map, powers, cyclic points, heights, least points of orbits: plain laws. -/
namespace Go.Kv
set_option linter.unusedVariables false
set_option linter.unusedSimpArgs false
/-- Where k steps lead a point. -/
def it (f : List Nat) : Nat → Nat → Nat
  | 0, p => p
  | k + 1, p => f.getD (it f k p) 0
theorem it_add (f : List Nat) (p : Nat) (a : Nat) : ∀ b, it f (a + b) p = it f b (it f a p)
  | 0 => rfl
  | b + 1 => by
    show f.getD (it f (a + b) p) 0 = _
    rw [it_add f p a b]; rfl
theorem it_lt {f : List Nat} {n p : Nat} (hf : Ok f n) (hp : p < n) : ∀ k, it f k p < n
  | 0 => hp
  | k + 1 => hf.get' _
theorem it_mul {f : List Nat} {p d : Nat} (h : it f d p = p) : ∀ k, it f (d * k) p = p
  | 0 => rfl
  | k + 1 => by rw [Nat.mul_succ, it_add, it_mul h k, h]
/-- The k-th power. -/
def itM (f : List Nat) (n k : Nat) : List Nat := (List.range n).map (it f k)
theorem itM_get {f : List Nat} {n k p : Nat} (hp : p < n) : (itM f n k).getD p 0 = it f k p := by simp [itM, List.getD_eq_getElem?_getD, hp]
theorem itM_ok {f : List Nat} {n : Nat} (hf : Ok f n) (k : Nat) : Ok (itM f n k) n := ⟨by simp [itM], hf.pos, hf.le, fun x hx => by
  simp only [itM, List.mem_map, List.mem_range] at hx
  obtain ⟨p, hp, rfl⟩ := hx
  exact it_lt hf hp k⟩
theorem itM_zero {f : List Nat} {n : Nat} : itM f n 0 = List.range n := by
  unfold itM
  conv => rhs; rw [← List.map_id (List.range n)]
  exact List.map_congr_left fun x _ => rfl
theorem itM_one {f : List Nat} {n : Nat} (hf : Ok f n) : itM f n 1 = f := by
  refine ext_getD (by simp [itM, hf.len]) fun i hi => ?_
  simp only [itM, List.length_map, List.length_range] at hi
  rw [itM_get hi]; rfl
theorem itM_mul {f : List Nat} {n : Nat} (hf : Ok f n) (a b : Nat) : mul (itM f n a) (itM f n b) = itM f n (a + b) := by
  refine ext_getD (by simp [itM]) fun i hi => ?_
  simp only [itM, mul_length, List.length_map, List.length_range] at hi
  rw [mul_get (by simpa [itM] using hi), itM_get hi, itM_get (it_lt hf hi a), itM_get hi, it_add]
/-- Whether a point comes back to itself. -/
def cyc (f : List Nat) (n p : Nat) : Bool := (List.range n).any fun k => decide (it f (k + 1) p = p)
theorem cyc_iff {f : List Nat} {n p : Nat} : cyc f n p = true ↔ ∃ d, 1 ≤ d ∧ d ≤ n ∧ it f d p = p := by
  simp only [cyc, List.any_eq_true, List.mem_range, decide_eq_true_eq]
  constructor
  · rintro ⟨k, hk, h⟩; exact ⟨k + 1, by omega, by omega, h⟩
  · rintro ⟨d, h1, h2, h⟩; exact ⟨d - 1, by omega, by rw [Nat.sub_add_cancel h1]; exact h⟩
theorem nodup_len : ∀ (n : Nat) (l : List Nat), l.Nodup → (∀ x ∈ l, x < n) → l.length ≤ n
  | 0, l, _, h => by
    cases l with
    | nil => simp
    | cons a l => exact absurd (h a (by simp)) (by omega)
  | n + 1, l, hd, h => by
    by_cases hn : n ∈ l
    · have h1 := nodup_len n (l.erase n) (hd.erase n) fun x hx => by
        have := (List.Nodup.mem_erase_iff hd).1 hx
        have := h x this.2
        omega
      rw [List.length_erase_of_mem hn] at h1
      omega
    · have := nodup_len n l hd fun x hx => by
        have := h x hx
        have : x ≠ n := fun e => hn (e ▸ hx)
        omega
      omega
/-- Two of the first n + 1 iterates are the same. -/
theorem it_twice {f : List Nat} {n p : Nat} (hf : Ok f n) (hp : p < n) : ∃ i j, i < j ∧ j ≤ n ∧ it f i p = it f j p := by
  refine Classical.byContradiction fun hno => ?_
  have hnd : ((List.range (n + 1)).map fun k => it f k p).Nodup := by
    rw [List.Nodup, List.pairwise_map, List.pairwise_iff_getElem]
    intro i j hi hj hij he
    simp only [List.length_range] at hi hj
    simp only [List.getElem_range] at he
    exact hno ⟨i, j, hij, by omega, he⟩
  have := nodup_len n _ hnd fun x hx => by
    simp only [List.mem_map, List.mem_range] at hx
    obtain ⟨k, _, rfl⟩ := hx
    exact it_lt hf hp k
  simp at this
  omega
theorem cyc_late {f : List Nat} {n p : Nat} (hf : Ok f n) (hp : p < n) {k : Nat} (hk : n ≤ k + 1) : cyc f n (it f k p) = true := by
  obtain ⟨i, j, hij, hj, he⟩ := it_twice hf hp
  refine cyc_iff.2 ⟨j - i, by omega, by omega, ?_⟩
  obtain ⟨r, rfl⟩ : ∃ r, k = i + r := ⟨k - i, by omega⟩
  rw [it_add f p i r, ← it_add f _ r (j - i), Nat.add_comm r, it_add f _ (j - i) r, ← it_add f p i (j - i), show i + (j - i) = j by omega, ← he]
theorem cyc_step {f : List Nat} {n p : Nat} (h : cyc f n p = true) (k : Nat) : cyc f n (it f k p) = true := by
  obtain ⟨d, h1, h2, h3⟩ := cyc_iff.1 h
  refine cyc_iff.2 ⟨d, h1, h2, ?_⟩
  rw [← it_add, Nat.add_comm, it_add, h3]
/-- How many steps lead to a cyclic point. -/
def hgt (f : List Nat) (n p : Nat) : Nat := (List.range 61).findIdx fun k => cyc f n (it f k p)
/-- v is the least point that the steps from p meet. -/
def IsMin (f : List Nat) (p v : Nat) : Prop := (∃ k, v = it f k p) ∧ ∀ k, v ≤ it f k p
theorem IsMin.move {f : List Nat} {n p j v : Nat} (hc : cyc f n p = true) (h : IsMin f (it f j p) v) : IsMin f p v := by
  obtain ⟨d, h1, h2, h3⟩ := cyc_iff.1 hc
  obtain ⟨⟨a, ha⟩, hb⟩ := h
  refine ⟨⟨j + a, by rw [it_add]; exact ha⟩, fun k => ?_⟩
  have e : it f k p = it f (d * j - j + k) (it f j p) := by
    have hj : j ≤ d * j := by
      have := Nat.mul_le_mul_right j h1
      omega
    rw [← it_add, ← Nat.add_assoc, show j + (d * j - j) = d * j by omega, it_add, it_mul h3]
  rw [e]; exact hb _
/-- The least of the first m iterates. -/
def lo (f : List Nat) (p : Nat) : Nat → Nat
  | 0 => p
  | m + 1 => min (lo f p m) (it f (m + 1) p)
theorem lo_mem (f : List Nat) (p : Nat) : ∀ m, ∃ k, k ≤ m ∧ lo f p m = it f k p
  | 0 => ⟨0, Nat.le_refl _, rfl⟩
  | m + 1 => by
    obtain ⟨k, hk, h⟩ := lo_mem f p m
    simp only [lo]
    by_cases hle : lo f p m ≤ it f (m + 1) p
    · exact ⟨k, by omega, by rw [Nat.min_eq_left hle]; exact h⟩
    · exact ⟨m + 1, Nat.le_refl _, by rw [Nat.min_eq_right (by omega)]⟩
/-- The least point of the orbit of a cyclic point. -/
def mino (f : List Nat) (p : Nat) : Nat := lo f p 59
/-- The points of a list, as the bits of a number. -/
def sb : List Nat → Nat
  | [] => 0
  | p :: l => sb l ||| 2 ^ p
theorem sb_snoc : ∀ (l : List Nat) (p : Nat), sb (l ++ [p]) = sb l ||| 2 ^ p
  | [], p => by simp [sb]
  | a :: l, p => by simp only [List.cons_append, sb, sb_snoc l p, Nat.or_assoc, Nat.or_comm (2 ^ p)]
theorem sb_test : ∀ (l : List Nat) (q : Nat), (sb l).testBit q = decide (q ∈ l)
  | [], q => by simp [sb]
  | a :: l, q => by
    simp only [sb, Nat.testBit_or, sb_test l q, Nat.testBit_two_pow, List.mem_cons]
    by_cases h : a = q
    · simp [h]
    · have : ¬ q = a := fun e => h e.symm
      simp [h, this]
theorem sb_lt {n : Nat} : ∀ {l : List Nat}, (∀ x ∈ l, x < n) → sb l < 2 ^ n
  | [], _ => by simp [sb]; exact Nat.pow_pos (by omega)
  | a :: l, h => Nat.or_lt_two_pow (sb_lt fun x hx => h x (by simp [hx])) (Nat.pow_lt_pow_right (by omega) (h a (by simp)))
end Go.Kv
end
section
/- Maps: cyclic points, ends, cycles, powers, images. -/
namespace Go.Proofs.YtpihikppdeecmaaGreat
open Go.Kv
set_option linter.unusedVariables false
set_option linter.unusedSimpArgs false
attribute [local irreducible] ACall PCall KL
/-- The first steps from p. -/
def its (f : List Nat) (p m : Nat) : List Int := (List.range m).map fun k => (it f k p : Int)
@[simp] theorem its_length (f : List Nat) (p m : Nat) : (its f p m).length = m := by simp [its]
end Go.Proofs.YtpihikppdeecmaaGreat
end
section
/- Sorting of at most twelve numbers; what is left when neighbours that are equal are one. -/
namespace Go.Proofs.YtpihikppdeecmaaGreat
open Go.Kv
set_option linter.unusedVariables false
set_option linter.unusedSimpArgs false
attribute [local irreducible] ACall PCall KL
/-- The numbers up to place i are in order, but for the one at place j, which is ahead of all behind it. -/
def Jn (m : List Int) (i j : Nat) : Prop := (∀ x y, x < y → y ≤ i → x ≠ j → y ≠ j → m.getD x 0 ≤ m.getD y 0) ∧ ∀ y, j < y → y ≤ i → m.getD j 0 ≤ m.getD y 0
def Sn (m : List Int) (i : Nat) : Prop := ∀ x y, x < y → y < i → m.getD x 0 ≤ m.getD y 0
theorem getD_setI (m : List Int) (i : Nat) (v : Int) (k : Nat) (h : i < m.length) : (m.set i v).getD k 0 = if k = i then v else m.getD k 0 := by
  rw [List.getD_eq_getElem?_getD]
  by_cases e : k = i
  · subst e; rw [List.getElem?_set_self h]; simp
  · rw [List.getElem?_set_ne (Ne.symm e), if_neg e, List.getD_eq_getElem?_getD]
theorem Jn.zero {m : List Int} {i : Nat} (h : Sn m i) : Jn m i i := ⟨fun x y h1 h2 h3 h4 => h x y h1 (by omega), fun y h1 h2 => by omega⟩
def swap1 (m : List Int) (j : Nat) : List Int := (m.set j (m.getD (j - 1) 0)).set (j - 1) (m.getD j 0)
@[simp] theorem swap1_length (m : List Int) (j : Nat) : (swap1 m j).length = m.length := by simp [swap1]
theorem swap1_getD {m : List Int} {j : Nat} (h : j < m.length) (k : Nat) : (swap1 m j).getD k 0 = if k = j - 1 then m.getD j 0 else if k = j then m.getD (j - 1) 0 else m.getD k 0 := by
  rw [swap1, getD_setI _ _ _ _ (by simp; omega), getD_setI _ _ _ _ h]
theorem Jn.step {m : List Int} {i j : Nat} (h : Jn m i j) (hi : i < m.length) (hj : j ≤ i) (h0 : 0 < j) (hl : m.getD j 0 < m.getD (j - 1) 0) : Jn (swap1 m j) i (j - 1) := by
  have hg := swap1_getD (m := m) (j := j) (by omega)
  refine ⟨fun x y h1 h2 h3 h4 => ?_, fun y h1 h2 => ?_⟩
  · rw [hg, hg, if_neg h3, if_neg h4]
    by_cases ex : x = j
    · rw [if_pos ex, if_neg (by omega)]
      exact h.1 (j - 1) y (by omega) h2 (by omega) (by omega)
    · rw [if_neg ex]
      by_cases ey : y = j
      · rw [if_pos ey]
        exact h.1 x (j - 1) (by omega) (by omega) ex (by omega)
      · rw [if_neg ey]; exact h.1 x y h1 h2 ex ey
  · rw [hg, hg, if_pos rfl, if_neg (by omega)]
    by_cases ey : y = j
    · rw [if_pos ey]; omega
    · rw [if_neg ey]; exact h.2 y (by omega) h2
theorem aWrap_u64 {n : Nat} (h : n < 9223372036854775808) {K : PV → Prop} : aWrap .u64 (n : Int) K = K (.int .u64 n) := by
  have e : IntKind.u64.wrap (n : Int) = n := by
    simp only [IntKind.wrap, IntKind.signed, IntKind.bits, Bool.false_and, Bool.false_eq_true, if_false]
    omega
  show K _ = _
  rw [e]
end Go.Proofs.YtpihikppdeecmaaGreat
end
section
/- Neighbours that are equal become one. -/
namespace Go.Proofs.YtpihikppdeecmaaGreat
open Go.Kv
set_option linter.unusedVariables false
set_option linter.unusedSimpArgs false
attribute [local irreducible] ACall PCall KL
/-- The list with one of each run. -/
def cpt : List Int → List Int
  | [] => []
  | a :: l => match l with
    | [] => [a]
    | b :: _ => if a = b then cpt l else a :: cpt l
end Go.Proofs.YtpihikppdeecmaaGreat
end
section
/- All maps of n points. -/
namespace Go.Proofs.YtpihikppdeecmaaGreat
open Go.Kv
set_option linter.unusedVariables false
set_option linter.unusedSimpArgs false
attribute [local irreducible] ACall PCall KL
/-- The last j digits of k in base n, the greatest first. -/
def dg (n : Nat) : Nat → Nat → List Nat
  | 0, _ => []
  | j + 1, k => (k / n ^ j % n) :: dg n j k
@[simp] theorem dg_length (n : Nat) : ∀ j k, (dg n j k).length = j
  | 0, k => rfl
  | j + 1, k => by simp [dg, dg_length n j k]
/-- All maps of n points, in order. -/
def allM (n : Nat) : List (List Nat) := (List.range (n ^ n)).map (dg n n)
def fstM (n x : Nat) : List (List Int) := (List.range x).map fun k => mp (dg n n k)
@[simp] theorem fstM_length (n x : Nat) : (fstM n x).length = x := by simp [fstM]
end Go.Proofs.YtpihikppdeecmaaGreat
end
section
/- Images of sets of points, ranks, permutations. -/
namespace Go.Proofs.YtpihikppdeecmaaGreat
open Go.Kv
set_option linter.unusedVariables false
set_option linter.unusedSimpArgs false
attribute [local irreducible] ACall PCall KL
def insI (x : Int) : List Int → List Int
  | [] => [x]
  | y :: l => if x ≤ y then x :: y :: l else y :: insI x l
/-- The list in order. -/
def srt : List Int → List Int
  | [] => []
  | x :: l => insI x (srt l)
theorem insI_perm (x : Int) : ∀ l, (insI x l).Perm (x :: l)
  | [] => .refl _
  | y :: l => by
    unfold insI
    split
    · exact .refl _
    · exact ((insI_perm x l).cons y).trans (.swap x y l)
theorem srt_perm : ∀ l, (srt l).Perm l
  | [] => .refl _
  | x :: l => (insI_perm x _).trans ((srt_perm l).cons x)
@[simp] theorem srt_length (l : List Int) : (srt l).length = l.length := (srt_perm l).length_eq
end Go.Proofs.YtpihikppdeecmaaGreat
end
end
