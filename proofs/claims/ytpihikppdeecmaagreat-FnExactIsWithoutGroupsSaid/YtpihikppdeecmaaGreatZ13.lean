/- Several texts of this session as one, less what the claim does not need. -/
import Derived.Test.YtpihikppdeecmaaGreatCb
import Derived.Test.YtpihikppdeecmaaGreatZ10
import Derived.Test.YtpihikppdeecmaaGreatZ12
import Derived.Test.YtpihikppdeecmaaGreatZ11
import Derived.Test.YtpihikppdeecmaaGreatFC
import Derived.OpenShut
import Derived.DataElems
section
/- IsWithoutGroups: both sides. -/
namespace Go.Proofs.YtpihikppdeecmaaGreat
open Go.Kv
set_option maxRecDepth 100000
def k8 : KC := (.seq (.ops [oP 1 (.box true (.t 0)), oP 2 (.mv (.c (.bool false))), oP 3 (.mv (iC 0))])
  (.seq (.seq (.ops [oP 7 (.load true 3 (.t 1)), oP 8 (.call (fC 41) [(.t 7)]), oP 9 (.not (.t 8))])
  (.cond (.t 9) (.seq (.ops [oP 2 (.mv (.c (.bool false))), oP 3 (.mv (iC 1))])
  .ret) .skip))
  (.seq (.ops [oP 11 (.call (fC 43) [(.t 1)]), oP 12 (.fieldV false 1 0 (.t 11)), oP 13 (.call (fC 42) [(.t 12), (.c (.nils))]), mV 10 13, oP 14 (.extr 0 (.t 10)), oP 15 (.extr 1 (.t 10)), oP 16 (.extr 2 (.t 10)), oP 4 (.alloc [.nilptr]), ⟨none, none, .store 1 (.t 4) (.t 14)⟩, mV 5 15, mV 6 16])
  (.seq (.seq (.ops [mV 17 6, oP 18 (.bin .neq (.t 17) (iC 0))])
  (.cond (.t 18) (.seq (.ops [mV 19 6, oP 2 (.mv (.c (.bool false))), mV 3 19])
  .ret) .skip))
  (.seq (.ops [oP 20 (.load false 1 (.t 4)), oP 21 (.mkfn (.func 45) [] [(.t 4)]), oP 22 (.call (fC 44) [(.t 20), (.t 21)]), mV 2 22, oP 3 (.mv (iC 0))])
  .ret)))))
theorem e8 : Ent 8 23 [1] [.t 2, .t 3] k8 := ent Tryz.func8 (by kernel_rfl) (by kernel_rfl) (by kernel_rfl) (fun _ => by kernel_rfl) (by kernel_rfl)
def k6_b0 : KC := (.seq (.seq (.ops [mV 22 6, mV 23 4, oP 24 (.len false (.t 23)), oP 25 (.bin .lss (.t 22) (.t 24))])
  (.cond (.t 25) .skip (.exit 0)))
  (.seq (.block 1 (.seq (.ops [mV 29 4, mV 30 6, oP 31 (.idxS 6 (.t 29) (.t 30)), oP 32 (.load true 6 (.t 31)), oP 33 (.call (fC 38) [(.t 32)]), mV 28 33, oP 34 (.extr 0 (.t 28)), oP 35 (.extr 1 (.t 28)), mV 7 34, mV 8 35])
  (.seq (.ops [mV 36 8, oP 37 (.bin .neq (.t 36) (iC 1))])
  (.cond (.t 37) (.seq (.ops [oP 2 (.mv (.c (.bool false))), oP 3 (.mv (iC 0))])
  .ret) .skip))))
  (.ops [mV 26 6, oP 27 (.bin .add (.t 26) (iC 1)), mV 6 27])))
def k6 : KC := (.seq (.ops [oP 1 (.box true (.t 0)), oP 2 (.mv (.c (.bool false))), oP 3 (.mv (iC 0))])
  (.seq (.seq (.ops [oP 9 (.load true 3 (.t 1)), oP 10 (.call (fC 35) [(.t 9)]), oP 11 (.not (.t 10))])
  (.cond (.t 11) (.seq (.ops [oP 2 (.mv (.c (.bool false))), oP 3 (.mv (iC 1))])
  .ret) .skip))
  (.seq (.ops [oP 13 (.load true 3 (.t 1)), oP 14 (.call (fC 37) [(.t 13)]), oP 15 (.fieldV false 1 0 (.t 14)), oP 16 (.call (fC 36) [(.t 15), (.c (.nils))]), mV 12 16, oP 17 (.extr 0 (.t 12)), oP 18 (.extr 1 (.t 12)), mV 4 17, mV 5 18])
  (.seq (.seq (.ops [mV 19 5, oP 20 (.bin .neq (.t 19) (iC 0))])
  (.cond (.t 20) (.seq (.ops [mV 21 5, oP 2 (.mv (.c (.bool false))), mV 3 21])
  .ret) .skip))
  (.seq (.seq (.ops [oP 6 (.mv (iC 0))])
  (.block 0 (.loop k6_b0)))
  (.seq (.ops [oP 2 (.mv (.c (.bool true))), oP 3 (.mv (iC 0))])
  .ret))))))
theorem e6 : Ent 6 38 [1] [.t 2, .t 3] k6 := ent Tryz.func6 (by kernel_rfl) (by kernel_rfl) (by kernel_rfl) (fun _ => by kernel_rfl) (by kernel_rfl)
end Go.Proofs.YtpihikppdeecmaaGreat
namespace Go.Proofs.YtpihikppdeecmaaGreat
open Go.Kv
set_option linter.unusedVariables false
set_option linter.unusedSimpArgs false
attribute [local irreducible] ACall PCall KL
theorem lc_ok {fs : List (List Nat)} {n : Nat} (hf : ∀ f ∈ fs, Ok f n) (h0 : 0 < fs.length) (hfl : fs.length ≤ 6) : lcode (fs.map mp) [] = 0 := by
  have hs : same (fs.map mp) = true := by
    unfold same
    rw [Bool.and_eq_true, decide_eq_true_iff, List.all_eq_true]
    refine ⟨by simp; omega, fun r hr => ?_⟩
    obtain ⟨f, hff, rfl⟩ := List.mem_map.1 hr
    rw [isM_mp (hf f hff), map_getD h0, mp_get0, mp_get0, (hf f hff).len, (hf _ (List.getElem_mem h0)).len]
    simp
  rw [same_lcode] at hs
  exact of_decide_eq_true hs
/-- What both say of a right acceptor. -/
noncomputable def wgV (fs : List (List Nat)) (la : List Nat) (q : Nat) : PV := match clR (lsM fs la q) (kF fs la q).length with
  | none => .tup [.bool false, .int .i64 3]
  | some Q => .tup [.bool ((elS (kF fs la q).length Q).all (per1 (kF fs la q).length)), .int .i64 0]
theorem all_range {α : Type} [Inhabited α] (p : α → Bool) (S : List α) : (List.range S.length).all (fun i => p (S.getD i default)) = S.all p := by
  rw [Bool.eq_iff_iff, List.all_eq_true, List.all_eq_true]
  constructor
  · intro h x hx
    obtain ⟨i, hi, rfl⟩ := List.getElem_of_mem hx
    have := h i (List.mem_range.2 hi)
    rwa [List.getD_eq_getElem?_getD, List.getElem?_eq_getElem hi] at this
  · intro h i hi
    have hi := List.mem_range.1 hi
    rw [List.getD_eq_getElem?_getD, List.getElem?_eq_getElem hi]
    exact h _ (List.getElem_mem hi)
attribute [local irreducible] clR
set_option maxRecDepth 8000 in
theorem p8_in (fs : List (List Nat)) (n : Nat) (hf : ∀ f ∈ fs, Ok f n) (hn5 : n ≤ 5) (h0 : 0 < fs.length) (hfl : fs.length ≤ 6) (q : Nat) (hq : q < n) (la : List Nat) (hst : stB (nz la) n = true) (hL : la.length ≤ 1048576) :
    Pure Tryz.prog 8 [.agg [.list (aggs (fs.map mp)), .int .i64 q, .list (ints (nz la))]] (wgV fs la q) := by
  have hIs := p41 fs n hf h0 hfl (lc_ok hf h0 hfl) q (nz la) (by rw [nz_len]; exact hL)
  rw [hst, decide_eq_true (by omega : 0 ≤ (q : Int) ∧ (q : Int) ≤ (n : Int) - 1)] at hIs
  have hLs := p43 fs n hf hn5 h0 (by omega) q hq la hL
  have hO := lsM_ok la hf hn5 hq
  have hml0 : (lsM fs la q).length = fs.length := by simp [lsM]
  have o5 := (ord_ok hf hn5 hq).len
  have hk1 := kF_pos (fs := fs) (la := la) (q := q) o5.1
  have hk5 := kF_le fs la q
  have hlc := lc_ok hO (by omega) (by omega)
  have hM := monOk (lsM fs la q) (kF fs la q).length hk1 (by omega) hO (by omega)
  unfold MonOk at hM
  unfold wgV
  cases hR : clR (lsM fs la q) (kF fs la q).length with
  | none =>
    rw [hR] at hM
    simp only at hM ⊢
    have hE := p42_of (lsM fs la q) _ hO (by omega) (by omega) hlc _ _ hM
    rw [if_neg (by decide)] at hE
    generalize lsM fs la q = gs at *
    refine e8 (by simp) fun _ _ => ?_
    simp only [k8, argEnv, go_sem]
    try simp only [OpK_eq, HKv, subC3, go_sem]
    refine hIs.go ?_
    try simp only [OpK_eq, HKv, go_sem]
    refine hLs.go ?_
    try simp only [OpK_eq, HKv, subC3, go_sem]
    refine hE.go ?_
    try simp only [OpK_eq, HKv, go_sem]
    refine ⟨rfl, ⟨rfl, rfl⟩, fun _ => Kv.Fin.still ⟨rfl, rfl⟩, fun h => absurd h (by decide)⟩
  | some Q =>
    rw [hR] at hM
    simp only at hM ⊢
    obtain ⟨W, P, hW, hP, hM⟩ := hM
    have hE := p42_of (lsM fs la q) _ hO (by omega) (by omega) hlc _ _ hM
    rw [if_pos rfl] at hE
    obtain ⟨c3, c4⟩ := clR_okQ hk1 (by omega) hO hR
    obtain ⟨s1, s2, s3⟩ := elS_ok c3
    generalize hS : elS (kF fs la q).length Q = S at *
    have hml : (moV (.list (aggs (S.map mp))) W P).length = 3127 := by rw [moV, List.length_cons, List.length_cons, ints_length, hP.1]
    have hm0 : (moV (.list (aggs (S.map mp))) W P)[0]? = some (.list (aggs (S.map mp))) := rfl
    have hSl : (S.map mp).length = S.length := List.length_map _
    have hAll := p44 (moV (.list (aggs (S.map mp))) W P) (S.map mp) (by omega) hml hm0 45 [.fptr [.fptr (moV (.list (aggs (S.map mp))) W P) 0] 0] (fun i => per1 (kF fs la q).length (S.getD i [])) (fun i hi => p45 (moV (.list (aggs (S.map mp))) W P) S (kF fs la q).length s1.1 (by omega) hml hm0 i (by omega))
    rw [hSl, show (fun i => per1 (kF fs la q).length (S.getD i [])) = (fun i => per1 (kF fs la q).length (S.getD i default)) from rfl, all_range] at hAll
    have hstl : StillL (moV (.list (aggs (S.map mp))) W P) := inferInstance
    generalize moV (.list (aggs (S.map mp))) W P = mv at *
    have hputp : ∀ v, putC [PV.nilptr] 0 [v] = [v] := fun v => by unfold putC; first | rfl | (split <;> rfl) | simp
    have hfcs : (PV.fptr mv 0).cs = [PV.fptr mv 0] := rfl
    have hfok : (PV.fptr mv 0).ok = true := rfl
    generalize lsM fs la q = gs at *
    refine e8 (by simp) fun _ _ => ?_
    simp only [k8, argEnv, go_sem]
    try simp only [OpK_eq, HKv, subC3, go_sem]
    refine hIs.go ?_
    try simp only [OpK_eq, HKv, go_sem]
    refine hLs.go ?_
    try simp only [OpK_eq, HKv, subC3, go_sem]
    refine hE.go ?_
    try simp only [OpK_eq, HKv, hfcs, hfok, hputp, go_sem]
    refine ⟨rfl, ?_⟩
    refine hAll.lend (.cons Imm.still (.cons (Imm.fnc _ (.cons (Imm.ptr 0 0 [.fptr mv 0] [.fptr mv 0] rfl rfl (by simp [PV.ok]) (fun j c d hc hd => by rw [hc] at hd; cases hd; have := List.mem_of_getElem? hc; simp only [List.mem_singleton] at this; subst this; exact .still)) (.nil _))) (.nil _))) ?_
    try simp only [OpK_eq, HKv, go_sem]
    exact Kv.Fin.still ⟨rfl, rfl⟩
theorem p6_in (fs : List (List Nat)) (n : Nat) (hf : ∀ f ∈ fs, Ok f n) (hn5 : n ≤ 5) (h0 : 0 < fs.length) (hfl : fs.length ≤ 6) (q : Nat) (hq : q < n) (la : List Nat) (hla : ∀ x ∈ la, x < 5) (hst : stB (nz la) n = true) (hL : la.length ≤ 1048576) :
    Pure Tryz.prog 6 [.agg [.list (aggs (fs.map mp)), .int .i64 q, .list (ints (nz la))]] (wgV fs la q) := by
  have hIs := p35 fs n hf h0 hfl (lc_ok hf h0 hfl) q (nz la) (by rw [nz_len]; exact hL)
  rw [hst, decide_eq_true (by omega : 0 ≤ (q : Int) ∧ (q : Int) ≤ (n : Int) - 1)] at hIs
  have hLs := p37 fs n hf hn5 h0 (by omega) q hq la hla hL
  have hO := lsM_ok la hf hn5 hq
  have hml0 : (lsM fs la q).length = fs.length := by simp [lsM]
  have o5 := (ord_ok hf hn5 hq).len
  have hk1 := kF_pos (fs := fs) (la := la) (q := q) o5.1
  have hk5 := kF_le fs la q
  have hlc := lc_ok hO (by omega) (by omega)
  have hE := p36_in (lsM fs la q) _ hk1 (by omega) hO (by omega) (by omega) hlc
  unfold wgV
  cases hR : clR (lsM fs la q) (kF fs la q).length with
  | none =>
    rw [hR] at hE
    simp only at hE ⊢
    generalize lsM fs la q = gs at *
    refine e6 (by simp) fun _ _ => ?_
    simp only [k6, argEnv, go_sem]
    try simp only [OpK_eq, HKv, subC3, go_sem]
    refine hIs.go ?_
    try simp only [OpK_eq, HKv, subC3, go_sem]
    refine hLs.go ?_
    try simp only [OpK_eq, HKv, subC3, go_sem]
    refine hE.go ?_
    try simp only [OpK_eq, HKv, go_sem]
    exact ⟨fun _ => Kv.Fin.still ⟨rfl, rfl⟩, fun h => absurd h (by decide)⟩
  | some Q =>
    rw [hR] at hE
    simp only at hE ⊢
    obtain ⟨c3, c4⟩ := clR_okQ hk1 (by omega) hO hR
    obtain ⟨s1, s2, s3⟩ := elS_ok c3
    generalize hS : elS (kF fs la q).length Q = S at *
    generalize lsM fs la q = gs at *
    have hSO := s1.1
    generalize (kF fs la q).length = k at *
    refine e6 (by simp) fun _ _ => ?_
    simp only [k6, argEnv, go_sem]
    try simp only [OpK_eq, HKv, subC3, go_sem]
    refine hIs.go ?_
    try simp only [OpK_eq, HKv, subC3, go_sem]
    refine hLs.go ?_
    try simp only [OpK_eq, HKv, subC3, go_sem]
    refine hE.go ?_
    try simp only [OpK_eq, HKv, go_sem]
    refine KL_ind k6_b0.eq_1 (fun x : Nat => [(4, .list (aggs (S.map mp))), (6, .int .i64 x)]) (fun _ => []) (fun x => x ≤ S.length ∧ (S.take x).all (per1 k) = true) (fun x => S.length - x) [4, 6] 0 (by simp [keep]) rfl ⟨Nat.zero_le _, by simp⟩ fun x ⟨hx, hall⟩ ih => ?_
    try simp only [OpK_eq, HKv, aggs_length, List.length_map, go_sem]
    refine ⟨fun g1 => ?_, fun g1 => ?_⟩
    · have hxl : x < S.length := by omega
      have hO' := hSO _ (List.getElem_mem hxl)
      have h6 := hO'.mp_len
      have hg : (S.map mp).getD x [] = mp S[x] := by simp [List.getD_eq_getElem?_getD, hxl]
      try simp only [OpK_eq, HKv, aggs_length, List.length_map, hg, h6, go_sem]
      refine ⟨by omega, fun _ => ?_⟩
      refine p38 S[x] k hO' fun a L hR hL => ?_
      have hp := per1_eq hR
      try simp only [OpK_eq, HKv, go_sem]
      refine ⟨fun h => ?_, fun h => ⟨by omega, ih (x + 1) ⟨by omega, ?_⟩ (by omega) _ _ (by simp [keep]) rfl⟩⟩
      · refine Kv.Fin.still ⟨?_, rfl⟩
        rw [List.all_eq_false.2 ⟨S[x], List.getElem_mem hxl, by rw [hp, decide_eq_false h]; simp⟩]
      · rw [List.take_succ_eq_append_getElem hxl, List.all_append, hall, Bool.true_and, List.all_cons, hp, decide_eq_true h]; rfl
    · obtain rfl : x = S.length := by omega
      rw [List.take_length] at hall
      exact Kv.Fin.still ⟨by rw [hall], rfl⟩
theorem p8_bad (a : PV) [Still a] (h : ∀ M q L, a = .agg [.list M, .int .i64 q, .list L] → Pure Tryz.prog 41 [a] (.bool false)) (M : List PV) (q : Int) (L : List PV) (e : a = .agg [.list M, .int .i64 q, .list L]) (hM : Still (.list M)) (hL : Still (.list L)) : Pure Tryz.prog 8 [a] (.tup [.bool false, .int .i64 1]) := by
  have h := h M q L e
  subst e
  refine e8 (by simp) fun _ _ => ?_
  simp only [k8, argEnv, go_sem]
  try simp only [OpK_eq, HKv, subC3, go_sem]
  refine h.go ?_
  try simp only [OpK_eq, HKv, go_sem]
  exact Kv.Fin.still ⟨rfl, rfl⟩
theorem p6_bad (a : PV) [Still a] (h : ∀ M q L, a = .agg [.list M, .int .i64 q, .list L] → Pure Tryz.prog 35 [a] (.bool false)) (M : List PV) (q : Int) (L : List PV) (e : a = .agg [.list M, .int .i64 q, .list L]) (hM : Still (.list M)) (hL : Still (.list L)) : Pure Tryz.prog 6 [a] (.tup [.bool false, .int .i64 1]) := by
  have h := h M q L e
  subst e
  refine e6 (by simp) fun _ _ => ?_
  simp only [k6, argEnv, go_sem]
  try simp only [OpK_eq, HKv, subC3, go_sem]
  refine h.go ?_
  try simp only [OpK_eq, HKv, go_sem]
  exact Kv.Fin.still ⟨rfl, rfl⟩
end Go.Proofs.YtpihikppdeecmaaGreat
end
section
/- The law's function of IsWithoutGroups, walked. -/
namespace Go.Proofs.YtpihikppdeecmaaGreat
open Go.Kv
set_option maxRecDepth 100000
def k3 : KC := (.seq (.ops [oP 1 (.box true (.t 0)), oP 2 (.mv (.c (.bool false)))])
  (.seq (.ops [oP 3 (.mv (iC 1048576))])
  (.seq (.ops [oP 9 (.load true 3 (.t 1)), mV 10 3, oP 11 (.call (fC 5) [(.t 9), (.t 10)]), mV 3 11])
  (.seq (.seq (.ops [mV 12 3, oP 13 (.bin .lss (.t 12) (iC 0))])
  (.cond (.t 13) (.seq (.ops [oP 2 (.mv (.c (.bool true)))])
  .ret) .skip))
  (.seq (.ops [oP 15 (.load true 3 (.t 1)), oP 16 (.call (fC 7) [(.t 15)]), oP 17 (.call (fC 6) [(.t 16)]), mV 14 17, oP 18 (.extr 0 (.t 14)), oP 19 (.extr 1 (.t 14)), mV 4 18, mV 5 19])
  (.seq (.ops [oP 20 (.load true 3 (.t 1)), oP 21 (.call (fC 7) [(.t 20)]), oP 6 (.alloc [.nils, .int .i64 0, .nils]), ⟨none, none, .store 3 (.t 6) (.t 21)⟩])
  (.seq (.ops [oP 23 (.load true 3 (.t 6)), oP 24 (.call (fC 8) [(.t 23)]), mV 22 24, oP 25 (.extr 0 (.t 22)), oP 26 (.extr 1 (.t 22)), mV 7 25, mV 8 26])
  (.seq (.seq (.ops [mV 27 7, mV 28 4, oP 29 (.beq true (.t 27) (.t 28)), mV 30 29, ⟨(some 31), some (30, false), .mv (.t 8)⟩, ⟨(some 32), some (30, false), .mv (.t 5)⟩, ⟨(some 33), some (30, false), .bin .neq (.t 31) (.t 32)⟩, oP 34 (.pick (.t 30) (.c (.bool true)) (.t 33))])
  (.cond (.t 34) (.seq (.ops [oP 2 (.mv (.c (.bool false)))])
  .ret) .skip))
  (.seq (.seq (.draw [oP 35 (.load true 3 (.t 6)), oP 36 (.load true 3 (.t 1)), oP 37 (.pcall (fC 7) [(.t 36)]), oP 38 (.pcall (fC 9) [(.t 35), (.t 37)]), oP 39 (.not (.t 38))])
  (.cond (.t 39) (.seq (.ops [oP 2 (.mv (.c (.bool false)))])
  .ret) .skip))
  (.seq (.ops [oP 2 (.mv (.c (.bool true)))])
  .ret))))))))))
theorem e3 : Ent 3 40 [1] [.t 2] k3 := ent Tryz.func3 (by kernel_rfl) (by kernel_rfl) (by kernel_rfl) (fun _ => by kernel_rfl) (by kernel_rfl)
end Go.Proofs.YtpihikppdeecmaaGreat
namespace Go.Proofs.YtpihikppdeecmaaGreat
open Go.Kv
set_option linter.unusedVariables false
set_option linter.unusedSimpArgs false
attribute [local irreducible] ACall PCall KL
theorem p3_at (M : List (List Int)) (q : Int) (L : List Int) (hM : M.length ≤ 9223372036854775807) (h6 : ∀ r ∈ M, r.length = 6) (hL : L.length ≤ 9223372036854775807) {b : Bool} {c : Int}
    (hs : M.length ≤ 1048576 → L.length ≤ 1048576 → Pure Tryz.prog 6 [.agg [.list (aggs M), .int .i64 q, .list (ints L)]] (.tup [.bool b, .int .i64 c]))
    (hi : M.length ≤ 1048576 → L.length ≤ 1048576 → Pure Tryz.prog 8 [.agg [.list (aggs M), .int .i64 q, .list (ints L)]] (.tup [.bool b, .int .i64 c])) :
    Pure Tryz.prog 3 [.agg [.list (aggs M), .int .i64 q, .list (ints L)]] (.bool true) := by
  have hsz := p5 M q L 1048576 hM hL (by omega)
  refine e3 (by simp) fun _ _ => ?_
  simp only [k3, argEnv, go_sem]
  try simp only [OpK_eq, HKv, subC3, go_sem]
  refine hsz.go ?_
  try simp only [OpK_eq, HKv, subC3, go_sem]
  refine ⟨fun h => Kv.Fin.still ⟨rfl, rfl⟩, fun h => ?_⟩
  have hb : M.length ≤ 1048576 ∧ L.length ≤ 1048576 := by
    by_cases h1 : (1048576 : Int) - M.length < 0
    · rw [if_pos h1] at h; omega
    · rw [if_neg h1] at h
      by_cases h2 : (1048576 : Int) - M.length - L.length < 0
      · rw [if_pos h2] at h; omega
      · omega
  have hs := hs hb.1 hb.2
  have hi := hi hb.1 hb.2
  have hto := p7 M q L hb.1 h6 hb.2
  have heq := p9 M q L hb.1 h6 hb.2
  refine hto.go ?_
  try simp only [OpK_eq, HKv, subC3, go_sem]
  refine hs.go ?_
  try simp only [OpK_eq, HKv, subC3, go_sem]
  refine hto.go ?_
  try simp only [OpK_eq, HKv, subC3, putC3, go_sem]
  refine hi.go ?_
  try simp only [OpK_eq, HKv, subC3, bne_self_eq_false, go_sem]
  refine hto.fgo ?_
  try simp only [OpK_eq, HKv, subC3, bne_self_eq_false, go_sem]
  refine heq.pgo ?_
  try simp only [OpK_eq, HKv, go_sem]
  exact Kv.Fin.still ⟨rfl, rfl⟩
theorem stB_points {L : List Int} {n : Nat} (h : stB L n = true) : ∃ la : List Nat, L = nz la ∧ ∀ x ∈ la, x < n := by
  by_cases h0 : L = []
  · exact ⟨[], h0, by simp⟩
  · obtain ⟨l, e, _, hl, _⟩ := stB_asc h h0
    exact ⟨l, e, hl⟩
theorem p3 (M : List (List Int)) (hM : M.length ≤ 9223372036854775807) (h6 : ∀ r ∈ M, r.length = 6) (q : Int) (L : List Int) (hL : L.length ≤ 9223372036854775807) : Pure Tryz.prog 3 [.agg [.list (aggs M), .int .i64 q, .list (ints L)]] (.bool true) := by
  by_cases hc : lcode M [] = 0
  · obtain ⟨fs, n, rfl, hf, hl1, hl2, hn, hn1, hn5⟩ := lcode_maps h6 hc
    have h0 : 0 < fs.length := by omega
    cases hb : (decide (0 ≤ q ∧ q ≤ (n : Int) - 1) && stB L n) with
    | false =>
      refine p3_at _ q L hM h6 hL (b := false) (c := 1) (fun h1 h2 => ?_) (fun h1 h2 => ?_)
      · exact p6_bad _ (fun M' q' L' e => by
          have := p35 fs n hf h0 hl2 hc q L h2
          rwa [hb] at this) _ q _ rfl inferInstance inferInstance
      · exact p8_bad _ (fun M' q' L' e => by
          have := p41 fs n hf h0 hl2 hc q L h2
          rwa [hb] at this) _ q _ rfl inferInstance inferInstance
    | true =>
      rw [Bool.and_eq_true, decide_eq_true_iff] at hb
      obtain ⟨hq, hst⟩ := hb
      obtain ⟨la, rfl, hla⟩ := stB_points hst
      obtain ⟨q', rfl⟩ : ∃ q' : Nat, q = (q' : Int) := ⟨q.toNat, by omega⟩
      have hv : ∃ b c, wgV fs la q' = .tup [.bool b, .int .i64 c] := by
        unfold wgV
        cases clR (lsM fs la q') (kF fs la q').length with
        | none => exact ⟨_, _, rfl⟩
        | some Q => exact ⟨_, _, rfl⟩
      obtain ⟨b, c, hv⟩ := hv
      refine p3_at _ q' _ hM h6 hL (b := b) (c := c) (fun h1 h2 => ?_) (fun h1 h2 => ?_)
      · have := p6_in fs n hf hn5 h0 hl2 q' (by omega) la (fun x hx => by have := hla x hx; omega) hst (by rw [nz_len] at h2; exact h2)
        rwa [hv] at this
      · have := p8_in fs n hf hn5 h0 hl2 q' (by omega) la hst (by rw [nz_len] at h2; exact h2)
        rwa [hv] at this
  · refine p3_at M q L hM h6 hL (b := false) (c := 1) (fun h1 h2 => ?_) (fun h1 h2 => ?_)
    · exact p6_bad _ (fun M' q' L' e => p35_no M q L h1 h6 hc) _ q _ rfl inferInstance inferInstance
    · exact p8_bad _ (fun M' q' L' e => p41_no M q L h1 h6 hc) _ q _ rfl inferInstance inferInstance
end Go.Proofs.YtpihikppdeecmaaGreat
end
section
/- The arguments of a law, as abstract values: lists of numbers, of maps; a desk. -/
namespace Go.Kv
open Go.ChangeShapes
set_option linter.unusedVariables false
set_option linter.unusedSimpArgs false
variable {H : Type} {enc : TypeId × Value → H} {P : Program} {W : World} {sp : Nat → Bool} {held : Bool}
/-- The six cells of a map are numbers. -/
theorem trod_map6 {t k : TypeId} {f0 f1 : Field} {fuel : Nat} {cs : List Value} {x : DataW H × List MemPlace} (ht : P.underlying t = some (.struct #[f0, f1])) (hf0 : P.underlying f0.type = some (.int .i64)) (hf1 : P.underlying f1.type = some (.array 5 k)) (hk : P.underlying k = some (.int .i64))
    (o0 : f0.offset = 0) (o1 : f1.offset = 1) (c0 : P.cellsOf f0.type = 1) (c1 : P.cellsOf f1.type = 5) (ck : P.cellsOf k = 1) (ct : P.cellsOf t = 6)
    (h : DataW.trod enc P W 0 sp held fuel t cs = some x) : ∃ m : List Int, m.length = 6 ∧ cs = m.map (Value.int .i64) := by
  obtain ⟨y0, y1, n, _, hl, h0, h1⟩ := trod_struct2 ht h
  rw [ct] at hl
  rw [o0, c0, List.drop_zero] at h0
  rw [o1, c1] at h1
  obtain ⟨n0, hn0, _, _⟩ := DataW.trod_int hf0 h0
  obtain ⟨xs, m', _, _, _, hxl, hxs⟩ := DataW.trod_array hf1 h1
  have key : ∀ i, i < 6 → ∃ z : Int, cs[i]? = some (.int .i64 z) := fun i hi => by
    cases i with
    | zero =>
      have := congrArg (fun l => l[0]?) hn0
      simp only [List.getElem?_take, Nat.zero_lt_one, if_true, List.getElem?_cons_zero] at this
      exact ⟨n0, this⟩
    | succ i =>
      have h2 := hxs i (by omega)
      rw [ck, List.getElem?_eq_getElem (by omega), Nat.mul_one] at h2
      obtain ⟨z, hz, _, _⟩ := DataW.trod_int hk h2
      have := congrArg (fun l => l[0]?) hz
      simp only [List.getElem?_take, Nat.zero_lt_one, if_true, List.getElem?_cons_zero, List.getElem?_drop, Nat.add_zero] at this
      rw [if_pos (by omega)] at this
      exact ⟨z, by rw [Nat.add_comm] at this; exact this⟩
  obtain ⟨m, hm, hq⟩ := choose_list (0 : Int) (fun i z => cs[i]? = some (.int .i64 z)) 6 key
  refine ⟨m, hm, List.ext_getElem? fun i => ?_⟩
  by_cases hi : i < 6
  · rw [hq i hi, List.getElem?_map, List.getElem?_eq_getElem (by omega), List.getD_eq_getElem?_getD, List.getElem?_eq_getElem (by omega)]
    rfl
  · rw [List.getElem?_eq_none (by omega), List.getElem?_eq_none (by simp; omega)]
theorem rel_aggs {t e k : TypeId} {f0 f1 : Field} {fuel : Nat} {cs : List Value} {x : DataW H × List MemPlace} (ht0 : P.underlying t = some (.slice e)) (ht : P.underlying e = some (.struct #[f0, f1])) (hf0 : P.underlying f0.type = some (.int .i64)) (hf1 : P.underlying f1.type = some (.array 5 k)) (hk : P.underlying k = some (.int .i64))
    (o0 : f0.offset = 0) (o1 : f1.offset = 1) (c0 : P.cellsOf f0.type = 1) (c1 : P.cellsOf f1.type = 5) (ck : P.cellsOf k = 1) (ct : P.cellsOf e = 6)
    (h : DataW.trod enc P W 0 sp held fuel t cs = some x) : ∃ (v : Value) (l : List (List Int)), cs = [v] ∧ Rel (allFrz W) [] (.list (aggs l)) v ∧ l.length ≤ maxLen ∧ ∀ r ∈ l, r.length = 6 := by
  rcases DataW.trod_slice ht0 h with ⟨rfl, _⟩ | ⟨a, len, cap, elems, rest, n, _, rfl, _, _, hlc, hcm, hel, hget, _, _⟩
  · exact ⟨_, [], rfl, .listn, by simp, by simp⟩
  · obtain ⟨l, hll, hq⟩ := choose_list ([] : List Int) (fun i r => r.length = 6 ∧ ∀ j, j < 6 → W.cell? (a.add (i * 6 + j)) = some (.int .i64 (r.getD j 0))) len (fun i hi => by
      have hg := hget i hi
      rw [List.getElem?_eq_getElem (by omega), ct, Option.bind_eq_some_iff] at hg
      obtain ⟨cs', hcs, htr⟩ := hg
      obtain ⟨m, hm, rfl⟩ := trod_map6 ht hf0 hf1 hk o0 o1 c0 c1 ck ct htr
      refine ⟨m, hm, fun j hj => ?_⟩
      have := (World.cells?_some hcs).2.2 j (by omega)
      rw [Addr.add_add] at this
      rw [this, List.getElem?_map, List.getElem?_eq_getElem (by omega), List.getD_eq_getElem?_getD, List.getElem?_eq_getElem (by omega)]
      rfl)
    refine ⟨_, l, rfl, ?_, by omega, fun r hr => ?_⟩
    · have := list_rel (W := W) (a := a) (cap := cap) (esz := 6) (xs := aggs l) (by rw [aggs_length, hll]; exact hlc) (by omega) (fun x hx => by
        simp only [aggs, List.mem_map] at hx
        obtain ⟨y, hy, rfl⟩ := hx
        obtain ⟨i, hi⟩ := List.getElem?_of_mem hy
        have hlt := (List.getElem?_eq_some_iff.1 hi).1
        have := (hq i (by omega)).1
        rw [List.getD_eq_getElem?_getD, hi] at this
        exact ⟨by simpa [PV.cs, ints_length] using this, ints_ok y⟩) (fun i x j c hx hcj => by
        simp only [aggs, List.getElem?_map, Option.map_eq_some_iff] at hx
        obtain ⟨y, hy, rfl⟩ := hx
        obtain ⟨z, hz, rfl⟩ := ints_get (l := y) hcj
        have hi := (List.getElem?_eq_some_iff.1 hy).1
        have hj := (List.getElem?_eq_some_iff.1 hz).1
        obtain ⟨h6, hv⟩ := hq i (by omega)
        rw [List.getD_eq_getElem?_getD, hy] at h6 hv
        simp only [Option.getD_some] at h6 hv
        refine ⟨.int .i64 z, ?_, .int _ _⟩
        rw [hv j (by omega), List.getD_eq_getElem?_getD, hz]; rfl)
      rw [aggs_length, hll] at this
      exact this
    · obtain ⟨i, hi⟩ := List.getElem?_of_mem hr
      have hlt := (List.getElem?_eq_some_iff.1 hi).1
      have := (hq i (by omega)).1
      rw [List.getD_eq_getElem?_getD, hi] at this
      exact this
end Go.Kv
end
section
/- An acceptor as a law's argument: a list of maps, a number, a list of numbers. -/
namespace Go.Kv
open Go.ChangeShapes
set_option linter.unusedVariables false
set_option linter.unusedSimpArgs false
variable {H : Type} {enc : TypeId × Value → H} {P : Program} {W : World} {sp : Nat → Bool} {held : Bool}
theorem arg_acc {r : Reach} {b : Nat} {t e k i : TypeId} {g0 g1 g2 f0 f1 : Field} {v : Value} {d : DataW H} {ps : List MemPlace} (hd : P.underlying t = some (.struct #[g0, g1, g2])) (ht0 : P.underlying g0.type = some (.slice e)) (ht : P.underlying e = some (.struct #[f0, f1])) (hf0 : P.underlying f0.type = some (.int .i64)) (hf1 : P.underlying f1.type = some (.array 5 k)) (hk : P.underlying k = some (.int .i64))
    (hg1 : P.underlying g1.type = some (.int .i64)) (hg2 : P.underlying g2.type = some (.slice i)) (hi : P.underlying i = some (.int .i64)) (ci : P.cellsOf i = 1)
    (q0 : g0.offset = 0) (q1 : g1.offset = 1) (q2 : g2.offset = 2) (cs0 : P.cellsOf g0.type = 1) (cs1 : P.cellsOf g1.type = 1) (cs2 : P.cellsOf g2.type = 1) (cd : P.cellsOf t = 3) (o0 : f0.offset = 0) (o1 : f1.offset = 1) (c0 : P.cellsOf f0.type = 1) (c1 : P.cellsOf f1.type = 5) (ck : P.cellsOf k = 1) (ct : P.cellsOf e = 6)
    (hv : Value.okWide P W r b t v) (h : DataW.Trod enc P W 0 sp held t v d ps) : ∃ (l : List (List Int)) (q : Int) (m : List Int), Rel (allFrz W) [] (.agg [.list (aggs l), .int .i64 q, .list (ints m)]) v ∧ l.length ≤ maxLen ∧ (∀ r ∈ l, r.length = 6) ∧ m.length ≤ maxLen := by
  obtain ⟨fuel, h⟩ := h
  unfold Value.okWide at hv
  rw [hd] at hv
  obtain ⟨cs, rfl, hsz, hrow⟩ := hv
  have hcs : (Value.agg cs).cells.toList = cs.toList := rfl
  rw [hcs] at h
  obtain ⟨xs, n, _, _, hl, hlen, hfl⟩ := DataW.trod_struct hd h
  match xs, hlen with
  | [y0, y1, y2], _ =>
    have h0 := hfl 0 g0 rfl
    have h1 := hfl 1 g1 rfl
    have h2 := hfl 2 g2 rfl
    rw [q0, cs0, List.drop_zero] at h0
    rw [q1, cs1] at h1
    rw [q2, cs2] at h2
    rw [cd] at hl
    obtain ⟨u, l, hu, k1, k2, k3⟩ := rel_aggs ht0 ht hf0 hf1 hk o0 o1 c0 c1 ck ct h0
    obtain ⟨z, hz, _, _⟩ := DataW.trod_int hg1 h1
    obtain ⟨w, m, hw, m1, m2⟩ := rel_ints hg2 hi ci h2
    refine ⟨l, z, m, ?_, k2, k3, m2⟩
    have e1 : cs.toList = [u, .int .i64 z, w] := by
      have e2 : cs.toList = cs.toList.take 1 ++ ((cs.toList.drop 1).take 1 ++ (cs.toList.drop 2).take 1) := by
        generalize cs.toList = L at hl
        match L, hl with
        | [a, b, c], _ => rfl
      rw [e2, hu, hz, hw]; rfl
    have e2 : cs = [u, .int .i64 z, w].toArray := by rw [← e1]
    rw [e2]
    refine .agg _ _ (by simp) (by simp [PV.ok]) fun i c v hc hv => ?_
    rcases i with _ | _ | _ | i
    · simp only [List.getElem?_cons_zero, Option.some.injEq] at hc hv
      subst hc; subst hv; exact k1
    · simp only [List.getElem?_cons_succ, List.getElem?_cons_zero, Option.some.injEq] at hc hv
      subst hc; subst hv; exact .int _ _
    · simp only [List.getElem?_cons_succ, List.getElem?_cons_zero, Option.some.injEq] at hc hv
      subst hc; subst hv; exact m1
    · simp at hc
end Go.Kv
end
