/- InvariantSets: the implementation. -/
import Derived.Test.YtpepbomifjbgnaaCb
import Derived.Test.YtpepbomifjbgnaaPB
import Derived.Test.YtpepbomifjbgnaaSP
import Derived.Test.YtpepbomifjbgnaaWI
import Derived.Test.YtpepbomifjbgnaaG2
import Derived.Test.YtpepbomifjbgnaaG3
namespace Go.Proofs.Ytpepbomifjbgnaa
open Go.Kv
set_option maxRecDepth 100000
/- impl.InvariantSets -/
/- live [0, 5, 6] -/
def k38_b0 : KC := (.seq (.seq (.draw [⟨(some 13), none, .load false 1 (.t 6)⟩, ⟨(some 14), none, .mv (.t 0)⟩, ⟨(some 15), none, .idxS 6 (.t 14) (.c (.int .i64 0))⟩, ⟨(some 16), none, .fieldA 0 (.t 15)⟩, ⟨(some 17), none, .load false 1 (.t 16)⟩, ⟨(some 18), none, .bin .shl (.c (.int .i64 1)) (.t 17)⟩, ⟨(some 19), none, .bin .lss (.t 13) (.t 18)⟩])
  (.cond (.t 19) .skip (.exit 0)))
  (.seq (.block 1 (.seq (.ops [⟨(some 22), none, .mv (.t 0)⟩, ⟨(some 23), none, .idxS 6 (.t 22) (.c (.int .i64 0))⟩, ⟨(some 24), none, .fieldA 0 (.t 23)⟩, ⟨(some 25), none, .load false 1 (.t 24)⟩, ⟨(some 26), none, .call (.c (.fn (.func 50) [] [])) [(.t 25)]⟩, ⟨(some 27), none, .mkfn (.func 75) [] [(.t 6)]⟩, ⟨(some 28), none, .call (.c (.fn (.func 74) [] [])) [(.t 26), (.t 27)]⟩, ⟨(some 7), none, .alloc [.nils]⟩, ⟨none, none, .store 1 (.t 7) (.t 28)⟩])
  (.seq (.ops [⟨(some 29), none, .mv (.t 0)⟩, ⟨(some 30), none, .mkfn (.func 77) [] [(.t 7), (.t 6)]⟩, ⟨(some 31), none, .call (.c (.fn (.func 76) [] [])) [(.t 29), (.t 30)]⟩, ⟨(some 32), none, .not (.t 31)⟩])
  (.cond (.t 32) (.ops [⟨(some 33), none, .mv (.t 5)⟩, ⟨(some 34), none, .load false 1 (.t 7)⟩, ⟨(some 35), none, .bsl true 23 1 [(.t 34)]⟩, ⟨(some 36), none, .app (.t 33) (.t 35) 23 1⟩, ⟨(some 5), none, .mv (.t 36)⟩]) .skip))))
  (.seq (.seq (.ops [⟨(some 37), none, .load false 1 (.t 6)⟩])
  (.ops [⟨(some 6), none, .alloc [.int .i64 0]⟩, ⟨none, none, .store 1 (.t 6) (.t 37)⟩]))
  (.ops [⟨(some 20), none, .load false 1 (.t 6)⟩, ⟨(some 21), none, .bin .add (.t 20) (.c (.int .i64 1))⟩, ⟨none, none, .store 1 (.t 6) (.t 21)⟩]))))
def k38 : KC := (.seq (.ops [⟨(some 2), none, .mv (.c (.nils))⟩, ⟨(some 3), none, .mv (.c (.int .i64 0))⟩])
  (.seq (.seq (.ops [⟨(some 8), none, .mv (.t 0)⟩, ⟨(some 9), none, .call (.c (.fn (.func 54) [] [])) [(.t 8), (.c (.nils))]⟩, ⟨(some 4), none, .mv (.t 9)⟩])
  (.seq (.ops [⟨(some 10), none, .mv (.t 4)⟩, ⟨(some 11), none, .bin .neq (.t 10) (.c (.int .i64 0))⟩])
  (.cond (.t 11) (.seq (.ops [⟨(some 12), none, .mv (.t 4)⟩, ⟨(some 2), none, .mv (.c (.nils))⟩, ⟨(some 3), none, .mv (.t 12)⟩])
  .ret) .skip)))
  (.seq (.ops [⟨(some 5), none, .mv (.c (.nils))⟩])
  (.seq (.seq (.ops [⟨(some 6), none, .alloc [.int .i64 0]⟩, ⟨none, none, .store 1 (.t 6) (.c (.int .i64 1))⟩])
  (.block 0 (.loop k38_b0)))
  (.seq (.ops [⟨(some 38), none, .mv (.t 5)⟩, ⟨(some 39), none, .call (.c (.fn (.func 80) [] [])) [(.t 38), (.c (.fn (.func 81) [] []))]⟩])
  (.seq (.ops [⟨(some 40), none, .mv (.t 5)⟩, ⟨(some 2), none, .mv (.t 40)⟩, ⟨(some 3), none, .mv (.c (.int .i64 0))⟩])
  .ret))))))
theorem e38 {args : List PV} {σ : Heap} {K : PV → Heap → Prop} (hl : args.length ≤ 41) (h : Wf σ → (∀ a ∈ args, PV.upto σ.length a) → vc (mkCfg Try.prog mixed [35] 41 σ.length) k38 (FinK σ.length [.t 2, .t 3] K) (argEnv 0 args) σ) : ACall Try.prog 38 args σ K :=
  ACall_enter (C := mkCfg Try.prog mixed [35] 41 σ.length) (c := Try.f38.body.getD .skip) Try.func38 (by kernel_rfl) (by kernel_rfl) (by kernel_rfl) rfl hl (by kernel_rfl) (by kernel_rfl) h
/- impl.InvariantSets$1 -/
def k75 : KC := (.seq (.ops [⟨(some 3), none, .mv (.c (.bool false))⟩])
  (.seq (.ops [⟨(some 4), none, .load false 1 (.t 1)⟩, ⟨(some 5), none, .mv (.t 0)⟩, ⟨(some 6), none, .bin .shr (.t 4) (.t 5)⟩, ⟨(some 7), none, .bin .and (.t 6) (.c (.int .i64 1))⟩, ⟨(some 8), none, .bin .eql (.t 7) (.c (.int .i64 0))⟩, ⟨(some 3), none, .mv (.t 8)⟩])
  .ret))
theorem e75 {args : List PV} {σ : Heap} {K : PV → Heap → Prop} (hl : args.length ≤ 9) (h : Wf σ → (∀ a ∈ args, PV.upto σ.length a) → vc (mkCfg Try.prog mixed [] 9 σ.length) k75 (FinK σ.length [.t 3] K) (argEnv 0 args) σ) : ACall Try.prog 75 args σ K :=
  ACall_enter (C := mkCfg Try.prog mixed [] 9 σ.length) (c := Try.f75.body.getD .skip) Try.func75 (by kernel_rfl) (by kernel_rfl) (by kernel_rfl) rfl hl (by kernel_rfl) (by kernel_rfl) h
/- impl.InvariantSets$2 -/
def k77 : KC := (.seq (.ops [⟨(some 3), none, .box true (.t 0)⟩, ⟨(some 4), none, .mv (.c (.bool false))⟩])
  (.seq (.draw [⟨(some 5), none, .load true 6 (.t 3)⟩, ⟨(some 6), none, .load false 1 (.t 1)⟩, ⟨(some 9), none, .load false 1 (.t 2)⟩, ⟨(some 7), none, .pcall (.c (.fn (.func 79) [] [])) [(.t 5), (.t 6)]⟩, ⟨(some 8), none, .pcall (.c (.fn (.func 78) [] [])) [(.t 7)]⟩, ⟨(some 10), none, .bin .andNot (.t 8) (.t 9)⟩, ⟨(some 11), none, .bin .neq (.t 10) (.c (.int .i64 0))⟩, ⟨(some 4), none, .mv (.t 11)⟩])
  .ret))
theorem e77 {args : List PV} {σ : Heap} {K : PV → Heap → Prop} (hl : args.length ≤ 12) (h : Wf σ → (∀ a ∈ args, PV.upto σ.length a) → vc (mkCfg Try.prog mixed [3] 12 σ.length) k77 (FinK σ.length [.t 4] K) (argEnv 0 args) σ) : ACall Try.prog 77 args σ K :=
  ACall_enter (C := mkCfg Try.prog mixed [3] 12 σ.length) (c := Try.f77.body.getD .skip) Try.func77 (by kernel_rfl) (by kernel_rfl) (by kernel_rfl) rfl hl (by kernel_rfl) (by kernel_rfl) h
/- impl.bitsOf -/
/- live [3, 6, 7, 8] -/
def k78_b0 : KC := (.seq (.ops [⟨(some 9), none, .bin .lss (.t 8) (.t 7)⟩])
  (.seq (.cond (.t 9) .skip (.exit 0))
  (.seq (.block 1 (.seq (.ops [⟨(some 10), none, .idxS 1 (.t 6) (.t 8)⟩, ⟨(some 11), none, .load false 1 (.t 10)⟩, ⟨(some 5), none, .mv (.t 11)⟩])
  (.ops [⟨(some 12), none, .mv (.t 3)⟩, ⟨(some 13), none, .mv (.t 5)⟩, ⟨(some 14), none, .bin .shl (.c (.int .i64 1)) (.t 13)⟩, ⟨(some 15), none, .bin .or (.t 12) (.t 14)⟩, ⟨(some 3), none, .mv (.t 15)⟩])))
  (.ops [⟨(some 16), none, .bin .add (.t 8) (.c (.int .i64 1))⟩, ⟨(some 8), none, .mv (.t 16)⟩]))))
def k78 : KC := (.seq (.ops [⟨(some 2), none, .mv (.c (.int .i64 0))⟩])
  (.seq (.ops [⟨(some 3), none, .mv (.c (.int .i64 0))⟩])
  (.seq (.seq (.ops [⟨(some 6), none, .mv (.t 0)⟩, ⟨(some 7), none, .len false (.t 6)⟩, ⟨(some 8), none, .mv (.c (.int .i64 0))⟩])
  (.block 0 (.loop k78_b0)))
  (.seq (.ops [⟨(some 17), none, .mv (.t 3)⟩, ⟨(some 2), none, .mv (.t 17)⟩])
  .ret))))
theorem e78 {args : List PV} {σ : Heap} {K : PV → Heap → Prop} (hl : args.length ≤ 18) (h : Wf σ → (∀ a ∈ args, PV.upto σ.length a) → vc (mkCfg Try.prog mixed [] 18 σ.length) k78 (FinK σ.length [.t 2] K) (argEnv 0 args) σ) : ACall Try.prog 78 args σ K :=
  ACall_enter (C := mkCfg Try.prog mixed [] 18 σ.length) (c := Try.f78.body.getD .skip) Try.func78 (by kernel_rfl) (by kernel_rfl) (by kernel_rfl) rfl hl (by kernel_rfl) (by kernel_rfl) h
/- slices.ContainsFunc[[]impl.Map,impl.Map] -/
def k76 : KC := (.seq (.ops [⟨(some 4), none, .mv (.c (.bool false))⟩])
  (.seq (.ops [⟨(some 5), none, .mv (.t 0)⟩, ⟨(some 6), none, .mv (.t 1)⟩, ⟨(some 7), none, .call (.c (.fn (.func 124) [] [])) [(.t 5), (.t 6)]⟩, ⟨(some 8), none, .bin .geq (.t 7) (.c (.int .i64 0))⟩, ⟨(some 4), none, .mv (.t 8)⟩])
  .ret))
theorem e76 {args : List PV} {σ : Heap} {K : PV → Heap → Prop} (hl : args.length ≤ 9) (h : Wf σ → (∀ a ∈ args, PV.upto σ.length a) → vc (mkCfg Try.prog mixed [] 9 σ.length) k76 (FinK σ.length [.t 4] K) (argEnv 0 args) σ) : ACall Try.prog 76 args σ K :=
  ACall_enter (C := mkCfg Try.prog mixed [] 9 σ.length) (c := Try.f76.body.getD .skip) Try.func76 (by kernel_rfl) (by kernel_rfl) (by kernel_rfl) rfl hl (by kernel_rfl) (by kernel_rfl) h
end Go.Proofs.Ytpepbomifjbgnaa
namespace Go.Proofs.Ytpepbomifjbgnaa
open Go.Kv
set_option linter.unusedVariables false
set_option linter.unusedSimpArgs false
attribute [local irreducible] ACall PCall KL
variable {e2 e1 : TypeId} {σ : Heap} {t : List (List Int)}
/-- A new row, of what is new in the heap, is put at the end. -/
theorem tab_pushB {v : PV} (h : TabN e2 e1 σ v t) {τ : Heap} {l : List Int} {r : Rw} (hr : r.at e1 (σ ++ τ) l) (hge : r.nil = false → σ.length ≤ r.id) (hn : t.length < 4294967296) {K : PV → Heap → Prop}
    (hK : ∀ v' σ', TabN e2 e1 σ' v' (t ++ [l]) → (∀ o ∈ σ', o ∈ σ ++ τ ∨ ∃ ver rs, o = .arr ver e2 1 (pvs rs (t ++ [l]))) → (∀ (j : Nat) cs, (σ ++ τ)[j]? = some (.box cs) → σ'[j]? = some (.box cs)) → K v' σ') : aApp e2 1 v (.list [r.pv l]) (σ ++ τ) K := by
  have hok : okL 1 [r.pv l] := by
    rcases pv_cases r l with e | ⟨a, b, c, d, e⟩ <;> rw [e] <;> simp [okL, PV.cs, PV.ok]
  cases h with
  | nil =>
    rw [aApp_nils, aNews_list, AppN_def]
    refine ⟨hok, by simp, ?_⟩
    refine hK _ _ (.tab (σ ++ τ).length 0 [r] [l] ⟨⟨[], by simp [pvs]⟩, rfl, fun i q m hq hm => ?_, fun i j q p hq hp _ _ _ => ?_, fun q hq hqn => ?_⟩) (fun o ho => ?_) (fun j cs hj => by rw [List.getElem?_append_left (List.getElem?_eq_some_iff.1 hj).1]; exact hj)
    · cases i with
      | zero =>
        simp at hq hm; subst hq; subst hm
        exact hr.keep fun hrn => List.getElem?_append_left (List.getElem?_eq_some_iff.1 (hr.ow hrn)).1
      | succ i => simp at hq
    · have h1 := (List.getElem?_eq_some_iff.1 hq).1
      have h2 := (List.getElem?_eq_some_iff.1 hp).1
      simp at h1 h2; omega
    · simp at hq; subst hq
      have := (List.getElem?_eq_some_iff.1 (hr.ow hqn)).1
      omega
    · rcases List.mem_append.1 ho with ho | ho
      · exact .inl ho
      · simp at ho; subst ho; exact .inr ⟨0, [r], by simp [pvs]⟩
  | tab id ver rs t h =>
    obtain ⟨junk, ho⟩ := (h.append τ).out
    have hpl := pvs_length h.len
    have hlt := h.lt
    have hid : id < (σ ++ τ).length := by simp; omega
    rw [aApp_ref, ho, AppR_arr, aNews_list, AppM_def]
    refine ⟨hok, ⟨rfl, rfl, rfl, rfl, by simp [hpl], by simp; omega⟩, ?_⟩
    have hself : ∀ o, ((σ ++ τ).set id o)[id]? = some o := fun o => List.getElem?_set_self hid
    have ht : t.length + [r.pv l].length = (t ++ [l]).length := by simp
    have htk : (pvs rs t ++ junk).take t.length ++ [r.pv l] = pvs (rs ++ [r]) (t ++ [l]) := by
      rw [pvs_snoc h.len, ← hpl, List.take_left]
    rw [ht, htk]
    refine hK _ _ (.tab id (ver + 1) (rs ++ [r]) (t ++ [l]) ⟨⟨[], ?_⟩, by simp [h.len], fun i q m hq hm => ?_, fun i j q p hq hp h1 h2 h3 => ?_, fun q hq hqn => ?_⟩) (fun o ho => ?_) (fun j cs hj => by
      have hne : id ≠ j := fun e => by subst e; rw [ho] at hj; cases hj
      rw [List.getElem?_set_ne hne]; exact hj)
    · rw [hself, List.append_nil]
    · rw [List.getElem?_append] at hq hm
      split at hq
      · rename_i hi
        rw [if_pos (by rw [← h.len]; exact hi)] at hm
        exact ((h.append τ).row i q m hq hm).keep fun hqn => List.getElem?_set_ne (Ne.symm (h.ni q (List.mem_of_getElem? hq) hqn))
      · rename_i hi
        rw [if_neg (by rw [← h.len]; exact hi)] at hm
        have e1 := List.mem_of_getElem? hq
        have e2 := List.mem_of_getElem? hm
        simp at e1 e2; subst e1; subst e2
        exact hr.keep fun hrn => List.getElem?_set_ne (by have := hge hrn; omega)
    · rw [List.getElem?_append] at hq hp
      have hlast : ∀ (k : Nat) (x : Rw), ¬ k < rs.length → [r][k - rs.length]? = some x → x = r ∧ k = rs.length := fun k x hk hx => by
        have h5 := (List.getElem?_eq_some_iff.1 hx).1
        have h4 := List.mem_of_getElem? hx
        simp at h4 h5
        exact ⟨h4, by omega⟩
      split at hq <;> split at hp
      · exact h.nd i j q p hq hp h1 h2 h3
      · rename_i hj
        obtain ⟨rfl, _⟩ := hlast j p hj hp
        have := hlt.2 q (List.mem_of_getElem? hq) h1
        have := hge h2
        omega
      · rename_i hi _
        obtain ⟨rfl, _⟩ := hlast i q hi hq
        have := hlt.2 p (List.mem_of_getElem? hp) h2
        have := hge h1
        omega
      · rename_i hi hj
        obtain ⟨_, rfl⟩ := hlast i q hi hq
        obtain ⟨_, rfl⟩ := hlast j p hj hp
        rfl
    · rcases List.mem_append.1 hq with hq | hq
      · exact h.ni q hq hqn
      · simp at hq; subst hq
        have := hge hqn
        omega
    · rcases List.mem_or_eq_of_mem_set ho with ho | rfl
      · exact .inl ho
      · exact .inr ⟨_, _, rfl⟩
/-- The image of a set of bits. -/
def mvb (f : List Nat) (n x : Nat) : Nat := sb ((pof x n).map fun p => f.getD p 0)
def okS (fs : List (List Nat)) (n x : Nat) : Bool := fs.all fun f => decide (mvb f n x ||| x = x)
def goods (fs : List (List Nat)) (n x : Nat) : List Nat := (List.range x).filter fun b => decide (1 ≤ b) && okS fs n b
theorem goods_succ (fs : List (List Nat)) (n : Nat) {x : Nat} (h : 1 ≤ x) : goods fs n (x + 1) = goods fs n x ++ if okS fs n x = true then [x] else [] := by
  unfold goods
  rw [List.range_succ, List.filter_append]
  congr 1
  by_cases h2 : okS fs n x = true <;> simp [h, h2]
theorem goods_len (fs : List (List Nat)) (n x : Nat) : (goods fs n x).length ≤ x := by
  have := List.length_filter_le (fun b => decide (1 ≤ b) && okS fs n b) (List.range x)
  simpa [goods] using this
theorem goods_mem {fs : List (List Nat)} {n x b : Nat} : b ∈ goods fs n x ↔ b < x ∧ 1 ≤ b ∧ okS fs n b = true := by
  unfold goods
  rw [List.mem_filter, List.mem_range, Bool.and_eq_true, decide_eq_true_iff]
def rowsG (fs : List (List Nat)) (n x : Nat) : List (List Int) := (goods fs n x).map fun b => nz (pof b n)
theorem mvb_lt {f : List Nat} {n : Nat} (hf : Ok f n) (x : Nat) : mvb f n x < 2 ^ n := sb_lt fun y hy => by
  obtain ⟨p, _, rfl⟩ := List.mem_map.1 hy
  exact hf.get' p
theorem pw5 {n : Nat} (h : n ≤ 5) : 2 ^ n ≤ 32 := by
  have : n = 0 ∨ n = 1 ∨ n = 2 ∨ n = 3 ∨ n = 4 ∨ n = 5 := by omega
  rcases this with rfl | rfl | rfl | rfl | rfl | rfl <;> decide
theorem lt62 {n x : Nat} (h5 : n ≤ 5) (h : x < 2 ^ n) : x < 2 ^ 62 := by
  have := pw5 h5
  have : (32 : Nat) < 2 ^ 62 := by decide
  omega
theorem pof62 {n x : Nat} (h5 : n ≤ 5) (h : x < 2 ^ n) : pof x 62 = pof x n := by
  have := pof_ext h (62 - n)
  rwa [show n + (62 - n) = 62 by omega] at this
theorem pof_ne {n x : Nat} (h1 : 1 ≤ x) (h : x < 2 ^ n) : pof x n ≠ [] := fun e => by
  have := pof_lt h
  rw [e] at this
  simp [sb] at this; omega
theorem pof_mlt {n x y : Nat} (h : y ∈ pof x n) : y < n := by
  have := (List.mem_filter.1 h).1
  simpa using this
theorem asc_pof {n x : Nat} (h1 : 1 ≤ x) (h : x < 2 ^ n) : asc n (nz (pof x n)) := ⟨pof x n, rfl, pof_ne h1 h, fun y hy => pof_mlt hy, pof_asc x n⟩
theorem bits_pof {f : List Nat} {n x : Nat} (h1 : 1 ≤ x) (h : x < 2 ^ n) : bits (img f (nz (pof x n))) = mvb f n x := by
  rw [bits_img (asc_pof h1 h)]
  unfold mvb nz
  rw [toNat_map]
theorem p78 {n : Nat} (hn : n ≤ 5) {p : List Int} (hp : asc n p) : Pure Try.prog 78 [.list (ints p)] (.int .i64 (bits p)) := by
  have hpl := asc_len hp
  obtain ⟨l, rfl, _, hl, _⟩ := hp
  rw [List.length_map] at hpl
  have hb0 : bits (l.map fun x : Nat => (x : Int)) = sb l := by unfold bits; rw [toNat_map]
  rw [hb0]
  refine e78 (by simp) fun _ _ => ?_
  simp only [k78, argEnv, List.length_map, take6, List.drop_zero, Int.cast_ofNat_Int, go_sem, ↓reduceIte, Nat.reduceEqDiff, Nat.reduceAdd, Nat.reduceMul, Nat.reduceLeDiff, Nat.reduceLT, Int.reduceLE, Int.reduceLT, reduceCtorEq]
  refine KL_ind k78_b0.eq_1 (fun x : Nat => [(3, .int .i64 (sb (l.take x))), (6, .list (ints (l.map fun x : Nat => (x : Int)))), (7, .int .i64 l.length), (8, .int .i64 x)]) (fun _ => []) (fun x => x ≤ l.length) (fun x => l.length - x) [3, 6, 7, 8] 0 (by rfl) rfl (Nat.zero_le _) fun x hx ih => ?_
  have hb : sb (l.take x) < 2 ^ 62 := Nat.lt_trans (sb_lt (n := 5) fun y hy => by have := hl y (List.mem_of_mem_take hy); omega) (by decide)
  have hnat : (l.map fun x : Nat => (x : Int)).getD x 0 = (l.getD x 0 : Int) := nzD l x
  by_cases hxl : x < l.length
  · have hp5 : l.getD x 0 < 5 := by rw [getD_eq hxl]; have := hl _ (List.getElem_mem hxl); omega
    have hb2 : 2 ^ l.getD x 0 < 2 ^ 62 := Nat.pow_lt_pow_right (by omega) (by omega)
    have hp61 : l.getD x 0 ≤ 61 := by omega
    try simp only [List.length_map, hnat, aBin_shl1 hp61, aBin_or hb hb2, take6, List.drop_zero, Int.cast_ofNat_Int, go_sem, ↓reduceIte, Nat.reduceEqDiff, Nat.reduceAdd, Nat.reduceMul, Nat.reduceLeDiff, Nat.reduceLT, Int.reduceLE, Int.reduceLT, reduceCtorEq]
    refine ⟨fun h1 => ⟨by omega, fun _ => ⟨by omega, ih (x + 1) (by omega) (by omega) _ _ ?_ rfl⟩⟩, fun h1 => absurd h1 (by omega)⟩
    rw [List.take_succ_eq_append_getElem hxl, sb_snoc, getD_eq hxl]
    rfl
  · obtain rfl : x = l.length := by omega
    try simp only [List.length_map, List.take_length, take6, List.drop_zero, Int.cast_ofNat_Int, go_sem, ↓reduceIte, Nat.reduceEqDiff, Nat.reduceAdd, Nat.reduceMul, Nat.reduceLeDiff, Nat.reduceLT, Int.reduceLE, Int.reduceLT, reduceCtorEq]
    refine ⟨fun h => absurd h (by omega), fun _ => ?_⟩
    exact Kv.Fin.still ⟨rfl, rfl⟩
theorem p75 (q x : Nat) (hq : q ≤ 61) (hx : x < 2 ^ 62) : Pure Try.prog 75 [.int .i64 q, .fptr [.int .i64 x] 0] (.bool (!x.testBit q)) := by
  refine e75 (by simp) fun _ _ => ?_
  simp only [k75, argEnv, aBin_shr (show q ≤ 63 by omega), aBin_and1 (shr_le hx), take6, List.drop_zero, Int.cast_ofNat_Int, go_sem, ↓reduceIte, Nat.reduceEqDiff, Nat.reduceAdd, Nat.reduceMul, Nat.reduceLeDiff, Nat.reduceLT, Int.reduceLE, Int.reduceLT, reduceCtorEq]
  refine Kv.Fin.still ⟨?_, rfl⟩
  cases hb : x.testBit q with
  | true => rw [decide_eq_false]; rfl
            rw [bit_zero, hb]; simp
  | false => rw [decide_eq_true]; rfl
             rw [bit_zero, hb]
theorem aInt_andNot (a b : Int) (K : PV → Prop) : aInt .andNot .i64 a b K = K (.int .i64 (IntKind.i64.wrap ((BitVec.ofInt IntKind.i64.bits a &&& ~~~BitVec.ofInt IntKind.i64.bits b).toNat : Int))) := Eq.trans rfl rfl
theorem andNot_zero {a b : Nat} (ha : a < 2 ^ 62) (hb : b < 2 ^ 62) : ((IntKind.i64.wrap ((BitVec.ofInt IntKind.i64.bits (a : Int) &&& ~~~BitVec.ofInt IntKind.i64.bits (b : Int)).toNat : Int)) = 0) ↔ (a ||| b = b) := by
  show ((IntKind.i64.wrap ((BitVec.ofInt 64 (a : Int) &&& ~~~BitVec.ofInt 64 (b : Int)).toNat : Int)) = 0) ↔ _
  have ta : (BitVec.ofInt 64 (a : Int)).toNat = a := by rw [ofInt_nat, p62 ha]
  have tb : (BitVec.ofInt 64 (b : Int)).toNat = b := by rw [ofInt_nat, p62 hb]
  have key : ∀ i, (BitVec.ofInt 64 (a : Int) &&& ~~~BitVec.ofInt 64 (b : Int)).toNat.testBit i = (a.testBit i && (decide (i < 64) && !b.testBit i)) := fun i => by
    rw [BitVec.testBit_toNat, BitVec.getLsbD_and, BitVec.getLsbD_not, ← BitVec.testBit_toNat, ← BitVec.testBit_toNat, ta, tb]
  have hle : (BitVec.ofInt 64 (a : Int) &&& ~~~BitVec.ofInt 64 (b : Int)).toNat ≤ a := by
    rw [BitVec.toNat_and, ta]; exact Nat.and_le_left
  generalize (BitVec.ofInt 64 (a : Int) &&& ~~~BitVec.ofInt 64 (b : Int)).toNat = v at *
  rw [wrap_i64 (by have : (2 : Nat) ^ 62 < 9223372036854775808 := by decide
                   omega)]
  have hv : ((v : Int) = 0) ↔ v = 0 := by omega
  rw [hv]
  constructor
  · intro h0
    subst h0
    apply Nat.eq_of_testBit_eq
    intro i
    have := key i
    rw [Nat.zero_testBit] at this
    rw [Nat.testBit_or]
    by_cases hi : i < 64
    · rw [decide_eq_true hi] at this
      generalize a.testBit i = p at *
      generalize b.testBit i = q at *
      revert this
      cases p <;> cases q <;> simp
    · have : a.testBit i = false := Nat.testBit_lt_two_pow (Nat.lt_of_lt_of_le ha (Nat.pow_le_pow_right (by omega) (by omega)))
      rw [this]; rfl
  · intro h
    apply Nat.eq_of_testBit_eq
    intro i
    rw [key, Nat.zero_testBit]
    have hor : (a.testBit i || b.testBit i) = b.testBit i := by rw [← Nat.testBit_or, h]
    generalize a.testBit i = p at *
    generalize b.testBit i = q at *
    revert hor
    cases p <;> cases q <;> simp
theorem p77 (f : List Nat) (n : Nat) (hf : Ok f n) (x : Nat) (h1 : 1 ≤ x) (hx : x < 2 ^ n) : Pure Try.prog 77 [.agg (ints (mp f)), .fptr [.list (ints (nz (pof x n)))] 0, .fptr [.int .i64 x] 0] (.bool (!decide (mvb f n x ||| x = x))) := by
  have hlf := hf.mp_len
  have ha := asc_pof h1 hx
  have hm := mvb_lt hf x
  refine e77 (by simp) fun _ _ => ?_
  simp only [k77, argEnv, hlf, take6, List.drop_zero, Int.cast_ofNat_Int, go_sem, ↓reduceIte, Nat.reduceEqDiff, Nat.reduceAdd, Nat.reduceMul, Nat.reduceLeDiff, Nat.reduceLT, Int.reduceLE, Int.reduceLT, reduceCtorEq]
  refine (image_asc f n hf ha).fgo ?_
  try simp only [OpK_eq, HKv, take6, List.drop_zero, Int.cast_ofNat_Int, go_sem, ↓reduceIte, Nat.reduceEqDiff, Nat.reduceAdd, Nat.reduceMul, Nat.reduceLeDiff, Nat.reduceLT, Int.reduceLE, Int.reduceLT, reduceCtorEq]
  refine (p78 hf.le (img_asc hf ha)).pgo ?_
  rw [bits_pof h1 hx]
  try simp only [OpK_eq, HKv, take6, List.drop_zero, Int.cast_ofNat_Int, go_sem, ↓reduceIte, Nat.reduceEqDiff, Nat.reduceAdd, Nat.reduceMul, Nat.reduceLeDiff, Nat.reduceLT, Int.reduceLE, Int.reduceLT, reduceCtorEq]
  rw [aInt_andNot]
  try simp only [OpK_eq, HKv, take6, List.drop_zero, Int.cast_ofNat_Int, go_sem, ↓reduceIte, Nat.reduceEqDiff, Nat.reduceAdd, Nat.reduceMul, Nat.reduceLeDiff, Nat.reduceLT, Int.reduceLE, Int.reduceLT, reduceCtorEq]
  refine Kv.Fin.still ⟨?_, rfl⟩
  congr 2
  exact decide_eq_decide.2 (andNot_zero (lt62 hf.le hm) (lt62 hf.le hx))
theorem p76 (l : List (List Int)) (hm : ∀ x ∈ l, x.length = 6) (hl : l.length ≤ 4294967296) (fid : FuncId) (caps : List PV) [hc : StillL caps] (p : List Int → Bool) (hp : ∀ x ∈ l, Pure Try.prog fid (.agg (ints x) :: caps) (.bool (p x))) :
    Pure Try.prog 76 [.list (aggs l), .fn (.func fid) [] caps] (.bool (l.any p)) := by
  refine e76 (by simp) fun _ _ => ?_
  simp only [k76, argEnv, take6, List.drop_zero, Int.cast_ofNat_Int, go_sem, ↓reduceIte, Nat.reduceEqDiff, Nat.reduceAdd, Nat.reduceMul, Nat.reduceLeDiff, Nat.reduceLT, Int.reduceLE, Int.reduceLT, reduceCtorEq]
  refine (p124 l hm hl fid caps p hp).go ?_
  try simp only [OpK_eq, HKv, take6, List.drop_zero, Int.cast_ofNat_Int, go_sem, ↓reduceIte, Nat.reduceEqDiff, Nat.reduceAdd, Nat.reduceMul, Nat.reduceLeDiff, Nat.reduceLT, Int.reduceLE, Int.reduceLT, reduceCtorEq]
  refine Kv.Fin.still ⟨?_, rfl⟩
  cases hany : l.any p with
  | false => rw [idx_none hany, decide_eq_false (by omega)]
  | true =>
    obtain ⟨i0, hi0, hno, hyes⟩ := any_split hany
    rw [idx_some hi0 hno hyes, decide_eq_true (by omega)]
theorem filter_pts (x n : Nat) : (pts n).filter (fun y => !(!x.testBit y.toNat)) = nz (pof x n) := by
  unfold pts mk nz pof
  rw [List.filter_map]
  congr 1
  refine List.filter_congr fun q _ => ?_
  simp
theorem or_full {m n : Nat} (h : m < 2 ^ n) : m ||| (2 ^ n - 1) = 2 ^ n - 1 := by
  apply Nat.eq_of_testBit_eq
  intro i
  rw [Nat.testBit_or, Nat.testBit_two_pow_sub_one]
  by_cases hi : i < n
  · simp [hi]
  · have : m.testBit i = false := Nat.testBit_lt_two_pow (Nat.lt_of_lt_of_le h (Nat.pow_le_pow_right (by omega) (by omega)))
    simp [this, hi]
theorem full_good {fs : List (List Nat)} {n : Nat} (hf : ∀ f ∈ fs, Ok f n) (h1 : 1 ≤ n) : 2 ^ n - 1 ∈ goods fs n (2 ^ n) := by
  have : 2 ≤ 2 ^ n := by
    have := Nat.pow_le_pow_right (show 0 < 2 by omega) h1
    simpa using this
  refine goods_mem.2 ⟨by omega, by omega, ?_⟩
  unfold okS
  rw [List.all_eq_true]
  exact fun f hff => decide_eq_true (or_full (mvb_lt (hf f hff) _))
theorem rowsG_nodup (fs : List (List Nat)) {n x : Nat} (h : x ≤ 2 ^ n) : (rowsG fs n x).Nodup := by
  rw [rowsG, List.nodup_iff_pairwise_ne, List.pairwise_map]
  have hp : (goods fs n x).Pairwise (· < ·) := List.Pairwise.filter _ List.pairwise_lt_range
  refine hp.imp_of_mem fun {a b} ha hb hab e => ?_
  have h1 := (goods_mem.1 ha).1
  have h2 := (goods_mem.1 hb).1
  have := pof_inj (by omega : a < 2 ^ n) (by omega : b < 2 ^ n) (nz_inj e)
  omega
end Go.Proofs.Ytpepbomifjbgnaa
