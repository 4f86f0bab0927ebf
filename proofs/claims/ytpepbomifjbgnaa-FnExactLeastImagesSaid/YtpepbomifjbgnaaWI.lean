/- WordToSet: the implementation. -/
import Derived.Test.YtpepbomifjbgnaaCb
import Derived.Test.YtpepbomifjbgnaaG5
import Derived.Test.YtpepbomifjbgnaaFW
namespace Go.Proofs.Ytpepbomifjbgnaa
open Go.Kv
set_option maxRecDepth 100000
/- impl.fullSetCode -/
def k89 : KC := (.seq (.ops [⟨(some 4), none, .mv (.c (.int .i64 0))⟩])
  (.seq (.seq (.ops [⟨(some 6), none, .mv (.t 0)⟩, ⟨(some 7), none, .call (.c (.fn (.func 54) [] [])) [(.t 6), (.c (.nils))]⟩, ⟨(some 5), none, .mv (.t 7)⟩])
  (.seq (.ops [⟨(some 8), none, .mv (.t 5)⟩, ⟨(some 9), none, .bin .neq (.t 8) (.c (.int .i64 0))⟩])
  (.cond (.t 9) (.seq (.ops [⟨(some 10), none, .mv (.t 5)⟩, ⟨(some 4), none, .mv (.t 10)⟩])
  .ret) .skip)))
  (.seq (.seq (.ops [⟨(some 11), none, .mv (.t 1)⟩, ⟨(some 12), none, .len false (.t 11)⟩, ⟨(some 13), none, .bin .eql (.t 12) (.c (.int .i64 0))⟩, ⟨(some 14), none, .mv (.t 13)⟩, ⟨(some 15), some (14, false), .mv (.t 1)⟩, ⟨(some 16), some (14, false), .mv (.t 0)⟩, ⟨(some 17), some (14, false), .idxS 6 (.t 16) (.c (.int .i64 0))⟩, ⟨(some 18), some (14, false), .fieldA 0 (.t 17)⟩, ⟨(some 19), some (14, false), .load false 1 (.t 18)⟩, ⟨(some 20), some (14, false), .call (.c (.fn (.func 134) [] [])) [(.t 15), (.t 19)]⟩, ⟨(some 21), some (14, false), .not (.t 20)⟩, ⟨(some 22), none, .pick (.t 14) (.c (.bool true)) (.t 21)⟩])
  (.cond (.t 22) (.seq (.ops [⟨(some 4), none, .mv (.c (.int .i64 2))⟩])
  .ret) .skip))
  (.seq (.ops [⟨(some 4), none, .mv (.c (.int .i64 0))⟩])
  .ret))))
theorem e89 {args : List PV} {σ : Heap} {K : PV → Heap → Prop} (hl : args.length ≤ 23) (h : Wf σ → (∀ a ∈ args, PV.upto σ.length a) → vc (mkCfg Try.prog mixed [] 23 σ.length) k89 (FinK σ.length [.t 4] K) (argEnv 0 args) σ) : ACall Try.prog 89 args σ K :=
  ACall_enter (C := mkCfg Try.prog mixed [] 23 σ.length) (c := Try.f89.body.getD .skip) Try.func89 (by kernel_rfl) (by kernel_rfl) (by kernel_rfl) rfl hl (by kernel_rfl) (by kernel_rfl) h
end Go.Proofs.Ytpepbomifjbgnaa
namespace Go.Proofs.Ytpepbomifjbgnaa
open Go.Kv
set_option linter.unusedVariables false
set_option linter.unusedSimpArgs false
attribute [local irreducible] ACall PCall KL
/-- The code of a list and a set that is not empty. -/
def bad (P : List Int) (n : Int) : Bool := decide (P.length = 0) || !stB P n
def fsc (a : List (List Int)) (P : List Int) : Int := if lcode a [] ≠ 0 then lcode a [] else if bad P ((a.getD 0 []).getD 0 0) = true then 2 else 0
theorem p89 (a : List (List Int)) (P : List Int) (ha : a.length ≤ 1048576) (h6 : ∀ r ∈ a, r.length = 6) (hP : P.length ≤ 1048576) : Pure Try.prog 89 [.list (aggs a), .list (ints P)] (.int .i64 (fsc a P)) := by
  refine e89 (by simp) fun _ _ => ?_
  simp only [k89, argEnv, take6, List.drop_zero, Int.cast_ofNat_Int, go_sem, ↓reduceIte, Nat.reduceEqDiff, Nat.reduceAdd, Nat.reduceMul, Nat.reduceLeDiff, Nat.reduceLT, Int.reduceLE, Int.reduceLT, reduceCtorEq]
  refine (p54 _ a [] .nil ha (by simp) h6 (by simp)).go ?_
  try simp only [take6, List.drop_zero, Int.cast_ofNat_Int, go_sem, ↓reduceIte, Nat.reduceEqDiff, Nat.reduceAdd, Nat.reduceMul, Nat.reduceLeDiff, Nat.reduceLT, Int.reduceLE, Int.reduceLT, reduceCtorEq]
  refine ⟨fun h1 => ?_, fun h1 => ?_⟩
  · exact Kv.Fin.still ⟨by rw [fsc, if_pos h1], rfl⟩
  · have hv : fsc a P = if bad P ((a.getD 0 []).getD 0 0) = true then 2 else 0 := by rw [fsc, if_neg (by simp [h1])]
    obtain ⟨fs, n, rfl, hf, hl1, hl2, hn, hn1, hn5⟩ := lcode_maps h6 h1
    have h0 : 0 < fs.length := by omega
    have hk := hf _ (List.getElem_mem h0)
    have h6k := hk.mp_len
    rw [hn] at hv
    rw [map_getD h0] at hn
    try simp only [map_getD h0, h6k, hn, List.length_map, take6, List.drop_zero, Int.cast_ofNat_Int, go_sem, ↓reduceIte, Nat.reduceEqDiff, Nat.reduceAdd, Nat.reduceMul, Nat.reduceLeDiff, Nat.reduceLT, Int.reduceLE, Int.reduceLT, reduceCtorEq]
    refine ⟨fun h2 => ⟨by omega, fun _ => ?_⟩, fun h2 => ?_⟩
    · refine (p134 P n hP (by omega)).go ?_
      have hb : bad P n = !stB P n := by rw [bad, decide_eq_false (by omega), Bool.false_or]
      rw [hb] at hv
      cases hs : stB P n with
      | false =>
        rw [hs] at hv
        try simp only [OpK_eq, take6, List.drop_zero, Int.cast_ofNat_Int, go_sem, ↓reduceIte, Nat.reduceEqDiff, Nat.reduceAdd, Nat.reduceMul, Nat.reduceLeDiff, Nat.reduceLT, Int.reduceLE, Int.reduceLT, reduceCtorEq]
        exact Kv.Fin.still ⟨by rw [hv]; rfl, rfl⟩
      | true =>
        rw [hs] at hv
        try simp only [OpK_eq, take6, List.drop_zero, Int.cast_ofNat_Int, go_sem, ↓reduceIte, Nat.reduceEqDiff, Nat.reduceAdd, Nat.reduceMul, Nat.reduceLeDiff, Nat.reduceLT, Int.reduceLE, Int.reduceLT, reduceCtorEq]
        exact Kv.Fin.still ⟨by rw [hv]; rfl, rfl⟩
    · exact Kv.Fin.still ⟨by rw [hv, bad, decide_eq_true (by omega)]; rfl, rfl⟩
/-- The queue of the search by images. -/
noncomputable abbrev wq (fs : List (List Nat)) (p : List Int) (i : Nat) : List Met := (bq fs img (fun (_ : Unit) _ => ()) ([(p, [])], ()) i).1
theorem advN_inv {fs : List (List Nat)} {n : Nat} (hf : ∀ f ∈ fs, Ok f n) {Q : List Met} {m : Met} (hQ : ∀ x ∈ Q, asc n x.1) (hd : (Q.map Prod.fst).Nodup) (hm : asc n m.1) : ∀ k, k ≤ fs.length → (∀ x ∈ advN fs img Q m k, asc n x.1) ∧ ((advN fs img Q m k).map Prod.fst).Nodup
  | 0, _ => ⟨hQ, hd⟩
  | k + 1, hk => by
    obtain ⟨h1, h2⟩ := advN_inv hf hQ hd hm k (by omega)
    have hfk : Ok (fs.getD k []) n := by
      have : fs.getD k [] = fs[k] := by simp [List.getD_eq_getElem?_getD, show k < fs.length by omega]
      rw [this]; exact hf _ (List.getElem_mem _)
    rw [advN_succ]
    cases hany : (advN fs img Q m k).any (fun x => decide (x.1 = img (fs.getD k []) m.1)) with
    | true => rw [if_pos rfl]; exact ⟨h1, h2⟩
    | false =>
      rw [if_neg (by simp)]
      refine ⟨fun x hx => ?_, ?_⟩
      · rcases List.mem_append.1 hx with hx | hx
        · exact h1 x hx
        · simp only [List.mem_singleton] at hx; subst hx
          exact img_asc hfk hm
      · rw [List.map_append, List.nodup_append]
        refine ⟨h2, by simp, fun y hy z hz => ?_⟩
        simp only [List.map_cons, List.map_nil, List.mem_singleton] at hz
        subst hz
        obtain ⟨x, hx, rfl⟩ := List.mem_map.1 hy
        rw [List.any_eq_false] at hany
        have := hany x hx
        simpa using this
theorem wq_inv {fs : List (List Nat)} {n : Nat} (hf : ∀ f ∈ fs, Ok f n) {p : List Int} (hp : asc n p) : ∀ i, (∀ x ∈ wq fs p i, asc n x.1) ∧ ((wq fs p i).map Prod.fst).Nodup
  | 0 => ⟨fun x hx => by
      have hx : x ∈ [((p, []) : Met)] := hx
      simp only [List.mem_singleton] at hx; subst hx; exact hp, by show ([((p, []) : Met)].map Prod.fst).Nodup; simp⟩
  | i + 1 => by
    obtain ⟨h1, h2⟩ := wq_inv hf hp i
    by_cases hi : i < (wq fs p i).length
    · have e : wq fs p (i + 1) = advN fs img (wq fs p i) (wq fs p i)[i] fs.length := congrArg Prod.fst (bq_succ hi)
      rw [e]
      exact advN_inv hf h1 h2 (h1 _ (List.getElem_mem hi)) _ (Nat.le_refl _)
    · have e : wq fs p (i + 1) = wq fs p i := by
        show (bq fs img (fun (_ : Unit) _ => ()) ([(p, [])], ()) (i + 1)).1 = _
        rw [bq]
        have : (bq fs img (fun (_ : Unit) _ => ()) ([(p, [])], ()) i).1[i]? = none := List.getElem?_eq_none (Nat.le_of_not_lt hi)
        rw [this]
      rw [e]; exact ⟨h1, h2⟩
theorem wq_len {fs : List (List Nat)} {n : Nat} (hn : n ≤ 5) (hf : ∀ f ∈ fs, Ok f n) {p : List Int} (hp : asc n p) (i : Nat) : (wq fs p i).length ≤ 32 := by
  obtain ⟨h1, h2⟩ := wq_inv hf hp i
  have := nodup_len 32 ((wq fs p i).map fun x => bits x.1) ?_ ?_
  · simpa using this
  · have e : (wq fs p i).map (fun x => bits x.1) = ((wq fs p i).map Prod.fst).map bits := by rw [List.map_map]; rfl
    rw [e, List.Nodup, List.pairwise_map]
    refine List.Pairwise.imp_of_mem ?_ h2
    intro a b ha hb hab h
    obtain ⟨x, hx, rfl⟩ := List.mem_map.1 ha
    obtain ⟨y, hy, rfl⟩ := List.mem_map.1 hb
    exact hab ((bits_inj (h1 x hx) (h1 y hy)).1 h)
  · intro x hx
    obtain ⟨y, hy, rfl⟩ := List.mem_map.1 hx
    obtain ⟨l, e, _, hl, _⟩ := h1 y hy
    rw [bits, e, toNat_map]
    exact sb_lt (n := 5) fun z hz => by have := hl z hz; omega
theorem image_asc (f : List Nat) (n : Nat) (hf : Ok f n) {p : List Int} (hp : asc n p) : Pure Try.prog 79 [.agg (ints (mp f)), .list (ints p)] (.list (ints (img f p))) := by
  have hl := asc_len hp
  have h5 := hf.le
  obtain ⟨l, rfl, _, h1, _⟩ := hp
  rw [List.length_map] at hl
  have := p79 f n hf l h1 (by omega) (by omega)
  unfold img
  rwa [toNat_map]
/-- The code of a list and two sets. -/
def wcd (a : List (List Int)) (P Q : List Int) : Int := if fsc a P ≠ 0 then fsc a P else if bad Q ((a.getD 0 []).getD 0 0) = true then 2 else 0
theorem fsc_zero {a : List (List Int)} {P : List Int} (h : fsc a P = 0) : lcode a [] = 0 ∧ bad P ((a.getD 0 []).getD 0 0) = false := by
  unfold fsc at h
  by_cases h1 : lcode a [] = 0
  · rw [if_neg (by simp [h1])] at h
    refine ⟨h1, ?_⟩
    cases hb : bad P ((a.getD 0 []).getD 0 0) with
    | false => rfl
    | true => rw [hb] at h; simp at h
  · rw [if_pos h1] at h; exact absurd h h1
theorem bad_asc {P : List Int} {n : Nat} (h : bad P n = false) : asc n P := by
  simp only [bad, Bool.or_eq_false_iff, decide_eq_false_iff_not, Bool.not_eq_false'] at h
  exact stB_asc h.2 (fun e => h.1 (by rw [e]; rfl))
end Go.Proofs.Ytpepbomifjbgnaa
