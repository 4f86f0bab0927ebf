/- Images of a set: the implementation; what is reached. -/
import Derived.Test.YtpepbomifjbgnaaCb
import Derived.Test.YtpepbomifjbgnaaSV
import Derived.Test.YtpepbomifjbgnaaIU
namespace Go.Proofs.Ytpepbomifjbgnaa
open Go.Kv
set_option maxRecDepth 100000
/- impl.imagesOf -/
def k84 : KC := (.seq (.ops [⟨(some 4), none, .mv (.c (.nils))⟩])
  (.seq (.ops [⟨(some 6), none, .mv (.t 0)⟩, ⟨(some 7), none, .mv (.t 1)⟩, ⟨(some 8), none, .call (.c (.fn (.func 132) [] [])) [(.t 7)]⟩, ⟨(some 9), none, .call (.c (.fn (.func 131) [] [])) [(.t 6), (.t 8)]⟩, ⟨(some 5), none, .mv (.t 9)⟩])
  (.seq (.ops [⟨(some 10), none, .mv (.t 5)⟩, ⟨(some 11), none, .call (.c (.fn (.func 80) [] [])) [(.t 10), (.c (.fn (.func 81) [] []))]⟩])
  (.seq (.ops [⟨(some 12), none, .mv (.t 5)⟩, ⟨(some 4), none, .mv (.t 12)⟩])
  .ret))))
theorem e84 {args : List PV} {σ : Heap} {K : PV → Heap → Prop} (hl : args.length ≤ 13) (h : Wf σ → (∀ a ∈ args, PV.upto σ.length a) → vc (mkCfg Try.prog mixed [] 13 σ.length) k84 (FinK σ.length [.t 4] K) (argEnv 0 args) σ) : ACall Try.prog 84 args σ K :=
  ACall_enter (C := mkCfg Try.prog mixed [] 13 σ.length) (c := Try.f84.body.getD .skip) Try.func84 (by kernel_rfl) (by kernel_rfl) (by kernel_rfl) rfl hl (by kernel_rfl) (by kernel_rfl) h
end Go.Proofs.Ytpepbomifjbgnaa
namespace Go.Proofs.Ytpepbomifjbgnaa
open Go.Kv
set_option linter.unusedVariables false
set_option linter.unusedSimpArgs false
attribute [local irreducible] ACall PCall KL
/-- What the search reaches. -/
inductive Rb (fs : List (List Nat)) (bf : List Nat → List Int → List Int) (p : List Int) : List Int → Prop
  | here : Rb fs bf p p
  | step (f : List Nat) (x : List Int) (h : f ∈ fs) (hx : Rb fs bf p x) : Rb fs bf p (bf f x)
theorem adv_rb {fs : List (List Nat)} {bf : List Nat → List Int → List Int} {p : List Int} {Q : List Met} {m : Met} (hQ : ∀ x ∈ Q, Rb fs bf p x.1) (hm : Rb fs bf p m.1) : ∀ k, k ≤ fs.length →
    (∀ x ∈ advN fs bf Q m k, Rb fs bf p x.1) ∧ (∀ j, j < k → ∃ x ∈ advN fs bf Q m k, x.1 = bf (fs.getD j []) m.1) ∧ (∀ x ∈ Q, x ∈ advN fs bf Q m k)
  | 0, _ => ⟨hQ, fun j h => by omega, fun x hx => hx⟩
  | k + 1, hk => by
    obtain ⟨h1, h3, h4⟩ := adv_rb hQ hm k (by omega)
    have hgf : fs.getD k [] = fs[k] := by simp [List.getD_eq_getElem?_getD, show k < fs.length by omega]
    have hfk : fs[k] ∈ fs := List.getElem_mem _
    rw [advN_succ]
    cases hany : (advN fs bf Q m k).any (fun x => decide (x.1 = bf (fs.getD k []) m.1)) with
    | true =>
      rw [if_pos rfl]
      refine ⟨h1, fun j hj => ?_, h4⟩
      by_cases e : j = k
      · subst e
        obtain ⟨x, hx, e⟩ := List.any_eq_true.1 hany
        exact ⟨x, hx, of_decide_eq_true e⟩
      · exact h3 j (by omega)
    | false =>
      rw [if_neg (by simp)]
      refine ⟨fun x hx => ?_, fun j hj => ?_, fun x hx => List.mem_append.2 (.inl (h4 x hx))⟩
      · rcases List.mem_append.1 hx with hx | hx
        · exact h1 x hx
        · simp only [List.mem_singleton] at hx; subst hx
          show Rb fs bf p (bf (fs.getD k []) m.1)
          rw [hgf]; exact .step _ _ hfk hm
      · by_cases e : j = k
        · subst e; exact ⟨_, List.mem_append.2 (.inr (List.mem_singleton.2 rfl)), rfl⟩
        · obtain ⟨x, hx, e⟩ := h3 j (by omega)
          exact ⟨x, List.mem_append.2 (.inl hx), e⟩
theorem bl_rb {fs : List (List Nat)} {bf : List Nat → List Int → List Int} {p : List Int} : ∀ i, i ≤ (bl fs bf p i).length →
    (∀ x ∈ bl fs bf p i, Rb fs bf p x.1) ∧ (∃ x ∈ bl fs bf p i, x.1 = p) ∧
    (∀ j, (h : j < (bl fs bf p i).length) → j < i → ∀ k, k < fs.length → ∃ x ∈ bl fs bf p i, x.1 = bf (fs.getD k []) (bl fs bf p i)[j].1)
  | 0, _ => by
    have e : bl fs bf p 0 = [((p, []) : Met)] := rfl
    rw [e]
    refine ⟨fun x hx => ?_, ⟨_, List.mem_singleton.2 rfl, rfl⟩, fun j _ h => by omega⟩
    simp only [List.mem_singleton] at hx; subst hx
    exact .here
  | i + 1, hi1 => by
    by_cases hi : i < (bl fs bf p i).length
    · obtain ⟨h1, h3, h4⟩ := bl_rb (fs := fs) (bf := bf) (p := p) i (by omega)
      obtain ⟨g1, g3, g4⟩ := adv_rb h1 (h1 _ (List.getElem_mem hi)) fs.length (Nat.le_refl _)
      obtain ⟨r, hr⟩ := advN_preE fs bf (bl fs bf p i) (bl fs bf p i)[i] fs.length
      have e := bl_succ (fs := fs) (bf := bf) (p := p) hi
      rw [← e] at g1 g3 g4 hr
      obtain ⟨x0, hx0, e0⟩ := h3
      refine ⟨g1, ⟨x0, g4 x0 hx0, e0⟩, fun j hj hji k hk => ?_⟩
      have hj' : j < (bl fs bf p i).length := by omega
      have ej : (bl fs bf p (i + 1))[j] = (bl fs bf p i)[j] := by
        have : (bl fs bf p (i + 1))[j]? = (bl fs bf p i)[j]? := by rw [hr, List.getElem?_append_left hj']
        rw [List.getElem?_eq_getElem hj, List.getElem?_eq_getElem hj'] at this
        exact Option.some.inj this
      rw [ej]
      by_cases e2 : j = i
      · subst e2; exact g3 k hk
      · obtain ⟨x, hx, e3⟩ := h4 j hj' (by omega) k hk
        exact ⟨x, g4 x hx, e3⟩
    · have e : bl fs bf p (i + 1) = bl fs bf p i := by
        rw [bl]
        have : (bl fs bf p i)[i]? = none := List.getElem?_eq_none (Nat.le_of_not_lt hi)
        rw [this]
      rw [e] at hi1
      omega
/-- At the end all is reached. -/
theorem rst_mem {fs : List (List Nat)} {p : List Int} {i : Nat} (hi : i = (bl fs img p i).length) (y : List Int) : y ∈ rst fs p i ↔ Rb fs img p y := by
  obtain ⟨h1, h3, h4⟩ := bl_rb (fs := fs) (bf := img) (p := p) i (by omega)
  unfold rst
  rw [List.mem_map]
  constructor
  · rintro ⟨x, hx, rfl⟩; exact h1 x hx
  · intro hy
    induction hy with
    | here => exact h3
    | step f x hf' _ ih =>
      obtain ⟨z, hz, e⟩ := ih
      obtain ⟨j, hj, rfl⟩ := List.getElem_of_mem hz
      obtain ⟨k, hk, rfl⟩ := List.getElem_of_mem hf'
      obtain ⟨u, hu, e2⟩ := h4 j hj (by omega) k hk
      refine ⟨u, hu, ?_⟩
      rw [e2, e]
      simp [List.getD_eq_getElem?_getD, hk]
/-- What is reached, as bits. -/
inductive Rc (fs : List (List Nat)) (n x : Nat) : Nat → Prop
  | here : Rc fs n x x
  | step (f : List Nat) (y : Nat) (h : f ∈ fs) (hy : Rc fs n x y) : Rc fs n x (mvb f n y)
theorem mvb_pos {f : List Nat} {n x : Nat} (hf : Ok f n) (h1 : 1 ≤ x) (h : x < 2 ^ n) : 1 ≤ mvb f n x := by
  rw [← bits_pof h1 h]
  obtain ⟨l, e, h0, _, _⟩ := img_asc hf (asc_pof h1 h)
  rw [bits, e, toNat_map]
  cases l with
  | nil => exact absurd rfl h0
  | cons a l =>
    refine Nat.one_le_iff_ne_zero.2 fun hz => ?_
    have := sb_test (a :: l) a
    rw [hz, Nat.zero_testBit] at this
    simp at this
theorem Rc.bnd {fs : List (List Nat)} {n x : Nat} (hf : ∀ f ∈ fs, Ok f n) (h1 : 1 ≤ x) (h : x < 2 ^ n) {y : Nat} (hy : Rc fs n x y) : 1 ≤ y ∧ y < 2 ^ n := by
  induction hy with
  | here => exact ⟨h1, h⟩
  | step f y hff _ ih => exact ⟨mvb_pos (hf f hff) ih.1 ih.2, mvb_lt (hf f hff) y⟩
theorem img_pof {f : List Nat} {n x : Nat} (hf : Ok f n) (h1 : 1 ≤ x) (h : x < 2 ^ n) : img f (nz (pof x n)) = nz (pof (mvb f n x) n) := by
  have hb := bits_pof (f := f) h1 h
  have hm := mvb_lt hf x
  refine (bits_inj (img_asc hf (asc_pof h1 h)) (asc_pof (mvb_pos hf h1 h) hm)).1 ?_
  rw [hb, bits, nz, toNat_map, pof_lt hm]
theorem Rb_Rc {fs : List (List Nat)} {n x : Nat} (hf : ∀ f ∈ fs, Ok f n) (h1 : 1 ≤ x) (h : x < 2 ^ n) (r : List Int) : Rb fs img (nz (pof x n)) r ↔ ∃ y, Rc fs n x y ∧ r = nz (pof y n) := by
  constructor
  · intro hr
    induction hr with
    | here => exact ⟨x, .here, rfl⟩
    | step f z hff _ ih =>
      obtain ⟨y, hy, rfl⟩ := ih
      have hb := hy.bnd hf h1 h
      exact ⟨_, .step f y hff hy, img_pof (hf f hff) hb.1 hb.2⟩
  · rintro ⟨y, hy, rfl⟩
    induction hy with
    | here => exact .here
    | step f y hff hy ih =>
      have hb := hy.bnd hf h1 h
      rw [← img_pof (hf f hff) hb.1 hb.2]
      exact .step f _ hff ih
/-- The sets that are reached, in order. -/
noncomputable def imS (fs : List (List Nat)) (n x : Nat) : List Nat := ((List.range (2 ^ n)).filter fun b => @decide (Rc fs n x b) (Classical.propDecidable _)).foldl putB []
theorem fold_put : ∀ (l S : List Nat), Srt S → (∀ x ∈ l, x < 2 ^ 62) → Srt (l.foldl putB S) ∧ ∀ b, b ∈ l.foldl putB S ↔ b ∈ l ∨ b ∈ S
  | [], S, h, _ => ⟨h, fun b => by simp⟩
  | a :: l, S, h, hl => by
    obtain ⟨h1, h2⟩ := fold_put l (putB S a) (putB_srt h (hl a (by simp))) fun x hx => hl x (by simp [hx])
    refine ⟨h1, fun b => ?_⟩
    rw [List.foldl_cons, h2, putB_mem, List.mem_cons]
    constructor
    · rintro (h | h | h)
      · exact .inl (.inr h)
      · exact .inl (.inl h)
      · exact .inr h
    · rintro ((h | h) | h)
      · exact .inr (.inl h)
      · exact .inl h
      · exact .inr (.inr h)
theorem imS_srt {fs : List (List Nat)} {n x : Nat} (h5 : n ≤ 5) : Srt (imS fs n x) :=
  (fold_put _ [] ⟨.nil, by simp⟩ fun y hy => lt62 h5 (by simpa using (List.mem_filter.1 hy).1)).1
theorem imS_mem {fs : List (List Nat)} {n x : Nat} (h5 : n ≤ 5) (hf : ∀ f ∈ fs, Ok f n) (h1 : 1 ≤ x) (h : x < 2 ^ n) (b : Nat) : b ∈ imS fs n x ↔ Rc fs n x b := by
  unfold imS
  rw [(fold_put _ [] ⟨.nil, by simp⟩ fun y hy => lt62 h5 (by simpa using (List.mem_filter.1 hy).1)).2]
  simp only [List.mem_filter, List.mem_range, decide_eq_true_eq, List.not_mem_nil, or_false]
  exact ⟨fun hb => hb.2, fun hb => ⟨(hb.bnd hf h1 h).2, hb⟩⟩
theorem srt_uniq {S T : List Nat} (hS : Srt S) (hT : Srt T) (h : ∀ b, b ∈ S ↔ b ∈ T) : S = T :=
  perm_uniq (le := fun a b => bef a b = true) (fun a b h1 h2 => by
    have := bef_trans h1 h2
    rw [bef_irr] at this; cases this) ((List.perm_ext_iff_of_nodup (srt_nodup hS) (srt_nodup hT)).2 h) hS.1 hT.1
theorem srt_len5 {S : List Nat} (hS : Srt S) {n : Nat} (h5 : n ≤ 5) (h : ∀ b ∈ S, b < 2 ^ n) : S.length ≤ 32 :=
  nodup_len 32 S (srt_nodup hS) fun b hb => Nat.lt_of_lt_of_le (h b hb) (pw5 h5)
theorem rst_asc {fs : List (List Nat)} {n : Nat} (hf : ∀ f ∈ fs, Ok f n) {p : List Int} (hp : asc n p) {i : Nat} : (∀ r ∈ rst fs p i, asc n r) ∧ (rst fs p i).Nodup := by
  unfold rst
  rw [bl_wq]
  obtain ⟨h1, h2⟩ := wq_inv hf hp i
  exact ⟨fun r hr => by obtain ⟨m, hm, rfl⟩ := List.mem_map.1 hr; exact h1 m hm, h2⟩
theorem p84 (fs : List (List Nat)) (n : Nat) (h5 : n ≤ 5) (hf : ∀ f ∈ fs, Ok f n) (hfl : fs.length ≤ 1000) (x : Nat) (h1 : 1 ≤ x) (hx : x < 2 ^ n) :
    ACall Try.prog 84 [.list (aggs (fs.map mp)), .list (ints (nz (pof x n)))] [] (fun v s => TabN 23 2 s v (rowsB (imS fs n x)) ∧ Free s) := by
  have hp := asc_pof h1 hx
  have hpl := asc_len hp
  have hne := pof_ne h1 hx
  refine e84 (by simp) fun _ _ => ?_
  simp only [k84, argEnv, take6, List.drop_zero, Int.cast_ofNat_Int, go_sem, ↓reduceIte, Nat.reduceEqDiff, Nat.reduceAdd, Nat.reduceMul, Nat.reduceLeDiff, Nat.reduceLT, Int.reduceLE, Int.reduceLT, reduceCtorEq]
  refine (p132P (nz (pof x n)) (by omega)).go fun v s hv => ?_
  rcases hv with ⟨rfl, rfl⟩ | ⟨hl0, rfl, rfl⟩
  · try simp only [OpK_eq, HKv, ren_ref, ren_arr, ren_ints, List.nil_append, take6, List.drop_zero, Int.cast_ofNat_Int, go_sem, ↓reduceIte, Nat.reduceEqDiff, Nat.reduceAdd, Nat.reduceMul, Nat.reduceLeDiff, Nat.reduceLT, Int.reduceLE, Int.reduceLT, reduceCtorEq]
    have e0 : nz (pof x n) = nz (pof x n) ++ [] := by simp
    have hR := p131 fs n h5 hf hfl (nz (pof x n)) hp 1 []
    rw [List.append_nil] at hR
    refine hR _ fun i hi v s hT hF => ?_
    have hra := rst_asc hf hp (i := i)
    have hlen : (rst fs (nz (pof x n)) i).length ≤ 32 := by
      rw [rst, bl_wq, List.length_map]; exact wq_len h5 hf hp i
    have hpm : nz (pof x n) ∈ rst fs (nz (pof x n)) i := (rst_mem hi _).2 .here
    try simp only [OpK_eq, HKv, take6, List.drop_zero, Int.cast_ofNat_Int, go_sem, ↓reduceIte, Nat.reduceEqDiff, Nat.reduceAdd, Nat.reduceMul, Nat.reduceLeDiff, Nat.reduceLT, Int.reduceLE, Int.reduceLT, reduceCtorEq]
    refine tab_sort hT hF (List.length_pos_of_mem hpm) (by omega) (fun l hl => ?_) fun t' s' q1 q2 q3 q4 _ => ?_
    · have h := asc_len (hra.1 l hl)
      exact ⟨fun e => by rw [e] at h; simp at h, by omega⟩
    · try simp only [OpK_eq, HKv, take6, List.drop_zero, Int.cast_ofNat_Int, go_sem, ↓reduceIte, Nat.reduceEqDiff, Nat.reduceAdd, Nat.reduceMul, Nat.reduceLeDiff, Nat.reduceLT, Int.reduceLE, Int.reduceLT, reduceCtorEq]
      have e : t' = rowsB (imS fs n x) := by
        refine rowsB_uniq (imS_srt h5) (q2.nodup_iff.2 hra.2) (fun r => ?_) q3
        rw [q2.mem_iff, rst_mem hi, Rb_Rc hf h1 hx, rowsB, List.mem_map]
        constructor
        · rintro ⟨y, hy, rfl⟩
          exact ⟨y, (imS_mem h5 hf h1 hx y).2 hy, by rw [pof62 h5 (hy.bnd hf h1 hx).2]⟩
        · rintro ⟨y, hy, rfl⟩
          have hy := (imS_mem h5 hf h1 hx y).1 hy
          exact ⟨y, hy, by rw [pof62 h5 (hy.bnd hf h1 hx).2]⟩
      rw [e] at q1
      exact Kv.Fin.now ⟨q1, q4⟩
  · exact absurd hl0 (by unfold nz; simpa using hne)
end Go.Proofs.Ytpepbomifjbgnaa
