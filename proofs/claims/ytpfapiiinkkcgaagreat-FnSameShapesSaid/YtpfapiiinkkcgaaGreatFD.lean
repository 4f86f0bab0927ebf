/- A call that works on one object of its own, while all else is lent. A framework of this session's own: nothing here speaks of a program. -/
import Derived.Test.YtpfapiiinkkcgaaGreatFC
namespace Go.Kv
set_option linter.unusedVariables false
def AObj.plain : AObj → Prop
  | .dead => True
  | .box cs => ∀ c ∈ cs, Plain c
  | .arr _ _ _ xs => ∀ c ∈ flat xs, Plain c
theorem Plain.rel {c : PV} (h : Plain c) {φ φ' : Frz} {ι ι' : List KLoc} {v : Value} (hr : Rel φ ι c v) : Rel φ' ι' c v := by
  have h1 := h.up _ _ _ hr
  have h2 := h.fr φ φ' _ _ h1
  exact h2.mono (.refl _) (fun id l hl => by simp at hl)
theorem RelL.plain {cs : List PV} (h : ∀ c ∈ cs, Plain c) {φ φ' : Frz} {ι ι' : List KLoc} {vs : List Value} (hr : RelL φ ι cs vs) : RelL φ' ι' cs vs :=
  ⟨hr.1, fun i c v hc hv => (h c (List.mem_of_getElem? hc)).rel (hr.2 i c v hc hv)⟩
theorem ObjOK.plain {φ φ' : Frz} {ι ι' : List KLoc} {w : World} {o : AObj} {l : KLoc} (hp : o.plain) (h : ObjOK φ ι w o l) : ObjOK φ' ι' w o l := by
  cases o with
  | dead => cases l <;> simp [ObjOK]
  | box cs =>
    cases l <;> simp only [ObjOK] at h ⊢
    obtain ⟨C, e, h1, h2, h3⟩ := h
    exact ⟨C, e, h1, h2.plain hp, h3⟩
  | arr v e s xs =>
    cases l <;> simp only [ObjOK] at h ⊢
    obtain ⟨h1, h2, h2', h3, ys, h4, h5, h6⟩ := h
    exact ⟨h1, h2, h2', h3, ys, h4, h5.plain hp, h6⟩
/-- Where the objects of such a call lie in the heap at hand. -/
def sh1 (id n : Nat) : Nat → Nat
  | 0 => id
  | j + 1 => n + j
/-- **Lending all but one object.** -/
theorem ACall.lendOn {P : Program} {f : FuncId} {args args' : List PV} {σ : Heap} {K K' : PV → Heap → Prop} {id : Nat} {o : AObj} (hid : σ[id]? = some o) (hpl : o.plain) (h : ACall P f args' [o] K') (hlen : args.length = args'.length)
    (ha : ∀ (i : Nat) (c d : PV), args[i]? = some c → args'[i]? = some d → Imm (σ.set id .dead) c d ∨ ∃ ver off len, c = .ref id ver off len ∧ d = .ref 0 ver off len)
    (hk : ∀ v s, K' v s → ∃ o1 s1, s = o1 :: s1 ∧ (v.free ∧ ∀ x ∈ s, AObj.free x) ∧ K (v.ren (sh1 id σ.length)) (σ.set id (o1.ren (sh1 id σ.length)) ++ s1.map (AObj.ren (sh1 id σ.length)))) : ACall P f args σ K := by
  refine ⟨h.1, fun φ ι w vs hr ho => ?_⟩
  have hlt := (List.getElem?_eq_some_iff.1 hid).1
  have hltι : id < ι.length := by rw [ho.len]; exact hlt
  obtain ⟨l, hl⟩ : ∃ l, ι[id]? = some l := ⟨_, List.getElem?_eq_getElem hltι⟩
  let φ1 : Frz := fun b => if l.block = some b then none else allFrz w b
  have hφ1 : ∀ b, φ1 b = if l.block = some b then none else allFrz w b := fun b => rfl
  have hlφ : ∀ b, l.block = some b → φ b = none := fun b hb => ho.nf id l b hl hb
  have hle : FLe φ φ1 := fun b C hb => by
    rw [hφ1, if_neg (fun hb2 => by rw [hlφ b hb2] at hb; cases hb)]
    exact allFrz_le ho b C hb
  have hd : HOK φ ι (σ.set id .dead) w := ⟨by simp [ho.len], ho.fz, ho.nf, ho.dis, ho.lt, fun j o' l' h1 h2 => by
    by_cases e : id = j
    · subst e; rw [List.getElem?_set_self hlt] at h1; cases h1; trivial
    · rw [List.getElem?_set_ne e] at h1; exact ho.obj j o' l' h1 h2⟩
  have ho1 : HOK φ1 [l] [o] w := by
    refine ⟨rfl, fun b C hb => ?_, fun j l' b h1 h2 => ?_, fun j j' l1 l2 b h1 h2 _ _ => ?_, fun j l' b h1 h2 => ?_, fun j o' l' h1 h2 => ?_⟩
    · rw [hφ1] at hb
      split at hb
      · cases hb
      · exact (allFrz_hok w).fz b C hb
    · cases j with
      | zero => simp only [List.getElem?_cons_zero, Option.some.injEq] at h1; subst h1; rw [hφ1, if_pos h2]
      | succ j => simp at h1
    · have h1 := (List.getElem?_eq_some_iff.1 h1).1
      have h2 := (List.getElem?_eq_some_iff.1 h2).1
      simp at h1 h2; omega
    · cases j with
      | zero => simp only [List.getElem?_cons_zero, Option.some.injEq] at h1; subst h1; exact ho.lt id _ b hl h2
      | succ j => simp at h1
    · cases j with
      | zero =>
        simp only [List.getElem?_cons_zero, Option.some.injEq] at h1 h2
        subst h1; subst h2
        exact (ho.obj id _ _ hid hl).plain hpl
      | succ j => simp at h1
  have hr1 : RelL φ1 [l] args' vs := ⟨by rw [← hlen]; exact hr.1, fun i d v hd' hv => by
    obtain ⟨c, hc⟩ := other hlen hd'
    rcases ha i c d hc hd' with hi | ⟨ver, off, len, rfl, rfl⟩
    · have := hi.rel hd hle (fun j o' l' b C e f h1 h2 h3 h4 h5 => ?_) (hr.2 i c v hc hv)
      · exact this.mono (.refl _) (fun j l' h => by simp at h)
      · have hj : id ≠ j := fun e => by
          subst e; rw [List.getElem?_set_self hlt] at h1; cases h1; exact h2 rfl
        rw [hφ1, if_neg (fun hb => hj (ho.dis id j l l' b hl h3 hb h4))]
        exact allFrz_own h5
    · have hR := hr.2 i _ v hc hv
      cases hR with
      | ref _ _ _ _ _ k e esz u hh ho' hk' hv' =>
        rw [hl] at hh
        exact .ref 0 ver off len v k e esz u (by simpa using hh) ho' hk' hv'⟩
  refine (h.2 φ1 [l] w vs hr1 ho1).mono fun e w' ⟨v, v', φ', ι', s, h1, h2, h3, h4, h5⟩ => ?_
  obtain ⟨o1, s1, rfl, ⟨hvf, hsf⟩, hK⟩ := hk v s h5
  obtain ⟨l1, ι1, rfl⟩ : ∃ l1 ι1, ι' = l1 :: ι1 := by
    have hll := h4.len
    cases ι' with
    | nil => simp at hll
    | cons a b => exact ⟨a, b, rfl⟩
  have hll1 : l.le l1 := by
    obtain ⟨l', h6, h7⟩ := h3.l 0 l (by simp)
    simp only [List.getElem?_cons_zero, Option.some.injEq] at h6
    subst h6; exact h7
  have hkeep : ∀ b, b < w.heap.size → l.block ≠ some b → w'.heap[b]? = w.heap[b]? := fun b hb hn => h3.fr b hb (fun ⟨j, l', h6, h7⟩ => by
    cases j with
    | zero => simp only [List.getElem?_cons_zero, Option.some.injEq] at h6; subst h6; exact hn h7
    | succ j => simp at h6)
  have hnew : ∀ (j : Nat) (l' : KLoc) (b : Nat), (l1 :: ι1)[j]? = some l' → l'.block = some b → l.block = some b ∨ w.heap.size ≤ b := fun j l' b h6 h7 => by
    rcases h3.ow b ⟨j, l', h6, h7⟩ with ⟨i, l2, h8, h9⟩ | h8
    · cases i with
      | zero => simp only [List.getElem?_cons_zero, Option.some.injEq] at h8; subst h8; exact .inl h9
      | succ i => simp at h8
    · exact .inr h8
  have hnφ : ∀ (j : Nat) (l' : KLoc) (b : Nat), (l1 :: ι1)[j]? = some l' → l'.block = some b → φ b = none := fun j l' b h6 h7 => by
    rcases hnew j l' b h6 h7 with h8 | h8
    · exact hlφ b h8
    · cases hp : φ b with
      | none => rfl
      | some C =>
        obtain ⟨e, f, g⟩ := ho.fz b C hp
        have := heap_lt g; omega
  have hlen1 : s1.length = ι1.length := by have := h4.len; simpa using this.symm
  have hcase : ∀ (j : Nat) (l' : KLoc), (ι.set id l1 ++ ι1)[j]? = some l' → (j ≠ id ∧ j < ι.length ∧ ι[j]? = some l') ∨ (∃ i, (l1 :: ι1)[i]? = some l' ∧ j = sh1 id σ.length i) := fun j l' h6 => by
    rw [List.getElem?_append] at h6
    split at h6
    · rename_i hj
      rw [List.length_set] at hj
      by_cases e : id = j
      · subst e; rw [List.getElem?_set_self hltι] at h6; cases h6
        exact .inr ⟨0, rfl, rfl⟩
      · rw [List.getElem?_set_ne e] at h6; exact .inl ⟨fun e' => e e'.symm, hj, h6⟩
    · rename_i hj
      rw [List.length_set] at h6 hj
      exact .inr ⟨j - ι.length + 1, by simpa using h6, by show j = σ.length + (j - ι.length); rw [← ho.len]; omega⟩
  have hι2 : ∀ (i : Nat) (l' : KLoc), (l1 :: ι1)[i]? = some l' → (ι.set id l1 ++ ι1)[sh1 id σ.length i]? = some l' := fun i l' h6 => by
    cases i with
    | zero =>
      simp only [List.getElem?_cons_zero, Option.some.injEq] at h6; subst h6
      show (ι.set id l1 ++ ι1)[id]? = _
      rw [List.getElem?_append_left (by simpa using hltι), List.getElem?_set_self hltι]
    | succ i =>
      show (ι.set id l1 ++ ι1)[σ.length + i]? = _
      rw [List.getElem?_append_right (by rw [List.length_set, ho.len]; omega), List.length_set, ho.len, Nat.add_sub_cancel_left]
      simpa using h6
  have hLe : LLe ι (ι.set id l1 ++ ι1) := fun j l' h6 => by
    have hj := (List.getElem?_eq_some_iff.1 h6).1
    rw [List.getElem?_append_left (by simpa using hj)]
    by_cases e : id = j
    · subst e; rw [hl] at h6; cases h6
      exact ⟨l1, List.getElem?_set_self hltι, hll1⟩
    · exact ⟨l', by rw [List.getElem?_set_ne e]; exact h6, l'.le_refl⟩
  have hdisO : ∀ (j : Nat) (l' : KLoc) (i : Nat) (l2 : KLoc) (b : Nat), j ≠ id → ι[j]? = some l' → l'.block = some b → (l1 :: ι1)[i]? = some l2 → l2.block = some b → False := fun j l' i l2 b hj h6 h7 h8 h9 => by
    rcases hnew i l2 b h8 h9 with h10 | h10
    · exact hj (ho.dis j id l' l b h6 hl h7 h10)
    · have := ho.lt j l' b h6 h7; omega
  refine ⟨v.ren (sh1 id σ.length), v', φ, ι.set id l1 ++ ι1, _, h1, (hvf _ _ _ _ h2).ren hι2, ⟨.refl _, hLe.of_take _, fun b hb hn => hkeep b hb (fun hb2 => hn ⟨id, l, hl, hb2⟩), h3.sz, fun b ⟨j, l', h6, h7⟩ => ?_, h3.os, h3.tp, h3.out, fun _ _ h => .inl h⟩, ⟨?_, fun b C hb => ?_, fun j l' b h6 h7 => ?_, fun j j' l2 l3 b h6 h7 h8 h9 => ?_, fun j l' b h6 h7 => ?_, fun j o' l' h6 h7 => ?_⟩, hK⟩
  · rcases hcase j l' h6 with ⟨_, _, h8⟩ | ⟨i, h8, _⟩
    · exact .inl ⟨j, l', h8, h7⟩
    · rcases hnew i l' b h8 h7 with h9 | h9
      · exact .inl ⟨id, l, hl, h9⟩
      · exact .inr h9
  · simp [ho.len, hlen1]
  · obtain ⟨e, f, g⟩ := ho.fz b C hb
    exact ⟨e, f, (hkeep b (heap_lt g) (fun hb2 => by rw [hlφ b hb2] at hb; cases hb)).trans g⟩
  · rcases hcase j l' h6 with ⟨_, _, h8⟩ | ⟨i, h8, _⟩
    · exact ho.nf j l' b h8 h7
    · exact hnφ i l' b h8 h7
  · rcases hcase j l2 h6 with ⟨q1, _, q2⟩ | ⟨i, q2, q3⟩ <;> rcases hcase j' l3 h7 with ⟨q4, _, q5⟩ | ⟨i', q5, q6⟩
    · exact ho.dis j j' l2 l3 b q2 q5 h8 h9
    · exact (hdisO j l2 i' l3 b q1 q2 h8 q5 h9).elim
    · exact (hdisO j' l3 i l2 b q4 q5 h9 q2 h8).elim
    · have := h4.dis i i' l2 l3 b q2 q5 h8 h9
      rw [q3, q6, this]
  · rcases hcase j l' h6 with ⟨_, _, h8⟩ | ⟨i, h8, _⟩
    · exact Nat.lt_of_lt_of_le (ho.lt j l' b h8 h7) h3.sz
    · exact h4.lt i l' b h8 h7
  · rcases hcase j l' h7 with ⟨q1, q2, q3⟩ | ⟨i, q2, rfl⟩
    · rw [List.getElem?_append_left (by rw [List.length_set, ← ho.len]; exact q2), List.getElem?_set_ne (fun e => q1 e.symm)] at h6
      exact (ho.obj j o' l' h6 q3).keep (.refl _) hLe (fun b hb => hkeep b (ho.lt j l' b q3 hb) (fun hb2 => q1 (ho.dis j id l' l b q3 hl hb hb2)))
    · have hs : ∀ x, (o1 :: s1)[i]? = some x → ObjOK φ (ι.set id l1 ++ ι1) w' (x.ren (sh1 id σ.length)) l' := fun x hx =>
        ((h4.obj i x l' hx q2).free (hsf x (List.mem_of_getElem? hx))).ren hι2
      cases i with
      | zero =>
        have h6 : (σ.set id (o1.ren (sh1 id σ.length)) ++ s1.map (AObj.ren (sh1 id σ.length)))[id]? = some o' := h6
        rw [List.getElem?_append_left (by simpa using hlt), List.getElem?_set_self hlt] at h6
        cases h6
        exact hs o1 rfl
      | succ i =>
        have h6 : (σ.set id (o1.ren (sh1 id σ.length)) ++ s1.map (AObj.ren (sh1 id σ.length)))[σ.length + i]? = some o' := h6
        rw [List.getElem?_append_right (by rw [List.length_set]; omega), List.length_set, Nat.add_sub_cancel_left, List.getElem?_map, Option.map_eq_some_iff] at h6
        obtain ⟨x, hx, rfl⟩ := h6
        exact hs x (by simpa using hx)
/-- A pure call at a heap in which one object is owned otherwise. -/
theorem Imm.setDead {σ : Heap} {id : Nat} {c d : PV} (h : Imm (σ.set id .dead) c d) : Imm σ c d := by
  have key : ∀ (j : Nat) (o : AObj), (σ.set id .dead)[j]? = some o → o ≠ .dead → σ[j]? = some o := fun j o hj hn => by
    by_cases e : id = j
    · subst e
      rw [List.getElem?_set] at hj
      simp only [↓reduceIte] at hj
      split at hj
      · cases hj; exact absurd rfl hn
      · cases hj
    · rwa [List.getElem?_set_ne e] at hj
  induction h with
  | refl c h => exact .refl c h
  | agg cs ds hl hok _ ih => exact .agg cs ds hl hok ih
  | ptr id' off cs ds ho hl hok _ ih => exact .ptr id' off cs ds (key _ _ ho (by simp)) hl hok ih
  | ref id' ver off len e esz xs ds ho hn hl hs _ ih => exact .ref id' ver off len e esz xs ds (key _ _ ho (by simp)) hn hl hs ih
  | nils => exact .nils
  | tup cs ds hl _ ih => exact .tup cs ds hl ih
  | fn f a b a' b' hl hm _ _ ih ih' => exact .fn f a b a' b' hl hm ih ih'
end Go.Kv
