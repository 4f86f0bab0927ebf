/- Lists of operations, regions and code. -/
import Derived.Test.YtkdkdkkimieieaaK9
import Derived.LoopN
namespace Go.Kv
set_option linter.unusedVariables false
set_option linter.unusedSimpArgs false

def putD (d : Option Nat) (v : PV) (env : Env) : Env :=
  match d with
  | some k => (k, v) :: env
  | none => env

/-- Operations, one behind the other. -/
def vOps (P : Program) : List KO → (Exit → Env → Heap → Prop) → Env → Heap → Prop
  | [], Q, env, σ => Q .normal env σ
  | o :: r, Q, env, σ =>
    match o.g with
    | none => aOp P o.p env σ fun v σ' => vOps P r Q (putD o.d v env) σ'
    | some (t, want) =>
      match look env t with
      | .bool b => (b = want → aOp P o.p ((t, .bool want) :: env) σ fun v σ' => vOps P r Q (putD o.d v ((t, .bool want) :: env)) σ') ∧ (b = (!want) → vOps P r Q (putD o.d (.tup []) ((t, .bool (!want)) :: env)) σ)
      | .tup [] => vOps P r Q (putD o.d (.tup []) env) σ
      | _ => False
/-- What comes behind an operation, under a name. -/
def OpK (P : Program) (d : Option Nat) (r : List KO) (Q : Exit → Env → Heap → Prop) (env : Env) (v : PV) (σ : Heap) : Prop := vOps P r Q (putD d v env) σ

def trGuard (ops : Array Oper) (o : Oper) : Option (Option (Nat × Bool)) :=
  match o.guard with
  | none => some none
  | some (j, want) => ((ops[j]?).bind (·.dst)).map fun t => some (t, want)
def trOper (P : Program) (fz : List Nat) (N : Nat) (ops : Array Oper) (o : Oper) : Option KO := do
  let p ← trOp P fz o.dst o.op
  let g ← trGuard ops o
  if o.dst.all (· < N) then some ⟨o.dst, g, p⟩ else none

variable {P : Program} {φ : Frz} {ι : List KLoc} {σ : Heap} {w : World} {N n0 : Nat} {env : Env} {a : Act}

theorem EOK.putD (h : EOK N φ ι env a) {d : Option Nat} (hd : d.all (· < N) = true) {c : PV} {v : Value} (hv : Rel φ ι c v) : EOK N φ ι (Kv.putD d c env) (a.put d v) := by
  cases d with
  | none => exact h
  | some k => exact h.put (by simpa using hd) hv
theorem EOK.repl (h : EOK N φ ι env a) {t : Nat} {c : PV} (hc : Rel φ ι c (a.tmps.getD t Go.undef)) : EOK N φ ι ((t, c) :: env) a := by
  refine ⟨h.sz, h.df, fun s => ?_⟩
  simp only [look_cons]
  split
  · rename_i e; subst e; exact hc
  · exact h.rel s
theorem size_mono {φ' : Frz} {ι' : List KLoc} {σ' : Heap} {w' : World} {n : Nat} (h : HOK φ ι σ w) (h' : HOK φ' ι' σ' w') (ht : Tr σ.length φ ι w φ' ι' w') (hn : n ≤ σ.length) : n ≤ σ'.length := by
  rcases Nat.eq_zero_or_pos σ.length with h0 | h0
  · omega
  · have hlt : σ.length - 1 < ι.length := by rw [h.len]; omega
    obtain ⟨l', h1, _⟩ := ht.l (σ.length - 1) ι[σ.length - 1] (by rw [List.getElem?_take, if_pos (by omega)]; exact List.getElem?_eq_getElem hlt)
    have := (List.getElem?_eq_some_iff.1 h1).1
    rw [h'.len] at this; omega
theorem Tr.le {φ' : Frz} {ι' : List KLoc} {w' : World} (h : HOK φ ι σ w) (ht : Tr σ.length φ ι w φ' ι' w') : LLe ι ι' := by
  have := ht.l
  rwa [List.take_of_length_le (by rw [h.len]; exact Nat.le_refl _)] at this

/-- What a guard sees. -/
theorem guard_bool {ops : Array Oper} {o : Oper} {t : Nat} {want b : Bool} (h2 : EOK N φ ι env a) (hg : trGuard ops o = some (some (t, want))) (ht : t < N) (hl : look env t = .bool b) : Region.wanted o (yielded ops a.tmps) = (b == want) := by
  unfold trGuard at hg
  cases hog : o.guard with
  | none => simp [hog] at hg
  | some g =>
    obtain ⟨j, wt⟩ := g
    simp only [hog, Option.map_eq_some_iff, Option.some.injEq, Prod.mk.injEq] at hg
    obtain ⟨t', ht', rfl, rfl⟩ := hg
    have hr := h2.rel t'
    rw [hl] at hr
    have hv := hr.bool_inv
    have hlt : t' < a.tmps.size := by rw [h2.sz]; exact ht
    have : a.tmps[t']? = some (.bool b) := by
      rw [Array.getElem?_eq_getElem hlt]
      simp [Array.getD, hlt] at hv
      rw [hv]
    simp only [Region.wanted, hog, yielded, ht', Option.bind_some, this]
    cases b <;> cases wt <;> rfl
theorem guard_skip {ops : Array Oper} {o : Oper} {t : Nat} {want : Bool} (h2 : EOK N φ ι env a) (hg : trGuard ops o = some (some (t, want))) (hl : look env t = .tup []) : Region.wanted o (yielded ops a.tmps) = false := by
  unfold trGuard at hg
  cases hog : o.guard with
  | none => simp [hog] at hg
  | some g =>
    obtain ⟨j, wt⟩ := g
    simp only [hog, Option.map_eq_some_iff, Option.some.injEq, Prod.mk.injEq] at hg
    obtain ⟨t', ht', rfl, rfl⟩ := hg
    have hr := h2.rel t'
    rw [hl] at hr
    obtain ⟨vs, hv, hR⟩ := hr.tup_inv
    have h0 : vs = [] := List.eq_nil_of_length_eq_zero hR.1.symm
    subst h0
    simp only [Region.wanted, hog, yielded, ht', Option.bind_some]
    cases hq : a.tmps[t']? with
    | none => rfl
    | some q =>
      have : a.tmps.getD t' Go.undef = q := by simp [Array.getD_eq_getD_getElem?, hq]
      rw [this] at hv; subst hv; rfl
theorem guard_none {ops : Array Oper} {o : Oper} (hg : trGuard ops o = some none) : o.guard = none := by
  unfold trGuard at hg
  cases hog : o.guard with
  | none => rfl
  | some g =>
    obtain ⟨j, wt⟩ := g
    simp only [hog, Option.map_eq_some_iff] at hg
    obtain ⟨_, _, h⟩ := hg
    cases h
theorem tup0_rel (φ : Frz) (ι : List KLoc) : Rel φ ι (.tup []) Go.undef := .tup [] [] rfl (by simp)

theorem trOper_dst {fz : List Nat} {ops : Array Oper} {o : Oper} {k : KO} (h : trOper P fz N ops o = some k) : ∃ p g, trOp P fz o.dst o.op = some p ∧ trGuard ops o = some g ∧ o.dst.all (· < N) = true ∧ k = ⟨o.dst, g, p⟩ := by
  unfold trOper at h
  simp only [Option.bind_eq_bind, Option.bind_eq_some_iff] at h
  obtain ⟨p, hp, g, hg, h⟩ := h
  split at h
  · rename_i hd
    simp only [Option.some.injEq] at h
    exact ⟨p, g, hp, hg, hd, h.symm⟩
  · cases h

/-- All slots that guards look at lie in the frame. -/
def guardsOK (N : Nat) (kos : List KO) : Bool := kos.all fun k => match k.g with | some (t, _) => decide (t < N) | none => true

theorem vOps_sound {fz : List Nat} {ops : Array Oper} {Q : Exit → Env → Heap → Prop} {φ0 : Frz} {ι0 : List KLoc} {w0 : World} : ∀ (l : List Oper) (i : Nat) (kos : List KO) (env : Env) (σ : Heap) (φ : Frz) (ι : List KLoc) (a : Act) (w : World),
    (∀ j, l[j]? = ops[i + j]?) → l.mapM (trOper P fz N ops) = some kos → guardsOK N kos = true → Tr n0 φ0 ι0 w0 φ ι w → HOK φ ι σ w → EOK N φ ι env a → n0 ≤ σ.length → vOps P kos Q env σ →
    wpOps P ops (AWR N n0 φ0 ι0 w0 Q) (List.range' i l.length) a w
  | [], i, kos, env, σ, φ, ι, a, w, hl, hm, hgs, ht, h1, h2, hn, hv => by
    simp at hm; subst hm
    exact ⟨φ, ι, env, σ, ht, h1, ⟨h2, hn⟩, hv⟩
  | o :: l, i, kos, env, σ, φ, ι, a, w, hl, hm, hgs, ht, h1, h2, hn, hv => by
    simp only [List.mapM_cons, Option.bind_eq_bind, Option.pure_def, Option.bind_eq_some_iff, Option.some.injEq] at hm
    obtain ⟨k, hk, ks, hks, rfl⟩ := hm
    obtain ⟨p, g, hp, hg, hd, rfl⟩ := trOper_dst hk
    have hgs' : guardsOK N ks = true := by simp [guardsOK] at hgs ⊢; exact hgs.2
    have h0 : ops[i]? = some o := by have := hl 0; simpa using this.symm
    have hl' : ∀ j, l[j]? = ops[i + 1 + j]? := fun j => by have := hl (j + 1); simpa [Nat.add_assoc, Nat.add_comm 1 j] using this
    simp only [List.length_cons, List.range'_succ]
    have run : ∀ (env1 : Env), EOK N φ ι env1 a → aOp P p env1 σ (fun v σ' => vOps P ks Q (putD o.dst v env1) σ') → Region.wanted o (yielded ops a.tmps) = true → wpOps P ops (AWR N n0 φ0 ι0 w0 Q) (i :: List.range' (i + 1) l.length) a w := by
      intro env1 he1 ha hw
      unfold wpOps
      simp only [h0, hw, if_true]
      refine .inl (op_sound (N := N) hp ha h1 he1 fun v' v φ' ι' σ' w' hr htr h1' hk' => ?_)
      have hle := Tr.le h1 htr
      exact vOps_sound l (i + 1) ks _ σ' φ' ι' _ w' hl' hks hgs' (ht.trans (htr.weaken hn)) h1' ((he1.mono htr.f hle).putD hd hr) (size_mono h1 h1' htr hn) hk'
    have skip : ∀ (env1 : Env), EOK N φ ι env1 a → vOps P ks Q (putD o.dst (.tup []) env1) σ → Region.wanted o (yielded ops a.tmps) = false → wpOps P ops (AWR N n0 φ0 ι0 w0 Q) (i :: List.range' (i + 1) l.length) a w := by
      intro env1 he1 hv1 hw
      unfold wpOps
      simp only [h0, hw, Bool.false_eq_true, if_false]
      exact vOps_sound l (i + 1) ks _ σ φ ι _ w hl' hks hgs' ht h1 (he1.putD hd (tup0_rel φ ι)) hn hv1
    unfold vOps at hv
    cases g with
    | none =>
      simp only at hv
      refine run env h2 hv ?_
      simp [Region.wanted, guard_none hg]
    | some g =>
      obtain ⟨t, want⟩ := g
      have htN : t < N := by simp [guardsOK] at hgs; exact hgs.1
      simp only at hv
      split at hv
      · rename_i b hlk
        have hw := guard_bool h2 hg htN hlk
        have hrb := h2.rel t
        rw [hlk] at hrb
        by_cases hb : b = want
        · have := run ((t, .bool want) :: env) (h2.repl (by rw [← hb]; exact hrb)) (hv.1 hb) (by rw [hw, hb]; cases want <;> rfl)
          exact this
        · have hb' : b = (!want) := by cases b <;> cases want <;> simp_all
          exact skip ((t, .bool (!want)) :: env) (h2.repl (by rw [← hb']; exact hrb)) (hv.2 hb') (by rw [hw, hb']; cases want <;> rfl)
      · rename_i hlk
        exact skip env h2 hv (guard_skip h2 hg hlk)
      · exact hv.elim

theorem AW_region {id : Nat} {fz : List Nat} {ops : Array Oper} {kos : List KO} {Q : Exit → Env → Heap → Prop} (hm : ops.toList.mapM (trOper P fz N ops) = some kos) (hg : guardsOK N kos = true) (hv : vOps P kos Q env σ) : AW P N n0 (.region id ops false) Q env σ := fun φ ι a w h1 h2 => by
  refine wp_region ?_
  have := vOps_sound (Q := Q) (φ0 := φ) (ι0 := ι) (w0 := w) (n0 := n0) ops.toList 0 kos env σ φ ι a w (fun j => by simp) hm hg (.refl _ _ _ _) h1 h2.1 h2.2 hv
  simpa [List.range_eq_range'] using this

/-! ### Loops: the state behind which a round begins -/
def LoopWp (P : Program) (c : Code) (Q : Exit → Act → World → Prop) (a : Act) (w : World) : Prop :=
  ∀ (b : Frame) (k : List Item) (cs : List Frame), ∃ e a' w', Q e a' w' ∧ Arrives P (lone (b.at a (.code c :: .inLoop c :: k)) cs w) b k cs e a' w'
theorem LoopWp.loop {c : Code} {Q : Exit → Act → World → Prop} (h : LoopWp P c Q a w) : (Code.loop c).wp P Q a w := fun b k cs =>
  let ⟨e, a', w', hq, harr⟩ := h b k cs
  ⟨e, a', w', hq, .of_steps (.one step_loop) harr⟩
theorem LoopWp.round {c : Code} {Q : Exit → Act → World → Prop} (h : c.wp P (Exit.then (LoopWp P c Q) Q) a w) : LoopWp P c Q a w := fun b k cs => by
  obtain ⟨e, a₁, w₁, hq, harr⟩ := h b (.inLoop c :: k) cs
  cases e with
  | normal =>
    obtain ⟨e₂, a₂, w₂, hq₂, harr₂⟩ := hq b k cs
    exact ⟨e₂, a₂, w₂, hq₂, .of_steps (Steps.trans harr (.one step_inLoop)) harr₂⟩
  | exit id => exact ⟨_, a₁, w₁, hq, .pass (x := .inLoop c) rfl (fun _ _ => .inl (by simp)) harr⟩
  | goto l => exact ⟨_, a₁, w₁, hq, .pass (x := .inLoop c) rfl (fun _ _ => .inl (by simp)) harr⟩
  | ret => exact ⟨_, a₁, w₁, hq, .pass (x := .inLoop c) rfl (fun _ _ => .inl (by simp)) harr⟩
  | panic ch => exact ⟨_, a₁, w₁, hq, .pass (x := .inLoop c) rfl (fun _ _ => .inl (by simp)) harr⟩
  | outgrown => exact ⟨_, a₁, w₁, hq, .pass (x := .inLoop c) rfl (fun _ _ => .inl (by simp)) harr⟩
theorem LoopWp.mono {c : Code} {Q Q' : Exit → Act → World → Prop} (h : LoopWp P c Q a w) (hq : ∀ e a w, Q e a w → Q' e a w) : LoopWp P c Q' a w := fun b k cs =>
  let ⟨e, a', w', q, harr⟩ := h b k cs
  ⟨e, a', w', hq _ _ _ q, harr⟩

def AL (P : Program) (N n0 : Nat) (c : Code) (Q : Exit → Env → Heap → Prop) (env : Env) (σ : Heap) : Prop :=
  ∀ φ ι a w, HOK φ ι σ w → EOK N φ ι env a ∧ n0 ≤ σ.length → LoopWp P c (AWR N n0 φ ι w Q) a w
def LoopK (P : Program) (N n0 : Nat) (c : Code) (Q : Exit → Env → Heap → Prop) : Exit → Env → Heap → Prop
  | .normal, env, σ => AL P N n0 c Q env σ
  | e, env, σ => Q e env σ
theorem AW_loop {c : Code} {Q : Exit → Env → Heap → Prop} (h : AL P N n0 c Q env σ) : AW P N n0 (.loop c) Q env σ := fun φ ι a w h1 h2 => (h φ ι a w h1 h2).loop
theorem AL_round {c : Code} {Q : Exit → Env → Heap → Prop} (h : AW P N n0 c (LoopK P N n0 c Q) env σ) : AL P N n0 c Q env σ := fun φ ι a w h1 h2 => by
  refine LoopWp.round (Code.wp_mono (fun e a' w' q => ?_) (h φ ι a w h1 h2))
  obtain ⟨φ', ι', env', σ', g1, g2, g3, g4⟩ := q
  cases e
  case normal => exact (g4 φ' ι' a' w' g2 g3).mono fun _ _ _ ⟨φ2, ι2, env2, σ2, q1, q2, q3, q4⟩ => ⟨φ2, ι2, env2, σ2, g1.trans q1, q2, q3, q4⟩
  all_goals exact ⟨φ', ι', env', σ', g1, g2, g3, g4⟩

/-! ### Forgetting -/
def keep (live : List Nat) (env : Env) : Env := live.map fun t => (t, look env t)
theorem look_keep (env : Env) (t : Nat) : ∀ live : List Nat, look (keep live env) t = if t ∈ live then look env t else .undef
  | [] => rfl
  | s :: live => by
    simp only [keep, List.map_cons, look_cons]
    by_cases e : s = t
    · subst e; simp
    · rw [if_neg e]
      have := look_keep env t live
      simp only [keep] at this
      rw [this]
      have : t ≠ s := fun h => e h.symm
      simp [this]
theorem EOK.keep (h : EOK N φ ι env a) (live : List Nat) : EOK N φ ι (Kv.keep live env) a := ⟨h.sz, h.df, fun t => by
  rw [look_keep]
  split
  · exact h.rel t
  · exact .undef _⟩

def Env.upto (n : Nat) (env : Env) : Prop := ∀ x ∈ env, PV.upto n x.2
def AObj.upto (n : Nat) : AObj → Prop
  | .dead => True
  | .box cs => ∀ c ∈ cs, PV.upto n c
  | .arr _ _ _ xs => ∀ c ∈ flat xs, PV.upto n c
def heapUpto (n : Nat) (σ : Heap) : Prop := ∀ o ∈ σ.take n, AObj.upto n o
theorem look_upto {n : Nat} : ∀ {env : Env}, env.upto n → ∀ t, PV.upto n (look env t)
  | [], _, t => fun φ ι v h => .undef v
  | (k, c) :: env, h, t => by
    simp only [look_cons]
    split
    · exact h (k, c) (by simp)
    · exact look_upto (fun x hx => h x (by simp [hx])) t
theorem RelL.upto {n : Nat} {cs : List PV} {vs : List Value} (h : RelL φ ι cs vs) (hb : ∀ c ∈ cs, PV.upto n c) : RelL φ (ι.take n) cs vs := ⟨h.1, fun i c v hc hv => hb c (List.mem_of_getElem? hc) _ _ _ (h.2 i c v hc hv)⟩
theorem take_get {α : Type} {l : List α} {n i : Nat} {x : α} (h : (l.take n)[i]? = some x) : l[i]? = some x := by
  rw [List.getElem?_take] at h
  split at h
  · exact h
  · cases h
theorem HOK.trunc (h : HOK φ ι σ w) (n : Nat) (hb : heapUpto n σ) : HOK φ (ι.take n) (σ.take n) w where
  len := by simp [h.len]
  fz := h.fz
  nf := fun id l b h1 h2 => h.nf id l b (take_get h1) h2
  dis := fun id id' l l' b h1 h2 h3 h4 => h.dis id id' l l' b (take_get h1) (take_get h2) h3 h4
  lt := fun id l b h1 h2 => h.lt id l b (take_get h1) h2
  obj := fun id o l h1 h2 => by
    have hm := List.mem_of_getElem? h1
    have hbo := hb o hm
    rw [List.getElem?_take] at h1 h2
    split at h1
    · rw [if_pos (by assumption)] at h2
      have := h.obj id o l h1 h2
      cases o with
      | dead => cases l <;> simp [ObjOK]
      | box cs =>
        cases l <;> simp only [ObjOK] at this ⊢
        obtain ⟨C, e, g1, g2, g3⟩ := this
        exact ⟨C, e, g1, g2.upto hbo, g3⟩
      | arr ver e es xs =>
        cases l <;> simp only [ObjOK] at this ⊢
        obtain ⟨g1, g2, g3, g4, ys, g5, g6, g7⟩ := this
        exact ⟨g1, g2, g3, g4, ys, g5, g6.upto hbo, g7⟩
    · cases h1
theorem Tr.trunc (h : HOK φ ι σ w) (n : Nat) (hn : n0 ≤ n) : Tr n0 φ ι w φ (ι.take n) w where
  f := .refl _
  l := fun id l x => by
    refine ⟨l, ?_, l.le_refl⟩
    rw [List.getElem?_take] at x ⊢
    split at x
    · rw [if_pos (by omega)]; exact x
    · cases x
  fr := fun _ _ _ => rfl
  sz := Nat.le_refl _
  ow := fun b ⟨id, l, h1, h2⟩ => .inl ⟨id, l, take_get h1, h2⟩
  os := rfl
  tp := rfl
  out := rfl
  fn := fun _ _ h => .inl h

/-- Slots and objects that are of no more use are let go. -/
theorem AL_keep {c : Code} {Q : Exit → Env → Heap → Prop} (live : List Nat) (h : AL P N n0 c Q (keep live env) σ) : AL P N n0 c Q env σ := fun φ ι a w h1 h2 => h φ ι a w h1 ⟨h2.1.keep live, h2.2⟩
theorem AL_drop {c : Code} {Q : Exit → Env → Heap → Prop} (n : Nat) (hn : n0 ≤ n) (hle : n ≤ σ.length) (he : env.upto n) (hb : heapUpto n σ) (h : AL P N n0 c Q env (σ.take n)) : AL P N n0 c Q env σ := fun φ ι a w h1 h2 => by
  have := h φ (ι.take n) a w (h1.trunc n hb) ⟨⟨h2.1.sz, h2.1.df, fun t => look_upto he t _ _ _ (h2.1.rel t)⟩, by simp; omega⟩
  refine this.mono fun e a' w' ⟨φ', ι', env', σ', g1, g2, g3, g4⟩ => ⟨φ', ι', env', σ', (Tr.trunc (n0 := n0) h1 n hn).trans g1, g2, g3, g4⟩
theorem AW_keep {c : Code} {Q : Exit → Env → Heap → Prop} (live : List Nat) (h : AW P N n0 c Q (keep live env) σ) : AW P N n0 c Q env σ := fun φ ι a w h1 h2 => h φ ι a w h1 ⟨h2.1.keep live, h2.2⟩
theorem AW_drop {c : Code} {Q : Exit → Env → Heap → Prop} (n : Nat) (hn : n0 ≤ n) (hle : n ≤ σ.length) (he : env.upto n) (hb : heapUpto n σ) (h : AW P N n0 c Q env (σ.take n)) : AW P N n0 c Q env σ := fun φ ι a w h1 h2 => by
  have := h φ (ι.take n) a w (h1.trunc n hb) ⟨⟨h2.1.sz, h2.1.df, fun t => look_upto he t _ _ _ (h2.1.rel t)⟩, by simp; omega⟩
  exact Code.wp_mono (fun e a' w' ⟨φ', ι', env', σ', g1, g2, g3, g4⟩ => ⟨φ', ι', env', σ', (Tr.trunc (n0 := n0) h1 n hn).trans g1, g2, g3, g4⟩) this

end Go.Kv
