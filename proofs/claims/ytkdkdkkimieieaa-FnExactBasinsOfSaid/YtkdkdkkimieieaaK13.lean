/- Regions that draw their order: what only reads is taken first, calls that leave the heap alone come one by one, what writes comes last. -/
import Derived.Test.YtkdkdkkimieieaaK12
import Derived.OrdersHeld
namespace Go.Kv
set_option linter.unusedVariables false
set_option linter.unusedSimpArgs false

section
variable {P : Program} {ops : Array Oper} {Q : Exit → Act → World → Prop} {md : Region.Mode} {S : World → Prop} {B : Nat → Bool}

/-- Whatever order is picked; behind every operation that is none of the late ones 'B', S holds. -/
def wpH (P : Program) (md : Region.Mode) (ops : Array Oper) (Q : Exit → Act → World → Prop) (B : Nat → Bool) (S : World → Prop) : Nat → Array Bool → Act → World → Prop
  | 0, listed, a, w => Region.ready md ops listed = [] ∧ Q .normal a w
  | n + 1, listed, a, w => (Region.ready md ops listed = [] → Q .normal a w) ∧
      ∀ i ∈ Region.ready md ops listed, wpOp P ops Q i (fun a' w' => (B i = false → S w') ∧ wpH P md ops Q B S n (listed.setIfInBounds i true) a' w') a w
theorem wpH_any : ∀ (n : Nat) (listed : Array Bool) (a : Act) (w : World), wpH P md ops Q B S n listed a w → wpAny P md ops Q n listed a w
  | 0, _, _, _, h => h
  | n + 1, _, _, _, h => ⟨h.1, fun i hi => wpOp_mono (fun a' w' q => wpH_any n _ a' w' q.2) (h.2 i hi)⟩

/-- What has come up has come up with all that it waits for. -/
def Closed (md : Region.Mode) (ops : Array Oper) (listed : Array Bool) : Prop :=
  ∀ (j : Nat) (o : Oper), ops[j]? = some o → listed.getD j false = true → ∀ e ∈ o.after, Region.binds md e = true → listed.getD e.on false = true
theorem Closed.set {listed : Array Bool} (h : Closed md ops listed) {j : Nat} (hj : j ∈ Region.ready md ops listed) : Closed md ops (listed.setIfInBounds j true) := fun k o ho hk e he hb => by
  by_cases hjk : j = k
  · subst hjk
    obtain ⟨_, o', ho', hall⟩ := mem_ready.1 hj
    rw [ho] at ho'; cases ho'
    exact getD_set_true (hall e he hb)
  · rw [getD_set_ne false hjk] at hk
    exact getD_set_true (h k o ho hk e he hb)
/-- j waits for i. -/
inductive Anc (md : Region.Mode) (ops : Array Oper) (i : Nat) : Nat → Prop
  | one (j : Nat) (o : Oper) (e : Edge) (ho : ops[j]? = some o) (he : e ∈ o.after) (hb : Region.binds md e = true) (hi : e.on = i) : Anc md ops i j
  | more (j : Nat) (o : Oper) (e : Edge) (ho : ops[j]? = some o) (he : e ∈ o.after) (hb : Region.binds md e = true) (h : Anc md ops i e.on) : Anc md ops i j
theorem Anc.listed {listed : Array Bool} (hc : Closed md ops listed) {i j : Nat} (h : Anc md ops i j) : (∀ o, ops[j]? = some o → ∀ e ∈ o.after, Region.binds md e = true → listed.getD e.on false = true) → listed.getD i false = true := by
  induction h with
  | one j o e ho he hb hi => intro q; exact hi ▸ q o ho e he hb
  | more j o e ho he hb h ih => intro q; exact ih fun o' ho' e' he' hb' => hc e.on o' ho' (q o ho e he hb) e' he' hb'

theorem wpH_first {i : Nat} {oi : Oper} {v : Value} (hi : ops[i]? = some oi) (hsel : ∀ (j : Nat) (o : Oper) cs b, ops[j]? = some o → o.op ≠ .select cs b)
    (hQ : ∀ c a w, Q (.panic c) (a.put oi.dst v) w → Q (.panic c) a w) (hBi : B i = false) (hB : ∀ b, B b = true → Anc md ops i b) :
    ∀ (n : Nat) (listed : Array Bool) (a : Act) (w : World), Closed md ops listed →
      (∀ j oj, ops[j]? = some oj → j ≠ i → listed.getD j true = false → (∀ e ∈ oj.after, Region.binds md e = true → e.on ≠ i) → oi.apart ops oj = true) →
      i ∈ Region.ready md ops listed → YieldsIf P ops S oi v a → S w →
      wpH P md ops Q B S n (listed.setIfInBounds i true) (a.put oi.dst v) w → wpH P md ops Q B S (n + 1) listed a w := by
  intro n
  induction n with
  | zero =>
    intro listed a w hc hfree hr hy hS H
    refine ⟨fun h => (by rw [h] at hr; cases hr), fun j hj => ?_⟩
    by_cases hji : j = i
    · subst hji; exact hy.wpOp hi hS ⟨fun _ => hS, H⟩
    · have := ready_mono hj hji
      rw [H.1] at this
      cases this
  | succ n ih =>
    intro listed a w hc hfree hr hy hS H
    refine ⟨fun h => (by rw [h] at hr; cases hr), fun j hj => ?_⟩
    by_cases hji : j = i
    · subst hji; exact hy.wpOp hi hS ⟨fun _ => hS, H⟩
    · have h1 := H.2 j (ready_mono hj hji)
      obtain ⟨hjun, oj, hoj, hall⟩ := mem_ready.1 hj
      have hiun : listed.getD i false = false := by
        have h0 := (mem_ready.1 hr).1
        rcases Nat.lt_or_ge i listed.size with h' | h'
        · simp [h'] at h0 ⊢; exact h0
        · simp [Array.getElem?_eq_none h'] at h0
      have hnot : ∀ e ∈ oj.after, Region.binds md e = true → e.on ≠ i := fun e he hb heq => by
        have h1 := hall e he hb
        rw [heq, hiun] at h1; cases h1
      have hBj : B j = false := by
        cases hb : B j with
        | false => rfl
        | true =>
          have := (hB j hb).listed hc fun o ho e he hb => by
            rw [hoj] at ho; cases ho
            exact hall e he hb
          rw [hiun] at this; cases this
      have h2 := wpOp_putIf hoj (hfree j oj hoj hji hjun hnot) (fun cs b => hsel i oi cs b hi) (fun cs b => hsel j oj cs b hoj) hQ hy h1
      refine wpOp_mono (fun a' w' h3 => ⟨fun _ => h3.2.1 hBj, ih (listed.setIfInBounds j true) a' w' (hc.set hj) (fun k ok hk hki hun hno => ?_) (ready_mono hr (Ne.symm hji)) h3.1 (h3.2.1 hBj) ?_⟩) h2
      · refine hfree k ok hk hki ?_ hno
        by_cases hjk : j = k
        · subst hjk; exact hjun
        · rw [getD_set_ne true hjk] at hun; exact hun
      · rw [Array.setIfInBounds_comm _ _ hji]
        exact h3.2.2
theorem wpH_one {i n : Nat} {listed : Array Bool} {a : Act} {w : World} (hr : Region.ready md ops listed = [i])
    (h : wpOp P ops Q i (fun a' w' => (B i = false → S w') ∧ wpH P md ops Q B S n (listed.setIfInBounds i true) a' w') a w) : wpH P md ops Q B S (n + 1) listed a w :=
  ⟨fun h0 => (by rw [hr] at h0; cases h0), fun j hj => (by rw [hr] at hj; simp at hj; subst hj; exact h)⟩
theorem wpH_done {listed : Array Bool} {a : Act} {w : World} (hr : Region.ready md ops listed = []) (h : Q .normal a w) : ∀ n, wpH P md ops Q B S n listed a w
  | 0 => ⟨hr, h⟩
  | _ + 1 => ⟨fun _ => h, by rw [hr]; simp⟩
end

/-! ### Who waits for whom, as a mask of bits -/
def ancO (md : Region.Mode) (m : List Nat) (acc : Nat) : List Edge → Nat
  | [] => acc
  | e :: es => ancO md m (if Region.binds md e = true then acc ||| (1 <<< e.on) ||| m.getD e.on 0 else acc) es
def ancF (md : Region.Mode) : List Oper → List Nat → List Nat
  | [], m => m
  | o :: r, m => ancF md r (m ++ [ancO md m 0 o.after.toList])
theorem ancO_spec {md : Region.Mode} {m : List Nat} {i : Nat} : ∀ {es : List Edge} {acc : Nat}, (ancO md m acc es).testBit i = true → acc.testBit i = true ∨ ∃ e ∈ es, Region.binds md e = true ∧ (e.on = i ∨ (m.getD e.on 0).testBit i = true)
  | [], acc, h => .inl h
  | e :: es, acc, h => by
    simp only [ancO] at h
    rcases ancO_spec (es := es) h with h | ⟨e', he, h⟩
    · split at h
      · rename_i hb
        rw [Nat.testBit_or, Nat.testBit_or, Bool.or_eq_true, Bool.or_eq_true] at h
        rcases h with (h | h) | h
        · exact .inl h
        · refine .inr ⟨e, by simp, hb, .inl ?_⟩
          rw [Nat.one_shiftLeft, Nat.testBit_two_pow] at h
          simpa using h
        · exact .inr ⟨e, by simp, hb, .inr h⟩
      · exact .inl h
    · exact .inr ⟨e', by simp [he], h⟩
theorem ancF_spec {md : Region.Mode} {ops : Array Oper} : ∀ (l : List Oper) (m : List Nat), (∀ j, l[j]? = ops[m.length + j]?) → (∀ j i : Nat, (m.getD j 0).testBit i = true → Anc md ops i j) → ∀ j i : Nat, ((ancF md l m).getD j 0).testBit i = true → Anc md ops i j
  | [], m, _, hm => hm
  | o :: r, m, hl, hm => by
    refine ancF_spec r _ (fun j => ?_) (fun j i h => ?_)
    · have := hl (j + 1)
      simp only [List.getElem?_cons_succ] at this
      rw [this]; congr 1; simp; omega
    · have ho : ops[m.length]? = some o := by have := hl 0; simpa using this.symm
      rw [List.getD_eq_getElem?_getD, List.getElem?_append] at h
      split at h
      · exact hm j i (by rw [List.getD_eq_getElem?_getD]; exact h)
      · rename_i hlt
        by_cases hj : j = m.length
        · subst hj
          simp only [Nat.sub_self, List.getElem?_cons_zero, Option.getD_some] at h
          rcases ancO_spec h with h | ⟨e, he, hb, h⟩
          · simp at h
          · rcases h with h | h
            · exact .one _ o e ho (by simpa using he) hb h
            · exact .more _ o e ho (by simpa using he) hb (hm _ _ h)
        · have : ([ancO md m 0 o.after.toList] : List Nat)[j - m.length]? = none := by
            rw [List.getElem?_eq_none_iff]; simp; omega
          simp [this] at h

/-! ### The plan -/
def planA (ops : Array Oper) (kos : List KO) (md : Region.Mode) : Nat → Array Bool → List Nat
  | 0, _ => []
  | n + 1, listed =>
    let rs := Region.ready md ops listed
    match rs.find? (fun i => (match kos[i]? with | some k => quietP k.p | none => false) && Region.free md ops listed i) with
    | some i => i :: planA ops kos md n (listed.setIfInBounds i true)
    | none => match rs with
      | [i] => (match kos[i]? with | some ⟨_, _, .call _ _⟩ => i :: planA ops kos md n (listed.setIfInBounds i true) | _ => [])
      | _ => []
def isBsl (ops : Array Oper) (i : Nat) : Bool := match ops[i]? with | some o => (match o.op with | .buildSlice _ _ _ => true | _ => false) | none => false
def planM (ops : Array Oper) (md : Region.Mode) : Nat → Array Bool → List Nat
  | 0, _ => []
  | n + 1, listed => match Region.ready md ops listed with
      | [i] => if isBsl ops i = true then i :: planM ops md n (listed.setIfInBounds i true) else []
      | _ => []
def planB (ops : Array Oper) (md : Region.Mode) : Nat → Array Bool → List Nat
  | 0, _ => []
  | n + 1, listed => match Region.ready md ops listed with
      | [i] => i :: planB ops md n (listed.setIfInBounds i true)
      | _ => []
def listUp (listed : Array Bool) (l : List Nat) : Array Bool := l.foldl (fun a i => a.setIfInBounds i true) listed
def okA (ops : Array Oper) (kos : List KO) (md : Region.Mode) (anc : List Nat) (late : List Nat) : List Nat → Array Bool → Bool
  | [], _ => true
  | i :: r, listed => (match kos[i]? with
      | none => false
      | some k => !late.contains i && (if quietP k.p = true then Region.free md ops listed i && (Region.ready md ops listed).contains i && late.all (fun b => (anc.getD b 0).testBit i)
        else (match k.p with | .call _ _ => decide (Region.ready md ops listed = [i]) | _ => false))) && okA ops kos md anc late r (listed.setIfInBounds i true)
def okB (ops : Array Oper) (md : Region.Mode) (n : Nat) : List Nat → Array Bool → Bool
  | [], listed => decide (Region.ready md ops listed = [])
  | i :: r, listed => decide (i < n) && decide (Region.ready md ops listed = [i]) && okB ops md n r (listed.setIfInBounds i true)
def okM (ops : Array Oper) (md : Region.Mode) (n : Nat) (late : List Nat) : List Nat → Array Bool → Bool
  | [], _ => true
  | i :: r, listed => decide (i < n) && !late.contains i && isBsl ops i && decide (Region.ready md ops listed = [i]) && okM ops md n late r (listed.setIfInBounds i true)
def early (k : KO) : KO := match k.p with | .call f args => { k with p := .pcall f args } | _ => k
def pickA (kos : List KO) : List Nat → List KO
  | [] => []
  | i :: r => (match kos[i]? with | some k => [early k] | none => []) ++ pickA kos r
def pickB (kos : List KO) : List Nat → List KO
  | [] => []
  | i :: r => (match kos[i]? with | some k => [k] | none => []) ++ pickB kos r
def trDraw (P : Program) (fz : List Nat) (N : Nat) (ops : Array Oper) : Option (List KO) := do
  let kos ← ops.toList.mapM (trOper P fz N ops)
  let no := Array.replicate ops.size false
  let l1 := planA ops kos .any ops.size no
  let lm := planM ops .any (ops.size - l1.length) (listUp no l1)
  let l2 := planB ops .any (ops.size - l1.length - lm.length) (listUp (listUp no l1) lm)
  if guardsOK N kos && Region.noSelect ops && decide (l1.length + (lm.length + l2.length) ≤ ops.size) && okA ops kos .any (ancF .any ops.toList []) (l2) l1 no && okM ops .any kos.length l2 lm (listUp no l1) && okB ops .any kos.length l2 (listUp (listUp no l1) lm) then some (pickA kos l1 ++ (pickB kos lm ++ pickB kos l2)) else none

/-! ### Soundness -/
variable {P : Program} {N n0 : Nat}

/-- The worlds in which everything that stood at the start still stands. -/
structure Old (w0 w : World) : Prop where
  same : Same w0 w
  sz : w0.heap.size ≤ w.heap.size
  os : w.os = w0.os
  tp : w.tape = w0.tape
  out : w.output = w0.output
theorem Old.refl (w : World) : Old w w := ⟨fun _ _ => rfl, Nat.le_refl _, rfl, rfl, rfl⟩
theorem Old.hok {φ : Frz} {ι : List KLoc} {σ : Heap} {w0 w : World} (h : Old w0 w) (ho : HOK φ ι σ w0) : HOK φ ι σ w := ho.keep (fun b hb => h.same b hb) h.sz
theorem Old.tr {φ : Frz} {ι : List KLoc} {w0 w : World} (h : Old w0 w) (n : Nat) : Tr n φ ι w0 φ ι w := Tr.keep (fun b hb => h.same b hb) h.sz h.os h.tp h.out
theorem Old.trans {w0 w w' : World} (h : Old w0 w) (h' : Old w w') : Old w0 w' :=
  ⟨fun b hb => (h'.same b (Nat.lt_of_lt_of_le hb h.sz)).trans (h.same b hb), Nat.le_trans h.sz h'.sz, h'.os.trans h.os, h'.tp.trans h.tp, h'.out.trans h.out⟩

def NP (Q : Exit → Env → Heap → Prop) (e : Exit) (env : Env) (σ : Heap) : Prop :=
  match e with
  | .panic _ => False
  | e => Q e env σ

theorem vOps_cons {k : KO} {r : List KO} {Q : Exit → Env → Heap → Prop} {env : Env} {σ : Heap} (h : vOps P (k :: r) Q env σ) :
    (k.g = none ∧ aOp P k.p env σ fun v σ' => vOps P r Q (putD k.d v env) σ') ∨
    (∃ t want b, k.g = some (t, want) ∧ look env t = .bool b ∧ (b = want → aOp P k.p ((t, .bool want) :: env) σ fun v σ' => vOps P r Q (putD k.d v ((t, .bool want) :: env)) σ') ∧ (b = (!want) → vOps P r Q (putD k.d (.tup []) ((t, .bool (!want)) :: env)) σ)) ∨
    (∃ t want, k.g = some (t, want) ∧ look env t = .tup [] ∧ vOps P r Q (putD k.d (.tup []) env) σ) := by
  unfold vOps at h
  split at h
  · rename_i hg; exact .inl ⟨hg, h⟩
  · rename_i t want hg
    split at h
    · rename_i b hl; exact .inr (.inl ⟨t, want, b, hg, hl, h⟩)
    · rename_i hl; exact .inr (.inr ⟨t, want, hg, hl, h⟩)
    · exact h.elim

/-- What an operation does: its guard, then it, under any rule 'R' for it that has come to be carried out. -/
theorem step_split {ops : Array Oper} {o : Oper} {k : KO} {r : List KO} {Q : Exit → Env → Heap → Prop} {env : Env} {σ : Heap} {φ : Frz} {ι : List KLoc} {a : Act}
    (hg : trGuard ops o = some k.g) (hgN : guardsOK N [k] = true) (h2 : EOK N φ ι env a) (hv : vOps P (k :: r) Q env σ) :
    (Region.wanted o (yielded ops a.tmps) = true ∧ ∃ env1, EOK N φ ι env1 a ∧ aOp P k.p env1 σ fun v σ' => vOps P r Q (putD k.d v env1) σ') ∨
    (Region.wanted o (yielded ops a.tmps) = false ∧ ∃ env1, EOK N φ ι env1 a ∧ vOps P r Q (putD k.d (.tup []) env1) σ) := by
  rcases vOps_cons hv with ⟨g, h⟩ | ⟨t, want, b, g, hl, ha, hb⟩ | ⟨t, want, g, hl, h⟩
  · rw [g] at hg
    exact .inl ⟨by simp [Region.wanted, guard_none hg], env, h2, h⟩
  · rw [g] at hg
    have htN : t < N := by simp [guardsOK, g] at hgN; exact hgN
    have hw := guard_bool h2 hg htN hl
    have hrb := h2.rel t
    rw [hl] at hrb
    by_cases e : b = want
    · exact .inl ⟨by rw [hw, e]; cases want <;> rfl, _, h2.repl (by rw [← e]; exact hrb), ha e⟩
    · have e' : b = (!want) := by cases b <;> cases want <;> simp_all
      exact .inr ⟨by rw [hw, e']; cases want <;> rfl, _, h2.repl (by rw [← e']; exact hrb), hb e'⟩
  · rw [g] at hg
    exact .inr ⟨guard_skip h2 hg hl, env, h2, h⟩

theorem pcall_sound {o : Oper} {f : Operand} {as : Array Operand} {ts : Array TypeId} (hop : o.op = .call { callee := .value f, args := as, argTypes := ts }) {x : KX} {ys : List KX} (hf : trX f = some x) (has : trXs as = some ys)
    {φ : Frz} {ι : List KLoc} {σ : Heap} {w : World} {env : Env} {a : Act} {K : PV → Prop} (ha : aPCall P (kx env x) (ys.map (kx env)) σ K) (h1 : HOK φ ι σ w) (h2 : EOK N φ ι env a) {next : Act → World → Prop} {Q : Exit → Act → World → Prop}
    (hn : ∀ v' v w', Rel φ ι v v' → Old w w' → K v → next (a.put o.dst v') w') : o.wp P a w next Q := by
  unfold aPCall at ha
  split at ha
  · rename_i fid first caps hk
    have hr := trX_rel h2 hf
    rw [hk] at hr
    obtain ⟨u, v, hev, hu, hv⟩ := hr.fn_inv
    have hargs := trXs_rel (φ := φ) (ι := ι) h2 has
    obtain ⟨args', him, ⟨⟨fn, hfn, hbody, hname⟩, hcall⟩⟩ := ha
    have hall := hcall (allFrz w) [] w (u ++ as.toList.map a.eval ++ v) (him.rel h1 ((hu.append hargs).append hv)) (allFrz_hok w)
    have hrun : (execOp a.eval o).run P w = .ok (.enter fid (u ++ as.toList.map a.eval ++ v).toArray) w := by
      unfold execOp
      have hb : fn.body.isNone = false := by cases hfb : fn.body <;> simp_all
      have harr : (u.toArray ++ Array.map a.eval as) ++ v.toArray = (u ++ as.toList.map a.eval ++ v).toArray := by
        apply Array.ext'; simp
      have hname' : ¬ fn.name = "runtime.NumGoroutine" := by simpa using hname
      simp only [hop, resolve, hev, Deferred.ofValue, Sem.run_bind, Sem.run_pure, Result.andThen_ok, invoke, callFunc, run_program, hfn, hname, hb, Bool.false_eq_true, if_false, harr]
    unfold Oper.wp
    rw [hrun]
    show Calls P fid _ w _
    refine hall.mono fun e w' ⟨c, v', φ', ι', σ', he, g1, g2, g3, ⟨g4, g5⟩, g6⟩ => ?_
    subst he; subst g5
    have hι : ι' = [] := List.eq_nil_of_length_eq_zero g3.len
    subst hι
    exact hn v' c w' ((g4 _ φ _ _ g1).mono (.refl _) (fun id l hl => by simp at hl)) ⟨fun b hb => g2.fr b hb (fun ⟨_, _, h, _⟩ => by simp at h), g2.sz, g2.os, g2.tp, g2.out⟩ g6
  · exact ha.elim

def isCall : KP → Bool
  | .call .. => true
  | _ => false
def NC (x : Option KP) : Prop := ∀ p, x = some p → isCall p = false
theorem NC.none : NC none := fun _ h => by cases h
theorem NC.some {p : KP} (h : isCall p = false) : NC (some p) := fun _ e => by cases e; exact h
theorem NC.bind {α : Type} {x : Option α} {f : α → Option KP} (h : ∀ a, NC (f a)) : NC (x >>= f) := fun p e => by
  cases x with
  | none => cases e
  | some a => exact h a p e
theorem NC.map {α : Type} {x : Option α} {f : α → KP} (h : ∀ a, isCall (f a) = false) : NC (x.map f) := fun p e => by
  cases x with
  | none => cases e
  | some a => cases e; exact h a
theorem trBuiltin_call (b : Builtin) (as : List Operand) (ts : List TypeId) : NC (trBuiltin P b as ts) := by
  unfold trBuiltin
  split
  all_goals repeat' (first | exact NC.none | exact NC.some rfl | exact NC.map fun _ => rfl | refine NC.bind fun _ => ?_ | split)
theorem trOp_call {fz : List Nat} {d : Option Nat} {op : Op} {f : KX} {args : List KX} (h : trOp P fz d op = some (.call f args)) : ∃ f' as ts, op = .call { callee := .value f', args := as, argTypes := ts } ∧ trX f' = some f ∧ trXs as = some args := by
  by_cases hc : ∃ c, op = .call c
  · obtain ⟨c, rfl⟩ := hc
    simp only [trOp] at h
    unfold trCall at h
    split at h
    · rename_i f' hcal
      simp only [Option.bind_eq_bind, Option.bind_eq_some_iff, Option.some.injEq, KP.call.injEq] at h
      obtain ⟨x, hx, ys, hys, rfl, rfl⟩ := h
      obtain ⟨cal, as, ts⟩ := c
      simp only at hcal hys; subst hcal
      exact ⟨f', as, ts, rfl, hx, hys⟩
    · have := trBuiltin_call _ _ _ _ h; cases this
    · cases h
  · exfalso
    have : NC (trOp P fz d op) := by
      unfold trOp
      split
      all_goals first | exact absurd ⟨_, rfl⟩ hc | (repeat' (first | exact NC.none | exact NC.some rfl | exact NC.map fun _ => rfl | refine NC.bind fun _ => ?_ | split))
    have := this _ h; cases this
theorem mapM_get' {α β : Type} {f : α → Option β} : ∀ (l : List α) (kos : List β), l.mapM f = some kos → ∀ (i : Nat) (k : β), kos[i]? = some k → ∃ o, l[i]? = some o ∧ f o = some k
  | [], kos, h, i, k, hk => by simp at h; subst h; simp at hk
  | a :: l, kos, h, i, k, hk => by
    simp only [List.mapM_cons, Option.bind_eq_bind, Option.pure_def, Option.bind_eq_some_iff, Option.some.injEq] at h
    obtain ⟨x, hx, xs, hxs, rfl⟩ := h
    cases i with
    | zero => simp at hk; subst hk; exact ⟨a, rfl, hx⟩
    | succ i => simpa using mapM_get' l xs hxs i k (by simpa using hk)
theorem mapM_get {fz : List Nat} {ops : Array Oper} {kos : List KO} (hm : ops.toList.mapM (trOper P fz N ops) = some kos) {i : Nat} {k : KO} (hk : kos[i]? = some k) : ∃ o, ops[i]? = some o ∧ trOper P fz N ops o = some k := by
  obtain ⟨o, h1, h2⟩ := mapM_get' _ _ hm i k hk
  exact ⟨o, by simpa using h1, h2⟩

section
variable {fz : List Nat} {ops : Array Oper} {kos : List KO} {φ0 : Frz} {ι0 : List KLoc} {w0 : World} {Q : Exit → Env → Heap → Prop} {B : Nat → Bool} {S : World → Prop}

theorem drawB (hm : ops.toList.mapM (trOper P fz N ops) = some kos) (hgs : guardsOK N kos = true) : ∀ (l : List Nat) (n : Nat) (listed : Array Bool) (env : Env) (σ : Heap) (φ : Frz) (ι : List KLoc) (a : Act) (w : World),
    l.length ≤ n → (∀ i ∈ l, B i = true) → okB ops .any kos.length l listed = true → Tr n0 φ0 ι0 w0 φ ι w → HOK φ ι σ w → EOK N φ ι env a → n0 ≤ σ.length → vOps P (pickB kos l) Q env σ →
    wpH P .any ops (AWR N n0 φ0 ι0 w0 (NP Q)) B S n listed a w
  | [], n, listed, env, σ, φ, ι, a, w, hn, hBl, hk, ht, h1, h2, hs, hv => by
    simp only [okB, decide_eq_true_eq] at hk
    exact wpH_done hk ⟨φ, ι, env, σ, ht, h1, ⟨h2, hs⟩, hv⟩ n
  | i :: l, n, listed, env, σ, φ, ι, a, w, hn, hBl, hk, ht, h1, h2, hs, hv => by
    obtain ⟨n, rfl⟩ : ∃ m, n = m + 1 := ⟨n - 1, by simp at hn; omega⟩
    simp only [okB, Bool.and_eq_true, decide_eq_true_eq] at hk
    obtain ⟨⟨hi, hr⟩, hk⟩ := hk
    have hki := List.getElem?_eq_getElem hi
    obtain ⟨o, ho, htr⟩ := mapM_get hm hki
    simp only [pickB, hki, List.singleton_append] at hv
    generalize kos[i] = k at *
    obtain ⟨p, g, hp, hg, hd, rfl⟩ := trOper_dst htr
    have hgk : guardsOK N [⟨o.dst, g, p⟩] = true := by
      have := List.mem_of_getElem? hki
      simp only [guardsOK, List.all_eq_true] at hgs ⊢
      intro x hx
      simp at hx; subst hx
      exact hgs _ this
    have next : ∀ (env' : Env) (σ' : Heap) (φ' : Frz) (ι' : List KLoc) (a' : Act) (w' : World), Tr n0 φ0 ι0 w0 φ' ι' w' → HOK φ' ι' σ' w' → EOK N φ' ι' env' a' → n0 ≤ σ'.length → vOps P (pickB kos l) Q env' σ' →
        (B i = false → S w') ∧ wpH P .any ops (AWR N n0 φ0 ι0 w0 (NP Q)) B S n (listed.setIfInBounds i true) a' w' := fun env' σ' φ' ι' a' w' q1 q2 q3 q4 q5 =>
      ⟨fun h => (by rw [hBl i (by simp)] at h; cases h), drawB hm hgs l n _ env' σ' φ' ι' a' w' (by simp at hn; omega) (fun j hj => hBl j (by simp [hj])) hk q1 q2 q3 q4 q5⟩
    refine wpH_one hr ?_
    unfold wpOp
    simp only [ho]
    rcases step_split hg hgk h2 hv with ⟨hw, env1, he1, ha⟩ | ⟨hw, env1, he1, hv1⟩
    · simp only [hw, if_true]
      refine .inl (op_sound (N := N) hp ha h1 he1 fun v' v φ' ι' σ' w' hr htr h1' hk' => ?_)
      have hle := Tr.le h1 htr
      exact next _ σ' φ' ι' _ w' (ht.trans (htr.weaken hs)) h1' ((he1.mono htr.f hle).putD hd hr) (size_mono h1 h1' htr hs) hk'
    · simp only [hw, Bool.false_eq_true, if_false]
      exact next _ σ φ ι _ w ht h1 (he1.putD hd (tup0_rel φ ι)) hs hv1

theorem bsl_old {fz : List Nat} {o : Oper} {t : TypeId} {n : Nat} {parts : Array (Nat × Operand)} (hop : o.op = .buildSlice t n parts) {d : Option Nat} {p : KP} (h : trOp P fz d o.op = some p) {K : PV → Heap → Prop} {env : Env} {σ : Heap} {φ : Frz} {ι : List KLoc} {w : World} {a : Act} (ha : aOp P p env σ K) (h2 : EOK N φ ι env a) :
    ∃ v w', (execOp a.eval o).run P w = .ok (.value v) w' ∧ Old w w' := by
  rw [hop] at h
  simp only [trOp, Option.bind_eq_bind, Option.bind_eq_some_iff] at h
  obtain ⟨dd, hd, h⟩ := h
  split at h
  · rename_i e
    simp only [Option.bind_eq_some_iff] at h
    obtain ⟨i, hi, z, hz, ps, hps, h⟩ := h
    split at h
    · cases h
    · rename_i hsmall
      simp only [Option.some.injEq] at h
      subst h
      obtain ⟨hok, hK⟩ := ha
      obtain ⟨C, g1, g2, g3, g4⟩ := bsl_cells (w := w) h2 hd hi hz hps hsmall hok
      refine ⟨.slice (some ⟨w.heap.size, 0, none⟩) n n, w.alloc (.cells C e), by simp [execOp, hop, g1], fun b hb => alloc_old w _ hb, by rw [alloc_size]; omega, rfl, rfl, rfl⟩
  · cases h

theorem drawM {l2 : List Nat} (hm : ops.toList.mapM (trOper P fz N ops) = some kos) (hgs : guardsOK N kos = true) {wS : World} : ∀ (l : List Nat) (n : Nat) (listed : Array Bool) (env : Env) (σ : Heap) (φ : Frz) (ι : List KLoc) (a : Act) (w : World),
    l.length + l2.length ≤ n → okM ops .any kos.length l2 l listed = true → okB ops .any kos.length l2 (listUp listed l) = true → Old wS w → Tr n0 φ0 ι0 w0 φ ι w → HOK φ ι σ w → EOK N φ ι env a → n0 ≤ σ.length → vOps P (pickB kos l ++ pickB kos l2) Q env σ →
    wpH P .any ops (AWR N n0 φ0 ι0 w0 (NP Q)) (fun i => l2.contains i) (Old wS) n listed a w
  | [], n, listed, env, σ, φ, ι, a, w, hn, hM, hB, hold, ht, h1, h2, hs, hv =>
    drawB hm hgs l2 n listed env σ φ ι a w (by simpa using hn) (fun i hi => by simpa using hi) (by simpa [listUp] using hB) ht h1 h2 hs (by simpa [pickB] using hv)
  | i :: l, n, listed, env, σ, φ, ι, a, w, hn, hM, hB, hold, ht, h1, h2, hs, hv => by
    obtain ⟨n, rfl⟩ : ∃ m, n = m + 1 := ⟨n - 1, by simp at hn; omega⟩
    have hB' : okB ops .any kos.length l2 (listUp (listed.setIfInBounds i true) l) = true := by simpa [listUp] using hB
    simp only [okM, Bool.and_eq_true, decide_eq_true_eq] at hM
    obtain ⟨⟨⟨⟨hi, hnl⟩, hbs⟩, hr⟩, hk⟩ := hM
    have hki := List.getElem?_eq_getElem hi
    obtain ⟨o, ho, htr⟩ := mapM_get hm hki
    simp only [pickB, hki, List.singleton_append, List.cons_append] at hv
    generalize kos[i] = k at *
    obtain ⟨p, g, hp, hg, hd, rfl⟩ := trOper_dst htr
    have hgk : guardsOK N [⟨o.dst, g, p⟩] = true := by
      have := List.mem_of_getElem? hki
      simp only [guardsOK, List.all_eq_true] at hgs ⊢
      intro x hx
      simp at hx; subst hx
      exact hgs _ this
    have next : ∀ (env' : Env) (σ' : Heap) (φ' : Frz) (ι' : List KLoc) (a' : Act) (w' : World), Old w w' → Tr n0 φ0 ι0 w0 φ' ι' w' → HOK φ' ι' σ' w' → EOK N φ' ι' env' a' → n0 ≤ σ'.length → vOps P (pickB kos l ++ pickB kos l2) Q env' σ' →
        (l2.contains i = false → Old wS w') ∧ wpH P .any ops (AWR N n0 φ0 ι0 w0 (NP Q)) (fun i => l2.contains i) (Old wS) n (listed.setIfInBounds i true) a' w' := fun env' σ' φ' ι' a' w' q0 q1 q2 q3 q4 q5 =>
      ⟨fun _ => hold.trans q0, drawM hm hgs l n _ env' σ' φ' ι' a' w' (by simp at hn; omega) hk hB' (hold.trans q0) q1 q2 q3 q4 q5⟩
    refine wpH_one hr ?_
    unfold wpOp
    simp only [ho]
    rcases step_split hg hgk h2 hv with ⟨hw, env1, he1, ha⟩ | ⟨hw, env1, he1, hv1⟩
    · simp only [hw, if_true]
      have hbs' : ∃ t n parts, o.op = .buildSlice t n parts := by
        simp only [isBsl, ho] at hbs
        split at hbs
        · rename_i e; exact ⟨_, _, _, e⟩
        · cases hbs
      obtain ⟨t, m, parts, hop⟩ := hbs'
      obtain ⟨v0, w1, hrun, hold1⟩ := bsl_old (w := w) hop hp ha he1
      have hwp := op_sound (N := N) hp ha h1 he1 (next := fun a' w' => Old w w' → (l2.contains i = false → Old wS w') ∧ wpH P .any ops (AWR N n0 φ0 ι0 w0 (NP Q)) (fun i => l2.contains i) (Old wS) n (listed.setIfInBounds i true) a' w') (Q := AWR N n0 φ0 ι0 w0 (NP Q)) (fun v' v φ' ι' σ' w' hr htr h1' hk' hold' => by
        have hle := Tr.le h1 htr
        exact next _ σ' φ' ι' _ w' hold' (ht.trans (htr.weaken hs)) h1' ((he1.mono htr.f hle).putD hd hr) (size_mono h1 h1' htr hs) hk')
      unfold Oper.wp at hwp
      rw [hrun] at hwp
      exact .inl (wp_val hrun (hwp hold1))
    · simp only [hw, Bool.false_eq_true, if_false]
      exact next _ σ φ ι _ w (.refl w) ht h1 (he1.putD hd (tup0_rel φ ι)) hs hv1

theorem drawA {lm l2 : List Nat} {anc : List Nat} (hm : ops.toList.mapM (trOper P fz N ops) = some kos) (hgs : guardsOK N kos = true) (hsel : Region.noSelect ops = true)
    (hanc : ∀ j i : Nat, (anc.getD j 0).testBit i = true → Anc .any ops i j) {σ : Heap} {φ : Frz} {ι : List KLoc} {wS : World} (ht : Tr n0 φ0 ι0 w0 φ ι wS) (h1 : HOK φ ι σ wS) (hs : n0 ≤ σ.length) : ∀ (l : List Nat) (n : Nat) (listed : Array Bool) (env : Env) (a : Act) (w : World),
    l.length + (lm.length + l2.length) ≤ n → okA ops kos .any anc l2 l listed = true → okM ops .any kos.length l2 lm (listUp listed l) = true → okB ops .any kos.length l2 (listUp (listUp listed l) lm) = true → Closed .any ops listed → Old wS w → EOK N φ ι env a → vOps P (pickA kos l ++ (pickB kos lm ++ pickB kos l2)) Q env σ →
    wpH P .any ops (AWR N n0 φ0 ι0 w0 (NP Q)) (fun i => l2.contains i) (Old wS) n listed a w
  | [], n, listed, env, a, w, hn, hA, hM, hB, hc, hw, h2, hv => by
    refine drawM hm hgs lm n listed env σ φ ι a w (by simpa using hn) (by simpa [listUp] using hM) (by simpa [listUp] using hB) hw (ht.trans (hw.tr n0)) (hw.hok h1) h2 hs ?_
    simpa [pickA] using hv
  | i :: l, n, listed, env, a, w, hn, hA, hM, hB, hc, hw, h2, hv => by
    obtain ⟨n, rfl⟩ : ∃ m, n = m + 1 := ⟨n - 1, by simp at hn; omega⟩
    have hM' : okM ops .any kos.length l2 lm (listUp (listed.setIfInBounds i true) l) = true := by simpa [listUp] using hM
    have hB' : okB ops .any kos.length l2 (listUp (listUp (listed.setIfInBounds i true) l) lm) = true := by simpa [listUp] using hB
    simp only [okA, Bool.and_eq_true] at hA
    obtain ⟨hA, hA'⟩ := hA
    split at hA
    · cases hA
    · rename_i k hki
      obtain ⟨o, ho, htr⟩ := mapM_get hm hki
      simp only [pickA, hki, List.singleton_append, List.cons_append] at hv
      obtain ⟨p, g, hp, hg, hd, rfl⟩ := trOper_dst htr
      have hgk : guardsOK N [⟨o.dst, g, p⟩] = true := by
        have := List.mem_of_getElem? hki
        simp only [guardsOK, List.all_eq_true] at hgs ⊢
        intro x hx
        simp at hx; subst hx
        exact hgs _ this
      simp only [Bool.and_eq_true, Bool.not_eq_true'] at hA
      obtain ⟨hnl, hA⟩ := hA
      have next : ∀ (env' : Env) (a' : Act) (w' : World), i ∈ Region.ready .any ops listed → Old wS w' → EOK N φ ι env' a' → vOps P (pickA kos l ++ (pickB kos lm ++ pickB kos l2)) Q env' σ →
          wpH P .any ops (AWR N n0 φ0 ι0 w0 (NP Q)) (fun i => l2.contains i) (Old wS) n (listed.setIfInBounds i true) a' w' := fun env' a' w' hri q1 q2 q3 =>
        drawA hm hgs hsel hanc ht h1 hs l n _ env' a' w' (by simp at hn; omega) hA' hM' hB' (hc.set hri) q1 q2 q3
      split at hA
      · -- what only reads
        rename_i hq
        simp only [Bool.and_eq_true, List.all_eq_true] at hA
        obtain ⟨⟨hfree, hready⟩, hlate⟩ := hA
        have hri : i ∈ Region.ready .any ops listed := by simpa using hready
        have hearly : early ⟨o.dst, g, p⟩ = ⟨o.dst, g, p⟩ := by
          cases p <;> first | rfl | (simp [quietP] at hq)
        rw [hearly] at hv
        have key : ∀ v : Value, YieldsIf P ops (Old wS) o v a → (∃ env', EOK N φ ι env' (a.put o.dst v) ∧ vOps P (pickA kos l ++ (pickB kos lm ++ pickB kos l2)) Q env' σ) → wpH P .any ops (AWR N n0 φ0 ι0 w0 (NP Q)) (fun i => l2.contains i) (Old wS) (n + 1) listed a w := fun v hy ⟨env', he, hv'⟩ =>
          wpH_first ho (Region.noSelect_spec hsel) (fun c a w ⟨_, _, _, _, _, _, _, h⟩ => h.elim) (by simpa using hnl)
            (fun b hb => hanc b i (hlate b (by simpa using hb))) n listed a w hc (Region.free_spec ho hfree) hri hy hw (next env' _ w hri hw he hv')
        rcases step_split hg hgk h2 hv with ⟨hwt, env1, he1, ha⟩ | ⟨hwt, env1, he1, hv1⟩
        · obtain ⟨v, c, g1, g2, g3⟩ := op_calm hp hq ha h1 he1
          exact key v (.inl ⟨hwt, fun w' hw' => calm_run hw'.same g1⟩) ⟨_, he1.putD hd g2, g3⟩
        · exact key _ (.inr ⟨hwt, rfl⟩) ⟨_, he1.putD hd (tup0_rel φ ι), hv1⟩
      · -- a call
        rename_i hq
        split at hA
        · rename_i f args
          simp only [decide_eq_true_eq] at hA
          have hri : i ∈ Region.ready .any ops listed := by rw [hA]; simp
          refine wpH_one hA ?_
          unfold wpOp
          simp only [ho]
          rcases step_split (k := early ⟨o.dst, g, .call f args⟩) hg hgk h2 hv with ⟨hwt, env1, he1, ha⟩ | ⟨hwt, env1, he1, hv1⟩
          · simp only [hwt, if_true]
            obtain ⟨f', as, ts, hop, hf, has⟩ := trOp_call hp
            refine .inl (pcall_sound hop hf has ha (hw.hok h1) he1 fun v' v w' hr hold hk => ?_)
            exact ⟨fun _ => hw.trans hold, next _ _ w' hri (hw.trans hold) (he1.putD hd hr) hk⟩
          · simp only [hwt, Bool.false_eq_true, if_false]
            exact ⟨fun _ => hw, next _ _ w hri hw (he1.putD hd (tup0_rel φ ι)) hv1⟩
        · cases hA
end

theorem AW_draw {id : Nat} {fz : List Nat} {ops : Array Oper} {kos : List KO} {Q : Exit → Env → Heap → Prop} {env : Env} {σ : Heap} (hf : P.follows .mixedOrders = true) (hm : trDraw P fz N ops = some kos) (hv : vOps P kos Q env σ) : AW P N n0 (.region id ops true) Q env σ := by
  unfold trDraw at hm
  simp only [Option.bind_eq_bind, Option.bind_eq_some_iff] at hm
  obtain ⟨ks, hks, hm⟩ := hm
  split at hm
  · rename_i hc
    simp only [Option.some.injEq] at hm; subst hm
    simp only [Bool.and_eq_true, decide_eq_true_eq] at hc
    obtain ⟨⟨⟨⟨⟨c1, c2⟩, c3⟩, c4⟩, c5⟩, c6⟩ := hc
    generalize planA ops ks .any ops.size (Array.replicate ops.size false) = l1 at *
    generalize planM ops .any (ops.size - l1.length) (listUp (Array.replicate ops.size false) l1) = lm at *
    generalize planB ops .any (ops.size - l1.length - lm.length) (listUp (listUp (Array.replicate ops.size false) l1) lm) = l2 at *
    refine AW.mono (Q := NP Q) (fun φ ι a w h1 h2 => wp_region_any hf (wpH_any (B := fun i => l2.contains i) (S := Old w) _ _ _ _ ?_)) fun e env σ q => by
      cases e <;> first | exact q | exact q.elim
    have hcl : Closed .any ops (Array.replicate ops.size false) := fun j o ho hj => by
      rw [Array.getD_eq_getD_getElem?] at hj
      by_cases h : j < ops.size
      · simp [h] at hj
      · simp [h] at hj
    exact drawA hks c1 c2 (ancF_spec ops.toList [] (fun j => by simp) (fun j i h => by simp at h)) (Tr.refl n0 φ ι w) h1 h2.2 _ _ _ env a _ c3 c4 c5 c6 hcl ⟨fun _ _ => rfl, Nat.le_refl _, rfl, rfl, rfl⟩ h2.1 hv
  · cases hm
end Go.Kv
