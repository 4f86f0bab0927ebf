/- Code in its compact form, functions: how a call is entered, what it hands back. -/
import Derived.Test.YtkdkdkkimieieaaK10
namespace Go.Kv
set_option linter.unusedVariables false
set_option linter.unusedSimpArgs false

inductive KC where
  | skip
  | ops (l : List KO)
  | draw (l : List KO)
  | seq (a b : KC)
  | cond (x : KX) (a b : KC)
  | block (id : Nat) (b : KC)
  | loop (b : KC)
  | exit (id : Nat)
  | ret

structure Cfg where
  P : Program
  fz : List Nat
  N : Nat
  n0 : Nat
  /-- What a region that draws its order means, and that it means it. -/
  D : List KO → (Exit → Env → Heap → Prop) → Env → Heap → Prop
  dr : Array Oper → Option (List KO)
  ok : ∀ (id : Nat) (ops : Array Oper) (kos : List KO) (Q : Exit → Env → Heap → Prop) (env : Env) (σ : Heap), dr ops = some kos → D kos Q env σ → AW P N n0 (.region id ops true) Q env σ

def trCode (C : Cfg) : Code → Option KC
  | .skip => some .skip
  | .region _ ops false => do
    let kos ← ops.toList.mapM (trOper C.P C.fz C.N ops)
    if guardsOK C.N kos = true then some (.ops kos) else none
  | .region _ ops true => (C.dr ops).map .draw
  | .seq a b => do some (.seq (← trCode C a) (← trCode C b))
  | .cond x a b => do some (.cond (← trX x) (← trCode C a) (← trCode C b))
  | .block id b => (trCode C b).map (.block id)
  | .loop b => (trCode C b).map .loop
  | .exit id => some (.exit id)
  | .ret => some .ret
  | .label _ => some .skip
  | _ => none

def KL (C : Cfg) (b : KC) (Q : Exit → Env → Heap → Prop) (env : Env) (σ : Heap) : Prop := ∀ c, trCode C c = some b → AL C.P C.N C.n0 c Q env σ
def vc (C : Cfg) : KC → (Exit → Env → Heap → Prop) → Env → Heap → Prop
  | .skip, Q, env, σ => Q .normal env σ
  | .ops l, Q, env, σ => vOps C.P l Q env σ
  | .draw l, Q, env, σ => C.D l Q env σ
  | .seq a b, Q, env, σ => vc C a (fun e env σ => match e with | .normal => vc C b Q env σ | e => Q e env σ) env σ
  | .cond x a b, Q, env, σ => (match kx env x with | .bool t => (t = true → vc C a Q env σ) ∧ (t = false → vc C b Q env σ) | _ => False)
  | .block id b, Q, env, σ => vc C b (BlockK id Q) env σ
  | .loop b, Q, env, σ => KL C b Q env σ
  | .exit id, Q, env, σ => Q (.exit id) env σ
  | .ret, Q, env, σ => Q .ret env σ
/-- What comes behind, under a name. -/
def SK (C : Cfg) (b : KC) (Q : Exit → Env → Heap → Prop) (e : Exit) (env : Env) (σ : Heap) : Prop :=
  match e with
  | .normal => vc C b Q env σ
  | e => Q e env σ
def LK (C : Cfg) (b : KC) (Q : Exit → Env → Heap → Prop) (e : Exit) (env : Env) (σ : Heap) : Prop :=
  match e with
  | .normal => KL C b Q env σ
  | e => Q e env σ

theorem vc_sound {C : Cfg} : ∀ {k : KC} {c : Code} {Q : Exit → Env → Heap → Prop} {env : Env} {σ : Heap}, trCode C c = some k → vc C k Q env σ → AW C.P C.N C.n0 c Q env σ := by
  intro k c
  induction c generalizing k with
  | skip => intro Q env σ h hv; simp [trCode] at h; subst h; exact AW_skip hv
  | region id ops d =>
    intro Q env σ h hv
    cases d with
    | false =>
      simp only [trCode, Option.bind_eq_bind, Option.bind_eq_some_iff] at h
      obtain ⟨kos, hk, h⟩ := h
      split at h
      · rename_i hg
        simp only [Option.some.injEq] at h; subst h
        exact AW_region hk hg hv
      · cases h
    | true =>
      simp only [trCode, Option.map_eq_some_iff] at h
      obtain ⟨kos, hk, rfl⟩ := h
      exact C.ok id ops kos Q env σ hk hv
  | seq a b iha ihb =>
    intro Q env σ h hv
    simp only [trCode, Option.bind_eq_bind, Option.bind_eq_some_iff, Option.some.injEq] at h
    obtain ⟨ka, ha, kb, hb, rfl⟩ := h
    refine AW_seq ((iha ha hv).mono fun e env σ q => ?_)
    cases e
    case normal => exact ihb hb q
    all_goals exact q
  | cond x a b iha ihb =>
    intro Q env σ h hv
    simp only [trCode, Option.bind_eq_bind, Option.bind_eq_some_iff, Option.some.injEq] at h
    obtain ⟨x', hx, ka, ha, kb, hb, rfl⟩ := h
    simp only [vc] at hv
    split at hv
    · rename_i t ht
      exact AW_cond hx ht (fun e => iha ha (hv.1 e)) (fun e => ihb hb (hv.2 e))
    · exact hv.elim
  | block id b ih =>
    intro Q env σ h hv
    simp only [trCode, Option.map_eq_some_iff] at h
    obtain ⟨kb, hb, rfl⟩ := h
    exact AW_block (ih hb hv)
  | loop b ih =>
    intro Q env σ h hv
    simp only [trCode, Option.map_eq_some_iff] at h
    obtain ⟨kb, hb, rfl⟩ := h
    exact AW_loop (hv b hb)
  | exit id => intro Q env σ h hv; simp [trCode] at h; subst h; exact AW_exit hv
  | ret => intro Q env σ h hv; simp [trCode] at h; subst h; exact AW_ret hv
  | label l => intro Q env σ h hv; simp [trCode] at h; subst h; exact AW_label hv
  | rangeFunc => intro Q env σ h hv; simp [trCode] at h
  | scope => intro Q env σ h hv; simp [trCode] at h
  | goto => intro Q env σ h hv; simp [trCode] at h
  | refuse => intro Q env σ h hv; simp [trCode] at h

theorem KL_round {C : Cfg} {b : KC} {Q : Exit → Env → Heap → Prop} {env : Env} {σ : Heap} (h : vc C b (LK C b Q) env σ) : KL C b Q env σ := fun c hc =>
  AL_round ((vc_sound hc h).mono fun e env σ q => by
    cases e
    case normal => exact q c hc
    all_goals exact q)
theorem KL_keep {C : Cfg} {b : KC} {Q : Exit → Env → Heap → Prop} {env : Env} {σ : Heap} (live : List Nat) (h : KL C b Q (keep live env) σ) : KL C b Q env σ := fun c hc => AL_keep live (h c hc)
theorem KL_drop {C : Cfg} {b : KC} {Q : Exit → Env → Heap → Prop} {env : Env} {σ : Heap} (n : Nat) (hn : C.n0 ≤ n) (hle : n ≤ σ.length) (he : env.upto n) (hb : heapUpto n σ) (h : KL C b Q env (σ.take n)) : KL C b Q env σ := fun c hc => AL_drop n hn hle he hb (h c hc)

/-! ### Results -/
inductive KR where
  | t (n : Nat)
  | cell (n : Nat) (agg : Bool) (sz : Nat)
def trRes (P : Program) : ResultVar → Option KR
  | .tmp t => some (.t t)
  | .cell t ty => do some (.cell t (← isAggT P ty) (← szT P ty))
/-- How a result is handed back: what is of no more use is let go, the rest may be renumbered, or be frozen. -/
def Ret (n0 : Nat) (v : PV) (σ : Heap) (v' : PV) (σ' : Heap) : Prop :=
  ∀ φ ι w x, n0 ≤ σ.length → HOK φ ι σ w → Rel φ ι v x → ∃ φ' ι', Tr n0 φ ι w φ' ι' w ∧ HOK φ' ι' σ' w ∧ Rel φ' ι' v' x
def Fin (n0 : Nat) (K : PV → Heap → Prop) (v : PV) (σ : Heap) : Prop := ∃ v' σ', Ret n0 v σ v' σ' ∧ K v' σ'
def resV (n0 : Nat) : List KR → List PV → (List PV → Prop) → Env → Heap → Prop
  | [], vs, K, env, σ => K vs
  | .t n :: r, vs, K, env, σ => resV n0 r (vs ++ [look env n]) K env σ
  | .cell n g z :: r, vs, K, env, σ => aLoad g z (look env n) σ fun v => resV n0 r (vs ++ [v]) K env σ
def unTup : List PV → PV
  | [v] => v
  | vs => .tup vs
def FinK (n0 : Nat) (rs : List KR) (K : PV → Heap → Prop) (e : Exit) (env : Env) (σ : Heap) : Prop :=
  match e with
  | .normal | .ret => resV n0 rs [] (fun vs => Fin n0 K (unTup vs) σ) env σ
  | _ => False

theorem res_sound {P : Program} {n0 N : Nat} {φ : Frz} {ι : List KLoc} {σ : Heap} {w : World} {env : Env} {a : Act} (h1 : HOK φ ι σ w) (h2 : EOK N φ ι env a) : ∀ {rs : List ResultVar} {ks : List KR} {vs : List PV} {us : List Value} {K : List PV → Prop}, rs.mapM (trRes P) = some ks → RelL φ ι vs us → resV n0 ks vs K env σ →
    ∃ cs xs, (rs.mapM fun r => (match r with | .tmp t => pure (a.tmps.getD t Go.undef) | .cell b t => do loadVar t (← asAddr (a.tmps.getD b Go.undef)) : Sem Value)).run P w = .ok xs w ∧ RelL φ ι (vs ++ cs) (us ++ xs) ∧ K (vs ++ cs)
  | [], ks, vs, us, K, h, hr, hv => by
    simp at h; subst h
    exact ⟨[], [], by simp, by simpa using hr, by simpa [resV] using hv⟩
  | .tmp t :: rs, ks, vs, us, K, h, hr, hv => by
    simp only [List.mapM_cons, Option.bind_eq_bind, Option.pure_def, Option.bind_eq_some_iff, Option.some.injEq, trRes] at h
    obtain ⟨_, rfl, ks', hks, rfl⟩ := h
    have hrt := hr.append (.cons (h2.rel t) (.nil φ ι))
    obtain ⟨cs, xs, g1, g2, g3⟩ := res_sound h1 h2 hks hrt hv
    refine ⟨look env t :: cs, a.tmps.getD t Go.undef :: xs, ?_, by simpa using g2, by simpa using g3⟩
    simp only [List.mapM_cons, Sem.run_bind, Sem.run_pure, Result.andThen_ok, g1]
  | .cell b t :: rs, ks, vs, us, K, h, hr, hv => by
    simp only [List.mapM_cons, Option.bind_eq_bind, Option.pure_def, Option.bind_eq_some_iff, Option.some.injEq, trRes] at h
    obtain ⟨_, ⟨g, hg, z, hz, rfl⟩, ks', hks, rfl⟩ := h
    simp only [resV] at hv
    obtain ⟨u, c, q1, q2, q3⟩ := load_sound (P := P) (t := t) h1 hg hz (h2.rel b) hv
    have hrt := hr.append (.cons q2 (.nil φ ι))
    obtain ⟨cs, xs, g1, g2, g3⟩ := res_sound h1 h2 hks hrt q3
    refine ⟨c :: cs, u :: xs, ?_, by simpa using g2, by simpa using g3⟩
    have q4 : (do loadVar t (← asAddr (a.tmps.getD b Go.undef)) : Sem Value).run P w = .ok u w := by
      have q5 := calm_ok q1
      unfold Instr.loadAt Instr.sureAddr at q5
      unfold asAddr
      split at q5
      · rename_i ad he; rw [he]; simpa using q5
      · simp at q5
    simp only [List.mapM_cons, Sem.run_bind, Result.andThen_ok] at q4 ⊢
    rw [q4]
    simp only [Result.andThen_ok, g1, Sem.run_pure]

/-- The objects of a heap speak of its own objects alone. -/
def Wf (σ : Heap) : Prop := heapUpto σ.length σ

theorem Rel.upto {φ : Frz} {ι : List KLoc} {c : PV} {v : Value} (h : Rel φ ι c v) : PV.upto ι.length c := by
  induction h with
  | undef v => exact fun _ _ v _ => .undef v
  | int k n => intro φ' ι' v h; cases h; exact .int k n
  | bool b => intro φ' ι' v h; cases h; exact .bool b
  | str s => intro φ' ι' v h; cases h; exact .str s
  | agg cs vs h1 h2 _ ih =>
    intro φ' ι' v h
    cases h with
    | agg _ vs' g1 g2 g3 =>
      refine .agg cs vs' g1 g2 fun i c v hc hv => ?_
      have hi : i < vs.length := by rw [← h1]; exact (List.getElem?_eq_some_iff.1 hc).1
      exact ih i c _ hc (List.getElem?_eq_getElem hi) _ _ _ (g3 i c v hc hv)
  | tup cs vs h1 _ ih =>
    intro φ' ι' v h
    cases h with
    | tup _ vs' g1 g3 =>
      refine .tup cs vs' g1 fun i c v hc hv => ?_
      have hi : i < vs.length := by rw [← h1]; exact (List.getElem?_eq_some_iff.1 hc).1
      exact ih i c _ hc (List.getElem?_eq_getElem hi) _ _ _ (g3 i c v hc hv)
  | ptr id off b h =>
    have hid := (List.getElem?_eq_some_iff.1 h).1
    intro φ' ι' v h'
    cases h' with
    | ptr _ _ b' hb => exact .ptr id off b' (by rw [List.getElem?_take, if_pos hid]; exact hb)
  | fptr cs off b o C hb hok g hg _ ih =>
    intro φ' ι' v h
    cases h with
    | fptr _ _ b' o' C' hb' hok' g' hg' hr' => exact .fptr cs off b' o' C' hb' hok' g' hg' fun j c hc => ih j c hc _ _ _ (hr' j c hc)
  | nilptr => intro φ' ι' v h; cases h; exact .nilptr
  | nils => intro φ' ι' v h; cases h; exact .nils
  | list0 cap a =>
    intro φ' ι' v h
    cases h with
    | list0 cap a => exact .list0 _ _
    | listn => exact .listn
    | list _ esz b o len cap' C hl hc hb hsz g hg hr => exact .list [] esz b o len cap' C hl hc hb hsz g hg fun i x j c hx => by simp at hx
  | listn =>
    intro φ' ι' v h
    cases h with
    | list0 cap a => exact .list0 _ _
    | listn => exact .listn
    | list _ esz b o len cap' C hl hc hb hsz g hg hr => exact .list [] esz b o len cap' C hl hc hb hsz g hg fun i x j c hx => by simp at hx
  | list xs esz b o len cap C h1 hc hb hsz g hg _ ih =>
    intro φ' ι' v h
    cases h with
    | list0 cap a => exact .list0 _ _
    | listn => exact .listn
    | list _ esz' b' o' len' cap' C' h1' hc' hb' hsz' g' hg' hr' => exact .list xs esz' b' o' len' cap' C' h1' hc' hb' hsz' g' hg' fun i x j c hx hc => ih i x j c hx hc _ _ _ (hr' i x j c hx hc)
  | ref id ver off len v k e esz u h ho hk hv =>
    have hid := (List.getElem?_eq_some_iff.1 h).1
    intro φ' ι' v' h'
    cases h' with
    | ref _ _ _ _ _ k' e' s' u' hh ho' hk' hv' => exact .ref id ver off len v' k' e' s' u' (by rw [List.getElem?_take, if_pos hid]; exact hh) ho' hk' hv'
  | eptr id ver i off v k e esz u h ho hk hv =>
    have hid := (List.getElem?_eq_some_iff.1 h).1
    intro φ' ι' v' h'
    cases h' with
    | eptr _ _ _ _ _ k' e' s' u' hh ho' hk' hv' => exact .eptr id ver i off v' k' e' s' u' (by rw [List.getElem?_take, if_pos hid]; exact hh) ho' hk' hv'
  | bref id off len b cap h hc =>
    have hid := (List.getElem?_eq_some_iff.1 h).1
    intro φ' ι' v' h'
    cases h' with
    | bref _ _ _ b' cap' hb hc' => exact .bref id off len b' cap' (by rw [List.getElem?_take, if_pos hid]; exact hb) hc'
  | fn f a b u v h1 h2 _ _ ih1 ih2 =>
    intro φ' ι' v' h'
    cases h' with
    | fn _ _ _ u' v' g1 g2 g3 g4 =>
      refine .fn f a b u' v' g1 g2 (fun i c x hc hx => ?_) (fun i c x hc hx => ?_)
      · have hi : i < u.length := by rw [← h1]; exact (List.getElem?_eq_some_iff.1 hc).1
        exact ih1 i c _ hc (List.getElem?_eq_getElem hi) _ _ _ (g3 i c x hc hx)
      · have hi : i < v.length := by rw [← h2]; exact (List.getElem?_eq_some_iff.1 hc).1
        exact ih2 i c _ hc (List.getElem?_eq_getElem hi) _ _ _ (g4 i c x hc hx)
  | nilf => intro φ' ι' v h; cases h; exact .nilf
  | nili => intro φ' ι' v h; cases h; exact .nili
theorem RelL.uptoL {φ : Frz} {ι : List KLoc} {cs : List PV} {vs : List Value} (h : RelL φ ι cs vs) : ∀ c ∈ cs, PV.upto ι.length c := fun c hc => by
  obtain ⟨i, hi⟩ := List.getElem?_of_mem hc
  obtain ⟨v, _, hr⟩ := h.get hi
  exact hr.upto
theorem HOK.wf {φ : Frz} {ι : List KLoc} {σ : Heap} {w : World} (h : HOK φ ι σ w) : Wf σ := fun o ho => by
  rw [List.take_length] at ho
  obtain ⟨id, hid⟩ := List.getElem?_of_mem ho
  rw [← h.len]
  cases o with
  | dead => trivial
  | box cs =>
    obtain ⟨b, _, C, e, _, hR, _⟩ := box_open h hid
    exact hR.uptoL
  | arr ver e es xs =>
    obtain ⟨u, _, _, ys, _, hR, _⟩ := arr_open h hid
    exact hR.uptoL

def argEnv : Nat → List PV → Env
  | _, [] => []
  | i, a :: r => (i, a) :: argEnv (i + 1) r
theorem look_argEnv : ∀ (args : List PV) (i t : Nat), look (argEnv i args) t = if i ≤ t then (args[t - i]?).getD .undef else .undef
  | [], i, t => by simp [argEnv]
  | a :: r, i, t => by
    simp only [argEnv, look_cons, look_argEnv r]
    by_cases h1 : i = t
    · subst h1; simp
    · rw [if_neg h1]
      by_cases h2 : i ≤ t
      · rw [if_pos h2, if_pos (by omega), show t - i = (t - (i + 1)) + 1 by omega, List.getElem?_cons_succ]
      · rw [if_neg h2, if_neg (by omega)]

/-- A call is entered: its body's condition is the call's. -/
theorem ACall_enter {C : Cfg} {fid : FuncId} {fn : Func} {c : Code} {k : KC} {rs : List KR} {args : List PV} {σ : Heap} {K : PV → Heap → Prop} (hf : C.P.funcs[fid]? = some fn) (hbody : fn.body = some c) (hname : (fn.name == "runtime.NumGoroutine") = false)
    (hN : fn.ntmps = C.N) (hn0 : C.n0 = σ.length) (hargs : args.length ≤ C.N) (hc : trCode C c = some k) (hr : fn.results.toList.mapM (trRes C.P) = some rs)
    (h : Wf σ → (∀ a ∈ args, PV.upto σ.length a) → vc C k (FinK C.n0 rs K) (argEnv 0 args) σ) : ACall C.P fid args σ K := by
  refine ⟨⟨fn, hf, by simp [hbody], hname⟩, fun φ ι w vs hrel ho => ?_⟩
  have hw := h ho.wf (fun a ha => by rw [← ho.len]; exact hrel.uptoL a ha)
  refine calls_of_wp hf hbody ?_
  have hvl : vs.length ≤ C.N := by rw [← hrel.1]; exact hargs
  have he : EOK C.N φ ι (argEnv 0 args) { tmps := vs.toArray ++ Array.replicate (fn.ntmps - vs.toArray.size) Go.undef, defers := [] } := by
    refine ⟨by simp [hN]; omega, rfl, fun t => ?_⟩
    rw [look_argEnv, if_pos (Nat.zero_le _), Nat.sub_zero]
    cases ha : args[t]? with
    | none => exact .undef _
    | some x =>
      obtain ⟨v, hv, hrx⟩ := hrel.get ha
      have hlt := (List.getElem?_eq_some_iff.1 hv).1
      have : (vs.toArray ++ Array.replicate (fn.ntmps - vs.toArray.size) Go.undef).getD t Go.undef = v := by
        have hvv := (List.getElem?_eq_some_iff.1 hv).2
        simp [Array.getD_eq_getD_getElem?, Array.getElem?_append, hlt, hvv]
      rw [this]; exact hrx
  refine Code.wp_mono (fun e a' w' q => ?_) (vc_sound hc hw φ ι _ w ho ⟨he, by rw [hn0]; exact Nat.le_refl _⟩)
  obtain ⟨φ', ι', env', σ', g1, g2, ⟨g3, g3'⟩, g4⟩ := q
  have fin : resV C.n0 rs [] (fun vs => Fin C.n0 K (unTup vs) σ') env' σ' → a'.defers = [] ∧ ∃ v, (results fn a'.tmps).run C.P w' = .ok v w' ∧ ACallR σ φ ι w K (.returned v) w' := by
    intro hres
    refine ⟨g3.df, ?_⟩
    obtain ⟨cs, xs, q1, q2, v', σ2, q3, q4⟩ := res_sound (P := C.P) (n0 := C.n0) g2 g3 hr (.nil _ _) hres
    simp only [List.nil_append] at q2 q3
    have hx : ∃ u, (results fn a'.tmps).run C.P w' = .ok u w' ∧ Rel φ' ι' (unTup cs) u := by
      have hrun : (results fn a'.tmps).run C.P w' = .ok (if h : xs.toArray.size = 1 then xs.toArray[0] else .tuple xs.toArray) w' := by
        unfold results
        have hmm : (fn.results.mapM fun r => (match r with | .tmp t => pure (a'.tmps.getD t Go.undef) | .cell b t => do loadVar t (← asAddr (a'.tmps.getD b Go.undef)) : Sem Value)).run C.P w' = .ok xs.toArray w' := by
          rw [Array.mapM_eq_mapM_toList]
          simp only [Sem.run_map, q1, Result.andThen_ok]
        simp only [Sem.run_bind]
        refine Eq.trans (congrArg (fun q => Result.andThen q _) (?_ : _ = Result.ok xs.toArray w')) rfl
        exact hmm
      by_cases h1 : xs.length = 1
      · obtain ⟨x, rfl⟩ := List.length_eq_one_iff.1 h1
        obtain ⟨c, rfl⟩ := List.length_eq_one_iff.1 (q2.1.trans h1)
        exact ⟨x, by simpa using hrun, q2.2 0 c x rfl rfl⟩
      · have hne : unTup cs = .tup cs := by
          unfold unTup
          split
          · have := q2.1; simp at this; omega
          · rfl
        refine ⟨.tuple xs.toArray, ?_, by rw [hne]; exact .tup _ _ q2.1 q2.2⟩
        rw [hrun]
        rw [dif_neg (by simpa using h1)]
    obtain ⟨u, hu1, hu2⟩ := hx
    obtain ⟨φ2, ι2, p1, p2, p3⟩ := q3 φ' ι' w' u g3' g2 hu2
    exact ⟨u, hu1, v', u, φ2, ι2, σ2, rfl, p3, hn0 ▸ (g1.trans p1), p2, q4⟩
  cases e <;> simp only [FinK] at g4
  case normal => exact fin g4
  case ret => exact fin g4

end Go.Kv
