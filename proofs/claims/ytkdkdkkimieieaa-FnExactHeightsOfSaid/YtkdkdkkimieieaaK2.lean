/- The relation of heaps, transitions, and the abstract weakest precondition of code, over the machine's own. -/
import Derived.Test.YtkdkdkkimieieaaK1
import Derived.Laws.CopyRow
namespace Go.Kv
set_option linter.unusedVariables false

def flat (xs : List PV) : List PV := xs.flatMap PV.cs
@[simp] theorem flat_nil : flat [] = [] := rfl
@[simp] theorem flat_cons (x : PV) (xs : List PV) : flat (x :: xs) = x.cs ++ flat xs := rfl
@[simp] theorem flat_append (xs ys : List PV) : flat (xs ++ ys) = flat xs ++ flat ys := by simp [flat]

def ObjOK (φ : Frz) (ι : List KLoc) (w : World) : AObj → KLoc → Prop
  | .dead, _ => True
  | .box cs, .box b => ∃ C e, w.heap[b]? = some (.cells C e (0, 0)) ∧ RelL φ ι cs C.toList ∧ cs.all PV.ok = true
  | .arr ver e es xs, .arr ver' e' esz v => ver = ver' ∧ e = e' ∧ es = esz ∧ 0 < esz ∧ ∃ ys, w.ownsRow 0 e esz v xs.length ys ∧ RelL φ ι (flat xs) ys ∧ (flat xs).all PV.ok = true ∧ ∀ x ∈ xs, x.cs.length = esz
  | _, _ => False

structure HOK (φ : Frz) (ι : List KLoc) (σ : Heap) (w : World) : Prop where
  len : ι.length = σ.length
  fz : ∀ b C, φ b = some C → ∃ e f, w.heap[b]? = some (.cells C e f)
  nf : ∀ (id : Nat) (l : KLoc) (b : Nat), ι[id]? = some l → l.block = some b → φ b = none
  dis : ∀ (id id' : Nat) (l l' : KLoc) (b : Nat), ι[id]? = some l → ι[id']? = some l' → l.block = some b → l'.block = some b → id = id'
  lt : ∀ (id : Nat) (l : KLoc) (b : Nat), ι[id]? = some l → l.block = some b → b < w.heap.size
  obj : ∀ (id : Nat) (o : AObj) (l : KLoc), σ[id]? = some o → ι[id]? = some l → ObjOK φ ι w o l

def owned (ι : List KLoc) (b : Nat) : Prop := ∃ (id : Nat) (l : KLoc), ι[id]? = some l ∧ l.block = some b

structure Tr (n : Nat) (φ : Frz) (ι : List KLoc) (w : World) (φ' : Frz) (ι' : List KLoc) (w' : World) : Prop where
  f : FLe φ φ'
  l : LLe (ι.take n) ι'
  fr : ∀ b, b < w.heap.size → ¬ owned ι b → w'.heap[b]? = w.heap[b]?
  sz : w.heap.size ≤ w'.heap.size
  ow : ∀ b, owned ι' b → owned ι b ∨ w.heap.size ≤ b
  os : w'.os = w.os
  tp : w'.tape = w.tape
  out : w'.output = w.output
  fn : ∀ b C, φ' b = some C → φ b = some C ∨ owned ι b ∨ w.heap.size ≤ b

theorem LLe.of_take {ι ι' : List KLoc} (n : Nat) (h : LLe ι ι') : LLe (ι.take n) ι' := fun id l x => by
  rw [List.getElem?_take] at x
  split at x
  · exact h _ _ x
  · cases x
theorem Tr.refl (n : Nat) (φ : Frz) (ι : List KLoc) (w : World) : Tr n φ ι w φ ι w :=
  ⟨.refl _, (LLe.refl _).of_take n, fun _ _ _ => rfl, Nat.le_refl _, fun _ h => .inl h, rfl, rfl, rfl, fun _ _ h => .inl h⟩
theorem Tr.trans {n : Nat} {φ φ1 φ2 : Frz} {ι ι1 ι2 : List KLoc} {w w1 w2 : World} (h : Tr n φ ι w φ1 ι1 w1) (h' : Tr n φ1 ι1 w1 φ2 ι2 w2) : Tr n φ ι w φ2 ι2 w2 where
  f := h.f.trans h'.f
  l := fun id l x => by
    obtain ⟨l1, h1, e1⟩ := h.l id l x
    have hid : id < n := by
      rw [List.getElem?_take] at x
      split at x
      · assumption
      · cases x
    obtain ⟨l2, h2, e2⟩ := h'.l id l1 (by rw [List.getElem?_take, if_pos hid]; exact h1)
    exact ⟨l2, h2, KLoc.le_trans e1 e2⟩
  fr := fun b hb ho => by
    rw [h'.fr b (Nat.lt_of_lt_of_le hb h.sz) (fun o => by rcases h.ow b o with o' | o'; exact ho o'; omega), h.fr b hb ho]
  sz := Nat.le_trans h.sz h'.sz
  ow := fun b hb => by
    rcases h'.ow b hb with o | o
    · exact h.ow b o
    · exact .inr (Nat.le_trans h.sz o)
  os := h'.os.trans h.os
  tp := h'.tp.trans h.tp
  out := h'.out.trans h.out
  fn := fun b C hb => by
    rcases h'.fn b C hb with o | o | o
    · exact h.fn b C o
    · exact .inr (h.ow b o)
    · exact .inr (.inr (Nat.le_trans h.sz o))
theorem Tr.weaken {n m : Nat} {φ φ' : Frz} {ι ι' : List KLoc} {w w' : World} (h : Tr n φ ι w φ' ι' w') (hm : m ≤ n) : Tr m φ ι w φ' ι' w' :=
  { h with l := fun id l x => h.l id l (by
      rw [List.getElem?_take] at x ⊢
      split at x
      · rw [if_pos (by omega)]; exact x
      · cases x) }

/-! ### Frames -/
abbrev Env := List (Nat × PV)
def look : Env → Nat → PV
  | [], _ => .undef
  | (k, v) :: e, t => if k = t then v else look e t
@[simp] theorem look_nil (t : Nat) : look [] t = .undef := rfl
@[simp] theorem look_cons (k : Nat) (v : PV) (e : Env) (t : Nat) : look ((k, v) :: e) t = if k = t then v else look e t := rfl

structure EOK (N : Nat) (φ : Frz) (ι : List KLoc) (env : Env) (a : Act) : Prop where
  sz : a.tmps.size = N
  df : a.defers = []
  rel : ∀ t, Rel φ ι (look env t) (a.tmps.getD t Go.undef)

theorem EOK.mono {N : Nat} {φ φ' : Frz} {ι ι' : List KLoc} {env : Env} {a : Act} (h : EOK N φ ι env a) (hf : FLe φ φ') (hl : LLe ι ι') : EOK N φ' ι' env a := ⟨h.sz, h.df, fun t => (h.rel t).mono hf hl⟩
theorem EOK.put {N : Nat} {φ : Frz} {ι : List KLoc} {env : Env} {a : Act} (h : EOK N φ ι env a) {d : Nat} (hd : d < N) {c : PV} {v : Value} (hv : Rel φ ι c v) : EOK N φ ι ((d, c) :: env) (a.put (some d) v) := by
  refine ⟨by simp [Act.put, h.sz], h.df, fun t => ?_⟩
  simp only [look_cons, Act.put]
  by_cases e : d = t
  · subst e
    simp [Array.getD, h.sz, hd, hv]
  · rw [if_neg e]
    have := h.rel t
    simpa [Array.getD_eq_getD_getElem?, Array.getElem?_setIfInBounds_ne e] using this
theorem EOK.putNone {N : Nat} {φ : Frz} {ι : List KLoc} {env : Env} {a : Act} (h : EOK N φ ι env a) (v : Value) : EOK N φ ι env (a.put none v) := h

/-! ### The abstract call and the abstract weakest precondition -/
def EnterOK (P : Program) (f : FuncId) : Prop := ∃ fn, P.funcs[f]? = some fn ∧ fn.body.isSome = true ∧ (fn.name == "runtime.NumGoroutine") = false
def ACallR (σ : Heap) (φ : Frz) (ι : List KLoc) (w : World) (K : PV → Heap → Prop) (e : Ending) (w' : World) : Prop :=
  ∃ v v' φ' ι' σ', e = .returned v' ∧ Rel φ' ι' v v' ∧ Tr σ.length φ ι w φ' ι' w' ∧ HOK φ' ι' σ' w' ∧ K v σ'
def ACall (P : Program) (f : FuncId) (args : List PV) (σ : Heap) (K : PV → Heap → Prop) : Prop :=
  EnterOK P f ∧ ∀ φ ι w vs, RelL φ ι args vs → HOK φ ι σ w → Calls P f vs.toArray w (ACallR σ φ ι w K)

/-! ### Lending -/
/-- A value that speaks of no object from number n on. -/
def PV.upto (n : Nat) (c : PV) : Prop := ∀ (φ : Frz) (ι : List KLoc) (v : Value), Rel φ ι c v → Rel φ (ι.take n) c v
def PV.free (c : PV) : Prop := ∀ (φ φ' : Frz) (ι : List KLoc) (v : Value), Rel φ ι c v → Rel φ' ι c v
/-- Lending: what is owned in heap σ, looked at as what nobody writes. -/
inductive Imm (σ : Heap) : PV → PV → Prop
  | refl (c : PV) (h : PV.upto 0 c) : Imm σ c c
  | agg (cs ds : List PV) (hl : cs.length = ds.length) (hok : ds.all PV.ok = true) (h : ∀ (i : Nat) (c d : PV), cs[i]? = some c → ds[i]? = some d → Imm σ c d) : Imm σ (.agg cs) (.agg ds)
  | ptr (id off : Nat) (cs ds : List PV) (ho : σ[id]? = some (.box cs)) (hl : cs.length = ds.length) (hok : ds.all PV.ok = true) (h : ∀ (i : Nat) (c d : PV), cs[i]? = some c → ds[i]? = some d → Imm σ c d) : Imm σ (.ptr id off) (.fptr ds off)
  | ref (id ver off len : Nat) (e : TypeId) (esz : Nat) (xs ds : List PV) (ho : σ[id]? = some (.arr ver e esz xs)) (hn : off + len ≤ xs.length) (hl : ds.length = len)
      (hs : ∀ (i : Nat) (x d : PV), xs[off + i]? = some x → ds[i]? = some d → x.cs.length = d.cs.length ∧ d.cs.all PV.ok = true)
      (h : ∀ (i : Nat) (x d : PV) (j : Nat) (c c' : PV), xs[off + i]? = some x → ds[i]? = some d → x.cs[j]? = some c → d.cs[j]? = some c' → Imm σ c c') : Imm σ (.ref id ver off len) (.list ds)
  | nils : Imm σ .nils (.list [])
  | tup (cs ds : List PV) (hl : cs.length = ds.length) (h : ∀ (i : Nat) (c d : PV), cs[i]? = some c → ds[i]? = some d → Imm σ c d) : Imm σ (.tup cs) (.tup ds)
  | fn (f : Fn) (a b a' b' : List PV) (hl : a.length = a'.length) (hm : b.length = b'.length) (h : ∀ (i : Nat) (c d : PV), a[i]? = some c → a'[i]? = some d → Imm σ c d) (h' : ∀ (i : Nat) (c d : PV), b[i]? = some c → b'[i]? = some d → Imm σ c d) : Imm σ (.fn f a b) (.fn f a' b')

def ImmL (σ : Heap) (cs ds : List PV) : Prop := cs.length = ds.length ∧ ∀ (i : Nat) (c d : PV), cs[i]? = some c → ds[i]? = some d → Imm σ c d
/-- A call that leaves the heap at hand alone, and hands back what speaks of nothing in it. -/
def PCall (P : Program) (f : FuncId) (args : List PV) (σ : Heap) (K : PV → Prop) : Prop :=
  ∃ args', ImmL σ args args' ∧ ACall P f args' [] (fun v s => (v.free ∧ s = []) ∧ K v)

theorem ACall.mono {P : Program} {f : FuncId} {args : List PV} {σ : Heap} {K K' : PV → Heap → Prop} (h : ACall P f args σ K) (hk : ∀ v σ', K v σ' → K' v σ') : ACall P f args σ K' :=
  ⟨h.1, fun φ ι w vs hr ho => (h.2 φ ι w vs hr ho).mono fun _ _ ⟨v, v', φ', ι', σ', h1, h2, h3, h4, h5⟩ => ⟨v, v', φ', ι', σ', h1, h2, h3, h4, hk _ _ h5⟩⟩

def AWR (N n0 : Nat) (φ : Frz) (ι : List KLoc) (w : World) (Q : Exit → Env → Heap → Prop) (e : Exit) (a' : Act) (w' : World) : Prop :=
  ∃ φ' ι' env' σ', Tr n0 φ ι w φ' ι' w' ∧ HOK φ' ι' σ' w' ∧ (EOK N φ' ι' env' a' ∧ n0 ≤ σ'.length) ∧ Q e env' σ'
def AW (P : Program) (N n0 : Nat) (c : Code) (Q : Exit → Env → Heap → Prop) (env : Env) (σ : Heap) : Prop :=
  ∀ φ ι a w, HOK φ ι σ w → EOK N φ ι env a ∧ n0 ≤ σ.length → c.wp P (AWR N n0 φ ι w Q) a w

theorem AWR.mono {N n0 : Nat} {φ : Frz} {ι : List KLoc} {w : World} {Q Q' : Exit → Env → Heap → Prop} {e : Exit} {a' : Act} {w' : World} (h : AWR N n0 φ ι w Q e a' w') (hq : ∀ e env σ, Q e env σ → Q' e env σ) : AWR N n0 φ ι w Q' e a' w' :=
  let ⟨φ', ι', env', σ', h1, h2, h3, h4⟩ := h
  ⟨φ', ι', env', σ', h1, h2, h3, hq _ _ _ h4⟩
theorem AW.mono {P : Program} {N n0 : Nat} {c : Code} {Q Q' : Exit → Env → Heap → Prop} {env : Env} {σ : Heap} (h : AW P N n0 c Q env σ) (hq : ∀ e env σ, Q e env σ → Q' e env σ) : AW P N n0 c Q' env σ :=
  fun φ ι a w h1 h2 => Code.wp_mono (fun _ _ _ q => q.mono hq) (h φ ι a w h1 h2)
/-- What comes behind: from a state that is reached. -/
theorem AWR.bind {P : Program} {N n0 : Nat} {φ φ' : Frz} {ι ι' : List KLoc} {w w' : World} {Q : Exit → Env → Heap → Prop} {c : Code} {env : Env} {σ : Heap} {a : Act} (ht : Tr n0 φ ι w φ' ι' w') (h1 : HOK φ' ι' σ w') (h2 : EOK N φ' ι' env a ∧ n0 ≤ σ.length) (h : AW P N n0 c Q env σ) : c.wp P (AWR N n0 φ ι w Q) a w' :=
  Code.wp_mono (fun _ _ _ ⟨φ2, ι2, env2, σ2, g1, g2, g3, g4⟩ => ⟨φ2, ι2, env2, σ2, ht.trans g1, g2, g3, g4⟩) (h φ' ι' a w' h1 h2)

/-- Continuations, each under a name, so that nothing of what is left is looked into. -/
def SeqK (P : Program) (N n0 : Nat) (y : Code) (Q : Exit → Env → Heap → Prop) : Exit → Env → Heap → Prop
  | .normal, env, σ => AW P N n0 y Q env σ
  | e, env, σ => Q e env σ
theorem AW_seq {P : Program} {N n0 : Nat} {x y : Code} {Q : Exit → Env → Heap → Prop} {env : Env} {σ : Heap} (h : AW P N n0 x (SeqK P N n0 y Q) env σ) : AW P N n0 (.seq x y) Q env σ := fun φ ι a w h1 h2 => by
  refine wp_seq (Code.wp_mono (fun e a' w' q => ?_) (h φ ι a w h1 h2))
  obtain ⟨φ', ι', env', σ', g1, g2, g3, g4⟩ := q
  cases e <;> first | exact ⟨φ', ι', env', σ', g1, g2, g3, g4⟩ | exact AWR.bind g1 g2 g3 g4
theorem AW_skip {P : Program} {N n0 : Nat} {Q : Exit → Env → Heap → Prop} {env : Env} {σ : Heap} (h : Q .normal env σ) : AW P N n0 .skip Q env σ := fun φ ι _ w h1 h2 => wp_skip ⟨φ, ι, env, σ, .refl _ _ _ _, h1, h2, h⟩
theorem AW_ret {P : Program} {N n0 : Nat} {Q : Exit → Env → Heap → Prop} {env : Env} {σ : Heap} (h : Q .ret env σ) : AW P N n0 .ret Q env σ := fun φ ι _ w h1 h2 => wp_ret ⟨φ, ι, env, σ, .refl _ _ _ _, h1, h2, h⟩
theorem AW_exit {P : Program} {N n0 id : Nat} {Q : Exit → Env → Heap → Prop} {env : Env} {σ : Heap} (h : Q (.exit id) env σ) : AW P N n0 (.exit id) Q env σ := fun φ ι _ w h1 h2 => wp_exit ⟨φ, ι, env, σ, .refl _ _ _ _, h1, h2, h⟩
theorem AW_label {P : Program} {N n0 l : Nat} {Q : Exit → Env → Heap → Prop} {env : Env} {σ : Heap} (h : Q .normal env σ) : AW P N n0 (.label l) Q env σ := fun φ ι _ w h1 h2 => wp_label ⟨φ, ι, env, σ, .refl _ _ _ _, h1, h2, h⟩
def BlockK (id : Nat) (Q : Exit → Env → Heap → Prop) : Exit → Env → Heap → Prop
  | .exit id', env, σ => if id' = id then Q .normal env σ else Q (.exit id') env σ
  | e, env, σ => Q e env σ
theorem AW_block {P : Program} {N n0 id : Nat} {c : Code} {Q : Exit → Env → Heap → Prop} {env : Env} {σ : Heap} (h : AW P N n0 c (BlockK id Q) env σ) : AW P N n0 (.block id c) Q env σ := fun φ ι a w h1 h2 => by
  refine wp_block (Code.wp_mono (fun e a' w' q => ?_) (h φ ι a w h1 h2))
  obtain ⟨φ', ι', env', σ', g1, g2, g3, g4⟩ := q
  cases e
  case exit id' =>
    simp only [BlockK] at g4
    simp only [Exit.inBlock]
    split
    · rw [if_pos (by assumption)] at g4; exact ⟨φ', ι', env', σ', g1, g2, g3, g4⟩
    · rw [if_neg (by assumption)] at g4; exact ⟨φ', ι', env', σ', g1, g2, g3, g4⟩
  all_goals exact ⟨φ', ι', env', σ', g1, g2, g3, g4⟩

/-! ### Operands -/
inductive KX where
  | t (n : Nat)
  | c (v : PV)
def kx (env : Env) : KX → PV
  | .t n => look env n
  | .c v => v
def cv : Value → Option PV
  | .int k n => some (.int k n)
  | .bool b => some (.bool b)
  | .string s => some (.str s.data.toList)
  | .pointer none => some .nilptr
  | .slice none 0 0 => some .nils
  | .nilFunc => some .nilf
  | .nilIface => some .nili
  | _ => none
def trX : Operand → Option KX
  | .tmp t => some (.t t)
  | .const v => (cv v).map .c
  | .func f => some (.c (.fn (.func f) [] []))
  | .global _ => none
theorem cv_rel {v : Value} {c : PV} (h : cv v = some c) (φ : Frz) (ι : List KLoc) : Rel φ ι c v := by
  unfold cv at h
  split at h <;> simp at h <;> subst h
  · exact .int _ _
  · exact .bool _
  · exact .str _
  · exact .nilptr
  · exact .nils
  · exact .nilf
  · exact .nili
theorem trX_rel {N : Nat} {φ : Frz} {ι : List KLoc} {env : Env} {a : Act} (he : EOK N φ ι env a) {o : Operand} {x : KX} (h : trX o = some x) : Rel φ ι (kx env x) (a.eval o) := by
  cases o <;> simp [trX] at h
  case tmp t => subst h; exact he.rel t
  case const v => obtain ⟨c, hc, rfl⟩ := h; exact cv_rel hc φ ι
  case func f => subst h; exact .fn _ [] [] [] [] rfl rfl (by simp) (by simp)

theorem Rel.bool_inv {φ : Frz} {ι : List KLoc} {b : Bool} {v : Value} (h : Rel φ ι (.bool b) v) : v = .bool b := by cases h; rfl
theorem Rel.int_inv {φ : Frz} {ι : List KLoc} {k : IntKind} {n : Int} {v : Value} (h : Rel φ ι (.int k n) v) : v = .int k n := by cases h; rfl
theorem Rel.str_inv {φ : Frz} {ι : List KLoc} {s : List UInt8} {v : Value} (h : Rel φ ι (.str s) v) : v = .string ⟨s.toArray⟩ := by cases h; rfl
theorem Rel.nils_inv {φ : Frz} {ι : List KLoc} {v : Value} (h : Rel φ ι .nils v) : v = .slice none 0 0 := by cases h; rfl
theorem Rel.agg_inv {φ : Frz} {ι : List KLoc} {cs : List PV} {v : Value} (h : Rel φ ι (.agg cs) v) : ∃ vs : List Value, v = .agg vs.toArray ∧ RelL φ ι cs vs ∧ cs.all PV.ok = true := by
  cases h with
  | agg _ vs hl hok h => exact ⟨vs, rfl, ⟨hl, h⟩, hok⟩
theorem Rel.tup_inv {φ : Frz} {ι : List KLoc} {cs : List PV} {v : Value} (h : Rel φ ι (.tup cs) v) : ∃ vs : List Value, v = .tuple vs.toArray ∧ RelL φ ι cs vs := by
  cases h with
  | tup _ vs hl h => exact ⟨vs, rfl, ⟨hl, h⟩⟩
theorem Rel.ptr_inv {φ : Frz} {ι : List KLoc} {id off : Nat} {v : Value} (h : Rel φ ι (.ptr id off) v) : ∃ b, ι[id]? = some (.box b) ∧ v = .pointer (some ⟨b, off, none⟩) := by
  cases h with
  | ptr _ _ b h => exact ⟨b, h, rfl⟩
theorem Rel.fn_inv {φ : Frz} {ι : List KLoc} {f : Fn} {a b : List PV} {v : Value} (h : Rel φ ι (.fn f a b) v) : ∃ x y : List Value, v = .func f x.toArray y.toArray ∧ RelL φ ι a x ∧ RelL φ ι b y := by
  cases h with
  | fn _ _ _ x y ha hb h1 h2 => exact ⟨x, y, rfl, ⟨ha, h1⟩, ⟨hb, h2⟩⟩

theorem AW_cond {P : Program} {N n0 : Nat} {o : Operand} {x : KX} (hx : trX o = some x) {t f : Code} {Q : Exit → Env → Heap → Prop} {env : Env} {σ : Heap} {b : Bool} (hb : kx env x = .bool b)
    (ht : b = true → AW P N n0 t Q env σ) (hf : b = false → AW P N n0 f Q env σ) : AW P N n0 (.cond o t f) Q env σ := fun φ ι a w h1 h2 => by
  have hr := trX_rel h2.1 hx
  rw [hb] at hr
  have he : a.eval o = .bool b := hr.bool_inv
  refine wp_cond_split he (fun e => ht e φ ι a w h1 h2) (fun e => hf e φ ι a w h1 h2)

end Go.Kv
