/- How the abstract condition of code is reckoned out: one equation for each form, for simp. -/
import Derived.Test.YtkdkdkkimieieaaK13
namespace Go.Kv
set_option linter.unusedVariables false
set_option linter.unusedSimpArgs false

/-- The usual way to look at a function. -/
def mkCfg (P : Program) (hf : P.follows .mixedOrders = true) (fz : List Nat) (N n0 : Nat) : Cfg where
  P := P
  fz := fz
  N := N
  n0 := n0
  D := vOps P
  dr := trDraw P fz N
  ok := fun _ _ _ _ _ _ h hv => AW_draw hf h hv

variable {P : Program} {C : Cfg} {Q : Exit → Env → Heap → Prop} {env : Env} {σ : Heap} {K : PV → Heap → Prop}

section code
variable {hf : P.follows .mixedOrders = true} {fz : List Nat} {N n0 : Nat}
@[go_sem] theorem mkCfg_P : (mkCfg P hf fz N n0).P = P := Eq.trans rfl rfl
@[go_sem] theorem mkCfg_n0 : (mkCfg P hf fz N n0).n0 = n0 := Eq.trans rfl rfl
@[go_sem] theorem vc_skip : vc C .skip Q env σ = Q .normal env σ := Eq.trans rfl rfl
@[go_sem] theorem vc_ops (l : List KO) : vc (mkCfg P hf fz N n0) (.ops l) Q env σ = vOps P l Q env σ := Eq.trans rfl rfl
@[go_sem] theorem vc_draw (l : List KO) : vc (mkCfg P hf fz N n0) (.draw l) Q env σ = vOps P l Q env σ := Eq.trans rfl rfl
theorem vc_seq' (a b : KC) : vc C (.seq a b) Q env σ = vc C a (SK C b Q) env σ := Eq.trans rfl rfl
attribute [go_sem ↓] vc_seq'
def CondK (C : Cfg) (a b : KC) (Q : Exit → Env → Heap → Prop) (env : Env) (σ : Heap) : PV → Prop
  | .bool t => (t = true → vc C a Q env σ) ∧ (t = false → vc C b Q env σ)
  | _ => False
theorem vc_cond' (x : KX) (a b : KC) : vc C (.cond x a b) Q env σ = CondK C a b Q env σ (kx env x) := by
  simp only [vc, CondK]; cases kx env x <;> rfl
attribute [go_sem ↓] vc_cond'
@[go_sem] theorem CondK_true (a b : KC) : CondK C a b Q env σ (.bool true) = vc C a Q env σ := by simp [CondK]
@[go_sem] theorem CondK_false (a b : KC) : CondK C a b Q env σ (.bool false) = vc C b Q env σ := by simp [CondK]
@[go_sem low] theorem CondK_bool (a b : KC) (t : Bool) : CondK C a b Q env σ (.bool t) = ((t = true → vc C a Q env σ) ∧ (t = false → vc C b Q env σ)) := Eq.trans rfl rfl
theorem vc_block' (id : Nat) (b : KC) : vc C (.block id b) Q env σ = vc C b (BlockK id Q) env σ := Eq.trans rfl rfl
attribute [go_sem ↓] vc_block'
@[go_sem] theorem vc_loop' (b : KC) : vc C (.loop b) Q env σ = KL C b Q env σ := Eq.trans rfl rfl
@[go_sem] theorem vc_exit' (id : Nat) : vc C (.exit id) Q env σ = Q (.exit id) env σ := Eq.trans rfl rfl
@[go_sem] theorem vc_ret' : vc C .ret Q env σ = Q .ret env σ := Eq.trans rfl rfl
@[go_sem] theorem SK_normal (b : KC) : SK C b Q .normal env σ = vc C b Q env σ := Eq.trans rfl rfl
@[go_sem] theorem SK_exit (b : KC) (id : Nat) : SK C b Q (.exit id) env σ = Q (.exit id) env σ := Eq.trans rfl rfl
@[go_sem] theorem SK_ret (b : KC) : SK C b Q .ret env σ = Q .ret env σ := Eq.trans rfl rfl
@[go_sem] theorem LK_normal (b : KC) : LK C b Q .normal env σ = KL C b Q env σ := Eq.trans rfl rfl
@[go_sem] theorem LK_exit (b : KC) (id : Nat) : LK C b Q (.exit id) env σ = Q (.exit id) env σ := Eq.trans rfl rfl
@[go_sem] theorem LK_ret (b : KC) : LK C b Q .ret env σ = Q .ret env σ := Eq.trans rfl rfl
@[go_sem] theorem BlockK_normal (id : Nat) : BlockK id Q .normal env σ = Q .normal env σ := Eq.trans rfl rfl
@[go_sem] theorem BlockK_ret (id : Nat) : BlockK id Q .ret env σ = Q .ret env σ := Eq.trans rfl rfl
@[go_sem] theorem BlockK_exit (id id' : Nat) : BlockK id Q (.exit id') env σ = if id' = id then Q .normal env σ else Q (.exit id') env σ := Eq.trans rfl rfl
@[go_sem] theorem FinK_normal (rs : List KR) : FinK n0 rs K .normal env σ = resV n0 rs [] (fun vs => Fin n0 K (unTup vs) σ) env σ := Eq.trans rfl rfl
@[go_sem] theorem FinK_ret (rs : List KR) : FinK n0 rs K .ret env σ = resV n0 rs [] (fun vs => Fin n0 K (unTup vs) σ) env σ := Eq.trans rfl rfl
def ResK (n0 : Nat) (r : List KR) (vs : List PV) (K : PV → Heap → Prop) (env : Env) (σ : Heap) (v : PV) : Prop := resV n0 r (vs ++ [v]) (fun vs => Fin n0 K (unTup vs) σ) env σ
def ResN (n0 : Nat) (r : List KR) (vs : List PV) (K : PV → Heap → Prop) (env : Env) (σ : Heap) : Prop := resV n0 r vs (fun vs => Fin n0 K (unTup vs) σ) env σ
theorem resV_start (r : List KR) (vs : List PV) : resV n0 r vs (fun vs => Fin n0 K (unTup vs) σ) env σ = ResN n0 r vs K env σ := Eq.trans rfl rfl
attribute [go_sem ↓] resV_start
@[go_sem] theorem ResN_nil (vs : List PV) : ResN n0 [] vs K env σ = Fin n0 K (unTup vs) σ := Eq.trans rfl rfl
@[go_sem] theorem ResN_t (n : Nat) (r : List KR) (vs : List PV) : ResN n0 (.t n :: r) vs K env σ = ResN n0 r (vs ++ [look env n]) K env σ := Eq.trans rfl rfl
@[go_sem] theorem ResN_cell (n : Nat) (g : Bool) (z : Nat) (r : List KR) (vs : List PV) : ResN n0 (.cell n g z :: r) vs K env σ = aLoad g z (look env n) σ (ResK n0 r vs K env σ) := Eq.trans rfl rfl
@[go_sem] theorem unTup_one (v : PV) : unTup [v] = v := Eq.trans rfl rfl
@[go_sem] theorem unTup_two (a b : PV) (r : List PV) : unTup (a :: b :: r) = .tup (a :: b :: r) := Eq.trans rfl rfl
@[go_sem] theorem unTup_nil : unTup [] = .tup [] := Eq.trans rfl rfl
end code

section ops
variable {d : Option Nat} {r : List KO}
@[go_sem] theorem putD_some (k : Nat) (v : PV) : putD (some k) v env = (k, v) :: env := Eq.trans rfl rfl
@[go_sem] theorem putD_none (v : PV) : putD none v env = env := Eq.trans rfl rfl
@[go_sem] theorem vOps_nil : vOps P [] Q env σ = Q .normal env σ := Eq.trans rfl rfl
theorem vOps_op (p : KP) : vOps P (⟨d, none, p⟩ :: r) Q env σ = aOp P p env σ (OpK P d r Q env) := Eq.trans rfl rfl
attribute [go_sem ↓] vOps_op
def GuaK (P : Program) (d : Option Nat) (t : Nat) (want : Bool) (p : KP) (r : List KO) (Q : Exit → Env → Heap → Prop) (env : Env) (σ : Heap) : PV → Prop
  | .bool b => (b = want → aOp P p ((t, .bool want) :: env) σ (OpK P d r Q ((t, .bool want) :: env))) ∧ (b = (!want) → OpK P d r Q ((t, .bool (!want)) :: env) (.tup []) σ)
  | .tup [] => OpK P d r Q env (.tup []) σ
  | _ => False
theorem vOps_gd (t : Nat) (want : Bool) (p : KP) : vOps P (⟨d, some (t, want), p⟩ :: r) Q env σ = GuaK P d t want p r Q env σ (look env t) := by
  have key : ∀ v, look env t = v → vOps P (⟨d, some (t, want), p⟩ :: r) Q env σ = GuaK P d t want p r Q env σ v := by
    intro v hv
    unfold vOps
    simp only [hv]
    cases v with
    | tup l => cases l <;> rfl
    | _ => rfl
  exact key _ rfl
attribute [go_sem ↓] vOps_gd
@[go_sem] theorem GuaK_tt (t : Nat) (p : KP) : GuaK P d t true p r Q env σ (.bool true) = aOp P p ((t, .bool true) :: env) σ (OpK P d r Q ((t, .bool true) :: env)) := by simp [GuaK]
@[go_sem] theorem GuaK_ff (t : Nat) (p : KP) : GuaK P d t false p r Q env σ (.bool false) = aOp P p ((t, .bool false) :: env) σ (OpK P d r Q ((t, .bool false) :: env)) := by simp [GuaK]
@[go_sem] theorem GuaK_tf (t : Nat) (p : KP) : GuaK P d t true p r Q env σ (.bool false) = OpK P d r Q ((t, .bool false) :: env) (.tup []) σ := by simp [GuaK]
@[go_sem] theorem GuaK_ft (t : Nat) (p : KP) : GuaK P d t false p r Q env σ (.bool true) = OpK P d r Q ((t, .bool true) :: env) (.tup []) σ := by simp [GuaK]
@[go_sem] theorem GuaK_tup (t : Nat) (want : Bool) (p : KP) : GuaK P d t want p r Q env σ (.tup []) = OpK P d r Q env (.tup []) σ := Eq.trans rfl rfl
@[go_sem low] theorem GuaK_bt (t : Nat) (p : KP) (b : Bool) : GuaK P d t true p r Q env σ (.bool b) = ((b = true → aOp P p ((t, .bool true) :: env) σ (OpK P d r Q ((t, .bool true) :: env))) ∧ (b = false → OpK P d r Q ((t, .bool false) :: env) (.tup []) σ)) := Eq.trans rfl rfl
@[go_sem low] theorem GuaK_bf (t : Nat) (p : KP) (b : Bool) : GuaK P d t false p r Q env σ (.bool b) = ((b = false → aOp P p ((t, .bool false) :: env) σ (OpK P d r Q ((t, .bool false) :: env))) ∧ (b = true → OpK P d r Q ((t, .bool true) :: env) (.tup []) σ)) := Eq.trans rfl rfl

@[go_sem] theorem OpK_undef : OpK P d r Q env .undef σ = vOps P r Q (putD d .undef env) σ := Eq.trans rfl rfl
@[go_sem] theorem OpK_int (k : IntKind) (n : Int) : OpK P d r Q env (.int k n) σ = vOps P r Q (putD d (.int k n) env) σ := Eq.trans rfl rfl
@[go_sem] theorem OpK_bool (b : Bool) : OpK P d r Q env (.bool b) σ = vOps P r Q (putD d (.bool b) env) σ := Eq.trans rfl rfl
@[go_sem] theorem OpK_str (s : List UInt8) : OpK P d r Q env (.str s) σ = vOps P r Q (putD d (.str s) env) σ := Eq.trans rfl rfl
@[go_sem] theorem OpK_agg (s : List PV) : OpK P d r Q env (.agg s) σ = vOps P r Q (putD d (.agg s) env) σ := Eq.trans rfl rfl
@[go_sem] theorem OpK_tup (s : List PV) : OpK P d r Q env (.tup s) σ = vOps P r Q (putD d (.tup s) env) σ := Eq.trans rfl rfl
@[go_sem] theorem OpK_ptr (i o : Nat) : OpK P d r Q env (.ptr i o) σ = vOps P r Q (putD d (.ptr i o) env) σ := Eq.trans rfl rfl
@[go_sem] theorem OpK_fptr (s : List PV) (o : Nat) : OpK P d r Q env (.fptr s o) σ = vOps P r Q (putD d (.fptr s o) env) σ := Eq.trans rfl rfl
@[go_sem] theorem OpK_nilptr : OpK P d r Q env .nilptr σ = vOps P r Q (putD d .nilptr env) σ := Eq.trans rfl rfl
@[go_sem] theorem OpK_nils : OpK P d r Q env .nils σ = vOps P r Q (putD d .nils env) σ := Eq.trans rfl rfl
@[go_sem] theorem OpK_list (s : List PV) : OpK P d r Q env (.list s) σ = vOps P r Q (putD d (.list s) env) σ := Eq.trans rfl rfl
@[go_sem] theorem OpK_ref (i v o n : Nat) : OpK P d r Q env (.ref i v o n) σ = vOps P r Q (putD d (.ref i v o n) env) σ := Eq.trans rfl rfl
@[go_sem] theorem OpK_eptr (i v o n : Nat) : OpK P d r Q env (.eptr i v o n) σ = vOps P r Q (putD d (.eptr i v o n) env) σ := Eq.trans rfl rfl
@[go_sem] theorem OpK_bref (i o n : Nat) : OpK P d r Q env (.bref i o n) σ = vOps P r Q (putD d (.bref i o n) env) σ := Eq.trans rfl rfl
@[go_sem] theorem OpK_fn (f : Fn) (a b : List PV) : OpK P d r Q env (.fn f a b) σ = vOps P r Q (putD d (.fn f a b) env) σ := Eq.trans rfl rfl
@[go_sem] theorem OpK_nilf : OpK P d r Q env .nilf σ = vOps P r Q (putD d .nilf env) σ := Eq.trans rfl rfl
@[go_sem] theorem OpK_nili : OpK P d r Q env .nili σ = vOps P r Q (putD d .nili env) σ := Eq.trans rfl rfl
section res
variable {n0 : Nat} {rs : List KR} {vs : List PV}
@[go_sem] theorem ResK_int (k : IntKind) (n : Int) : ResK n0 rs vs K env σ (.int k n) = ResN n0 rs (vs ++ [.int k n]) K env σ := Eq.trans rfl rfl
@[go_sem] theorem ResK_bool (b : Bool) : ResK n0 rs vs K env σ (.bool b) = ResN n0 rs (vs ++ [.bool b]) K env σ := Eq.trans rfl rfl
@[go_sem] theorem ResK_agg (s : List PV) : ResK n0 rs vs K env σ (.agg s) = ResN n0 rs (vs ++ [.agg s]) K env σ := Eq.trans rfl rfl
@[go_sem] theorem ResK_list (s : List PV) : ResK n0 rs vs K env σ (.list s) = ResN n0 rs (vs ++ [.list s]) K env σ := Eq.trans rfl rfl
@[go_sem] theorem ResK_nils : ResK n0 rs vs K env σ .nils = ResN n0 rs (vs ++ [.nils]) K env σ := Eq.trans rfl rfl
@[go_sem] theorem ResK_ref (i v o n : Nat) : ResK n0 rs vs K env σ (.ref i v o n) = ResN n0 rs (vs ++ [.ref i v o n]) K env σ := Eq.trans rfl rfl
end res

attribute [go_sem] look_nil look_cons
@[go_sem] theorem kx_t (n : Nat) : kx env (.t n) = look env n := Eq.trans rfl rfl
@[go_sem] theorem kx_c (v : PV) : kx env (.c v) = v := Eq.trans rfl rfl
attribute [go_sem] List.map_cons List.map_nil List.nil_append List.cons_append List.append_nil

/-! ### Operations -/
@[go_sem] theorem aOp_mv (x : KX) : aOp P (.mv x) env σ K = K (kx env x) σ := Eq.trans rfl rfl
def PickK (a b : PV) (σ : Heap) (K : PV → Heap → Prop) : PV → Prop
  | .bool t => (t = true → K a σ) ∧ (t = false → K b σ)
  | _ => False
@[go_sem] theorem aOp_pick (c a b : KX) : aOp P (.pick c a b) env σ K = PickK (kx env a) (kx env b) σ K (kx env c) := by
  simp only [aOp, PickK]; cases kx env c <;> rfl
@[go_sem] theorem PickK_true (a b : PV) : PickK a b σ K (.bool true) = K a σ := by simp [PickK]
@[go_sem] theorem PickK_false (a b : PV) : PickK a b σ K (.bool false) = K b σ := by simp [PickK]
@[go_sem low] theorem PickK_bool (a b : PV) (t : Bool) : PickK a b σ K (.bool t) = ((t = true → K a σ) ∧ (t = false → K b σ)) := Eq.trans rfl rfl
@[go_sem] theorem aOp_alloc (z : List PV) : aOp P (.alloc z) env σ K = (z.all PV.ok = true ∧ K (.ptr σ.length 0) (σ ++ [.box z])) := Eq.trans rfl rfl
@[go_sem] theorem aOp_boxf (x : KX) : aOp P (.box true x) env σ K = ((kx env x).cs.all PV.ok = true ∧ K (.fptr (kx env x).cs 0) σ) := by simp [aOp]
@[go_sem] theorem aOp_boxo (x : KX) : aOp P (.box false x) env σ K = ((kx env x).cs.all PV.ok = true ∧ K (.ptr σ.length 0) (σ ++ [.box (kx env x).cs])) := by simp [aOp]
def HK (σ : Heap) (K : PV → Heap → Prop) (v : PV) : Prop := K v σ
section hk
@[go_sem] theorem HK_int (k : IntKind) (n : Int) : HK σ K (.int k n) = K (.int k n) σ := Eq.trans rfl rfl
@[go_sem] theorem HK_bool (b : Bool) : HK σ K (.bool b) = K (.bool b) σ := Eq.trans rfl rfl
@[go_sem] theorem HK_str (s : List UInt8) : HK σ K (.str s) = K (.str s) σ := Eq.trans rfl rfl
@[go_sem] theorem HK_agg (s : List PV) : HK σ K (.agg s) = K (.agg s) σ := Eq.trans rfl rfl
@[go_sem] theorem HK_ptr (i o : Nat) : HK σ K (.ptr i o) = K (.ptr i o) σ := Eq.trans rfl rfl
@[go_sem] theorem HK_fptr (s : List PV) (o : Nat) : HK σ K (.fptr s o) = K (.fptr s o) σ := Eq.trans rfl rfl
@[go_sem] theorem HK_nilptr : HK σ K .nilptr = K .nilptr σ := Eq.trans rfl rfl
@[go_sem] theorem HK_nils : HK σ K .nils = K .nils σ := Eq.trans rfl rfl
@[go_sem] theorem HK_list (s : List PV) : HK σ K (.list s) = K (.list s) σ := Eq.trans rfl rfl
@[go_sem] theorem HK_ref (i v o n : Nat) : HK σ K (.ref i v o n) = K (.ref i v o n) σ := Eq.trans rfl rfl
@[go_sem] theorem HK_eptr (i v o n : Nat) : HK σ K (.eptr i v o n) = K (.eptr i v o n) σ := Eq.trans rfl rfl
@[go_sem] theorem HK_fn (f : Fn) (a b : List PV) : HK σ K (.fn f a b) = K (.fn f a b) σ := Eq.trans rfl rfl
end hk
@[go_sem] theorem aOp_load (g : Bool) (n : Nat) (x : KX) : aOp P (.load g n x) env σ K = aLoad g n (kx env x) σ (HK σ K) := Eq.trans rfl rfl
@[go_sem] theorem aOp_store (n : Nat) (x y : KX) : aOp P (.store n x y) env σ K = aStore n (kx env x) (kx env y) σ (K .undef) := Eq.trans rfl rfl
def NilK (K : PV → Heap → Prop) (σ : Heap) (v : PV) : Prop := match v with | .ptr .. | .fptr .. | .fn (.func _) _ _ => K v σ | _ => False
@[go_sem] theorem aOp_nilck (x : KX) : aOp P (.nilck x) env σ K = NilK K σ (kx env x) := Eq.trans rfl rfl
@[go_sem] theorem NilK_ptr (i o : Nat) : NilK K σ (.ptr i o) = K (.ptr i o) σ := Eq.trans rfl rfl
@[go_sem] theorem NilK_fptr (s : List PV) (o : Nat) : NilK K σ (.fptr s o) = K (.fptr s o) σ := Eq.trans rfl rfl
@[go_sem] theorem NilK_fn (f : FuncId) (a b : List PV) : NilK K σ (.fn (.func f) a b) = K (.fn (.func f) a b) σ := Eq.trans rfl rfl
@[go_sem] theorem aOp_bin (op : BinOp) (x y : KX) : aOp P (.bin op x y) env σ K = aBin op (kx env x) (kx env y) (HK σ K) := Eq.trans rfl rfl
def BeqK (ng : Bool) (σ : Heap) (K : PV → Heap → Prop) : PV → PV → Prop
  | .bool a, .bool b => K (.bool (if ng = true then a != b else a == b)) σ
  | _, _ => False
@[go_sem] theorem aOp_beq (ng : Bool) (x y : KX) : aOp P (.beq ng x y) env σ K = BeqK ng σ K (kx env x) (kx env y) := by
  simp only [aOp, BeqK]
  split
  · rename_i a b h1 h2; rw [h1, h2]
  · rename_i h
    cases h1 : kx env x <;> cases h2 : kx env y <;> first | rfl | exact absurd h2 (h _ _ h1)
@[go_sem] theorem BeqK_f (a b : Bool) : BeqK false σ K (.bool a) (.bool b) = K (.bool (a == b)) σ := by simp [BeqK]
@[go_sem] theorem BeqK_t (a b : Bool) : BeqK true σ K (.bool a) (.bool b) = K (.bool (a != b)) σ := by simp [BeqK]
def AeqK (ng : Bool) (n : Nat) (σ : Heap) (K : PV → Heap → Prop) : PV → PV → Prop
  | .agg cs, .agg ds => ∃ xs ys : List Int, cs = ints xs ∧ ds = ints ys ∧ (xs.length = n ∧ ys.length = n) ∧ K (.bool (if ng = true then !decide (xs = ys) else decide (xs = ys))) σ
  | _, _ => False
@[go_sem] theorem aOp_aeq (ng : Bool) (n : Nat) (x y : KX) : aOp P (.aeq ng n x y) env σ K = AeqK ng n σ K (kx env x) (kx env y) := by
  simp only [aOp, AeqK]
  split
  · rename_i a b h1 h2; rw [h1, h2]
  · rename_i h
    cases h1 : kx env x <;> cases h2 : kx env y <;> first | rfl | exact absurd h2 (h _ _ h1)
theorem ints_inj {a b : List Int} (h : ints a = ints b) : a = b := by
  have := congrArg (List.map fun c => match c with | PV.int _ n => n | _ => 0) h
  simpa [ints, Function.comp_def] using this
@[go_sem] theorem AeqK_f (n : Nat) (a b : List Int) : AeqK false n σ K (.agg (ints a)) (.agg (ints b)) = ((a.length = n ∧ b.length = n) ∧ K (.bool (decide (a = b))) σ) := by
  simp only [AeqK, eq_iff_iff]
  exact ⟨fun ⟨x, y, h1, h2, h3, h4⟩ => by cases ints_inj h1; cases ints_inj h2; exact ⟨h3, by simpa using h4⟩, fun ⟨h1, h2⟩ => ⟨a, b, rfl, rfl, h1, by simpa using h2⟩⟩
@[go_sem] theorem AeqK_t (n : Nat) (a b : List Int) : AeqK true n σ K (.agg (ints a)) (.agg (ints b)) = ((a.length = n ∧ b.length = n) ∧ K (.bool (!decide (a = b))) σ) := by
  simp only [AeqK, eq_iff_iff]
  exact ⟨fun ⟨x, y, h1, h2, h3, h4⟩ => by cases ints_inj h1; cases ints_inj h2; exact ⟨h3, by simpa using h4⟩, fun ⟨h1, h2⟩ => ⟨a, b, rfl, rfl, h1, by simpa using h2⟩⟩
def NotK (σ : Heap) (K : PV → Heap → Prop) : PV → Prop
  | .bool b => K (.bool (!b)) σ
  | _ => False
@[go_sem] theorem aOp_not (x : KX) : aOp P (.not x) env σ K = NotK σ K (kx env x) := by simp only [aOp, NotK]; cases kx env x <;> rfl
@[go_sem] theorem NotK_bool (b : Bool) : NotK σ K (.bool b) = K (.bool (!b)) σ := Eq.trans rfl rfl
def NegK (σ : Heap) (K : PV → Heap → Prop) : PV → Prop
  | .int k n => aWrap k (0 - n) (HK σ K)
  | _ => False
@[go_sem] theorem aOp_neg (x : KX) : aOp P (.neg x) env σ K = NegK σ K (kx env x) := by simp only [aOp, NegK]; cases kx env x <;> rfl
@[go_sem] theorem NegK_int (k : IntKind) (n : Int) : NegK σ K (.int k n) = aWrap k (0 - n) (HK σ K) := Eq.trans rfl rfl
@[go_sem] theorem aOp_conv (k : IntKind) (x : KX) : aOp P (.conv k x) env σ K = aConv k (kx env x) (HK σ K) := Eq.trans rfl rfl
@[go_sem] theorem aOp_fieldA (o : Nat) (x : KX) : aOp P (.fieldA o x) env σ K = aAt (kx env x) o σ (HK σ K) := Eq.trans rfl rfl
def FldK (g : Bool) (n o : Nat) (σ : Heap) (K : PV → Heap → Prop) : PV → Prop
  | .agg cs => ldC g n cs o (HK σ K)
  | _ => False
@[go_sem] theorem aOp_fieldV (g : Bool) (n o : Nat) (x : KX) : aOp P (.fieldV g n o x) env σ K = FldK g n o σ K (kx env x) := by simp only [aOp, FldK]; cases kx env x <;> rfl
@[go_sem] theorem FldK_agg (g : Bool) (n o : Nat) (cs : List PV) : FldK g n o σ K (.agg cs) = ldC g n cs o (HK σ K) := Eq.trans rfl rfl
def IdxAK (len esz : Nat) (x : PV) (σ : Heap) (K : PV → Heap → Prop) : PV → Prop
  | .int _ n => (0 ≤ n ∧ n < len) ∧ aAt x (n.toNat * esz) σ (HK σ K)
  | _ => False
@[go_sem] theorem aOp_idxA (len esz : Nat) (x i : KX) : aOp P (.idxA len esz x i) env σ K = IdxAK len esz (kx env x) σ K (kx env i) := by simp only [aOp, IdxAK, intOf?]; cases kx env i <;> rfl
@[go_sem] theorem IdxAK_int (len esz : Nat) (x : PV) (k : IntKind) (n : Int) : IdxAK len esz x σ K (.int k n) = ((0 ≤ n ∧ n < len) ∧ aAt x (n.toNat * esz) σ (HK σ K)) := Eq.trans rfl rfl
def IdxSK (esz : Nat) (x : PV) (σ : Heap) (K : PV → Heap → Prop) : PV → Prop
  | .int _ n => aIdxS esz x n σ (HK σ K)
  | _ => False
@[go_sem] theorem aOp_idxS (esz : Nat) (x i : KX) : aOp P (.idxS esz x i) env σ K = IdxSK esz (kx env x) σ K (kx env i) := by simp only [aOp, IdxSK, intOf?]; cases kx env i <;> rfl
@[go_sem] theorem IdxSK_int (esz : Nat) (x : PV) (k : IntKind) (n : Int) : IdxSK esz x σ K (.int k n) = aIdxS esz x n σ (HK σ K) := Eq.trans rfl rfl
def IdxVK (len esz : Nat) (g : Bool) (σ : Heap) (K : PV → Heap → Prop) : PV → PV → Prop
  | .int _ n, .agg cs => (0 ≤ n ∧ n < len) ∧ ldC g esz cs (n.toNat * esz) (HK σ K)
  | _, _ => False
@[go_sem] theorem aOp_idxV (len esz : Nat) (g : Bool) (x i : KX) : aOp P (.idxV len esz g x i) env σ K = IdxVK len esz g σ K (kx env i) (kx env x) := by
  simp only [aOp, IdxVK, intOf?]; cases kx env i <;> cases kx env x <;> rfl
@[go_sem] theorem IdxVK_int (len esz : Nat) (g : Bool) (k : IntKind) (n : Int) (cs : List PV) : IdxVK len esz g σ K (.int k n) (.agg cs) = ((0 ≤ n ∧ n < len) ∧ ldC g esz cs (n.toNat * esz) (HK σ K)) := Eq.trans rfl rfl
def ExtK (i : Nat) (σ : Heap) (K : PV → Heap → Prop) : PV → Prop
  | .tup vs => (match vs[i]? with | some v => K v σ | none => False)
  | _ => False
@[go_sem] theorem aOp_extr (i : Nat) (x : KX) : aOp P (.extr i x) env σ K = ExtK i σ K (kx env x) := by simp only [aOp, ExtK]; cases kx env x <;> rfl
@[go_sem] theorem ExtK_0 (v : PV) (vs : List PV) : ExtK 0 σ K (.tup (v :: vs)) = K v σ := Eq.trans rfl rfl
@[go_sem] theorem ExtK_1 (u v : PV) (vs : List PV) : ExtK 1 σ K (.tup (u :: v :: vs)) = K v σ := Eq.trans rfl rfl
@[go_sem] theorem ExtK_2 (t u v : PV) (vs : List PV) : ExtK 2 σ K (.tup (t :: u :: v :: vs)) = K v σ := Eq.trans rfl rfl
@[go_sem] theorem aOp_mkfn (f : Fn) (a b : List KX) : aOp P (.mkfn f a b) env σ K = K (.fn f (a.map (kx env)) (b.map (kx env))) σ := Eq.trans rfl rfl
@[go_sem] theorem aOp_call (f : KX) (as : List KX) : aOp P (.call f as) env σ K = aCall P (kx env f) (as.map (kx env)) σ K := Eq.trans rfl rfl
@[go_sem] theorem aOp_pcall (f : KX) (as : List KX) : aOp P (.pcall f as) env σ K = aPCall P (kx env f) (as.map (kx env)) σ (HK σ K) := Eq.trans rfl rfl
@[go_sem] theorem aCall_fn (fid : FuncId) (a b args : List PV) : aCall P (.fn (.func fid) a b) args σ K = ACall P fid (a ++ args ++ b) σ K := Eq.trans rfl rfl
@[go_sem] theorem aPCall_fn (fid : FuncId) (a b args : List PV) (K : PV → Prop) : aPCall P (.fn (.func fid) a b) args σ K = PCall P fid (a ++ args ++ b) σ K := Eq.trans rfl rfl
@[go_sem] theorem aOp_lenS (x : KX) : aOp P (.len false x) env σ K = aLen (kx env x) σ (HK σ K) := by
  simp only [aOp]; cases kx env x <;> rfl
@[go_sem] theorem aOp_app (s x : KX) (e : TypeId) (esz : Nat) : aOp P (.app s x e esz) env σ K = aApp e esz (kx env s) (kx env x) σ K := Eq.trans rfl rfl
def MksK (e : TypeId) (esz : Nat) (z : PV) (σ : Heap) (K : PV → Heap → Prop) : PV → PV → Prop
  | .int _ n, .int _ m => (0 ≤ n ∧ n ≤ m ∧ m ≤ 4294967296) ∧ K (.ref σ.length 0 0 n.toNat) (σ ++ [.arr 0 e esz (List.replicate n.toNat z)])
  | _, _ => False
@[go_sem] theorem aOp_mks (e : TypeId) (esz : Nat) (z : PV) (l c : KX) : aOp P (.mks e esz z l c) env σ K = MksK e esz z σ K (kx env l) (kx env c) := by
  simp only [aOp, MksK, intOf?]; cases kx env l <;> cases kx env c <;> rfl
@[go_sem] theorem MksK_int (e : TypeId) (esz : Nat) (z : PV) (k k' : IntKind) (n m : Int) : MksK e esz z σ K (.int k n) (.int k' m) = ((0 ≤ n ∧ n ≤ m ∧ m ≤ 4294967296) ∧ K (.ref σ.length 0 0 n.toNat) (σ ++ [.arr 0 e esz (List.replicate n.toNat z)])) := Eq.trans rfl rfl
@[go_sem] theorem aOp_bslf (e : TypeId) (esz : Nat) (ps : List KX) : aOp P (.bsl true e esz ps) env σ K = (okL esz (ps.map (kx env)) ∧ K (.list (ps.map (kx env))) σ) := by simp [aOp]
@[go_sem] theorem aOp_bslo (e : TypeId) (esz : Nat) (ps : List KX) : aOp P (.bsl false e esz ps) env σ K = (okL esz (ps.map (kx env)) ∧ K (.ref σ.length 0 0 ps.length) (σ ++ [.arr 0 e esz (ps.map (kx env))])) := by simp [aOp]
@[go_sem] theorem aOp_build (z : List PV) (ps : List (Nat × Nat × KX)) : aOp P (.build z ps) env σ K = ((z.all PV.ok = true ∧ buildOK env z.length ps) ∧ K (.agg (buildC env z ps)) σ) := Eq.trans rfl rfl
@[go_sem] theorem buildOK_nil (n : Nat) : buildOK env n [] = True := Eq.trans rfl rfl
@[go_sem] theorem buildOK_cons (n o z : Nat) (x : KX) (r : List (Nat × Nat × KX)) : buildOK env n ((o, z, x) :: r) = (((kx env x).cs.length = z ∧ (kx env x).cs.all PV.ok = true ∧ o + z ≤ n) ∧ buildOK env n r) := Eq.trans rfl rfl
@[go_sem] theorem buildC_nil (cs : List PV) : buildC env cs [] = cs := Eq.trans rfl rfl
@[go_sem] theorem buildC_cons (cs : List PV) (o z : Nat) (x : KX) (r : List (Nat × Nat × KX)) : buildC env cs ((o, z, x) :: r) = buildC env (putC cs o (kx env x).cs) r := Eq.trans rfl rfl
def SlsK (esz : Nat) (x : PV) (σ : Heap) (K : PV → Heap → Prop) (lo hi : Option PV) : Prop :=
  ((∀ y, lo = some y → ∃ n, intOf? y = some n) ∧ ∀ y, hi = some y → ∃ n, intOf? y = some n) ∧ aSls esz x (lo.bind intOf?) (hi.bind intOf?) σ (HK σ K)
@[go_sem] theorem aOp_sls (esz : Nat) (x : KX) (lo hi : Option KX) : aOp P (.sls esz x lo hi) env σ K = SlsK esz (kx env x) σ K (lo.map (kx env)) (hi.map (kx env)) := by
  cases lo <;> cases hi <;> simp [aOp, SlsK] <;> first | rfl | (intros; exact Iff.rfl)
attribute [go_sem] Option.map_some Option.map_none
@[go_sem] theorem SlsK_nn (esz : Nat) (x : PV) : SlsK esz x σ K none none = aSls esz x none none σ (HK σ K) := by simp [SlsK]
@[go_sem] theorem SlsK_in (esz : Nat) (x : PV) (k : IntKind) (n : Int) : SlsK esz x σ K (some (.int k n)) none = aSls esz x (some n) none σ (HK σ K) := by simp [SlsK, intOf?]
@[go_sem] theorem SlsK_ni (esz : Nat) (x : PV) (k : IntKind) (n : Int) : SlsK esz x σ K none (some (.int k n)) = aSls esz x none (some n) σ (HK σ K) := by simp [SlsK, intOf?]
@[go_sem] theorem SlsK_ii (esz : Nat) (x : PV) (k k' : IntKind) (n m : Int) : SlsK esz x σ K (some (.int k n)) (some (.int k' m)) = aSls esz x (some n) (some m) σ (HK σ K) := by simp [SlsK, intOf?]
@[go_sem] theorem aOp_mnmx (m : Bool) (x : KX) (xs : List KX) : aOp P (.mnmx m x xs) env σ K = mnmxV m (kx env x) (xs.map (kx env)) (HK σ K) := Eq.trans rfl rfl
@[go_sem] theorem aOp_clr (esz : Nat) (z : PV) (x : KX) : aOp P (.clr esz z x) env σ K = aClr esz z (kx env x) σ (K (.tup [])) := Eq.trans rfl rfl
@[go_sem] theorem aOp_bad : aOp P .bad env σ K = False := Eq.trans rfl rfl
end ops

/-! ### Numbers -/
section num
variable {K : PV → Prop} {k : IntKind} {a b n : Int}
@[go_sem] theorem aBin_int (op : BinOp) : aBin op (.int k a) (.int k b) K = aInt op k a b K := by simp [aBin]
@[go_sem] theorem aInt_add : aInt .add k a b K = aWrap k (a + b) K := Eq.trans rfl rfl
@[go_sem] theorem aInt_sub : aInt .sub k a b K = aWrap k (a - b) K := Eq.trans rfl rfl
@[go_sem] theorem aInt_mul : aInt .mul k a b K = aWrap k (a * b) K := Eq.trans rfl rfl
@[go_sem] theorem aInt_quo : aInt .quo k a b K = ((0 ≤ a ∧ 0 < b) ∧ aWrap k (a / b) K) := Eq.trans rfl rfl
@[go_sem] theorem aInt_rem : aInt .rem k a b K = ((0 ≤ a ∧ 0 < b) ∧ K (.int k (a % b))) := Eq.trans rfl rfl
@[go_sem] theorem aInt_eql : aInt .eql k a b K = K (.bool (decide (a = b))) := Eq.trans rfl rfl
@[go_sem] theorem aInt_neq : aInt .neq k a b K = K (.bool (!decide (a = b))) := Eq.trans rfl rfl
@[go_sem] theorem aInt_lss : aInt .lss k a b K = K (.bool (decide (a < b))) := Eq.trans rfl rfl
@[go_sem] theorem aInt_leq : aInt .leq k a b K = K (.bool (decide (a ≤ b))) := Eq.trans rfl rfl
@[go_sem] theorem aInt_gtr : aInt .gtr k a b K = K (.bool (decide (b < a))) := Eq.trans rfl rfl
@[go_sem] theorem aInt_geq : aInt .geq k a b K = K (.bool (decide (b ≤ a))) := Eq.trans rfl rfl
@[go_sem] theorem aWrap_i64 : aWrap .i64 n K = ((-9223372036854775808 ≤ n ∧ n ≤ 9223372036854775807) ∧ K (.int .i64 n)) := Eq.trans rfl rfl
@[go_sem] theorem aConv_int (k' : IntKind) : aConv k (.int k' n) K = aWrap k n K := Eq.trans rfl rfl
@[go_sem] theorem mnmxV_nil (m : Bool) (x : PV) : mnmxV m x [] K = K x := by cases x <;> rfl
@[go_sem] theorem mnmxV_max (k' : IntKind) (r : List PV) : mnmxV true (.int k a) (.int k' b :: r) K = mnmxV true (.int k (max a b)) r K := by simp [mnmxV]
@[go_sem] theorem mnmxV_min (k' : IntKind) (r : List PV) : mnmxV false (.int k a) (.int k' b :: r) K = mnmxV false (.int k (min a b)) r K := by simp [mnmxV]
end num

/-! ### Memory -/
section mem
variable {K : PV → Prop} {KH : Heap → Prop} {σ : Heap}
@[go_sem] theorem cs_int (k : IntKind) (n : Int) : (PV.int k n).cs = [.int k n] := Eq.trans rfl rfl
@[go_sem] theorem cs_bool (b : Bool) : (PV.bool b).cs = [.bool b] := Eq.trans rfl rfl
@[go_sem] theorem cs_agg (l : List PV) : (PV.agg l).cs = l := Eq.trans rfl rfl
@[go_sem] theorem cs_list (l : List PV) : (PV.list l).cs = [.list l] := Eq.trans rfl rfl
@[go_sem] theorem cs_nils : (PV.nils).cs = [.nils] := Eq.trans rfl rfl
@[go_sem] theorem cs_ref (i v o n : Nat) : (PV.ref i v o n).cs = [.ref i v o n] := Eq.trans rfl rfl
@[go_sem] theorem cs_fn (f : Fn) (a b : List PV) : (PV.fn f a b).cs = [.fn f a b] := Eq.trans rfl rfl
@[go_sem] theorem cs_ptr (i o : Nat) : (PV.ptr i o).cs = [.ptr i o] := Eq.trans rfl rfl
@[go_sem] theorem cs_fptr (l : List PV) (o : Nat) : (PV.fptr l o).cs = [.fptr l o] := Eq.trans rfl rfl
@[go_sem] theorem ok_int (k : IntKind) (n : Int) : (PV.int k n).ok = true := Eq.trans rfl rfl
@[go_sem] theorem ok_bool (b : Bool) : (PV.bool b).ok = true := Eq.trans rfl rfl
@[go_sem] theorem ok_list (l : List PV) : (PV.list l).ok = true := Eq.trans rfl rfl
@[go_sem] theorem ok_nils : (PV.nils).ok = true := Eq.trans rfl rfl
@[go_sem] theorem ok_ref (i v o n : Nat) : (PV.ref i v o n).ok = true := Eq.trans rfl rfl
@[go_sem] theorem ok_fn (f : Fn) (a b : List PV) : (PV.fn f a b).ok = true := Eq.trans rfl rfl
@[go_sem] theorem ok_ptr (i o : Nat) : (PV.ptr i o).ok = true := Eq.trans rfl rfl
@[go_sem] theorem ok_fptr (l : List PV) (o : Nat) : (PV.fptr l o).ok = true := Eq.trans rfl rfl
attribute [go_sem] List.all_cons List.all_nil Bool.and_self List.all_append Bool.and_true Bool.true_and
@[go_sem] theorem ints_length (l : List Int) : (ints l).length = l.length := by simp [ints]
@[go_sem] theorem ints_ok (l : List Int) : (ints l).all PV.ok = true := by simp [ints, PV.ok]
@[go_sem] theorem flat_ints (l : List Int) : flat (ints l) = ints l := by
  induction l with
  | nil => rfl
  | cons a l ih => simp only [ints, List.map_cons, flat_cons] at ih ⊢; rw [ih]; rfl
/-- Maps (or any rows of numbers) in a list. -/
def aggs (l : List (List Int)) : List PV := l.map fun m => .agg (ints m)
/-- Lists of numbers in a list. -/
def rows (l : List (List Int)) : List PV := l.map fun m => .list (ints m)
@[go_sem] theorem aggs_length (l : List (List Int)) : (aggs l).length = l.length := by simp [aggs]
@[go_sem] theorem rows_length (l : List (List Int)) : (rows l).length = l.length := by simp [rows]

theorem all_get_ints (l : List Int) (i : Nat) (p : PV → Prop) : (∀ c, (ints l)[i]? = some c → p c) = (i < l.length → p (.int .i64 (l.getD i 0))) := by
  rw [eq_iff_iff]
  simp only [ints, List.getElem?_map, Option.map_eq_some_iff, List.getD_eq_getElem?_getD]
  constructor
  · intro h hi
    rw [List.getElem?_eq_getElem hi]
    exact h _ ⟨l[i], List.getElem?_eq_getElem hi, rfl⟩
  · rintro h c ⟨x, hx, rfl⟩
    have := h (List.getElem?_eq_some_iff.1 hx).1
    rwa [hx] at this
theorem all_get_aggs (l : List (List Int)) (i : Nat) (p : PV → Prop) : (∀ c, (aggs l)[i]? = some c → p c) = (i < l.length → p (.agg (ints (l.getD i [])))) := by
  rw [eq_iff_iff]
  simp only [aggs, List.getElem?_map, Option.map_eq_some_iff, List.getD_eq_getElem?_getD]
  constructor
  · intro h hi
    rw [List.getElem?_eq_getElem hi]
    exact h _ ⟨l[i], List.getElem?_eq_getElem hi, rfl⟩
  · rintro h c ⟨x, hx, rfl⟩
    have := h (List.getElem?_eq_some_iff.1 hx).1
    rwa [hx] at this
theorem all_get_rows (l : List (List Int)) (i : Nat) (p : PV → Prop) : (∀ c, (rows l)[i]? = some c → p c) = (i < l.length → p (.list (ints (l.getD i [])))) := by
  rw [eq_iff_iff]
  simp only [rows, List.getElem?_map, Option.map_eq_some_iff, List.getD_eq_getElem?_getD]
  constructor
  · intro h hi
    rw [List.getElem?_eq_getElem hi]
    exact h _ ⟨l[i], List.getElem?_eq_getElem hi, rfl⟩
  · rintro h c ⟨x, hx, rfl⟩
    have := h (List.getElem?_eq_some_iff.1 hx).1
    rwa [hx] at this
theorem all_get_0 (x : PV) (l : List PV) (p : PV → Prop) : (∀ c, (x :: l)[0]? = some c → p c) = p x := by simp
theorem all_get_1 (x y : PV) (l : List PV) (p : PV → Prop) : (∀ c, (x :: y :: l)[1]? = some c → p c) = p y := by simp
theorem all_get_s (x : PV) (l : List PV) (i : Nat) (p : PV → Prop) : (∀ c, (x :: l)[i + 1]? = some c → p c) = (∀ c, l[i]? = some c → p c) := by simp
@[go_sem] theorem all_some (x : PV) (p : PV → Prop) : (∀ c, some x = some c → p c) = p x := by simp
attribute [go_sem ↓] all_get_ints all_get_aggs all_get_rows all_get_0 all_get_1 all_get_s
@[go_sem] theorem ints_set (l : List Int) (i : Nat) (k : Int) : (ints l).set i (.int .i64 k) = ints (l.set i k) := by simp [ints, List.map_set]
@[go_sem] theorem ints_snoc (l : List Int) (k : Int) : ints l ++ [.int .i64 k] = ints (l ++ [k]) := by simp [ints]
@[go_sem] theorem ints_append (l m : List Int) : ints l ++ ints m = ints (l ++ m) := by simp [ints]
@[go_sem] theorem ints_take (l : List Int) (n : Nat) : (ints l).take n = ints (l.take n) := by simp [ints, List.map_take]
@[go_sem] theorem ints_drop (l : List Int) (n : Nat) : (ints l).drop n = ints (l.drop n) := by simp [ints, List.map_drop]
@[go_sem] theorem ints_rep (n : Nat) (k : Int) : List.replicate n (PV.int .i64 k) = ints (List.replicate n k) := by simp [ints]
@[go_sem] theorem ints_fold (l : List Int) : l.map (PV.int .i64) = ints l := Eq.trans rfl rfl
@[go_sem] theorem aggs_snoc (l : List (List Int)) (k : List Int) : aggs l ++ [.agg (ints k)] = aggs (l ++ [k]) := by simp [aggs]
@[go_sem] theorem aggs_take (l : List (List Int)) (n : Nat) : (aggs l).take n = aggs (l.take n) := by simp [aggs, List.map_take]
@[go_sem] theorem aggs_drop (l : List (List Int)) (n : Nat) : (aggs l).drop n = aggs (l.drop n) := by simp [aggs, List.map_drop]
@[go_sem] theorem aggs_set (l : List (List Int)) (i : Nat) (k : List Int) : (aggs l).set i (.agg (ints k)) = aggs (l.set i k) := by simp [aggs, List.map_set]
@[go_sem] theorem rows_snoc (l : List (List Int)) (k : List Int) : rows l ++ [.list (ints k)] = rows (l ++ [k]) := by simp [rows]
@[go_sem] theorem rows_take (l : List (List Int)) (n : Nat) : (rows l).take n = rows (l.take n) := by simp [rows, List.map_take]
@[go_sem] theorem rows_drop (l : List (List Int)) (n : Nat) : (rows l).drop n = rows (l.drop n) := by simp [rows, List.map_drop]
attribute [go_sem] List.take_length

@[go_sem] theorem ldC_t (n : Nat) (cs : List PV) (o : Nat) : ldC true n cs o K = (o + n ≤ cs.length ∧ K (.agg (subC cs o n))) := by simp [ldC]
theorem ldC_f (n : Nat) (cs : List PV) (o : Nat) : ldC false n cs o K = (o < cs.length ∧ ∀ c, cs[o]? = some c → K c) := by simp [ldC]
attribute [go_sem ↓] ldC_f
@[go_sem] theorem subC_ints (m : List Int) (o n : Nat) : subC (ints m) o n = ints ((m.drop o).take n) := by
  unfold subC
  split
  · rename_i h
    obtain ⟨rfl, h⟩ := h
    rw [ints_length] at h
    rw [List.drop_zero, List.take_of_length_le (by omega)]
  · rw [ints_drop, ints_take]
@[go_sem] theorem putC_one (cs : List PV) (o : Nat) (v : PV) : putC cs o [v] = cs.set o v := Eq.trans rfl rfl
theorem putC_ints (m l : List Int) (o : Nat) (h : o + l.length ≤ m.length) : putC (ints m) o (ints l) = ints (m.take o ++ l ++ m.drop (o + l.length)) := by
  unfold putC
  split
  · rename_i v hv
    cases l with
    | nil => simp [ints] at hv
    | cons a l =>
      cases l with
      | nil =>
        simp [ints] at hv; subst hv
        rw [ints_set]
        congr 1
        rw [List.set_eq_take_append_cons_drop, if_pos (by simp at h; omega)]
        simp
      | cons b l => simp [ints] at hv
  · split
    · rename_i h'
      obtain ⟨rfl, h'⟩ := h'
      simp only [ints_length] at h'
      simp [h']
    · simp [ints, List.map_take, List.map_drop]
@[go_sem] theorem aLoad_fptr (g : Bool) (n : Nat) (cs : List PV) (o : Nat) : aLoad g n (.fptr cs o) σ K = ldC g n cs o K := Eq.trans rfl rfl
def LdP (g : Bool) (n o : Nat) (K : PV → Prop) : Option AObj → Prop
  | some (.box cs) => ldC g n cs o K
  | _ => False
@[go_sem] theorem aLoad_ptr (g : Bool) (n id o : Nat) : aLoad g n (.ptr id o) σ K = LdP g n o K σ[id]? := by
  simp only [aLoad, LdP]; cases σ[id]? with | none => rfl | some x => cases x <;> rfl
@[go_sem] theorem LdP_box (g : Bool) (n o : Nat) (cs : List PV) : LdP g n o K (some (.box cs)) = ldC g n cs o K := Eq.trans rfl rfl
def LdE (g : Bool) (n ver i o : Nat) (K : PV → Prop) : Option AObj → Prop
  | some (.arr v _ _ xs) => v = ver ∧ i < xs.length ∧ ∀ x, xs[i]? = some x → ldC g n x.cs o K
  | _ => False
@[go_sem] theorem aLoad_eptr (g : Bool) (n id ver i o : Nat) : aLoad g n (.eptr id ver i o) σ K = LdE g n ver i o K σ[id]? := by
  simp only [aLoad, LdE]; cases σ[id]? with | none => rfl | some x => cases x <;> rfl
theorem LdE_arr (g : Bool) (n ver i o v : Nat) (e : TypeId) (es : Nat) (xs : List PV) : LdE g n ver i o K (some (.arr v e es xs)) = (v = ver ∧ i < xs.length ∧ ∀ x, xs[i]? = some x → ldC g n x.cs o K) := Eq.trans rfl rfl
attribute [go_sem ↓] LdE_arr
def StP (n o id : Nat) (y : PV) (σ : Heap) (KH : Heap → Prop) : Option AObj → Prop
  | some (.box cs) => (y.cs.length = n ∧ y.cs.all PV.ok = true ∧ o + n ≤ cs.length) ∧ KH (σ.set id (.box (putC cs o y.cs)))
  | _ => False
@[go_sem] theorem aStore_ptr (n id o : Nat) (y : PV) : aStore n (.ptr id o) y σ KH = StP n o id y σ KH σ[id]? := by
  simp only [aStore, StP]; cases σ[id]? with | none => rfl | some x => cases x <;> rfl
@[go_sem] theorem StP_box (n o id : Nat) (y : PV) (cs : List PV) : StP n o id y σ KH (some (.box cs)) = ((y.cs.length = n ∧ y.cs.all PV.ok = true ∧ o + n ≤ cs.length) ∧ KH (σ.set id (.box (putC cs o y.cs)))) := Eq.trans rfl rfl
def StE (n ver i o id : Nat) (y : PV) (σ : Heap) (KH : Heap → Prop) : Option AObj → Prop
  | some (.arr v e esz xs) => (v = ver ∧ y.cs.length = n ∧ y.cs.all PV.ok = true ∧ i < xs.length) ∧ ∀ x, xs[i]? = some x → o + n ≤ x.cs.length ∧ KH (σ.set id (.arr v e esz (xs.set i (putE x o y))))
  | _ => False
@[go_sem] theorem aStore_eptr (n id ver i o : Nat) (y : PV) : aStore n (.eptr id ver i o) y σ KH = StE n ver i o id y σ KH σ[id]? := by
  simp only [aStore, StE]; cases σ[id]? with | none => rfl | some x => cases x <;> rfl
theorem StE_arr (n ver i o id v : Nat) (y : PV) (e : TypeId) (es : Nat) (xs : List PV) : StE n ver i o id y σ KH (some (.arr v e es xs)) = ((v = ver ∧ y.cs.length = n ∧ y.cs.all PV.ok = true ∧ i < xs.length) ∧ ∀ x, xs[i]? = some x → o + n ≤ x.cs.length ∧ KH (σ.set id (.arr v e es (xs.set i (putE x o y))))) := Eq.trans rfl rfl
attribute [go_sem ↓] StE_arr
@[go_sem] theorem putE_int (k : IntKind) (n : Int) (o : Nat) (y : PV) : putE (.int k n) o y = y := Eq.trans rfl rfl
@[go_sem] theorem putE_bool (b : Bool) (o : Nat) (y : PV) : putE (.bool b) o y = y := Eq.trans rfl rfl
@[go_sem] theorem putE_list (l : List PV) (o : Nat) (y : PV) : putE (.list l) o y = y := Eq.trans rfl rfl
@[go_sem] theorem putE_nils (o : Nat) (y : PV) : putE .nils o y = y := Eq.trans rfl rfl
@[go_sem] theorem putE_ref (a b c d o : Nat) (y : PV) : putE (.ref a b c d) o y = y := Eq.trans rfl rfl
@[go_sem] theorem putE_agg (cs : List PV) (o : Nat) (y : PV) : putE (.agg cs) o y = .agg (putC cs o y.cs) := Eq.trans rfl rfl
attribute [go_sem] List.getElem?_cons_zero List.getElem?_cons_succ List.set_cons_zero List.set_cons_succ List.length_cons List.length_nil List.length_append List.length_set Nat.zero_add

@[go_sem] theorem aNews_nils (esz : Nat) (K : List PV → Prop) : aNews esz .nils σ K = K [] := Eq.trans rfl rfl
@[go_sem] theorem aNews_list (esz : Nat) (l : List PV) (K : List PV → Prop) : aNews esz (.list l) σ K = (okL esz l ∧ K l) := Eq.trans rfl rfl
def NwR (esz ver off len : Nat) (K : List PV → Prop) : Option AObj → Prop
  | some (.arr v _ es ys) => (v = ver ∧ es = esz ∧ off + len ≤ ys.length) ∧ K ((ys.drop off).take len)
  | _ => False
@[go_sem] theorem aNews_ref (esz id ver off len : Nat) (K : List PV → Prop) : aNews esz (.ref id ver off len) σ K = NwR esz ver off len K σ[id]? := by
  simp only [aNews, NwR]; cases σ[id]? with | none => rfl | some x => cases x <;> rfl
@[go_sem] theorem NwR_arr (esz ver off len v es : Nat) (e : TypeId) (ys : List PV) (K : List PV → Prop) : NwR esz ver off len K (some (.arr v e es ys)) = ((v = ver ∧ es = esz ∧ off + len ≤ ys.length) ∧ K ((ys.drop off).take len)) := Eq.trans rfl rfl
@[go_sem] theorem okL_nil (esz : Nat) : okL esz [] = True := by simp [okL]
@[go_sem] theorem okL_cons (esz : Nat) (x : PV) (l : List PV) : okL esz (x :: l) = ((x.cs.length = esz ∧ x.cs.all PV.ok = true) ∧ okL esz l) := by simp [okL]
@[go_sem] theorem okL_ints (l : List Int) : okL 1 (ints l) = True := by simp [okL, ints, PV.cs, PV.ok]
@[go_sem] theorem okL_rows (l : List (List Int)) : okL 1 (rows l) = True := by simp [okL, rows, PV.cs, PV.ok]
theorem okL_aggs (n : Nat) (l : List (List Int)) : okL n (aggs l) = (∀ m ∈ l, m.length = n) := by
  simp only [okL, aggs, List.mem_map, eq_iff_iff]
  constructor
  · intro h m hm
    have := (h _ ⟨m, hm, rfl⟩).1
    simpa [PV.cs, ints_length] using this
  · rintro h y ⟨m, hm, rfl⟩
    exact ⟨by simpa [PV.cs, ints_length] using h m hm, ints_ok m⟩
variable {K2 : PV → Heap → Prop}
def AppN (e : TypeId) (esz : Nat) (σ : Heap) (K : PV → Heap → Prop) (ns : List PV) : Prop := ns.length ≤ 4294967296 ∧ K (.ref σ.length 0 0 ns.length) (σ ++ [.arr 0 e esz ns])
@[go_sem] theorem aApp_nils (e : TypeId) (esz : Nat) (x : PV) : aApp e esz .nils x σ K2 = aNews esz x σ (AppN e esz σ K2) := Eq.trans rfl rfl
@[go_sem] theorem AppN_def (e : TypeId) (esz : Nat) (ns : List PV) : AppN e esz σ K2 ns = (ns.length ≤ 4294967296 ∧ K2 (.ref σ.length 0 0 ns.length) (σ ++ [.arr 0 e esz ns])) := Eq.trans rfl rfl
def AppR (e : TypeId) (esz id ver off len : Nat) (x : PV) (σ : Heap) (K : PV → Heap → Prop) : Option AObj → Prop
  | some (.arr v e' es xs) => aNews esz x σ fun ns => (v = ver ∧ e' = e ∧ es = esz ∧ off = 0 ∧ len ≤ xs.length ∧ len + ns.length ≤ 4294967296) ∧ K (.ref id (ver + 1) 0 (len + ns.length)) (σ.set id (.arr (ver + 1) e esz (xs.take len ++ ns)))
  | _ => False
def AppM (e : TypeId) (esz id ver off len v : Nat) (e' : TypeId) (es : Nat) (xs : List PV) (σ : Heap) (K : PV → Heap → Prop) (ns : List PV) : Prop :=
  (v = ver ∧ e' = e ∧ es = esz ∧ off = 0 ∧ len ≤ xs.length ∧ len + ns.length ≤ 4294967296) ∧ K (.ref id (ver + 1) 0 (len + ns.length)) (σ.set id (.arr (ver + 1) e esz (xs.take len ++ ns)))
@[go_sem] theorem aApp_ref (e : TypeId) (esz id ver off len : Nat) (x : PV) : aApp e esz (.ref id ver off len) x σ K2 = AppR e esz id ver off len x σ K2 σ[id]? := by
  simp only [aApp, AppR]; cases σ[id]? with | none => rfl | some x => cases x <;> rfl
@[go_sem] theorem AppR_arr (e : TypeId) (esz id ver off len v : Nat) (e' : TypeId) (es : Nat) (xs : List PV) (x : PV) : AppR e esz id ver off len x σ K2 (some (.arr v e' es xs)) = aNews esz x σ (AppM e esz id ver off len v e' es xs σ K2) := Eq.trans rfl rfl
@[go_sem] theorem AppM_def (e : TypeId) (esz id ver off len v : Nat) (e' : TypeId) (es : Nat) (xs ns : List PV) : AppM e esz id ver off len v e' es xs σ K2 ns = ((v = ver ∧ e' = e ∧ es = esz ∧ off = 0 ∧ len ≤ xs.length ∧ len + ns.length ≤ 4294967296) ∧ K2 (.ref id (ver + 1) 0 (len + ns.length)) (σ.set id (.arr (ver + 1) e esz (xs.take len ++ ns)))) := Eq.trans rfl rfl
@[go_sem] theorem aLen_nils : aLen .nils σ K = K (.int .i64 0) := Eq.trans rfl rfl
@[go_sem] theorem aLen_list (l : List PV) : aLen (.list l) σ K = K (.int .i64 l.length) := Eq.trans rfl rfl
def LnR (ver len : Nat) (K : PV → Prop) : Option AObj → Prop
  | some (.arr v _ _ _) => v = ver ∧ K (.int .i64 len)
  | _ => False
@[go_sem] theorem aLen_ref (id ver off len : Nat) : aLen (.ref id ver off len) σ K = LnR ver len K σ[id]? := by
  simp only [aLen, LnR]; cases σ[id]? with | none => rfl | some x => cases x <;> rfl
@[go_sem] theorem LnR_arr (ver len v : Nat) (e : TypeId) (es : Nat) (xs : List PV) : LnR ver len K (some (.arr v e es xs)) = (v = ver ∧ K (.int .i64 len)) := Eq.trans rfl rfl
theorem aIdxS_list (esz : Nat) (l : List PV) (n : Int) : aIdxS esz (.list l) n σ K = ((0 ≤ n ∧ n < l.length) ∧ ∀ y, l[n.toNat]? = some y → y.cs.length = esz ∧ K (.fptr y.cs 0)) := Eq.trans rfl rfl
attribute [go_sem ↓] aIdxS_list
def IxR (esz id ver off len : Nat) (n : Int) (K : PV → Prop) : Option AObj → Prop
  | some (.arr v _ es xs) => (v = ver ∧ es = esz ∧ 0 ≤ n ∧ n < len ∧ off + len ≤ xs.length) ∧ K (.eptr id ver (n.toNat + off) 0)
  | _ => False
@[go_sem] theorem aIdxS_ref (esz id ver off len : Nat) (n : Int) : aIdxS esz (.ref id ver off len) n σ K = IxR esz id ver off len n K σ[id]? := by
  simp only [aIdxS, IxR]; cases σ[id]? with | none => rfl | some x => cases x <;> rfl
@[go_sem] theorem IxR_arr (esz id ver off len v : Nat) (n : Int) (e : TypeId) (es : Nat) (xs : List PV) : IxR esz id ver off len n K (some (.arr v e es xs)) = ((v = ver ∧ es = esz ∧ 0 ≤ n ∧ n < len ∧ off + len ≤ xs.length) ∧ K (.eptr id ver (n.toNat + off) 0)) := Eq.trans rfl rfl
@[go_sem] theorem aSls_nils (esz : Nat) (lo hi : Option Int) : aSls esz .nils lo hi σ K = ((lo.getD 0 = 0 ∧ hi.getD 0 = 0) ∧ K .nils) := Eq.trans rfl rfl
@[go_sem] theorem aSls_list (esz : Nat) (l : List PV) (lo hi : Option Int) : aSls esz (.list l) lo hi σ K = ((0 ≤ lo.getD 0 ∧ lo.getD 0 ≤ hi.getD l.length ∧ hi.getD l.length ≤ l.length) ∧ okL esz l ∧ K (.list ((l.drop (lo.getD 0).toNat).take ((hi.getD l.length).toNat - (lo.getD 0).toNat)))) := Eq.trans rfl rfl
def SlR (esz id ver off len : Nat) (lo hi : Option Int) (K : PV → Prop) : Option AObj → Prop
  | some (.arr v _ es _) => (v = ver ∧ es = esz ∧ 0 ≤ lo.getD 0 ∧ lo.getD 0 ≤ hi.getD len ∧ hi.getD len ≤ len) ∧ K (.ref id ver (off + (lo.getD 0).toNat) ((hi.getD len).toNat - (lo.getD 0).toNat))
  | _ => False
@[go_sem] theorem aSls_ref (esz id ver off len : Nat) (lo hi : Option Int) : aSls esz (.ref id ver off len) lo hi σ K = SlR esz id ver off len lo hi K σ[id]? := by
  simp only [aSls, SlR]; cases σ[id]? with | none => rfl | some x => cases x <;> rfl
@[go_sem] theorem SlR_arr (esz id ver off len v : Nat) (lo hi : Option Int) (e : TypeId) (es : Nat) (xs : List PV) : SlR esz id ver off len lo hi K (some (.arr v e es xs)) = ((v = ver ∧ es = esz ∧ 0 ≤ lo.getD 0 ∧ lo.getD 0 ≤ hi.getD len ∧ hi.getD len ≤ len) ∧ K (.ref id ver (off + (lo.getD 0).toNat) ((hi.getD len).toNat - (lo.getD 0).toNat))) := Eq.trans rfl rfl
attribute [go_sem] Option.getD_some Option.getD_none
@[go_sem] theorem aAt_ptr (id o f : Nat) : aAt (.ptr id o) f σ K = K (.ptr id (f + o)) := Eq.trans rfl rfl
@[go_sem] theorem aAt_fptr (cs : List PV) (o f : Nat) : aAt (.fptr cs o) f σ K = K (.fptr cs (f + o)) := Eq.trans rfl rfl
def AtR (id ver i o f : Nat) (K : PV → Prop) : Option AObj → Prop
  | some (.arr v _ _ _) => v = ver ∧ K (.eptr id ver i (f + o))
  | _ => False
@[go_sem] theorem aAt_eptr (id ver i o f : Nat) : aAt (.eptr id ver i o) f σ K = AtR id ver i o f K σ[id]? := by
  simp only [aAt, AtR]; cases σ[id]? with | none => rfl | some x => cases x <;> rfl
@[go_sem] theorem AtR_arr (id ver i o f v : Nat) (e : TypeId) (es : Nat) (xs : List PV) : AtR id ver i o f K (some (.arr v e es xs)) = (v = ver ∧ K (.eptr id ver i (f + o))) := Eq.trans rfl rfl
def ClR (esz : Nat) (z : PV) (id ver off len : Nat) (σ : Heap) (K : Heap → Prop) : Option AObj → Prop
  | some (.arr v e es xs) => (v = ver ∧ es = esz ∧ off + len ≤ xs.length) ∧ K (σ.set id (.arr v e es (xs.take off ++ List.replicate len z ++ xs.drop (off + len))))
  | _ => False
@[go_sem] theorem aClr_ref (esz : Nat) (z : PV) (id ver off len : Nat) : aClr esz z (.ref id ver off len) σ KH = ClR esz z id ver off len σ KH σ[id]? := by
  simp only [aClr, ClR]; cases σ[id]? with | none => rfl | some x => cases x <;> rfl
@[go_sem] theorem ClR_arr (esz : Nat) (z : PV) (id ver off len v es : Nat) (e : TypeId) (xs : List PV) : ClR esz z id ver off len σ KH (some (.arr v e es xs)) = ((v = ver ∧ es = esz ∧ off + len ≤ xs.length) ∧ KH (σ.set id (.arr v e es (xs.take off ++ List.replicate len z ++ xs.drop (off + len))))) := Eq.trans rfl rfl
@[go_sem] theorem aClr_nils (esz : Nat) (z : PV) : aClr esz z .nils σ KH = KH σ := Eq.trans rfl rfl
end mem
theorem toNat_succ (n : Nat) : ((n : Int) + 1).toNat = n + 1 := by omega
theorem toNat_0 : (0 : Int).toNat = 0 := Eq.trans rfl rfl
theorem toNat_1 : (1 : Int).toNat = 1 := Eq.trans rfl rfl
attribute [go_sem] toNat_succ toNat_0 toNat_1
theorem z_lt_one : (0 < 1) = True := by simp
theorem z_le_nat (n : Nat) : (0 ≤ (n : Int)) = True := by simp
attribute [go_sem] z_lt_one z_le_nat Int.toNat_natCast true_implies
theorem eq_rfl_true {α : Sort _} (a : α) : (a = a) = True := eq_self a
attribute [go_sem] eq_rfl_true decide_true decide_false if_true if_false not_true_eq_false not_false_eq_true false_implies implies_true
attribute [go_sem] and_true true_and and_self decide_eq_true_eq decide_eq_false_iff_not Bool.not_eq_true' Bool.not_eq_false' Bool.not_true Bool.not_false Nat.mul_one Nat.add_zero
end Go.Kv
