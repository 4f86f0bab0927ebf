/- The compact form of operations, how it is read off the machine's, and what an operation means over abstract values. -/
import Derived.Test.YtkdkdkkimieieaaK3
namespace Go.Kv
set_option linter.unusedVariables false

inductive KP where
  | mv (x : KX)
  | pick (c a b : KX)
  | alloc (z : List PV)
  | box (frz : Bool) (x : KX)
  | load (agg : Bool) (n : Nat) (x : KX)
  | store (n : Nat) (x y : KX)
  | nilck (x : KX)
  | bin (op : BinOp) (x y : KX)
  | beq (neg : Bool) (x y : KX)
  | aeq (neg : Bool) (n : Nat) (x y : KX)
  | not (x : KX)
  | neg (x : KX)
  | conv (k : IntKind) (x : KX)
  | fieldA (off : Nat) (x : KX)
  | fieldV (agg : Bool) (n off : Nat) (x : KX)
  | idxA (len esz : Nat) (x i : KX)
  | idxS (esz : Nat) (x i : KX)
  | idxV (len esz : Nat) (agg : Bool) (x i : KX)
  | idxStr (x i : KX)
  | extr (i : Nat) (x : KX)
  | mkfn (f : Fn) (a b : List KX)
  | call (f : KX) (args : List KX)
  | pcall (f : KX) (args : List KX)
  | len (str : Bool) (x : KX)
  | app (s x : KX) (e : TypeId) (esz : Nat)
  | mks (e : TypeId) (esz : Nat) (z : PV) (len cap : KX)
  | bsl (frz : Bool) (e : TypeId) (esz : Nat) (parts : List KX)
  | build (z : List PV) (parts : List (Nat × Nat × KX))
  | sls (esz : Nat) (x : KX) (lo hi : Option KX)
  | mnmx (isMax : Bool) (x : KX) (xs : List KX)
  | clr (esz : Nat) (z : PV) (x : KX)
  | bad

structure KO where
  d : Option Nat
  g : Option (Nat × Bool)
  p : KP

def ints (l : List Int) : List PV := l.map (PV.int .i64)

/-! ### What is read and written -/
def subC (cs : List PV) (off n : Nat) : List PV := if off = 0 ∧ cs.length = n then cs else (cs.drop off).take n
def putC (cs : List PV) (off : Nat) (vs : List PV) : List PV :=
  match vs with
  | [v] => cs.set off v
  | _ => if off = 0 ∧ vs.length = cs.length then vs else cs.take off ++ vs ++ cs.drop (off + vs.length)
def putE (x : PV) (off : Nat) (y : PV) : PV :=
  match x with
  | .agg cs => .agg (putC cs off y.cs)
  | _ => y
def ldC (agg : Bool) (n : Nat) (cs : List PV) (off : Nat) (K : PV → Prop) : Prop :=
  if agg = true then off + n ≤ cs.length ∧ K (.agg (subC cs off n)) else off < cs.length ∧ ∀ c, cs[off]? = some c → K c
def aLoad (agg : Bool) (n : Nat) (p : PV) (σ : Heap) (K : PV → Prop) : Prop :=
  match p with
  | .ptr id off => (match σ[id]? with | some (.box cs) => ldC agg n cs off K | _ => False)
  | .fptr cs off => ldC agg n cs off K
  | .eptr id ver i off => (match σ[id]? with | some (.arr v _ _ xs) => v = ver ∧ i < xs.length ∧ ∀ x, xs[i]? = some x → ldC agg n x.cs off K | _ => False)
  | _ => False
def aStore (n : Nat) (p y : PV) (σ : Heap) (K : Heap → Prop) : Prop :=
  match p with
  | .ptr id off => (match σ[id]? with | some (.box cs) => (y.cs.length = n ∧ y.cs.all PV.ok = true ∧ off + n ≤ cs.length) ∧ K (σ.set id (.box (putC cs off y.cs))) | _ => False)
  | .eptr id ver i off => (match σ[id]? with
      | some (.arr v e esz xs) => (v = ver ∧ y.cs.length = n ∧ y.cs.all PV.ok = true ∧ i < xs.length) ∧ ∀ x, xs[i]? = some x → off + n ≤ x.cs.length ∧ K (σ.set id (.arr v e esz (xs.set i (putE x off y))))
      | _ => False)
  | _ => False

/-! ### Numbers -/
def aWrap (k : IntKind) (n : Int) (K : PV → Prop) : Prop :=
  match k with
  | .i64 => (-9223372036854775808 ≤ n ∧ n ≤ 9223372036854775807) ∧ K (.int .i64 n)
  | k => K (.int k (k.wrap n))
def aInt (op : BinOp) (k : IntKind) (a b : Int) (K : PV → Prop) : Prop :=
  match op with
  | .add => aWrap k (a + b) K
  | .sub => aWrap k (a - b) K
  | .mul => aWrap k (a * b) K
  | .quo => (0 ≤ a ∧ 0 < b) ∧ aWrap k (a / b) K
  | .rem => (0 ≤ a ∧ 0 < b) ∧ K (.int k (a % b))
  | .eql => K (.bool (decide (a = b)))
  | .neq => K (.bool (!decide (a = b)))
  | .lss => K (.bool (decide (a < b)))
  | .leq => K (.bool (decide (a ≤ b)))
  | .gtr => K (.bool (decide (b < a)))
  | .geq => K (.bool (decide (b ≤ a)))
  | .and => K (.int k (k.wrap (BitVec.ofInt k.bits a &&& BitVec.ofInt k.bits b).toNat))
  | .or => K (.int k (k.wrap (BitVec.ofInt k.bits a ||| BitVec.ofInt k.bits b).toNat))
  | .xor => K (.int k (k.wrap (BitVec.ofInt k.bits a ^^^ BitVec.ofInt k.bits b).toNat))
  | .andNot => K (.int k (k.wrap (BitVec.ofInt k.bits a &&& ~~~ BitVec.ofInt k.bits b).toNat))
  | .shl => (0 ≤ b ∧ b ≤ k.bits) ∧ K (.int k (k.wrap (a * 2 ^ b.toNat)))
  | .shr => (0 ≤ b ∧ b ≤ k.bits) ∧ K (.int k (a.fdiv (2 ^ b.toNat)))
def aStr (op : BinOp) (a b : List UInt8) (K : PV → Prop) : Prop :=
  match op with
  | .add => a.length + b.length ≤ 4611686018427387904 ∧ K (.str (a ++ b))
  | .eql => K (.bool (decide (a = b)))
  | .neq => K (.bool (!decide (a = b)))
  | _ => False
def aBin (op : BinOp) (x y : PV) (K : PV → Prop) : Prop :=
  match x, y with
  | .int k a, .int k' b => (op ≠ .shl → op ≠ .shr → k = k') ∧ aInt op k a b K
  | .str a, .str b => aStr op a b K
  | _, _ => False
def aConv (k : IntKind) (x : PV) (K : PV → Prop) : Prop :=
  match x with
  | .int _ n => aWrap k n K
  | _ => False
def intOf? : PV → Option Int
  | .int _ n => some n
  | _ => none

/-! ### Slices -/
def okL (esz : Nat) (ys : List PV) : Prop := ∀ y ∈ ys, y.cs.length = esz ∧ y.cs.all PV.ok = true
def aNews (esz : Nat) (x : PV) (σ : Heap) (K : List PV → Prop) : Prop :=
  match x with
  | .nils => K []
  | .list ys => okL esz ys ∧ K ys
  | .ref id ver off len => (match σ[id]? with | some (.arr v _ es ys) => (v = ver ∧ es = esz ∧ off + len ≤ ys.length) ∧ K ((ys.drop off).take len) | _ => False)
  | _ => False
def aApp (e : TypeId) (esz : Nat) (s x : PV) (σ : Heap) (K : PV → Heap → Prop) : Prop :=
  match s with
  | .nils => aNews esz x σ fun ns => ns.length ≤ 4294967296 ∧ K (.ref σ.length 0 0 ns.length) (σ ++ [.arr 0 e esz ns])
  | .ref id ver off len => (match σ[id]? with
      | some (.arr v e' es xs) => aNews esz x σ fun ns => (v = ver ∧ e' = e ∧ es = esz ∧ off = 0 ∧ len ≤ xs.length ∧ len + ns.length ≤ 4294967296) ∧
          K (.ref id (ver + 1) 0 (len + ns.length)) (σ.set id (.arr (ver + 1) e esz (xs.take len ++ ns)))
      | _ => False)
  | _ => False
def aLen (x : PV) (σ : Heap) (K : PV → Prop) : Prop :=
  match x with
  | .nils => K (.int .i64 0)
  | .list xs => K (.int .i64 xs.length)
  | .bref _ _ len => K (.int .i64 len)
  | .ref id ver _ len => (match σ[id]? with | some (.arr v _ _ _) => v = ver ∧ K (.int .i64 len) | _ => False)
  | _ => False
def aIdxS (esz : Nat) (x : PV) (n : Int) (σ : Heap) (K : PV → Prop) : Prop :=
  match x with
  | .list xs => (0 ≤ n ∧ n < xs.length) ∧ ∀ y, xs[n.toNat]? = some y → y.cs.length = esz ∧ K (.fptr y.cs 0)
  | .ref id ver off len => (match σ[id]? with | some (.arr v _ es xs) => (v = ver ∧ es = esz ∧ 0 ≤ n ∧ n < len ∧ off + len ≤ xs.length) ∧ K (.eptr id ver (n.toNat + off) 0) | _ => False)
  | .bref id off len => (esz = 1 ∧ 0 ≤ n ∧ n < len) ∧ K (.ptr id (n.toNat + off))
  | _ => False
def aSls (esz : Nat) (x : PV) (lo hi : Option Int) (σ : Heap) (K : PV → Prop) : Prop :=
  match x with
  | .nils => (lo.getD 0 = 0 ∧ hi.getD 0 = 0) ∧ K .nils
  | .list xs => (0 ≤ lo.getD 0 ∧ lo.getD 0 ≤ hi.getD xs.length ∧ hi.getD xs.length ≤ xs.length) ∧ okL esz xs ∧ K (.list ((xs.drop (lo.getD 0).toNat).take ((hi.getD xs.length).toNat - (lo.getD 0).toNat)))
  | .ref id ver off len => (match σ[id]? with
      | some (.arr v _ es _) => (v = ver ∧ es = esz ∧ 0 ≤ lo.getD 0 ∧ lo.getD 0 ≤ hi.getD len ∧ hi.getD len ≤ len) ∧ K (.ref id ver (off + (lo.getD 0).toNat) ((hi.getD len).toNat - (lo.getD 0).toNat))
      | _ => False)
  | _ => False
def aAt (p : PV) (f : Nat) (σ : Heap) (K : PV → Prop) : Prop :=
  match p with
  | .ptr id off => K (.ptr id (f + off))
  | .fptr cs off => K (.fptr cs (f + off))
  | .eptr id ver i off => (match σ[id]? with | some (.arr v _ _ _) => v = ver ∧ K (.eptr id ver i (f + off)) | _ => False)
  | _ => False
def aCall (P : Program) (f : PV) (args : List PV) (σ : Heap) (K : PV → Heap → Prop) : Prop :=
  match f with
  | .fn (.func fid) first caps => ACall P fid (first ++ args ++ caps) σ K
  | _ => False
def aPCall (P : Program) (f : PV) (args : List PV) (σ : Heap) (K : PV → Prop) : Prop :=
  match f with
  | .fn (.func fid) first caps => PCall P fid (first ++ args ++ caps) σ K
  | _ => False
def buildC (env : Env) : List PV → List (Nat × Nat × KX) → List PV
  | cs, [] => cs
  | cs, (off, _, x) :: r => buildC env (putC cs off (kx env x).cs) r
def buildOK (env : Env) (n : Nat) : List (Nat × Nat × KX) → Prop
  | [] => True
  | (off, sz, x) :: r => ((kx env x).cs.length = sz ∧ (kx env x).cs.all PV.ok = true ∧ off + sz ≤ n) ∧ buildOK env n r
def mnmxV (isMax : Bool) : PV → List PV → (PV → Prop) → Prop
  | x, [], K => K x
  | .int k a, .int _ b :: r, K => mnmxV isMax (.int k (if isMax = true then max a b else min a b)) r K
  | _, _, _ => False

def aClr (esz : Nat) (z x : PV) (σ : Heap) (K : Heap → Prop) : Prop :=
  match x with
  | .nils => K σ
  | .ref id ver off len => (match σ[id]? with
      | some (.arr v e es xs) => (v = ver ∧ es = esz ∧ off + len ≤ xs.length) ∧ K (σ.set id (.arr v e es (xs.take off ++ List.replicate len z ++ xs.drop (off + len))))
      | _ => False)
  | _ => False
def aOp (P : Program) (p : KP) (env : Env) (σ : Heap) (K : PV → Heap → Prop) : Prop :=
  match p with
  | .mv x => K (kx env x) σ
  | .pick c a b => (match kx env c with | .bool t => (t = true → K (kx env a) σ) ∧ (t = false → K (kx env b) σ) | _ => False)
  | .alloc z => z.all PV.ok = true ∧ K (.ptr σ.length 0) (σ ++ [.box z])
  | .box frz x => (kx env x).cs.all PV.ok = true ∧ (if frz = true then K (.fptr (kx env x).cs 0) σ else K (.ptr σ.length 0) (σ ++ [.box (kx env x).cs]))
  | .load agg n x => aLoad agg n (kx env x) σ fun v => K v σ
  | .store n x y => aStore n (kx env x) (kx env y) σ fun σ' => K .undef σ'
  | .nilck x => (match kx env x with | .ptr .. | .fptr .. | .fn (.func _) _ _ => K (kx env x) σ | _ => False)
  | .bin op x y => aBin op (kx env x) (kx env y) fun v => K v σ
  | .beq ng x y => (match kx env x, kx env y with | .bool a, .bool b => K (.bool (if ng = true then a != b else a == b)) σ | _, _ => False)
  | .aeq ng n x y => (match kx env x, kx env y with | .agg cs, .agg ds => ∃ xs ys : List Int, cs = ints xs ∧ ds = ints ys ∧ (xs.length = n ∧ ys.length = n) ∧ K (.bool (if ng = true then !decide (xs = ys) else decide (xs = ys))) σ | _, _ => False)
  | .not x => (match kx env x with | .bool b => K (.bool (!b)) σ | _ => False)
  | .neg x => (match kx env x with | .int k n => aWrap k (0 - n) fun v => K v σ | _ => False)
  | .conv k x => aConv k (kx env x) fun v => K v σ
  | .fieldA off x => aAt (kx env x) off σ fun v => K v σ
  | .fieldV agg n off x => (match kx env x with | .agg cs => ldC agg n cs off fun v => K v σ | _ => False)
  | .idxA len esz x i => (match intOf? (kx env i) with | some n => (0 ≤ n ∧ n < len) ∧ aAt (kx env x) (n.toNat * esz) σ fun v => K v σ | none => False)
  | .idxS esz x i => (match intOf? (kx env i) with | some n => aIdxS esz (kx env x) n σ fun v => K v σ | none => False)
  | .idxV len esz agg x i => (match intOf? (kx env i), kx env x with | some n, .agg cs => (0 ≤ n ∧ n < len) ∧ ldC agg esz cs (n.toNat * esz) fun v => K v σ | _, _ => False)
  | .idxStr x i => (match intOf? (kx env i), kx env x with | some n, .str s => (0 ≤ n ∧ n < s.length) ∧ K (.int .u8 (s.getD n.toNat 0).toNat) σ | _, _ => False)
  | .extr i x => (match kx env x with | .tup vs => (match vs[i]? with | some v => K v σ | none => False) | _ => False)
  | .mkfn f a b => K (.fn f (a.map (kx env)) (b.map (kx env))) σ
  | .call f args => aCall P (kx env f) (args.map (kx env)) σ K
  | .pcall f args => aPCall P (kx env f) (args.map (kx env)) σ fun v => K v σ
  | .len str x => (match str, kx env x with | true, .str s => K (.int .i64 s.length) σ | false, .str _ => False | true, _ => False | false, y => aLen y σ fun v => K v σ)
  | .app s x e esz => aApp e esz (kx env s) (kx env x) σ K
  | .mks e esz z l c => (match intOf? (kx env l), intOf? (kx env c) with
      | some n, some m => (0 ≤ n ∧ n ≤ m ∧ m ≤ 4294967296) ∧ K (.ref σ.length 0 0 n.toNat) (σ ++ [.arr 0 e esz (List.replicate n.toNat z)])
      | _, _ => False)
  | .bsl frz e esz parts => okL esz (parts.map (kx env)) ∧ (if frz = true then K (.list (parts.map (kx env))) σ else K (.ref σ.length 0 0 parts.length) (σ ++ [.arr 0 e esz (parts.map (kx env))]))
  | .build z parts => (z.all PV.ok = true ∧ buildOK env z.length parts) ∧ K (.agg (buildC env z parts)) σ
  | .sls esz x lo hi => ((∀ y, lo = some y → ∃ n, intOf? (kx env y) = some n) ∧ ∀ y, hi = some y → ∃ n, intOf? (kx env y) = some n) ∧ aSls esz (kx env x) (lo.bind fun y => intOf? (kx env y)) (hi.bind fun y => intOf? (kx env y)) σ fun v => K v σ
  | .mnmx m x xs => mnmxV m (kx env x) (xs.map (kx env)) fun v => K v σ
  | .clr esz z x => aClr esz z (kx env x) σ (K (.tup []))
  | .bad => False

/-! ### Reading the machine's operation -/
def isAggT (P : Program) (t : TypeId) : Option Bool := (P.underlying t).map fun | .struct _ | .array _ _ => true | _ => false
def szT (P : Program) (t : TypeId) : Option Nat := (P.info? t).map (·.size)
def cvs (vs : List Value) : Option (List PV) := vs.mapM cv
def trXs (xs : Array Operand) : Option (List KX) := xs.toList.mapM trX
def trPos (P : Program) (n : Nat) (xs : List (Nat × Operand)) : Option (List KX) :=
  if xs.map (·.1) = List.range n then xs.mapM (fun x => trX x.2) else none
def trParts (pf : Nat → Option (Nat × Nat)) (parts : List (Nat × Operand)) : Option (List (Nat × Nat × KX)) :=
  parts.mapM fun x => do
    let f ← pf x.1
    let y ← trX x.2
    some (f.1, f.2, y)
def trO (x : Option Operand) : Option (Option KX) := match x with | none => some none | some o => (trX o).map some

/-- Whether a type is made of int64 alone, and how many. -/
def cmpF (P : Program) (g : TypeId → Option Nat) : List Field → Nat → Option Nat
  | [], n => some n
  | f :: fs, n => if f.name = "_" ∨ f.offset ≠ n then none else (g f.type).bind fun m => if szT P f.type = some m then cmpF P g fs (n + m) else none
/-- The number of cells of a type that is made of int64 alone. -/
def cmpT (P : Program) : Nat → TypeId → Option Nat
  | 0, _ => none
  | d + 1, t => match P.underlying t with
    | some (.int .i64) => some 1
    | some (.struct fs) => if P.stoodInHeld t = true then none else cmpF P (cmpT P d) fs.toList 0
    | some (.array len e) => (cmpT P d e).bind fun n => if szT P e = some n then some (len * n) else none
    | _ => none

def trBuiltin (P : Program) (b : Builtin) (as : List Operand) (ts : List TypeId) : Option KP :=
  match b, as, ts with
  | .len, [x], [t] => do
    match ← P.underlying t with
    | .slice _ => some (.len false (← trX x))
    | .string => some (.len true (← trX x))
    | _ => none
  | .append, [s, x], [t, t'] => do
    let .slice e ← P.underlying t | none
    let i ← P.info? e
    let z ← i.zero
    if t = t' ∧ z.cells.size = i.size ∧ 0 < i.size ∧ i.bytes ≤ 32768 then some (.app (← trX s) (← trX x) e i.size) else none
  | .max, x :: r, _ => do some (.mnmx true (← trX x) (← r.mapM trX))
  | .min, x :: r, _ => do some (.mnmx false (← trX x) (← r.mapM trX))
  | .clear, [x], [t] => do
    let .slice e ← P.underlying t | none
    let i ← P.info? e
    let z ← i.zero
    let zs ← cvs z.cells.toList
    if i.size ≠ zs.length ∨ i.size = 0 then none else
    if (← isAggT P e) then some (.clr i.size (.agg zs) (← trX x))
    else match zs with
      | [z1] => some (.clr i.size z1 (← trX x))
      | _ => none
  | _, _, _ => none
def trCall (P : Program) (c : Call) : Option KP :=
  match c.callee with
  | .value f => do some (.call (← trX f) (← trXs c.args))
  | .builtin b => trBuiltin P b c.args.toList c.argTypes.toList
  | .invoke _ _ => none
def trOp (P : Program) (fz : List Nat) (d : Option Nat) : Op → Option KP
  | .move x | .assign x => (trX x).map .mv
  | .pick c a b => do some (.pick (← trX c) (← trX a) (← trX b))
  | .alloc t => do
    let z ← ((P.info? t).bind (·.zero))
    let zs ← cvs z.cells.toList
    some (.alloc zs)
  | .box _ x => do some (.box ((d.map fz.contains).getD false) (← trX x))
  | .load t x => do
    let g ← isAggT P t
    let n ← szT P t
    some (.load g n (← trX x))
  | .store t x y => do
    let n ← szT P t
    if n = 0 then none else some (.store n (← trX x) (← trX y))
  | .nilCheck x => do some (.nilck (← trX x))
  | .binOp op t x y _ => do
    match ← P.underlying t with
    | .int _ | .string => some (.bin op (← trX x) (← trX y))
    | .bool => (match op with | .eql => do some (.beq false (← trX x) (← trX y)) | .neq => do some (.beq true (← trX x) (← trX y)) | _ => none)
    | .struct _ => do
      let n ← cmpT P 8 t
      if P.eqGuardType P.depth t = true then none else
      (match op with | .eql => do some (.aeq false n (← trX x) (← trX y)) | .neq => do some (.aeq true n (← trX x) (← trX y)) | _ => none)
    | _ => none
  | .unOp .not _ x => do some (.not (← trX x))
  | .unOp .neg _ x => do some (.neg (← trX x))
  | .convert s t x => do
    let _ ← P.underlying s
    match ← P.underlying t with
    | .int k => some (.conv k (← trX x))
    | _ => none
  | .fieldAddr t x f => do
    let .struct fs ← P.underlying t | none
    let fd ← fs[f]?
    let n ← szT P fd.type
    if n = 0 then none else some (.fieldA fd.offset (← trX x))
  | .field t x f => do
    let .struct fs ← P.underlying t | none
    let fd ← fs[f]?
    let g ← isAggT P fd.type
    let n ← szT P fd.type
    some (.fieldV g n fd.offset (← trX x))
  | .indexAddr t x i => do
    match ← P.underlying t with
    | .array len e => do some (.idxA len (← szT P e) (← trX x) (← trX i))
    | .slice e => do some (.idxS (← szT P e) (← trX x) (← trX i))
    | _ => none
  | .index t x i => do
    match ← P.underlying t with
    | .array len e => do some (.idxV len (← szT P e) (← isAggT P e) (← trX x) (← trX i))
    | .string => do some (.idxStr (← trX x) (← trX i))
    | _ => none
  | .extract x i => do some (.extr i (← trX x))
  | .makeFunc f a b => do some (.mkfn f (← trXs a) (← trXs b))
  | .makeSlice t l c => do
    let .slice e ← P.underlying t | none
    let i ← P.info? e
    let z ← i.zero
    let zs ← cvs z.cells.toList
    if i.size ≠ zs.length ∨ i.size = 0 ∨ 32768 < i.bytes then none else
    if (← isAggT P e) then some (.mks e i.size (.agg zs) (← trX l) (← trX c))
    else match zs with
      | [z1] => some (.mks e i.size z1 (← trX l) (← trX c))
      | _ => none
  | .buildSlice t n parts => do
    let .slice e ← P.underlying t | none
    let i ← P.info? e
    let _ ← i.zero
    let ps ← trPos P n parts.toList
    if n * i.size > 16777216 ∨ i.size = 0 then none else some (.bsl ((d.map fz.contains).getD false) e i.size ps)
  | .build t parts => do
    let z ← ((P.info? t).bind (·.zero))
    let zs ← cvs z.cells.toList
    match ← P.underlying t with
    | .struct fs => do
      let pl ← fs.toList.mapM fun f => (P.info? f.type).map fun i => (f.offset, i.size)
      let ps ← trParts (pl[·]?) parts.toList
      some (.build zs ps)
    | .array _ e => do
      let ie ← P.info? e
      let ps ← trParts (fun i => some (i * ie.size, ie.size)) parts.toList
      some (.build zs ps)
    | _ => none
  | .slice t x lo hi none => do
    let .slice e ← P.underlying t | none
    some (.sls (← szT P e) (← trX x) (← trO lo) (← trO hi))
  | .call c => trCall P c
  | _ => some .bad

end Go.Kv
