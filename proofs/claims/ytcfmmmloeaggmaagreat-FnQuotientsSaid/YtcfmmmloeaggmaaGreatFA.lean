/- A framework of this session's own: abstract values, heaps and code, sound for the machine's. Nothing here speaks of a program. -/
import Derived.Laws.Sem
import Derived.Calls
import Derived.Laws.AppendOwn
import Derived.Laws.Cells
import Derived.Laws.World
import Derived.Laws.CopyRow
import Derived.Laws.Rows
import Derived.Laws.IdiomCopy
import Derived.Laws.MakeOwn
import Derived.Laws.OwnMore
import Derived.Laws.Strings
import Derived.Great.BuildSlice
import Derived.Laws.StructEq

/- What a computation that only reads comes to, in every world that has the same cells. -/
section
set_option linter.unusedVariables false
namespace Go
def Sem.calm {α:Type} (P:Program) (w:World):Sem α→Option α
 | .pure a=>some a
 | .load _ a k=>(match w.cell? a with | some v=>(k v).calm P w | none=>none)
 | .program k=>(k P).calm P w
 | .mark _ k=>k.calm P w
 | _=>none
end Go
namespace Go.Kv
def Same (w w':World):Prop:=∀ b,b<w.heap.size→w'.heap[b]? = w.heap[b]?
theorem Same.cell {w w':World} (h:Same w w') {a:Addr} {v:Value} (hc:w.cell? a=some v):w'.cell? a=some v:=by
 have hb:a.block<w.heap.size:=by
  rcases Nat.lt_or_ge a.block w.heap.size with h1 | h1
  ·exact h1
  ·unfold World.cell? at hc
   rw [Array.getElem?_eq_none h1] at hc
   cases hc
 unfold World.cell? at hc ⊢
 rw [h _ hb]; exact hc
theorem calm_run {α:Type} {P:Program} {w w':World} (hs:Same w w'):∀ {s:Sem α} {a:α},s.calm P w=some a→s.run P w' = .ok a w':=by
 intro s
 induction s with
 | pure a=>intro b h; simp only [Sem.calm,Option.some.injEq] at h; subst h; rfl
 | load m x k ih =>
  intro b h
  simp only [Sem.calm] at h
  split at h
  ·rename_i v hv
   simp only [Sem.run,hs.cell hv]
   exact ih v h
  ·cases h
 | program k ih=>intro b h; exact ih P h
 | mark m k ih=>intro b h; exact ih h
 | _=>intro b h; simp [Sem.calm] at h
variable {α β:Type} {P:Program} {w:World}
@[simp] theorem calm_pure (a:α):(Pure.pure a:Sem α).calm P w=some a:=rfl
@[simp] theorem calm_pure' (a:α):(Sem.pure a:Sem α).calm P w=some a:=rfl
theorem calm_bind' (x:Sem α) (f:α→Sem β):(x.bind f).calm P w=(x.calm P w).bind fun a=>(f a).calm P w:=by
 induction x with
 | pure a=>rfl
 | load m a k ih =>
  simp only [Sem.bind,Sem.calm]
  split
  ·exact ih _
  ·rfl
 | program k ih=>exact ih P
 | mark m k ih=>exact ih
 | _=>rfl
@[simp] theorem calm_bind (x:Sem α) (f:α→Sem β):(x >>= f).calm P w=(x.calm P w).bind fun a=>(f a).calm P w:=calm_bind' x f
@[simp] theorem calm_map (x:Sem α) (f:α→β):(f <$> x).calm P w=(x.calm P w).map f:=by
 show (x.bind _).calm P w=_
 rw [calm_bind']; cases x.calm P w <;> rfl
@[simp] theorem calm_ite (c:Prop) [Decidable c] (x y:Sem α):(if c then x else y).calm P w=if c then x.calm P w else y.calm P w:=by split <;> rfl
@[simp] theorem calm_load (a:Addr) (m:Mode):(load a m).calm P w=w.cell? a:=by
 simp only [load,Sem.calm]; cases w.cell? a <;> rfl
@[simp] theorem calm_program:program.calm P w=some P:=rfl
@[simp] theorem calm_stuck (s:String):(stuck s:Sem α).calm P w=none:=rfl
@[simp] theorem calm_unsupported (u:Unsupported):(unsupported u:Sem α).calm P w=none:=rfl
theorem calm_underlying {t:TypeId} {d:TypeDesc} (h:P.underlying t=some d):(underlying t).calm P w=some d:=by simp [underlying,h]
theorem calm_loadCellsFrom (a:Addr):∀ (cs:List Value) (i:Nat) (acc:Array Value),(∀ (j:Nat) (v:Value),cs[j]? = some v→w.cell? (a.add (i+j))=some v)→(loadCellsFrom a i cs.length acc).calm P w=some (acc ++ cs.toArray)
 | [],i,acc,_=>by simp [loadCellsFrom]
 | c :: cs,i,acc,h=>by
  have h0:=h 0 c rfl
  simp only [Nat.add_zero] at h0
  have ih:=calm_loadCellsFrom a cs (i+1) (acc.push c) (fun j v hj=>by have:=h (j+1) v (by simpa using hj); rwa [show i+(j+1)=i+1+j by omega] at this)
  simp only [List.length_cons,loadCellsFrom,calm_bind,calm_load,h0,Option.bind_some,ih]
  congr 1
  apply Array.ext'; simp
theorem calm_loadCells (a:Addr) (cs:List Value) (h:∀ (j:Nat) (v:Value),cs[j]? = some v→w.cell? (a.add j)=some v):(loadCells a cs.length).calm P w=some cs.toArray:=by
 have:=calm_loadCellsFrom (P:=P) (w:=w) a cs 0 #[] (fun j v hj=>by simpa using h j v hj)
 simpa [loadCells] using this
theorem calm_ok {α:Type} {s:Sem α} {a:α} (h:s.calm P w=some a):s.run P w = .ok a w:=calm_run (fun _ _=>rfl) h
end Go.Kv
end

/- The abstract values, heaps and their relation to the machine's. A framework of this session's own: nothing here speaks of a program. -/
section
namespace Go.Kv

inductive PV where
 | undef
 | int (k:IntKind) (n:Int)
 | bool (b:Bool)
 | str (s:List UInt8)
 | agg (cs:List PV)
 | tup (vs:List PV)
 | ptr (id off:Nat)
 | fptr (cs:List PV) (off:Nat)
 | nilptr
 | nils
 | list (xs:List PV)
 | ref (id ver off len:Nat)
 | eptr (id ver i off:Nat)
 | bref (id off len:Nat)
 | fn (f:Fn) (first caps:List PV)
 | nilf
 | nili
 deriving Inhabited

def PV.cs:PV→List PV
 | .agg cs=>cs
 | v=>[v]
def PV.ok:PV→Bool
 | .undef | .agg _ | .tup _=>false
 | _=>true

inductive KLoc where
 | dead
 | box (b:Nat)
 | arr (ver:Nat) (e:TypeId) (esz:Nat) (v:Value)

def KLoc.block:KLoc→Option Nat
 | .dead=>none
 | .box b=>some b
 | .arr _ _ _ v=>v.ownBlock

inductive AObj where
 | dead
 | box (cs:List PV)
 | arr (ver:Nat) (e:TypeId) (esz:Nat) (xs:List PV)

abbrev Heap:=List AObj
abbrev Frz:=Nat→Option (Array Value)

inductive Rel (φ:Frz) (ι:List KLoc):PV→Value→Prop
 | undef (v:Value):Rel φ ι .undef v
 | int (k:IntKind) (n:Int):Rel φ ι (.int k n) (.int k n)
 | bool (b:Bool):Rel φ ι (.bool b) (.bool b)
 | str (s:List UInt8):Rel φ ι (.str s) (.string ⟨s.toArray⟩)
 | agg (cs:List PV) (vs:List Value) (hl:cs.length=vs.length) (hok:cs.all PV.ok=true)
   (h:∀ (i:Nat) (c:PV) (v:Value),cs[i]? = some c→vs[i]? = some v→Rel φ ι c v):Rel φ ι (.agg cs) (.agg vs.toArray)
 | tup (cs:List PV) (vs:List Value) (hl:cs.length=vs.length)
   (h:∀ (i:Nat) (c:PV) (v:Value),cs[i]? = some c→vs[i]? = some v→Rel φ ι c v):Rel φ ι (.tup cs) (.tuple vs.toArray)
 | ptr (id off b:Nat) (h:ι[id]? = some (.box b)):Rel φ ι (.ptr id off) (.pointer (some ⟨b,off,none⟩))
 | fptr (cs:List PV) (off b o:Nat) (C:Array Value) (hb:φ b=some C) (hok:cs.all PV.ok=true) (g:Nat→Value)
   (hg:∀ (j:Nat) (c:PV),cs[j]? = some c→C[o+j]? = some (g j)) (h:∀ (j:Nat) (c:PV),cs[j]? = some c→Rel φ ι c (g j)):Rel φ ι (.fptr cs off) (.pointer (some ⟨b,o+off,none⟩))
 | nilptr:Rel φ ι .nilptr (.pointer none)
 | nils:Rel φ ι .nils (.slice none 0 0)
 | list0 (cap:Nat) (a:Addr):Rel φ ι (.list []) (.slice (some a) 0 cap)
 | listn:Rel φ ι (.list []) (.slice none 0 0)
 | list (xs:List PV) (esz b o len cap:Nat) (C:Array Value) (hl:xs.length=len) (hc:len≤cap) (hb:φ b=some C) (hsz:∀ (i:Nat) (x:PV),xs[i]? = some x→x.cs.length=esz∧x.cs.all PV.ok=true) (g:Nat→Nat→Value)
   (hg:∀ (i:Nat) (x:PV) (j:Nat) (c:PV),xs[i]? = some x→x.cs[j]? = some c→C[o+i * esz+j]? = some (g i j)) (h:∀ (i:Nat) (x:PV) (j:Nat) (c:PV),xs[i]? = some x→x.cs[j]? = some c→Rel φ ι c (g i j)):Rel φ ι (.list xs) (.slice (some ⟨b,o,none⟩) len cap)
 | ref (id ver off len:Nat) (v:Value) (k:Nat) (e:TypeId) (esz:Nat) (u:Value) (h:ι[id]? = some (.arr k e esz u)) (ho:v.oneCell'=true) (hk:ver≤k)
   (hv:ver=k→(∃ b n cap o,u = .slice (some ⟨b,0,none⟩) n cap∧off+len≤cap∧v = .slice (some ⟨b,o,none⟩) len (cap - off)∧(off<cap→o=off * esz)∧(off=0→o=0))∨(u = .slice none 0 0∧off=0∧len=0∧v=u)):Rel φ ι (.ref id ver off len) v
 | eptr (id ver i off:Nat) (v:Value) (k:Nat) (e:TypeId) (esz:Nat) (u:Value) (h:ι[id]? = some (.arr k e esz u)) (ho:v.oneCell'=true) (hk:ver≤k)
   (hv:ver=k→∃ b n cap,u = .slice (some ⟨b,0,none⟩) n cap∧v = .pointer (some ⟨b,i * esz+off,none⟩)):Rel φ ι (.eptr id ver i off) v
 | bref (id off len b cap:Nat) (h:ι[id]? = some (.box b)) (hc:len≤cap):Rel φ ι (.bref id off len) (.slice (some ⟨b,off,none⟩) len cap)
 | fn (f:Fn) (a b:List PV) (u v:List Value) (ha:a.length=u.length) (hb:b.length=v.length)
   (h1:∀ (i:Nat) (c:PV) (x:Value),a[i]? = some c→u[i]? = some x→Rel φ ι c x) (h2:∀ (i:Nat) (c:PV) (x:Value),b[i]? = some c→v[i]? = some x→Rel φ ι c x):Rel φ ι (.fn f a b) (.func f u.toArray v.toArray)
 | nilf:Rel φ ι .nilf .nilFunc
 | nili:Rel φ ι .nili .nilIface

def RelL (φ:Frz) (ι:List KLoc) (cs:List PV) (vs:List Value):Prop:=cs.length=vs.length∧∀ (i:Nat) (c:PV) (v:Value),cs[i]? = some c→vs[i]? = some v→Rel φ ι c v

/-! ### Growing -/
def FLe (φ φ':Frz):Prop:=∀ b C,φ b=some C→φ' b=some C
def KLoc.le:KLoc→KLoc→Prop
 | .arr k e s u,.arr k' e' s' u'=>(k=k'∧u=u'∨k<k')∧e=e'∧s=s'
 | a,b=>a=b
def LLe (ι ι':List KLoc):Prop:=∀ (id:Nat) (l:KLoc),ι[id]? = some l→∃ l':KLoc,ι'[id]? = some l'∧KLoc.le l l'

theorem FLe.refl (φ:Frz):FLe φ φ:=fun _ _ h=>h
theorem FLe.trans {a b c:Frz} (h:FLe a b) (h':FLe b c):FLe a c:=fun _ _ x=>h' _ _ (h _ _ x)
theorem KLoc.le_refl (l:KLoc):l.le l:=by cases l <;> simp [KLoc.le]
theorem KLoc.le_trans {a b c:KLoc} (h:a.le b) (h':b.le c):a.le c:=by
 cases a with
 | dead=>simp only [KLoc.le] at h; subst h; exact h'
 | box x=>simp only [KLoc.le] at h; subst h; exact h'
 | arr k e s u =>
  cases b with
  | dead=>simp [KLoc.le] at h
  | box x=>simp [KLoc.le] at h
  | arr k' e' s' u' =>
   cases c with
   | dead=>simp [KLoc.le] at h'
   | box x=>simp [KLoc.le] at h'
   | arr k'' e'' s'' u'' =>
    obtain ⟨h1,rfl,rfl⟩:=h
    obtain ⟨h2,rfl,rfl⟩:=h'
    refine ⟨?_,rfl,rfl⟩
    rcases h1 with ⟨rfl,rfl⟩ | h1 <;> rcases h2 with ⟨rfl,rfl⟩ | h2
    ·exact .inl ⟨rfl,rfl⟩
    ·exact .inr h2
    ·exact .inr h1
    ·exact .inr (Nat.lt_trans h1 h2)
theorem LLe.refl (ι:List KLoc):LLe ι ι:=fun _ l h=>⟨l,h,l.le_refl⟩
theorem LLe.trans {a b c:List KLoc} (h:LLe a b) (h':LLe b c):LLe a c:=fun id l x =>
 let ⟨l1,h1,e1⟩:=h id l x
 let ⟨l2,h2,e2⟩:=h' id l1 h1
 ⟨l2,h2,KLoc.le_trans e1 e2⟩
theorem LLe.append (ι:List KLoc) (l:List KLoc):LLe ι (ι ++ l):=fun id x h=>⟨x,by rw [List.getElem?_append_left (List.getElem?_eq_some_iff.1 h).1]; exact h,x.le_refl⟩
theorem LLe.box {ι ι':List KLoc} (h:LLe ι ι') {id b:Nat} (hb:ι[id]? = some (.box b)):ι'[id]? = some (.box b):=by
 obtain ⟨l,h1,h2⟩:=h _ _ hb
 cases l <;> simp [KLoc.le] at h2
 subst h2; exact h1
theorem LLe.arr {ι ι':List KLoc} (h:LLe ι ι') {id k:Nat} {e:TypeId} {s:Nat} {u:Value} (hb:ι[id]? = some (.arr k e s u)) :
  ∃ k' u',ι'[id]? = some (.arr k' e s u')∧(k=k'∧u=u'∨k<k'):=by
 obtain ⟨l,h1,h2⟩:=h _ _ hb
 cases l <;> simp [KLoc.le] at h2
 obtain ⟨h3,rfl,rfl⟩:=h2
 exact ⟨_,_,h1,h3⟩
theorem LLe.take {ι:List KLoc} (n:Nat) {ι':List KLoc} (h:LLe ι ι'):LLe (ι.take n) (ι'.take n):=fun id l x=>by
 rw [List.getElem?_take] at x
 split at x
 ·obtain ⟨l',h1,h2⟩:=h _ _ x
  exact ⟨l',by rw [List.getElem?_take,if_pos (by assumption)]; exact h1,h2⟩
 ·cases x

theorem Rel.mono {φ φ':Frz} {ι ι':List KLoc} (hf:FLe φ φ') (hl:LLe ι ι') {c:PV} {v:Value} (h:Rel φ ι c v):Rel φ' ι' c v:=by
 induction h with
 | undef v=>exact .undef v
 | int k n=>exact .int k n
 | bool b=>exact .bool b
 | str s=>exact .str s
 | agg cs vs h1 h2 _ ih=>exact .agg cs vs h1 h2 ih
 | tup cs vs h1 _ ih=>exact .tup cs vs h1 ih
 | ptr id off b h=>exact .ptr id off b (hl.box h)
 | fptr cs off b o C hb hok g hg _ ih=>exact .fptr cs off b o C (hf _ _ hb) hok g hg ih
 | nilptr=>exact .nilptr
 | nils=>exact .nils
 | list0 cap a=>exact .list0 cap a
 | listn=>exact .listn
 | list xs esz b o len cap C h1 hc hb hsz g hg _ ih=>exact .list xs esz b o len cap C h1 hc (hf _ _ hb) hsz g hg ih
 | ref id ver off len v k e esz u h ho hk hv =>
  obtain ⟨k',u',h',hh⟩:=hl.arr h
  refine .ref id ver off len v k' e esz u' h' ho (by omega) fun e1=>?_
  rcases hh with ⟨e2,e3⟩ | h2
  ·exact e3 ▸ hv (e1.trans e2.symm)
  ·omega
 | eptr id ver i off v k e esz u h ho hk hv =>
  obtain ⟨k',u',h',hh⟩:=hl.arr h
  refine .eptr id ver i off v k' e esz u' h' ho (by omega) fun e1=>?_
  rcases hh with ⟨e2,e3⟩ | h2
  ·exact e3 ▸ hv (e1.trans e2.symm)
  ·omega
 | bref id off len b cap h hc=>exact .bref id off len b cap (hl.box h) hc
 | fn f a b u v h1 h2 _ _ ih1 ih2=>exact .fn f a b u v h1 h2 ih1 ih2
 | nilf=>exact .nilf
 | nili=>exact .nili

theorem RelL.mono {φ φ':Frz} {ι ι':List KLoc} (hf:FLe φ φ') (hl:LLe ι ι') {c:List PV} {v:List Value} (h:RelL φ ι c v):RelL φ' ι' c v:=⟨h.1,fun i c v a b=>(h.2 i c v a b).mono hf hl⟩
theorem RelL.nil (φ:Frz) (ι:List KLoc):RelL φ ι [] []:=⟨rfl,by simp⟩
theorem RelL.cons {φ:Frz} {ι:List KLoc} {c:PV} {v:Value} {cs:List PV} {vs:List Value} (h:Rel φ ι c v) (h':RelL φ ι cs vs):RelL φ ι (c :: cs) (v :: vs):=by
 refine ⟨by simp [h'.1],fun i a b ha hb=>?_⟩
 cases i with
 | zero=>simp at ha hb; subst ha hb; exact h
 | succ i=>simp at ha hb; exact h'.2 i a b ha hb
theorem RelL.append {φ:Frz} {ι:List KLoc} {cs ds:List PV} {vs us:List Value} (h:RelL φ ι cs vs) (h':RelL φ ι ds us):RelL φ ι (cs ++ ds) (vs ++ us):=by
 refine ⟨by simp [h.1,h'.1],fun i a b ha hb=>?_⟩
 rw [List.getElem?_append] at ha hb
 rw [← h.1] at hb
 by_cases hi:i<cs.length
 ·rw [if_pos hi] at ha hb; exact h.2 _ _ _ ha hb
 ·rw [if_neg hi] at ha hb; exact h'.2 _ _ _ ha hb
theorem RelL.get {φ:Frz} {ι:List KLoc} {cs:List PV} {vs:List Value} (h:RelL φ ι cs vs) {i:Nat} {c:PV} (hc:cs[i]? = some c):∃ v,vs[i]? = some v∧Rel φ ι c v:=by
 have hi:=(List.getElem?_eq_some_iff.1 hc).1
 rw [h.1] at hi
 exact ⟨vs[i],List.getElem?_eq_getElem hi,h.2 i c _ hc (List.getElem?_eq_getElem hi)⟩
theorem RelL.set {φ:Frz} {ι:List KLoc} {cs:List PV} {vs:List Value} (h:RelL φ ι cs vs) {c:PV} {v:Value} (hc:Rel φ ι c v) (i:Nat):RelL φ ι (cs.set i c) (vs.set i v):=by
 refine ⟨by simp [h.1],fun j a b ha hb=>?_⟩
 rw [List.getElem?_set] at ha hb
 by_cases e:i=j
 ·subst e
  rw [if_pos rfl] at ha hb
  split at ha <;> simp at ha
  split at hb <;> simp at hb
  subst ha hb; exact hc
 ·rw [if_neg e] at ha hb; exact h.2 _ _ _ ha hb
theorem RelL.take {φ:Frz} {ι:List KLoc} {cs:List PV} {vs:List Value} (h:RelL φ ι cs vs) (n:Nat):RelL φ ι (cs.take n) (vs.take n):=by
 refine ⟨by simp [h.1],fun i a b ha hb=>?_⟩
 rw [List.getElem?_take] at ha hb
 split at ha <;> simp_all
 exact h.2 _ _ _ ha hb
theorem RelL.drop {φ:Frz} {ι:List KLoc} {cs:List PV} {vs:List Value} (h:RelL φ ι cs vs) (n:Nat):RelL φ ι (cs.drop n) (vs.drop n):=by
 refine ⟨by simp [h.1],fun i a b ha hb=>?_⟩
 rw [List.getElem?_drop] at ha hb
 exact h.2 _ _ _ ha hb

theorem Rel.oneCell {φ:Frz} {ι:List KLoc} {c:PV} {v:Value} (h:Rel φ ι c v) (hc:c.ok=true):v.oneCell'=true:=by
 cases h <;> first | rfl | assumption | (simp [PV.ok] at hc)

end Go.Kv
end

/- The relation of heaps, transitions, and the abstract weakest precondition of code, over the machine's own. -/
section
namespace Go.Kv
set_option linter.unusedVariables false

def flat (xs:List PV):List PV:=xs.flatMap PV.cs
@[simp] theorem flat_nil:flat [] = []:=rfl
@[simp] theorem flat_cons (x:PV) (xs:List PV):flat (x :: xs)=x.cs ++ flat xs:=rfl
@[simp] theorem flat_append (xs ys:List PV):flat (xs ++ ys)=flat xs ++ flat ys:=by simp [flat]

def ObjOK (φ:Frz) (ι:List KLoc) (w:World):AObj→KLoc→Prop
 | .dead,_=>True
 | .box cs,.box b=>∃ C e,w.heap[b]? = some (.cells C e (0,0))∧RelL φ ι cs C.toList∧cs.all PV.ok=true
 | .arr ver e es xs,.arr ver' e' esz v=>ver=ver'∧e=e'∧es=esz∧0<esz∧∃ ys,w.ownsRow 0 e esz v xs.length ys∧RelL φ ι (flat xs) ys∧(flat xs).all PV.ok=true∧∀ x∈xs,x.cs.length=esz
 | _,_=>False

structure HOK (φ:Frz) (ι:List KLoc) (σ:Heap) (w:World):Prop where
 len:ι.length = σ.length
 fz:∀ b C,φ b=some C→∃ e f,w.heap[b]? = some (.cells C e f)
 nf:∀ (id:Nat) (l:KLoc) (b:Nat),ι[id]? = some l→l.block=some b→φ b=none
 dis:∀ (id id':Nat) (l l':KLoc) (b:Nat),ι[id]? = some l→ι[id']? = some l'→l.block=some b→l'.block=some b→id=id'
 lt:∀ (id:Nat) (l:KLoc) (b:Nat),ι[id]? = some l→l.block=some b→b<w.heap.size
 obj:∀ (id:Nat) (o:AObj) (l:KLoc),σ[id]? = some o→ι[id]? = some l→ObjOK φ ι w o l

def owned (ι:List KLoc) (b:Nat):Prop:=∃ (id:Nat) (l:KLoc),ι[id]? = some l∧l.block=some b

structure Tr (n:Nat) (φ:Frz) (ι:List KLoc) (w:World) (φ':Frz) (ι':List KLoc) (w':World):Prop where
 f:FLe φ φ'
 l:LLe (ι.take n) ι'
 fr:∀ b,b<w.heap.size→¬ owned ι b→w'.heap[b]? = w.heap[b]?
 sz:w.heap.size≤w'.heap.size
 ow:∀ b,owned ι' b→owned ι b∨w.heap.size≤b
 os:w'.os=w.os
 tp:w'.tape=w.tape
 out:w'.output=w.output
 fn:∀ b C,φ' b=some C→φ b=some C∨owned ι b∨w.heap.size≤b

theorem LLe.of_take {ι ι':List KLoc} (n:Nat) (h:LLe ι ι'):LLe (ι.take n) ι':=fun id l x=>by
 rw [List.getElem?_take] at x
 split at x
 ·exact h _ _ x
 ·cases x
theorem Tr.refl (n:Nat) (φ:Frz) (ι:List KLoc) (w:World):Tr n φ ι w φ ι w :=
 ⟨.refl _,(LLe.refl _).of_take n,fun _ _ _=>rfl,Nat.le_refl _,fun _ h=>.inl h,rfl,rfl,rfl,fun _ _ h=>.inl h⟩
theorem Tr.trans {n:Nat} {φ φ1 φ2:Frz} {ι ι1 ι2:List KLoc} {w w1 w2:World} (h:Tr n φ ι w φ1 ι1 w1) (h':Tr n φ1 ι1 w1 φ2 ι2 w2):Tr n φ ι w φ2 ι2 w2 where
 f:=h.f.trans h'.f
 l:=fun id l x=>by
  obtain ⟨l1,h1,e1⟩:=h.l id l x
  have hid:id<n:=by
   rw [List.getElem?_take] at x
   split at x
   ·assumption
   ·cases x
  obtain ⟨l2,h2,e2⟩:=h'.l id l1 (by rw [List.getElem?_take,if_pos hid]; exact h1)
  exact ⟨l2,h2,KLoc.le_trans e1 e2⟩
 fr:=fun b hb ho=>by
  rw [h'.fr b (Nat.lt_of_lt_of_le hb h.sz) (fun o=>by rcases h.ow b o with o' | o'; exact ho o'; omega),h.fr b hb ho]
 sz:=Nat.le_trans h.sz h'.sz
 ow:=fun b hb=>by
  rcases h'.ow b hb with o | o
  ·exact h.ow b o
  ·exact .inr (Nat.le_trans h.sz o)
 os:=h'.os.trans h.os
 tp:=h'.tp.trans h.tp
 out:=h'.out.trans h.out
 fn:=fun b C hb=>by
  rcases h'.fn b C hb with o | o | o
  ·exact h.fn b C o
  ·exact .inr (h.ow b o)
  ·exact .inr (.inr (Nat.le_trans h.sz o))
theorem Tr.weaken {n m:Nat} {φ φ':Frz} {ι ι':List KLoc} {w w':World} (h:Tr n φ ι w φ' ι' w') (hm:m≤n):Tr m φ ι w φ' ι' w' :=
 { h with l:=fun id l x=>h.l id l (by
   rw [List.getElem?_take] at x ⊢
   split at x
   ·rw [if_pos (by omega)]; exact x
   ·cases x) }

/-! ### Frames -/
abbrev Env:=List (Nat × PV)
def look:Env→Nat→PV
 | [],_=>.undef
 | (k,v) :: e,t=>if k=t then v else look e t
@[simp] theorem look_nil (t:Nat):look [] t = .undef:=rfl
@[simp] theorem look_cons (k:Nat) (v:PV) (e:Env) (t:Nat):look ((k,v) :: e) t=if k=t then v else look e t:=rfl

structure EOK (N:Nat) (φ:Frz) (ι:List KLoc) (env:Env) (a:Act):Prop where
 sz:a.tmps.size=N
 df:a.defers = []
 rel:∀ t,Rel φ ι (look env t) (a.tmps.getD t Go.undef)

theorem EOK.mono {N:Nat} {φ φ':Frz} {ι ι':List KLoc} {env:Env} {a:Act} (h:EOK N φ ι env a) (hf:FLe φ φ') (hl:LLe ι ι'):EOK N φ' ι' env a:=⟨h.sz,h.df,fun t=>(h.rel t).mono hf hl⟩
theorem EOK.put {N:Nat} {φ:Frz} {ι:List KLoc} {env:Env} {a:Act} (h:EOK N φ ι env a) {d:Nat} (hd:d<N) {c:PV} {v:Value} (hv:Rel φ ι c v):EOK N φ ι ((d,c) :: env) (a.put (some d) v):=by
 refine ⟨by simp [Act.put,h.sz],h.df,fun t=>?_⟩
 simp only [look_cons,Act.put]
 by_cases e:d=t
 ·subst e
  simp [Array.getD,h.sz,hd,hv]
 ·rw [if_neg e]
  have:=h.rel t
  simpa [Array.getD_eq_getD_getElem?,Array.getElem?_setIfInBounds_ne e] using this
def EnterOK (P:Program) (f:FuncId):Prop:=∃ fn,P.funcs[f]? = some fn∧fn.body.isSome=true∧(fn.name == "runtime.NumGoroutine")=false
def ACallR (σ:Heap) (φ:Frz) (ι:List KLoc) (w:World) (K:PV→Heap→Prop) (e:Ending) (w':World):Prop :=
 ∃ v v' φ' ι' σ',e = .returned v'∧Rel φ' ι' v v'∧Tr σ.length φ ι w φ' ι' w'∧HOK φ' ι' σ' w'∧K v σ'
def ACall (P:Program) (f:FuncId) (args:List PV) (σ:Heap) (K:PV→Heap→Prop):Prop :=
 EnterOK P f∧∀ φ ι w vs,RelL φ ι args vs→HOK φ ι σ w→Calls P f vs.toArray w (ACallR σ φ ι w K)

/-! ### Lending -/
def PV.upto (n:Nat) (c:PV):Prop:=∀ (φ:Frz) (ι:List KLoc) (v:Value),Rel φ ι c v→Rel φ (ι.take n) c v
def PV.free (c:PV):Prop:=∀ (φ φ':Frz) (ι:List KLoc) (v:Value),Rel φ ι c v→Rel φ' ι c v
inductive Imm (σ:Heap):PV→PV→Prop
 | refl (c:PV) (h:PV.upto 0 c):Imm σ c c
 | agg (cs ds:List PV) (hl:cs.length=ds.length) (hok:ds.all PV.ok=true) (h:∀ (i:Nat) (c d:PV),cs[i]? = some c→ds[i]? = some d→Imm σ c d):Imm σ (.agg cs) (.agg ds)
 | ptr (id off:Nat) (cs ds:List PV) (ho:σ[id]? = some (.box cs)) (hl:cs.length=ds.length) (hok:ds.all PV.ok=true) (h:∀ (i:Nat) (c d:PV),cs[i]? = some c→ds[i]? = some d→Imm σ c d):Imm σ (.ptr id off) (.fptr ds off)
 | ref (id ver off len:Nat) (e:TypeId) (esz:Nat) (xs ds:List PV) (ho:σ[id]? = some (.arr ver e esz xs)) (hn:off+len≤xs.length) (hl:ds.length=len)
   (hs:∀ (i:Nat) (x d:PV),xs[off+i]? = some x→ds[i]? = some d→x.cs.length=d.cs.length∧d.cs.all PV.ok=true)
   (h:∀ (i:Nat) (x d:PV) (j:Nat) (c c':PV),xs[off+i]? = some x→ds[i]? = some d→x.cs[j]? = some c→d.cs[j]? = some c'→Imm σ c c'):Imm σ (.ref id ver off len) (.list ds)
 | nils:Imm σ .nils (.list [])
 | tup (cs ds:List PV) (hl:cs.length=ds.length) (h:∀ (i:Nat) (c d:PV),cs[i]? = some c→ds[i]? = some d→Imm σ c d):Imm σ (.tup cs) (.tup ds)
 | fn (f:Fn) (a b a' b':List PV) (hl:a.length=a'.length) (hm:b.length=b'.length) (h:∀ (i:Nat) (c d:PV),a[i]? = some c→a'[i]? = some d→Imm σ c d) (h':∀ (i:Nat) (c d:PV),b[i]? = some c→b'[i]? = some d→Imm σ c d):Imm σ (.fn f a b) (.fn f a' b')

def ImmL (σ:Heap) (cs ds:List PV):Prop:=cs.length=ds.length∧∀ (i:Nat) (c d:PV),cs[i]? = some c→ds[i]? = some d→Imm σ c d
def PCall (P:Program) (f:FuncId) (args:List PV) (σ:Heap) (K:PV→Prop):Prop :=
 (∃ args',ImmL σ args args'∧ACall P f args' [] (fun v s=>(v.free∧s = [])∧K v))∨((∀ a∈args,PV.upto 0 a)∧ACall P f args [] (fun v s=>s = []∧K v))

theorem ACall.mono {P:Program} {f:FuncId} {args:List PV} {σ:Heap} {K K':PV→Heap→Prop} (h:ACall P f args σ K) (hk:∀ v σ',K v σ'→K' v σ'):ACall P f args σ K' :=
 ⟨h.1,fun φ ι w vs hr ho=>(h.2 φ ι w vs hr ho).mono fun _ _ ⟨v,v',φ',ι',σ',h1,h2,h3,h4,h5⟩=>⟨v,v',φ',ι',σ',h1,h2,h3,h4,hk _ _ h5⟩⟩

def AWR (N n0:Nat) (φ:Frz) (ι:List KLoc) (w:World) (Q:Exit→Env→Heap→Prop) (e:Exit) (a':Act) (w':World):Prop :=
 ∃ φ' ι' env' σ',Tr n0 φ ι w φ' ι' w'∧HOK φ' ι' σ' w'∧(EOK N φ' ι' env' a'∧n0≤σ'.length)∧Q e env' σ'
def AW (P:Program) (N n0:Nat) (c:Code) (Q:Exit→Env→Heap→Prop) (env:Env) (σ:Heap):Prop :=
 ∀ φ ι a w,HOK φ ι σ w→EOK N φ ι env a∧n0≤σ.length→c.wp P (AWR N n0 φ ι w Q) a w

theorem AWR.mono {N n0:Nat} {φ:Frz} {ι:List KLoc} {w:World} {Q Q':Exit→Env→Heap→Prop} {e:Exit} {a':Act} {w':World} (h:AWR N n0 φ ι w Q e a' w') (hq:∀ e env σ,Q e env σ→Q' e env σ):AWR N n0 φ ι w Q' e a' w' :=
 let ⟨φ',ι',env',σ',h1,h2,h3,h4⟩:=h
 ⟨φ',ι',env',σ',h1,h2,h3,hq _ _ _ h4⟩
theorem AW.mono {P:Program} {N n0:Nat} {c:Code} {Q Q':Exit→Env→Heap→Prop} {env:Env} {σ:Heap} (h:AW P N n0 c Q env σ) (hq:∀ e env σ,Q e env σ→Q' e env σ):AW P N n0 c Q' env σ :=
 fun φ ι a w h1 h2=>Code.wp_mono (fun _ _ _ q=>q.mono hq) (h φ ι a w h1 h2)
theorem AWR.bind {P:Program} {N n0:Nat} {φ φ':Frz} {ι ι':List KLoc} {w w':World} {Q:Exit→Env→Heap→Prop} {c:Code} {env:Env} {σ:Heap} {a:Act} (ht:Tr n0 φ ι w φ' ι' w') (h1:HOK φ' ι' σ w') (h2:EOK N φ' ι' env a∧n0≤σ.length) (h:AW P N n0 c Q env σ):c.wp P (AWR N n0 φ ι w Q) a w' :=
 Code.wp_mono (fun _ _ _ ⟨φ2,ι2,env2,σ2,g1,g2,g3,g4⟩=>⟨φ2,ι2,env2,σ2,ht.trans g1,g2,g3,g4⟩) (h φ' ι' a w' h1 h2)

def SeqK (P:Program) (N n0:Nat) (y:Code) (Q:Exit→Env→Heap→Prop):Exit→Env→Heap→Prop
 | .normal,env,σ=>AW P N n0 y Q env σ
 | e,env,σ=>Q e env σ
theorem AW_seq {P:Program} {N n0:Nat} {x y:Code} {Q:Exit→Env→Heap→Prop} {env:Env} {σ:Heap} (h:AW P N n0 x (SeqK P N n0 y Q) env σ):AW P N n0 (.seq x y) Q env σ:=fun φ ι a w h1 h2=>by
 refine wp_seq (Code.wp_mono (fun e a' w' q=>?_) (h φ ι a w h1 h2))
 obtain ⟨φ',ι',env',σ',g1,g2,g3,g4⟩:=q
 cases e <;> first | exact ⟨φ',ι',env',σ',g1,g2,g3,g4⟩ | exact AWR.bind g1 g2 g3 g4
theorem AW_skip {P:Program} {N n0:Nat} {Q:Exit→Env→Heap→Prop} {env:Env} {σ:Heap} (h:Q .normal env σ):AW P N n0 .skip Q env σ:=fun φ ι _ w h1 h2=>wp_skip ⟨φ,ι,env,σ,.refl _ _ _ _,h1,h2,h⟩
theorem AW_ret {P:Program} {N n0:Nat} {Q:Exit→Env→Heap→Prop} {env:Env} {σ:Heap} (h:Q .ret env σ):AW P N n0 .ret Q env σ:=fun φ ι _ w h1 h2=>wp_ret ⟨φ,ι,env,σ,.refl _ _ _ _,h1,h2,h⟩
theorem AW_exit {P:Program} {N n0 id:Nat} {Q:Exit→Env→Heap→Prop} {env:Env} {σ:Heap} (h:Q (.exit id) env σ):AW P N n0 (.exit id) Q env σ:=fun φ ι _ w h1 h2=>wp_exit ⟨φ,ι,env,σ,.refl _ _ _ _,h1,h2,h⟩
theorem AW_label {P:Program} {N n0 l:Nat} {Q:Exit→Env→Heap→Prop} {env:Env} {σ:Heap} (h:Q .normal env σ):AW P N n0 (.label l) Q env σ:=fun φ ι _ w h1 h2=>wp_label ⟨φ,ι,env,σ,.refl _ _ _ _,h1,h2,h⟩
def BlockK (id:Nat) (Q:Exit→Env→Heap→Prop):Exit→Env→Heap→Prop
 | .exit id',env,σ=>if id'=id then Q .normal env σ else Q (.exit id') env σ
 | e,env,σ=>Q e env σ
theorem AW_block {P:Program} {N n0 id:Nat} {c:Code} {Q:Exit→Env→Heap→Prop} {env:Env} {σ:Heap} (h:AW P N n0 c (BlockK id Q) env σ):AW P N n0 (.block id c) Q env σ:=fun φ ι a w h1 h2=>by
 refine wp_block (Code.wp_mono (fun e a' w' q=>?_) (h φ ι a w h1 h2))
 obtain ⟨φ',ι',env',σ',g1,g2,g3,g4⟩:=q
 cases e
 case exit id' =>
  simp only [BlockK] at g4
  simp only [Exit.inBlock]
  split
  ·rw [if_pos (by assumption)] at g4; exact ⟨φ',ι',env',σ',g1,g2,g3,g4⟩
  ·rw [if_neg (by assumption)] at g4; exact ⟨φ',ι',env',σ',g1,g2,g3,g4⟩
 all_goals exact ⟨φ',ι',env',σ',g1,g2,g3,g4⟩

/-! ### Operands -/
inductive KX where
 | t (n:Nat)
 | c (v:PV)
def kx (env:Env):KX→PV
 | .t n=>look env n
 | .c v=>v
def cv:Value→Option PV
 | .int k n=>some (.int k n)
 | .bool b=>some (.bool b)
 | .string s=>some (.str s.data.toList)
 | .pointer none=>some .nilptr
 | .slice none 0 0=>some .nils
 | .nilFunc=>some .nilf
 | .nilIface=>some .nili
 | _=>none
def trX:Operand→Option KX
 | .tmp t=>some (.t t)
 | .const v=>(cv v).map .c
 | .func f=>some (.c (.fn (.func f) [] []))
 | .global _=>none
theorem cv_rel {v:Value} {c:PV} (h:cv v=some c) (φ:Frz) (ι:List KLoc):Rel φ ι c v:=by
 unfold cv at h
 split at h <;> simp at h <;> subst h
 ·exact .int _ _
 ·exact .bool _
 ·exact .str _
 ·exact .nilptr
 ·exact .nils
 ·exact .nilf
 ·exact .nili
theorem trX_rel {N:Nat} {φ:Frz} {ι:List KLoc} {env:Env} {a:Act} (he:EOK N φ ι env a) {o:Operand} {x:KX} (h:trX o=some x):Rel φ ι (kx env x) (a.eval o):=by
 cases o <;> simp [trX] at h
 case tmp t=>subst h; exact he.rel t
 case const v=>obtain ⟨c,hc,rfl⟩:=h; exact cv_rel hc φ ι
 case func f=>subst h; exact .fn _ [] [] [] [] rfl rfl (by simp) (by simp)

theorem Rel.bool_inv {φ:Frz} {ι:List KLoc} {b:Bool} {v:Value} (h:Rel φ ι (.bool b) v):v = .bool b:=by cases h; rfl
theorem Rel.int_inv {φ:Frz} {ι:List KLoc} {k:IntKind} {n:Int} {v:Value} (h:Rel φ ι (.int k n) v):v = .int k n:=by cases h; rfl
theorem Rel.str_inv {φ:Frz} {ι:List KLoc} {s:List UInt8} {v:Value} (h:Rel φ ι (.str s) v):v = .string ⟨s.toArray⟩:=by cases h; rfl
theorem Rel.nils_inv {φ:Frz} {ι:List KLoc} {v:Value} (h:Rel φ ι .nils v):v = .slice none 0 0:=by cases h; rfl
theorem Rel.agg_inv {φ:Frz} {ι:List KLoc} {cs:List PV} {v:Value} (h:Rel φ ι (.agg cs) v):∃ vs:List Value,v = .agg vs.toArray∧RelL φ ι cs vs∧cs.all PV.ok=true:=by
 cases h with
 | agg _ vs hl hok h=>exact ⟨vs,rfl,⟨hl,h⟩,hok⟩
theorem Rel.tup_inv {φ:Frz} {ι:List KLoc} {cs:List PV} {v:Value} (h:Rel φ ι (.tup cs) v):∃ vs:List Value,v = .tuple vs.toArray∧RelL φ ι cs vs:=by
 cases h with
 | tup _ vs hl h=>exact ⟨vs,rfl,⟨hl,h⟩⟩
theorem Rel.ptr_inv {φ:Frz} {ι:List KLoc} {id off:Nat} {v:Value} (h:Rel φ ι (.ptr id off) v):∃ b,ι[id]? = some (.box b)∧v = .pointer (some ⟨b,off,none⟩):=by
 cases h with
 | ptr _ _ b h=>exact ⟨b,h,rfl⟩
theorem Rel.fn_inv {φ:Frz} {ι:List KLoc} {f:Fn} {a b:List PV} {v:Value} (h:Rel φ ι (.fn f a b) v):∃ x y:List Value,v = .func f x.toArray y.toArray∧RelL φ ι a x∧RelL φ ι b y:=by
 cases h with
 | fn _ _ _ x y ha hb h1 h2=>exact ⟨x,y,rfl,⟨ha,h1⟩,⟨hb,h2⟩⟩

theorem AW_cond {P:Program} {N n0:Nat} {o:Operand} {x:KX} (hx:trX o=some x) {t f:Code} {Q:Exit→Env→Heap→Prop} {env:Env} {σ:Heap} {b:Bool} (hb:kx env x = .bool b)
  (ht:b=true→AW P N n0 t Q env σ) (hf:b=false→AW P N n0 f Q env σ):AW P N n0 (.cond o t f) Q env σ:=fun φ ι a w h1 h2=>by
 have hr:=trX_rel h2.1 hx
 rw [hb] at hr
 have he:a.eval o = .bool b:=hr.bool_inv
 refine wp_cond_split he (fun e=>ht e φ ι a w h1 h2) (fun e=>hf e φ ι a w h1 h2)

end Go.Kv
end

/- Heaps that grow, cells that are read and written, under the relation. -/
section
namespace Go.Kv
set_option linter.unusedVariables false

theorem ObjOK.keep {φ φ':Frz} {ι ι':List KLoc} {w w':World} {o:AObj} {l:KLoc} (h:ObjOK φ ι w o l) (hf:FLe φ φ') (hl:LLe ι ι') (hw:∀ b,l.block=some b→w'.heap[b]? = w.heap[b]?):ObjOK φ' ι' w' o l:=by
 cases o with
 | dead=>cases l <;> simp [ObjOK]
 | box cs =>
  cases l <;> simp only [ObjOK] at h ⊢
  obtain ⟨C,e,h1,h2,h3⟩:=h
  exact ⟨C,e,(hw _ rfl).trans h1,h2.mono hf hl,h3⟩
 | arr ver e es xs =>
  cases l <;> simp only [ObjOK] at h ⊢
  obtain ⟨h1,h2,h2',h3,ys,h4,h5,h6⟩:=h
  refine ⟨h1,h2,h2',h3,ys,⟨h4.1,?_⟩,h5.mono hf hl,h6⟩
  rcases h4.2 with hn | ⟨g,cap,cur,rfl,hb,hg,rest⟩
  ·exact .inl hn
  ·exact .inr ⟨g,cap,cur,rfl,hb,(hw g rfl).trans hg,rest⟩

theorem heap_lt {w:World} {b:Nat} {o:Obj} (h:w.heap[b]? = some o):b<w.heap.size:=(Array.getElem?_eq_some_iff.1 h).1

theorem HOK.keep {φ:Frz} {ι:List KLoc} {σ:Heap} {w w':World} (h:HOK φ ι σ w) (hw:∀ b,b<w.heap.size→w'.heap[b]? = w.heap[b]?) (hs:w.heap.size≤w'.heap.size):HOK φ ι σ w' where
 len:=h.len
 fz:=fun b C hb=>by
  obtain ⟨e,f,g⟩:=h.fz b C hb
  exact ⟨e,f,(hw b (heap_lt g)).trans g⟩
 nf:=h.nf
 dis:=h.dis
 lt:=fun id l b h1 h2=>Nat.lt_of_lt_of_le (h.lt id l b h1 h2) hs
 obj:=fun id o l h1 h2=>(h.obj id o l h1 h2).keep (.refl _) (.refl _) (fun b hb=>hw b (h.lt id l b h2 hb))

theorem Tr.keep {n:Nat} {φ:Frz} {ι:List KLoc} {w w':World} (hw:∀ b,b<w.heap.size→w'.heap[b]? = w.heap[b]?) (hs:w.heap.size≤w'.heap.size) (h1:w'.os=w.os) (h2:w'.tape=w.tape) (h3:w'.output=w.output):Tr n φ ι w φ ι w' :=
 ⟨.refl _,(LLe.refl _).of_take n,fun b hb _=>hw b hb,hs,fun _ h=>.inl h,h1,h2,h3,fun _ _ h=>.inl h⟩

theorem HOK.drew {φ:Frz} {ι:List KLoc} {σ:Heap} {w:World} (h:HOK φ ι σ w):HOK φ ι σ { w with drawn:=w.drawn+1 }:=h.keep (fun _ _=>rfl) (Nat.le_refl _)
theorem Tr.drew (n:Nat) (φ:Frz) (ι:List KLoc) (w:World):Tr n φ ι w φ ι { w with drawn:=w.drawn+1 }:=Tr.keep (fun _ _=>rfl) (Nat.le_refl _) rfl rfl rfl

theorem alloc_old (w:World) (o:Obj) {b:Nat} (hb:b<w.heap.size):(w.alloc o).heap[b]? = w.heap[b]?:=by
 show (w.heap.push o)[b]? = _
 simp [Array.getElem?_push,Nat.ne_of_lt hb]
theorem alloc_new (w:World) (o:Obj):(w.alloc o).heap[w.heap.size]? = some o:=by
 show (w.heap.push o)[w.heap.size]? = _
 simp
theorem alloc_size (w:World) (o:Obj):(w.alloc o).heap.size=w.heap.size+1:=by
 show (w.heap.push o).size=_
 simp

theorem HOK.push {φ:Frz} {ι:List KLoc} {σ:Heap} {w w':World} (h:HOK φ ι σ w) (hw:∀ b,b<w.heap.size→w'.heap[b]? = w.heap[b]?) (hs:w.heap.size≤w'.heap.size) {o:AObj} {l:KLoc}
  (hb:∀ b,l.block=some b→w.heap.size≤b∧b<w'.heap.size) (ho:ObjOK φ ι w' o l):HOK φ (ι ++ [l]) (σ ++ [o]) w':=by
 have hk:=h.keep hw hs
 have hin:∀ (id:Nat) (x:KLoc),(ι ++ [l])[id]? = some x→ι[id]? = some x∨(id = ι.length∧x=l):=fun id x hx=>by
  rw [List.getElem?_append] at hx
  split at hx
  ·exact .inl hx
  ·rename_i hn
   have:id - ι.length=0:=by
    have:=(List.getElem?_eq_some_iff.1 hx).1
    simp at this; omega
   rw [this] at hx; simp at hx
   exact .inr ⟨by omega,hx.symm⟩
 refine ⟨by simp [h.len],hk.fz,fun id x b h1 h2=>?_,fun id id' x x' b h1 h2 h3 h4=>?_,fun id x b h1 h2=>?_,fun id o' x h1 h2=>?_⟩
 ·rcases hin _ _ h1 with h1 | ⟨_,rfl⟩
  ·exact h.nf id x b h1 h2
  ·cases hp:φ b with
   | none=>rfl
   | some C =>
    obtain ⟨e,f,g⟩:=h.fz b C hp
    have:=heap_lt g
    have:=(hb b h2).1
    omega
 ·rcases hin _ _ h1 with h1 | ⟨e1,e2⟩ <;> rcases hin _ _ h2 with h2 | ⟨e3,e4⟩
  ·exact h.dis id id' x x' b h1 h2 h3 h4
  ·have:=h.lt id x b h1 h3; rw [e4] at h4; have:=(hb b h4).1; omega
  ·have:=h.lt id' x' b h2 h4; rw [e2] at h3; have:=(hb b h3).1; omega
  ·omega
 ·rcases hin _ _ h1 with h1 | ⟨_,rfl⟩
  ·exact hk.lt id x b h1 h2
  ·exact (hb b h2).2
 ·rcases hin _ _ h2 with h2 | ⟨e1,e2⟩
  ·have h3:σ[id]? = some o':=by
    have hid:=(List.getElem?_eq_some_iff.1 h2).1
    rw [List.getElem?_append_left (by rw [← h.len]; exact hid)] at h1
    exact h1
   exact (hk.obj id o' x h3 h2).keep (.refl _) (.append _ _) (fun _ _=>rfl)
  ·subst e1; subst e2
   rw [h.len,List.getElem?_append_right (Nat.le_refl _)] at h1
   simp at h1; subst h1
   exact ho.keep (.refl _) (.append _ _) (fun _ _=>rfl)

theorem Tr.push {φ:Frz} {ι:List KLoc} {w w':World} (n:Nat) (hw:∀ b,b<w.heap.size→w'.heap[b]? = w.heap[b]?) (hs:w.heap.size≤w'.heap.size) (h1:w'.os=w.os) (h2:w'.tape=w.tape) (h3:w'.output=w.output) {l:KLoc}
  (hb:∀ b,l.block=some b→w.heap.size≤b):Tr n φ ι w φ (ι ++ [l]) w' where
 f:=.refl _
 l:=(LLe.append _ _).of_take n
 fr:=fun b hb _=>hw b hb
 sz:=hs
 ow:=fun b ⟨id,x,hx,hb'⟩=>by
  rw [List.getElem?_append] at hx
  split at hx
  ·exact .inl ⟨id,x,hx,hb'⟩
  ·have hm:=List.mem_of_getElem? hx
   simp at hm; subst hm
   exact .inr (hb b hb')
 os:=h1
 tp:=h2
 out:=h3
 fn:=fun _ _ h=>.inl h

def addFrz (φ:Frz) (b:Nat) (C:Array Value):Frz:=fun x=>if x=b then some C else φ x
theorem HOK.frz {φ:Frz} {ι:List KLoc} {σ:Heap} {w w':World} (h:HOK φ ι σ w) (hw:∀ b,b<w.heap.size→w'.heap[b]? = w.heap[b]?) (hs:w.heap.size≤w'.heap.size) {b:Nat} {C:Array Value} {e:TypeId} {f:Nat × Nat}
  (hb:w.heap.size≤b) (hn:w'.heap[b]? = some (.cells C e f)):HOK (addFrz φ b C) ι σ w'∧FLe φ (addFrz φ b C)∧∀ x D,addFrz φ b C x=some D→φ x=some D∨w.heap.size≤x:=by
 have hk:=h.keep hw hs
 have hle:FLe φ (addFrz φ b C):=fun x D hx=>by
  unfold addFrz
  split
  ·rename_i e1; subst e1
   obtain ⟨_,_,g⟩:=h.fz _ _ hx
   have:=heap_lt g; omega
  ·exact hx
 refine ⟨⟨h.len,fun x D hx=>?_,fun id l x h1 h2=>?_,h.dis,hk.lt,fun id o l h1 h2=>(hk.obj id o l h1 h2).keep hle (.refl _) (fun _ _=>rfl)⟩,hle,fun x D hx=>by
  unfold addFrz at hx
  split at hx
  ·rename_i e1; subst e1; exact .inr hb
  ·exact .inl hx⟩
 ·unfold addFrz at hx
  split at hx
  ·rename_i e1; subst e1; simp at hx; subst hx; exact ⟨e,f,hn⟩
  ·exact hk.fz x D hx
 ·have h3:=h.lt id l x h1 h2
  unfold addFrz
  rw [if_neg (by omega)]
  exact h.nf id l x h1 h2
theorem Tr.frz {φ φ':Frz} {ι:List KLoc} {w w':World} (n:Nat) (hf:FLe φ φ'∧∀ x D,φ' x=some D→φ x=some D∨w.heap.size≤x) (hw:∀ b,b<w.heap.size→w'.heap[b]? = w.heap[b]?) (hs:w.heap.size≤w'.heap.size) (h1:w'.os=w.os) (h2:w'.tape=w.tape) (h3:w'.output=w.output):Tr n φ ι w φ' ι w' :=
 ⟨hf.1,(LLe.refl _).of_take n,fun b hb _=>hw b hb,hs,fun _ h=>.inl h,h1,h2,h3,fun x D h=>(hf.2 x D h).imp id .inr⟩

theorem HOK.upd {φ:Frz} {ι:List KLoc} {σ:Heap} {w w':World} (h:HOK φ ι σ w) {id:Nat} {l l':KLoc} {o:AObj} (hl:ι[id]? = some l) (hle:l.le l') (hs:w.heap.size≤w'.heap.size)
  (hw:∀ b,b<w.heap.size→l.block≠some b→w'.heap[b]? = w.heap[b]?)
  (hb:∀ b,l'.block=some b→l.block=some b∨w.heap.size≤b) (hb2:∀ b,l'.block=some b→b<w'.heap.size) (ho:ObjOK φ (ι.set id l') w' o l'):HOK φ (ι.set id l') (σ.set id o) w'∧LLe ι (ι.set id l'):=by
 have hid:=(List.getElem?_eq_some_iff.1 hl).1
 have hLe:LLe ι (ι.set id l'):=fun j x hx=>by
  by_cases e:id=j
  ·subst e; rw [hl] at hx; cases hx
   exact ⟨l',by simp [hid],hle⟩
  ·exact ⟨x,by rw [List.getElem?_set_ne e]; exact hx,x.le_refl⟩
 have hin:∀ (j:Nat) (x:KLoc),(ι.set id l')[j]? = some x→(j≠id∧ι[j]? = some x)∨(j=id∧x=l'):=fun j x hx=>by
  by_cases e:id=j
  ·subst e; rw [List.getElem?_set_self hid] at hx; exact .inr ⟨rfl,(Option.some.inj hx).symm⟩
  ·rw [List.getElem?_set_ne e] at hx; exact .inl ⟨fun h=>e h.symm,hx⟩
 have hother:∀ (j:Nat) (x:KLoc),j≠id→ι[j]? = some x→∀ b,x.block=some b→w'.heap[b]? = w.heap[b]?:=fun j x hj hx b hb' =>
  hw b (h.lt j x b hx hb') (fun e=>hj (h.dis j id x l b hx hl hb' e))
 refine ⟨⟨by simp [h.len],fun b C hc=>?_,fun j x b h1 h2=>?_,fun j j' x x' b h1 h2 h3 h4=>?_,fun j x b h1 h2=>?_,fun j o' x h1 h2=>?_⟩,hLe⟩
 ·obtain ⟨e,f,g⟩:=h.fz b C hc
  refine ⟨e,f,(hw b (heap_lt g) fun e1=>?_).trans g⟩
  have:=h.nf id l b hl e1
  rw [hc] at this; cases this
 ·rcases hin j x h1 with ⟨_,h1⟩ | ⟨_,rfl⟩
  ·exact h.nf j x b h1 h2
  ·rcases hb b h2 with h3 | h3
   ·exact h.nf id l b hl h3
   ·cases hp:φ b with
    | none=>rfl
    | some C=>obtain ⟨e,f,g⟩:=h.fz b C hp; have:=heap_lt g; omega
 ·rcases hin j x h1 with ⟨n1,h1⟩ | ⟨n1,e1⟩ <;> rcases hin j' x' h2 with ⟨n2,h2⟩ | ⟨n2,e2⟩
  ·exact h.dis j j' x x' b h1 h2 h3 h4
  ·rw [e2] at h4
   rcases hb b h4 with h5 | h5
   ·exact absurd (h.dis j id x l b h1 hl h3 h5) n1
   ·have:=h.lt j x b h1 h3; omega
  ·rw [e1] at h3
   rcases hb b h3 with h5 | h5
   ·exact absurd (h.dis j' id x' l b h2 hl h4 h5) n2
   ·have:=h.lt j' x' b h2 h4; omega
  ·omega
 ·rcases hin j x h1 with ⟨_,h1⟩ | ⟨_,rfl⟩
  ·exact Nat.lt_of_lt_of_le (h.lt j x b h1 h2) hs
  ·exact hb2 b h2
 ·rcases hin j x h2 with ⟨n1,h2⟩ | ⟨rfl,rfl⟩
  ·rw [List.getElem?_set_ne (fun e=>n1 e.symm)] at h1
   exact (h.obj j o' x h1 h2).keep (.refl _) hLe (hother j x n1 h2)
  ·have hid':j < σ.length:=by rw [← h.len]; exact hid
   rw [List.getElem?_set_self hid'] at h1
   cases h1; exact ho

theorem Tr.upd {φ:Frz} {ι:List KLoc} {w w':World} (n:Nat) {id:Nat} {l l':KLoc} (hl:ι[id]? = some l) (hle:LLe ι (ι.set id l')) (hs:w.heap.size≤w'.heap.size)
  (hw:∀ b,b<w.heap.size→l.block≠some b→w'.heap[b]? = w.heap[b]?) (hb:∀ b,l'.block=some b→l.block=some b∨w.heap.size≤b) (h1:w'.os=w.os) (h2:w'.tape=w.tape) (h3:w'.output=w.output):Tr n φ ι w φ (ι.set id l') w' where
 f:=.refl _
 l:=hle.of_take n
 fr:=fun b hb' ho=>hw b hb' (fun e=>ho ⟨id,l,hl,e⟩)
 sz:=hs
 ow:=fun b ⟨j,x,hx,hb'⟩=>by
  by_cases e:id=j
  ·subst e
   rw [List.getElem?_set_self (List.getElem?_eq_some_iff.1 hl).1] at hx
   cases hx
   rcases hb b hb' with h | h
   ·exact .inl ⟨id,l,hl,h⟩
   ·exact .inr h
  ·rw [List.getElem?_set_ne e] at hx
   exact .inl ⟨j,x,hx,hb'⟩
 os:=h1
 tp:=h2
 out:=h3
 fn:=fun _ _ h=>.inl h

end Go.Kv
end

/- The compact form of operations, how it is read off the machine's, and what an operation means over abstract values. -/
section
namespace Go.Kv
set_option linter.unusedVariables false

inductive KP where
 | mv (x:KX)
 | pick (c a b:KX)
 | alloc (z:List PV)
 | box (frz:Bool) (x:KX)
 | load (agg:Bool) (n:Nat) (x:KX)
 | store (n:Nat) (x y:KX)
 | nilck (x:KX)
 | bin (op:BinOp) (x y:KX)
 | beq (neg:Bool) (x y:KX)
 | aeq (neg:Bool) (n:Nat) (x y:KX)
 | not (x:KX)
 | neg (x:KX)
 | conv (k:IntKind) (x:KX)
 | fieldA (off:Nat) (x:KX)
 | fieldV (agg:Bool) (n off:Nat) (x:KX)
 | idxA (len esz:Nat) (x i:KX)
 | idxS (esz:Nat) (x i:KX)
 | idxV (len esz:Nat) (agg:Bool) (x i:KX)
 | idxStr (x i:KX)
 | extr (i:Nat) (x:KX)
 | mkfn (f:Fn) (a b:List KX)
 | call (f:KX) (args:List KX)
 | pcall (f:KX) (args:List KX)
 | len (str:Bool) (x:KX)
 | app (s x:KX) (e:TypeId) (esz:Nat)
 | mks (e:TypeId) (esz:Nat) (z:PV) (len cap:KX)
 | bsl (frz:Bool) (e:TypeId) (esz:Nat) (parts:List KX)
 | build (z:List PV) (parts:List (Nat × Nat × KX))
 | sls (esz:Nat) (x:KX) (lo hi:Option KX)
 | mnmx (isMax:Bool) (x:KX) (xs:List KX)
 | clr (esz:Nat) (z:PV) (x:KX)
 | cap0 (x:KX)
 | isn (neg:Bool) (x:KX)
 | apn (s n:KX) (e:TypeId) (esz:Nat) (z:PV)
 | slA (len:Nat) (x:KX) (hi:Option KX)
 | cpy (d s:KX)
 | bad

structure KO where
 d:Option Nat
 g:Option (Nat × Bool)
 p:KP
/-! Short forms of printed code. -/
abbrev iC (v:Int):KX:=.c (.int .i64 v)
abbrev fC (f:Nat):KX:=.c (.fn (.func f) [] [])
abbrev oP (d:Nat) (p:KP):KO:=⟨some d,none,p⟩
abbrev mV (d n:Nat):KO:=⟨some d,none,.mv (.t n)⟩

def ints (l:List Int):List PV:=l.map (PV.int .i64)

/-! ### What is read and written -/
def subC (cs:List PV) (off n:Nat):List PV:=if off=0∧cs.length=n then cs else (cs.drop off).take n
def putC (cs:List PV) (off:Nat) (vs:List PV):List PV :=
 match vs with
 | [v]=>cs.set off v
 | _=>if off=0∧vs.length=cs.length then vs else cs.take off ++ vs ++ cs.drop (off+vs.length)
def putE (x:PV) (off:Nat) (y:PV):PV :=
 match x with
 | .agg cs=>.agg (putC cs off y.cs)
 | _=>y
def ldC (agg:Bool) (n:Nat) (cs:List PV) (off:Nat) (K:PV→Prop):Prop :=
 if agg=true then off+n≤cs.length∧K (.agg (subC cs off n)) else off<cs.length∧∀ c,cs[off]? = some c→K c
def aLoad (agg:Bool) (n:Nat) (p:PV) (σ:Heap) (K:PV→Prop):Prop :=
 match p with
 | .ptr id off=>(match σ[id]? with | some (.box cs)=>ldC agg n cs off K | _=>False)
 | .fptr cs off=>ldC agg n cs off K
 | .eptr id ver i off=>(match σ[id]? with | some (.arr v _ _ xs)=>v=ver∧i<xs.length∧∀ x,xs[i]? = some x→ldC agg n x.cs off K | _=>False)
 | _=>False
def aStore (n:Nat) (p y:PV) (σ:Heap) (K:Heap→Prop):Prop :=
 match p with
 | .ptr id off=>(match σ[id]? with | some (.box cs)=>(y.cs.length=n∧y.cs.all PV.ok=true∧off+n≤cs.length)∧K (σ.set id (.box (putC cs off y.cs))) | _=>False)
 | .eptr id ver i off=>(match σ[id]? with
   | some (.arr v e esz xs)=>(v=ver∧y.cs.length=n∧y.cs.all PV.ok=true∧i<xs.length)∧∀ x,xs[i]? = some x→off+n≤x.cs.length∧K (σ.set id (.arr v e esz (xs.set i (putE x off y))))
   | _=>False)
 | _=>False

/-! ### Numbers -/
def aWrap (k:IntKind) (n:Int) (K:PV→Prop):Prop :=
 match k with
 | .i64=>(-9223372036854775808≤n∧n≤9223372036854775807)∧K (.int .i64 n)
 | k=>K (.int k (k.wrap n))
def aInt (op:BinOp) (k:IntKind) (a b:Int) (K:PV→Prop):Prop :=
 match op with
 | .add=>aWrap k (a+b) K
 | .sub=>aWrap k (a - b) K
 | .mul=>aWrap k (a * b) K
 | .quo=>(0≤a∧0<b)∧aWrap k (a / b) K
 | .rem=>(0≤a∧0<b)∧K (.int k (a % b))
 | .eql=>K (.bool (decide (a=b)))
 | .neq=>K (.bool (!decide (a=b)))
 | .lss=>K (.bool (decide (a<b)))
 | .leq=>K (.bool (decide (a≤b)))
 | .gtr=>K (.bool (decide (b<a)))
 | .geq=>K (.bool (decide (b≤a)))
 | .and=>K (.int k (k.wrap (BitVec.ofInt k.bits a &&& BitVec.ofInt k.bits b).toNat))
 | .or=>K (.int k (k.wrap (BitVec.ofInt k.bits a ||| BitVec.ofInt k.bits b).toNat))
 | .xor=>K (.int k (k.wrap (BitVec.ofInt k.bits a ^^^ BitVec.ofInt k.bits b).toNat))
 | .andNot=>K (.int k (k.wrap (BitVec.ofInt k.bits a &&& ~~~ BitVec.ofInt k.bits b).toNat))
 | .shl=>(0≤b∧b≤k.bits)∧K (.int k (k.wrap (a * 2 ^ b.toNat)))
 | .shr=>(0≤b∧b≤k.bits)∧K (.int k (a.fdiv (2 ^ b.toNat)))
def aStr (op:BinOp) (a b:List UInt8) (K:PV→Prop):Prop :=
 match op with
 | .add=>a.length+b.length≤4611686018427387904∧K (.str (a ++ b))
 | .eql=>K (.bool (decide (a=b)))
 | .neq=>K (.bool (!decide (a=b)))
 | _=>False
def aBin (op:BinOp) (x y:PV) (K:PV→Prop):Prop :=
 match x,y with
 | .int k a,.int k' b=>(op≠.shl→op≠.shr→k=k')∧aInt op k a b K
 | .str a,.str b=>aStr op a b K
 | _,_=>False
def aConv (k:IntKind) (x:PV) (K:PV→Prop):Prop :=
 match x with
 | .int _ n=>aWrap k n K
 | _=>False
def intOf?:PV→Option Int
 | .int _ n=>some n
 | _=>none

/-! ### Slices -/
def okL (esz:Nat) (ys:List PV):Prop:=∀ y∈ys,y.cs.length=esz∧y.cs.all PV.ok=true
def aNews (esz:Nat) (x:PV) (σ:Heap) (K:List PV→Prop):Prop :=
 match x with
 | .nils=>K []
 | .list ys=>okL esz ys∧K ys
 | .ref id ver off len=>(match σ[id]? with | some (.arr v _ es ys)=>(v=ver∧es=esz∧off+len≤ys.length)∧K ((ys.drop off).take len) | _=>False)
 | _=>False
def aApp (e:TypeId) (esz:Nat) (s x:PV) (σ:Heap) (K:PV→Heap→Prop):Prop :=
 match s with
 | .nils=>aNews esz x σ fun ns=>ns.length≤4294967296∧K (.ref σ.length 0 0 ns.length) (σ ++ [.arr 0 e esz ns])
 | .ref id ver off len=>(match σ[id]? with
   | some (.arr v e' es xs)=>aNews esz x σ fun ns=>(v=ver∧e'=e∧es=esz∧off=0∧len≤xs.length∧len+ns.length≤4294967296) ∧
     K (.ref id (ver+1) 0 (len+ns.length)) (σ.set id (.arr (ver+1) e esz (xs.take len ++ ns)))
   | _=>False)
 | _=>False
def aLen (x:PV) (σ:Heap) (K:PV→Prop):Prop :=
 match x with
 | .nils=>K (.int .i64 0)
 | .list xs=>K (.int .i64 xs.length)
 | .bref _ _ len=>K (.int .i64 len)
 | .ref id ver _ len=>(match σ[id]? with | some (.arr v _ _ _)=>v=ver∧K (.int .i64 len) | _=>False)
 | _=>False
def aIdxS (esz:Nat) (x:PV) (n:Int) (σ:Heap) (K:PV→Prop):Prop :=
 match x with
 | .list xs=>(0≤n∧n<xs.length)∧∀ y,xs[n.toNat]? = some y→y.cs.length=esz∧K (.fptr y.cs 0)
 | .ref id ver off len=>(match σ[id]? with | some (.arr v _ es xs)=>(v=ver∧es=esz∧0≤n∧n<len∧off+len≤xs.length)∧K (.eptr id ver (n.toNat+off) 0) | _=>False)
 | .bref id off len=>(esz=1∧0≤n∧n<len)∧K (.ptr id (n.toNat+off))
 | _=>False
def aSls (esz:Nat) (x:PV) (lo hi:Option Int) (σ:Heap) (K:PV→Prop):Prop :=
 match x with
 | .nils=>(lo.getD 0=0∧hi.getD 0=0)∧K .nils
 | .list xs=>(0≤lo.getD 0∧lo.getD 0≤hi.getD xs.length∧hi.getD xs.length≤xs.length)∧okL esz xs∧K (.list ((xs.drop (lo.getD 0).toNat).take ((hi.getD xs.length).toNat - (lo.getD 0).toNat)))
 | .ref id ver off len=>(match σ[id]? with
   | some (.arr v _ es _)=>(v=ver∧es=esz∧0≤lo.getD 0∧lo.getD 0≤hi.getD len∧hi.getD len≤len)∧K (.ref id ver (off+(lo.getD 0).toNat) ((hi.getD len).toNat - (lo.getD 0).toNat))
   | _=>False)
 | _=>False
def aAt (p:PV) (f:Nat) (σ:Heap) (K:PV→Prop):Prop :=
 match p with
 | .ptr id off=>K (.ptr id (f+off))
 | .fptr cs off=>K (.fptr cs (f+off))
 | .eptr id ver i off=>(match σ[id]? with | some (.arr v _ _ _)=>v=ver∧K (.eptr id ver i (f+off)) | _=>False)
 | _=>False
def aCall (P:Program) (f:PV) (args:List PV) (σ:Heap) (K:PV→Heap→Prop):Prop :=
 match f with
 | .fn (.func fid) first caps=>ACall P fid (first ++ args ++ caps) σ K
 | _=>False
def aPCall (P:Program) (f:PV) (args:List PV) (σ:Heap) (K:PV→Prop):Prop :=
 match f with
 | .fn (.func fid) first caps=>PCall P fid (first ++ args ++ caps) σ K
 | _=>False
def buildC (env:Env):List PV→List (Nat × Nat × KX)→List PV
 | cs,[]=>cs
 | cs,(off,_,x) :: r=>buildC env (putC cs off (kx env x).cs) r
def buildOK (env:Env) (n:Nat):List (Nat × Nat × KX)→Prop
 | []=>True
 | (off,sz,x) :: r=>((kx env x).cs.length=sz∧(kx env x).cs.all PV.ok=true∧off+sz≤n)∧buildOK env n r
def mnmxV (isMax:Bool):PV→List PV→(PV→Prop)→Prop
 | x,[],K=>K x
 | .int k a,.int _ b :: r,K=>mnmxV isMax (.int k (if isMax=true then max a b else min a b)) r K
 | _,_,_=>False

def aClr (esz:Nat) (z x:PV) (σ:Heap) (K:Heap→Prop):Prop :=
 match x with
 | .nils=>K σ
 | .ref id ver off len=>(match σ[id]? with
   | some (.arr v e es xs)=>(v=ver∧es=esz∧off+len≤xs.length)∧K (σ.set id (.arr v e es (xs.take off ++ List.replicate len z ++ xs.drop (off+len))))
   | _=>False)
 | _=>False
def aIsn (x:PV) (K:Bool→Prop):Prop :=
 match x with
 | .nils=>K true
 | .list []=>K true∧K false
 | .list (_ :: _)=>K false
 | _=>False
def aSlA (len:Nat) (x:PV) (n:Nat) (K:PV→Prop):Prop :=
 match x with
 | .ptr id off=>K (.bref id off n)
 | .fptr cs off=>off+len≤cs.length∧K (.list ((cs.drop off).take n))
 | _=>False
def aSrc (x:PV) (σ:Heap) (K:List PV→Prop):Prop :=
 match x with
 | .bref id off len=>(match σ[id]? with | some (.box cs)=>off+len≤cs.length∧K ((cs.drop off).take len) | _=>False)
 | x=>aNews 1 x σ K
def aCpy (d s:PV) (σ:Heap) (K:PV→Heap→Prop):Prop :=
 match d with
 | .bref id off len=>(match σ[id]? with
   | some (.box cs)=>aSrc s σ fun ns=>off+len≤cs.length∧K (.int .i64 (min ns.length len:Nat)) (σ.set id (.box (putC cs off (flat (ns.take len)))))
   | _=>False)
 | _=>False
def aApn (e:TypeId) (esz:Nat) (z s:PV) (n:Int) (σ:Heap) (K:PV→Heap→Prop):Prop :=
 match s with
 | .nils=>(0≤n∧n≤4294967296)∧(n=0→K .nils σ)∧(0<n→K (.ref σ.length 0 0 n.toNat) (σ ++ [.arr 0 e esz (List.replicate n.toNat z)]))
 | _=>False
def aOp (P:Program) (p:KP) (env:Env) (σ:Heap) (K:PV→Heap→Prop):Prop :=
 match p with
 | .mv x=>K (kx env x) σ
 | .pick c a b=>(match kx env c with | .bool t=>(t=true→K (kx env a) σ)∧(t=false→K (kx env b) σ) | _=>False)
 | .alloc z=>z.all PV.ok=true∧K (.ptr σ.length 0) (σ ++ [.box z])
 | .box frz x=>(kx env x).cs.all PV.ok=true∧(if frz=true then K (.fptr (kx env x).cs 0) σ else K (.ptr σ.length 0) (σ ++ [.box (kx env x).cs]))
 | .load agg n x=>aLoad agg n (kx env x) σ fun v=>K v σ
 | .store n x y=>aStore n (kx env x) (kx env y) σ fun σ'=>K .undef σ'
 | .nilck x=>(match kx env x with | .ptr .. | .fptr .. | .fn (.func _) _ _=>K (kx env x) σ | .eptr id ver i off=>aAt (.eptr id ver i off) 0 σ fun _=>K (.eptr id ver i off) σ | _=>False)
 | .bin op x y=>aBin op (kx env x) (kx env y) fun v=>K v σ
 | .beq ng x y=>(match kx env x,kx env y with | .bool a,.bool b=>K (.bool (if ng=true then a != b else a == b)) σ | _,_=>False)
 | .aeq ng n x y=>(match kx env x,kx env y with | .agg cs,.agg ds=>∃ xs ys:List Int,cs=ints xs∧ds=ints ys∧(xs.length=n∧ys.length=n)∧K (.bool (if ng=true then !decide (xs=ys) else decide (xs=ys))) σ | _,_=>False)
 | .not x=>(match kx env x with | .bool b=>K (.bool (!b)) σ | _=>False)
 | .neg x=>(match kx env x with | .int k n=>aWrap k (0 - n) fun v=>K v σ | _=>False)
 | .conv k x=>aConv k (kx env x) fun v=>K v σ
 | .fieldA off x=>aAt (kx env x) off σ fun v=>K v σ
 | .fieldV agg n off x=>(match kx env x with | .agg cs=>ldC agg n cs off fun v=>K v σ | _=>False)
 | .idxA len esz x i=>(match intOf? (kx env i) with | some n=>(0≤n∧n<len)∧aAt (kx env x) (n.toNat * esz) σ fun v=>K v σ | none=>False)
 | .idxS esz x i=>(match intOf? (kx env i) with | some n=>aIdxS esz (kx env x) n σ fun v=>K v σ | none=>False)
 | .idxV len esz agg x i=>(match intOf? (kx env i),kx env x with | some n,.agg cs=>(0≤n∧n<len)∧ldC agg esz cs (n.toNat * esz) fun v=>K v σ | _,_=>False)
 | .idxStr x i=>(match intOf? (kx env i),kx env x with | some n,.str s=>(0≤n∧n<s.length)∧K (.int .u8 (s.getD n.toNat 0).toNat) σ | _,_=>False)
 | .extr i x=>(match kx env x with | .tup vs=>(match vs[i]? with | some v=>K v σ | none=>False) | _=>False)
 | .mkfn f a b=>K (.fn f (a.map (kx env)) (b.map (kx env))) σ
 | .call f args=>aCall P (kx env f) (args.map (kx env)) σ K
 | .pcall f args=>aPCall P (kx env f) (args.map (kx env)) σ fun v=>K v σ
 | .len str x=>(match str,kx env x with | true,.str s=>K (.int .i64 s.length) σ | false,.str _=>False | true,_=>False | false,y=>aLen y σ fun v=>K v σ)
 | .app s x e esz=>aApp e esz (kx env s) (kx env x) σ K
 | .mks e esz z l c=>(match intOf? (kx env l),intOf? (kx env c) with
   | some n,some m=>(0≤n∧n≤m∧m≤4294967296)∧K (.ref σ.length 0 0 n.toNat) (σ ++ [.arr 0 e esz (List.replicate n.toNat z)])
   | _,_=>False)
 | .bsl frz e esz parts=>okL esz (parts.map (kx env))∧(if frz=true then K (.list (parts.map (kx env))) σ else K (.ref σ.length 0 0 parts.length) (σ ++ [.arr 0 e esz (parts.map (kx env))]))
 | .build z parts=>(z.all PV.ok=true∧buildOK env z.length parts)∧K (.agg (buildC env z parts)) σ
 | .sls esz x lo hi=>((∀ y,lo=some y→∃ n,intOf? (kx env y)=some n)∧∀ y,hi=some y→∃ n,intOf? (kx env y)=some n)∧aSls esz (kx env x) (lo.bind fun y=>intOf? (kx env y)) (hi.bind fun y=>intOf? (kx env y)) σ fun v=>K v σ
 | .mnmx m x xs=>mnmxV m (kx env x) (xs.map (kx env)) fun v=>K v σ
 | .clr esz z x=>aClr esz z (kx env x) σ (K (.tup []))
 | .cap0 x=>(match kx env x with | .nils=>K (.int .i64 0) σ | _=>False)
 | .isn ng x=>aIsn (kx env x) fun b=>K (.bool (if ng=true then !b else b)) σ
 | .apn s n e esz z=>(match intOf? (kx env n) with | some m=>aApn e esz z (kx env s) m σ K | none=>False)
 | .slA len x hi=>0<len∧(match hi with | none=>aSlA len (kx env x) len fun v=>K v σ | some y=>(match intOf? (kx env y) with | some n=>(0≤n∧n≤len)∧aSlA len (kx env x) n.toNat fun v=>K v σ | none=>False))
 | .cpy d s=>aCpy (kx env d) (kx env s) σ K
 | .bad=>False

/-! ### Reading the machine's operation -/
def isAggT (P:Program) (t:TypeId):Option Bool:=(P.underlying t).map fun | .struct _ | .array _ _=>true | _=>false
def szT (P:Program) (t:TypeId):Option Nat:=(P.info? t).map (·.size)
def cvs (vs:List Value):Option (List PV):=vs.mapM cv
def trXs (xs:Array Operand):Option (List KX):=xs.toList.mapM trX
def trPos (P:Program) (n:Nat) (xs:List (Nat × Operand)):Option (List KX) :=
 if xs.map (·.1)=List.range n then xs.mapM (fun x=>trX x.2) else none
def trParts (pf:Nat→Option (Nat × Nat)) (parts:List (Nat × Operand)):Option (List (Nat × Nat × KX)) :=
 parts.mapM fun x=>do
  let f ← pf x.1
  let y ← trX x.2
  some (f.1,f.2,y)
def trO (x:Option Operand):Option (Option KX):=match x with | none=>some none | some o=>(trX o).map some

def cmpF (P:Program) (g:TypeId→Option Nat):List Field→Nat→Option Nat
 | [],n=>some n
 | f :: fs,n=>if f.name = "_" ∨ f.offset≠n then none else (g f.type).bind fun m=>if szT P f.type=some m then cmpF P g fs (n+m) else none
def cmpT (P:Program):Nat→TypeId→Option Nat
 | 0,_=>none
 | d+1,t=>match P.underlying t with
  | some (.int .i64)=>some 1
  | some (.struct fs)=>if P.stoodInHeld t=true then none else cmpF P (cmpT P d) fs.toList 0
  | some (.array len e)=>(cmpT P d e).bind fun n=>if szT P e=some n then some (len * n) else none
  | _=>none

def isNilC:Operand→Bool
 | .const (.slice none 0 0)=>true
 | _=>false
def trNil (op:BinOp) (x y:Operand):Option KP :=
 if isNilC y=true then (match op with | .eql=>(trX x).map (.isn false) | .neq=>(trX x).map (.isn true) | _=>none) else none
def trApn (P:Program) (e:TypeId) (i:TypeInfo) (z:Value) (s x:Operand) (t':TypeId):Option KP:=do
 let .int _ ← P.underlying t' | none
 let zs ← cvs z.cells.toList
 if i.size≠zs.length∨i.size=0∨32768<i.bytes then none else
 if (← isAggT P e) then some (.apn (← trX s) (← trX x) e i.size (.agg zs)) else none
def trBuiltin (P:Program) (b:Builtin) (as:List Operand) (ts:List TypeId):Option KP :=
 match b,as,ts with
 | .len,[x],[t]=>do
  match ← P.underlying t with
  | .slice _=>some (.len false (← trX x))
  | .string=>some (.len true (← trX x))
  | _=>none
 | .append,[s,x],[t,t']=>do
  let .slice e ← P.underlying t | none
  let i ← P.info? e
  let z ← i.zero
  if t=t'∧z.cells.size=i.size∧0<i.size∧i.bytes≤32768 then some (.app (← trX s) (← trX x) e i.size) else trApn P e i z s x t'
 | .max,x :: r,_=>do some (.mnmx true (← trX x) (← r.mapM trX))
 | .min,x :: r,_=>do some (.mnmx false (← trX x) (← r.mapM trX))
 | .clear,[x],[t]=>do
  let .slice e ← P.underlying t | none
  let i ← P.info? e
  let z ← i.zero
  let zs ← cvs z.cells.toList
  if i.size≠zs.length∨i.size=0 then none else
  if (← isAggT P e) then some (.clr i.size (.agg zs) (← trX x))
  else match zs with
   | [z1]=>some (.clr i.size z1 (← trX x))
   | _=>none
 | .cap,[x],[t]=>do
  let .slice _ ← P.underlying t | none
  some (.cap0 (← trX x))
 | .copy,[d,s],[t,_]=>do
  let .slice e ← P.underlying t | none
  if szT P e=some 1 then some (.cpy (← trX d) (← trX s)) else none
 | _,_,_=>none
def trCall (P:Program) (c:Call):Option KP :=
 match c.callee with
 | .value f=>do some (.call (← trX f) (← trXs c.args))
 | .builtin b=>trBuiltin P b c.args.toList c.argTypes.toList
 | .invoke _ _=>none
def trOp (P:Program) (fz:List Nat) (d:Option Nat):Op→Option KP
 | .move x | .assign x=>(trX x).map .mv
 | .pick c a b=>do some (.pick (← trX c) (← trX a) (← trX b))
 | .alloc t=>do
  let z ← ((P.info? t).bind (·.zero))
  let zs ← cvs z.cells.toList
  some (.alloc zs)
 | .box _ x=>do some (.box ((d.map fz.contains).getD false) (← trX x))
 | .load t x=>do
  let g ← isAggT P t
  let n ← szT P t
  some (.load g n (← trX x))
 | .store t x y=>do
  let n ← szT P t
  if n=0 then none else some (.store n (← trX x) (← trX y))
 | .nilCheck x=>do some (.nilck (← trX x))
 | .binOp op t x y _=>do
  match ← P.underlying t with
  | .int _ | .string=>some (.bin op (← trX x) (← trX y))
  | .bool=>(match op with | .eql=>do some (.beq false (← trX x) (← trX y)) | .neq=>do some (.beq true (← trX x) (← trX y)) | _=>none)
  | .struct _=>do
   let n ← cmpT P 8 t
   if P.eqGuardType P.depth t=true then none else
   (match op with | .eql=>do some (.aeq false n (← trX x) (← trX y)) | .neq=>do some (.aeq true n (← trX x) (← trX y)) | _=>none)
  | .slice _=>trNil op x y
  | _=>none
 | .unOp .not _ x=>do some (.not (← trX x))
 | .unOp .neg _ x=>do some (.neg (← trX x))
 | .convert s t x=>do
  let _ ← P.underlying s
  match ← P.underlying t with
  | .int k=>some (.conv k (← trX x))
  | _=>none
 | .fieldAddr t x f=>do
  let .struct fs ← P.underlying t | none
  let fd ← fs[f]?
  let n ← szT P fd.type
  if n=0 then none else some (.fieldA fd.offset (← trX x))
 | .field t x f=>do
  let .struct fs ← P.underlying t | none
  let fd ← fs[f]?
  let g ← isAggT P fd.type
  let n ← szT P fd.type
  some (.fieldV g n fd.offset (← trX x))
 | .indexAddr t x i=>do
  match ← P.underlying t with
  | .array len e=>do some (.idxA len (← szT P e) (← trX x) (← trX i))
  | .slice e=>do some (.idxS (← szT P e) (← trX x) (← trX i))
  | _=>none
 | .index t x i=>do
  match ← P.underlying t with
  | .array len e=>do some (.idxV len (← szT P e) (← isAggT P e) (← trX x) (← trX i))
  | .string=>do some (.idxStr (← trX x) (← trX i))
  | _=>none
 | .extract x i=>do some (.extr i (← trX x))
 | .makeFunc f a b=>do some (.mkfn f (← trXs a) (← trXs b))
 | .makeSlice t l c=>do
  let .slice e ← P.underlying t | none
  let i ← P.info? e
  let z ← i.zero
  let zs ← cvs z.cells.toList
  if i.size≠zs.length∨i.size=0∨32768<i.bytes then none else
  if (← isAggT P e) then some (.mks e i.size (.agg zs) (← trX l) (← trX c))
  else match zs with
   | [z1]=>some (.mks e i.size z1 (← trX l) (← trX c))
   | _=>none
 | .buildSlice t n parts=>do
  let .slice e ← P.underlying t | none
  let i ← P.info? e
  let _ ← i.zero
  let ps ← trPos P n parts.toList
  if n * i.size > 16777216∨i.size=0 then none else some (.bsl ((d.map fz.contains).getD false) e i.size ps)
 | .build t parts=>do
  let z ← ((P.info? t).bind (·.zero))
  let zs ← cvs z.cells.toList
  match ← P.underlying t with
  | .struct fs=>do
   let pl ← fs.toList.mapM fun f=>(P.info? f.type).map fun i=>(f.offset,i.size)
   let ps ← trParts (pl[·]?) parts.toList
   some (.build zs ps)
  | .array _ e=>do
   let ie ← P.info? e
   let ps ← trParts (fun i=>some (i * ie.size,ie.size)) parts.toList
   some (.build zs ps)
  | _=>none
 | .slice t x lo hi none=>do
  match ← P.underlying t with
  | .slice e=>do some (.sls (← szT P e) (← trX x) (← trO lo) (← trO hi))
  | .array len e=>do
   if szT P e=some 1∧lo.isNone=true then some (.slA len (← trX x) (← trO hi)) else none
  | _=>none
 | .call c=>trCall P c
 | _=>some .bad

end Go.Kv
end

/- Reading and writing cells: the machine's loads and stores do what the abstract ones say. -/
section
namespace Go.Kv
set_option linter.unusedVariables false
set_option linter.unusedSimpArgs false

variable {P:Program} {φ:Frz} {ι:List KLoc} {σ:Heap} {w:World}

theorem addr_add (b o n:Nat):(⟨b,o,none⟩:Addr).add n=⟨b,o+n,none⟩:=by unfold Addr.add; split <;> simp_all

def CellsAt (φ:Frz) (ι:List KLoc) (w:World) (b o:Nat) (cs:List PV):Prop:=cs.all PV.ok=true∧∃ vs,RelL φ ι cs vs∧∀ (j:Nat) (v:Value),vs[j]? = some v→w.cell? ⟨b,o+j,none⟩=some v

theorem CellsAt.sub {b o:Nat} {cs:List PV} (h:CellsAt φ ι w b o cs) (off n:Nat) (hn:off+n≤cs.length):CellsAt φ ι w b (o+off) (subC cs off n):=by
 obtain ⟨hok,vs,hr,hv⟩:=h
 unfold subC
 split
 ·rename_i e; obtain ⟨rfl,_⟩:=e
  exact ⟨hok,vs,hr,by simpa using hv⟩
 ·refine ⟨?_,(vs.drop off).take n,(hr.drop off).take n,fun j v hj=>?_⟩
  ·rw [List.all_eq_true] at hok ⊢
   exact fun x hx=>hok x (List.mem_of_mem_drop (List.mem_of_mem_take hx))
  ·rw [List.getElem?_take] at hj
   split at hj
   ·rw [List.getElem?_drop] at hj
    have:=hv _ _ hj
    rwa [← Nat.add_assoc] at this
   ·cases hj
theorem subC_length {cs:List PV} {off n:Nat} (hn:off+n≤cs.length):(subC cs off n).length=n:=by
 unfold subC; split
 ·simp_all
 ·simp; omega

theorem isAggT_true {t:TypeId} (h:isAggT P t=some true) (w:World):(isAgg t).calm P w=some true:=by
 unfold isAggT at h
 cases hu:P.underlying t with
 | none=>simp [hu] at h
 | some d =>
  rw [hu] at h
  simp only [isAgg,calm_bind,calm_underlying hu,Option.bind_some]
  cases d <;> simp_all
theorem isAggT_false {t:TypeId} (h:isAggT P t=some false) (w:World):(isAgg t).calm P w=some false:=by
 unfold isAggT at h
 cases hu:P.underlying t with
 | none=>simp [hu] at h
 | some d =>
  rw [hu] at h
  simp only [isAgg,calm_bind,calm_underlying hu,Option.bind_some]
  cases d <;> simp_all
theorem szT_calm {t:TypeId} {n:Nat} (h:szT P t=some n) (w:World):(sizeOf t).calm P w=some n:=by
 unfold szT at h
 cases hi:P.info? t with
 | none=>simp [hi] at h
 | some i=>simp [hi] at h; simp [sizeOf,typeInfo,hi,h]

theorem szT_run {t:TypeId} {n:Nat} (h:szT P t=some n) (w:World):(sizeOf t).run P w = .ok n w:=calm_ok (szT_calm h w)

theorem load_cells {t:TypeId} {agg:Bool} {n b o off:Nat} {cs:List PV} {K:PV→Prop} (hg:isAggT P t=some agg) (hn:szT P t=some n) (hc:CellsAt φ ι w b o cs) (hl:ldC agg n cs off K) :
  ∃ u c,(loadVar t ⟨b,o+off,none⟩).calm P w=some u∧Rel φ ι c u∧K c:=by
 unfold ldC at hl
 cases agg with
 | true =>
  obtain ⟨hle,hK⟩:=hl
  have hs:=hc.sub off n hle
  have hlen:=subC_length hle
  obtain ⟨hok,vs,hr,hv⟩:=hs
  have hvl:vs.length=n:=by rw [← hr.1,hlen]
  refine ⟨.agg vs.toArray,.agg (subC cs off n),?_,.agg _ vs hr.1 hok hr.2,hK⟩
  have:=calm_loadCells (P:=P) (w:=w) ⟨b,o+off,none⟩ vs (fun j v hj=>by rw [addr_add]; exact hv j v hj)
  rw [hvl] at this
  simp only [loadVar,calm_bind,isAggT_true hg,Option.bind_some,if_true,szT_calm hn,this,calm_pure]
 | false =>
  simp only [Bool.false_eq_true,if_false] at hl
  obtain ⟨hle,hK⟩:=hl
  obtain ⟨hok,vs,hr,hv⟩:=hc
  obtain ⟨u,hu,hru⟩:=hr.get (List.getElem?_eq_getElem hle)
  refine ⟨u,cs[off],?_,hru,hK _ (List.getElem?_eq_getElem hle)⟩
  simp [loadVar,isAggT_false hg,hv _ _ hu]

theorem box_cells (h:HOK φ ι σ w) {id b:Nat} {cs:List PV} (hl:ι[id]? = some (.box b)) (ho:σ[id]? = some (.box cs)):CellsAt φ ι w b 0 cs:=by
 have:=h.obj _ _ _ ho hl
 simp only [ObjOK] at this
 obtain ⟨C,e,hC,hr,hok⟩:=this
 refine ⟨hok,C.toList,hr,fun j v hj=>?_⟩
 simp only [World.cell?,hC,Nat.zero_add]
 simpa using hj
theorem fptr_cells (h:HOK φ ι σ w) {cs:List PV} {off:Nat} {v:Value} (hr:Rel φ ι (.fptr cs off) v):∃ b o,v = .pointer (some ⟨b,o+off,none⟩)∧CellsAt φ ι w b o cs:=by
 cases hr with
 | fptr _ _ b o C hb hok g hg hR =>
  have hget:∀ (j:Nat) (v:Value),((List.range cs.length).map g)[j]? = some v→j<cs.length∧v=g j:=fun j v hv=>by
   have hj:j<((List.range cs.length).map g).length:=(List.getElem?_eq_some_iff.1 hv).1
   have hj':j<cs.length:=by simpa using hj
   rw [List.getElem?_eq_getElem hj] at hv
   simp at hv
   exact ⟨hj',hv.symm⟩
  refine ⟨b,o,rfl,hok,(List.range cs.length).map g,⟨by simp,fun i c v hc hv=>?_⟩,fun j v hv=>?_⟩
  ·obtain ⟨_,rfl⟩:=hget i v hv; exact hR i c hc
  ·obtain ⟨hj,rfl⟩:=hget j v hv
   obtain ⟨e,f,hh⟩:=h.fz b C hb
   simp only [World.cell?,hh]
   simpa using hg j _ (List.getElem?_eq_getElem hj)

theorem flat_get {esz:Nat}:∀ {xs:List PV} (h:∀ x∈xs,x.cs.length=esz) {i:Nat} {x:PV} (hx:xs[i]? = some x),((flat xs).drop (i * esz)).take esz=x.cs
 | y :: ys,h,0,x,hx=>by
  simp at hx; subst hx
  have:=h y (by simp)
  rw [flat_cons,Nat.zero_mul,List.drop_zero,← this,List.take_left]
 | y :: ys,h,i+1,x,hx=>by
  have hy:=h y (by simp)
  have ih:=flat_get (xs:=ys) (fun z hz=>h z (by simp [hz])) (by simpa using hx)
  rw [flat_cons,Nat.succ_mul,Nat.add_comm,List.drop_append,hy]
  rw [List.drop_eq_nil_of_le (by omega),List.nil_append]
  rw [show esz+i * esz - esz=i * esz by omega]
  exact ih
theorem flat_length {esz:Nat} {xs:List PV} (h:∀ x∈xs,x.cs.length=esz):(flat xs).length=xs.length * esz:=by
 induction xs with
 | nil=>simp
 | cons y ys ih =>
  rw [flat_cons,List.length_append,h y (by simp),ih (fun z hz=>h z (by simp [hz])),List.length_cons,Nat.succ_mul]; omega

theorem arr_open (h:HOK φ ι σ w) {id ver:Nat} {e:TypeId} {esz:Nat} {xs:List PV} (ho:σ[id]? = some (.arr ver e esz xs)) :
  ∃ u,ι[id]? = some (.arr ver e esz u)∧0<esz∧∃ ys,w.ownsRow 0 e esz u xs.length ys∧RelL φ ι (flat xs) ys∧(flat xs).all PV.ok=true∧∀ x∈xs,x.cs.length=esz:=by
 have hid:id < ι.length:=by rw [h.len]; exact (List.getElem?_eq_some_iff.1 ho).1
 have:=h.obj _ _ _ ho (List.getElem?_eq_getElem hid)
 cases hl:ι[id] with
 | dead=>rw [hl] at this; simp [ObjOK] at this
 | box b=>rw [hl] at this; simp [ObjOK] at this
 | arr k e' s u =>
  rw [hl] at this
  simp only [ObjOK] at this
  obtain ⟨rfl,rfl,rfl,h2⟩:=this
  exact ⟨u,by rw [List.getElem?_eq_getElem hid,hl],h2⟩
theorem box_open (h:HOK φ ι σ w) {id:Nat} {cs:List PV} (ho:σ[id]? = some (.box cs)):∃ b,ι[id]? = some (.box b)∧∃ C e,w.heap[b]? = some (.cells C e (0,0))∧RelL φ ι cs C.toList∧cs.all PV.ok=true:=by
 have hid:id < ι.length:=by rw [h.len]; exact (List.getElem?_eq_some_iff.1 ho).1
 have:=h.obj _ _ _ ho (List.getElem?_eq_getElem hid)
 cases hl:ι[id] with
 | dead=>rw [hl] at this; simp [ObjOK] at this
 | arr _ _ _ _=>rw [hl] at this; simp [ObjOK] at this
 | box b =>
  rw [hl] at this
  exact ⟨b,by rw [List.getElem?_eq_getElem hid,hl],this⟩

theorem arr_cells {ver:Nat} {e:TypeId} {esz g n cap:Nat} {xs:List PV} {ys:List Value} (ho:w.ownsRow 0 e esz (.slice (some ⟨g,0,none⟩) n cap) xs.length ys) (hr:RelL φ ι (flat xs) ys) (hok:(flat xs).all PV.ok=true):CellsAt φ ι w g 0 (flat xs):=by
 refine ⟨hok,ys,hr,fun j v hj=>?_⟩
 have:=ho.cells (g:=g) rfl j v hj
 rwa [addr_add] at this

theorem elem_cells {esz g o:Nat} {xs:List PV} (hc:CellsAt φ ι w g o (flat xs)) (hs:∀ x∈xs,x.cs.length=esz) {i:Nat} {x:PV} (hx:xs[i]? = some x):CellsAt φ ι w g (o+i * esz) x.cs:=by
 have hi:=(List.getElem?_eq_some_iff.1 hx).1
 have hlen:=flat_length hs
 have hle:i * esz+esz≤(flat xs).length:=by
  rw [hlen,← Nat.succ_mul]; exact Nat.mul_le_mul_right _ hi
 have h1:=hc.sub (i * esz) esz hle
 have h2:subC (flat xs) (i * esz) esz=x.cs:=by
  have:=flat_get hs hx
  unfold subC
  split
  ·rename_i e
   obtain ⟨e1,e2⟩:=e
   rw [e1,List.drop_zero,← e2,List.take_length] at this
   exact this
  ·exact this
 rwa [h2] at h1

theorem load_sound {t:TypeId} {agg:Bool} {n:Nat} {p:PV} {v:Value} {K:PV→Prop} (h:HOK φ ι σ w) (hg:isAggT P t=some agg) (hn:szT P t=some n) (hr:Rel φ ι p v) (hl:aLoad agg n p σ K) :
  ∃ u c,(Instr.loadAt t v).calm P w=some u∧Rel φ ι c u∧K c:=by
 unfold aLoad at hl
 split at hl
 ·rename_i id off
  split at hl
  ·rename_i cs ho
   obtain ⟨b,hb,rfl⟩:=hr.ptr_inv
   have hc:=box_cells h hb ho
   obtain ⟨u,c,h1,h2,h3⟩:=load_cells (P:=P) (t:=t) hg hn hc hl
   refine ⟨u,c,?_,h2,h3⟩
   simpa [Instr.loadAt,Instr.sureAddr] using h1
  ·exact hl.elim
 ·rename_i cs off
  obtain ⟨b,o,rfl,hc⟩:=fptr_cells h hr
  obtain ⟨u,c,h1,h2,h3⟩:=load_cells (P:=P) (t:=t) hg hn hc hl
  exact ⟨u,c,by simpa [Instr.loadAt,Instr.sureAddr] using h1,h2,h3⟩
 ·rename_i id ver i off
  split at hl
  ·rename_i vr e es xs ho
   obtain ⟨rfl,hi,hl⟩:=hl
   obtain ⟨u,hu,hsz,ys,hown,hR,hok,hs⟩:=arr_open h ho
   cases hr with
   | eptr _ _ _ _ _ k e' s' u' h' ho' hk hv =>
    rw [hu] at h'
    cases h'
    obtain ⟨b,m,cap,rfl,rfl⟩:=hv rfl
    have hx:=List.getElem?_eq_getElem hi
    have hc:=elem_cells (arr_cells hown hR hok (ver:=0)) hs hx
    obtain ⟨u,c,h1,h2,h3⟩:=load_cells (P:=P) (t:=t) hg hn hc (hl _ hx)
    refine ⟨u,c,?_,h2,h3⟩
    simp only [Nat.zero_add] at h1
    simpa [Instr.loadAt,Instr.sureAddr] using h1
  ·exact hl.elim
 ·exact hl.elim

/-! ### Stores -/
theorem oneCells {cs:List PV} {vs:List Value} (hr:RelL φ ι cs vs) (hok:cs.all PV.ok=true):∀ v∈vs,v.oneCell'=true:=by
 intro v hv
 obtain ⟨i,hi⟩:=List.getElem?_of_mem hv
 have hlt:=(List.getElem?_eq_some_iff.1 hi).1
 rw [← hr.1] at hlt
 have hc:=List.getElem?_eq_getElem hlt
 refine (hr.2 i _ _ hc hi).oneCell ?_
 exact List.all_eq_true.1 hok _ (List.getElem_mem hlt)
theorem Rel.cells {c:PV} {v:Value} (h:Rel φ ι c v) (hok:c.cs.all PV.ok=true):RelL φ ι c.cs v.cells.toList:=by
 cases h with
 | agg cs vs hl hk h=>exact ⟨by simpa [PV.cs,Value.cells] using hl,by simpa [PV.cs,Value.cells] using h⟩
 | undef v=>simp [PV.cs,PV.ok] at hok
 | tup=>simp [PV.cs,PV.ok] at hok
 | ref id ver off len v k e esz u h1 ho hk hv =>
  have:v.cells = #[v]:=by cases v <;> simp [Value.oneCell'] at ho <;> rfl
  rw [this]
  exact .cons (.ref id ver off len v k e esz u h1 ho hk hv) (.nil _ _)
 | eptr id ver i off v k e esz u h1 ho hk hv =>
  have:v.cells = #[v]:=by cases v <;> simp [Value.oneCell'] at ho <;> rfl
  rw [this]
  exact .cons (.eptr id ver i off v k e esz u h1 ho hk hv) (.nil _ _)
 | int k n=>exact .cons (.int k n) (.nil _ _)
 | bool b=>exact .cons (.bool b) (.nil _ _)
 | str s=>exact .cons (.str s) (.nil _ _)
 | ptr id off b h=>exact .cons (.ptr id off b h) (.nil _ _)
 | fptr cs off b o C hb hk g hg h=>exact .cons (.fptr cs off b o C hb hk g hg h) (.nil _ _)
 | nilptr=>exact .cons .nilptr (.nil _ _)
 | nils=>exact .cons .nils (.nil _ _)
 | list0 cap a=>exact .cons (.list0 cap a) (.nil _ _)
 | listn=>exact .cons .listn (.nil _ _)
 | list xs esz b o len cap C hl hc hb hsz g hg h=>exact .cons (.list xs esz b o len cap C hl hc hb hsz g hg h) (.nil _ _)
 | bref id off len b cap h hc=>exact .cons (.bref id off len b cap h hc) (.nil _ _)
 | fn f a b u v ha hb h1 h2=>exact .cons (.fn f a b u v ha hb h1 h2) (.nil _ _)
 | nilf=>exact .cons .nilf (.nil _ _)
 | nili=>exact .cons .nili (.nil _ _)

theorem putC_rel {cs vs:List PV} {xs ys:List Value} (h:RelL φ ι cs xs) (h':RelL φ ι vs ys) {off:Nat} (hle:off+vs.length≤cs.length):RelL φ ι (putC cs off vs) (xs.take off ++ ys ++ xs.drop (off+ys.length)):=by
 have hl:=h'.1
 unfold putC
 split
 ·rename_i v
  obtain ⟨y,rfl⟩:∃ y,ys = [y]:=by
   match ys,hl with
   | [y],_=>exact ⟨y,rfl⟩
  have hy:Rel φ ι v y:=h'.2 0 v y rfl rfl
  have:xs.take off ++ [y] ++ xs.drop (off + [y].length)=xs.set off y:=by
   have hlt:off<xs.length:=by have:=h.1; simp at hle; omega
   rw [List.set_eq_take_append_cons_drop,if_pos hlt]; simp
  rw [this]
  exact h.set hy off
 ·split
  ·rename_i e
   obtain ⟨rfl,e2⟩:=e
   have:xs.take 0 ++ ys ++ xs.drop (0+ys.length)=ys:=by
    have:xs.length≤0+ys.length:=by rw [← h.1,← hl]; omega
    simp only [Nat.zero_add] at this
    simp [this]
   rw [this]; exact h'
  ·rw [hl]
   exact ((h.take off).append h').append (h.drop _)
theorem putC_length {cs vs:List PV} {off:Nat} (hle:off+vs.length≤cs.length):(putC cs off vs).length=cs.length:=by
 unfold putC; split
 ·simp
 ·split
  ·simp_all
  ·simp; omega
theorem putC_ok {cs vs:List PV} {off:Nat} (h:cs.all PV.ok=true) (h':vs.all PV.ok=true):(putC cs off vs).all PV.ok=true:=by
 rw [List.all_eq_true] at *
 unfold putC; split
 ·intro x hx
  rcases List.mem_or_eq_of_mem_set hx with h1 | rfl
  ·exact h x h1
  ·exact h' x (by simp)
 ·split
  ·exact h'
  ·intro x hx
   simp only [List.mem_append] at hx
   rcases hx with (h1 | h1) | h1
   ·exact h x (List.mem_of_mem_take h1)
   ·exact h' x h1
   ·exact h x (List.mem_of_mem_drop h1)

theorem putE_cs {x y:PV} {off:Nat} (hle:off+y.cs.length≤x.cs.length) (hpos:0<y.cs.length):(putE x off y).cs=putC x.cs off y.cs:=by
 unfold putE
 split
 ·rfl
 ·rename_i hx
  have hcs:x.cs = [x]:=by cases x <;> first | rfl | exact absurd rfl (hx _)
  rw [hcs] at hle ⊢
  simp at hle
  have h0:off=0:=by omega
  have h1:y.cs.length=1:=by omega
  match hy:y.cs,h1 with
  | [v],_=>simp [putC,h0]

theorem flat_set {esz:Nat}:∀ {xs:List PV} (h:∀ x∈xs,x.cs.length=esz) {i:Nat} {y:PV} (hi:i<xs.length),flat (xs.set i y)=(flat xs).take (i * esz) ++ y.cs ++ (flat xs).drop (i * esz+esz)
 | x :: xs,h,0,y,_=>by
  have hx:=h x (by simp)
  simp only [List.set_cons_zero,flat_cons,Nat.zero_mul,List.take_zero,List.nil_append,Nat.zero_add]
  rw [← hx,List.drop_left]
 | x :: xs,h,i+1,y,hi=>by
  have hx:=h x (by simp)
  have ih:=flat_set (xs:=xs) (fun z hz=>h z (by simp [hz])) (i:=i) (y:=y) (by simpa using hi)
  simp only [List.set_cons_succ,flat_cons,ih]
  have e1:(x.cs ++ flat xs).take ((i+1) * esz)=x.cs ++ (flat xs).take (i * esz):=by
   rw [Nat.succ_mul,List.take_append,hx,List.take_of_length_le (by omega),show i * esz+esz - esz=i * esz by omega]
  have e2:(x.cs ++ flat xs).drop ((i+1) * esz+esz)=(flat xs).drop (i * esz+esz):=by
   rw [Nat.succ_mul,List.drop_append,hx,List.drop_eq_nil_of_le (by omega),show i * esz+esz+esz - esz=i * esz+esz by omega,List.nil_append]
  rw [e1,e2]
  simp [List.append_assoc]

theorem splice {α:Type} (A X:List α) (p off n es L:Nat) (hX:X.length=n) (h1:off+n≤es) (h2:p+es≤L) (h3:L≤A.length) :
  (A.take (p+off) ++ X ++ A.drop (p+off+n)).take L=(A.take L).take p ++ ((((A.take L).drop p).take es).take off ++ X ++ (((A.take L).drop p).take es).drop (off+n)) ++ (A.take L).drop (p+es):=by
 obtain ⟨A1,A2,rfl,ha⟩:∃ A1 A2,A=A1 ++ A2∧A1.length=L:=⟨A.take L,A.drop L,(List.take_append_drop _ _).symm,by simp; omega⟩
 obtain ⟨B1,B2,rfl,hb⟩:∃ B1 B2,A1=B1 ++ B2∧B1.length=p:=⟨A1.take p,A1.drop p,(List.take_append_drop _ _).symm,by simp; omega⟩
 obtain ⟨C1,C2,rfl,hc⟩:∃ C1 C2,B2=C1 ++ C2∧C1.length=es:=⟨B2.take es,B2.drop es,(List.take_append_drop _ _).symm,by simp at ha ⊢; omega⟩
 obtain ⟨D1,D2,rfl,hd⟩:∃ D1 D2,C1=D1 ++ D2∧D1.length=off:=⟨C1.take off,C1.drop off,(List.take_append_drop _ _).symm,by simp; omega⟩
 obtain ⟨E1,E2,rfl,he⟩:∃ E1 E2,D2=E1 ++ E2∧E1.length=n:=⟨D2.take n,D2.drop n,(List.take_append_drop _ _).symm,by simp at hc ⊢; omega⟩
 subst hb hd he
 simp only [List.length_append] at hc ha
 have e1:(B1 ++ (D1 ++ (E1 ++ E2) ++ C2) ++ A2).take L=B1 ++ (D1 ++ (E1 ++ E2) ++ C2):=by
  rw [← ha]
  have:B1.length+(D1.length+(E1.length+E2.length)+C2.length)=(B1 ++ (D1 ++ (E1 ++ E2) ++ C2)).length:=by simp; omega
  rw [this,List.take_left]
 rw [e1]
 have e2:(B1 ++ (D1 ++ (E1 ++ E2) ++ C2) ++ A2).take (B1.length+D1.length)=B1 ++ D1:=by
  have:B1.length+D1.length=(B1 ++ D1).length:=by simp
  rw [this]; simp only [List.append_assoc]; rw [← List.append_assoc B1 D1,List.take_left]
 have e3:(B1 ++ (D1 ++ (E1 ++ E2) ++ C2) ++ A2).drop (B1.length+D1.length+E1.length)=E2 ++ C2 ++ A2:=by
  have:B1.length+D1.length+E1.length=(B1 ++ D1 ++ E1).length:=by simp; omega
  have h9:B1 ++ (D1 ++ (E1 ++ E2) ++ C2) ++ A2=(B1 ++ D1 ++ E1) ++ (E2 ++ C2 ++ A2):=by simp
  rw [this,h9,List.drop_left]
 rw [e2,e3]
 have e4:(B1 ++ (D1 ++ (E1 ++ E2) ++ C2)).drop B1.length=D1 ++ (E1 ++ E2) ++ C2:=List.drop_left
 have e5:(D1 ++ (E1 ++ E2) ++ C2).take es=D1 ++ (E1 ++ E2):=by
  rw [← hc]
  have:D1.length+(E1.length+E2.length)=(D1 ++ (E1 ++ E2)).length:=by simp
  rw [this,List.take_left]
 have e6:(D1 ++ (E1 ++ E2)).drop (D1.length+E1.length)=E2:=by
  have:D1.length+E1.length=(D1 ++ E1).length:=by simp
  rw [this,← List.append_assoc,List.drop_left]
 have e7:(B1 ++ (D1 ++ (E1 ++ E2) ++ C2)).drop (B1.length+es)=C2:=by
  rw [← List.drop_drop,e4,← hc]
  have:D1.length+(E1.length+E2.length)=(D1 ++ (E1 ++ E2)).length:=by simp
  rw [this,List.drop_left]
 rw [e4,e5,e6,e7,List.take_left,List.take_left]
 rw [← ha]
 have:B1.length+(D1.length+(E1.length+E2.length)+C2.length)=(B1 ++ D1 ++ X ++ E2 ++ C2).length:=by simp; omega
 rw [this]
 have:B1 ++ D1 ++ X ++ (E2 ++ C2 ++ A2)=(B1 ++ D1 ++ X ++ E2 ++ C2) ++ A2:=by simp
 rw [this,List.take_left]
 simp

theorem store_sound {t:TypeId} {n:Nat} {p y:PV} {v x:Value} {K:Heap→Prop} (h:HOK φ ι σ w) (hn:szT P t=some n) (hpos:0<n) (hr:Rel φ ι p v) (hy:Rel φ ι y x) (hs:aStore n p y σ K) :
  ∃ w' ι' σ',(Instr.storeAt t v x).run P w = .ok () w'∧HOK φ ι' σ' w'∧Tr σ.length φ ι w φ ι' w'∧K σ':=by
 unfold aStore at hs
 split at hs
 ·rename_i id off
  split at hs
  ·rename_i cs ho
   obtain ⟨⟨h1,h2,h3⟩,hK⟩:=hs
   obtain ⟨b,hb,rfl⟩:=hr.ptr_inv
   obtain ⟨b',hb',C,e,hC,hR,hok⟩:=box_open h ho
   rw [hb] at hb'; cases hb'
   have hyc:=hy.cells h2
   have hlen:x.cells.toList.length=n:=by rw [← hyc.1,h1]
   have hCl:cs.length=C.size:=by simpa using hR.1
   have hone:=oneCells hyc h2
   have hst:=run_storeCells_at P b off e x.cells.toList 0 C w hC (by rw [hlen]; omega) hone
   simp only [Nat.add_zero] at hst
   have hrun:(Instr.storeAt t (.pointer (some ⟨b,off,none⟩)) x).run P w = .ok () (w.setRow b (C.toList.take off ++ x.cells.toList ++ C.toList.drop (off+x.cells.toList.length)).toArray):=by
    have:x.cells.size=n:=by simpa using hlen
    simp only [Instr.storeAt,Instr.sureAddr,Sem.run_bind,Sem.run_pure,Result.andThen_ok,storeVar,szT_run hn,this]
    simpa using hst
   have hle:off+y.cs.length≤cs.length:=by omega
   have hsame:ι.set id (KLoc.box b) = ι:=by
    apply List.ext_getElem?; intro j
    by_cases e1:id=j
    ·subst e1; rw [List.getElem?_set_self (List.getElem?_eq_some_iff.1 hb).1,hb]
    ·rw [List.getElem?_set_ne e1]
   have hOK:ObjOK φ (ι.set id (.box b)) (w.setRow b (C.toList.take off ++ x.cells.toList ++ C.toList.drop (off+x.cells.toList.length)).toArray) (.box (putC cs off y.cs)) (.box b):=by
    rw [hsame]
    exact ⟨_,e,setRow_heap w b C _ e (0,0) hC,by simpa using putC_rel hR hyc hle,putC_ok hok h2⟩
   have hu:=h.upd (w':=w.setRow b _) (o:=.box (putC cs off y.cs)) hb (KLoc.le_refl _) (by simp) (fun k hk hk'=>setRow_other w b k _ (fun e1=>hk' (by simp [KLoc.block,e1])))
    (fun k hk=>.inl hk) (fun k hk=>by simp [KLoc.block] at hk; subst hk; simpa using heap_lt hC) hOK
   refine ⟨_,_,_,hrun,hu.1,Tr.upd _ hb hu.2 (by simp) (fun k hk hk'=>setRow_other w b k _ (fun e1=>hk' (by simp [KLoc.block,e1]))) (fun k hk=>.inl hk) rfl rfl rfl,hK⟩
  ·exact hs.elim
 ·rename_i id ver i off
  split at hs
  ·rename_i vr e es xs ho
   obtain ⟨⟨rfl,h1,h2,hi⟩,hs⟩:=hs
   have hx:=List.getElem?_eq_getElem hi
   obtain ⟨hle,hK⟩:=hs _ hx
   obtain ⟨u,hu,hsz,ys,hown,hR,hok,hss⟩:=arr_open h ho
   cases hr with
   | eptr _ _ _ _ _ k e' s' u' h' ho' hk hv =>
    rw [hu] at h'
    cases h'
    obtain ⟨b,m,cap,rfl,rfl⟩:=hv rfl
    rcases hown.2 with ⟨hbad,_⟩ | ⟨g,cap',cur,hveq,hb0,hg,hnc,hcm,hcs,htake⟩
    ·cases hbad
    ·cases hveq
     have hyc:=hy.cells h2
     have hlen:x.cells.toList.length=n:=by rw [← hyc.1,h1]
     have hone:=oneCells hyc h2
     have hxl:xs[i].cs.length=es:=hss _ (List.getElem_mem hi)
     have hyl:=hown.1
     have hbd:i * es+es≤xs.length * es:=by rw [← Nat.succ_mul]; exact Nat.mul_le_mul_right _ hi
     have hcap:xs.length * es≤cur.size:=by rw [hcs]; exact Nat.mul_le_mul_right _ hnc
     have hfit:i * es+off+n≤cur.size:=by omega
     have hst:=run_storeCells_at P b (i * es+off) e x.cells.toList 0 cur w hg (by rw [hlen]; omega) hone
     simp only [Nat.add_zero] at hst
     have hrun:(Instr.storeAt t (.pointer (some ⟨b,i * es+off,none⟩)) x).run P w = .ok () (w.setRow b (cur.toList.take (i * es+off) ++ x.cells.toList ++ cur.toList.drop (i * es+off+x.cells.toList.length)).toArray):=by
      have:x.cells.size=n:=by simpa using hlen
      simp only [Instr.storeAt,Instr.sureAddr,Sem.run_bind,Sem.run_pure,Result.andThen_ok,storeVar,szT_run hn,this]
      simpa using hst
     have hle':off+y.cs.length≤xs[i].cs.length:=by omega
     have hpe:(putE xs[i] off y).cs=putC xs[i].cs off y.cs:=putE_cs hle' (by omega)
     have hpl:(putE xs[i] off y).cs.length=es:=by rw [hpe,putC_length hle',hxl]
     have hsame:ι.set id (KLoc.arr vr e es (.slice (some ⟨b,0,none⟩) xs.length cap)) = ι:=by
      apply List.ext_getElem?; intro j
      by_cases e1:id=j
      ·subst e1; rw [List.getElem?_set_self (List.getElem?_eq_some_iff.1 hu).1,hu]
      ·rw [List.getElem?_set_ne e1]
     -- the new row
     have hcells:RelL φ ι xs[i].cs ((ys.drop (i * es)).take es):=by
      have h5:=(hR.drop (i * es)).take es
      rwa [flat_get hss hx] at h5
     have hpc:=putC_rel hcells hyc hle'
     have hnew:RelL φ ι (flat (xs.set i (putE xs[i] off y))) (ys.take (i * es) ++ (((ys.drop (i * es)).take es).take off ++ x.cells.toList ++ ((ys.drop (i * es)).take es).drop (off+x.cells.toList.length)) ++ ys.drop (i * es+es)):=by
      rw [flat_set hss hi,hpe]
      exact ((hR.take _).append hpc).append (hR.drop _)
     have hnewlen:(ys.take (i * es) ++ (((ys.drop (i * es)).take es).take off ++ x.cells.toList ++ ((ys.drop (i * es)).take es).drop (off+x.cells.toList.length)) ++ ys.drop (i * es+es)).length=xs.length * es:=by
      rw [← hnew.1,flat_length (esz:=es)]
      ·simp
      ·intro z hz
       rcases List.mem_or_eq_of_mem_set hz with h6 | rfl
       ·exact hss z h6
       ·exact hpl
     have hlist:(cur.toList.take (i * es+off) ++ x.cells.toList ++ cur.toList.drop (i * es+off+x.cells.toList.length)).take (xs.length * es) =
       ys.take (i * es) ++ (((ys.drop (i * es)).take es).take off ++ x.cells.toList ++ ((ys.drop (i * es)).take es).drop (off+x.cells.toList.length)) ++ ys.drop (i * es+es):=by
      have hcl:cur.toList.length=cur.size:=by simp
      have hyl2:ys.length=xs.length * es:=hyl
      rw [hlen,← htake]
      exact splice _ _ _ _ _ _ _ hlen (by omega) hbd (by rw [hcl]; exact hcap)
     have hOK:ObjOK φ (ι.set id (.arr vr e es (.slice (some ⟨b,0,none⟩) xs.length cap))) (w.setRow b (cur.toList.take (i * es+off) ++ x.cells.toList ++ cur.toList.drop (i * es+off+x.cells.toList.length)).toArray) (.arr vr e es (xs.set i (putE xs[i] off y))) (.arr vr e es (.slice (some ⟨b,0,none⟩) xs.length cap)):=by
      rw [hsame]
      refine ⟨rfl,rfl,rfl,hsz,_,⟨by rw [hnewlen]; simp,.inr ⟨b,cap,_,by simp,Nat.zero_le _,setRow_heap w b cur _ e (0,0) hg,by simpa using hnc,hcm,?_,?_⟩⟩,hnew,?_,?_⟩
      ·have hcl:cur.toList.length=cur.size:=by simp
       simp only [List.size_toArray,List.length_append,List.length_take,List.length_drop,hlen,hcl]
       omega
      ·simpa using hlist
      ·rw [flat_set hss hi,hpe]
       rw [List.all_eq_true] at hok ⊢
       have hxok:xs[i].cs.all PV.ok=true:=by
        rw [List.all_eq_true]
        intro z hz
        rw [← flat_get hss hx] at hz
        exact hok z (List.mem_of_mem_drop (List.mem_of_mem_take hz))
       have hpo:=List.all_eq_true.1 (putC_ok (off:=off) hxok h2)
       intro z hz
       simp only [List.mem_append] at hz
       rcases hz with (h6 | h6) | h6
       ·exact hok z (List.mem_of_mem_take h6)
       ·exact hpo z h6
       ·exact hok z (List.mem_of_mem_drop h6)
      ·intro z hz
       rcases List.mem_or_eq_of_mem_set hz with h6 | rfl
       ·exact hss z h6
       ·exact hpl
     have hup:=h.upd (w':=w.setRow b _) (o:=.arr vr e es (xs.set i (putE xs[i] off y))) hu (KLoc.le_refl _) (by simp) (fun k hk hk'=>setRow_other w b k _ (fun e1=>hk' (by simp [KLoc.block,Value.ownBlock,e1])))
      (fun k hk=>.inl hk) (fun k hk=>by simp [KLoc.block,Value.ownBlock] at hk; subst hk; simpa using heap_lt hg) hOK
     exact ⟨_,_,_,hrun,hup.1,Tr.upd _ hu hup.2 (by simp) (fun k hk hk'=>setRow_other w b k _ (fun e1=>hk' (by simp [KLoc.block,Value.ownBlock,e1]))) (fun k hk=>.inl hk) rfl rfl rfl,hK⟩
  ·exact hs.elim
 ·exact hs.elim

end Go.Kv
end

/- Single operations on numbers, addresses and slices: what the machine does is what the abstract operation says. -/
section
namespace Go.Kv
set_option linter.unusedVariables false
set_option linter.unusedSimpArgs false

variable {P:Program} {φ:Frz} {ι:List KLoc} {σ:Heap} {w:World}

/-! ### Numbers -/
theorem wrap_i64_of {n:Int} (h1:-9223372036854775808≤n) (h2:n≤9223372036854775807):IntKind.i64.wrap n=n:=by rw [IntKind.wrap_i64]; omega
theorem aWrap_sound {k:IntKind} {n:Int} {K:PV→Prop} (h:aWrap k n K):K (.int k (k.wrap n)):=by
 unfold aWrap at h
 cases k <;> first | exact h | (obtain ⟨⟨h1,h2⟩,h3⟩:=h; rw [wrap_i64_of h1 h2]; exact h3)
theorem tdiv_of {a b:Int} (ha:0≤a) (hb:0<b):a.tdiv b=a / b:=by rw [Int.tdiv_eq_ediv_of_nonneg ha]
theorem tmod_of {a b:Int} (ha:0≤a) (hb:0<b):a.tmod b=a % b:=by rw [Int.tmod_eq_emod_of_nonneg ha]
theorem min_of {b:Int} {n:Nat} (h0:0≤b) (h:b≤n):min b.toNat n=b.toNat:=by omega

theorem beq_dec {α:Type} [BEq α] [LawfulBEq α] [DecidableEq α] (a b:α):(a == b)=decide (a=b):=by
 by_cases h:a=b <;> simp [h]
theorem aBin_sound {op:BinOp} {t:TypeId} {ox oy:Operand} {x y:PV} {u v:Value} {K:PV→Prop} (hx:Rel φ ι x u) (hy:Rel φ ι y v) (h:aBin op x y K) :
  ∃ c r,(do eqGuard op t ox oy u v; binOp op t u v:Sem Value).calm P w=some r∧Rel φ ι c r∧K c:=by
 unfold aBin at h
 split at h
 ·rename_i k a k' b
  obtain rfl:=hx.int_inv
  obtain rfl:=hy.int_inv
  obtain ⟨hk,h⟩:=h
  have hg:(eqGuard op t ox oy (.int k a) (.int k' b)).calm P w=some ():=by
   unfold eqGuard; split <;> simp
  simp only [calm_bind,hg,Option.bind_some]
  cases op <;> simp only [aInt] at h
  case add=>cases hk (by simp) (by simp); exact ⟨_,_,by simp [binOp,Op.intArith],.int _ _,aWrap_sound h⟩
  case sub=>cases hk (by simp) (by simp); exact ⟨_,_,by simp [binOp,Op.intArith],.int _ _,aWrap_sound h⟩
  case mul=>cases hk (by simp) (by simp); exact ⟨_,_,by simp [binOp,Op.intArith],.int _ _,aWrap_sound h⟩
  case quo =>
   cases hk (by simp) (by simp); obtain ⟨⟨h1,h2⟩,h3⟩:=h
   have hb:¬ b=0:=by omega
   exact ⟨_,_,by simp [binOp,Op.intDiv,hb,tdiv_of h1 h2],.int _ _,aWrap_sound h3⟩
  case rem =>
   cases hk (by simp) (by simp); obtain ⟨⟨h1,h2⟩,h3⟩:=h
   have hb:¬ b=0:=by omega
   exact ⟨_,.int k (a % b),by simp [binOp,Op.intDiv,hb,tmod_of h1 h2],.int _ _,h3⟩
  case eql=>cases hk (by simp) (by simp); exact ⟨_,(.bool (decide (a=b))),by simp [binOp,Op.intCmp,bne,beq_dec],.bool _,h⟩
  case neq=>cases hk (by simp) (by simp); exact ⟨_,(.bool (!decide (a=b))),by simp [binOp,Op.intCmp,bne,beq_dec],.bool _,h⟩
  case lss=>cases hk (by simp) (by simp); exact ⟨_,(.bool (decide (a<b))),by simp [binOp,Op.intCmp,bne,beq_dec],.bool _,h⟩
  case leq=>cases hk (by simp) (by simp); exact ⟨_,(.bool (decide (a≤b))),by simp [binOp,Op.intCmp,bne,beq_dec],.bool _,h⟩
  case gtr=>cases hk (by simp) (by simp); exact ⟨_,(.bool (decide (b<a))),by simp [binOp,Op.intCmp,bne,beq_dec],.bool _,h⟩
  case geq=>cases hk (by simp) (by simp); exact ⟨_,(.bool (decide (b≤a))),by simp [binOp,Op.intCmp,bne,beq_dec],.bool _,h⟩
  case and=>cases hk (by simp) (by simp); exact ⟨_,(.int k (k.wrap (BitVec.ofInt k.bits a &&& BitVec.ofInt k.bits b).toNat)),by (simp only [binOp,ne_eq,not_true_eq_false,if_false,Op.intBits,calm_pure]),.int _ _,h⟩
  case or=>cases hk (by simp) (by simp); exact ⟨_,(.int k (k.wrap (BitVec.ofInt k.bits a ||| BitVec.ofInt k.bits b).toNat)),by (simp only [binOp,ne_eq,not_true_eq_false,if_false,Op.intBits,calm_pure]),.int _ _,h⟩
  case xor=>cases hk (by simp) (by simp); exact ⟨_,(.int k (k.wrap (BitVec.ofInt k.bits a ^^^ BitVec.ofInt k.bits b).toNat)),by (simp only [binOp,ne_eq,not_true_eq_false,if_false,Op.intBits,calm_pure]),.int _ _,h⟩
  case andNot=>cases hk (by simp) (by simp); exact ⟨_,(.int k (k.wrap (BitVec.ofInt k.bits a &&& ~~~ BitVec.ofInt k.bits b).toNat)),by (simp only [binOp,ne_eq,not_true_eq_false,if_false,Op.intBits,calm_pure]),.int _ _,h⟩
  case shl =>
   obtain ⟨⟨h1,h2⟩,h3⟩:=h
   have hb:¬ b<0:=by omega
   exact ⟨_,.int k (k.wrap (a * 2 ^ b.toNat)),by simp [binOp,Op.shift,hb,min_of h1 h2],.int _ _,h3⟩
  case shr =>
   obtain ⟨⟨h1,h2⟩,h3⟩:=h
   have hb:¬ b<0:=by omega
   exact ⟨_,.int k (a.fdiv (2 ^ b.toNat)),by simp [binOp,Op.shift,hb,min_of h1 h2],.int _ _,h3⟩
 ·rename_i a b
  obtain rfl:=hx.str_inv
  obtain rfl:=hy.str_inv
  have hg:(eqGuard op t ox oy (.string ⟨a.toArray⟩) (.string ⟨b.toArray⟩)).calm P w=some ():=by
   unfold eqGuard; split <;> simp
  simp only [calm_bind,hg,Option.bind_some]
  cases op <;> simp only [aStr] at h
  case add =>
   obtain ⟨h1,h2⟩:=h
   have hs:¬ (IntKind.i64.max<(a.length:Int)+(b.length:Int)):=by simp [IntKind.max,IntKind.bits,IntKind.signed]; omega
   refine ⟨_,.string ((⟨a.toArray⟩:ByteArray) ++ ⟨b.toArray⟩),?_,?_,h2⟩
   ·have hs':¬ (((ByteArray.mk a.toArray).size+(ByteArray.mk b.toArray).size:Nat):Int) > IntKind.i64.max:=by simp [ByteArray.size]; simpa using hs
    simp only [binOp,Op.stringOp,hs',if_false,calm_pure]
   ·have:(⟨a.toArray⟩:ByteArray) ++ ⟨b.toArray⟩=⟨(a ++ b).toArray⟩:=by
     apply ByteArray.ext; simp
    rw [this]; exact .str _
  case eql=>exact ⟨_,.bool (decide (a=b)),by simp [binOp,Op.stringOp,beq_dec],.bool _,h⟩
  case neq=>exact ⟨_,.bool (!decide (a=b)),by simp [binOp,Op.stringOp,beq_dec],.bool _,h⟩
 ·exact h.elim

theorem beq_sound {op:BinOp} {t:TypeId} {ox oy:Operand} {a b:Bool} (ng:Bool) (hu:P.underlying t=some .bool) (hop:op=if ng=true then .neq else .eql) :
  (do eqGuard op t ox oy (.bool a) (.bool b); binOp op t (.bool a) (.bool b):Sem Value).calm P w=some (.bool (if ng=true then a != b else a == b)):=by
 have hg:(eqGuard op t ox oy (.bool a) (.bool b)).calm P w=some ():=by
  unfold eqGuard; split <;> simp
 have he:(Op.equal t (.bool a) (.bool b)).calm P w=some (a == b):=by
  unfold Op.equal Op.maxDepth Op.equalIn
  simp [calm_underlying hu]
 simp only [calm_bind,hg,Option.bind_some]
 cases ng <;> simp at hop <;> subst hop <;> simp [binOp,he,bne]

theorem aConv_sound {s t:TypeId} {d:TypeDesc} {k:IntKind} {x:PV} {u:Value} {K:PV→Prop} (hs:P.underlying s=some d) (ht:P.underlying t=some (.int k)) (hx:Rel φ ι x u) (h:aConv k x K) :
  ∃ c r,(convert s t u).calm P w=some r∧Rel φ ι c r∧K c:=by
 unfold aConv at h
 split at h
 ·rename_i j n
  obtain rfl:=hx.int_inv
  exact ⟨_,.int k (k.wrap n),by simp [convert,calm_underlying hs,calm_underlying ht,Conv.intToInt],.int k (k.wrap n),aWrap_sound h⟩
 ·exact h.elim

theorem intOf_inv {x:PV} {n:Int} {u:Value} (hx:Rel φ ι x u) (h:intOf? x=some n):∃ k,u = .int k n:=by
 unfold intOf? at h
 split at h
 ·simp at h; subst h; exact ⟨_,hx.int_inv⟩
 ·cases h

/-! ### Addresses -/
theorem aAt_sound {p:PV} {f:Nat} {v:Value} {K:PV→Prop} (ho:HOK φ ι σ w) (hr:Rel φ ι p v) (h:aAt p f σ K):∃ b o c,v = .pointer (some ⟨b,o,none⟩)∧Rel φ ι c (.pointer (some ⟨b,o+f,none⟩))∧K c:=by
 unfold aAt at h
 split at h
 ·rename_i id off
  obtain ⟨b,hb,rfl⟩:=hr.ptr_inv
  exact ⟨b,off,_,rfl,by rw [Nat.add_comm]; exact .ptr id _ b hb,h⟩
 ·rename_i cs off
  cases hr with
  | fptr _ _ b o C hb hok g hg hR=>exact ⟨b,o+off,_,rfl,by rw [show o+off+f=o+(f+off) by omega]; exact .fptr cs _ b o C hb hok g hg hR,h⟩
 ·rename_i id ver i off
  split at h
  ·rename_i vr e es xs hs
   obtain ⟨rfl,h⟩:=h
   obtain ⟨u,hu,_⟩:=arr_open ho hs
   cases hr with
   | eptr _ _ _ _ _ k e' s' u' h' ho' hk hv =>
    rw [hu] at h'; cases h'
    obtain ⟨b,m,cap,rfl,rfl⟩:=hv rfl
    exact ⟨b,_,_,rfl,.eptr id vr i (f+off) _ vr e es _ hu rfl (Nat.le_refl _) fun _=>⟨b,m,cap,rfl,by rw [show i * es+off+f=i * es+(f+off) by omega]⟩,h⟩
  ·exact h.elim
 ·exact h.elim

theorem fieldA_sound {t:TypeId} {f:Nat} {fs:Array Field} {fd:Field} {n:Nat} {p:PV} {v:Value} {K:PV→Prop} (ho:HOK φ ι σ w) (hu:P.underlying t=some (.struct fs)) (hf:fs[f]? = some fd) (hn:szT P fd.type=some n) (hpos:n≠0)
  (hr:Rel φ ι p v) (h:aAt p fd.offset σ K):∃ c r,(Instr.fieldAt t v f).calm P w=some r∧Rel φ ι c r∧K c:=by
 obtain ⟨b,o,c,rfl,h1,h2⟩:=aAt_sound ho hr h
 refine ⟨c,_,?_,h1,h2⟩
 simp only [Instr.fieldAt,calm_bind,calm_underlying hu,Option.bind_some,hf,Instr.sureAddr,calm_pure,fieldPlace,szT_calm hn,hpos,if_false,addr_add]

theorem idxA_sound {t e:TypeId} {len esz:Nat} {p:PV} {k:IntKind} {n:Int} {v:Value} {K:PV→Prop} (ho:HOK φ ι σ w) (hu:P.underlying t=some (.array len e)) (hn:szT P e=some esz) (hr:Rel φ ι p v) (h0:0≤n) (h1:n<len)
  (h:aAt p (n.toNat * esz) σ K):∃ c r,(Instr.indexAt t v (.int k n)).calm P w=some r∧Rel φ ι c r∧K c:=by
 obtain ⟨b,o,c,rfl,h2,h3⟩:=aAt_sound ho hr h
 refine ⟨c,_,?_,h2,h3⟩
 simp [Instr.indexAt,asIntOf,calm_underlying hu,Instr.sureAddr,h0,h1,szT_calm hn,addr_add]

theorem Rel.ref_cur {id ver off len:Nat} {v:Value} {e:TypeId} {esz:Nat} {u:Value} (hr:Rel φ ι (.ref id ver off len) v) (hu:ι[id]? = some (.arr ver e esz u)) :
  (∃ b n cap o,u = .slice (some ⟨b,0,none⟩) n cap∧off+len≤cap∧v = .slice (some ⟨b,o,none⟩) len (cap - off)∧(off<cap→o=off * esz)∧(off=0→o=0))∨(u = .slice none 0 0∧off=0∧len=0∧v=u):=by
 cases hr with
 | ref _ _ _ _ _ k e' s' u' h' ho' hk hv =>
  rw [hu] at h'; cases h'
  exact hv rfl

theorem idxS_sound {t e:TypeId} {esz:Nat} {x:PV} {k:IntKind} {n:Int} {v:Value} {K:PV→Prop} (ho:HOK φ ι σ w) (hu:P.underlying t=some (.slice e)) (hn:szT P e=some esz) (hr:Rel φ ι x v) (h:aIdxS esz x n σ K) :
  ∃ c r,(Instr.indexAt t v (.int k n)).calm P w=some r∧Rel φ ι c r∧K c:=by
 have core:∀ (b o len cap:Nat),v = .slice (some ⟨b,o,none⟩) len cap→0≤n→n<len→(Instr.indexAt t v (.int k n)).calm P w=some (.pointer (some ⟨b,o+n.toNat * esz,none⟩)):=by
  intro b o len cap hv h0 h1
  subst hv
  simp [Instr.indexAt,asIntOf,calm_underlying hu,h0,h1,szT_calm hn,addr_add]
 unfold aIdxS at h
 split at h
 ·rename_i xs
  obtain ⟨⟨h0,h1⟩,h2⟩:=h
  have hx:xs[n.toNat]? = some (xs[n.toNat]'(by omega)):=List.getElem?_eq_getElem _
  obtain ⟨h3,h4⟩:=h2 _ hx
  cases hr with
  | list0 cap a=>simp at h1; omega
  | listn=>simp at h1; omega
  | list _ esz' b o len cap C hl hc hb hsz g hg hR =>
   obtain ⟨hs1,hs2⟩:=hsz _ _ hx
   rw [h3] at hs1; subst hs1
   refine ⟨_,_,core b o len cap rfl h0 (by omega),?_,h4⟩
   exact .fptr _ 0 b (o+n.toNat * esz) C hb hs2 (g n.toNat) (fun j c hj=>hg _ _ j c hx hj) (fun j c hj=>hR _ _ j c hx hj)
 ·rename_i id ver off len
  split at h
  ·rename_i vr e' es xs hs
   obtain ⟨⟨rfl,rfl,h0,h1,h2⟩,h3⟩:=h
   obtain ⟨u,hu',hpos,ys,hown,_⟩:=arr_open ho hs
   rcases hr.ref_cur hu' with ⟨b,m,cap,o,rfl,hc,hv,ho1,_⟩ | ⟨rfl,rfl,rfl,rfl⟩
   ·have hoo:o=off * es:=ho1 (by omega)
    refine ⟨_,_,core b o len _ hv h0 h1,?_,h3⟩
    refine .eptr id vr (n.toNat+off) 0 _ vr e' es _ hu' rfl (Nat.le_refl _) fun _=>⟨b,m,cap,rfl,?_⟩
    rw [hoo,Nat.add_mul]; congr 3; omega
   ·simp at h1; omega
  ·exact h.elim
 ·rename_i id off len
  obtain ⟨⟨rfl,h0,h1⟩,h3⟩:=h
  cases hr with
  | bref _ _ _ b cap hb hc =>
   refine ⟨_,_,core b off len cap rfl h0 h1,?_,h3⟩
   rw [show off+n.toNat * 1=n.toNat+off by omega]
   exact .ptr id _ b hb
 ·exact h.elim

/-! ### Parts of values -/
theorem part_sound {t:TypeId} {agg:Bool} {n off:Nat} {cs:List PV} {vs:List Value} {K:PV→Prop} (hg:isAggT P t=some agg) (hn:szT P t=some n) (hr:RelL φ ι cs vs) (hok:cs.all PV.ok=true) (h:ldC agg n cs off K) :
  ∃ c r,(part t vs.toArray off).calm P w=some r∧Rel φ ι c r∧K c:=by
 unfold ldC at h
 cases agg with
 | true =>
  obtain ⟨hle,hK⟩:=h
  refine ⟨_,.agg (vs.toArray.extract off (off+n)),?_,?_,hK⟩
  ·simp [part,isAggT_true hg,szT_calm hn]
  ·have e1:vs.toArray.extract off (off+n)=((vs.drop off).take n).toArray:=by
    simp [List.extract_eq_take_drop]
   rw [e1]
   have e2:RelL φ ι (subC cs off n) ((vs.drop off).take n):=by
    unfold subC; split
    ·rename_i e; obtain ⟨rfl,e3⟩:=e
     rw [List.drop_zero,List.take_of_length_le (by rw [← hr.1,e3]; exact Nat.le_refl _)]
     exact hr
    ·exact (hr.drop off).take n
   refine .agg _ _ e2.1 ?_ e2.2
   rw [List.all_eq_true] at hok ⊢
   unfold subC; split
   ·exact hok
   ·exact fun x hx=>hok x (List.mem_of_mem_drop (List.mem_of_mem_take hx))
 | false =>
  simp only [Bool.false_eq_true,if_false] at h
  obtain ⟨hle,hK⟩:=h
  obtain ⟨u,hu,hru⟩:=hr.get (List.getElem?_eq_getElem hle)
  refine ⟨_,u,?_,hru,hK _ (List.getElem?_eq_getElem hle)⟩
  simp [part,isAggT_false hg,hu]

end Go.Kv
end

/- Equality of structs and arrays whose cells are all int64. -/
section
namespace Go.Kv
set_option linter.unusedVariables false
set_option linter.unusedSimpArgs false

def mkV (P:Program) (t:TypeId) (xs:List Int):Value:=if isAggT P t=some true then .agg (xs.map (Value.int .i64)).toArray else (xs.map (Value.int .i64)).headD Go.undef

variable {P:Program} {w:World}

theorem part_calm {t:TypeId} {n off:Nat} {g:Bool} (hg:isAggT P t=some g) (hn:szT P t=some n) (h1:g=false→n=1) {xs:List Int} (ho:off+n≤xs.length) :
  (part t (xs.map (Value.int .i64)).toArray off).calm P w=some (mkV P t ((xs.drop off).take n)):=by
 cases g with
 | true =>
  simp only [part,calm_bind,isAggT_true hg,Option.bind_some,if_true,calm_ite,szT_calm hn,calm_pure,mkV,hg,Option.some.injEq]
  congr 1
  apply Array.ext'
  simp [List.map_drop,List.map_take,List.extract_eq_take_drop]
 | false =>
  have h1:=h1 rfl
  subst h1
  simp only [part,calm_bind,isAggT_false hg,Option.bind_some,Bool.false_eq_true,if_false,calm_ite,mkV,hg,Option.some.injEq]
  have hlt:off<xs.length:=by omega
  have hd:(xs.drop off).take 1 = [xs[off]]:=by
   rw [List.drop_eq_getElem_cons hlt]; rfl
  simp [hd,List.getElem?_map,List.getElem?_eq_getElem hlt]

theorem append_dec (a b c d:List Int) (h:a.length=c.length):decide (a ++ b=c ++ d)=(decide (a=c) && decide (b=d)):=by
 rw [Bool.eq_iff_iff]
 simp only [decide_eq_true_eq,Bool.and_eq_true]
 exact ⟨fun e=>List.append_inj e h,fun ⟨e1,e2⟩=>by rw [e1,e2]⟩

theorem struct_calm (D:Nat) (t:TypeId) (fs:Array Field) (u v:Array Value) (ht:P.underlying t=some (.struct fs)) (hp:P.stoodInHeld t=false) :
  (Op.equalIn (D+1) t (.agg u) (.agg v)).calm P w=(Op.eqFields D u v fs.toList).calm P w:=by
 simp only [Op.equalIn,calm_bind,calm_underlying ht,Option.bind_some,calm_program,hp,Bool.false_eq_true,if_false]
 rw [← Array.forIn_toList]
 generalize fs.toList=gs
 clear ht
 induction gs with
 | nil=>simp [Op.eqFields]
 | cons f fs ih =>
  simp only [List.forIn_cons,Op.eqFields,calm_bind,calm_ite]
  split
  ·cases (part f.type u f.offset).calm P w with
   | none=>rfl
   | some a =>
    simp only [Option.bind_some]
    cases (part f.type v f.offset).calm P w with
    | none=>rfl
    | some b =>
     simp only [Option.bind_some]
     cases (Op.equalIn D f.type a b).calm P w with
     | none=>rfl
     | some r =>
      cases r
      ·simp
      ·simpa using ih
  ·simpa using ih

theorem isAggT_cmp {d:Nat} {t:TypeId} {n:Nat} (h:cmpT P d t=some n):∃ g,isAggT P t=some g∧(g=false→n=1):=by
 cases d with
 | zero=>cases h
 | succ d =>
  simp only [cmpT] at h
  split at h
  ·rename_i e; exact ⟨false,by simp [isAggT,e],fun _=>by simpa using h.symm⟩
  ·rename_i e; exact ⟨true,by simp [isAggT,e],fun h=>by cases h⟩
  ·rename_i e; exact ⟨true,by simp [isAggT,e],fun h=>by cases h⟩
  ·cases h

theorem arr_calm {D:Nat} {e:TypeId} {u v:Array Value} {n:Nat} (xs ys:List Int) (hpu:∀ i,i * n+n≤xs.length→(part e u (i * n)).calm P w=some (mkV P e ((xs.drop (i * n)).take n)))
  (hpv:∀ i,i * n+n≤ys.length→(part e v (i * n)).calm P w=some (mkV P e ((ys.drop (i * n)).take n)))
  (ih:∀ xs ys:List Int,xs.length=n→ys.length=n→(Op.equalIn D e (mkV P e xs) (mkV P e ys)).calm P w=some (decide (xs=ys))) :
  ∀ (k i:Nat),xs.length=i * n+k * n→ys.length=i * n+k * n →
  (forIn (List.range' i k) ((none,()):Option Bool × Unit) (fun j _=>do
    let a ← part e u (j * n)
    let b ← part e v (j * n)
    let q ← Op.equalIn D e a b
    if (!q)=true then pure (ForInStep.done (some false,())) else pure (ForInStep.yield (none,())):_):Sem (Option Bool × Unit)).calm P w=some (if xs.drop (i * n)=ys.drop (i * n) then (none,()) else (some false,()))
 | 0,i,h1,h2=>by
  have e1:xs.drop (i * n) = []:=List.drop_eq_nil_of_le (by omega)
  have e2:ys.drop (i * n) = []:=List.drop_eq_nil_of_le (by omega)
  simp [e1,e2]
 | k+1,i,h1,h2=>by
  have hk:(k+1) * n=n+k * n:=by rw [Nat.add_mul]; omega
  have hi1:(i+1) * n=i * n+n:=by rw [Nat.add_mul]; omega
  have l1:((xs.drop (i * n)).take n).length=n:=by simp; omega
  have l2:((ys.drop (i * n)).take n).length=n:=by simp; omega
  have rc:=arr_calm xs ys hpu hpv ih k (i+1) (by omega) (by omega)
  rw [hi1] at rc
  have s1:xs.drop (i * n)=(xs.drop (i * n)).take n ++ xs.drop (i * n+n):=by rw [← List.drop_drop,List.take_append_drop]
  have s2:ys.drop (i * n)=(ys.drop (i * n)).take n ++ ys.drop (i * n+n):=by rw [← List.drop_drop,List.take_append_drop]
  simp only [List.range'_succ,List.forIn_cons,calm_bind,hpu i (by omega),hpv i (by omega),Option.bind_some,ih _ _ l1 l2,calm_ite,calm_pure]
  by_cases e1:(xs.drop (i * n)).take n=(ys.drop (i * n)).take n
  ·simp only [e1,decide_true,Bool.not_true,Bool.false_eq_true,if_false,Option.bind_some]
   rw [rc]
   congr 1
   have:(xs.drop (i * n)=ys.drop (i * n))↔(xs.drop (i * n+n)=ys.drop (i * n+n)):=by
    rw [s1,s2,e1]; exact ⟨fun h=>List.append_cancel_left h,fun h=>by rw [h]⟩
   simp only [this]
  ·have:¬ (xs.drop (i * n)=ys.drop (i * n)):=fun h=>e1 (by rw [h])
   simp [e1,this]

theorem equalIn_calm:∀ (d:Nat) (t:TypeId) (n D:Nat) (xs ys:List Int),cmpT P d t=some n→d≤D→xs.length=n→ys.length=n →
  (Op.equalIn D t (mkV P t xs) (mkV P t ys)).calm P w=some (decide (xs=ys))
 | 0,t,n,D,xs,ys,h,_,_,_=>by cases h
 | d+1,t,n,D,xs,ys,h,hD,hx,hy=>by
  obtain ⟨D,rfl⟩:∃ k,D=k+1:=⟨D - 1,by omega⟩
  simp only [cmpT] at h
  split at h
  ·rename_i e
   simp only [Option.some.injEq] at h; subst h
   obtain ⟨x,rfl⟩:=List.length_eq_one_iff.1 hx
   obtain ⟨y,rfl⟩:=List.length_eq_one_iff.1 hy
   have:isAggT P t=some false:=by simp [isAggT,e]
   simp [mkV,this,Op.equalIn,calm_underlying e,beq_dec]
  ·rename_i fs e
   split at h
   ·cases h
   ·rename_i hp
    have:isAggT P t=some true:=by simp [isAggT,e]
    simp only [mkV,this,if_true]
    rw [struct_calm D t fs _ _ e (by simpa using hp)]
    have key:∀ (gs:List Field) (o:Nat),cmpF P (cmpT P d) gs o=some n→o≤n→(Op.eqFields D (xs.map (Value.int .i64)).toArray (ys.map (Value.int .i64)).toArray gs).calm P w=some (decide (xs.drop o=ys.drop o)):=by
     intro gs
     induction gs with
     | nil =>
      intro o ho _
      simp only [cmpF,Option.some.injEq] at ho; subst ho
      rw [List.drop_eq_nil_of_le (by omega),List.drop_eq_nil_of_le (by omega)]
      simp [Op.eqFields]
     | cons f gs ihg =>
      intro o ho hon
      simp only [cmpF] at ho
      split at ho
      ·cases ho
      ·rename_i hnm
       simp only [not_or,Decidable.not_not] at hnm
       obtain ⟨hnm,rfl⟩:=hnm
       simp only [Option.bind_eq_some_iff] at ho
       obtain ⟨m,hm,ho⟩:=ho
       split at ho
       ·rename_i hsz
        obtain ⟨g,hg,hg1⟩:=isAggT_cmp hm
        have mono:∀ (gs:List Field) (o q:Nat),cmpF P (cmpT P d) gs o=some q→o≤q:=by
         intro gs
         induction gs with
         | nil=>intro o q h; simp [cmpF] at h; omega
         | cons f gs ih =>
          intro o q h
          simp only [cmpF] at h
          split at h
          ·cases h
          ·simp only [Option.bind_eq_some_iff] at h
           obtain ⟨m,_,h⟩:=h
           split at h
           ·have:=ih _ _ h; omega
           ·cases h
        have hle:=mono _ _ _ ho
        have p1:=part_calm (w:=w) hg hsz hg1 (off:=f.offset) (xs:=xs) (by omega)
        have p2:=part_calm (w:=w) hg hsz hg1 (off:=f.offset) (xs:=ys) (by omega)
        have eqr:=equalIn_calm d f.type m D ((xs.drop f.offset).take m) ((ys.drop f.offset).take m) hm (by omega) (by simp; omega) (by simp; omega)
        have rc:=ihg _ ho hle
        simp only [Op.eqFields,calm_ite,calm_bind,hnm,ne_eq,not_false_eq_true,if_true,p1,p2,eqr,Option.bind_some,rc]
        have s1:xs.drop f.offset=(xs.drop f.offset).take m ++ xs.drop (f.offset+m):=by rw [← List.drop_drop,List.take_append_drop]
        have s2:ys.drop f.offset=(ys.drop f.offset).take m ++ ys.drop (f.offset+m):=by rw [← List.drop_drop,List.take_append_drop]
        have hlen:((xs.drop f.offset).take m).length=((ys.drop f.offset).take m).length:=by simp; omega
        conv=>rhs; rw [s1,s2]
        rw [append_dec _ _ _ _ hlen]
        by_cases e1:(xs.drop f.offset).take m=(ys.drop f.offset).take m <;> simp [e1]
       ·cases ho
    have:=key _ 0 h (by omega)
    simpa using this
  ·rename_i len el e
   simp only [Option.bind_eq_some_iff] at h
   obtain ⟨m,hm,h⟩:=h
   split at h
   ·rename_i hsz
    simp only [Option.some.injEq] at h
    have:isAggT P t=some true:=by simp [isAggT,e]
    obtain ⟨g,hg,hg1⟩:=isAggT_cmp hm
    simp only [mkV,this,if_true]
    have:=arr_calm (P:=P) (w:=w) (D:=D) (e:=el) (u:=(xs.map (Value.int .i64)).toArray) (v:=(ys.map (Value.int .i64)).toArray) (n:=m) xs ys
     (fun i hi=>part_calm hg hsz hg1 hi) (fun i hi=>part_calm hg hsz hg1 hi)
     (fun xs ys h1 h2=>equalIn_calm d el m D xs ys hm (by omega) h1 h2) len 0 (by omega) (by omega)
    simp only [Op.equalIn,calm_bind,calm_underlying e,Option.bind_some,szT_calm hsz]
    rw [Std.Legacy.Range.forIn_eq_forIn_range']
    simp only [Std.Legacy.Range.size]
    rw [show (len - 0+1 - 1) / 1=len by omega,this]
    simp only [Nat.zero_mul,List.drop_zero]
    by_cases hxy:xs=ys <;> simp [hxy]
   ·cases h
  ·cases h

theorem eqGuard_calm (op:BinOp) (t:TypeId) (x y:Operand) (u v:Array Value) (h:P.eqGuardType P.depth t=false):(eqGuard op t x y (.agg u) (.agg v)).calm P w=some ():=by
 cases op <;> simp [eqGuard,h]
theorem aeq_calm (ng:Bool) {op:BinOp} (ho:op=if ng=true then .neq else .eql) {t:TypeId} {n:Nat} (hc:cmpT P 8 t=some n) (hg:P.eqGuardType P.depth t=false) (ha:isAggT P t=some true) (x y:Operand) (xs ys:List Int) (hx:xs.length=n) (hy:ys.length=n) :
  (do eqGuard op t x y (.agg (xs.map (Value.int .i64)).toArray) (.agg (ys.map (Value.int .i64)).toArray); binOp op t (.agg (xs.map (Value.int .i64)).toArray) (.agg (ys.map (Value.int .i64)).toArray):Sem Value).calm P w=some (.bool (if ng=true then !decide (xs=ys) else decide (xs=ys))):=by
 have h1:=equalIn_calm (w:=w) 8 t n 10000 xs ys hc (by omega) hx hy
 simp only [mkV,ha,if_true] at h1
 simp only [calm_bind,eqGuard_calm _ _ _ _ _ _ hg,Option.bind_some]
 subst ho
 cases ng <;> simp [binOp,Op.equal,Op.maxDepth,h1]
end Go.Kv
end

/- Slices: what is appended, made, cut; literals of slices and structs. -/
section
namespace Go.Kv
set_option linter.unusedVariables false
set_option linter.unusedSimpArgs false

variable {P:Program} {φ:Frz} {ι:List KLoc} {σ:Heap} {w:World}

theorem flat_idx {s:Nat} (hs:0<s):∀ (xs:List PV),(∀ x∈xs,x.cs.length=s)→∀ k,(flat xs)[k]? = (xs[k / s]?).bind (fun x=>x.cs[k % s]?)
 | [],_,k=>by simp
 | x :: xs,hx,k=>by
  have hxs:x.cs.length=s:=hx x List.mem_cons_self
  rw [flat_cons]
  by_cases hk:k<s
  ·rw [List.getElem?_append_left (by omega),Nat.div_eq_of_lt hk,Nat.mod_eq_of_lt hk]
   simp
  ·have h1:k / s=(k - s) / s+1:=by
    have:=Nat.sub_add_cancel (Nat.le_of_not_lt hk)
    conv=>lhs; rw [← this]
    rw [Nat.add_div_right _ hs]
   have h2:k % s=(k - s) % s:=by
    have:=Nat.sub_add_cancel (Nat.le_of_not_lt hk)
    conv=>lhs; rw [← this]
    rw [Nat.add_mod_right]
   rw [List.getElem?_append_right (by omega),hxs,flat_idx hs xs (fun u hu=>hx u (List.mem_cons_of_mem _ hu)) (k - s),h1,h2,List.getElem?_cons_succ]
theorem flat_drop {s:Nat}:∀ (xs:List PV),(∀ x∈xs,x.cs.length=s)→∀ k,flat (xs.drop k)=(flat xs).drop (k * s)
 | xs,_,0=>by simp
 | [],_,k+1=>by simp
 | x :: xs,h,k+1=>by
  have hx:=h x (by simp)
  have e1:(x.cs ++ flat xs).drop ((k+1) * s)=(flat xs).drop (k * s):=by
   have e2:x.cs.drop (k * s+s) = []:=List.drop_eq_nil_of_le (by omega)
   rw [Nat.succ_mul,List.drop_append,hx,e2,show k * s+s - s=k * s by omega,List.nil_append]
  rw [List.drop_succ_cons,flat_drop xs (fun y hy=>h y (by simp [hy])) k,flat_cons,e1]
theorem flat_take {s:Nat}:∀ (xs:List PV),(∀ x∈xs,x.cs.length=s)→∀ k,flat (xs.take k)=(flat xs).take (k * s)
 | xs,_,0=>by simp
 | [],_,k+1=>by simp
 | x :: xs,h,k+1=>by
  have hx:=h x (by simp)
  have e1:(x.cs ++ flat xs).take ((k+1) * s)=x.cs ++ (flat xs).take (k * s):=by
   have e2:x.cs.take (k * s+s)=x.cs:=List.take_of_length_le (by omega)
   rw [Nat.succ_mul,List.take_append,hx,e2,show k * s+s - s=k * s by omega]
  rw [List.take_succ_cons,flat_cons,flat_take xs (fun y hy=>h y (by simp [hy])) k,flat_cons,e1]

theorem okL_len {esz:Nat} {ys:List PV} (h:okL esz ys):∀ y∈ys,y.cs.length=esz:=fun y hy=>(h y hy).1
theorem okL_flat {esz:Nat} {ys:List PV} (h:okL esz ys):(flat ys).all PV.ok=true:=by
 rw [List.all_eq_true]
 intro c hc
 simp only [flat,List.mem_flatMap] at hc
 obtain ⟨y,hy,hc⟩:=hc
 exact List.all_eq_true.1 (h y hy).2 c hc

theorem list_cells (ho:HOK φ ι σ w) {esz:Nat} (hpos:0<esz) {ys:List PV} (hk:okL esz ys) {v:Value} (hr:Rel φ ι (.list ys) v) :
  (v = .slice none 0 0∧ys = [])∨∃ a cap,v = .slice (some a) ys.length cap∧(ys = []∨a.spot=none)∧CellsAt φ ι w a.block a.off (flat ys):=by
 cases hr with
 | list0 cap a=>exact .inr ⟨a,cap,rfl,.inl rfl,by simp,[],.nil _ _,by simp⟩
 | listn=>exact .inl ⟨rfl,rfl⟩
 | list _ esz' b o len cap C hl hc hb hsz g hg hR =>
  refine .inr ⟨⟨b,o,none⟩,cap,by rw [hl],.inr rfl,okL_flat hk,(List.range (ys.length * esz)).map (fun k=>g (k / esz) (k % esz)),?_,?_⟩
  ·refine ⟨by simp [flat_length (okL_len hk)],fun k c u hc hu=>?_⟩
   have hkl:=(List.getElem?_eq_some_iff.1 hc).1
   rw [flat_length (okL_len hk)] at hkl
   rw [List.getElem?_map,List.getElem?_range hkl] at hu
   simp at hu; subst hu
   rw [flat_idx hpos ys (okL_len hk)] at hc
   cases hx:ys[k / esz]? with
   | none=>rw [hx] at hc; cases hc
   | some x=>rw [hx] at hc; exact hR _ _ _ _ hx hc
  ·intro k u hu
   have hkl:k<ys.length * esz:=by simpa using (List.getElem?_eq_some_iff.1 hu).1
   rw [List.getElem?_map,List.getElem?_range hkl] at hu
   simp at hu; subst hu
   have hdl:k / esz<ys.length:=(Nat.div_lt_iff_lt_mul hpos).2 hkl
   have hx:=List.getElem?_eq_getElem hdl
   have hxl:=okL_len hk _ (List.getElem_mem hdl)
   have hml:k % esz<(ys[k / esz]).cs.length:=by rw [hxl]; exact Nat.mod_lt _ hpos
   have hcell:=hg _ _ _ _ hx (List.getElem?_eq_getElem hml)
   have he:=(hsz _ _ hx).1
   rw [hxl] at he; subst he
   obtain ⟨e,f,hh⟩:=ho.fz b C hb
   simp only [World.cell?,hh]
   have hd:o+k / esz * esz+k % esz=o+k:=by
    have:=Nat.div_add_mod k esz
    rw [Nat.mul_comm] at this; omega
   rw [hd] at hcell
   simpa using hcell

theorem aNews_sound (ho:HOK φ ι σ w) {esz:Nat} (hpos:0<esz) {x:PV} {v:Value} (hr:Rel φ ι x v) {K:List PV→Prop} (h:aNews esz x σ K) :
  ∃ ns,K ns∧okL esz ns∧((v = .slice none 0 0∧ns = [])∨∃ a cap,v = .slice (some a) ns.length cap∧(ns = []∨a.spot=none)∧CellsAt φ ι w a.block a.off (flat ns)):=by
 unfold aNews at h
 split at h
 ·exact ⟨[],h,fun _ hy=>by simp at hy,.inl ⟨hr.nils_inv,rfl⟩⟩
 ·rename_i ys
  exact ⟨ys,h.2,h.1,list_cells ho hpos h.1 hr⟩
 ·rename_i id ver off len
  split at h
  ·rename_i vr e es ys hs
   obtain ⟨⟨rfl,rfl,hle⟩,hK⟩:=h
   obtain ⟨u,hu,_,vs,hown,hR,hok,hss⟩:=arr_open ho hs
   have hkl:okL es ((ys.drop off).take len):=fun y hy=>by
    have hy':y∈ys:=List.mem_of_mem_drop (List.mem_of_mem_take hy)
    refine ⟨hss y hy',?_⟩
    rw [List.all_eq_true] at hok ⊢
    exact fun c hc=>hok c (List.mem_flatMap.2 ⟨y,hy',hc⟩)
   have hlen:((ys.drop off).take len).length=len:=by simp; omega
   refine ⟨_,hK,hkl,?_⟩
   rcases hr.ref_cur hu with ⟨b,m,cap,o,rfl,hc,rfl,h1,h2⟩ | ⟨rfl,rfl,rfl,rfl⟩
   ·refine .inr ⟨⟨b,o,none⟩,cap - off,by rw [hlen],.inr rfl,?_⟩
    by_cases h0:len=0
    ·subst h0; exact ⟨by simp,[],by simpa using RelL.nil _ _,by simp⟩
    ·have:=(arr_cells hown hR hok (ver:=0)).sub (off * es) (len * es) (by rw [flat_length hss,← Nat.add_mul]; exact Nat.mul_le_mul_right _ hle)
     rw [h1 (by omega)]
     rw [flat_take (s:=es) _ (fun y hy=>hss y (List.mem_of_mem_drop hy)),flat_drop (s:=es) _ hss]
     simp only [Nat.zero_add] at this
     unfold subC at this
     split at this
     ·rename_i e1
      obtain ⟨e1,e2⟩:=e1
      rw [e1,List.drop_zero,← e2,List.take_length]
      rw [e1] at this
      exact this
     ·exact this
   ·exact .inl ⟨rfl,by simp⟩
  ·exact h.elim
 ·exact h.elim

theorem run_app (t ty e:TypeId) (i:TypeInfo) (z:Value) (ht:P.underlying t=some (.slice e)) (hi:P.info? e=some i) (hz:i.zero=some z)
  (hzs:z.cells.size=i.size) (hsz:0<i.size)
  (v:Value) (n:Nat) (xs:List Value) (hown:w.ownsRow 0 e i.size v n xs)
  (a:Addr) (m c:Nat) (news:List Value) (hl:news.length=m * i.size) (hnews:∀ j u,news[j]? = some u→w.cell? (a.add j)=some u) (h1:∀ u∈news,u.oneCell'=true)
  (h63:n+m≤maxLen) (hbytes:(n+m) * i.bytes≤140737488355328) :
  ∃ v' w',(Builtin.append_ #[t,t] ty #[v,.slice (some a) m c]).run P w = .ok v' w'∧w'.ownsRow 0 e i.size v' (n+m) (xs ++ news)∧w.grownBy w' v.ownBlock ∧
   (∀ b,v'.ownBlock=some b→v.ownBlock=some b∨w.heap.size≤b):=by
 rcases hown.2 with ⟨rfl,rfl⟩ | ⟨g,cap,cur,rfl,hbg,hg,hnc,hcm,hcs,htake⟩
 ·have hx:xs = []:=List.eq_nil_of_length_eq_zero (by simpa using hown.1)
  subst hx
  obtain ⟨v',w',h2,h3,h4,_⟩:=run_append_own (P:=P) w w.heap.size t ty e i z i.size i.bytes ht hi hz rfl rfl hzs hsz (.slice none 0 0) 0 [] (World.ownsRow_nil w _ e i.size) a m c news hl hnews h1 h63 hbytes (Nat.le_refl _)
  refine ⟨v',w',h2,⟨h3.1,?_⟩,h4,fun b hb=>.inr (h3.lt b hb).1⟩
  rcases h3.2 with h5 | ⟨g,cap,cur,h5,_,h6⟩
  ·exact .inl h5
  ·exact .inr ⟨g,cap,cur,h5,Nat.zero_le _,h6⟩
 ·have hsmall:n+m≤9223372036854775807:=by simp only [maxLen] at h63; omega
  by_cases hroom:n+m≤cap
  ·obtain ⟨v',w',h2,h3,h4,_⟩:=run_append_own (P:=P) w 0 t ty e i z i.size i.bytes ht hi hz rfl rfl hzs hsz _ n xs hown a m c news hl hnews h1 h63 hbytes (Nat.zero_le _)
   have hfit:n * i.size+news.length≤cur.size:=by rw [hl,hcs,← Nat.add_mul]; exact Nat.mul_le_mul_right _ hroom
   have hr:=run_append_room (P:=P) w t ty e i ht hi g n cap cur hg a m c news hl hnews h1 hroom hfit
   rw [hr] at h2
   cases h2
   exact ⟨_,_,hr,h3,h4,fun b hb=>.inl hb⟩
  ·obtain ⟨v',w',h2,h3,h4,_⟩:=run_append_own (P:=P) w 0 t ty e i z i.size i.bytes ht hi hz rfl rfl hzs hsz _ n xs hown a m c news hl hnews h1 h63 hbytes (Nat.zero_le _)
   have holds:∀ j u,xs[j]? = some u→w.cell? ((⟨g,0,none⟩:Addr).add j)=some u:=hown.cells (g:=g) rfl
   have hr:=run_append_grow (P:=P) w t ty e i z ht hi hz ⟨g,0,none⟩ n cap xs hown.1 holds a m c news hl hnews (by omega) (by omega) (growslice_fits (by omega) hbytes)
   rw [hr] at h2
   cases h2
   exact ⟨_,_,hr,h3,h4,fun b hb=>.inr (by simp [Value.ownBlock] at hb; omega)⟩

theorem grownBy_keep {w':World} (h:w.grownBy w' none):∀ b,b<w.heap.size→w'.heap[b]? = w.heap[b]?:=fun b hb=>h.block b hb (by simp)

theorem ownsRow_cut {e:TypeId} {size n m:Nat} {g cap c:Nat} {xs:List Value} (hown:w.ownsRow 0 e size (.slice (some ⟨g,0,none⟩) c cap) n xs) (hm:m≤n):w.ownsRow 0 e size (.slice (some ⟨g,0,none⟩) m cap) m (xs.take (m * size)):=by
 have hle:m * size≤n * size:=Nat.mul_le_mul_right _ hm
 refine ⟨by rw [List.length_take,hown.1]; omega,?_⟩
 rcases hown.2 with ⟨hb,_⟩ | ⟨g',cap',cur,hv,h1,h2,h3,h4,h5,h6⟩
 ·cases hb
 ·cases hv
  exact .inr ⟨g,cap,cur,rfl,h1,h2,by omega,h4,h5,by rw [← h6,List.take_take,Nat.min_eq_left hle]⟩

theorem app_sound {t ty e:TypeId} {i:TypeInfo} {z:Value} (ho:HOK φ ι σ w) (ht:P.underlying t=some (.slice e)) (hi:P.info? e=some i) (hz:i.zero=some z) (hzs:z.cells.size=i.size) (hsz:0<i.size) (hb:i.bytes≤32768)
  {s x:PV} {u v:Value} (hs:Rel φ ι s u) (hx:Rel φ ι x v) {K:PV→Heap→Prop} (h:aApp e i.size s x σ K) :
  ∃ c r w' ι' σ',(Builtin.append_ #[t,t] ty #[u,v]).run P w = .ok r w'∧Rel φ ι' c r∧Tr σ.length φ ι w φ ι' w'∧HOK φ ι' σ' w'∧K c σ':=by
 have hbound:∀ k:Nat,k≤4294967296→k≤maxLen∧k * i.bytes≤140737488355328:=fun k hk=>by
  refine ⟨by simp only [maxLen]; omega,?_⟩
  have:=Nat.mul_le_mul hk hb
  omega
 unfold aApp at h
 split at h
 ·obtain rfl:=hs.nils_inv
  obtain ⟨ns,⟨hlen,hK⟩,hok,hcase⟩:=aNews_sound ho hsz hx h
  have hnil:w.ownsRow 0 e i.size (.slice none 0 0) 0 []:=World.ownsRow_nil w 0 e i.size
  rcases hcase with ⟨rfl,rfl⟩ | ⟨a,cap,rfl,hsp,hca⟩
  ·have hr:=run_append_owned_none (P:=P) w 0 t ty e i i.size ht hi _ 0 [] hnil
   have hpush:=ho.push (w':=w) (o:=.arr 0 e i.size []) (l:=.arr 0 e i.size (.slice none 0 0)) (fun _ _=>rfl) (Nat.le_refl _) (fun b hb=>by simp [KLoc.block,Value.ownBlock] at hb)
    ⟨rfl,rfl,rfl,hsz,[],hnil,by simpa using RelL.nil _ _,by simp,by simp⟩
   refine ⟨_,_,w,_,_,hr,?_,Tr.push _ (fun _ _=>rfl) (Nat.le_refl _) rfl rfl rfl (fun b hb=>by simp [KLoc.block,Value.ownBlock] at hb),hpush,hK⟩
   exact .ref _ 0 0 0 _ 0 e i.size (.slice none 0 0) (by rw [← ho.len,List.getElem?_append_right (Nat.le_refl _)]; simp) rfl (Nat.le_refl _) (fun _=>.inr ⟨rfl,rfl,rfl,rfl⟩)
  ·obtain ⟨hfo,news,hR,hcell⟩:=hca
   have hnl:news.length=ns.length * i.size:=by rw [← hR.1,flat_length (okL_len hok)]
   have hbd:=hbound _ hlen
   obtain ⟨r,w',hr,hown,hgrow,hblk⟩:=run_app (P:=P) t ty e i z ht hi hz hzs hsz _ 0 [] hnil a ns.length cap news hnl (fun j q hj=>by
    cases hsp with | inl h=>(exfalso; rw [h] at hnl; have:news = []:=List.eq_nil_of_length_eq_zero (by simpa using hnl); rw [this] at hj; simp at hj) | inr hsp=>(obtain ⟨ab,ao,as⟩:=a; simp at hsp; subst hsp; rw [addr_add]; exact hcell j q hj)) (oneCells hR hfo) (by omega) (by simpa using hbd.2)
   have hk:=grownBy_keep (w:=w) (w':=w') hgrow
   have hpush:=ho.push (w':=w') (o:=.arr 0 e i.size ns) (l:=.arr 0 e i.size r) hk hgrow.size (fun b hb=>⟨by have:=hblk b hb; simpa [Value.ownBlock] using this,(hown.lt b hb).2⟩)
    ⟨rfl,rfl,rfl,hsz,news,by simpa using hown,hR,hfo,okL_len hok⟩
   refine ⟨_,_,w',_,_,hr,?_,Tr.push _ hk hgrow.size hgrow.os hgrow.tape hgrow.output (fun b hb=>by have:=hblk b hb; simpa [Value.ownBlock] using this),hpush,hK⟩
   have hgetl:(ι ++ [KLoc.arr 0 e i.size r])[σ.length]? = some (.arr 0 e i.size r):=by rw [← ho.len,List.getElem?_append_right (Nat.le_refl _)]; simp
   rcases hown.2 with ⟨rfl,h0⟩ | ⟨g,cap',cur,rfl,_,_,hc,_⟩
   ·exact .ref _ 0 0 _ _ 0 e i.size _ hgetl rfl (Nat.le_refl _) (fun _=>.inr ⟨rfl,rfl,by omega,rfl⟩)
   ·refine .ref _ 0 0 _ _ 0 e i.size _ hgetl rfl (Nat.le_refl _) (fun _=>.inl ⟨g,_,cap',0,rfl,by omega,by simp,fun _=>by simp,fun _=>rfl⟩)
 ·rename_i id ver off len
  split at h
  ·rename_i vr e' es xs hobj
   obtain ⟨ns,⟨⟨rfl,rfl,rfl,rfl,hlx,hlen⟩,hK⟩,hok,hcase⟩:=aNews_sound ho hsz hx h
   obtain ⟨hd,hu,_,ys,hown,hR0,hfo0,hss⟩:=arr_open ho hobj
   have hbd:=hbound _ hlen
   -- the row cut to the length of the header
   have hcut:w.ownsRow 0 e' i.size u len (ys.take (len * i.size))∧u.ownBlock=hd.ownBlock:=by
    rcases hs.ref_cur hu with ⟨b,m,cap,o,rfl,hc,rfl,h1,h2⟩ | ⟨rfl,_,rfl,rfl⟩
    ·cases h2 rfl
     exact ⟨by simpa using ownsRow_cut hown hlx,rfl⟩
    ·exact ⟨by simpa using World.ownsRow_nil w 0 e' i.size,rfl⟩
   have hRc:RelL φ ι (flat (xs.take len)) (ys.take (len * i.size)):=by rw [flat_take _ hss]; exact hR0.take _
   have hokc:(flat (xs.take len)).all PV.ok=true:=by
    rw [flat_take _ hss]; rw [List.all_eq_true] at hfo0 ⊢
    exact fun c hc=>hfo0 c (List.mem_of_mem_take hc)
   have hssc:∀ x∈xs.take len ++ ns,x.cs.length=i.size:=fun x hx=>by
    rcases List.mem_append.1 hx with hx | hx
    ·exact hss x (List.mem_of_mem_take hx)
    ·exact okL_len hok x hx
   have hlen2:(xs.take len ++ ns).length=len+ns.length:=by simp; omega
   -- what both ways come to
   have fin:∀ (r:Value) (w':World) (news:List Value),(Builtin.append_ #[t,t] ty #[u,v]).run P w = .ok r w'→w'.ownsRow 0 e' i.size r (len+ns.length) (ys.take (len * i.size) ++ news)→RelL φ ι (flat ns) news→w.grownBy w' u.ownBlock→(∀ b,r.ownBlock=some b→u.ownBlock=some b∨w.heap.size≤b) →
     ∃ c r w' ι' σ',(Builtin.append_ #[t,t] ty #[u,v]).run P w = .ok r w'∧Rel φ ι' c r∧Tr σ.length φ ι w φ ι' w'∧HOK φ ι' σ' w'∧K c σ':=by
    intro r w' news hr hown' hRn hgrow hblk
    have hle:(KLoc.arr vr e' i.size hd).le (.arr (vr+1) e' i.size r):=⟨.inr (Nat.lt_succ_self _),rfl,rfl⟩
    have hkeep:∀ b,b<w.heap.size→(KLoc.arr vr e' i.size hd).block≠some b→w'.heap[b]? = w.heap[b]?:=fun b hb hne=>hgrow.block b hb (fun e1=>hne (by rw [KLoc.block,← hcut.2,e1]))
    have hb1:∀ b,(KLoc.arr (vr+1) e' i.size r).block=some b→(KLoc.arr vr e' i.size hd).block=some b∨w.heap.size≤b:=fun b hb=>by
     rcases hblk b hb with h3 | h3
     ·exact .inl (by rw [KLoc.block,← hcut.2]; exact h3)
     ·exact .inr h3
    have hLe:LLe ι (ι.set id (.arr (vr+1) e' i.size r)):=fun j y hy=>by
     by_cases e1:id=j
     ·subst e1; rw [hu] at hy; cases hy
      exact ⟨_,List.getElem?_set_self (List.getElem?_eq_some_iff.1 hu).1,hle⟩
     ·exact ⟨y,by rw [List.getElem?_set_ne e1]; exact hy,y.le_refl⟩
    have hup:=ho.upd (w':=w') (o:=.arr (vr+1) e' i.size (xs.take len ++ ns)) hu hle hgrow.size hkeep hb1 (fun b hb=>(hown'.lt b hb).2)
     ⟨rfl,rfl,rfl,hsz,_,by rw [hlen2]; exact hown',by rw [flat_append]; exact (hRc.append hRn).mono (.refl _) hLe,by rw [flat_append,List.all_append,hokc,okL_flat hok]; rfl,hssc⟩
    refine ⟨_,r,w',_,_,hr,?_,Tr.upd _ hu hup.2 hgrow.size hkeep hb1 hgrow.os hgrow.tape hgrow.output,hup.1,hK⟩
    have hget:(ι.set id (KLoc.arr (vr+1) e' i.size r))[id]? = some (.arr (vr+1) e' i.size r):=List.getElem?_set_self (List.getElem?_eq_some_iff.1 hu).1
    rcases hown'.2 with ⟨rfl,h0⟩ | ⟨g,cap',cur,rfl,_,_,hc,_⟩
    ·exact .ref _ _ 0 _ _ _ e' i.size _ hget rfl (Nat.le_refl _) (fun _=>.inr ⟨rfl,rfl,h0,rfl⟩)
    ·exact .ref _ _ 0 _ _ _ e' i.size _ hget rfl (Nat.le_refl _) (fun _=>.inl ⟨g,_,cap',0,rfl,by omega,by simp,fun _=>by simp,fun _=>rfl⟩)
   rcases hcase with ⟨rfl,rfl⟩ | ⟨a,cap,rfl,hsp,hca⟩
   ·have hr:=run_append_owned_none (P:=P) w 0 t ty e' i i.size ht hi _ len _ hcut.1
    exact fin u w [] hr (by simpa using hcut.1) (by simpa using RelL.nil _ _) ⟨rfl,rfl,rfl,Nat.le_refl _,fun _ _ _=>rfl⟩ (fun b hb=>.inl hb)
   ·obtain ⟨hfo,news,hR,hcell⟩:=hca
    have hnl:news.length=ns.length * i.size:=by rw [← hR.1,flat_length (okL_len hok)]
    obtain ⟨r,w',hr,hown',hgrow,hblk⟩:=run_app (P:=P) t ty e' i z ht hi hz hzs hsz u len _ hcut.1 a ns.length cap news hnl (fun j q hj=>by
     cases hsp with | inl h=>(exfalso; rw [h] at hnl; have:news = []:=List.eq_nil_of_length_eq_zero (by simpa using hnl); rw [this] at hj; simp at hj) | inr hsp=>(obtain ⟨ab,ao,as⟩:=a; simp at hsp; subst hsp; rw [addr_add]; exact hcell j q hj)) (oneCells hR hfo) hbd.1 hbd.2
    exact fin r w' news hr hown' hR hgrow hblk
  ·exact h.elim
 ·exact h.elim

end Go.Kv
end

/- Every operation: the machine's does what the abstract one says. -/
section
namespace Go.Kv
set_option linter.unusedVariables false
set_option linter.unusedSimpArgs false

variable {P:Program} {φ:Frz} {ι:List KLoc} {σ:Heap} {w:World} {N:Nat} {env:Env} {a:Act}

theorem cvs_rel (φ:Frz) (ι:List KLoc):∀ {vs:List Value} {zs:List PV},cvs vs=some zs→RelL φ ι zs vs
 | [],zs,h=>by simp [cvs] at h; subst h; exact .nil _ _
 | v :: vs,zs,h=>by
  simp only [cvs,List.mapM_cons,Option.bind_eq_bind,Option.pure_def,Option.bind_eq_some_iff,Option.some.injEq] at h
  obtain ⟨c,hc,cs,hcs,rfl⟩:=h
  exact .cons (cv_rel hc φ ι) (cvs_rel φ ι hcs)
theorem trXs_rel (he:EOK N φ ι env a):∀ {xs:List Operand} {ys:List KX},xs.mapM trX=some ys→RelL φ ι (ys.map (kx env)) (xs.map a.eval)
 | [],ys,h=>by simp at h; subst h; exact .nil _ _
 | x :: xs,ys,h=>by
  simp only [List.mapM_cons,Option.bind_eq_bind,Option.pure_def,Option.bind_eq_some_iff,Option.some.injEq] at h
  obtain ⟨c,hc,cs,hcs,rfl⟩:=h
  exact .cons (trX_rel he hc) (trXs_rel he hcs)

theorem push_row (ho:HOK φ ι σ w) {e:TypeId} {esz n cap:Nat} {xs:List PV} {ys:List Value} {C:Array Value} (hpos:0<esz) (hn:xs.length=n) (hR:RelL φ ι (flat xs) ys) (hok:okL esz xs)
  (hown:(w.alloc (.cells C e)).ownsRow 0 e esz (.slice (some ⟨w.heap.size,0,none⟩) n cap) n ys) (hc:n≤cap) :
  HOK φ (ι ++ [.arr 0 e esz (.slice (some ⟨w.heap.size,0,none⟩) n cap)]) (σ ++ [.arr 0 e esz xs]) (w.alloc (.cells C e)) ∧
  Tr σ.length φ ι w φ (ι ++ [.arr 0 e esz (.slice (some ⟨w.heap.size,0,none⟩) n cap)]) (w.alloc (.cells C e)) ∧
  Rel φ (ι ++ [.arr 0 e esz (.slice (some ⟨w.heap.size,0,none⟩) n cap)]) (.ref σ.length 0 0 n) (.slice (some ⟨w.heap.size,0,none⟩) n cap):=by
 have hk:∀ b,b<w.heap.size→(w.alloc (.cells C e)).heap[b]? = w.heap[b]?:=fun b hb=>alloc_old w _ hb
 have hs:w.heap.size≤(w.alloc (.cells C e)).heap.size:=by rw [alloc_size]; omega
 have hb:∀ b,(KLoc.arr 0 e esz (.slice (some ⟨w.heap.size,0,none⟩) n cap)).block=some b→w.heap.size≤b∧b<(w.alloc (.cells C e)).heap.size:=fun b hb=>by
  simp [KLoc.block,Value.ownBlock] at hb; subst hb; rw [alloc_size]; omega
 refine ⟨ho.push hk hs hb ⟨rfl,rfl,rfl,hpos,ys,by rw [hn]; exact hown,hR,okL_flat hok,okL_len hok⟩,Tr.push _ hk hs rfl rfl rfl (fun b h=>(hb b h).1),?_⟩
 exact .ref _ 0 0 n _ 0 e esz _ (by rw [← ho.len,List.getElem?_append_right (Nat.le_refl _)]; simp) rfl (Nat.le_refl _) (fun _=>.inl ⟨w.heap.size,n,cap,0,rfl,by omega,by simp,fun _=>by simp,fun _=>rfl⟩)

theorem ownsRow_new (w:World) (C:Array Value) (e:TypeId) (esz n cap:Nat) (ys:List Value) (h1:C.size=cap * esz) (h2:C.toList.take (n * esz)=ys) (hc:n≤cap) (hm:cap≤maxLen) :
  (w.alloc (.cells C e)).ownsRow 0 e esz (.slice (some ⟨w.heap.size,0,none⟩) n cap) n ys:=by
 have hle:n * esz≤cap * esz:=Nat.mul_le_mul_right _ hc
 refine ⟨by rw [← h2,List.length_take,Array.length_toList,h1]; omega,.inr ⟨_,cap,C,rfl,Nat.zero_le _,alloc_new w _,hc,hm,h1,h2⟩⟩

theorem mks_sound {t e:TypeId} {i:TypeInfo} {z:Value} {zs:List PV} {zp:PV} (ho:HOK φ ι σ w) (ht:P.underlying t=some (.slice e)) (hi:P.info? e=some i) (hz:i.zero=some z) (hzs:cvs z.cells.toList=some zs) (hl:i.size=zs.length) (hpos:i.size≠0) (hb:¬ 32768<i.bytes)
  (hzp:zp.cs=zs) (hzok:zs.all PV.ok=true) {kl kc:IntKind} {n m:Int} (h0:0≤n) (h1:n≤m) (h2:m≤4294967296) :
  ∃ r w' ι',(Instr.makeSlice t (.int kl n) (.int kc m)).run P w = .ok r w'∧Rel φ ι' (.ref σ.length 0 0 n.toNat) r∧Tr σ.length φ ι w φ ι' w'∧HOK φ ι' (σ ++ [.arr 0 e i.size (List.replicate n.toNat zp)]) w':=by
 have hbytes:(i.bytes:Int) * m≤281474976710656:=by
  have h3:(i.bytes:Int)≤32768:=by omega
  have:=Int.mul_le_mul h3 h2 (by omega) (by omega)
  omega
 have hr:=run_make (P:=P) w t e i z ht hi hz kl kc n m h0 h1 hbytes (by omega)
 have hzR:=cvs_rel φ ι hzs
 have hzl:z.cells.size=i.size:=by rw [hl,hzR.1]; simp
 have hok:okL i.size (List.replicate n.toNat zp):=fun y hy=>by
  rw [List.eq_of_mem_replicate hy,hzp]; exact ⟨hl.symm,hzok⟩
 have hnm:n.toNat≤m.toNat:=by omega
 have hnl:n.toNat * i.size≤m.toNat * i.size:=Nat.mul_le_mul_right _ hnm
 have hown:=ownsRow_new w (madeCells z.cells (m.toNat * i.size)) e i.size n.toNat m.toNat _ (size_madeCells _ _) rfl hnm (by simp only [maxLen]; omega)
 have hRL:RelL φ ι (flat (List.replicate n.toNat zp)) ((madeCells z.cells (m.toNat * i.size)).toList.take (n.toNat * i.size)):=by
  refine ⟨?_,fun k c u hc hu=>?_⟩
  ·rw [flat_length (okL_len hok),List.length_take,List.length_replicate,Array.length_toList (xs:=madeCells z.cells (m.toNat * i.size)),size_madeCells]; omega
  ·have hkl:=(List.getElem?_eq_some_iff.1 hc).1
   rw [flat_length (okL_len hok),List.length_replicate] at hkl
   rw [List.getElem?_take,if_pos hkl] at hu
   have hu':z.cells[k % z.cells.size]! = u:=by
    have:k<m.toNat * i.size:=by omega
    simp [madeCells,this] at hu
    exact hu
   rw [flat_idx (Nat.pos_of_ne_zero hpos) _ (okL_len hok)] at hc
   have hdl:k / i.size<n.toNat:=(Nat.div_lt_iff_lt_mul (Nat.pos_of_ne_zero hpos)).2 hkl
   rw [List.getElem?_replicate,if_pos hdl] at hc
   simp only [Option.bind_some,hzp] at hc
   refine hzR.2 (k % i.size) c u hc ?_
   have hml:k % i.size<z.cells.size:=by rw [hzl]; exact Nat.mod_lt _ (Nat.pos_of_ne_zero hpos)
   rw [← hu',hzl]
   rw [getElem!_pos z.cells (k % i.size) hml]
   simp [hml]
 obtain ⟨g1,g2,g3⟩:=push_row ho (Nat.pos_of_ne_zero hpos) (by simp) (xs:=List.replicate n.toNat zp) hRL hok hown hnm
 exact ⟨_,_,_,hr,g3,g2,g1⟩

theorem flat_cells {esz:Nat}:∀ {cs:List PV} {vs:List Value},RelL φ ι cs vs→okL esz cs→RelL φ ι (flat cs) (vs.flatMap fun v=>v.cells.toList)∧∀ v∈vs,v.cells.size=esz
 | [],[],_,_=>⟨.nil _ _,by simp⟩
 | [],_ :: _,h,_=>by have:=h.1; simp at this
 | _ :: _,[],h,_=>by have:=h.1; simp at this
 | c :: cs,v :: vs,h,hk=>by
  have h0:Rel φ ι c v:=h.2 0 c v rfl rfl
  have hr:RelL φ ι cs vs:=⟨by have:=h.1; simpa using this,fun i x y hx hy=>h.2 (i+1) x y (by simpa using hx) (by simpa using hy)⟩
  have ih:=flat_cells hr (fun y hy=>hk y (by simp [hy]))
  have hc:=h0.cells (hk c (by simp)).2
  refine ⟨?_,fun u hu=>?_⟩
  ·rw [flat_cons,List.flatMap_cons]; exact hc.append ih.1
  ·rcases List.mem_cons.1 hu with rfl | hu
   ·have:=hc.1; rw [(hk c (by simp)).1] at this; simpa using this.symm
   ·exact ih.2 u hu

theorem trPos_parts {n:Nat} {xs:List (Nat × Operand)} {ps:List KX} (he:EOK N φ ι env a) (h:trPos P n xs=some ps) :
  ps.length=n∧∃ vs,RelL φ ι (ps.map (kx env)) vs∧xs.map (fun x=>(x.1,a.eval x.2))=(vs.zipIdx 0).map fun x=>(x.2,x.1):=by
 unfold trPos at h
 split at h
 ·rename_i hr
  have h':(xs.map (·.2)).mapM trX=some ps:=by
   rw [List.mapM_map]; exact h
  have hR:=trXs_rel he h'
  have hl:xs.length=n:=by have:=congrArg List.length hr; simpa using this
  have hpl:ps.length=n:=by
   have:=hR.1; simp at this; omega
  refine ⟨hpl,_,hR,?_⟩
  apply List.ext_getElem?
  intro j
  simp only [List.map_map,List.getElem?_map,List.getElem?_zipIdx,Option.map_map]
  cases hx:xs[j]? with
  | none=>simp
  | some x =>
   simp
   have h1:(xs.map (·.1))[j]? = some x.1:=by simp [hx]
   have hj:j<n:=by rw [← hl]; exact (List.getElem?_eq_some_iff.1 hx).1
   rw [hr,List.getElem?_range hj] at h1
   simp at h1; omega
 ·cases h

theorem bsl_cells {t e:TypeId} {n:Nat} {parts:Array (Nat × Operand)} {ps:List KX} {i:TypeInfo} {z:Value} (he:EOK N φ ι env a) (ht:P.underlying t=some (.slice e)) (hi:P.info? e=some i) (hz:i.zero=some z)
  (hps:trPos P n parts.toList=some ps) (hsmall:¬ (n * i.size > 16777216∨i.size=0)) (hok:okL i.size (ps.map (kx env))) :
  ∃ C:Array Value,(Instr.buildSlice t n (parts.map fun x=>(x.1,a.eval x.2))).run P w = .ok (.slice (some ⟨w.heap.size,0,none⟩) n n) (w.alloc (.cells C e))∧ps.length=n∧RelL φ ι (flat (ps.map (kx env))) C.toList∧C.size=n * i.size:=by
 obtain ⟨hl,vs,hR,hparts⟩:=trPos_parts (φ:=φ) (ι:=ι) he hps
 have hfc:=flat_cells hR hok
 have hvl:vs.length=n:=by rw [← hR.1]; simpa using hl
 have hpos:0<i.size:=by omega
 have hf:=Great.fill_whole hpos vs ((Array.range (n * i.size)).map (z.cells[· % z.cells.size]!)) hfc.2 (by simp [hvl])
 rw [← hparts] at hf
 have hRl:(vs.flatMap fun v=>v.cells.toList).length=n * i.size:=by
  rw [← hfc.1.1,flat_length (okL_len hok)]; simp [hl]
 by_cases hn:n=0
 ·subst hn
  have hv0:vs = []:=List.eq_nil_of_length_eq_zero hvl
  have hp0:parts.toList = []:=by
   unfold trPos at hps
   split at hps
   ·rename_i h1; simpa using h1
   ·cases hps
  have hp1:parts = #[]:=by apply Array.ext'; simpa using hp0
  refine ⟨#[],?_,hl,by simpa [hv0] using hfc.1,by simp⟩
  subst hp1
  simp [Instr.buildSlice,run_underlying ht,sizeOf,typeInfo,hi,Instr.fill,newRow,Array.range_zero']
  try rfl
 ·refine ⟨_,run_buildSlice (P:=P) w t e n _ _ i z ht hi hz (by omega) (by intro h; rcases Nat.mul_eq_zero.1 h with h | h <;> omega) (by rw [Array.toList_map]; exact hf),hl,by simpa using hfc.1,by simpa using hRl⟩

/-! ### Struct literals -/
theorem fold_put (off:Nat) (vs:List Value) (cs:Array Value) (h:off+vs.length≤cs.size):((vs.zipIdx 0).foldl (fun cs (x:Value × Nat)=>cs.setIfInBounds (off+x.2) x.1) cs).toList=cs.toList.take off ++ vs ++ cs.toList.drop (off+vs.length):=by
 obtain ⟨h1,h2⟩:=Great.foldl_set off vs 0 cs
 apply List.ext_getElem?
 intro k
 have:=h2 k
 rw [Array.getElem?_toList,this]
 simp only [Nat.add_zero]
 rw [List.getElem?_append,List.getElem?_append]
 have hcl:(cs.toList.take off).length=off:=by simp; omega
 simp only [List.length_append,hcl]
 by_cases hA:k<off
 ·rw [if_neg (by omega),if_pos (by omega),if_pos hA,List.getElem?_take,if_pos hA]; simp
 ·by_cases hB:k<off+vs.length
  ·rw [if_pos ⟨by omega,hB,by omega⟩,if_pos hB,if_neg hA]
  ·rw [if_neg (by omega),if_neg hB,List.getElem?_drop]
   rw [show off+vs.length+(k - (off+vs.length))=k by omega]; simp

theorem build_fill (he:EOK N φ ι env a) {pf pg:Nat→Option (Nat × Nat)} (hpf:∀ i,pg i=pf i):∀ {parts:List (Nat × Operand)} {ps:List (Nat × Nat × KX)} {zs:List PV} {C:Array Value},
  trParts pf parts=some ps→RelL φ ι zs C.toList→zs.all PV.ok=true→buildOK env zs.length ps →
  ∃ C':Array Value,Instr.fill pg C (parts.map fun x=>(x.1,a.eval x.2))=some C'∧RelL φ ι (buildC env zs ps) C'.toList∧(buildC env zs ps).all PV.ok=true
 | [],ps,zs,C,h,hR,hok,_=>by
  simp [trParts] at h; subst h
  exact ⟨C,by simp [Instr.fill],hR,hok⟩
 | (i,x) :: parts,ps,zs,C,h,hR,hok,hb=>by
  simp only [trParts,List.mapM_cons,Option.bind_eq_bind,Option.pure_def,Option.bind_eq_some_iff,Option.some.injEq] at h
  obtain ⟨⟨off,sz,y''⟩,⟨f,hf,y',hy,hq⟩,qs,hqs,rfl⟩:=h
  have hqs:trParts pf parts=some qs:=hqs
  simp only [Prod.mk.injEq] at hq
  obtain ⟨e1,e2,e3⟩:=hq
  subst e1 e2 e3
  simp only [buildOK] at hb
  obtain ⟨⟨h1,h2,h3⟩,hb'⟩:=hb
  have hrx:=(trX_rel he hy).cells h2
  have hvl:(a.eval x).cells.toList.length=f.2:=by rw [← hrx.1,h1]
  have hCl:C.size=zs.length:=by have:=hR.1; simpa using this.symm
  have hle:f.1+(kx env y').cs.length≤zs.length:=by omega
  have hput:=putC_rel hR hrx hle
  have hfold:=fold_put f.1 (a.eval x).cells.toList C (by rw [hvl,hCl]; omega)
  obtain ⟨C',g1,g2,g3⟩:=build_fill he hpf (zs:=putC zs f.1 (kx env y').cs) (C:=((a.eval x).cells.toList.zipIdx 0).foldl (fun cs (x:Value × Nat)=>cs.setIfInBounds (f.1+x.2) x.1) C) hqs (by rw [hfold]; exact hput) (putC_ok hok h2) (by rw [putC_length hle]; exact hb')
  refine ⟨C',?_,g2,g3⟩
  rw [List.map_cons]
  unfold Instr.fill
  have hpl:pg i=some (f.1,f.2):=by rw [hpf]; simpa using hf
  simp only [hpl]
  have hvs:(a.eval x).cells.size=f.2:=by simpa using hvl
  rw [if_neg (by simp [hvs]; omega)]
  rw [← g1]
  congr 1
  rw [← Array.foldl_toList,Array.toList_zipIdx]

/-! ### Cutting slices, lengths, greatest and least -/
theorem bound_run {k:IntKind} {n:Int} {y:Nat} {code:BoundsCode} (h0:0≤n) (h1:n≤y):(Instr.sliceBound (.int k n) y code).calm P w=some n.toNat:=by
 simp [Instr.sliceBound,asIntOf,h0,h1]

theorem sls_sound {t e:TypeId} {esz:Nat} {x:PV} {v:Value} {lo hi:Option KX} {lv hv:Option Value} {K:PV→Prop} (ho:HOK φ ι σ w) (ht:P.underlying t=some (.slice e)) (hn:szT P e=some esz) (hr:Rel φ ι x v)
  (hlo:match lo,lv with | none,none=>True | some y,some u=>∃ k n,kx env y = .int k n∧u = .int k n | _,_=>False)
  (hhi:match hi,hv with | none,none=>True | some y,some u=>∃ k n,kx env y = .int k n∧u = .int k n | _,_=>False)
  (h:aSls esz x (lo.bind fun y=>intOf? (kx env y)) (hi.bind fun y=>intOf? (kx env y)) σ K) :
  ∃ c r,(Instr.sliceAt t v lv hv none).calm P w=some r∧Rel φ ι c r∧K c:=by
 have hat:∀ (ad:Option Addr) (len cap:Nat) (l m:Int),v = .slice ad len cap→(lo.bind fun y=>intOf? (kx env y)).getD 0=l→(hi.bind fun y=>intOf? (kx env y)).getD len=m→0≤l→l≤m→m≤cap →
   (Instr.sliceAt t v lv hv none).calm P w=some (.slice (if cap=l.toNat then ad else ad.map (·.add (l.toNat * esz))) (m.toNat - l.toNat) (cap - l.toNat)):=by
  intro ad len cap l m hv' hl hm h0 h1 h2
  subst hv'
  have hb:(Instr.sliceBounds true len cap lv hv none).calm P w=some (l.toNat,m.toNat,cap):=by
   cases lo <;> cases lv <;> simp only at hlo
   all_goals cases hi <;> cases hv <;> simp only at hhi
   ·simp at hl hm; subst hl hm; simp [Instr.sliceBounds]
   ·obtain ⟨k,n,e1,rfl⟩:=hhi
    simp [e1,intOf?] at hl hm; subst hl hm
    simp [Instr.sliceBounds,bound_run (P:=P) (w:=w) (show 0≤n by omega) h2]
   ·obtain ⟨k,n,e1,rfl⟩:=hlo
    simp [e1,intOf?] at hl hm; subst hl hm
    simp [Instr.sliceBounds,bound_run (P:=P) (w:=w) h0 h1]
   ·obtain ⟨k,n,e1,rfl⟩:=hlo
    obtain ⟨k',n',e1',rfl⟩:=hhi
    simp [e1,e1',intOf?] at hl hm; subst hl hm
    have hh:n≤(n'.toNat:Int):=by omega
    simp [Instr.sliceBounds,bound_run (P:=P) (w:=w) (show 0≤n' by omega) h2,bound_run (P:=P) (w:=w) h0 hh]
  simp [Instr.sliceAt,calm_underlying ht,Instr.slice,hb,szT_calm hn]
 unfold aSls at h
 split at h
 ·obtain ⟨⟨h1,h2⟩,hK⟩:=h
  obtain rfl:=hr.nils_inv
  have:=hat none 0 0 0 0 rfl h1 (by simpa using h2) (by omega) (by omega) (by omega)
  exact ⟨.nils,_,this,by simpa using Rel.nils,hK⟩
 ·rename_i xs
  obtain ⟨⟨h0,h1,h2⟩,hokl,hK⟩:=h
  obtain ⟨l,hl⟩:∃ l,(lo.bind fun y=>intOf? (kx env y)).getD 0=l:=⟨_,rfl⟩
  obtain ⟨m,hm⟩:∃ m,(hi.bind fun y=>intOf? (kx env y)).getD (xs.length:Int)=m:=⟨_,rfl⟩
  rw [hl] at h0 h1 hK
  rw [hm] at h1 h2 hK
  cases hr with
  | list0 cap ad =>
   simp at h2 hm
   have:=hat (some ad) 0 cap l m rfl hl (by simpa using hm) h0 h1 (by omega)
   refine ⟨_,_,this,?_,hK⟩
   have e1:m.toNat - l.toNat=0:=by omega
   have e2:l.toNat=0:=by omega
   have e3:(ad.add 0)=ad:=by simp [Addr.add]
   rw [e1,e2]
   simp only [List.take_zero,Nat.zero_mul,Option.map_some,e3,ite_self]
   exact .list0 _ ad
  | listn =>
   simp at h2 hm
   have:=hat none 0 0 l m rfl hl (by simpa using hm) h0 h1 (by omega)
   refine ⟨_,_,this,?_,hK⟩
   have e1:m.toNat - l.toNat=0:=by omega
   have e2:l.toNat=0:=by omega
   rw [e1,e2]
   simp only [List.take_zero,Nat.zero_mul,Option.map_none,ite_self]
   exact .listn
  | list _ esz' b o len cap C hl' hc hb hsz g hg hR =>
   subst hl'
   have:=hat (some ⟨b,o,none⟩) xs.length cap l m rfl hl hm h0 h1 (by omega)
   refine ⟨_,_,this,?_,hK⟩
   by_cases hcl:cap=l.toNat
   ·rw [if_pos hcl]
    have e1:m.toNat - l.toNat=0:=by omega
    rw [e1,List.take_zero]
    exact .list0 _ _
   ·rw [if_neg hcl]
    simp only [Option.map_some,addr_add]
    by_cases hemp:xs = []
    ·subst hemp
     simp at h2
     have e1:m.toNat - l.toNat=0:=by omega
     rw [e1,List.take_zero]
     exact .list0 _ _
    ·obtain ⟨y0,hy0⟩:=List.exists_mem_of_ne_nil _ hemp
     obtain ⟨j0,hj0⟩:=List.getElem?_of_mem hy0
     have he0:esz'=esz:=by rw [← (hsz _ _ hj0).1,(hokl _ hy0).1]
     subst he0
     have hget:∀ (i:Nat) (y:PV),((xs.drop l.toNat).take (m.toNat - l.toNat))[i]? = some y→xs[l.toNat+i]? = some y:=fun i y hy=>by
      rw [List.getElem?_take] at hy
      split at hy
      ·rwa [List.getElem?_drop] at hy
      ·cases hy
     refine .list _ esz' b (o+l.toNat * esz') _ _ C (by simp; omega) (by omega) hb (fun i y hy=>hsz _ y (hget i y hy)) (fun i j=>g (l.toNat+i) j) (fun i y j c hy hc'=>?_) (fun i y j c hy hc'=>hR _ _ _ _ (hget i y hy) hc')
     have:=hg _ _ _ _ (hget i y hy) hc'
     rwa [show o+(l.toNat+i) * esz'+j=o+l.toNat * esz'+i * esz'+j by rw [Nat.add_mul]; omega] at this
 ·rename_i id ver off len
  split at h
  ·rename_i vr e' es xs hobj
   obtain ⟨⟨rfl,rfl,h0,h1,h2⟩,hK⟩:=h
   obtain ⟨u,hu,_⟩:=arr_open ho hobj
   obtain ⟨l,hl⟩:∃ l,(lo.bind fun y=>intOf? (kx env y)).getD 0=l:=⟨_,rfl⟩
   obtain ⟨m,hm⟩:∃ m,(hi.bind fun y=>intOf? (kx env y)).getD (len:Int)=m:=⟨_,rfl⟩
   rw [hl] at h0 h1 hK
   rw [hm] at h1 h2 hK
   rcases hr.ref_cur hu with ⟨b,n,cap,o,rfl,hc,rfl,ho1,ho2⟩ | ⟨rfl,rfl,rfl,rfl⟩
   ·have:=hat (some ⟨b,o,none⟩) len (cap - off) l m rfl hl hm h0 h1 (by omega)
    refine ⟨_,_,this,?_,hK⟩
    refine .ref id vr _ _ _ vr e' es _ hu (by split <;> rfl) (Nat.le_refl _) fun _=>.inl ⟨b,n,cap,if cap - off=l.toNat then o else o+l.toNat * es,rfl,by omega,?_,?_,?_⟩
    ·simp only [Option.map_some,addr_add]
     split <;> simp <;> omega
    ·intro hlt
     rw [if_neg (by omega),ho1 (by omega),Nat.add_mul]
    ·intro h00
     have:off=0:=by omega
     have h01:l.toNat=0:=by omega
     rw [h01,Nat.zero_mul,Nat.add_zero,ite_self]
     exact ho2 this
   ·have:=hat none 0 0 l m rfl hl (by simpa using hm) h0 h1 (by omega)
    refine ⟨_,_,this,?_,hK⟩
    have e1:m.toNat - l.toNat=0:=by omega
    have e2:l.toNat=0:=by omega
    rw [e1,e2]
    simp only [Option.map_none,ite_self]
    exact .ref id vr _ _ _ vr e' es _ hu rfl (Nat.le_refl _) fun _=>.inr ⟨rfl,rfl,rfl,rfl⟩
  ·exact h.elim
 ·exact h.elim

theorem len_sound {t e:TypeId} {x:PV} {v:Value} {ty:TypeId} {K:PV→Prop} (ho:HOK φ ι σ w) (ht:P.underlying t=some (.slice e)) (hr:Rel φ ι x v) (h:aLen x σ K) :
  ∃ c r,(Builtin.len_ #[t] ty #[v]).calm P w=some r∧Rel φ ι c r∧K c:=by
 have hsl:∀ (ad:Option Addr) (n cap:Nat),v = .slice ad n cap→(Builtin.len_ #[t] ty #[v]).calm P w=some (.int .i64 n):=by
  intro ad n cap hv; subst hv
  simp [Builtin.len_,calm_underlying ht,goInt]
 unfold aLen at h
 split at h
 ·obtain rfl:=hr.nils_inv
  exact ⟨_,_,hsl _ 0 _ rfl,.int _ _,h⟩
 ·rename_i xs
  cases hr with
  | list0 cap ad=>exact ⟨_,_,hsl _ 0 _ rfl,.int _ _,h⟩
  | listn=>exact ⟨_,_,hsl _ 0 _ rfl,.int _ _,h⟩
  | list _ _ b o len cap C hl=>exact ⟨_,_,hsl _ len _ rfl,.int _ _,hl ▸ h⟩
 ·cases hr with
  | bref _ _ _ b cap=>exact ⟨_,_,hsl _ _ _ rfl,.int _ _,h⟩
 ·rename_i id ver off len
  split at h
  ·rename_i vr e' es xs hobj
   obtain ⟨rfl,hK⟩:=h
   obtain ⟨u,hu,_⟩:=arr_open ho hobj
   rcases hr.ref_cur hu with ⟨b,n,cap,o,rfl,hc,rfl,_⟩ | ⟨rfl,rfl,rfl,rfl⟩
   ·exact ⟨_,_,hsl _ len _ rfl,.int _ _,hK⟩
   ·exact ⟨_,_,hsl _ 0 _ rfl,.int _ _,hK⟩
  ·exact h.elim
 ·exact h.elim

theorem len_str {t:TypeId} {ty:TypeId} (s:List UInt8) (ht:P.underlying t=some .string):(Builtin.len_ #[t] ty #[.string ⟨s.toArray⟩]).calm P w=some (.int .i64 s.length):=by
 have hz:(ByteArray.mk s.toArray).size=s.length:=by show s.toArray.size=_; simp
 simp [Builtin.len_,calm_underlying ht,goInt,hz]

theorem mnmx_sound (isMax:Bool):∀ {xs:List PV} {vs:List Value} {x:PV} {v:Value} {K:PV→Prop},Rel φ ι x v→RelL φ ι xs vs→mnmxV isMax x xs K →
  ∃ c r,(vs.foldlM (fun p q=>if isMax=true then Builtin.max2 p q else Builtin.min2 p q) v:Sem Value).calm P w=some r∧Rel φ ι c r∧K c
 | [],[],x,v,K,hx,_,h=>⟨x,v,by simp,hx,by simpa [mnmxV] using h⟩
 | [],_ :: _,_,_,_,_,hR,_=>by have:=hR.1; simp at this
 | _ :: _,[],_,_,_,_,hR,_=>by have:=hR.1; simp at this
 | y :: xs,u :: vs,x,v,K,hx,hR,h=>by
  have hR':RelL φ ι xs vs:=⟨by have:=hR.1; simpa using this,fun i p q hp hq=>hR.2 (i+1) p q (by simpa using hp) (by simpa using hq)⟩
  have hy:Rel φ ι y u:=hR.2 0 y u rfl rfl
  cases x with
  | int k m =>
   cases y with
   | int k' b =>
    obtain rfl:=hx.int_inv
    obtain rfl:=hy.int_inv
    simp only [mnmxV] at h
    obtain ⟨c,rr,g1,g2,g3⟩:=mnmx_sound isMax (x:=.int k (if isMax=true then max m b else min m b)) (v:=.int k (if isMax=true then max m b else min m b)) (.int _ _) hR' h
    refine ⟨c,rr,?_,g2,g3⟩
    rw [List.foldlM_cons]
    cases isMax
    ·have:(Builtin.min2 (.int k m) (.int k' b)).calm P w=some (.int k (min m b)):=by
      simp only [Builtin.min2,calm_pure]
      have:(if b<m then b else m)=min m b:=by omega
      rw [this]
     simpa [this] using g1
    ·have:(Builtin.max2 (.int k m) (.int k' b)).calm P w=some (.int k (max m b)):=by
      simp only [Builtin.max2,calm_pure]
      have:(if b > m then b else m)=max m b:=by omega
      rw [this]
     simpa [this] using g1
   | _=>simp [mnmxV] at h
  | _=>simp [mnmxV] at h

end Go.Kv
end

/- One operation of the machine, whatever it is, under the abstract one. -/
section
namespace Go.Kv
set_option linter.unusedVariables false
set_option linter.unusedSimpArgs false

variable {P:Program} {φ:Frz} {ι:List KLoc} {σ:Heap} {w:World} {N:Nat} {env:Env} {a:Act}

theorem ints_rel {φ:Frz} {ι:List KLoc} {xs:List Int} {vs:List Value} (h:RelL φ ι (ints xs) vs):vs=xs.map (Value.int .i64):=by
 apply List.ext_getElem?
 intro i
 cases hx:xs[i]? with
 | none =>
  have:vs[i]? = none:=by
   rw [List.getElem?_eq_none_iff] at hx ⊢
   rw [← h.1]; simpa [ints] using hx
  simp [this,hx]
 | some x =>
  obtain ⟨v,hv,hr⟩:=h.get (i:=i) (c:=.int .i64 x) (by simp [ints,hx])
  rw [hv,hr.int_inv]; simp [hx]
theorem wp_val {o:Oper} {v:Value} {w':World} {next:Act→World→Prop} {Q:Exit→Act→World→Prop} (hr:(execOp a.eval o).run P w = .ok (.value v) w') (hn:next (a.put o.dst v) w'):o.wp P a w next Q:=by
 unfold Oper.wp; rw [hr]; exact hn
theorem wp_skp {o:Oper} {w':World} {next:Act→World→Prop} {Q:Exit→Act→World→Prop} (hr:(execOp a.eval o).run P w = .ok .skip w') (hn:next (a.put o.dst Go.undef) w'):o.wp P a w next Q:=by
 unfold Oper.wp; rw [hr]; exact hn

def Nx (P:Program) (N:Nat) (φ:Frz) (ι:List KLoc) (σ:Heap) (w:World) (a:Act) (d:Option Tmp) (K:PV→Heap→Prop) (next:Act→World→Prop):Prop :=
 ∀ v' v φ' ι' σ' w',Rel φ' ι' v v'→Tr σ.length φ ι w φ' ι' w'→HOK φ' ι' σ' w'→K v σ'→next (a.put d v') w'

theorem Nx.pure {d:Option Tmp} {K:PV→Heap→Prop} {next:Act→World→Prop} (h:Nx P N φ ι σ w a d K next) (ho:HOK φ ι σ w) {v':Value} {v:PV} (hr:Rel φ ι v v') (hk:K v σ):next (a.put d v') w :=
 h v' v φ ι σ w hr (.refl _ _ _ _) ho hk

theorem new_box (ho:HOK φ ι σ w) {e:TypeId} {cs:List PV} {C:Array Value} (hR:RelL φ ι cs C.toList) (hok:cs.all PV.ok=true) :
  HOK φ (ι ++ [.box w.heap.size]) (σ ++ [.box cs]) (w.alloc (.cells C e))∧Tr σ.length φ ι w φ (ι ++ [.box w.heap.size]) (w.alloc (.cells C e))∧Rel φ (ι ++ [.box w.heap.size]) (.ptr σ.length 0) (.pointer (some ⟨w.heap.size,0,none⟩)):=by
 have hk:∀ b,b<w.heap.size→(w.alloc (.cells C e)).heap[b]? = w.heap[b]?:=fun b hb=>alloc_old w _ hb
 have hs:w.heap.size≤(w.alloc (.cells C e)).heap.size:=by rw [alloc_size]; omega
 have hb:∀ b,(KLoc.box w.heap.size).block=some b→w.heap.size≤b∧b<(w.alloc (.cells C e)).heap.size:=fun b hb=>by
  simp [KLoc.block] at hb; subst hb; rw [alloc_size]; omega
 refine ⟨ho.push hk hs hb ⟨C,e,alloc_new w _,hR,hok⟩,Tr.push _ hk hs rfl rfl rfl (fun b h=>(hb b h).1),?_⟩
 exact .ptr _ 0 _ (by rw [← ho.len,List.getElem?_append_right (Nat.le_refl _)]; simp)
theorem new_frz (ho:HOK φ ι σ w) {e:TypeId} {cs:List PV} {C:Array Value} (hR:RelL φ ι cs C.toList) (hok:cs.all PV.ok=true) :
  HOK (addFrz φ w.heap.size C) ι σ (w.alloc (.cells C e))∧Tr σ.length φ ι w (addFrz φ w.heap.size C) ι (w.alloc (.cells C e))∧Rel (addFrz φ w.heap.size C) ι (.fptr cs 0) (.pointer (some ⟨w.heap.size,0,none⟩)):=by
 have hk:∀ b,b<w.heap.size→(w.alloc (.cells C e)).heap[b]? = w.heap[b]?:=fun b hb=>alloc_old w _ hb
 have hs:w.heap.size≤(w.alloc (.cells C e)).heap.size:=by rw [alloc_size]; omega
 obtain ⟨h1,h2⟩:=ho.frz hk hs (Nat.le_refl _) (alloc_new w (.cells C e))
 refine ⟨h1,Tr.frz _ h2 hk hs rfl rfl rfl,?_⟩
 refine .fptr cs 0 w.heap.size 0 C (by simp [addFrz]) hok (fun j=>C.toList.getD j Go.undef) (fun j c hj=>?_) (fun j c hj=>?_)
 ·obtain ⟨u,hu,_⟩:=hR.get hj
  have hu':C[j]? = some u:=by simpa using hu
  simp [hu']
 ·obtain ⟨u,hu,hr⟩:=hR.get hj
  have hu':C[j]? = some u:=by simpa using hu
  simp [hu']
  exact hr.mono h2.1 (.refl _)

theorem write_sound (h:HOK φ ι σ w) {id ver es:Nat} {e:TypeId} {xs:List PV} (ho:σ[id]? = some (.arr ver e es xs)) {off len:Nat} (hfit:off+len≤xs.length) {v:Value} (hr:Rel φ ι (.ref id ver off len) v)
  {ys:List PV} (hyl:ys.length=len) (hyok:okL es ys) {us:List Value} (hu:RelL φ ι (flat ys) us) (hlen:0<len) :
  ∃ ad n,v = .slice (some ad) len n∧∃ w',(storeCells ad us).run P w = .ok () w'∧HOK φ ι (σ.set id (.arr ver e es (xs.take off ++ ys ++ xs.drop (off+len)))) w'∧Tr σ.length φ ι w φ ι w':=by
 obtain ⟨u,hid,hsz,zs,hown,hR,hok,hss⟩:=arr_open h ho
 cases hr with
 | ref _ _ _ _ _ k e' s' u' h' ho' hk hv =>
  rw [hid] at h'; cases h'
  rcases hv rfl with ⟨b,n,cap,o,rfl,hcap,rfl,hoo,_⟩ | ⟨rfl,rfl,rfl,_⟩
  ·rcases hown.2 with ⟨hbad,_⟩ | ⟨g,cap',cur,hveq,hb0,hg,hnc,hcm,hcs,htake⟩
   ·cases hbad
   ·cases hveq
    have hoo:=hoo (by omega)
    subst hoo
    have hfl:(flat ys).length=len * es:=by rw [flat_length (okL_len hyok),hyl]
    have hul:us.length=len * es:=by rw [← hu.1,hfl]
    have hzl:zs.length=xs.length * es:=hown.1
    have hbd:off * es+len * es≤xs.length * es:=by rw [← Nat.add_mul]; exact Nat.mul_le_mul_right _ hfit
    have hcap2:xs.length * es≤cur.size:=by rw [hcs]; exact Nat.mul_le_mul_right _ hnc
    have hone:=oneCells hu (okL_flat hyok)
    have hst:=run_storeCells_at P b (off * es) e us 0 cur w hg (by rw [hul]; omega) hone
    simp only [Nat.add_zero] at hst
    refine ⟨_,_,rfl,_,hst,?_⟩
    have hxt:∀ x∈xs.take off,x.cs.length=es:=fun x hx=>hss x (List.mem_of_mem_take hx)
    have hxd:∀ x∈xs.drop (off+len),x.cs.length=es:=fun x hx=>hss x (List.mem_of_mem_drop hx)
    have hnewlen:(xs.take off ++ ys ++ xs.drop (off+len)).length=xs.length:=by simp [hyl]; omega
    have hflat:flat (xs.take off ++ ys ++ xs.drop (off+len))=(flat xs).take (off * es) ++ flat ys ++ (flat xs).drop (off * es+len * es):=by
     rw [flat_append,flat_append,flat_take xs hss,flat_drop xs hss,Nat.add_mul]
    have hnew:RelL φ ι (flat (xs.take off ++ ys ++ xs.drop (off+len))) (zs.take (off * es) ++ us ++ zs.drop (off * es+len * es)):=by
     rw [hflat]
     exact ((hR.take _).append hu).append (hR.drop _)
    have hcl:cur.toList.length=cur.size:=by simp
    have hlist:(cur.toList.take (off * es) ++ us ++ cur.toList.drop (off * es+us.length)).take (xs.length * es)=zs.take (off * es) ++ us ++ zs.drop (off * es+len * es):=by
     have:=splice cur.toList us (off * es) 0 (len * es) (len * es) (xs.length * es) hul (by omega) hbd (by rw [hcl]; exact hcap2)
     rw [htake] at this
     simp only [Nat.add_zero,Nat.zero_add,List.take_zero,List.nil_append] at this
     rw [hul,this]
     congr 2
     rw [List.drop_eq_nil_of_le (by simp; omega),List.append_nil]
    have hsame:ι.set id (KLoc.arr ver e es (.slice (some ⟨b,0,none⟩) xs.length cap)) = ι:=by
     apply List.ext_getElem?; intro j
     by_cases e1:id=j
     ·subst e1; rw [List.getElem?_set_self (List.getElem?_eq_some_iff.1 hid).1,hid]
     ·rw [List.getElem?_set_ne e1]
    have hOK:ObjOK φ (ι.set id (.arr ver e es (.slice (some ⟨b,0,none⟩) xs.length cap))) (w.setRow b (cur.toList.take (off * es) ++ us ++ cur.toList.drop (off * es+us.length)).toArray) (.arr ver e es (xs.take off ++ ys ++ xs.drop (off+len))) (.arr ver e es (.slice (some ⟨b,0,none⟩) xs.length cap)):=by
     rw [hsame]
     refine ⟨rfl,rfl,rfl,hsz,_,⟨by rw [hnewlen,← hnew.1,flat_length (esz:=es) (fun x hx=>by
       simp only [List.mem_append] at hx
       rcases hx with (hx | hx) | hx
       ·exact hxt x hx
       ·exact okL_len hyok x hx
       ·exact hxd x hx),hnewlen],.inr ⟨b,cap,_,by rw [hnewlen],Nat.zero_le _,setRow_heap w b cur _ e (0,0) hg,by rw [hnewlen]; exact hnc,hcm,?_,?_⟩⟩,hnew,?_,?_⟩
     ·simp only [List.size_toArray,List.length_append,List.length_take,List.length_drop,hul,hcl]
      omega
     ·rw [hnewlen]; simpa using hlist
     ·rw [hflat]
      rw [List.all_eq_true] at hok ⊢
      have hyo:=List.all_eq_true.1 (okL_flat hyok)
      intro z hz
      simp only [List.mem_append] at hz
      rcases hz with (h6 | h6) | h6
      ·exact hok z (List.mem_of_mem_take h6)
      ·exact hyo z h6
      ·exact hok z (List.mem_of_mem_drop h6)
     ·intro x hx
      simp only [List.mem_append] at hx
      rcases hx with (hx | hx) | hx
      ·exact hxt x hx
      ·exact okL_len hyok x hx
      ·exact hxd x hx
    have hup:=h.upd (w':=w.setRow b _) (o:=.arr ver e es (xs.take off ++ ys ++ xs.drop (off+len))) hid (KLoc.le_refl _) (by simp) (fun k hk hk'=>setRow_other w b k _ (fun e1=>hk' (by simp [KLoc.block,Value.ownBlock,e1])))
     (fun k hk=>.inl hk) (fun k hk=>by simp [KLoc.block,Value.ownBlock] at hk; subst hk; simpa using heap_lt hg) hOK
    have htr:=Tr.upd (φ:=φ) σ.length hid hup.2 (w':=w.setRow b (cur.toList.take (off * es) ++ us ++ cur.toList.drop (off * es+us.length)).toArray) (by simp) (fun k hk hk'=>setRow_other w b k _ (fun e1=>hk' (by simp [KLoc.block,Value.ownBlock,e1]))) (fun k hk=>.inl hk) rfl rfl rfl
    rw [hsame] at htr hup
    exact ⟨hup.1,htr⟩
  ·omega

theorem cvs_ok:∀ {vs:List Value} {zs:List PV},cvs vs=some zs→zs.all PV.ok=true
 | [],zs,h=>by simp [cvs] at h; subst h; rfl
 | v :: vs,zs,hh=>by
  simp only [cvs,List.mapM_cons,Option.bind_eq_bind,Option.pure_def,Option.bind_eq_some_iff,Option.some.injEq] at hh
  obtain ⟨c,hc,cs,hcs,rfl⟩:=hh
  have ih:=cvs_ok (vs:=vs) hcs
  rw [List.all_cons,ih,Bool.and_true]
  unfold cv at hc
  split at hc <;> simp at hc <;> subst hc <;> rfl
theorem zero_rel {z:Value} {zs:List PV} {zp:PV} (hzs:cvs z.cells.toList=some zs) (hzp:zp.cs=zs) (hpos:zs.length≠0) (n:Nat) :
  RelL φ ι (flat (List.replicate n zp)) (Builtin.zeroCells z.cells n).toList:=by
 have hzR:=cvs_rel φ ι hzs
 have hzl:z.cells.size=zs.length:=by rw [hzR.1]; simp
 have hlen:∀ y∈List.replicate n zp,y.cs.length=zs.length:=fun y hy=>by rw [List.eq_of_mem_replicate hy,hzp]
 refine ⟨by rw [flat_length hlen,List.length_replicate,Array.length_toList (xs:=Builtin.zeroCells z.cells n),size_zeroCells,hzl],fun k c u hc hu=>?_⟩
 have hkl:=(List.getElem?_eq_some_iff.1 hc).1
 rw [flat_length hlen,List.length_replicate] at hkl
 have hu':z.cells[k % z.cells.size]! = u:=by
  have:k<n * z.cells.size:=by rw [hzl]; exact hkl
  simp [Builtin.zeroCells,this] at hu
  exact hu
 rw [flat_idx (Nat.pos_of_ne_zero hpos) _ hlen] at hc
 have hdl:k / zs.length<n:=(Nat.div_lt_iff_lt_mul (Nat.pos_of_ne_zero hpos)).2 hkl
 rw [List.getElem?_replicate,if_pos hdl] at hc
 simp only [Option.bind_some,hzp] at hc
 refine hzR.2 (k % zs.length) c u hc ?_
 have hml:k % zs.length<z.cells.size:=by rw [hzl]; exact Nat.mod_lt _ (Nat.pos_of_ne_zero hpos)
 rw [← hu',hzl]
 rw [getElem!_pos z.cells (k % zs.length) hml]
 simp [hml]
theorem tup_nil_rel (φ:Frz) (ι:List KLoc):Rel φ ι (.tup []) (.tuple #[]):=.tup [] [] rfl (by simp)
theorem clr_sound {t e:TypeId} {i:TypeInfo} {z:Value} {zs:List PV} {zp:PV} {ty:TypeId} {x:PV} {v:Value} {K:Heap→Prop} (h1:HOK φ ι σ w) (hd:P.underlying t=some (.slice e)) (hi:P.info? e=some i) (hz:i.zero=some z)
  (hzs:cvs z.cells.toList=some zs) (hl:i.size=zs.length) (hpos:i.size≠0) (hzp:zp.cs=zs) (hr:Rel φ ι x v) (ha:aClr i.size zp x σ K) :
  ∃ w' φ' ι' σ',(Builtin.clear_ #[t] ty #[v]).run P w = .ok (.tuple #[]) w'∧Tr σ.length φ ι w φ' ι' w'∧HOK φ' ι' σ' w'∧K σ':=by
 unfold aClr at ha
 split at ha
 ·cases hr
  exact ⟨w,φ,ι,σ,by simp [Builtin.clear_,run_underlying hd],.refl _ _ _ _,h1,ha⟩
 ·rename_i id ver off len
  split at ha
  ·rename_i vr e' es xs ho
   obtain ⟨⟨rfl,rfl,hfit⟩,hK⟩:=ha
   rcases Nat.eq_zero_or_pos len with h0 | h0
   ·subst h0
    have hsame:σ.set id (.arr vr e' i.size (xs.take off ++ List.replicate 0 zp ++ xs.drop (off+0))) = σ:=by
     apply List.ext_getElem?; intro j
     by_cases e1:id=j
     ·subst e1; rw [List.getElem?_set_self (List.getElem?_eq_some_iff.1 ho).1,ho]; simp
     ·rw [List.getElem?_set_ne e1]
    rw [hsame] at hK
    refine ⟨w,φ,ι,σ,?_,.refl _ _ _ _,h1,hK⟩
    obtain ⟨u,hid,hsz,zs',hown,hR,hok,hss⟩:=arr_open h1 ho
    cases hr with
    | ref _ _ _ _ _ k e2 s2 u2 h' ho' hk hv =>
     rw [hid] at h'; cases h'
     rcases hv rfl with ⟨b,n,cap,o,rfl,hcap,rfl,_,_⟩ | ⟨rfl,_,_,rfl⟩
     ·simp [Builtin.clear_,run_underlying hd]
     ·simp [Builtin.clear_,run_underlying hd]
   ·have hyok:okL i.size (List.replicate len zp):=fun y hy=>by rw [List.eq_of_mem_replicate hy,hzp]; exact ⟨hl.symm,cvs_ok hzs⟩
    obtain ⟨ad,n,rfl,w',hw,hh,htr⟩:=write_sound (P:=P) h1 ho hfit hr (List.length_replicate ..) hyok (zero_rel (φ:=φ) (ι:=ι) hzs hzp (by omega) len) h0
    refine ⟨w',φ,ι,_,?_,htr,hh,hK⟩
    obtain ⟨m,rfl⟩:∃ m,len=m+1:=⟨len - 1,by omega⟩
    simp [Builtin.clear_,run_underlying hd,zeroValue,typeInfo,hi,hz,hw]
  ·exact ha.elim
 ·exact ha.elim

theorem call_sound {o:Oper} {f:Operand} {as:Array Operand} {ts:Array TypeId} (hop:o.op = .call { callee:=.value f,args:=as,argTypes:=ts }) {x:KX} {ys:List KX} (hf:trX f=some x) (has:trXs as=some ys)
  {K:PV→Heap→Prop} (ha:aCall P (kx env x) (ys.map (kx env)) σ K) (h1:HOK φ ι σ w) (h2:EOK N φ ι env a) {next:Act→World→Prop} {Q:Exit→Act→World→Prop} (hn:Nx P N φ ι σ w a o.dst K next):o.wp P a w next Q:=by
 unfold aCall at ha
 split at ha
 ·rename_i fid first caps hk
  have hr:=trX_rel h2 hf
  rw [hk] at hr
  obtain ⟨u,v,hev,hu,hv⟩:=hr.fn_inv
  have hargs:=trXs_rel (φ:=φ) (ι:=ι) h2 has
  obtain ⟨⟨fn,hfn,hbody,hname⟩,hcall⟩:=ha
  have hall:=hcall φ ι w (u ++ as.toList.map a.eval ++ v) ((hu.append hargs).append hv) h1
  have hrun:(execOp a.eval o).run P w = .ok (.enter fid (u ++ as.toList.map a.eval ++ v).toArray) w:=by
   unfold execOp
   have hb:fn.body.isNone=false:=by cases hfb:fn.body <;> simp_all
   have harr:(u.toArray ++ Array.map a.eval as) ++ v.toArray=(u ++ as.toList.map a.eval ++ v).toArray:=by
    apply Array.ext'; simp
   have hname':¬ fn.name = "runtime.NumGoroutine" := by simpa using hname
   simp only [hop,resolve,hev,Deferred.ofValue,Sem.run_bind,Sem.run_pure,Result.andThen_ok,invoke,callFunc,run_program,hfn,hname,hb,Bool.false_eq_true,if_false,harr]
  unfold Oper.wp
  rw [hrun]
  show Calls P fid _ w _
  refine hall.mono fun e w' ⟨c,v',φ',ι',σ',he,g1,g2,g3,g4⟩=>?_
  subst he
  exact hn v' c φ' ι' σ' w' g1 g2 g3 g4
 ·exact ha.elim

theorem isn_sound {t e:TypeId} {op:BinOp} {ox oy:Operand} {x:PV} {u:Value} {K:Bool→Prop} (ng:Bool) (hu:P.underlying t=some (.slice e)) (hop:op=if ng=true then .neq else .eql) (hx:Rel φ ι x u) (h:aIsn x K) :
  ∃ b,(do eqGuard op t ox oy u (.slice none 0 0); binOp op t u (.slice none 0 0):Sem Value).calm P w=some (.bool (if ng=true then !b else b))∧K b:=by
 have hg:(eqGuard op t ox oy u (.slice none 0 0)).calm P w=some ():=by
  unfold eqGuard; split <;> simp
 have key:∀ (a:Option Addr) (l c:Nat),u = .slice a l c→(do eqGuard op t ox oy u (.slice none 0 0); binOp op t u (.slice none 0 0):Sem Value).calm P w=some (.bool (if ng=true then !a.isNone else a.isNone)):=fun a l c e=>by
  subst e
  have he:(Op.equal t (.slice a l c) (.slice none 0 0)).calm P w=some a.isNone:=by
   unfold Op.equal Op.maxDepth Op.equalIn
   cases a <;> simp [calm_underlying hu]
  simp only [calm_bind,hg,Option.bind_some]
  cases ng <;> simp at hop <;> subst hop <;> simp [binOp,he]
 unfold aIsn at h
 split at h
 ·exact ⟨true,key none 0 0 hx.nils_inv,h⟩
 ·cases hx with
  | list0 cap a=>exact ⟨false,key _ _ _ rfl,h.2⟩
  | listn=>exact ⟨true,key _ _ _ rfl,h.1⟩
  | list _ esz b o len cap C hl hc hb hsz g hg' hh=>exact ⟨false,key _ _ _ rfl,h.2⟩
 ·cases hx with
  | list _ esz b o len cap C hl hc hb hsz g hg' hh=>exact ⟨false,key _ _ _ rfl,h⟩
 ·exact h.elim
theorem slA_sound {t e:TypeId} {len n:Nat} {x:PV} {v:Value} {hv:Option Value} {K:PV→Prop} (ho:HOK φ ι σ w) (hu:P.underlying t=some (.array len e)) (hs:szT P e=some 1) (hr:Rel φ ι x v) (hpos:0<len) (hn:n≤len)
  (hh:(hv=none∧n=len)∨∃ k,hv=some (.int k n)) (h:aSlA len x n K):∃ c r,(Instr.sliceAt t v none hv none).calm P w=some r∧Rel φ ι c r∧K c:=by
 have key:∀ (b o:Nat),(Instr.sliceAt t (.pointer (some ⟨b,o,none⟩)) none hv none).calm P w=some (.slice (some ⟨b,o,none⟩) n len):=fun b o=>by
  have hz:(⟨b,o,none⟩:Addr).add 0=⟨b,o,none⟩:=by simp [Addr.add]
  have hne:¬ len=0:=by omega
  rcases hh with ⟨rfl,rfl⟩ | ⟨k,rfl⟩
  ·simp only [Instr.sliceAt,calm_bind,calm_underlying hu,Option.bind_some,Instr.sureAddr,calm_pure,Instr.sliceBounds,szT_calm hs]
   simp [hne,hz]
  ·have hb:=bound_run (P:=P) (w:=w) (k:=k) (n:=(n:Int)) (y:=len) (code:=.sliceAlen) (by omega) (by omega)
   simp only [Instr.sliceAt,calm_bind,calm_underlying hu,Option.bind_some,Instr.sureAddr,calm_pure,Instr.sliceBounds,szT_calm hs]
   simp [hb,hne,hz]
 unfold aSlA at h
 split at h
 ·rename_i id off
  obtain ⟨b,hb,rfl⟩:=hr.ptr_inv
  exact ⟨_,_,key b off,.bref id off n b len hb hn,h⟩
 ·rename_i cs off
  obtain ⟨hle,hK⟩:=h
  cases hr with
  | fptr _ _ b o C hb hok g hg hh' =>
   refine ⟨_,_,key b (o+off),?_,hK⟩
   have hcs1:∀ c∈cs,c.cs = [c]:=fun c hc=>by
    have:=List.all_eq_true.1 hok c hc
    cases c <;> simp [PV.ok] at this <;> rfl
   have hmem:∀ (i:Nat) (y:PV),((cs.drop off).take n)[i]? = some y→cs[off+i]? = some y:=fun i y hy=>by
    rw [List.getElem?_take] at hy
    split at hy
    ·rw [List.getElem?_drop] at hy; exact hy
    ·cases hy
   refine .list _ 1 b (o+off) n len C (by simp; omega) hn hb (fun i y hy=>?_) (fun i j=>g (off+i)) (fun i y j c hy hc=>?_) (fun i y j c hy hc=>?_)
   ·have h1:=List.mem_of_getElem? (hmem i y hy)
    rw [hcs1 y h1]
    exact ⟨rfl,by simpa using List.all_eq_true.1 hok y h1⟩
   ·have h0:=hmem i y hy
    rw [hcs1 y (List.mem_of_getElem? h0)] at hc
    have hj:j=0∧c=y:=by
     cases j with
     | zero=>simp at hc; exact ⟨rfl,hc.symm⟩
     | succ j=>simp at hc
    obtain ⟨rfl,rfl⟩:=hj
    have:=hg _ _ h0
    rw [show o+off+i * 1+0=o+(off+i) by omega]; exact this
   ·have h0:=hmem i y hy
    rw [hcs1 y (List.mem_of_getElem? h0)] at hc
    have hj:j=0∧c=y:=by
     cases j with
     | zero=>simp at hc; exact ⟨rfl,hc.symm⟩
     | succ j=>simp at hc
    obtain ⟨rfl,rfl⟩:=hj
    exact hh' _ _ h0
 ·exact h.elim
theorem zeroCells_get (zero:Array Value) (n k:Nat) (h:k<n * zero.size):(Builtin.zeroCells zero n).toList[k]? = some zero[k % zero.size]!:=by
 simp [Builtin.zeroCells,h]
theorem zeroCells_size (zero:Array Value) (n:Nat):(Builtin.zeroCells zero n).size=n * zero.size:=by simp [Builtin.zeroCells]
theorem apn_sound {t t' ty e:TypeId} {kk:IntKind} {i:TypeInfo} {z:Value} {zs:List PV} {zp:PV} (ho:HOK φ ι σ w) (ht:P.underlying t=some (.slice e)) (ht':P.underlying t'=some (.int kk)) (hi:P.info? e=some i) (hz:i.zero=some z) (hzs:cvs z.cells.toList=some zs) (hl:i.size=zs.length) (hpos:i.size≠0) (hb:¬ 32768<i.bytes)
  (hzp:zp.cs=zs) (hzok:zs.all PV.ok=true) {s:PV} {u:Value} (hs:Rel φ ι s u) {k:IntKind} {n:Int} {K:PV→Heap→Prop} (h:aApn e i.size zp s n σ K) :
  ∃ c r w' ι' σ',(Builtin.append_ #[t,t'] ty #[u,.int k n]).run P w = .ok r w'∧Rel φ ι' c r∧Tr σ.length φ ι w φ ι' w'∧HOK φ ι' σ' w'∧K c σ':=by
 unfold aApn at h
 split at h
 ·obtain rfl:=hs.nils_inv
  obtain ⟨⟨h0,h2⟩,hz0,hz1⟩:=h
  have hw:IntKind.i64.wrap n=n:=wrap_i64_of (by omega) (by omega)
  have hnl:¬ n<0:=by omega
  have hzl:z.cells.size=i.size:=by rw [hl,(cvs_rel φ ι hzs).1]; simp
  have hbytes:¬ (281474976710656<n * i.bytes):=by
   have h3:(i.bytes:Int)≤32768:=by omega
   have:=Int.mul_le_mul h2 h3 (by omega) (by omega)
   omega
  by_cases hn0:n=0
  ·subst hn0
   refine ⟨_,_,w,ι,σ,?_,.nils,.refl _ _ _ _,ho,hz0 rfl⟩
   simp [Builtin.append_,run_underlying ht,run_underlying ht',sizeOf,typeInfo,zeroValue,hi,hz,hw,asInt,asIntOf]
  ·have hp:0<n:=by omega
   obtain ⟨m,rfl⟩:∃ m:Nat,n=m:=⟨n.toNat,by omega⟩
   have hm0:¬ m=0:=by omega
   have h63':¬ (9223372036854775807<(m:Int)):=by omega
   have h48':¬ (281474976710656<Builtin.nextslicecap m 0 * i.bytes):=by rw [nextslicecap_zero (by omega)]; omega
   have hcap:=grownCap_ge w m 0 e
   have hcm:=grownCap_le_maxLen w m 0 e (by simp only [maxLen]; omega)
   have hsz0:¬ m * i.size=0:=by
    intro h; rcases Nat.mul_eq_zero.1 h with h | h
    ·exact hm0 h
    ·exact hpos h
   have hrun:(Builtin.append_ #[t,t'] ty #[.slice none 0 0,.int k (m:Int)]).run P w = .ok (.slice (some ⟨w.heap.size,0,none⟩) m (grownCap w m 0 e)) (w.drew.alloc (.cells (Builtin.zeroCells z.cells m ++ Builtin.zeroCells z.cells (grownCap w m 0 e - m)) e)):=by
    simp [Builtin.append_,run_underlying ht,run_underlying ht',sizeOf,typeInfo,zeroValue,hi,hz,hw,asInt,asIntOf,hm0,h63',h48',Question.forced,run_firstCells_none,newRow,grownCap,hsz0,hbytes,hnl]
   have hok:okL i.size (List.replicate m zp):=fun y hy=>by
    rw [List.eq_of_mem_replicate hy,hzp]; exact ⟨hl.symm,hzok⟩
   have hC:(Builtin.zeroCells z.cells m ++ Builtin.zeroCells z.cells (grownCap w m 0 e - m)).size=grownCap w m 0 e * i.size:=by
    rw [Array.size_append,zeroCells_size,zeroCells_size,hzl,← Nat.add_mul,Nat.add_sub_cancel' hcap]
   have htk:(Builtin.zeroCells z.cells m ++ Builtin.zeroCells z.cells (grownCap w m 0 e - m)).toList.take (m * i.size)=(Builtin.zeroCells z.cells m).toList:=by
    rw [Array.toList_append]
    have:(Builtin.zeroCells z.cells m).toList.length=m * i.size:=by rw [Array.length_toList,zeroCells_size,hzl]
    rw [← this,List.take_left]
   have hown:=ownsRow_new w.drew _ e i.size m (grownCap w m 0 e) _ hC htk hcap hcm
   have hzR:=cvs_rel φ ι hzs
   have hRL:RelL φ ι (flat (List.replicate m zp)) (Builtin.zeroCells z.cells m).toList:=by
    refine ⟨?_,fun q c u hc hu=>?_⟩
    ·rw [flat_length (okL_len hok),List.length_replicate,Array.length_toList,zeroCells_size,hzl]
    ·have hkl:=(List.getElem?_eq_some_iff.1 hc).1
     rw [flat_length (okL_len hok),List.length_replicate] at hkl
     rw [zeroCells_get _ _ _ (by rw [hzl]; exact hkl)] at hu
     rw [flat_idx (Nat.pos_of_ne_zero hpos) _ (okL_len hok)] at hc
     have hdl:q / i.size<m:=(Nat.div_lt_iff_lt_mul (Nat.pos_of_ne_zero hpos)).2 hkl
     rw [List.getElem?_replicate,if_pos hdl] at hc
     simp only [Option.bind_some,hzp] at hc
     refine hzR.2 (q % i.size) c u hc ?_
     have hml:q % i.size<z.cells.size:=by rw [hzl]; exact Nat.mod_lt _ (Nat.pos_of_ne_zero hpos)
     simp only [Option.some.injEq] at hu
     rw [← hu,hzl]
     rw [getElem!_pos z.cells (q % i.size) hml]
     simp [hml]
   have hd:HOK φ ι σ w.drew:=ho.drew
   obtain ⟨g1,g2,g3⟩:=push_row hd (Nat.pos_of_ne_zero hpos) (by simp) (xs:=List.replicate m zp) hRL hok hown hcap
   have:=hz1 hp
   rw [Int.toNat_natCast] at this
   exact ⟨_,_,_,_,_,hrun,g3,(Tr.drew _ _ _ _).trans g2,g1,this⟩
 ·exact h.elim
theorem aSrc_sound (ho:HOK φ ι σ w) {x:PV} {v:Value} (hr:Rel φ ι x v) {K:List PV→Prop} (h:aSrc x σ K) :
  ∃ ns,K ns∧okL 1 ns∧((v = .slice none 0 0∧ns = [])∨∃ a cap,v = .slice (some a) ns.length cap∧(ns = []∨a.spot=none)∧CellsAt φ ι w a.block a.off (flat ns)):=by
 unfold aSrc at h
 split at h
 ·rename_i id off len
  split at h
  ·rename_i cs hs
   obtain ⟨hle,hK⟩:=h
   cases hr with
   | bref _ _ _ b cap hb hc =>
    obtain ⟨b',hb',C,e,hC,hR,hok⟩:=box_open ho hs
    rw [hb] at hb'; cases hb'
    have hcs1:∀ c∈cs,c.cs = [c]:=fun c hc=>by
     have:=List.all_eq_true.1 hok c hc
     cases c <;> simp [PV.ok] at this <;> rfl
    have hlen:((cs.drop off).take len).length=len:=by simp; omega
    have hokL:okL 1 ((cs.drop off).take len):=fun y hy=>by
     have h1:y∈cs:=List.mem_of_mem_drop (List.mem_of_mem_take hy)
     rw [hcs1 y h1]
     exact ⟨rfl,by simpa using List.all_eq_true.1 hok y h1⟩
    have hfl:∀ l:List PV,(∀ y∈l,y.cs = [y])→flat l=l:=by
     intro l
     induction l with
     | nil=>intro _; rfl
     | cons a l ih=>intro h; rw [flat_cons,h a (by simp),ih fun y hy=>h y (by simp [hy])]; rfl
    refine ⟨_,hK,hokL,.inr ⟨⟨b,off,none⟩,cap,by rw [hlen],.inr rfl,?_⟩⟩
    rw [hfl _ fun y hy=>hcs1 y (List.mem_of_mem_drop (List.mem_of_mem_take hy))]
    refine ⟨?_,_,(hR.drop off).take len,fun j u hj=>?_⟩
    ·rw [List.all_eq_true] at hok ⊢
     exact fun c hc=>hok c (List.mem_of_mem_drop (List.mem_of_mem_take hc))
    ·rw [List.getElem?_take] at hj
     split at hj
     ·rw [List.getElem?_drop] at hj
      simp only [World.cell?,hC]
      simpa using hj
     ·cases hj
  ·exact h.elim
 ·exact aNews_sound ho (by omega) hr h
theorem flat_take1 {ns:List PV} (h:okL 1 ns) (k:Nat):flat (ns.take k)=(flat ns).take k:=by
 have:=flat_take (s:=1) ns (okL_len h) k
 rwa [Nat.mul_one] at this
theorem cpy_sound {t t' ty e:TypeId} {d s:PV} {u v:Value} {K:PV→Heap→Prop} (h:HOK φ ι σ w) (hu:P.underlying t=some (.slice e)) (hs:szT P e=some 1) (hd:Rel φ ι d u) (hv:Rel φ ι s v) (ha:aCpy d s σ K) :
  ∃ c r w' ι' σ',(Builtin.copy_ #[t,t'] ty #[u,v]).run P w = .ok r w'∧Rel φ ι' c r∧Tr σ.length φ ι w φ ι' w'∧HOK φ ι' σ' w'∧K c σ':=by
 unfold aCpy at ha
 split at ha
 ·rename_i id off len
  split at ha
  ·rename_i cs hbx
   cases hd with
   | bref _ _ _ b cap hb hc =>
    obtain ⟨ns,⟨hle,hK⟩,hok,hcase⟩:=aSrc_sound h hv ha
    obtain ⟨b',hb',C,e2,hC,hR,hcok⟩:=box_open h hbx
    rw [hb] at hb'; cases hb'
    have hCl:cs.length=C.size:=by simpa using hR.1
    have hfl:(flat ns).length=ns.length:=by rw [flat_length (okL_len hok),Nat.mul_one]
    -- the cells that go over
    obtain ⟨us,hus,hul,hrel⟩:∃ us:List Value,(Builtin.firstCells 1 (Nat.min ns.length len) v).run P w = .ok us.toArray w∧(Builtin.lenOf v).run P w = .ok ns.length w∧RelL φ ι (flat (ns.take len)) us:=by
     rcases hcase with ⟨rfl,rfl⟩ | ⟨a,cap',rfl,hsp,hok2,vs,hRv,hcell⟩
     ·exact ⟨[],by simp [Builtin.firstCells],by simp [Builtin.lenOf],by simpa using RelL.nil _ _⟩
     ·refine ⟨vs.take len,?_,by simp [Builtin.lenOf],?_⟩
      ·have hvl:vs.length=ns.length:=by rw [← hRv.1,hfl]
       have hl:=run_loadCells_list (P:=P) w a (vs.take len) (fun j q hj=>by
        rw [List.getElem?_take] at hj
        split at hj
        ·rcases hsp with h0 | h0
         ·rw [h0] at hvl
          have:vs = []:=List.eq_nil_of_length_eq_zero (by simpa using hvl)
          rw [this] at hj; simp at hj
         ·obtain ⟨ab,ao,as⟩:=a
          simp at h0; subst h0
          rw [addr_add]; exact hcell j q hj
        ·cases hj)
       have hmin:Nat.min ns.length len=(vs.take len).length:=by rw [List.length_take,hvl]; exact Nat.min_comm _ _
       simp only [Builtin.firstCells,Nat.mul_one]
       rw [hmin]; exact hl
      ·rw [flat_take1 hok]; exact hRv.take len
    have hlen2:us.length=min ns.length len:=by
     rw [← hrel.1,flat_take1 hok,List.length_take,hfl,Nat.min_comm]
    have hokf:(flat (ns.take len)).all PV.ok=true:=okL_flat fun y hy=>hok y (List.mem_of_mem_take hy)
    have hone:=oneCells hrel hokf
    have hst:=run_storeCells_at P b off e2 us 0 C w hC (by rw [hlen2]; omega) hone
    simp only [Nat.add_zero] at hst
    have hrun:(Builtin.copy_ #[t,t'] ty #[.slice (some ⟨b,off,none⟩) len cap,v]).run P w = .ok (.int .i64 (min ns.length len:Nat)) (w.setRow b (C.toList.take off ++ us ++ C.toList.drop (off+us.length)).toArray):=by
     simp only [Builtin.copy_]
     simp [run_underlying hu,hul,hus,szT_run hs,hst,goInt]
    have hle2:off+(flat (ns.take len)).length≤cs.length:=by rw [hrel.1,hlen2]; omega
    have hsame:ι.set id (KLoc.box b) = ι:=by
     apply List.ext_getElem?; intro j
     by_cases e1:id=j
     ·subst e1; rw [List.getElem?_set_self (List.getElem?_eq_some_iff.1 hb).1,hb]
     ·rw [List.getElem?_set_ne e1]
    have hOK:ObjOK φ (ι.set id (.box b)) (w.setRow b (C.toList.take off ++ us ++ C.toList.drop (off+us.length)).toArray) (.box (putC cs off (flat (ns.take len)))) (.box b):=by
     rw [hsame]
     exact ⟨_,e2,setRow_heap w b C _ e2 (0,0) hC,by simpa using putC_rel hR hrel hle2,putC_ok hcok hokf⟩
    have hup:=h.upd (w':=w.setRow b _) (o:=.box (putC cs off (flat (ns.take len)))) hb (KLoc.le_refl _) (by simp) (fun k hk hk'=>setRow_other w b k _ (fun e1=>hk' (by simp [KLoc.block,e1])))
     (fun k hk=>.inl hk) (fun k hk=>by simp [KLoc.block] at hk; subst hk; simpa using heap_lt hC) hOK
    exact ⟨_,_,_,_,_,hrun,.int _ _,Tr.upd _ hb hup.2 (by simp) (fun k hk hk'=>setRow_other w b k _ (fun e1=>hk' (by simp [KLoc.block,e1]))) (fun k hk=>.inl hk) rfl rfl rfl,hup.1,hK⟩
  ·exact ha.elim
 ·exact ha.elim
def quietP:KP→Bool
 | .alloc _ | .box .. | .store .. | .call .. | .pcall .. | .app .. | .mks .. | .bsl .. | .build .. | .clr .. | .apn .. | .cpy ..=>false
 | _=>true
def KQ (b:Bool) (x:Option KP):Prop:=∀ p,x=some p→quietP p=b
theorem KQ.none (b:Bool):KQ b none:=fun _ h=>by cases h
theorem KQ.some {b:Bool} {p:KP} (h:quietP p=b):KQ b (some p):=fun _ e=>by cases e; exact h
theorem KQ.bind {α:Type} {b:Bool} {x:Option α} {f:α→Option KP} (h:∀ a,KQ b (f a)):KQ b (x >>= f):=fun p e=>by
 cases x with
 | none=>cases e
 | some a=>exact h a p e
theorem KQ.map {α:Type} {b:Bool} {x:Option α} {f:α→KP} (h:∀ a,quietP (f a)=b):KQ b (x.map f):=fun p e=>by
 cases x with
 | none=>cases e
 | some a=>cases e; exact h a
theorem KQ.trNil (op:BinOp) (x y:Operand):KQ true (trNil op x y):=by
 unfold Kv.trNil
 split
 ·split
  ·exact KQ.map fun _=>rfl
  ·exact KQ.map fun _=>rfl
  ·exact KQ.none _
 ·exact KQ.none _
def CalmTo (P:Program) (a:Act) (w:World) (φ:Frz) (ι:List KLoc) (σ:Heap) (o:Oper) (K:PV→Heap→Prop):Prop:=∃ v c,(execOp a.eval o).calm P w=some (.value v)∧Rel φ ι c v∧K c σ

set_option maxHeartbeats 1000000 in
theorem op_calm {o:Oper} {fz:List Nat} {p:KP} (h:trOp P fz o.dst o.op=some p) (hq:quietP p=true) {K:PV→Heap→Prop} (ha:aOp P p env σ K) (h1:HOK φ ι σ w) (h2:EOK N φ ι env a):CalmTo P a w φ ι σ o K:=by
 unfold trOp at h
 split at h
 ·-- move
  rename_i x hop
  simp only [Option.map_eq_some_iff] at h; obtain ⟨y,hy,rfl⟩:=h
  exact ⟨_,_,(by simp [execOp,hop]),(trX_rel h2 hy),ha⟩
 ·rename_i x hop
  simp only [Option.map_eq_some_iff] at h; obtain ⟨y,hy,rfl⟩:=h
  exact ⟨_,_,(by simp [execOp,hop]),(trX_rel h2 hy),ha⟩
 ·-- pick
  rename_i c x y hop
  simp only [Option.bind_eq_bind,Option.bind_eq_some_iff,Option.some.injEq] at h
  obtain ⟨c',hc,x',hx,y',hy,rfl⟩:=h
  simp only [aOp] at ha
  split at ha
  ·rename_i t ht
   have hcr:=trX_rel h2 hc
   rw [ht] at hcr
   have he:=hcr.bool_inv
   cases t with
   | true=>exact ⟨_,_,(by simp [execOp,hop,he,asBool]),(trX_rel h2 hx),(ha.1 rfl)⟩
   | false=>exact ⟨_,_,(by simp [execOp,hop,he,asBool]),(trX_rel h2 hy),(ha.2 rfl)⟩
  ·exact ha.elim
 ·exact absurd ((by repeat' (first | exact KQ.none _ | exact KQ.some rfl | exact KQ.map fun _=>rfl | refine KQ.bind fun _=>?_ | split):KQ false _) _ h) (by simp [hq])
 ·exact absurd ((by repeat' (first | exact KQ.none _ | exact KQ.some rfl | exact KQ.map fun _=>rfl | refine KQ.bind fun _=>?_ | split):KQ false _) _ h) (by simp [hq])
 ·-- load
  rename_i t x hop
  simp only [Option.bind_eq_bind,Option.bind_eq_some_iff,Option.some.injEq] at h
  obtain ⟨g,hg,n,hnn,y,hy,rfl⟩:=h
  obtain ⟨u,c,g1,g2,g3⟩:=load_sound h1 hg hnn (trX_rel h2 hy) ha
  exact ⟨_,_,(by simp [execOp,hop,g1]),g2,g3⟩
 ·exact absurd ((by repeat' (first | exact KQ.none _ | exact KQ.some rfl | exact KQ.map fun _=>rfl | refine KQ.bind fun _=>?_ | split):KQ false _) _ h) (by simp [hq])
 ·-- nilCheck
  rename_i x hop
  simp only [Option.bind_eq_bind,Option.bind_eq_some_iff,Option.some.injEq] at h
  obtain ⟨y,hy,rfl⟩:=h
  have hr:=trX_rel h2 hy
  simp only [aOp] at ha
  split at ha
  ·rename_i id off e
   rw [e] at ha hr
   obtain ⟨b,hb,hv⟩:=hr.ptr_inv
   exact ⟨.pointer (some ⟨b,off,none⟩),_,(by simp [execOp,hop,hv]),(hv ▸ hr),ha⟩
  ·rename_i cs off e
   rw [e] at ha hr
   obtain ⟨b,o',hv,_⟩:=fptr_cells h1 hr
   exact ⟨.pointer (some ⟨b,o'+off,none⟩),_,(by simp [execOp,hop,hv]),(hv ▸ hr),ha⟩
  ·rename_i f b c e
   rw [e] at ha hr
   obtain ⟨u,v,hv,_⟩:=hr.fn_inv
   exact ⟨.func (.func f) u.toArray v.toArray,_,(by simp [execOp,hop,hv]),(hv ▸ hr),ha⟩
  ·rename_i id ver i off e
   rw [e] at hr
   obtain ⟨b,o',c,hv,_,hk⟩:=aAt_sound h1 hr ha
   exact ⟨.pointer (some ⟨b,o',none⟩),_,(by simp [execOp,hop,hv]),(hv ▸ hr),hk⟩
  ·exact ha.elim
 ·-- binOp
  rename_i op t x y ty hop
  simp only [Option.bind_eq_bind,Option.bind_eq_some_iff] at h
  obtain ⟨d,hd,h⟩:=h
  have plain:∀ x' y',trX x=some x'→trX y=some y'→aOp P (.bin op x' y') env σ K→CalmTo P a w φ ι σ o K:=fun x' y' hx hy ha=>by
   obtain ⟨c,r,g1,g2,g3⟩:=aBin_sound (P:=P) (w:=w) (op:=op) (t:=t) (ox:=x) (oy:=y) (trX_rel h2 hx) (trX_rel h2 hy) ha
   exact ⟨_,_,(by simp only [execOp,hop,calm_bind] at g1 ⊢; rw [g1]; rfl),g2,g3⟩
  have bools:∀ ng x' y',P.underlying t=some .bool→(op=if ng=true then .neq else .eql)→trX x=some x'→trX y=some y'→aOp P (.beq ng x' y') env σ K→CalmTo P a w φ ι σ o K:=fun ng x' y' ht hoo hx hy ha=>by
   simp only [aOp] at ha
   split at ha
   ·rename_i p q e1 e2
    have r1:=trX_rel h2 hx
    have r2:=trX_rel h2 hy
    rw [e1] at r1; rw [e2] at r2
    have g1:=beq_sound (P:=P) (w:=w) (op:=op) (t:=t) (ox:=x) (oy:=y) (a:=p) (b:=q) ng ht hoo
    refine ⟨_,_,?_,(.bool _),ha⟩
    simp only [execOp,hop,r1.bool_inv,r2.bool_inv,calm_bind] at g1 ⊢
    rw [g1]; rfl
   ·exact ha.elim
  split at h
  ·simp only [Option.bind_eq_some_iff,Option.some.injEq] at h
   obtain ⟨x',hx,y',hy,rfl⟩:=h
   exact plain x' y' hx hy ha
  ·simp only [Option.bind_eq_some_iff,Option.some.injEq] at h
   obtain ⟨x',hx,y',hy,rfl⟩:=h
   exact plain x' y' hx hy ha
  ·split at h
   ·simp only [Option.bind_eq_some_iff,Option.some.injEq] at h
    obtain ⟨x',hx,y',hy,rfl⟩:=h
    exact bools false x' y' hd rfl hx hy ha
   ·simp only [Option.bind_eq_some_iff,Option.some.injEq] at h
    obtain ⟨x',hx,y',hy,rfl⟩:=h
    exact bools true x' y' hd rfl hx hy ha
   ·cases h
  ·-- struct
   rename_i fs
   simp only [Option.bind_eq_bind,Option.bind_eq_some_iff] at h
   obtain ⟨n,hc,h⟩:=h
   have hag:isAggT P t=some true:=by simp [isAggT,hd]
   split at h
   ·cases h
   ·rename_i hgt
    have aggs:∀ ng x' y',(op=if ng=true then .neq else .eql)→trX x=some x'→trX y=some y'→aOp P (.aeq ng n x' y') env σ K→CalmTo P a w φ ι σ o K:=fun ng x' y' hoo hx hy ha=>by
     simp only [aOp] at ha
     split at ha
     ·rename_i p q e1 e2
      obtain ⟨xs,ys,rfl,rfl,⟨l1,l2⟩,ha⟩:=ha
      have r1:=trX_rel h2 hx
      have r2:=trX_rel h2 hy
      rw [e1] at r1; rw [e2] at r2
      obtain ⟨u,hu,hu2,_⟩:=r1.agg_inv
      obtain ⟨v,hv,hv2,_⟩:=r2.agg_inv
      have g1:=aeq_calm (P:=P) (w:=w) ng hoo hc (by simpa using hgt) hag x y xs ys l1 l2
      refine ⟨_,_,?_,(.bool _),ha⟩
      simp only [execOp,hop,hu,hv,ints_rel hu2,ints_rel hv2,calm_bind] at g1 ⊢
      rw [g1]; rfl
     ·exact ha.elim
    split at h
    ·simp only [Option.bind_eq_some_iff,Option.some.injEq] at h
     obtain ⟨x',hx,y',hy,rfl⟩:=h
     exact aggs false x' y' rfl hx hy ha
    ·simp only [Option.bind_eq_some_iff,Option.some.injEq] at h
     obtain ⟨x',hx,y',hy,rfl⟩:=h
     exact aggs true x' y' rfl hx hy ha
    ·cases h
  ·-- slice and nil
   rename_i e
   unfold trNil at h
   split at h
   ·rename_i hy
    obtain rfl:y = .const (.slice none 0 0):=by
     unfold isNilC at hy; split at hy
     ·rfl
     ·cases hy
    split at h
    ·simp only [Option.map_eq_some_iff] at h
     obtain ⟨x',hx,rfl⟩:=h
     obtain ⟨b,g1,g2⟩:=isn_sound (P:=P) (w:=w) (op:=.eql) (ox:=x) (oy:=.const (.slice none 0 0)) (K:=fun b=>K (.bool (if false=true then !b else b)) σ) false hd rfl (trX_rel h2 hx) ha
     refine ⟨_,_,?_,(.bool _),g2⟩
     simp only [execOp,hop,calm_bind] at g1 ⊢
     rw [show a.eval (.const (.slice none 0 0)) = .slice none 0 0 from rfl,g1]; rfl
    ·simp only [Option.map_eq_some_iff] at h
     obtain ⟨x',hx,rfl⟩:=h
     obtain ⟨b,g1,g2⟩:=isn_sound (P:=P) (w:=w) (op:=.neq) (ox:=x) (oy:=.const (.slice none 0 0)) (K:=fun b=>K (.bool (if true=true then !b else b)) σ) true hd rfl (trX_rel h2 hx) ha
     refine ⟨_,_,?_,(.bool _),g2⟩
     simp only [execOp,hop,calm_bind] at g1 ⊢
     rw [show a.eval (.const (.slice none 0 0)) = .slice none 0 0 from rfl,g1]; rfl
    ·cases h
   ·cases h
  ·cases h
 ·-- not
  rename_i t x hop
  simp only [Option.bind_eq_bind,Option.bind_eq_some_iff,Option.some.injEq] at h
  obtain ⟨y,hy,rfl⟩:=h
  simp only [aOp] at ha
  split at ha
  ·rename_i b e
   have hr:=trX_rel h2 hy
   rw [e] at hr
   exact ⟨.bool (!b),_,(by simp [execOp,hop,hr.bool_inv,Op.unary]),(.bool _),ha⟩
  ·exact ha.elim
 ·-- neg
  rename_i t x hop
  simp only [Option.bind_eq_bind,Option.bind_eq_some_iff,Option.some.injEq] at h
  obtain ⟨y,hy,rfl⟩:=h
  simp only [aOp] at ha
  split at ha
  ·rename_i k n e
   have hr:=trX_rel h2 hy
   rw [e] at hr
   exact ⟨.int k (k.wrap (0 - n)),_,(by simp [execOp,hop,hr.int_inv,Op.unary,Op.intArith]),(.int _ _),(aWrap_sound ha)⟩
  ·exact ha.elim
 ·-- convert
  rename_i s t x hop
  simp only [Option.bind_eq_bind,Option.bind_eq_some_iff] at h
  obtain ⟨ds,hds,d,hd,h⟩:=h
  split at h
  ·simp only [Option.bind_eq_some_iff,Option.some.injEq] at h
   obtain ⟨y,hy,rfl⟩:=h
   obtain ⟨c,r,g1,g2,g3⟩:=aConv_sound (w:=w) (K:=fun v=>K v σ) hds hd (trX_rel h2 hy) ha
   exact ⟨_,_,(by simp only [execOp,hop,calm_bind,g1,Option.bind_some,calm_pure]),g2,g3⟩
  ·cases h
 ·-- fieldAddr
  rename_i t x f hop
  simp only [Option.bind_eq_bind,Option.bind_eq_some_iff] at h
  obtain ⟨d,hd,h⟩:=h
  split at h
  ·rename_i fs
   simp only [Option.bind_eq_some_iff] at h
   obtain ⟨fd,hfd,n,hnn,h⟩:=h
   split at h
   ·cases h
   ·rename_i hpos
    simp only [Option.bind_eq_some_iff,Option.some.injEq] at h
    obtain ⟨y,hy,rfl⟩:=h
    obtain ⟨c,r,g1,g2,g3⟩:=fieldA_sound (K:=fun v=>K v σ) h1 hd hfd hnn hpos (trX_rel h2 hy) ha
    exact ⟨_,_,(by simp [execOp,hop,g1]),g2,g3⟩
  ·cases h
 ·-- field
  rename_i t x f hop
  simp only [Option.bind_eq_bind,Option.bind_eq_some_iff] at h
  obtain ⟨d,hd,h⟩:=h
  split at h
  ·rename_i fs
   simp only [Option.bind_eq_some_iff,Option.some.injEq] at h
   obtain ⟨fd,hfd,g,hg,n,hnn,y,hy,rfl⟩:=h
   simp only [aOp] at ha
   split at ha
   ·rename_i cs e
    have hr:=trX_rel h2 hy
    rw [e] at hr
    obtain ⟨vs,hv,hR,hok⟩:=hr.agg_inv
    obtain ⟨c,r,g1,g2,g3⟩:=part_sound (w:=w) hg hnn hR hok ha
    refine ⟨_,_,?_,g2,g3⟩
    simp [execOp,hop,hv,Instr.field,calm_underlying hd,hfd,asAgg,g1]
   ·exact ha.elim
  ·cases h
 ·-- indexAddr
  rename_i t x i hop
  simp only [Option.bind_eq_bind,Option.bind_eq_some_iff] at h
  obtain ⟨d,hd,h⟩:=h
  split at h
  ·simp only [Option.bind_eq_some_iff,Option.some.injEq] at h
   obtain ⟨esz,hsz,x',hx,i',hi,rfl⟩:=h
   simp only [aOp] at ha
   split at ha
   ·rename_i n e
    obtain ⟨k,hk⟩:=intOf_inv (trX_rel h2 hi) e
    obtain ⟨⟨h3,h4⟩,h5⟩:=ha
    obtain ⟨c,r,g1,g2,g3⟩:=idxA_sound (k:=k) h1 hd hsz (trX_rel h2 hx) h3 h4 h5
    exact ⟨_,_,(by simp [execOp,hop,hk,g1]),g2,g3⟩
   ·exact ha.elim
  ·simp only [Option.bind_eq_some_iff,Option.some.injEq] at h
   obtain ⟨esz,hsz,x',hx,i',hi,rfl⟩:=h
   simp only [aOp] at ha
   split at ha
   ·rename_i n e
    obtain ⟨k,hk⟩:=intOf_inv (trX_rel h2 hi) e
    obtain ⟨c,r,g1,g2,g3⟩:=idxS_sound (k:=k) h1 hd hsz (trX_rel h2 hx) ha
    exact ⟨_,_,(by simp [execOp,hop,hk,g1]),g2,g3⟩
   ·exact ha.elim
  ·cases h
 ·-- index
  rename_i t x i hop
  simp only [Option.bind_eq_bind,Option.bind_eq_some_iff] at h
  obtain ⟨d,hd,h⟩:=h
  split at h
  ·rename_i len e
   simp only [Option.bind_eq_some_iff,Option.some.injEq] at h
   obtain ⟨esz,hsz,g,hg,x',hx,i',hi,rfl⟩:=h
   simp only [aOp] at ha
   split at ha
   ·rename_i n cs e1 e2
    obtain ⟨k,hk⟩:=intOf_inv (trX_rel h2 hi) e1
    obtain ⟨⟨h3,h4⟩,h5⟩:=ha
    have hr:=trX_rel h2 hx
    rw [e2] at hr
    obtain ⟨vs,hv,hR,hok⟩:=hr.agg_inv
    obtain ⟨c,r,g1,g2,g3⟩:=part_sound (w:=w) hg hsz hR hok h5
    refine ⟨_,_,?_,g2,g3⟩
    simp [execOp,hop,hv,hk,Instr.index,asIntOf,calm_underlying hd,h3,h4,szT_calm hsz,g1]
   ·exact ha.elim
  ·simp only [Option.bind_eq_some_iff,Option.some.injEq] at h
   obtain ⟨x',hx,i',hi,rfl⟩:=h
   simp only [aOp] at ha
   split at ha
   ·rename_i n s e1 e2
    obtain ⟨k,hk⟩:=intOf_inv (trX_rel h2 hi) e1
    obtain ⟨⟨h3,h4⟩,h5⟩:=ha
    have hr:=trX_rel h2 hx
    rw [e2] at hr
    have hlt:n.toNat<s.length:=by omega
    refine ⟨.int .u8 (s.getD n.toNat 0).toNat,_,?_,(.int _ _),h5⟩
    have hget:(ByteArray.mk s.toArray)[n.toNat]? = some (s[n.toNat]'hlt):=by
     have hsz:n.toNat<(ByteArray.mk s.toArray).size:=by show n.toNat<s.toArray.size; simpa using hlt
     rw [getElem?_pos (ByteArray.mk s.toArray) n.toNat hsz]; rfl
    simp [execOp,hop,hr.str_inv,hk,Instr.index,asIntOf,calm_underlying hd,h3,hget,List.getD_eq_getElem?_getD,List.getElem?_eq_getElem hlt]
   ·exact ha.elim
  ·cases h
 ·-- extract
  rename_i x i hop
  simp only [Option.bind_eq_bind,Option.bind_eq_some_iff,Option.some.injEq] at h
  obtain ⟨y,hy,rfl⟩:=h
  simp only [aOp] at ha
  split at ha
  ·rename_i vs e
   have hr:=trX_rel h2 hy
   rw [e] at hr
   obtain ⟨us,hv,hR⟩:=hr.tup_inv
   split at ha
   ·rename_i c hc
    obtain ⟨u,hu,hru⟩:=hR.get hc
    exact ⟨u,_,(by simp [execOp,hop,hv,Instr.extract,hu]),hru,ha⟩
   ·exact ha.elim
  ·exact ha.elim
 ·-- makeFunc
  rename_i f x y hop
  simp only [Option.bind_eq_bind,Option.bind_eq_some_iff,Option.some.injEq] at h
  obtain ⟨x',hx,y',hy,rfl⟩:=h
  have r1:=trXs_rel (φ:=φ) (ι:=ι) h2 hx
  have r2:=trXs_rel (φ:=φ) (ι:=ι) h2 hy
  refine ⟨.func f (x.toList.map a.eval).toArray (y.toList.map a.eval).toArray,_,?_,(.fn f _ _ _ _ r1.1 r2.1 r1.2 r2.2),ha⟩
  have e1:x.map a.eval=(x.toList.map a.eval).toArray:=by apply Array.ext'; simp
  have e2:y.map a.eval=(y.toList.map a.eval).toArray:=by apply Array.ext'; simp
  simp only [execOp,hop,Instr.makeFunc,e1,e2,calm_bind,calm_pure,Option.bind_some]
 ·exact absurd ((by repeat' (first | exact KQ.none _ | exact KQ.some rfl | exact KQ.map fun _=>rfl | refine KQ.bind fun _=>?_ | split):KQ false _) _ h) (by simp [hq])
 ·exact absurd ((by repeat' (first | exact KQ.none _ | exact KQ.some rfl | exact KQ.map fun _=>rfl | refine KQ.bind fun _=>?_ | split):KQ false _) _ h) (by simp [hq])
 ·exact absurd ((by repeat' (first | exact KQ.none _ | exact KQ.some rfl | exact KQ.map fun _=>rfl | refine KQ.bind fun _=>?_ | split):KQ false _) _ h) (by simp [hq])
 ·-- slice
  rename_i t x lo hi hop
  simp only [Option.bind_eq_bind,Option.bind_eq_some_iff] at h
  obtain ⟨d,hd,h⟩:=h
  split at h
  ·rename_i e
   simp only [Option.bind_eq_some_iff,Option.some.injEq] at h
   obtain ⟨esz,hsz,x',hx,lo',hlo,hi',hhi,rfl⟩:=h
   simp only [aOp] at ha
   have hbd:∀ {q:Option Operand} {q':Option KX},trO q=some q'→(∀ y,q'=some y→∃ n,intOf? (kx env y)=some n)→match q',q.map a.eval with | none,none=>True | some y,some u=>∃ k n,kx env y = .int k n∧u = .int k n | _,_=>False:=by
    intro q q' hq hint
    cases q with
    | none=>simp [trO] at hq; subst hq; trivial
    | some q0 =>
     simp only [trO,Option.map_eq_some_iff] at hq
     obtain ⟨y,hy,rfl⟩:=hq
     obtain ⟨n,hn'⟩:=hint y rfl
     have hr:=trX_rel (φ:=φ) (ι:=ι) h2 hy
     cases hkv:kx env y <;> rw [hkv] at hn' hr <;> simp [intOf?] at hn'
     exact ⟨_,_,hkv,hr.int_inv⟩
   obtain ⟨⟨hi1,hi2⟩,ha⟩:=ha
   obtain ⟨c,r,g1,g2,g3⟩:=sls_sound h1 hd hsz (trX_rel h2 hx) (hbd hlo hi1) (hbd hhi hi2) ha
   exact ⟨_,_,(by simp [execOp,hop,g1]),g2,g3⟩
  ·rename_i len e
   split at h
   ·rename_i hc
    obtain ⟨hsz,hlo⟩:=hc
    simp only [Option.bind_eq_bind,Option.bind_eq_some_iff,Option.some.injEq] at h
    obtain ⟨x',hx,hi',hhi,rfl⟩:=h
    simp only [aOp] at ha
    obtain ⟨hpos,ha⟩:=ha
    have hlo':lo=none:=by cases lo <;> simp at hlo ⊢
    subst hlo'
    cases hi with
    | none =>
     simp [trO] at hhi; subst hhi
     obtain ⟨c,r,g1,g2,g3⟩:=slA_sound (hv:=none) h1 hd hsz (trX_rel h2 hx) hpos (Nat.le_refl _) (.inl ⟨rfl,rfl⟩) ha
     exact ⟨_,_,(by simp [execOp,hop,g1]),g2,g3⟩
    | some q0 =>
     simp only [trO,Option.map_eq_some_iff] at hhi
     obtain ⟨y,hy,rfl⟩:=hhi
     simp only at ha
     split at ha
     ·rename_i n hn'
      obtain ⟨⟨h3,h4⟩,ha⟩:=ha
      obtain ⟨k,hk⟩:=intOf_inv (trX_rel (φ:=φ) (ι:=ι) h2 hy) hn'
      have hnn:((n.toNat:Nat):Int)=n:=by omega
      obtain ⟨c,r,g1,g2,g3⟩:=slA_sound (n:=n.toNat) (hv:=some (.int k n)) h1 hd hsz (trX_rel h2 hx) hpos (by omega) (.inr ⟨k,by rw [hnn]⟩) ha
      exact ⟨_,_,(by simp [execOp,hop,hk,g1]),g2,g3⟩
     ·exact ha.elim
   ·cases h
  ·cases h
 ·-- call
  rename_i c hop
  unfold trCall at h
  split at h
  ·rename_i f hcal
   simp only [Option.bind_eq_bind,Option.bind_eq_some_iff,Option.some.injEq] at h
   obtain ⟨x,hx,ys,hys,rfl⟩:=h
   obtain ⟨cal,as,ts⟩:=c
   simp only at hcal hys; subst hcal
   simp [quietP] at hq
  ·rename_i b hcal
   obtain ⟨cal,as,ts⟩:=c
   simp only at hcal h; subst hcal
   have hbi:∀ (bf:Array TypeId→TypeId→Array Value→Sem Value),(∀ tp cs xs,builtin b ts tp cs xs=(do pure (.value (← bf ts tp xs)):Sem Next))→∀ {r:Value},(bf ts o.type (as.map a.eval)).calm P w=some r→(execOp a.eval o).calm P w=some (.value r):=by
    intro bf hbf r hr
    simp only [execOp,hop,resolve,invoke,calm_bind,calm_pure,Option.bind_some,hbf,hr]
   unfold trBuiltin at h
   split at h
   ·rename_i x t hx0 ht0
    have has:as = #[x]:=by apply Array.ext'; simpa using hx0
    have hts:ts = #[t]:=by apply Array.ext'; simpa using ht0
    subst has hts
    simp only [Option.bind_eq_bind,Option.bind_eq_some_iff] at h
    obtain ⟨d,hd,h⟩:=h
    split at h
    ·simp only [Option.bind_eq_some_iff,Option.some.injEq] at h
     obtain ⟨y,hy,rfl⟩:=h
     have hr:=trX_rel (φ:=φ) (ι:=ι) h2 hy
     have ha':aLen (kx env y) σ fun v=>K v σ:=by
      simp only [aOp] at ha
      split at ha <;> first | exact ha | exact ha.elim | skip
      all_goals first | exact ha | simp_all
     obtain ⟨c,r,g1,g2,g3⟩:=len_sound (ty:=o.type) h1 hd hr ha'
     exact ⟨_,_,(hbi Builtin.len_ (fun _ _ _=>rfl) (by simpa using g1)),g2,g3⟩
    ·simp only [Option.bind_eq_some_iff,Option.some.injEq] at h
     obtain ⟨y,hy,rfl⟩:=h
     have hr:=trX_rel (φ:=φ) (ι:=ι) h2 hy
     simp only [aOp] at ha
     cases hk:kx env y <;> rw [hk] at ha hr <;> simp only at ha
     rename_i s
     have g1:=len_str (P:=P) (w:=w) (ty:=o.type) s hd
     exact ⟨_,_,(hbi Builtin.len_ (fun _ _ _=>rfl) (by simpa [hr.str_inv] using g1)),(.int _ _),ha⟩
    ·cases h
   ·rename_i s x t t' hx0 ht0
    have has:as = #[s,x]:=by apply Array.ext'; simpa using hx0
    have hts:ts = #[t,t']:=by apply Array.ext'; simpa using ht0
    subst has hts
    simp only [Option.bind_eq_bind,Option.bind_eq_some_iff] at h
    obtain ⟨d,hd,h⟩:=h
    split at h
    ·simp only [Option.bind_eq_some_iff] at h
     obtain ⟨i,hi,z,hz,h⟩:=h
     split at h
     ·rename_i hc
      obtain ⟨rfl,c1,c2,c3⟩:=hc
      simp only [Option.bind_eq_some_iff,Option.some.injEq] at h
      obtain ⟨s',hs,x',hx,rfl⟩:=h
      simp [quietP] at hq
     ·unfold trApn at h
      exact absurd ((by repeat' (first | exact KQ.none _ | exact KQ.some rfl | exact KQ.map fun _=>rfl | refine KQ.bind fun _=>?_ | split):KQ false _) _ h) (by simp [hq])
    ·cases h
   ·rename_i x r hx0
    have has:as=(x :: r).toArray:=by apply Array.ext'; simpa using hx0
    subst has
    simp only [Option.bind_eq_bind,Option.bind_eq_some_iff,Option.some.injEq] at h
    obtain ⟨x',hx,r',hr,rfl⟩:=h
    obtain ⟨c,q,g1,g2,g3⟩:=mnmx_sound (P:=P) (w:=w) true (trX_rel (φ:=φ) (ι:=ι) h2 hx) (trXs_rel (φ:=φ) (ι:=ι) h2 hr) ha
    refine ⟨_,_,(hbi Builtin.max_ (fun _ _ _=>rfl) ?_),g2,g3⟩
    simpa [Builtin.max_] using g1
   ·rename_i x r hx0
    have has:as=(x :: r).toArray:=by apply Array.ext'; simpa using hx0
    subst has
    simp only [Option.bind_eq_bind,Option.bind_eq_some_iff,Option.some.injEq] at h
    obtain ⟨x',hx,r',hr,rfl⟩:=h
    obtain ⟨c,q,g1,g2,g3⟩:=mnmx_sound (P:=P) (w:=w) false (trX_rel (φ:=φ) (ι:=ι) h2 hx) (trXs_rel (φ:=φ) (ι:=ι) h2 hr) ha
    refine ⟨_,_,(hbi Builtin.min_ (fun _ _ _=>rfl) ?_),g2,g3⟩
    simpa [Builtin.min_] using g1
   ·exact absurd ((by repeat' (first | exact KQ.none _ | exact KQ.some rfl | exact KQ.map fun _=>rfl | refine KQ.bind fun _=>?_ | split):KQ false _) _ h) (by simp [hq])
   ·rename_i x t hx0 ht0
    have has:as = #[x]:=by apply Array.ext'; simpa using hx0
    have hts:ts = #[t]:=by apply Array.ext'; simpa using ht0
    subst has hts
    simp only [Option.bind_eq_bind,Option.bind_eq_some_iff] at h
    obtain ⟨d,hd,h⟩:=h
    split at h
    ·simp only [Option.bind_eq_some_iff,Option.some.injEq] at h
     obtain ⟨y,hy,rfl⟩:=h
     have hr:=trX_rel (φ:=φ) (ι:=ι) h2 hy
     simp only [aOp] at ha
     cases hk:kx env y <;> rw [hk] at ha hr <;> simp only at ha
     have g1:(Builtin.cap_ #[t] o.type #[a.eval x]).calm P w=some (.int .i64 0):=by
      rw [hr.nils_inv]; simp [Builtin.cap_,calm_underlying hd,goInt]
     exact ⟨_,_,(hbi Builtin.cap_ (fun _ _ _=>rfl) (by simpa using g1)),(.int _ _),ha⟩
    ·cases h
   ·exact absurd ((by repeat' (first | exact KQ.none _ | exact KQ.some rfl | exact KQ.map fun _=>rfl | refine KQ.bind fun _=>?_ | split):KQ false _) _ h) (by simp [hq])
   ·cases h
  ·cases h
 ·simp only [Option.some.injEq] at h; subst h; exact ha.elim

set_option maxHeartbeats 1000000 in
theorem op_loud {o:Oper} {fz:List Nat} {p:KP} (h:trOp P fz o.dst o.op=some p) (hq:quietP p=false) {K:PV→Heap→Prop} (ha:aOp P p env σ K) (h1:HOK φ ι σ w) (h2:EOK N φ ι env a) {next:Act→World→Prop} {Q:Exit→Act→World→Prop} (hn:Nx P N φ ι σ w a o.dst K next):o.wp P a w next Q:=by
 unfold trOp at h
 split at h
 ·exact absurd ((by repeat' (first | exact KQ.trNil _ _ _ | exact KQ.none _ | exact KQ.some rfl | exact KQ.map fun _=>rfl | refine KQ.bind fun _=>?_ | split):KQ true _) _ h) (by simp [hq])
 ·exact absurd ((by repeat' (first | exact KQ.trNil _ _ _ | exact KQ.none _ | exact KQ.some rfl | exact KQ.map fun _=>rfl | refine KQ.bind fun _=>?_ | split):KQ true _) _ h) (by simp [hq])
 ·exact absurd ((by repeat' (first | exact KQ.trNil _ _ _ | exact KQ.none _ | exact KQ.some rfl | exact KQ.map fun _=>rfl | refine KQ.bind fun _=>?_ | split):KQ true _) _ h) (by simp [hq])
 ·-- alloc
  rename_i t hop
  simp only [Option.bind_eq_bind,Option.bind_eq_some_iff,Option.some.injEq] at h
  obtain ⟨z,⟨i,hi,hz⟩,zs,hzs,rfl⟩:=h
  obtain ⟨hok,hK⟩:=ha
  obtain ⟨g1,g2,g3⟩:=new_box (e:=t) h1 (cvs_rel φ ι hzs) hok
  exact wp_val (w':=w.alloc (.cells z.cells t)) (by simp [execOp,hop,Instr.alloc,zeroValue,typeInfo,hi,hz,newVar,newRow]) (hn _ _ _ _ _ _ g3 g2 g1 hK)
 ·-- box
  rename_i t x hop
  simp only [Option.bind_eq_bind,Option.bind_eq_some_iff,Option.some.injEq] at h
  obtain ⟨y,hy,rfl⟩:=h
  obtain ⟨hok,hK⟩:=ha
  have hr:=(trX_rel h2 hy).cells hok
  have hrun:(execOp a.eval o).run P w = .ok (.value (.pointer (some ⟨w.heap.size,0,none⟩))) (w.alloc (.cells (a.eval x).cells t)):=by simp [execOp,hop,Instr.box,newVar,newRow]
  split at hK
  ·obtain ⟨g1,g2,g3⟩:=new_frz (e:=t) h1 hr hok
   exact wp_val hrun (hn _ _ _ _ _ _ g3 g2 g1 hK)
  ·obtain ⟨g1,g2,g3⟩:=new_box (e:=t) h1 hr hok
   exact wp_val hrun (hn _ _ _ _ _ _ g3 g2 g1 hK)
 ·exact absurd ((by repeat' (first | exact KQ.trNil _ _ _ | exact KQ.none _ | exact KQ.some rfl | exact KQ.map fun _=>rfl | refine KQ.bind fun _=>?_ | split):KQ true _) _ h) (by simp [hq])
 ·-- store
  rename_i t x y hop
  simp only [Option.bind_eq_bind,Option.bind_eq_some_iff] at h
  obtain ⟨n,hnn,h⟩:=h
  split at h
  ·cases h
  ·rename_i hpos
   simp only [Option.bind_eq_some_iff,Option.some.injEq] at h
   obtain ⟨x',hx,y',hy,rfl⟩:=h
   obtain ⟨w',ι',σ',g1,g2,g3,g4⟩:=store_sound h1 hnn (Nat.pos_of_ne_zero hpos) (trX_rel h2 hx) (trX_rel h2 hy) ha
   exact wp_skp (by simp [execOp,hop,g1]) (hn _ _ _ _ _ _ (.undef _) g3 g2 g4)
 ·exact absurd ((by repeat' (first | exact KQ.trNil _ _ _ | exact KQ.none _ | exact KQ.some rfl | exact KQ.map fun _=>rfl | refine KQ.bind fun _=>?_ | split):KQ true _) _ h) (by simp [hq])
 ·exact absurd ((by repeat' (first | exact KQ.trNil _ _ _ | exact KQ.none _ | exact KQ.some rfl | exact KQ.map fun _=>rfl | refine KQ.bind fun _=>?_ | split):KQ true _) _ h) (by simp [hq])
 ·exact absurd ((by repeat' (first | exact KQ.trNil _ _ _ | exact KQ.none _ | exact KQ.some rfl | exact KQ.map fun _=>rfl | refine KQ.bind fun _=>?_ | split):KQ true _) _ h) (by simp [hq])
 ·exact absurd ((by repeat' (first | exact KQ.trNil _ _ _ | exact KQ.none _ | exact KQ.some rfl | exact KQ.map fun _=>rfl | refine KQ.bind fun _=>?_ | split):KQ true _) _ h) (by simp [hq])
 ·exact absurd ((by repeat' (first | exact KQ.trNil _ _ _ | exact KQ.none _ | exact KQ.some rfl | exact KQ.map fun _=>rfl | refine KQ.bind fun _=>?_ | split):KQ true _) _ h) (by simp [hq])
 ·exact absurd ((by repeat' (first | exact KQ.trNil _ _ _ | exact KQ.none _ | exact KQ.some rfl | exact KQ.map fun _=>rfl | refine KQ.bind fun _=>?_ | split):KQ true _) _ h) (by simp [hq])
 ·exact absurd ((by repeat' (first | exact KQ.trNil _ _ _ | exact KQ.none _ | exact KQ.some rfl | exact KQ.map fun _=>rfl | refine KQ.bind fun _=>?_ | split):KQ true _) _ h) (by simp [hq])
 ·exact absurd ((by repeat' (first | exact KQ.trNil _ _ _ | exact KQ.none _ | exact KQ.some rfl | exact KQ.map fun _=>rfl | refine KQ.bind fun _=>?_ | split):KQ true _) _ h) (by simp [hq])
 ·exact absurd ((by repeat' (first | exact KQ.trNil _ _ _ | exact KQ.none _ | exact KQ.some rfl | exact KQ.map fun _=>rfl | refine KQ.bind fun _=>?_ | split):KQ true _) _ h) (by simp [hq])
 ·exact absurd ((by repeat' (first | exact KQ.trNil _ _ _ | exact KQ.none _ | exact KQ.some rfl | exact KQ.map fun _=>rfl | refine KQ.bind fun _=>?_ | split):KQ true _) _ h) (by simp [hq])
 ·exact absurd ((by repeat' (first | exact KQ.trNil _ _ _ | exact KQ.none _ | exact KQ.some rfl | exact KQ.map fun _=>rfl | refine KQ.bind fun _=>?_ | split):KQ true _) _ h) (by simp [hq])
 ·-- makeSlice
  rename_i t l c hop
  simp only [Option.bind_eq_bind,Option.bind_eq_some_iff] at h
  obtain ⟨d,hd,h⟩:=h
  split at h
  ·rename_i e
   simp only [Option.bind_eq_some_iff] at h
   obtain ⟨i,hi,z,hz,zs,hzs,h⟩:=h
   split at h
   ·cases h
   ·rename_i hcond
    have fin:∀ (zp:PV) l' c',zp.cs=zs→trX l=some l'→trX c=some c'→aOp P (.mks e i.size zp l' c') env σ K→o.wp P a w next Q:=fun zp l' c' hzp hl hc ha=>by
     simp only [aOp] at ha
     split at ha
     ·rename_i n m e1 e2
      obtain ⟨kl,hkl⟩:=intOf_inv (trX_rel h2 hl) e1
      obtain ⟨kc,hkc⟩:=intOf_inv (trX_rel h2 hc) e2
      obtain ⟨⟨h3,h4,h5⟩,hK⟩:=ha
      have hzok:zs.all PV.ok=true:=by
       rw [List.all_eq_true]
       intro q hq
       obtain ⟨j,hj⟩:=List.getElem?_of_mem hq
       have:∀ {vs:List Value} {zs:List PV},cvs vs=some zs→∀ (j:Nat) (q:PV),zs[j]? = some q→PV.ok q=true:=by
        intro vs
        induction vs with
        | nil=>intro zs hh j q hq; simp [cvs] at hh; subst hh; simp at hq
        | cons v vs ih =>
         intro zs hh j q hq
         simp only [cvs,List.mapM_cons,Option.bind_eq_bind,Option.pure_def,Option.bind_eq_some_iff,Option.some.injEq] at hh
         obtain ⟨c,hc,cs,hcs,rfl⟩:=hh
         cases j with
         | zero =>
          simp at hq; subst hq
          unfold cv at hc
          split at hc <;> simp at hc <;> subst hc <;> rfl
         | succ j=>exact ih hcs j q (by simpa using hq)
       exact this hzs j q hj
      obtain ⟨r,w',ι',g1,g2,g3,g4⟩:=mks_sound h1 hd hi hz hzs (by omega) (by omega) (by omega) hzp hzok h3 h4 h5 (kl:=kl) (kc:=kc)
      exact wp_val (by simp [execOp,hop,hkl,hkc,g1]) (hn _ _ _ _ _ _ g2 g3 g4 hK)
     ·exact ha.elim
    simp only [Option.bind_eq_some_iff] at h
    obtain ⟨g,hg,h⟩:=h
    split at h
    ·simp only [Option.bind_eq_some_iff,Option.some.injEq] at h
     obtain ⟨l',hl,c',hc,rfl⟩:=h
     exact fin _ l' c' rfl hl hc ha
    ·split at h
     ·rename_i z1
      simp only [Option.bind_eq_some_iff,Option.some.injEq] at h
      obtain ⟨l',hl,c',hc,rfl⟩:=h
      refine fin z1 l' c' ?_ hl hc ha
      simp only [cvs] at hzs
      obtain ⟨v0,hv0⟩:∃ v0,z.cells.toList = [v0]:=by
       have:=(cvs_rel φ ι hzs).1
       simp only [List.length_singleton] at this
       exact List.length_eq_one_iff.1 this.symm
      rw [hv0] at hzs
      simp at hzs
      unfold cv at hzs
      split at hzs <;> simp at hzs <;> subst hzs <;> rfl
     ·cases h
  ·cases h
 ·-- buildSlice
  rename_i t n parts hop
  simp only [Option.bind_eq_bind,Option.bind_eq_some_iff] at h
  obtain ⟨d,hd,h⟩:=h
  split at h
  ·rename_i e
   simp only [Option.bind_eq_some_iff] at h
   obtain ⟨i,hi,z,hz,ps,hps,h⟩:=h
   split at h
   ·cases h
   ·rename_i hsmall
    simp only [Option.some.injEq] at h
    subst h
    obtain ⟨hok,hK⟩:=ha
    obtain ⟨C,g1,g2,g3,g4⟩:=bsl_cells (w:=w) h2 hd hi hz hps hsmall hok
    have hrun:(execOp a.eval o).run P w = .ok (.value (.slice (some ⟨w.heap.size,0,none⟩) n n)) (w.alloc (.cells C e)):=by
     simp [execOp,hop,g1]
    have hn24:n≤16777216:=by
     have hp:0<i.size:=by omega
     have:n * 1≤n * i.size:=Nat.mul_le_mul_left _ hp
     omega
    split at hK
    ·-- frozen
     have hk:∀ b,b<w.heap.size→(w.alloc (.cells C e)).heap[b]? = w.heap[b]?:=fun b hb=>alloc_old w _ hb
     have hs:w.heap.size≤(w.alloc (.cells C e)).heap.size:=by rw [alloc_size]; omega
     obtain ⟨q1,q2⟩:=h1.frz hk hs (Nat.le_refl _) (alloc_new w (.cells C e))
     refine wp_val hrun (hn _ _ _ _ _ _ ?_ (Tr.frz _ q2 hk hs rfl rfl rfl) q1 hK)
     refine .list _ i.size w.heap.size 0 n n C (by simp [g2]) (Nat.le_refl _) (by simp [addFrz]) (fun j x hx=>?_) (fun j k=>C.toList.getD (j * i.size+k) Go.undef) (fun j x k c hx hc=>?_) (fun j x k c hx hc=>?_)
     ·exact hok x (List.mem_of_getElem? hx)
     all_goals
      have hxl:=(hok x (List.mem_of_getElem? hx)).1
      have hfl:(flat (ps.map (kx env)))[j * i.size+k]? = some c:=by
       have hkl:=(List.getElem?_eq_some_iff.1 hc).1
       have:=flat_get (okL_len hok) hx
       rw [← this,List.getElem?_take,if_pos (by omega),List.getElem?_drop] at hc
       exact hc
      obtain ⟨u,hu,hru⟩:=g3.get hfl
     ·simp only [Nat.zero_add,List.getD_eq_getElem?_getD,hu,Option.getD_some]
      simpa using hu
     ·simp only [List.getD_eq_getElem?_getD,hu,Option.getD_some]
      exact hru.mono q2.1 (.refl _)
    ·have hown:=ownsRow_new w C e i.size n n C.toList g4 (by rw [List.take_of_length_le (by rw [Array.length_toList,g4]; exact Nat.le_refl _)]) (Nat.le_refl _) (by simp only [maxLen]; omega)
     obtain ⟨q1,q2,q3⟩:=push_row h1 (by omega) (xs:=ps.map (kx env)) (by simp [g2]) g3 hok hown (Nat.le_refl _)
     exact wp_val hrun (hn _ _ _ _ _ _ q3 q2 q1 (g2 ▸ hK))
  ·cases h
 ·-- build
  rename_i t parts hop
  simp only [Option.bind_eq_bind,Option.bind_eq_some_iff] at h
  obtain ⟨z,⟨i,hi,hz⟩,zs,hzs,d,hd,h⟩:=h
  have fin:∀ (pf pg:Nat→Option (Nat × Nat)) (ps:List (Nat × Nat × KX)),(∀ i,pg i=pf i)→trParts pf parts.toList=some ps→(∀ q,P.built t q=Instr.fill pg z.cells q)→aOp P (.build zs ps) env σ K→o.wp P a w next Q:=fun pf pg ps hpf hps hbu ha=>by
   obtain ⟨⟨hok,hb⟩,hK⟩:=ha
   obtain ⟨C',g1,g2,g3⟩:=build_fill (φ:=φ) (ι:=ι) h2 hpf (parts:=parts.toList) (ps:=ps) (zs:=zs) (C:=z.cells) hps (cvs_rel φ ι hzs) hok hb
   have hbuilt:P.built t ((parts.map fun (x:Nat × Operand)=>(x.1,a.eval x.2)).toList)=some C':=by
    rw [hbu,Array.toList_map]; exact g1
   refine wp_val (v:=.agg C') ?_ (hn.pure h1 (by have:=Rel.agg (φ:=φ) (ι:=ι) (buildC env zs ps) C'.toList g2.1 g3 g2.2; simpa using this) hK)
   have:=run_build (P:=P) w t _ C' hbuilt
   simp [execOp,hop,this]
  split at h
  ·rename_i fs
   simp only [Option.bind_eq_some_iff,Option.some.injEq] at h
   obtain ⟨pl,hpl,ps,hps,rfl⟩:=h
   exact fin (pl[·]?) (pl.toArray[·]?) ps (fun i=>by simp) hps (fun q=>by unfold Program.built; simp only [hi,hd,hz,hpl]) ha
  ·rename_i len e
   simp only [Option.bind_eq_some_iff,Option.some.injEq] at h
   obtain ⟨ie,hie,ps,hps,rfl⟩:=h
   exact fin _ _ ps (fun _=>rfl) hps (fun q=>by unfold Program.built; simp only [hi,hd,hz,hie]) ha
  ·cases h
 ·exact absurd ((by repeat' (first | exact KQ.trNil _ _ _ | exact KQ.none _ | exact KQ.some rfl | exact KQ.map fun _=>rfl | refine KQ.bind fun _=>?_ | split):KQ true _) _ h) (by simp [hq])
 ·-- call
  rename_i c hop
  unfold trCall at h
  split at h
  ·rename_i f hcal
   simp only [Option.bind_eq_bind,Option.bind_eq_some_iff,Option.some.injEq] at h
   obtain ⟨x,hx,ys,hys,rfl⟩:=h
   obtain ⟨cal,as,ts⟩:=c
   simp only at hcal hys; subst hcal
   exact call_sound hop hx hys ha h1 h2 hn
  ·rename_i b hcal
   obtain ⟨cal,as,ts⟩:=c
   simp only at hcal h; subst hcal
   have hbi:∀ (bf:Array TypeId→TypeId→Array Value→Sem Value),(∀ tp cs xs,builtin b ts tp cs xs=(do pure (.value (← bf ts tp xs)):Sem Next))→∀ {r:Value} {w':World},(bf ts o.type (as.map a.eval)).run P w = .ok r w'→(execOp a.eval o).run P w = .ok (.value r) w':=by
    intro bf hbf r w' hr
    simp only [execOp,hop,resolve,invoke,Sem.run_bind,Sem.run_pure,Result.andThen_ok,hbf,hr]
   unfold trBuiltin at h
   split at h
   ·rename_i x t hx0 ht0
    have has:as = #[x]:=by apply Array.ext'; simpa using hx0
    have hts:ts = #[t]:=by apply Array.ext'; simpa using ht0
    subst has hts
    simp only [Option.bind_eq_bind,Option.bind_eq_some_iff] at h
    obtain ⟨d,hd,h⟩:=h
    split at h
    ·simp only [Option.bind_eq_some_iff,Option.some.injEq] at h
     obtain ⟨y,hy,rfl⟩:=h
     simp [quietP] at hq
    ·simp only [Option.bind_eq_some_iff,Option.some.injEq] at h
     obtain ⟨y,hy,rfl⟩:=h
     simp [quietP] at hq
    ·cases h
   ·rename_i s x t t' hx0 ht0
    have has:as = #[s,x]:=by apply Array.ext'; simpa using hx0
    have hts:ts = #[t,t']:=by apply Array.ext'; simpa using ht0
    subst has hts
    simp only [Option.bind_eq_bind,Option.bind_eq_some_iff] at h
    obtain ⟨d,hd,h⟩:=h
    split at h
    ·simp only [Option.bind_eq_some_iff] at h
     obtain ⟨i,hi,z,hz,h⟩:=h
     split at h
     ·rename_i hc
      obtain ⟨rfl,c1,c2,c3⟩:=hc
      simp only [Option.bind_eq_some_iff,Option.some.injEq] at h
      obtain ⟨s',hs,x',hx,rfl⟩:=h
      obtain ⟨c,r,w',ι',σ',g1,g2,g3,g4,g5⟩:=app_sound (P:=P) (ty:=o.type) h1 hd hi hz c1 c2 c3 (trX_rel h2 hs) (trX_rel h2 hx) ha
      exact wp_val (hbi Builtin.append_ (fun _ _ _=>rfl) (by simpa using g1)) (hn _ _ _ _ _ _ g2 g3 g4 g5)
     ·unfold trApn at h
      simp only [Option.bind_eq_bind,Option.bind_eq_some_iff] at h
      obtain ⟨d',hd',h⟩:=h
      split at h
      ·rename_i kk
       simp only [Option.bind_eq_some_iff] at h
       obtain ⟨zs,hzs,h⟩:=h
       split at h
       ·cases h
       ·rename_i hcond
        simp only [Option.bind_eq_some_iff] at h
        obtain ⟨g,hg,h⟩:=h
        split at h
        ·simp only [Option.bind_eq_some_iff,Option.some.injEq] at h
         obtain ⟨s',hs,x',hx,rfl⟩:=h
         simp only [aOp] at ha
         split at ha
         ·rename_i m hm
          obtain ⟨k,hk⟩:=intOf_inv (trX_rel (φ:=φ) (ι:=ι) h2 hx) hm
          obtain ⟨c,r,w',ι',σ',g1,g2,g3,g4,g5⟩:=apn_sound (P:=P) (ty:=o.type) h1 hd hd' hi hz hzs (by omega) (by omega) (by omega) (zp:=.agg zs) rfl (cvs_ok hzs) (trX_rel h2 hs) (k:=k) ha
          exact wp_val (hbi Builtin.append_ (fun _ _ _=>rfl) (by simpa [hk] using g1)) (hn _ _ _ _ _ _ g2 g3 g4 g5)
         ·exact ha.elim
        ·cases h
      ·cases h
    ·cases h
   ·rename_i x r hx0
    have has:as=(x :: r).toArray:=by apply Array.ext'; simpa using hx0
    subst has
    simp only [Option.bind_eq_bind,Option.bind_eq_some_iff,Option.some.injEq] at h
    obtain ⟨x',hx,r',hr,rfl⟩:=h
    simp [quietP] at hq
   ·rename_i x r hx0
    have has:as=(x :: r).toArray:=by apply Array.ext'; simpa using hx0
    subst has
    simp only [Option.bind_eq_bind,Option.bind_eq_some_iff,Option.some.injEq] at h
    obtain ⟨x',hx,r',hr,rfl⟩:=h
    simp [quietP] at hq
   ·rename_i x t hx0 ht0
    have has:as = #[x]:=by apply Array.ext'; simpa using hx0
    have hts:ts = #[t]:=by apply Array.ext'; simpa using ht0
    subst has hts
    simp only [Option.bind_eq_bind,Option.bind_eq_some_iff] at h
    obtain ⟨d,hd,h⟩:=h
    split at h
    ·rename_i e
     simp only [Option.bind_eq_some_iff] at h
     obtain ⟨i,hi,z,hz,zs,hzs,h⟩:=h
     split at h
     ·cases h
     ·rename_i hcond
      have fin:∀ (zp:PV) x',zp.cs=zs→trX x=some x'→aOp P (.clr i.size zp x') env σ K→o.wp P a w next Q:=fun zp x' hzp hx ha=>by
       simp only [aOp] at ha
       obtain ⟨w',φ',ι',σ',g1,g2,g3,g4⟩:=clr_sound (P:=P) (ty:=o.type) h1 hd hi hz hzs (by omega) (by omega) hzp (trX_rel h2 hx) ha
       exact wp_val (hbi Builtin.clear_ (fun _ _ _=>rfl) (by simpa using g1)) (hn _ _ _ _ _ _ (tup_nil_rel φ' ι') g2 g3 g4)
      simp only [Option.bind_eq_some_iff] at h
      obtain ⟨g,hg,h⟩:=h
      split at h
      ·simp only [Option.bind_eq_some_iff,Option.some.injEq] at h
       obtain ⟨x',hx,rfl⟩:=h
       exact fin _ x' rfl hx ha
      ·split at h
       ·rename_i z1
        simp only [Option.bind_eq_some_iff,Option.some.injEq] at h
        obtain ⟨x',hx,rfl⟩:=h
        refine fin z1 x' ?_ hx ha
        have:=cvs_ok hzs
        simp at this
        cases z1 <;> simp [PV.ok] at this <;> rfl
       ·cases h
    ·cases h
   ·exact absurd ((by repeat' (first | exact KQ.trNil _ _ _ | exact KQ.none _ | exact KQ.some rfl | exact KQ.map fun _=>rfl | refine KQ.bind fun _=>?_ | split):KQ true _) _ h) (by simp [hq])
   ·rename_i dd ss t t' hx0 ht0
    have has:as = #[dd,ss]:=by apply Array.ext'; simpa using hx0
    have hts:ts = #[t,t']:=by apply Array.ext'; simpa using ht0
    subst has hts
    simp only [Option.bind_eq_bind,Option.bind_eq_some_iff] at h
    obtain ⟨d,hd,h⟩:=h
    split at h
    ·split at h
     ·rename_i hs1
      simp only [Option.bind_eq_some_iff,Option.some.injEq] at h
      obtain ⟨d',hdx,s',hsx,rfl⟩:=h
      simp only [aOp] at ha
      obtain ⟨c,r,w',ι',σ',g1,g2,g3,g4,g5⟩:=cpy_sound (P:=P) (t':=t') (ty:=o.type) h1 hd hs1 (trX_rel h2 hdx) (trX_rel h2 hsx) ha
      exact wp_val (hbi Builtin.copy_ (fun _ _ _=>rfl) (by simpa using g1)) (hn _ _ _ _ _ _ g2 g3 g4 g5)
     ·cases h
    ·cases h
   ·cases h
  ·cases h
 ·simp only [Option.some.injEq] at h; subst h; exact ha.elim

theorem op_sound {o:Oper} {fz:List Nat} {p:KP} (h:trOp P fz o.dst o.op=some p) {K:PV→Heap→Prop} (ha:aOp P p env σ K) (h1:HOK φ ι σ w) (h2:EOK N φ ι env a) {next:Act→World→Prop} {Q:Exit→Act→World→Prop} (hn:Nx P N φ ι σ w a o.dst K next):o.wp P a w next Q:=by
 cases hq:quietP p with
 | true =>
  obtain ⟨v,c,g1,g2,g3⟩:=op_calm h hq ha h1 h2
  exact wp_val (calm_ok g1) (hn.pure h1 g2 g3)
 | false=>exact op_loud h hq ha h1 h2 hn

end Go.Kv
end
