/- A framework of this session's own: abstract values, heaps and code, sound for the machine's. Nothing here speaks of a program. -/
import Derived.Test.YtcfmmmloeaggmaaGreatFA
import Derived.LoopN
import Derived.OrdersHeld

/- Lists of operations, regions and code. -/
section
namespace Go.Kv
set_option linter.unusedVariables false
set_option linter.unusedSimpArgs false

def putD (d:Option Nat) (v:PV) (env:Env):Env :=
 match d with
 | some k=>(k,v) :: env
 | none=>env

def vOps (P:Program):List KO→(Exit→Env→Heap→Prop)→Env→Heap→Prop
 | [],Q,env,σ=>Q .normal env σ
 | o :: r,Q,env,σ =>
  match o.g with
  | none=>aOp P o.p env σ fun v σ'=>vOps P r Q (putD o.d v env) σ'
  | some (t,want) =>
   match look env t with
   | .bool b=>(b=want→aOp P o.p ((t,.bool want) :: env) σ fun v σ'=>vOps P r Q (putD o.d v ((t,.bool want) :: env)) σ')∧(b=(!want)→vOps P r Q (putD o.d (.tup []) ((t,.bool (!want)) :: env)) σ)
   | .tup []=>vOps P r Q (putD o.d (.tup []) env) σ
   | _=>False
inductive KT where
 | fin
 | op (k:KO) (r:KT)
 | alt (a b:KT)
def vT (P:Program):KT→(Exit→Env→Heap→Prop)→Env→Heap→Prop
 | .fin,Q,env,σ=>Q .normal env σ
 | .op k r,Q,env,σ=>vOps P [k] (fun e env σ=>match e with | .normal=>vT P r Q env σ | _=>False) env σ
 | .alt a b,Q,env,σ=>vT P a Q env σ∧vT P b Q env σ
def TK (P:Program) (r:KT) (Q:Exit→Env→Heap→Prop) (e:Exit) (env:Env) (σ:Heap):Prop :=
 match e with
 | .normal=>vT P r Q env σ
 | _=>False
theorem vT_op' {P:Program} {k:KO} {r:KT} {Q:Exit→Env→Heap→Prop} {env:Env} {σ:Heap}:vT P (.op k r) Q env σ = vOps P [k] (TK P r Q) env σ:=Eq.trans rfl rfl
def OpK (P:Program) (d:Option Nat) (r:List KO) (Q:Exit→Env→Heap→Prop) (env:Env) (v:PV) (σ:Heap):Prop:=vOps P r Q (putD d v env) σ

def trGuard (ops:Array Oper) (o:Oper):Option (Option (Nat × Bool)) :=
 match o.guard with
 | none=>some none
 | some (j,want)=>((ops[j]?).bind (·.dst)).map fun t=>some (t,want)
def trOper (P:Program) (fz:List Nat) (N:Nat) (ops:Array Oper) (o:Oper):Option KO:=do
 let p ← trOp P fz o.dst o.op
 let g ← trGuard ops o
 if o.dst.all (· < N) then some ⟨o.dst,g,p⟩ else none

variable {P:Program} {φ:Frz} {ι:List KLoc} {σ:Heap} {w:World} {N n0:Nat} {env:Env} {a:Act}

theorem EOK.putD (h:EOK N φ ι env a) {d:Option Nat} (hd:d.all (· < N)=true) {c:PV} {v:Value} (hv:Rel φ ι c v):EOK N φ ι (Kv.putD d c env) (a.put d v):=by
 cases d with
 | none=>exact h
 | some k=>exact h.put (by simpa using hd) hv
theorem EOK.repl (h:EOK N φ ι env a) {t:Nat} {c:PV} (hc:Rel φ ι c (a.tmps.getD t Go.undef)):EOK N φ ι ((t,c) :: env) a:=by
 refine ⟨h.sz,h.df,fun s=>?_⟩
 simp only [look_cons]
 split
 ·rename_i e; subst e; exact hc
 ·exact h.rel s
theorem size_mono {φ':Frz} {ι':List KLoc} {σ':Heap} {w':World} {n:Nat} (h:HOK φ ι σ w) (h':HOK φ' ι' σ' w') (ht:Tr σ.length φ ι w φ' ι' w') (hn:n≤σ.length):n≤σ'.length:=by
 rcases Nat.eq_zero_or_pos σ.length with h0 | h0
 ·omega
 ·have hlt:σ.length - 1 < ι.length:=by rw [h.len]; omega
  obtain ⟨l',h1,_⟩:=ht.l (σ.length - 1) ι[σ.length - 1] (by rw [List.getElem?_take,if_pos (by omega)]; exact List.getElem?_eq_getElem hlt)
  have:=(List.getElem?_eq_some_iff.1 h1).1
  rw [h'.len] at this; omega
theorem Tr.le {φ':Frz} {ι':List KLoc} {w':World} (h:HOK φ ι σ w) (ht:Tr σ.length φ ι w φ' ι' w'):LLe ι ι':=by
 have:=ht.l
 rwa [List.take_of_length_le (by rw [h.len]; exact Nat.le_refl _)] at this

theorem guard_bool {ops:Array Oper} {o:Oper} {t:Nat} {want b:Bool} (h2:EOK N φ ι env a) (hg:trGuard ops o=some (some (t,want))) (ht:t<N) (hl:look env t = .bool b):Region.wanted o (yielded ops a.tmps)=(b == want):=by
 unfold trGuard at hg
 cases hog:o.guard with
 | none=>simp [hog] at hg
 | some g =>
  obtain ⟨j,wt⟩:=g
  simp only [hog,Option.map_eq_some_iff,Option.some.injEq,Prod.mk.injEq] at hg
  obtain ⟨t',ht',rfl,rfl⟩:=hg
  have hr:=h2.rel t'
  rw [hl] at hr
  have hv:=hr.bool_inv
  have hlt:t'<a.tmps.size:=by rw [h2.sz]; exact ht
  have:a.tmps[t']? = some (.bool b):=by
   rw [Array.getElem?_eq_getElem hlt]
   simp [Array.getD,hlt] at hv
   rw [hv]
  simp only [Region.wanted,hog,yielded,ht',Option.bind_some,this]
  cases b <;> cases wt <;> rfl
theorem guard_skip {ops:Array Oper} {o:Oper} {t:Nat} {want:Bool} (h2:EOK N φ ι env a) (hg:trGuard ops o=some (some (t,want))) (hl:look env t = .tup []):Region.wanted o (yielded ops a.tmps)=false:=by
 unfold trGuard at hg
 cases hog:o.guard with
 | none=>simp [hog] at hg
 | some g =>
  obtain ⟨j,wt⟩:=g
  simp only [hog,Option.map_eq_some_iff,Option.some.injEq,Prod.mk.injEq] at hg
  obtain ⟨t',ht',rfl,rfl⟩:=hg
  have hr:=h2.rel t'
  rw [hl] at hr
  obtain ⟨vs,hv,hR⟩:=hr.tup_inv
  have h0:vs = []:=List.eq_nil_of_length_eq_zero hR.1.symm
  subst h0
  simp only [Region.wanted,hog,yielded,ht',Option.bind_some]
  cases hq:a.tmps[t']? with
  | none=>rfl
  | some q =>
   have:a.tmps.getD t' Go.undef=q:=by simp [Array.getD_eq_getD_getElem?,hq]
   rw [this] at hv; subst hv; rfl
theorem guard_none {ops:Array Oper} {o:Oper} (hg:trGuard ops o=some none):o.guard=none:=by
 unfold trGuard at hg
 cases hog:o.guard with
 | none=>rfl
 | some g =>
  obtain ⟨j,wt⟩:=g
  simp only [hog,Option.map_eq_some_iff] at hg
  obtain ⟨_,_,h⟩:=hg
  cases h
theorem tup0_rel (φ:Frz) (ι:List KLoc):Rel φ ι (.tup []) Go.undef:=.tup [] [] rfl (by simp)

theorem trOper_dst {fz:List Nat} {ops:Array Oper} {o:Oper} {k:KO} (h:trOper P fz N ops o=some k):∃ p g,trOp P fz o.dst o.op=some p∧trGuard ops o=some g∧o.dst.all (· < N)=true∧k=⟨o.dst,g,p⟩:=by
 unfold trOper at h
 simp only [Option.bind_eq_bind,Option.bind_eq_some_iff] at h
 obtain ⟨p,hp,g,hg,h⟩:=h
 split at h
 ·rename_i hd
  simp only [Option.some.injEq] at h
  exact ⟨p,g,hp,hg,hd,h.symm⟩
 ·cases h

def guardsOK (N:Nat) (kos:List KO):Bool:=kos.all fun k=>match k.g with | some (t,_)=>decide (t<N) | none=>true

theorem vOps_sound {fz:List Nat} {ops:Array Oper} {Q:Exit→Env→Heap→Prop} {φ0:Frz} {ι0:List KLoc} {w0:World}:∀ (l:List Oper) (i:Nat) (kos:List KO) (env:Env) (σ:Heap) (φ:Frz) (ι:List KLoc) (a:Act) (w:World),
  (∀ j,l[j]? = ops[i+j]?)→l.mapM (trOper P fz N ops)=some kos→guardsOK N kos=true→Tr n0 φ0 ι0 w0 φ ι w→HOK φ ι σ w→EOK N φ ι env a→n0≤σ.length→vOps P kos Q env σ →
  wpOps P ops (AWR N n0 φ0 ι0 w0 Q) (List.range' i l.length) a w
 | [],i,kos,env,σ,φ,ι,a,w,hl,hm,hgs,ht,h1,h2,hn,hv=>by
  simp at hm; subst hm
  exact ⟨φ,ι,env,σ,ht,h1,⟨h2,hn⟩,hv⟩
 | o :: l,i,kos,env,σ,φ,ι,a,w,hl,hm,hgs,ht,h1,h2,hn,hv=>by
  simp only [List.mapM_cons,Option.bind_eq_bind,Option.pure_def,Option.bind_eq_some_iff,Option.some.injEq] at hm
  obtain ⟨k,hk,ks,hks,rfl⟩:=hm
  obtain ⟨p,g,hp,hg,hd,rfl⟩:=trOper_dst hk
  have hgs':guardsOK N ks=true:=by simp [guardsOK] at hgs ⊢; exact hgs.2
  have h0:ops[i]? = some o:=by have:=hl 0; simpa using this.symm
  have hl':∀ j,l[j]? = ops[i+1+j]?:=fun j=>by have:=hl (j+1); simpa [Nat.add_assoc,Nat.add_comm 1 j] using this
  simp only [List.length_cons,List.range'_succ]
  have run:∀ (env1:Env),EOK N φ ι env1 a→aOp P p env1 σ (fun v σ'=>vOps P ks Q (putD o.dst v env1) σ')→Region.wanted o (yielded ops a.tmps)=true→wpOps P ops (AWR N n0 φ0 ι0 w0 Q) (i :: List.range' (i+1) l.length) a w:=by
   intro env1 he1 ha hw
   unfold wpOps
   simp only [h0,hw,if_true]
   refine .inl (op_sound (N:=N) hp ha h1 he1 fun v' v φ' ι' σ' w' hr htr h1' hk'=>?_)
   have hle:=Tr.le h1 htr
   exact vOps_sound l (i+1) ks _ σ' φ' ι' _ w' hl' hks hgs' (ht.trans (htr.weaken hn)) h1' ((he1.mono htr.f hle).putD hd hr) (size_mono h1 h1' htr hn) hk'
  have skip:∀ (env1:Env),EOK N φ ι env1 a→vOps P ks Q (putD o.dst (.tup []) env1) σ→Region.wanted o (yielded ops a.tmps)=false→wpOps P ops (AWR N n0 φ0 ι0 w0 Q) (i :: List.range' (i+1) l.length) a w:=by
   intro env1 he1 hv1 hw
   unfold wpOps
   simp only [h0,hw,Bool.false_eq_true,if_false]
   exact vOps_sound l (i+1) ks _ σ φ ι _ w hl' hks hgs' ht h1 (he1.putD hd (tup0_rel φ ι)) hn hv1
  unfold vOps at hv
  cases g with
  | none =>
   simp only at hv
   refine run env h2 hv ?_
   simp [Region.wanted,guard_none hg]
  | some g =>
   obtain ⟨t,want⟩:=g
   have htN:t<N:=by simp [guardsOK] at hgs; exact hgs.1
   simp only at hv
   split at hv
   ·rename_i b hlk
    have hw:=guard_bool h2 hg htN hlk
    have hrb:=h2.rel t
    rw [hlk] at hrb
    by_cases hb:b=want
    ·have:=run ((t,.bool want) :: env) (h2.repl (by rw [← hb]; exact hrb)) (hv.1 hb) (by rw [hw,hb]; cases want <;> rfl)
     exact this
    ·have hb':b=(!want):=by cases b <;> cases want <;> simp_all
     exact skip ((t,.bool (!want)) :: env) (h2.repl (by rw [← hb']; exact hrb)) (hv.2 hb') (by rw [hw,hb']; cases want <;> rfl)
   ·rename_i hlk
    exact skip env h2 hv (guard_skip h2 hg hlk)
   ·exact hv.elim

theorem AW_region {id:Nat} {fz:List Nat} {ops:Array Oper} {kos:List KO} {Q:Exit→Env→Heap→Prop} (hm:ops.toList.mapM (trOper P fz N ops)=some kos) (hg:guardsOK N kos=true) (hv:vOps P kos Q env σ):AW P N n0 (.region id ops false) Q env σ:=fun φ ι a w h1 h2=>by
 refine wp_region ?_
 have:=vOps_sound (Q:=Q) (φ0:=φ) (ι0:=ι) (w0:=w) (n0:=n0) ops.toList 0 kos env σ φ ι a w (fun j=>by simp) hm hg (.refl _ _ _ _) h1 h2.1 h2.2 hv
 simpa [List.range_eq_range'] using this

/-! ### Loops: the state behind which a round begins -/
def LoopWp (P:Program) (c:Code) (Q:Exit→Act→World→Prop) (a:Act) (w:World):Prop :=
 ∀ (b:Frame) (k:List Item) (cs:List Frame),∃ e a' w',Q e a' w'∧Arrives P (lone (b.at a (.code c :: .inLoop c :: k)) cs w) b k cs e a' w'
theorem LoopWp.loop {c:Code} {Q:Exit→Act→World→Prop} (h:LoopWp P c Q a w):(Code.loop c).wp P Q a w:=fun b k cs =>
 let ⟨e,a',w',hq,harr⟩:=h b k cs
 ⟨e,a',w',hq,.of_steps (.one step_loop) harr⟩
theorem LoopWp.round {c:Code} {Q:Exit→Act→World→Prop} (h:c.wp P (Exit.then (LoopWp P c Q) Q) a w):LoopWp P c Q a w:=fun b k cs=>by
 obtain ⟨e,a₁,w₁,hq,harr⟩:=h b (.inLoop c :: k) cs
 cases e with
 | normal =>
  obtain ⟨e₂,a₂,w₂,hq₂,harr₂⟩:=hq b k cs
  exact ⟨e₂,a₂,w₂,hq₂,.of_steps (Steps.trans harr (.one step_inLoop)) harr₂⟩
 | exit id=>exact ⟨_,a₁,w₁,hq,.pass (x:=.inLoop c) rfl (fun _ _=>.inl (by simp)) harr⟩
 | goto l=>exact ⟨_,a₁,w₁,hq,.pass (x:=.inLoop c) rfl (fun _ _=>.inl (by simp)) harr⟩
 | ret=>exact ⟨_,a₁,w₁,hq,.pass (x:=.inLoop c) rfl (fun _ _=>.inl (by simp)) harr⟩
 | panic ch=>exact ⟨_,a₁,w₁,hq,.pass (x:=.inLoop c) rfl (fun _ _=>.inl (by simp)) harr⟩
 | outgrown=>exact ⟨_,a₁,w₁,hq,.pass (x:=.inLoop c) rfl (fun _ _=>.inl (by simp)) harr⟩
theorem LoopWp.mono {c:Code} {Q Q':Exit→Act→World→Prop} (h:LoopWp P c Q a w) (hq:∀ e a w,Q e a w→Q' e a w):LoopWp P c Q' a w:=fun b k cs =>
 let ⟨e,a',w',q,harr⟩:=h b k cs
 ⟨e,a',w',hq _ _ _ q,harr⟩

def AL (P:Program) (N n0:Nat) (c:Code) (Q:Exit→Env→Heap→Prop) (env:Env) (σ:Heap):Prop :=
 ∀ φ ι a w,HOK φ ι σ w→EOK N φ ι env a∧n0≤σ.length→LoopWp P c (AWR N n0 φ ι w Q) a w
def LoopK (P:Program) (N n0:Nat) (c:Code) (Q:Exit→Env→Heap→Prop):Exit→Env→Heap→Prop
 | .normal,env,σ=>AL P N n0 c Q env σ
 | e,env,σ=>Q e env σ
theorem AW_loop {c:Code} {Q:Exit→Env→Heap→Prop} (h:AL P N n0 c Q env σ):AW P N n0 (.loop c) Q env σ:=fun φ ι a w h1 h2=>(h φ ι a w h1 h2).loop
theorem AL_round {c:Code} {Q:Exit→Env→Heap→Prop} (h:AW P N n0 c (LoopK P N n0 c Q) env σ):AL P N n0 c Q env σ:=fun φ ι a w h1 h2=>by
 refine LoopWp.round (Code.wp_mono (fun e a' w' q=>?_) (h φ ι a w h1 h2))
 obtain ⟨φ',ι',env',σ',g1,g2,g3,g4⟩:=q
 cases e
 case normal=>exact (g4 φ' ι' a' w' g2 g3).mono fun _ _ _ ⟨φ2,ι2,env2,σ2,q1,q2,q3,q4⟩=>⟨φ2,ι2,env2,σ2,g1.trans q1,q2,q3,q4⟩
 all_goals exact ⟨φ',ι',env',σ',g1,g2,g3,g4⟩

/-! ### Forgetting -/
def keep (live:List Nat) (env:Env):Env:=live.map fun t=>(t,look env t)
theorem look_keep (env:Env) (t:Nat):∀ live:List Nat,look (keep live env) t=if t∈live then look env t else .undef
 | []=>rfl
 | s :: live=>by
  simp only [keep,List.map_cons,look_cons]
  by_cases e:s=t
  ·subst e; simp
  ·rw [if_neg e]
   have:=look_keep env t live
   simp only [keep] at this
   rw [this]
   have:t≠s:=fun h=>e h.symm
   simp [this]
theorem EOK.keep (h:EOK N φ ι env a) (live:List Nat):EOK N φ ι (Kv.keep live env) a:=⟨h.sz,h.df,fun t=>by
 rw [look_keep]
 split
 ·exact h.rel t
 ·exact .undef _⟩

def Env.upto (n:Nat) (env:Env):Prop:=∀ x∈env,PV.upto n x.2
def AObj.upto (n:Nat):AObj→Prop
 | .dead=>True
 | .box cs=>∀ c∈cs,PV.upto n c
 | .arr _ _ _ xs=>∀ c∈flat xs,PV.upto n c
def heapUpto (n:Nat) (σ:Heap):Prop:=∀ o∈σ.take n,AObj.upto n o
theorem look_upto {n:Nat}:∀ {env:Env},env.upto n→∀ t,PV.upto n (look env t)
 | [],_,t=>fun φ ι v h=>.undef v
 | (k,c) :: env,h,t=>by
  simp only [look_cons]
  split
  ·exact h (k,c) (by simp)
  ·exact look_upto (fun x hx=>h x (by simp [hx])) t
theorem RelL.upto {n:Nat} {cs:List PV} {vs:List Value} (h:RelL φ ι cs vs) (hb:∀ c∈cs,PV.upto n c):RelL φ (ι.take n) cs vs:=⟨h.1,fun i c v hc hv=>hb c (List.mem_of_getElem? hc) _ _ _ (h.2 i c v hc hv)⟩
theorem take_get {α:Type} {l:List α} {n i:Nat} {x:α} (h:(l.take n)[i]? = some x):l[i]? = some x:=by
 rw [List.getElem?_take] at h
 split at h
 ·exact h
 ·cases h
theorem HOK.trunc (h:HOK φ ι σ w) (n:Nat) (hb:heapUpto n σ):HOK φ (ι.take n) (σ.take n) w where
 len:=by simp [h.len]
 fz:=h.fz
 nf:=fun id l b h1 h2=>h.nf id l b (take_get h1) h2
 dis:=fun id id' l l' b h1 h2 h3 h4=>h.dis id id' l l' b (take_get h1) (take_get h2) h3 h4
 lt:=fun id l b h1 h2=>h.lt id l b (take_get h1) h2
 obj:=fun id o l h1 h2=>by
  have hm:=List.mem_of_getElem? h1
  have hbo:=hb o hm
  rw [List.getElem?_take] at h1 h2
  split at h1
  ·rw [if_pos (by assumption)] at h2
   have:=h.obj id o l h1 h2
   cases o with
   | dead=>cases l <;> simp [ObjOK]
   | box cs =>
    cases l <;> simp only [ObjOK] at this ⊢
    obtain ⟨C,e,g1,g2,g3⟩:=this
    exact ⟨C,e,g1,g2.upto hbo,g3⟩
   | arr ver e es xs =>
    cases l <;> simp only [ObjOK] at this ⊢
    obtain ⟨g1,g2,g3,g4,ys,g5,g6,g7⟩:=this
    exact ⟨g1,g2,g3,g4,ys,g5,g6.upto hbo,g7⟩
  ·cases h1
theorem Tr.trunc (h:HOK φ ι σ w) (n:Nat) (hn:n0≤n):Tr n0 φ ι w φ (ι.take n) w where
 f:=.refl _
 l:=fun id l x=>by
  refine ⟨l,?_,l.le_refl⟩
  rw [List.getElem?_take] at x ⊢
  split at x
  ·rw [if_pos (by omega)]; exact x
  ·cases x
 fr:=fun _ _ _=>rfl
 sz:=Nat.le_refl _
 ow:=fun b ⟨id,l,h1,h2⟩=>.inl ⟨id,l,take_get h1,h2⟩
 os:=rfl
 tp:=rfl
 out:=rfl
 fn:=fun _ _ h=>.inl h

theorem AL_keep {c:Code} {Q:Exit→Env→Heap→Prop} (live:List Nat) (h:AL P N n0 c Q (keep live env) σ):AL P N n0 c Q env σ:=fun φ ι a w h1 h2=>h φ ι a w h1 ⟨h2.1.keep live,h2.2⟩
theorem AL_drop {c:Code} {Q:Exit→Env→Heap→Prop} (n:Nat) (hn:n0≤n) (hle:n≤σ.length) (he:env.upto n) (hb:heapUpto n σ) (h:AL P N n0 c Q env (σ.take n)):AL P N n0 c Q env σ:=fun φ ι a w h1 h2=>by
 have:=h φ (ι.take n) a w (h1.trunc n hb) ⟨⟨h2.1.sz,h2.1.df,fun t=>look_upto he t _ _ _ (h2.1.rel t)⟩,by simp; omega⟩
 refine this.mono fun e a' w' ⟨φ',ι',env',σ',g1,g2,g3,g4⟩=>⟨φ',ι',env',σ',(Tr.trunc (n0:=n0) h1 n hn).trans g1,g2,g3,g4⟩
end Go.Kv
end

/- Code in its compact form, functions: how a call is entered, what it hands back. -/
section
namespace Go.Kv
set_option linter.unusedVariables false
set_option linter.unusedSimpArgs false

inductive KC where
 | skip
 | ops (l:List KO)
 | draw (l:List KO)
 | tree (t:KT)
 | seq (a b:KC)
 | cond (x:KX) (a b:KC)
 | block (id:Nat) (b:KC)
 | loop (b:KC)
 | exit (id:Nat)
 | ret

structure Cfg where
 P:Program
 fz:List Nat
 N:Nat
 n0:Nat
 /-- What a region that draws its order means, and that it means it. -/
 D:List KO→(Exit→Env→Heap→Prop)→Env→Heap→Prop
 dr:Array Oper→Option (List KO)
 ok:∀ (id:Nat) (ops:Array Oper) (kos:List KO) (Q:Exit→Env→Heap→Prop) (env:Env) (σ:Heap),dr ops=some kos→D kos Q env σ→AW P N n0 (.region id ops true) Q env σ
 drT:Array Oper→Option KT
 okT:∀ (id:Nat) (ops:Array Oper) (t:KT) (Q:Exit→Env→Heap→Prop) (env:Env) (σ:Heap),drT ops=some t→vT P t Q env σ→AW P N n0 (.region id ops true) Q env σ

def trCode (C:Cfg):Code→Option KC
 | .skip=>some .skip
 | .region _ ops false=>do
  let kos ← ops.toList.mapM (trOper C.P C.fz C.N ops)
  if guardsOK C.N kos=true then some (.ops kos) else none
 | .region _ ops true=>match C.dr ops with
  | some l=>some (.draw l)
  | none=>(C.drT ops).map .tree
 | .seq a b=>do some (.seq (← trCode C a) (← trCode C b))
 | .cond x a b=>do some (.cond (← trX x) (← trCode C a) (← trCode C b))
 | .block id b=>(trCode C b).map (.block id)
 | .loop b=>(trCode C b).map .loop
 | .exit id=>some (.exit id)
 | .ret=>some .ret
 | .label _=>some .skip
 | _=>none

def KL (C:Cfg) (b:KC) (Q:Exit→Env→Heap→Prop) (env:Env) (σ:Heap):Prop:=∀ c,trCode C c=some b→AL C.P C.N C.n0 c Q env σ
def vc (C:Cfg):KC→(Exit→Env→Heap→Prop)→Env→Heap→Prop
 | .skip,Q,env,σ=>Q .normal env σ
 | .ops l,Q,env,σ=>vOps C.P l Q env σ
 | .draw l,Q,env,σ=>C.D l Q env σ
 | .tree t,Q,env,σ=>vT C.P t Q env σ
 | .seq a b,Q,env,σ=>vc C a (fun e env σ=>match e with | .normal=>vc C b Q env σ | e=>Q e env σ) env σ
 | .cond x a b,Q,env,σ=>(match kx env x with | .bool t=>(t=true→vc C a Q env σ)∧(t=false→vc C b Q env σ) | _=>False)
 | .block id b,Q,env,σ=>vc C b (BlockK id Q) env σ
 | .loop b,Q,env,σ=>KL C b Q env σ
 | .exit id,Q,env,σ=>Q (.exit id) env σ
 | .ret,Q,env,σ=>Q .ret env σ
def SK (C:Cfg) (b:KC) (Q:Exit→Env→Heap→Prop) (e:Exit) (env:Env) (σ:Heap):Prop :=
 match e with
 | .normal=>vc C b Q env σ
 | e=>Q e env σ
def LK (C:Cfg) (b:KC) (Q:Exit→Env→Heap→Prop) (e:Exit) (env:Env) (σ:Heap):Prop :=
 match e with
 | .normal=>KL C b Q env σ
 | e=>Q e env σ

theorem vc_sound {C:Cfg}:∀ {k:KC} {c:Code} {Q:Exit→Env→Heap→Prop} {env:Env} {σ:Heap},trCode C c=some k→vc C k Q env σ→AW C.P C.N C.n0 c Q env σ:=by
 intro k c
 induction c generalizing k with
 | skip=>intro Q env σ h hv; simp [trCode] at h; subst h; exact AW_skip hv
 | region id ops d =>
  intro Q env σ h hv
  cases d with
  | false =>
   simp only [trCode,Option.bind_eq_bind,Option.bind_eq_some_iff] at h
   obtain ⟨kos,hk,h⟩:=h
   split at h
   ·rename_i hg
    simp only [Option.some.injEq] at h; subst h
    exact AW_region hk hg hv
   ·cases h
  | true =>
   simp only [trCode] at h
   split at h
   ·rename_i kos hk
    simp only [Option.some.injEq] at h; subst h
    exact C.ok id ops kos Q env σ hk hv
   ·simp only [Option.map_eq_some_iff] at h
    obtain ⟨kt,hk,rfl⟩:=h
    exact C.okT id ops kt Q env σ hk hv
 | seq a b iha ihb =>
  intro Q env σ h hv
  simp only [trCode,Option.bind_eq_bind,Option.bind_eq_some_iff,Option.some.injEq] at h
  obtain ⟨ka,ha,kb,hb,rfl⟩:=h
  refine AW_seq ((iha ha hv).mono fun e env σ q=>?_)
  cases e
  case normal=>exact ihb hb q
  all_goals exact q
 | cond x a b iha ihb =>
  intro Q env σ h hv
  simp only [trCode,Option.bind_eq_bind,Option.bind_eq_some_iff,Option.some.injEq] at h
  obtain ⟨x',hx,ka,ha,kb,hb,rfl⟩:=h
  simp only [vc] at hv
  split at hv
  ·rename_i t ht
   exact AW_cond hx ht (fun e=>iha ha (hv.1 e)) (fun e=>ihb hb (hv.2 e))
  ·exact hv.elim
 | block id b ih =>
  intro Q env σ h hv
  simp only [trCode,Option.map_eq_some_iff] at h
  obtain ⟨kb,hb,rfl⟩:=h
  exact AW_block (ih hb hv)
 | loop b ih =>
  intro Q env σ h hv
  simp only [trCode,Option.map_eq_some_iff] at h
  obtain ⟨kb,hb,rfl⟩:=h
  exact AW_loop (hv b hb)
 | exit id=>intro Q env σ h hv; simp [trCode] at h; subst h; exact AW_exit hv
 | ret=>intro Q env σ h hv; simp [trCode] at h; subst h; exact AW_ret hv
 | label l=>intro Q env σ h hv; simp [trCode] at h; subst h; exact AW_label hv
 | rangeFunc=>intro Q env σ h hv; simp [trCode] at h
 | scope=>intro Q env σ h hv; simp [trCode] at h
 | goto=>intro Q env σ h hv; simp [trCode] at h
 | refuse=>intro Q env σ h hv; simp [trCode] at h

theorem KL_round {C:Cfg} {b:KC} {Q:Exit→Env→Heap→Prop} {env:Env} {σ:Heap} (h:vc C b (LK C b Q) env σ):KL C b Q env σ:=fun c hc =>
 AL_round ((vc_sound hc h).mono fun e env σ q=>by
  cases e
  case normal=>exact q c hc
  all_goals exact q)
theorem KL_keep {C:Cfg} {b:KC} {Q:Exit→Env→Heap→Prop} {env:Env} {σ:Heap} (live:List Nat) (h:KL C b Q (keep live env) σ):KL C b Q env σ:=fun c hc=>AL_keep live (h c hc)
theorem KL_drop {C:Cfg} {b:KC} {Q:Exit→Env→Heap→Prop} {env:Env} {σ:Heap} (n:Nat) (hn:C.n0≤n) (hle:n≤σ.length) (he:env.upto n) (hb:heapUpto n σ) (h:KL C b Q env (σ.take n)):KL C b Q env σ:=fun c hc=>AL_drop n hn hle he hb (h c hc)

/-! ### Results -/
inductive KR where
 | t (n:Nat)
 | cell (n:Nat) (agg:Bool) (sz:Nat)
def trRes (P:Program):ResultVar→Option KR
 | .tmp t=>some (.t t)
 | .cell t ty=>do some (.cell t (← isAggT P ty) (← szT P ty))
def Ret (n0:Nat) (v:PV) (σ:Heap) (v':PV) (σ':Heap):Prop :=
 ∀ φ ι w x,n0≤σ.length→HOK φ ι σ w→Rel φ ι v x→∃ φ' ι',Tr n0 φ ι w φ' ι' w∧HOK φ' ι' σ' w∧Rel φ' ι' v' x
def Fin (n0:Nat) (K:PV→Heap→Prop) (v:PV) (σ:Heap):Prop:=∃ v' σ',Ret n0 v σ v' σ'∧K v' σ'
def resV (n0:Nat):List KR→List PV→(List PV→Prop)→Env→Heap→Prop
 | [],vs,K,env,σ=>K vs
 | .t n :: r,vs,K,env,σ=>resV n0 r (vs ++ [look env n]) K env σ
 | .cell n g z :: r,vs,K,env,σ=>aLoad g z (look env n) σ fun v=>resV n0 r (vs ++ [v]) K env σ
def unTup:List PV→PV
 | [v]=>v
 | vs=>.tup vs
def FinK (n0:Nat) (rs:List KR) (K:PV→Heap→Prop) (e:Exit) (env:Env) (σ:Heap):Prop :=
 match e with
 | .normal | .ret=>resV n0 rs [] (fun vs=>Fin n0 K (unTup vs) σ) env σ
 | _=>False

theorem res_sound {P:Program} {n0 N:Nat} {φ:Frz} {ι:List KLoc} {σ:Heap} {w:World} {env:Env} {a:Act} (h1:HOK φ ι σ w) (h2:EOK N φ ι env a):∀ {rs:List ResultVar} {ks:List KR} {vs:List PV} {us:List Value} {K:List PV→Prop},rs.mapM (trRes P)=some ks→RelL φ ι vs us→resV n0 ks vs K env σ →
  ∃ cs xs,(rs.mapM fun r=>(match r with | .tmp t=>pure (a.tmps.getD t Go.undef) | .cell b t=>do loadVar t (← asAddr (a.tmps.getD b Go.undef)):Sem Value)).run P w = .ok xs w∧RelL φ ι (vs ++ cs) (us ++ xs)∧K (vs ++ cs)
 | [],ks,vs,us,K,h,hr,hv=>by
  simp at h; subst h
  exact ⟨[],[],by simp,by simpa using hr,by simpa [resV] using hv⟩
 | .tmp t :: rs,ks,vs,us,K,h,hr,hv=>by
  simp only [List.mapM_cons,Option.bind_eq_bind,Option.pure_def,Option.bind_eq_some_iff,Option.some.injEq,trRes] at h
  obtain ⟨_,rfl,ks',hks,rfl⟩:=h
  have hrt:=hr.append (.cons (h2.rel t) (.nil φ ι))
  obtain ⟨cs,xs,g1,g2,g3⟩:=res_sound h1 h2 hks hrt hv
  refine ⟨look env t :: cs,a.tmps.getD t Go.undef :: xs,?_,by simpa using g2,by simpa using g3⟩
  simp only [List.mapM_cons,Sem.run_bind,Sem.run_pure,Result.andThen_ok,g1]
 | .cell b t :: rs,ks,vs,us,K,h,hr,hv=>by
  simp only [List.mapM_cons,Option.bind_eq_bind,Option.pure_def,Option.bind_eq_some_iff,Option.some.injEq,trRes] at h
  obtain ⟨_,⟨g,hg,z,hz,rfl⟩,ks',hks,rfl⟩:=h
  simp only [resV] at hv
  obtain ⟨u,c,q1,q2,q3⟩:=load_sound (P:=P) (t:=t) h1 hg hz (h2.rel b) hv
  have hrt:=hr.append (.cons q2 (.nil φ ι))
  obtain ⟨cs,xs,g1,g2,g3⟩:=res_sound h1 h2 hks hrt q3
  refine ⟨c :: cs,u :: xs,?_,by simpa using g2,by simpa using g3⟩
  have q4:(do loadVar t (← asAddr (a.tmps.getD b Go.undef)):Sem Value).run P w = .ok u w:=by
   have q5:=calm_ok q1
   unfold Instr.loadAt Instr.sureAddr at q5
   unfold asAddr
   split at q5
   ·rename_i ad he; rw [he]; simpa using q5
   ·simp at q5
  simp only [List.mapM_cons,Sem.run_bind,Result.andThen_ok] at q4 ⊢
  rw [q4]
  simp only [Result.andThen_ok,g1,Sem.run_pure]

def Wf (σ:Heap):Prop:=heapUpto σ.length σ

theorem Rel.upto {φ:Frz} {ι:List KLoc} {c:PV} {v:Value} (h:Rel φ ι c v):PV.upto ι.length c:=by
 induction h with
 | undef v=>exact fun _ _ v _=>.undef v
 | int k n=>intro φ' ι' v h; cases h; exact .int k n
 | bool b=>intro φ' ι' v h; cases h; exact .bool b
 | str s=>intro φ' ι' v h; cases h; exact .str s
 | agg cs vs h1 h2 _ ih =>
  intro φ' ι' v h
  cases h with
  | agg _ vs' g1 g2 g3 =>
   refine .agg cs vs' g1 g2 fun i c v hc hv=>?_
   have hi:i<vs.length:=by rw [← h1]; exact (List.getElem?_eq_some_iff.1 hc).1
   exact ih i c _ hc (List.getElem?_eq_getElem hi) _ _ _ (g3 i c v hc hv)
 | tup cs vs h1 _ ih =>
  intro φ' ι' v h
  cases h with
  | tup _ vs' g1 g3 =>
   refine .tup cs vs' g1 fun i c v hc hv=>?_
   have hi:i<vs.length:=by rw [← h1]; exact (List.getElem?_eq_some_iff.1 hc).1
   exact ih i c _ hc (List.getElem?_eq_getElem hi) _ _ _ (g3 i c v hc hv)
 | ptr id off b h =>
  have hid:=(List.getElem?_eq_some_iff.1 h).1
  intro φ' ι' v h'
  cases h' with
  | ptr _ _ b' hb=>exact .ptr id off b' (by rw [List.getElem?_take,if_pos hid]; exact hb)
 | fptr cs off b o C hb hok g hg _ ih =>
  intro φ' ι' v h
  cases h with
  | fptr _ _ b' o' C' hb' hok' g' hg' hr'=>exact .fptr cs off b' o' C' hb' hok' g' hg' fun j c hc=>ih j c hc _ _ _ (hr' j c hc)
 | nilptr=>intro φ' ι' v h; cases h; exact .nilptr
 | nils=>intro φ' ι' v h; cases h; exact .nils
 | list0 cap a =>
  intro φ' ι' v h
  cases h with
  | list0 cap a=>exact .list0 _ _
  | listn=>exact .listn
  | list _ esz b o len cap' C hl hc hb hsz g hg hr=>exact .list [] esz b o len cap' C hl hc hb hsz g hg fun i x j c hx=>by simp at hx
 | listn =>
  intro φ' ι' v h
  cases h with
  | list0 cap a=>exact .list0 _ _
  | listn=>exact .listn
  | list _ esz b o len cap' C hl hc hb hsz g hg hr=>exact .list [] esz b o len cap' C hl hc hb hsz g hg fun i x j c hx=>by simp at hx
 | list xs esz b o len cap C h1 hc hb hsz g hg _ ih =>
  intro φ' ι' v h
  cases h with
  | list0 cap a=>exact .list0 _ _
  | listn=>exact .listn
  | list _ esz' b' o' len' cap' C' h1' hc' hb' hsz' g' hg' hr'=>exact .list xs esz' b' o' len' cap' C' h1' hc' hb' hsz' g' hg' fun i x j c hx hc=>ih i x j c hx hc _ _ _ (hr' i x j c hx hc)
 | ref id ver off len v k e esz u h ho hk hv =>
  have hid:=(List.getElem?_eq_some_iff.1 h).1
  intro φ' ι' v' h'
  cases h' with
  | ref _ _ _ _ _ k' e' s' u' hh ho' hk' hv'=>exact .ref id ver off len v' k' e' s' u' (by rw [List.getElem?_take,if_pos hid]; exact hh) ho' hk' hv'
 | eptr id ver i off v k e esz u h ho hk hv =>
  have hid:=(List.getElem?_eq_some_iff.1 h).1
  intro φ' ι' v' h'
  cases h' with
  | eptr _ _ _ _ _ k' e' s' u' hh ho' hk' hv'=>exact .eptr id ver i off v' k' e' s' u' (by rw [List.getElem?_take,if_pos hid]; exact hh) ho' hk' hv'
 | bref id off len b cap h hc =>
  have hid:=(List.getElem?_eq_some_iff.1 h).1
  intro φ' ι' v' h'
  cases h' with
  | bref _ _ _ b' cap' hb hc'=>exact .bref id off len b' cap' (by rw [List.getElem?_take,if_pos hid]; exact hb) hc'
 | fn f a b u v h1 h2 _ _ ih1 ih2 =>
  intro φ' ι' v' h'
  cases h' with
  | fn _ _ _ u' v' g1 g2 g3 g4 =>
   refine .fn f a b u' v' g1 g2 (fun i c x hc hx=>?_) (fun i c x hc hx=>?_)
   ·have hi:i<u.length:=by rw [← h1]; exact (List.getElem?_eq_some_iff.1 hc).1
    exact ih1 i c _ hc (List.getElem?_eq_getElem hi) _ _ _ (g3 i c x hc hx)
   ·have hi:i<v.length:=by rw [← h2]; exact (List.getElem?_eq_some_iff.1 hc).1
    exact ih2 i c _ hc (List.getElem?_eq_getElem hi) _ _ _ (g4 i c x hc hx)
 | nilf=>intro φ' ι' v h; cases h; exact .nilf
 | nili=>intro φ' ι' v h; cases h; exact .nili
theorem RelL.uptoL {φ:Frz} {ι:List KLoc} {cs:List PV} {vs:List Value} (h:RelL φ ι cs vs):∀ c∈cs,PV.upto ι.length c:=fun c hc=>by
 obtain ⟨i,hi⟩:=List.getElem?_of_mem hc
 obtain ⟨v,_,hr⟩:=h.get hi
 exact hr.upto
theorem HOK.wf {φ:Frz} {ι:List KLoc} {σ:Heap} {w:World} (h:HOK φ ι σ w):Wf σ:=fun o ho=>by
 rw [List.take_length] at ho
 obtain ⟨id,hid⟩:=List.getElem?_of_mem ho
 rw [← h.len]
 cases o with
 | dead=>trivial
 | box cs =>
  obtain ⟨b,_,C,e,_,hR,_⟩:=box_open h hid
  exact hR.uptoL
 | arr ver e es xs =>
  obtain ⟨u,_,_,ys,_,hR,_⟩:=arr_open h hid
  exact hR.uptoL

def argEnv:Nat→List PV→Env
 | _,[]=>[]
 | i,a :: r=>(i,a) :: argEnv (i+1) r
theorem look_argEnv:∀ (args:List PV) (i t:Nat),look (argEnv i args) t=if i≤t then (args[t - i]?).getD .undef else .undef
 | [],i,t=>by simp [argEnv]
 | a :: r,i,t=>by
  simp only [argEnv,look_cons,look_argEnv r]
  by_cases h1:i=t
  ·subst h1; simp
  ·rw [if_neg h1]
   by_cases h2:i≤t
   ·rw [if_pos h2,if_pos (by omega),show t - i=(t - (i+1))+1 by omega,List.getElem?_cons_succ]
   ·rw [if_neg h2,if_neg (by omega)]

theorem ACall_enter {C:Cfg} {fid:FuncId} {fn:Func} {c:Code} {k:KC} {rs:List KR} {args:List PV} {σ:Heap} {K:PV→Heap→Prop} (hf:C.P.funcs[fid]? = some fn) (hbody:fn.body=some c) (hname:(fn.name == "runtime.NumGoroutine")=false)
  (hN:fn.ntmps=C.N) (hn0:C.n0 = σ.length) (hargs:args.length≤C.N) (hc:trCode C c=some k) (hr:fn.results.toList.mapM (trRes C.P)=some rs)
  (h:Wf σ→(∀ a∈args,PV.upto σ.length a)→vc C k (FinK C.n0 rs K) (argEnv 0 args) σ):ACall C.P fid args σ K:=by
 refine ⟨⟨fn,hf,by simp [hbody],hname⟩,fun φ ι w vs hrel ho=>?_⟩
 have hw:=h ho.wf (fun a ha=>by rw [← ho.len]; exact hrel.uptoL a ha)
 refine calls_of_wp hf hbody ?_
 have hvl:vs.length≤C.N:=by rw [← hrel.1]; exact hargs
 have he:EOK C.N φ ι (argEnv 0 args) { tmps:=vs.toArray ++ Array.replicate (fn.ntmps - vs.toArray.size) Go.undef,defers:=[] }:=by
  refine ⟨by simp [hN]; omega,rfl,fun t=>?_⟩
  rw [look_argEnv,if_pos (Nat.zero_le _),Nat.sub_zero]
  cases ha:args[t]? with
  | none=>exact .undef _
  | some x =>
   obtain ⟨v,hv,hrx⟩:=hrel.get ha
   have hlt:=(List.getElem?_eq_some_iff.1 hv).1
   have:(vs.toArray ++ Array.replicate (fn.ntmps - vs.toArray.size) Go.undef).getD t Go.undef=v:=by
    have hvv:=(List.getElem?_eq_some_iff.1 hv).2
    simp [Array.getD_eq_getD_getElem?,Array.getElem?_append,hlt,hvv]
   rw [this]; exact hrx
 refine Code.wp_mono (fun e a' w' q=>?_) (vc_sound hc hw φ ι _ w ho ⟨he,by rw [hn0]; exact Nat.le_refl _⟩)
 obtain ⟨φ',ι',env',σ',g1,g2,⟨g3,g3'⟩,g4⟩:=q
 have fin:resV C.n0 rs [] (fun vs=>Fin C.n0 K (unTup vs) σ') env' σ'→a'.defers = []∧∃ v,(results fn a'.tmps).run C.P w' = .ok v w'∧ACallR σ φ ι w K (.returned v) w':=by
  intro hres
  refine ⟨g3.df,?_⟩
  obtain ⟨cs,xs,q1,q2,v',σ2,q3,q4⟩:=res_sound (P:=C.P) (n0:=C.n0) g2 g3 hr (.nil _ _) hres
  simp only [List.nil_append] at q2 q3
  have hx:∃ u,(results fn a'.tmps).run C.P w' = .ok u w'∧Rel φ' ι' (unTup cs) u:=by
   have hrun:(results fn a'.tmps).run C.P w' = .ok (if h:xs.toArray.size=1 then xs.toArray[0] else .tuple xs.toArray) w':=by
    unfold results
    have hmm:(fn.results.mapM fun r=>(match r with | .tmp t=>pure (a'.tmps.getD t Go.undef) | .cell b t=>do loadVar t (← asAddr (a'.tmps.getD b Go.undef)):Sem Value)).run C.P w' = .ok xs.toArray w':=by
     rw [Array.mapM_eq_mapM_toList]
     simp only [Sem.run_map,q1,Result.andThen_ok]
    simp only [Sem.run_bind]
    refine Eq.trans (congrArg (fun q=>Result.andThen q _) (?_:_=Result.ok xs.toArray w')) rfl
    exact hmm
   by_cases h1:xs.length=1
   ·obtain ⟨x,rfl⟩:=List.length_eq_one_iff.1 h1
    obtain ⟨c,rfl⟩:=List.length_eq_one_iff.1 (q2.1.trans h1)
    exact ⟨x,by simpa using hrun,q2.2 0 c x rfl rfl⟩
   ·have hne:unTup cs = .tup cs:=by
     unfold unTup
     split
     ·have:=q2.1; simp at this; omega
     ·rfl
    refine ⟨.tuple xs.toArray,?_,by rw [hne]; exact .tup _ _ q2.1 q2.2⟩
    rw [hrun]
    rw [dif_neg (by simpa using h1)]
  obtain ⟨u,hu1,hu2⟩:=hx
  obtain ⟨φ2,ι2,p1,p2,p3⟩:=q3 φ' ι' w' u g3' g2 hu2
  exact ⟨u,hu1,v',u,φ2,ι2,σ2,rfl,p3,hn0 ▸ (g1.trans p1),p2,q4⟩
 cases e <;> simp only [FinK] at g4
 case normal=>exact fin g4
 case ret=>exact fin g4

end Go.Kv
end

/- Renumbering of objects; calls of functions that know nothing of the heap at hand: the frame rule, and the rule for arguments that are lent to be read. -/
section
namespace Go.Kv
set_option linter.unusedVariables false
set_option linter.unusedSimpArgs false

mutual
def PV.ren (f:Nat→Nat):PV→PV
 | .undef=>.undef
 | .int k n=>.int k n
 | .bool b=>.bool b
 | .str s=>.str s
 | .agg cs=>.agg (PV.renL f cs)
 | .tup vs=>.tup (PV.renL f vs)
 | .ptr id off=>.ptr (f id) off
 | .fptr cs off=>.fptr (PV.renL f cs) off
 | .nilptr=>.nilptr
 | .nils=>.nils
 | .list xs=>.list (PV.renL f xs)
 | .ref id ver off len=>.ref (f id) ver off len
 | .eptr id ver i off=>.eptr (f id) ver i off
 | .bref id off len=>.bref (f id) off len
 | .fn g a b=>.fn g (PV.renL f a) (PV.renL f b)
 | .nilf=>.nilf
 | .nili=>.nili
def PV.renL (f:Nat→Nat):List PV→List PV
 | []=>[]
 | c :: cs=>c.ren f :: PV.renL f cs
end
@[simp] theorem renL_eq (f:Nat→Nat):∀ cs:List PV,PV.renL f cs=cs.map (PV.ren f)
 | []=>by simp [PV.renL]
 | c :: cs=>by simp [PV.renL,renL_eq f cs]
def AObj.ren (f:Nat→Nat):AObj→AObj
 | .dead=>.dead
 | .box cs=>.box (cs.map (PV.ren f))
 | .arr v e s xs=>.arr v e s (xs.map (PV.ren f))

theorem ren_ok (f:Nat→Nat) (c:PV):(c.ren f).ok=c.ok:=by cases c <;> simp [PV.ren,PV.ok]
theorem ren_oks (f:Nat→Nat) (cs:List PV):(cs.map (PV.ren f)).all PV.ok=cs.all PV.ok:=by
 induction cs with
 | nil=>rfl
 | cons c cs ih=>simp only [List.map_cons,List.all_cons,ren_ok,ih]
theorem ren_cs (f:Nat→Nat) (c:PV):(c.ren f).cs=c.cs.map (PV.ren f):=by cases c <;> simp [PV.ren,PV.cs]
theorem ren_flat (f:Nat→Nat) (xs:List PV):flat (xs.map (PV.ren f))=(flat xs).map (PV.ren f):=by
 induction xs with
 | nil=>rfl
 | cons x xs ih=>simp [ih,ren_cs]
theorem getR (f:Nat→Nat) {cs:List PV} {i:Nat} {c:PV} (h:(cs.map (PV.ren f))[i]? = some c):∃ d,cs[i]? = some d∧c=d.ren f:=by
 simp only [List.getElem?_map,Option.map_eq_some_iff] at h
 obtain ⟨d,h1,h2⟩:=h
 exact ⟨d,h1,h2.symm⟩

theorem Rel.ren {φ:Frz} {ι ι':List KLoc} {f:Nat→Nat} (hι:∀ (id:Nat) (l:KLoc),ι[id]? = some l→ι'[f id]? = some l) {c:PV} {v:Value} (h:Rel φ ι c v):Rel φ ι' (c.ren f) v:=by
 induction h with
 | undef v=>exact .undef v
 | int k n=>exact .int k n
 | bool b=>exact .bool b
 | str s=>exact .str s
 | agg cs vs h1 h2 _ ih =>
  simp only [PV.ren,renL_eq]
  refine .agg _ vs (by simpa using h1) (by rw [ren_oks]; exact h2) fun i c v hc hv=>?_
  obtain ⟨d,hd,rfl⟩:=getR f hc
  exact ih i d v hd hv
 | tup cs vs h1 _ ih =>
  simp only [PV.ren,renL_eq]
  refine .tup _ vs (by simpa using h1) fun i c v hc hv=>?_
  obtain ⟨d,hd,rfl⟩:=getR f hc
  exact ih i d v hd hv
 | ptr id off b h=>exact .ptr _ off b (hι _ _ h)
 | fptr cs off b o C hb hok g hg _ ih =>
  simp only [PV.ren,renL_eq]
  refine .fptr _ off b o C hb (by rw [ren_oks]; exact hok) g (fun j c hc=>?_) (fun j c hc=>?_)
  ·obtain ⟨d,hd,rfl⟩:=getR f hc; exact hg j d hd
  ·obtain ⟨d,hd,rfl⟩:=getR f hc; exact ih j d hd
 | nilptr=>exact .nilptr
 | nils=>exact .nils
 | list0 cap a=>exact .list0 cap a
 | listn=>exact .listn
 | list xs esz b o len cap C h1 hc hb hsz g hg _ ih =>
  simp only [PV.ren,renL_eq]
  refine .list _ esz b o len cap C (by simpa using h1) hc hb (fun i x hx=>?_) g (fun i x j c hx hc=>?_) (fun i x j c hx hc=>?_)
  ·obtain ⟨d,hd,rfl⟩:=getR f hx
   rw [ren_cs,List.length_map,ren_oks]; exact hsz i d hd
  ·obtain ⟨d,hd,rfl⟩:=getR f hx
   rw [ren_cs] at hc
   obtain ⟨c',hc',rfl⟩:=getR f hc
   exact hg i d j c' hd hc'
  ·obtain ⟨d,hd,rfl⟩:=getR f hx
   rw [ren_cs] at hc
   obtain ⟨c',hc',rfl⟩:=getR f hc
   exact ih i d j c' hd hc'
 | ref id ver off len v k e esz u h ho hk hv=>exact .ref _ ver off len v k e esz u (hι _ _ h) ho hk hv
 | eptr id ver i off v k e esz u h ho hk hv=>exact .eptr _ ver i off v k e esz u (hι _ _ h) ho hk hv
 | bref id off len b cap h hc=>exact .bref _ off len b cap (hι _ _ h) hc
 | fn g a b u v h1 h2 _ _ ih1 ih2 =>
  simp only [PV.ren,renL_eq]
  refine .fn g _ _ u v (by simpa using h1) (by simpa using h2) (fun i c v hc hv=>?_) (fun i c v hc hv=>?_)
  ·obtain ⟨d,hd,rfl⟩:=getR f hc; exact ih1 i d v hd hv
  ·obtain ⟨d,hd,rfl⟩:=getR f hc; exact ih2 i d v hd hv
 | nilf=>exact .nilf
 | nili=>exact .nili
theorem RelL.ren {φ:Frz} {ι ι':List KLoc} {f:Nat→Nat} (hι:∀ (id:Nat) (l:KLoc),ι[id]? = some l→ι'[f id]? = some l) {cs:List PV} {vs:List Value} (h:RelL φ ι cs vs):RelL φ ι' (cs.map (PV.ren f)) vs :=
 ⟨by simpa using h.1,fun i c v hc hv=>by obtain ⟨d,hd,rfl⟩:=getR f hc; exact (h.2 i d v hd hv).ren hι⟩
theorem ObjOK.ren {φ:Frz} {ι ι':List KLoc} {f:Nat→Nat} (hι:∀ (id:Nat) (l:KLoc),ι[id]? = some l→ι'[f id]? = some l) {w:World} {o:AObj} {l:KLoc} (h:ObjOK φ ι w o l):ObjOK φ ι' w (o.ren f) l:=by
 cases o with
 | dead=>cases l <;> simp [ObjOK,AObj.ren]
 | box cs =>
  cases l <;> simp only [ObjOK,AObj.ren] at h ⊢
  obtain ⟨C,e,h1,h2,h3⟩:=h
  exact ⟨C,e,h1,h2.ren hι,by rw [ren_oks]; exact h3⟩
 | arr ver e es xs =>
  cases l <;> simp only [ObjOK,AObj.ren] at h ⊢
  obtain ⟨h1,h2,h2',h3,ys,h4,h5,h6,h7⟩:=h
  refine ⟨h1,h2,h2',h3,ys,by simpa using h4,by rw [ren_flat]; exact h5.ren hι,by rw [ren_flat,ren_oks]; exact h6,fun x hx=>?_⟩
  obtain ⟨d,hd,rfl⟩:=List.mem_map.1 hx
  rw [ren_cs,List.length_map]; exact h7 d hd

/-! ### What does not hang on what is frozen -/
def AObj.free:AObj→Prop
 | .dead=>True
 | .box cs=>∀ c∈cs,c.free
 | .arr _ _ _ xs=>∀ c∈flat xs,c.free
theorem RelL.free {φ φ':Frz} {ι:List KLoc} {cs:List PV} {vs:List Value} (hp:∀ c∈cs,c.free) (h:RelL φ ι cs vs):RelL φ' ι cs vs :=
 ⟨h.1,fun i c v hc hv=>hp c (List.mem_of_getElem? hc) _ _ _ _ (h.2 i c v hc hv)⟩
theorem ObjOK.free {φ φ':Frz} {ι:List KLoc} {w:World} {o:AObj} {l:KLoc} (hp:o.free) (h:ObjOK φ ι w o l):ObjOK φ' ι w o l:=by
 cases o with
 | dead=>cases l <;> simp [ObjOK]
 | box cs =>
  cases l <;> simp only [ObjOK] at h ⊢
  obtain ⟨C,e,h1,h2,h3⟩:=h
  exact ⟨C,e,h1,h2.free hp,h3⟩
 | arr ver e es xs =>
  cases l <;> simp only [ObjOK] at h ⊢
  obtain ⟨h1,h2,h2',h3,ys,h4,h5,h6⟩:=h
  exact ⟨h1,h2,h2',h3,ys,h4,h5.free hp,h6⟩

def allFrz (w:World):Frz:=fun b=>match w.heap[b]? with | some (.cells C _ _)=>some C | _=>none
theorem allFrz_hok (w:World):HOK (allFrz w) [] [] w where
 len:=rfl
 fz:=fun b C h=>by
  unfold allFrz at h
  split at h
  ·rename_i D e f hb; simp only [Option.some.injEq] at h; subst h; exact ⟨e,f,hb⟩
  ·cases h
 nf:=fun id l b h=>by simp at h
 dis:=fun id id' l l' b h=>by simp at h
 lt:=fun id l b h=>by simp at h
 obj:=fun id o l h=>by simp at h
theorem allFrz_le {φ:Frz} {ι:List KLoc} {σ:Heap} {w:World} (h:HOK φ ι σ w):FLe φ (allFrz w):=fun b C hb=>by
 obtain ⟨e,f,g⟩:=h.fz b C hb
 simp [allFrz,g]

theorem other {α β:Type} {l:List α} {m:List β} (h:l.length=m.length) {i:Nat} {x:β} (hx:m[i]? = some x):∃ y,l[i]? = some y:=by
 have:=(List.getElem?_eq_some_iff.1 hx).1
 exact ⟨l[i],List.getElem?_eq_getElem (by omega)⟩

theorem Imm.rel {φ φ1:Frz} {ι:List KLoc} {σ:Heap} {w:World} (ho:HOK φ ι σ w) (hle:FLe φ φ1) (hwn:∀ (id:Nat) (o:AObj) (l:KLoc) (b:Nat) (C:Array Value) (e:TypeId) (f:Nat × Nat),σ[id]? = some o→o≠.dead→ι[id]? = some l→l.block=some b→w.heap[b]? = some (.cells C e f)→φ1 b=some C) {c d:PV} (hi:Imm σ c d):∀ {v:Value},Rel φ ι c v→Rel φ1 [] d v:=by
 induction hi with
 | refl c h=>intro v hr; exact (by simpa using h _ _ _ hr:Rel φ [] c v).mono hle (.refl _)
 | agg cs ds hl hok _ ih =>
  intro v hr
  obtain ⟨vs,rfl,hR,_⟩:=hr.agg_inv
  refine .agg ds vs (by rw [← hl]; exact hR.1) hok fun i d v hd hv=>?_
  obtain ⟨c,hc⟩:=other hl hd
  exact ih i c d hc hd (hR.2 i c v hc hv)
 | ptr id off cs ds hob hl hok _ ih =>
  intro v hr
  obtain ⟨b,hb,rfl⟩:=hr.ptr_inv
  obtain ⟨b',hb',C,e,hcell,hR,_⟩:=box_open ho hob
  rw [hb] at hb'; cases hb'
  have:(.pointer (some ⟨b,off,none⟩):Value) = .pointer (some ⟨b,0+off,none⟩):=by simp
  rw [this]
  refine .fptr ds off b 0 C (hwn _ _ _ _ _ _ _ hob (by simp) hb rfl hcell) hok (fun j=>C.toList.getD j Go.undef) (fun j d hd=>?_) (fun j d hd=>?_)
  ·obtain ⟨c,hc⟩:=other hl hd
   obtain ⟨u,hu,_⟩:=hR.get hc
   have hu':C[j]? = some u:=by simpa using hu
   simp [hu']
  ·obtain ⟨c,hc⟩:=other hl hd
   obtain ⟨u,hu,hr⟩:=hR.get hc
   have hu':C[j]? = some u:=by simpa using hu
   have:=ih j c d hc hd hr
   simpa [hu'] using this
 | ref id ver off len e esz xs ds hob hn hl hs _ ih =>
  intro v hr
  obtain ⟨u,hu,hsz,ys,hown,hR,hok,hss⟩:=arr_open ho hob
  cases hr with
  | ref _ _ _ _ _ k e' s' u' h ho1 hk hv =>
   rw [hu] at h; cases h
   rcases hv rfl with ⟨b,n,cap,o,rfl,hcap,rfl,ho',ho0⟩ | ⟨rfl,rfl,rfl,rfl⟩
   ·rcases hown.2 with ⟨hbad,_⟩ | ⟨g,cap',cur,hveq,hb0,hg,hnc,hcm,hcs,htake⟩
    ·cases hbad
    ·cases hveq
     by_cases hlen:len=0
     ·subst hlen
      obtain rfl:=List.eq_nil_of_length_eq_zero hl
      exact .list0 _ _
     ·have hoo:o=off * esz:=ho' (by omega)
      subst hoo
      refine .list ds esz b (off * esz) len _ cur hl (by omega) (hwn _ _ _ _ _ _ _ hob (by simp) hu rfl hg) (fun i d hd=>?_) (fun i j=>ys.getD ((off+i) * esz+j) Go.undef) (fun i d j c hd hc=>?_) (fun i d j c hd hc=>?_)
      ·have hlt:=(List.getElem?_eq_some_iff.1 hd).1
       have hx:xs[off+i]? = some xs[off+i]:=List.getElem?_eq_getElem (by omega)
       have:=hs i _ d hx hd
       exact ⟨by rw [← this.1]; exact hss _ (List.getElem_mem _),this.2⟩
      all_goals
       have hlt:=(List.getElem?_eq_some_iff.1 hd).1
       have hx:xs[off+i]? = some xs[off+i]:=List.getElem?_eq_getElem (by omega)
       have hsz2:=hs i _ d hx hd
       obtain ⟨c0,hc0⟩:=other hsz2.1 hc
       have hj:j<esz:=by
        have:=(List.getElem?_eq_some_iff.1 hc0).1
        rwa [hss _ (List.getElem_mem _)] at this
       have hfl:(flat xs)[(off+i) * esz+j]? = some c0:=by
        have h5:=flat_get hss hx
        rw [← h5] at hc0
        rw [List.getElem?_take,if_pos hj,List.getElem?_drop] at hc0
        exact hc0
       obtain ⟨y,hy,hry⟩:=hR.get hfl
       have hyd:ys.getD ((off+i) * esz+j) Go.undef=y:=by simp [List.getD_eq_getElem?_getD,hy]
       rw [hyd]
      ·have hlt2:=(List.getElem?_eq_some_iff.1 hy).1
       rw [← htake,List.getElem?_take] at hy
       split at hy
       ·rw [show off * esz+i * esz+j=(off+i) * esz+j by rw [Nat.add_mul]]
        simpa using hy
       ·cases hy
      ·exact ih i _ d j c0 c hx hd hc0 hc hry
   ·obtain rfl:=List.eq_nil_of_length_eq_zero hl
    exact .listn
 | nils=>intro v hr; rw [hr.nils_inv]; exact .listn
 | tup cs ds hl _ ih =>
  intro v hr
  obtain ⟨vs,rfl,hR⟩:=hr.tup_inv
  refine .tup ds vs (by rw [← hl]; exact hR.1) fun i d v hd hv=>?_
  obtain ⟨c,hc⟩:=other hl hd
  exact ih i c d hc hd (hR.2 i c v hc hv)
 | fn f a b a' b' hl hm _ _ ih ih' =>
  intro v hr
  obtain ⟨x,y,rfl,hx,hy⟩:=hr.fn_inv
  refine .fn f a' b' x y (by rw [← hl]; exact hx.1) (by rw [← hm]; exact hy.1) (fun i d v hd hv=>?_) (fun i d v hd hv=>?_)
  ·obtain ⟨c,hc⟩:=other hl hd
   exact ih i c d hc hd (hx.2 i c v hc hv)
  ·obtain ⟨c,hc⟩:=other hm hd
   exact ih' i c d hc hd (hy.2 i c v hc hv)
theorem ImmL.nil (σ:Heap):ImmL σ [] []:=⟨rfl,by simp⟩
theorem ImmL.cons {σ:Heap} {c d:PV} {cs ds:List PV} (h:Imm σ c d) (h':ImmL σ cs ds):ImmL σ (c :: cs) (d :: ds):=by
 refine ⟨by simp [h'.1],fun i a b ha hb=>?_⟩
 cases i with
 | zero=>simp at ha hb; subst ha hb; exact h
 | succ i=>simp at ha hb; exact h'.2 i a b ha hb
theorem allFrz_own {w:World} {b:Nat} {C:Array Value} {e:TypeId} {f:Nat × Nat} (h:w.heap[b]? = some (.cells C e f)):allFrz w b=some C:=by simp [allFrz,h]
theorem Imm.tupL {σ:Heap} {cs ds:List PV} (h:ImmL σ cs ds):Imm σ (.tup cs) (.tup ds):=.tup cs ds h.1 h.2
theorem ImmL.rel {φ:Frz} {ι:List KLoc} {σ:Heap} {w:World} (ho:HOK φ ι σ w) {cs ds:List PV} (hi:ImmL σ cs ds) {vs:List Value} (h:RelL φ ι cs vs):RelL (allFrz w) [] ds vs :=
 ⟨by rw [← hi.1]; exact h.1,fun i d v hd hv=>by
  obtain ⟨c,hc⟩:=other hi.1 hd
  exact (hi.2 i c d hc hd).rel ho (allFrz_le ho) (fun _ _ _ _ _ _ _ _ _ _ _ hw=>allFrz_own hw) (h.2 i c v hc hv)⟩

def sh (n:Nat):Nat→Nat:=fun i=>i+n

theorem join {φ φ' φ2:Frz} {ι ι':List KLoc} {σ σ':Heap} {w w':World} (h:HOK φ ι σ w) (ht:Tr 0 φ2 [] w φ2 ι' w')
  (hle:FLe φ φ') (hnew:∀ b C,φ' b=some C→φ b=some C∨w.heap.size≤b)
  (hfz:∀ b C,φ' b=some C→∃ e f,w'.heap[b]? = some (.cells C e f))
  (hlen:ι'.length = σ'.length) (hnf:∀ (id:Nat) (l:KLoc) (b:Nat),ι'[id]? = some l→l.block=some b→φ' b=none)
  (hdis:∀ (id id':Nat) (l l':KLoc) (b:Nat),ι'[id]? = some l→ι'[id']? = some l'→l.block=some b→l'.block=some b→id=id')
  (hlt:∀ (id:Nat) (l:KLoc) (b:Nat),ι'[id]? = some l→l.block=some b→b<w'.heap.size)
  (hobj:∀ (id:Nat) (o:AObj) (l:KLoc),σ'[id]? = some o→ι'[id]? = some l→ObjOK φ' ι' w' o l) :
  HOK φ' (ι ++ ι') (σ ++ σ'.map (AObj.ren (sh σ.length))) w'∧Tr σ.length φ ι w φ' (ι ++ ι') w':=by
 have hkeep:∀ b,b<w.heap.size→w'.heap[b]? = w.heap[b]?:=fun b hb=>ht.fr b hb (fun ⟨_,_,h,_⟩=>by simp at h)
 have hold:∀ (id:Nat) (l:KLoc) (b:Nat),ι'[id]? = some l→l.block=some b→w.heap.size≤b:=fun id l b h1 h2=>by
  rcases ht.ow b ⟨id,l,h1,h2⟩ with ⟨_,_,h,_⟩ | h
  ·simp at h
  ·exact h
 have hcase:∀ (id:Nat) (l:KLoc),(ι ++ ι')[id]? = some l→(id < ι.length∧ι[id]? = some l)∨(ι.length≤id∧ι'[id - ι.length]? = some l):=fun id l hl=>by
  rw [List.getElem?_append] at hl
  split at hl
  ·exact .inl ⟨by assumption,hl⟩
  ·exact .inr ⟨by omega,hl⟩
 have hsh:∀ (id:Nat) (l:KLoc),ι'[id]? = some l→(ι ++ ι')[sh σ.length id]? = some l:=fun id l hl=>by
  rw [List.getElem?_append_right (by rw [h.len]; simp [sh]),h.len]
  simpa [sh] using hl
 refine ⟨⟨by simp [h.len,hlen],hfz,fun id l b h1 h2=>?_,fun id id' l l' b h1 h2 h3 h4=>?_,fun id l b h1 h2=>?_,fun id o l h1 h2=>?_⟩,⟨hle,(LLe.append _ _).of_take _,fun b hb _=>hkeep b hb,ht.sz,fun b ⟨id,l,h1,h2⟩=>?_,ht.os,ht.tp,ht.out,fun b C hb=>(hnew b C hb).imp id .inr⟩⟩
 ·rcases hcase id l h1 with ⟨_,h1⟩ | ⟨_,h1⟩
  ·cases hp:φ' b with
   | none=>rfl
   | some C =>
    rcases hnew b C hp with h5 | h5
    ·rw [h.nf id l b h1 h2] at h5; cases h5
    ·have:=h.lt id l b h1 h2; omega
  ·exact hnf _ l b h1 h2
 ·rcases hcase id l h1 with ⟨g1,h1⟩ | ⟨g1,h1⟩ <;> rcases hcase id' l' h2 with ⟨g2,h2⟩ | ⟨g2,h2⟩
  ·exact h.dis id id' l l' b h1 h2 h3 h4
  ·have:=h.lt id l b h1 h3; have:=hold _ l' b h2 h4; omega
  ·have:=h.lt id' l' b h2 h4; have:=hold _ l b h1 h3; omega
  ·have:=hdis _ _ l l' b h1 h2 h3 h4; omega
 ·rcases hcase id l h1 with ⟨g1,h1⟩ | ⟨g1,h1⟩
  ·exact Nat.lt_of_lt_of_le (h.lt id l b h1 h2) ht.sz
  ·exact hlt _ l b h1 h2
 ·rcases hcase id l h2 with ⟨g1,h2⟩ | ⟨g1,h2⟩
  ·rw [List.getElem?_append_left (by rw [← h.len]; exact g1)] at h1
   exact (h.obj id o l h1 h2).keep hle (.append _ _) (fun b hb=>hkeep b (h.lt id l b h2 hb))
  ·rw [List.getElem?_append_right (by rw [← h.len]; exact g1),← h.len] at h1
   simp only [List.getElem?_map,Option.map_eq_some_iff] at h1
   obtain ⟨o',h1,rfl⟩:=h1
   rw [← h.len] at hsh
   exact (hobj _ o' l h1 h2).ren hsh
 ·rcases hcase id l h1 with ⟨g1,h1⟩ | ⟨g1,h1⟩
  ·exact .inl ⟨id,l,h1,h2⟩
  ·exact .inr (hold _ l b h1 h2)

theorem ACall.frame {P:Program} {f:FuncId} {args:List PV} {σ:Heap} {K K':PV→Heap→Prop} (h:ACall P f args [] K') (ha:∀ a∈args,PV.upto 0 a)
  (hk:∀ v s,K' v s→K (v.ren (sh σ.length)) (σ ++ s.map (AObj.ren (sh σ.length)))):ACall P f args σ K:=by
 refine ⟨h.1,fun φ ι w vs hr ho=>?_⟩
 have h0:HOK φ [] [] w:=by simpa using ho.trunc 0 (fun o ho=>by simp at ho)
 have hr0:RelL φ [] args vs:=by simpa using hr.upto (n:=0) ha
 refine (h.2 φ [] w vs hr0 h0).mono fun e w' ⟨v,v',φ',ι',s,h1,h2,h3,h4,h5⟩=>?_
 have hn:∀ b C,φ' b=some C→φ b=some C∨w.heap.size≤b:=fun b C hb=>by
  rcases h3.fn b C hb with q | ⟨_,_,q,_⟩ | q
  ·exact .inl q
  ·simp at q
  ·exact .inr q
 obtain ⟨j1,j2⟩:=join (φ2:=φ) (σ':=s) ho ⟨.refl _,h3.l,h3.fr,h3.sz,h3.ow,h3.os,h3.tp,h3.out,fun _ _ h=>.inl h⟩ h3.f hn h4.fz h4.len h4.nf h4.dis h4.lt h4.obj
 refine ⟨_,v',φ',ι ++ ι',_,h1,h2.ren (f:=sh σ.length) (fun id l hl=>?_),j2,j1,hk v s h5⟩
 rw [List.getElem?_append_right (by rw [ho.len]; simp [sh]),ho.len]
 simpa [sh] using hl

theorem ACall.lend {P:Program} {f:FuncId} {args args':List PV} {σ:Heap} {K K':PV→Heap→Prop} (h:ACall P f args' [] K') (ha:ImmL σ args args')
  (hk:∀ v s,K' v s→(v.free∧∀ o∈s,AObj.free o)∧K (v.ren (sh σ.length)) (σ ++ s.map (AObj.ren (sh σ.length)))):ACall P f args σ K:=by
 refine ⟨h.1,fun φ ι w vs hr ho=>?_⟩
 refine (h.2 (allFrz w) [] w vs (ha.rel ho hr) (allFrz_hok w)).mono fun e w' ⟨v,v',φ',ι',s,h1,h2,h3,h4,h5⟩=>?_
 obtain ⟨⟨hv,hs⟩,hK⟩:=hk v s h5
 have hkeep:∀ b,b<w.heap.size→w'.heap[b]? = w.heap[b]?:=fun b hb=>h3.fr b hb (fun ⟨_,_,h,_⟩=>by simp at h)
 obtain ⟨j1,j2⟩:=join (φ2:=allFrz w) (φ':=φ) (σ':=s) ho ⟨.refl _,h3.l,h3.fr,h3.sz,h3.ow,h3.os,h3.tp,h3.out,fun _ _ h=>.inl h⟩ (.refl _) (fun _ _ h=>.inl h)
  (fun b C hb=>by
   obtain ⟨e,f,g⟩:=ho.fz b C hb
   exact ⟨e,f,(hkeep b (heap_lt g)).trans g⟩) h4.len
  (fun id l b q1 q2=>by
   cases hp:φ b with
   | none=>rfl
   | some C =>
    obtain ⟨e,f,g⟩:=ho.fz b C hp
    rcases h3.ow b ⟨id,l,q1,q2⟩ with ⟨_,_,q,_⟩ | q
    ·simp at q
    ·have:=heap_lt g; omega) h4.dis h4.lt (fun id o l q1 q2=>(h4.obj id o l q1 q2).free (hs o (List.mem_of_getElem? q1)))
 refine ⟨_,v',φ,ι ++ ι',_,h1,(hv _ _ _ _ h2).ren (f:=sh σ.length) (fun id l hl=>?_),j2,j1,hK⟩
 rw [List.getElem?_append_right (by rw [ho.len]; simp [sh]),ho.len]
 simpa [sh] using hl
end Go.Kv
end

/- Regions that draw their order: what only reads is taken first, calls that leave the heap alone come one by one, what writes comes last. -/
section
namespace Go.Kv
set_option linter.unusedVariables false
set_option linter.unusedSimpArgs false

section
variable {P:Program} {ops:Array Oper} {Q:Exit→Act→World→Prop} {md:Region.Mode} {S:World→Prop} {B:Nat→Bool}

def wpH (P:Program) (md:Region.Mode) (ops:Array Oper) (Q:Exit→Act→World→Prop) (B:Nat→Bool) (S:World→Prop):Nat→Array Bool→Act→World→Prop
 | 0,listed,a,w=>Region.ready md ops listed = []∧Q .normal a w
 | n+1,listed,a,w=>(Region.ready md ops listed = []→Q .normal a w) ∧
   ∀ i∈Region.ready md ops listed,wpOp P ops Q i (fun a' w'=>(B i=false→S w'∨w'=w)∧wpH P md ops Q B S n (listed.setIfInBounds i true) a' w') a w
theorem wpH_any:∀ (n:Nat) (listed:Array Bool) (a:Act) (w:World),wpH P md ops Q B S n listed a w→wpAny P md ops Q n listed a w
 | 0,_,_,_,h=>h
 | n+1,_,_,_,h=>⟨h.1,fun i hi=>wpOp_mono (fun a' w' q=>wpH_any n _ a' w' q.2) (h.2 i hi)⟩

def Closed (md:Region.Mode) (ops:Array Oper) (listed:Array Bool):Prop :=
 ∀ (j:Nat) (o:Oper),ops[j]? = some o→listed.getD j false=true→∀ e∈o.after,Region.binds md e=true→listed.getD e.on false=true
theorem Closed.set {listed:Array Bool} (h:Closed md ops listed) {j:Nat} (hj:j∈Region.ready md ops listed):Closed md ops (listed.setIfInBounds j true):=fun k o ho hk e he hb=>by
 by_cases hjk:j=k
 ·subst hjk
  obtain ⟨_,o',ho',hall⟩:=mem_ready.1 hj
  rw [ho] at ho'; cases ho'
  exact getD_set_true (hall e he hb)
 ·rw [getD_set_ne false hjk] at hk
  exact getD_set_true (h k o ho hk e he hb)
inductive Anc (md:Region.Mode) (ops:Array Oper) (i:Nat):Nat→Prop
 | one (j:Nat) (o:Oper) (e:Edge) (ho:ops[j]? = some o) (he:e∈o.after) (hb:Region.binds md e=true) (hi:e.on=i):Anc md ops i j
 | more (j:Nat) (o:Oper) (e:Edge) (ho:ops[j]? = some o) (he:e∈o.after) (hb:Region.binds md e=true) (h:Anc md ops i e.on):Anc md ops i j
theorem Anc.listed {listed:Array Bool} (hc:Closed md ops listed) {i j:Nat} (h:Anc md ops i j):(∀ o,ops[j]? = some o→∀ e∈o.after,Region.binds md e=true→listed.getD e.on false=true)→listed.getD i false=true:=by
 induction h with
 | one j o e ho he hb hi=>intro q; exact hi ▸ q o ho e he hb
 | more j o e ho he hb h ih=>intro q; exact ih fun o' ho' e' he' hb'=>hc e.on o' ho' (q o ho e he hb) e' he' hb'

theorem wpH_first {i:Nat} {oi:Oper} {v:Value} (hi:ops[i]? = some oi) (hsel:∀ (j:Nat) (o:Oper) cs b,ops[j]? = some o→o.op≠.select cs b)
  (hQ:∀ c a w,Q (.panic c) (a.put oi.dst v) w→Q (.panic c) a w) (hBi:B i=false) (hB:∀ b,B b=true→Anc md ops i b) :
  ∀ (n:Nat) (listed:Array Bool) (a:Act) (w:World),Closed md ops listed →
   (∀ j oj,ops[j]? = some oj→j≠i→listed.getD j true=false→(∀ e∈oj.after,Region.binds md e=true→e.on≠i)→oi.apart ops oj=true) →
   i∈Region.ready md ops listed→YieldsIf P ops S oi v a→S w →
   wpH P md ops Q B S n (listed.setIfInBounds i true) (a.put oi.dst v) w→wpH P md ops Q B S (n+1) listed a w:=by
 intro n
 induction n with
 | zero =>
  intro listed a w hc hfree hr hy hS H
  refine ⟨fun h=>(by rw [h] at hr; cases hr),fun j hj=>?_⟩
  by_cases hji:j=i
  ·subst hji; exact hy.wpOp hi hS ⟨fun _=>.inl hS,H⟩
  ·have:=ready_mono hj hji
   rw [H.1] at this
   cases this
 | succ n ih =>
  intro listed a w hc hfree hr hy hS H
  refine ⟨fun h=>(by rw [h] at hr; cases hr),fun j hj=>?_⟩
  by_cases hji:j=i
  ·subst hji; exact hy.wpOp hi hS ⟨fun _=>.inl hS,H⟩
  ·have h1:=H.2 j (ready_mono hj hji)
   obtain ⟨hjun,oj,hoj,hall⟩:=mem_ready.1 hj
   have hiun:listed.getD i false=false:=by
    have h0:=(mem_ready.1 hr).1
    rcases Nat.lt_or_ge i listed.size with h' | h'
    ·simp [h'] at h0 ⊢; exact h0
    ·simp [Array.getElem?_eq_none h'] at h0
   have hnot:∀ e∈oj.after,Region.binds md e=true→e.on≠i:=fun e he hb heq=>by
    have h1:=hall e he hb
    rw [heq,hiun] at h1; cases h1
   have hBj:B j=false:=by
    cases hb:B j with
    | false=>rfl
    | true =>
     have:=(hB j hb).listed hc fun o ho e he hb=>by
      rw [hoj] at ho; cases ho
      exact hall e he hb
     rw [hiun] at this; cases this
   have h2:=wpOp_putIf hoj (hfree j oj hoj hji hjun hnot) (fun cs b=>hsel i oi cs b hi) (fun cs b=>hsel j oj cs b hoj) hQ hy h1
   have hSj:∀ w',S w'∨w'=w→S w':=fun w' h=>h.elim id fun e=>e ▸ hS
   refine wpOp_mono (fun a' w' h3=>⟨fun _=>.inl (hSj _ (h3.2.1 hBj)),ih (listed.setIfInBounds j true) a' w' (hc.set hj) (fun k ok hk hki hun hno=>?_) (ready_mono hr (Ne.symm hji)) h3.1 (hSj _ (h3.2.1 hBj)) ?_⟩) h2
   ·refine hfree k ok hk hki ?_ hno
    by_cases hjk:j=k
    ·subst hjk; exact hjun
    ·rw [getD_set_ne true hjk] at hun; exact hun
   ·rw [Array.setIfInBounds_comm _ _ hji]
    exact h3.2.2
theorem wpH_firstD {i:Nat} {oi:Oper} {v:Value} (hi:ops[i]? = some oi) (hsel:∀ (j:Nat) (o:Oper) cs b,ops[j]? = some o→o.op≠.select cs b)
  (hQ:∀ c a w,Q (.panic c) (a.put oi.dst v) w→Q (.panic c) a w) :
  ∀ (n:Nat) (listed:Array Bool) (a:Act) (w:World),
   (∀ j oj,ops[j]? = some oj→j≠i→listed.getD j true=false→(∀ e∈oj.after,Region.binds md e=true→e.on≠i)→oi.apart ops oj=true) →
   i∈Region.ready md ops listed→YieldsIf P ops (fun _=>True) oi v a →
   wpH P md ops Q B S n (listed.setIfInBounds i true) (a.put oi.dst v) w→wpH P md ops Q B S (n+1) listed a w:=by
 intro n
 induction n with
 | zero =>
  intro listed a w hfree hr hy H
  refine ⟨fun h=>(by rw [h] at hr; cases hr),fun j hj=>?_⟩
  by_cases hji:j=i
  ·subst hji; exact hy.wpOp hi trivial ⟨fun _=>.inr rfl,H⟩
  ·have:=ready_mono hj hji
   rw [H.1] at this
   cases this
 | succ n ih =>
  intro listed a w hfree hr hy H
  refine ⟨fun h=>(by rw [h] at hr; cases hr),fun j hj=>?_⟩
  by_cases hji:j=i
  ·subst hji; exact hy.wpOp hi trivial ⟨fun _=>.inr rfl,H⟩
  ·have h1:=H.2 j (ready_mono hj hji)
   obtain ⟨hjun,oj,hoj,hall⟩:=mem_ready.1 hj
   have hiun:listed.getD i false=false:=by
    have h0:=(mem_ready.1 hr).1
    rcases Nat.lt_or_ge i listed.size with h' | h'
    ·simp [h'] at h0 ⊢; exact h0
    ·simp [Array.getElem?_eq_none h'] at h0
   have hnot:∀ e∈oj.after,Region.binds md e=true→e.on≠i:=fun e he hb heq=>by
    have h1:=hall e he hb
    rw [heq,hiun] at h1; cases h1
   have h2:=wpOp_putIf hoj (hfree j oj hoj hji hjun hnot) (fun cs b=>hsel i oi cs b hi) (fun cs b=>hsel j oj cs b hoj) hQ hy h1
   refine wpOp_mono (fun a' w' h3=>⟨h3.2.1,ih (listed.setIfInBounds j true) a' w' (fun k ok hk hki hun hno=>?_) (ready_mono hr (Ne.symm hji)) h3.1 ?_⟩) h2
   ·refine hfree k ok hk hki ?_ hno
    by_cases hjk:j=k
    ·subst hjk; exact hjun
    ·rw [getD_set_ne true hjk] at hun; exact hun
   ·rw [Array.setIfInBounds_comm _ _ hji]
    exact h3.2.2
theorem wpH_one {i n:Nat} {listed:Array Bool} {a:Act} {w:World} (hr:Region.ready md ops listed = [i])
  (h:wpOp P ops Q i (fun a' w'=>(B i=false→S w'∨w'=w)∧wpH P md ops Q B S n (listed.setIfInBounds i true) a' w') a w):wpH P md ops Q B S (n+1) listed a w :=
 ⟨fun h0=>(by rw [hr] at h0; cases h0),fun j hj=>(by rw [hr] at hj; simp at hj; subst hj; exact h)⟩
theorem wpH_weaken {S':World→Prop} (hS:∀ w,S' w→S w):∀ (n:Nat) (listed:Array Bool) (a:Act) (w:World),wpH P md ops Q B S' n listed a w→wpH P md ops Q B S n listed a w
 | 0,_,_,_,h=>h
 | n+1,_,_,_,h=>⟨h.1,fun i hi=>wpOp_mono (fun a' w' q=>⟨fun hb=>(q.1 hb).imp (hS _) id,wpH_weaken hS n _ a' w' q.2⟩) (h.2 i hi)⟩
theorem wpH_done {listed:Array Bool} {a:Act} {w:World} (hr:Region.ready md ops listed = []) (h:Q .normal a w):∀ n,wpH P md ops Q B S n listed a w
 | 0=>⟨hr,h⟩
 | _+1=>⟨fun _=>h,by rw [hr]; simp⟩
end

/-! ### Who waits for whom, as a mask of bits -/
def ancO (md:Region.Mode) (m:List Nat) (acc:Nat):List Edge→Nat
 | []=>acc
 | e :: es=>ancO md m (if Region.binds md e=true then acc ||| (1 <<< e.on) ||| m.getD e.on 0 else acc) es
def ancF (md:Region.Mode):List Oper→List Nat→List Nat
 | [],m=>m
 | o :: r,m=>ancF md r (m ++ [ancO md m 0 o.after.toList])
theorem ancO_spec {md:Region.Mode} {m:List Nat} {i:Nat}:∀ {es:List Edge} {acc:Nat},(ancO md m acc es).testBit i=true→acc.testBit i=true∨∃ e∈es,Region.binds md e=true∧(e.on=i∨(m.getD e.on 0).testBit i=true)
 | [],acc,h=>.inl h
 | e :: es,acc,h=>by
  simp only [ancO] at h
  rcases ancO_spec (es:=es) h with h | ⟨e',he,h⟩
  ·split at h
   ·rename_i hb
    rw [Nat.testBit_or,Nat.testBit_or,Bool.or_eq_true,Bool.or_eq_true] at h
    rcases h with (h | h) | h
    ·exact .inl h
    ·refine .inr ⟨e,by simp,hb,.inl ?_⟩
     rw [Nat.one_shiftLeft,Nat.testBit_two_pow] at h
     simpa using h
    ·exact .inr ⟨e,by simp,hb,.inr h⟩
   ·exact .inl h
  ·exact .inr ⟨e',by simp [he],h⟩
theorem ancF_spec {md:Region.Mode} {ops:Array Oper}:∀ (l:List Oper) (m:List Nat),(∀ j,l[j]? = ops[m.length+j]?)→(∀ j i:Nat,(m.getD j 0).testBit i=true→Anc md ops i j)→∀ j i:Nat,((ancF md l m).getD j 0).testBit i=true→Anc md ops i j
 | [],m,_,hm=>hm
 | o :: r,m,hl,hm=>by
  refine ancF_spec r _ (fun j=>?_) (fun j i h=>?_)
  ·have:=hl (j+1)
   simp only [List.getElem?_cons_succ] at this
   rw [this]; congr 1; simp; omega
  ·have ho:ops[m.length]? = some o:=by have:=hl 0; simpa using this.symm
   rw [List.getD_eq_getElem?_getD,List.getElem?_append] at h
   split at h
   ·exact hm j i (by rw [List.getD_eq_getElem?_getD]; exact h)
   ·rename_i hlt
    by_cases hj:j=m.length
    ·subst hj
     simp only [Nat.sub_self,List.getElem?_cons_zero,Option.getD_some] at h
     rcases ancO_spec h with h | ⟨e,he,hb,h⟩
     ·simp at h
     ·rcases h with h | h
      ·exact .one _ o e ho (by simpa using he) hb h
      ·exact .more _ o e ho (by simpa using he) hb (hm _ _ h)
    ·have:([ancO md m 0 o.after.toList]:List Nat)[j - m.length]? = none:=by
      rw [List.getElem?_eq_none_iff]; simp; omega
     simp [this] at h

/-! ### Operations that look at no world -/
def dryO (o:Oper):Bool :=
 match o.op with
 | .move _ | .assign _=>true
 | .binOp .add _ _ _ _ | .binOp .sub _ _ _ _=>true
 | _=>false
theorem aBin_dry {P:Program} {φ:Frz} {ι:List KLoc} {op:BinOp} {t:TypeId} {ox oy:Operand} {x y:PV} {u v:Value} {K:PV→Prop} (hop:op = .add∨op = .sub) (hx:Rel φ ι x u) (hy:Rel φ ι y v) (h:aBin op x y K) :
  ∃ c r,(∀ w,(do eqGuard op t ox oy u v; binOp op t u v:Sem Value).calm P w=some r)∧Rel φ ι c r∧K c:=by
 unfold aBin at h
 split at h
 ·rename_i k a k' b
  obtain rfl:=hx.int_inv
  obtain rfl:=hy.int_inv
  obtain ⟨hk,h⟩:=h
  have hg:∀ w,(eqGuard op t ox oy (.int k a) (.int k' b)).calm P w=some ():=fun w=>by
   unfold eqGuard; split <;> simp
  rcases hop with rfl | rfl <;> simp only [aInt] at h
  ·cases hk (by simp) (by simp); exact ⟨_,_,fun w=>by simp only [calm_bind,hg,Option.bind_some]; simp [binOp,Op.intArith],.int _ _,aWrap_sound h⟩
  ·cases hk (by simp) (by simp); exact ⟨_,_,fun w=>by simp only [calm_bind,hg,Option.bind_some]; simp [binOp,Op.intArith],.int _ _,aWrap_sound h⟩
 ·rename_i a b
  obtain rfl:=hx.str_inv
  obtain rfl:=hy.str_inv
  have hg:∀ w,(eqGuard op t ox oy (.string ⟨a.toArray⟩) (.string ⟨b.toArray⟩)).calm P w=some ():=fun w=>by
   unfold eqGuard; split <;> simp
  rcases hop with rfl | rfl <;> simp only [aStr] at h
  obtain ⟨h1,h2⟩:=h
  have hs:¬ (IntKind.i64.max<(a.length:Int)+(b.length:Int)):=by simp [IntKind.max,IntKind.bits,IntKind.signed]; omega
  refine ⟨_,.string ((⟨a.toArray⟩:ByteArray) ++ ⟨b.toArray⟩),fun w=>?_,?_,h2⟩
  ·have hs':¬ (((ByteArray.mk a.toArray).size+(ByteArray.mk b.toArray).size:Nat):Int) > IntKind.i64.max:=by simp [ByteArray.size]; simpa using hs
   simp only [calm_bind,hg,Option.bind_some,binOp,Op.stringOp,hs',if_false,calm_pure]
  ·have:(⟨a.toArray⟩:ByteArray) ++ ⟨b.toArray⟩=⟨(a ++ b).toArray⟩:=by
    apply ByteArray.ext; simp
   rw [this]; exact .str _
 ·exact h.elim
theorem dry_sound {P:Program} {N:Nat} {φ:Frz} {ι:List KLoc} {σ:Heap} {env:Env} {a:Act} {o:Oper} {fz:List Nat} {p:KP} (h:trOp P fz o.dst o.op=some p) (hd:dryO o=true) {K:PV→Heap→Prop} (ha:aOp P p env σ K) (h2:EOK N φ ι env a) :
  ∃ v c,(∀ w,(execOp a.eval o).calm P w=some (.value v))∧Rel φ ι c v∧K c σ:=by
 have bins:∀ op t x y ty,(op = .add∨op = .sub)→o.op = .binOp op t x y ty→∃ v c,(∀ w,(execOp a.eval o).calm P w=some (.value v))∧Rel φ ι c v∧K c σ:=fun op t x y ty ho hop=>by
  rw [hop] at h
  simp only [trOp,Option.bind_eq_bind,Option.bind_eq_some_iff] at h
  obtain ⟨d,hd',h⟩:=h
  have plain:∀ x' y',trX x=some x'→trX y=some y'→aOp P (.bin op x' y') env σ K→∃ v c,(∀ w,(execOp a.eval o).calm P w=some (.value v))∧Rel φ ι c v∧K c σ:=fun x' y' hx hy ha=>by
   obtain ⟨c,r,g1,g2,g3⟩:=aBin_dry (P:=P) (t:=t) (ox:=x) (oy:=y) ho (trX_rel h2 hx) (trX_rel h2 hy) ha
   refine ⟨r,c,fun w=>?_,g2,g3⟩
   have g1:=g1 w
   simp only [execOp,hop,calm_bind] at g1 ⊢
   rw [g1]; rfl
  split at h
  ·simp only [Option.bind_eq_some_iff,Option.some.injEq] at h
   obtain ⟨x',hx,y',hy,rfl⟩:=h
   exact plain x' y' hx hy ha
  ·simp only [Option.bind_eq_some_iff,Option.some.injEq] at h
   obtain ⟨x',hx,y',hy,rfl⟩:=h
   exact plain x' y' hx hy ha
  ·rcases ho with rfl | rfl <;> simp at h
  ·simp only [Option.bind_eq_some_iff] at h
   obtain ⟨n,_,h⟩:=h
   split at h
   ·cases h
   ·rcases ho with rfl | rfl <;> simp at h
  ·rcases ho with rfl | rfl <;> (unfold trNil at h; split at h <;> simp at h)
  ·cases h
 unfold dryO at hd
 split at hd
 ·rename_i x hop
  rw [hop] at h
  simp only [trOp,Option.map_eq_some_iff] at h
  obtain ⟨y,hy,rfl⟩:=h
  exact ⟨_,_,fun w=>by simp [execOp,hop],trX_rel h2 hy,ha⟩
 ·rename_i x hop
  rw [hop] at h
  simp only [trOp,Option.map_eq_some_iff] at h
  obtain ⟨y,hy,rfl⟩:=h
  exact ⟨_,_,fun w=>by simp [execOp,hop],trX_rel h2 hy,ha⟩
 ·rename_i hop; exact bins _ _ _ _ _ (.inl rfl) hop
 ·rename_i hop; exact bins _ _ _ _ _ (.inr rfl) hop
 ·cases hd

/-! ### The plan -/
def planA (ops:Array Oper) (kos:List KO) (md:Region.Mode):Nat→Array Bool→List Nat
 | 0,_=>[]
 | n+1,listed =>
  let rs:=Region.ready md ops listed
  match rs.find? (fun i=>(match kos[i]? with | some k=>quietP k.p | none=>false) && Region.free md ops listed i) with
  | some i=>i :: planA ops kos md n (listed.setIfInBounds i true)
  | none=>match rs with
   | [i]=>(match kos[i]? with | some ⟨_,_,.call (.c _) _⟩=>i :: planA ops kos md n (listed.setIfInBounds i true) | some ⟨_,_,.bsl true _ _ []⟩=>i :: planA ops kos md n (listed.setIfInBounds i true) | _=>[])
   | _=>[]
def planF (ops:Array Oper) (kos:List KO) (md:Region.Mode) (i0:Nat):Nat→Array Bool→List Nat
 | 0,_=>[]
 | n+1,listed =>
  let rs:=Region.ready md ops listed
  match rs.find? (fun i=>(match kos[i]? with | some k=>quietP k.p | none=>false) && Region.free md ops listed i) with
  | some i=>i :: planF ops kos md i0 n (listed.setIfInBounds i true)
  | none=>match rs.filter (fun j=>j != i0) with
   | [i]=>(match kos[i]? with | some ⟨_,_,.call (.c _) _⟩=>i :: planF ops kos md i0 n (listed.setIfInBounds i true) | _=>[])
   | _=>[]
def isAl (ops:Array Oper) (kos:List KO) (i:Nat):Bool:=(match kos[i]? with | some ⟨some _,none,.alloc _⟩=>true | _=>false) && (match ops[i]? with | some o=>(match o.op with | .alloc _=>true | _=>false) | none=>false)
def isBsl (ops:Array Oper) (i:Nat):Bool:=match ops[i]? with | some o=>(match o.op with | .buildSlice _ _ _=>true | _=>false) | none=>false
def planM (ops:Array Oper) (md:Region.Mode):Nat→Array Bool→List Nat
 | 0,_=>[]
 | n+1,listed=>match Region.ready md ops listed with
   | [i]=>if isBsl ops i=true then i :: planM ops md n (listed.setIfInBounds i true) else []
   | _=>[]
def planB (ops:Array Oper) (md:Region.Mode):Nat→Array Bool→List Nat
 | 0,_=>[]
 | n+1,listed=>match Region.ready md ops listed with
   | [i]=>i :: planB ops md n (listed.setIfInBounds i true)
   | _=>[]
def listUp (listed:Array Bool) (l:List Nat):Array Bool:=l.foldl (fun a i=>a.setIfInBounds i true) listed
def okA (ops:Array Oper) (kos:List KO) (md:Region.Mode) (anc:List Nat) (late:List Nat):List Nat→Array Bool→Bool
 | [],_=>true
 | i :: r,listed=>(match kos[i]? with
   | none=>false
   | some k=>!late.contains i && (if quietP k.p=true then Region.free md ops listed i && (Region.ready md ops listed).contains i && (late.all (fun b=>(anc.getD b 0).testBit i) || (match ops[i]? with | some o=>dryO o | none=>false))
    else (match k.p with | .call _ _=>decide (Region.ready md ops listed = [i]) | .bsl true _ _ []=>decide (Region.ready md ops listed = [i]) && k.g.isNone && isBsl ops i | _=>false))) && okA ops kos md anc late r (listed.setIfInBounds i true)
def okB (ops:Array Oper) (md:Region.Mode) (n:Nat):List Nat→Array Bool→Bool
 | [],listed=>decide (Region.ready md ops listed = [])
 | i :: r,listed=>decide (i<n) && decide (Region.ready md ops listed = [i]) && okB ops md n r (listed.setIfInBounds i true)
def okM (ops:Array Oper) (md:Region.Mode) (n:Nat) (late:List Nat):List Nat→Array Bool→Bool
 | [],_=>true
 | i :: r,listed=>decide (i<n) && !late.contains i && isBsl ops i && decide (Region.ready md ops listed = [i]) && okM ops md n late r (listed.setIfInBounds i true)
def okF (ops:Array Oper) (kos:List KO) (md:Region.Mode) (anc:List Nat) (late:List Nat) (i0:Nat):List Nat→Array Bool→Bool
 | [],_=>true
 | i :: r,listed=>(match kos[i]? with
   | none=>false
   | some k=>(!late.contains i && (if quietP k.p=true then Region.free md ops listed i && (Region.ready md ops listed).contains i && (late.all (fun b=>(anc.getD b 0).testBit i) || (match ops[i]? with | some o=>dryO o | none=>false))
    else (match k.p with | .call _ _=>decide ((Region.ready md ops listed).filter (fun j=>j != i0) = [i]) && okA ops kos md anc late (i :: r) (listed.setIfInBounds i0 true) && okB ops md kos.length late (listUp (listed.setIfInBounds i0 true) (i :: r)) | _=>false)))
    && (match ops[i0]?,ops[i]? with | some oi,some oj=>oi.apart ops oj | _,_=>false)) && okF ops kos md anc late i0 r (listed.setIfInBounds i true)
def early (k:KO):KO:=match k.p with | .call f args=>{ k with p:=.pcall f args } | _=>k
def pickA (kos:List KO):List Nat→List KO
 | []=>[]
 | i :: r=>(match kos[i]? with | some k=>[early k] | none=>[]) ++ pickA kos r
def pickB (kos:List KO):List Nat→List KO
 | []=>[]
 | i :: r=>(match kos[i]? with | some k=>[k] | none=>[]) ++ pickB kos r
def trDraw0 (P:Program) (fz:List Nat) (N:Nat) (ops:Array Oper):Option (List KO):=do
 let kos ← ops.toList.mapM (trOper P fz N ops)
 let no:=Array.replicate ops.size false
 let l1:=planA ops kos .any ops.size no
 let lm:=planM ops .any (ops.size - l1.length) (listUp no l1)
 let l2:=planB ops .any (ops.size - l1.length - lm.length) (listUp (listUp no l1) lm)
 if guardsOK N kos && Region.noSelect ops && decide (l1.length+(lm.length+l2.length)≤ops.size) && okA ops kos .any (ancF .any ops.toList []) (l2) l1 no && okM ops .any kos.length l2 lm (listUp no l1) && okB ops .any kos.length l2 (listUp (listUp no l1) lm) then some (pickA kos l1 ++ (pickB kos lm ++ pickB kos l2)) else none

def trDrawF (P:Program) (fz:List Nat) (N:Nat) (ops:Array Oper):Option (List KO):=do
 let kos ← ops.toList.mapM (trOper P fz N ops)
 let no:=Array.replicate ops.size false
 let l0:=planA ops kos .any ops.size no
 let i0 ← (Region.ready .any ops (listUp no l0)).find? (isAl ops kos)
 let l1:=planF ops kos .any i0 ops.size no
 let l2:=planB ops .any (ops.size - l1.length - 1) (listUp (listUp no l1) [i0])
 if guardsOK N kos && Region.noSelect ops && decide (l1.length+(1+l2.length)≤ops.size) && okF ops kos .any (ancF .any ops.toList []) l2 i0 l1 no && okB ops .any kos.length (i0 :: l2) (listUp no l1) && isAl ops kos i0 && !l2.contains i0 then some (pickA kos l1 ++ pickB kos (i0 :: l2)) else none
def trDraw (P:Program) (fz:List Nat) (N:Nat) (ops:Array Oper):Option (List KO) :=
 if fz.contains 1000000 then none else
 match trDraw0 P fz N ops with
 | some k=>some k
 | none=>trDrawF P fz N ops

def altsT (f:Nat→Option KT):List Nat→Option KT
 | []=>none
 | [i]=>f i
 | i :: r=>do some (.alt (← f i) (← altsT f r))
def trTree (ops:Array Oper) (kos:List KO):Nat→Array Bool→Option KT
 | 0,listed=>if Region.ready .any ops listed = [] then some .fin else none
 | n+1,listed =>
  if Region.ready .any ops listed = [] then some .fin else
  match (Region.ready .any ops listed).find? (fun i=>(match ops[i]? with | some o=>dryO o | none=>false) && Region.free .any ops listed i) with
  | some i=>(match kos[i]? with | some k=>(trTree ops kos n (listed.setIfInBounds i true)).map (.op k) | none=>none)
  | none=>altsT (fun i=>match kos[i]? with | some k=>(trTree ops kos n (listed.setIfInBounds i true)).map (.op k) | none=>none) (Region.ready .any ops listed)
def keepsO (o:Oper):Bool:=match o.op with | .buildSlice _ _ _=>true | .makeSlice _ _ _=>true | _=>false
def keepsAt (ops:Array Oper) (i:Nat):Bool:=match ops[i]? with | some o=>keepsO o | none=>false
def trTreeQ (ops:Array Oper) (kos:List KO):Nat→Array Bool→Option KT
 | 0,listed=>if Region.ready .any ops listed = [] then some .fin else none
 | n+1,listed =>
  if Region.ready .any ops listed = [] then some .fin else
  match (Region.ready .any ops listed).find? (fun i=>(match kos[i]? with | some k=>quietP k.p | none=>false) && Region.free .any ops listed i) with
  | some i=>(match kos[i]? with | some k=>(trTreeQ ops kos n (listed.setIfInBounds i true)).map (.op k) | none=>none)
  | none=>altsT (fun i=>if keepsAt ops i=true then (match kos[i]? with | some k=>(trTreeQ ops kos n (listed.setIfInBounds i true)).map (.op k) | none=>none) else none) (Region.ready .any ops listed)
def trDrawT (P:Program) (fz:List Nat) (N:Nat) (ops:Array Oper):Option KT:=do
 let kos ← ops.toList.mapM (trOper P fz N ops)
 if guardsOK N kos && Region.noSelect ops then (match trTreeQ ops kos ops.size (Array.replicate ops.size false) with | some t=>some t | none=>trTree ops kos ops.size (Array.replicate ops.size false)) else none

/-! ### Soundness -/
variable {P:Program} {N n0:Nat}

structure Old (w0 w:World):Prop where
 same:Same w0 w
 sz:w0.heap.size≤w.heap.size
 os:w.os=w0.os
 tp:w.tape=w0.tape
 out:w.output=w0.output
theorem Old.refl (w:World):Old w w:=⟨fun _ _=>rfl,Nat.le_refl _,rfl,rfl,rfl⟩
theorem Old.hok {φ:Frz} {ι:List KLoc} {σ:Heap} {w0 w:World} (h:Old w0 w) (ho:HOK φ ι σ w0):HOK φ ι σ w:=ho.keep (fun b hb=>h.same b hb) h.sz
theorem Old.tr {φ:Frz} {ι:List KLoc} {w0 w:World} (h:Old w0 w) (n:Nat):Tr n φ ι w0 φ ι w:=Tr.keep (fun b hb=>h.same b hb) h.sz h.os h.tp h.out
theorem Old.trans {w0 w w':World} (h:Old w0 w) (h':Old w w'):Old w0 w' :=
 ⟨fun b hb=>(h'.same b (Nat.lt_of_lt_of_le hb h.sz)).trans (h.same b hb),Nat.le_trans h.sz h'.sz,h'.os.trans h.os,h'.tp.trans h.tp,h'.out.trans h.out⟩

def NP (Q:Exit→Env→Heap→Prop) (e:Exit) (env:Env) (σ:Heap):Prop :=
 match e with
 | .panic _=>False
 | e=>Q e env σ

theorem vOps_cons {k:KO} {r:List KO} {Q:Exit→Env→Heap→Prop} {env:Env} {σ:Heap} (h:vOps P (k :: r) Q env σ) :
  (k.g=none∧aOp P k.p env σ fun v σ'=>vOps P r Q (putD k.d v env) σ') ∨
  (∃ t want b,k.g=some (t,want)∧look env t = .bool b∧(b=want→aOp P k.p ((t,.bool want) :: env) σ fun v σ'=>vOps P r Q (putD k.d v ((t,.bool want) :: env)) σ')∧(b=(!want)→vOps P r Q (putD k.d (.tup []) ((t,.bool (!want)) :: env)) σ)) ∨
  (∃ t want,k.g=some (t,want)∧look env t = .tup []∧vOps P r Q (putD k.d (.tup []) env) σ):=by
 unfold vOps at h
 split at h
 ·rename_i hg; exact .inl ⟨hg,h⟩
 ·rename_i t want hg
  split at h
  ·rename_i b hl; exact .inr (.inl ⟨t,want,b,hg,hl,h⟩)
  ·rename_i hl; exact .inr (.inr ⟨t,want,hg,hl,h⟩)
  ·exact h.elim

theorem step_split {ops:Array Oper} {o:Oper} {k:KO} {r:List KO} {Q:Exit→Env→Heap→Prop} {env:Env} {σ:Heap} {φ:Frz} {ι:List KLoc} {a:Act}
  (hg:trGuard ops o=some k.g) (hgN:guardsOK N [k]=true) (h2:EOK N φ ι env a) (hv:vOps P (k :: r) Q env σ) :
  (Region.wanted o (yielded ops a.tmps)=true∧∃ env1,EOK N φ ι env1 a∧aOp P k.p env1 σ fun v σ'=>vOps P r Q (putD k.d v env1) σ') ∨
  (Region.wanted o (yielded ops a.tmps)=false∧∃ env1,EOK N φ ι env1 a∧vOps P r Q (putD k.d (.tup []) env1) σ):=by
 rcases vOps_cons hv with ⟨g,h⟩ | ⟨t,want,b,g,hl,ha,hb⟩ | ⟨t,want,g,hl,h⟩
 ·rw [g] at hg
  exact .inl ⟨by simp [Region.wanted,guard_none hg],env,h2,h⟩
 ·rw [g] at hg
  have htN:t<N:=by simp [guardsOK,g] at hgN; exact hgN
  have hw:=guard_bool h2 hg htN hl
  have hrb:=h2.rel t
  rw [hl] at hrb
  by_cases e:b=want
  ·exact .inl ⟨by rw [hw,e]; cases want <;> rfl,_,h2.repl (by rw [← e]; exact hrb),ha e⟩
  ·have e':b=(!want):=by cases b <;> cases want <;> simp_all
   exact .inr ⟨by rw [hw,e']; cases want <;> rfl,_,h2.repl (by rw [← e']; exact hrb),hb e'⟩
 ·rw [g] at hg
  exact .inr ⟨guard_skip h2 hg hl,env,h2,h⟩

theorem pcall_sound {o:Oper} {f:Operand} {as:Array Operand} {ts:Array TypeId} (hop:o.op = .call { callee:=.value f,args:=as,argTypes:=ts }) {x:KX} {ys:List KX} (hf:trX f=some x) (has:trXs as=some ys)
  {φ:Frz} {ι:List KLoc} {σ:Heap} {w:World} {env:Env} {a:Act} {K:PV→Prop} (ha:aPCall P (kx env x) (ys.map (kx env)) σ K) (h1:HOK φ ι σ w) (h2:EOK N φ ι env a) {next:Act→World→Prop} {Q:Exit→Act→World→Prop}
  (hn:∀ v' v φ' w',Rel φ' ι v v'→FLe φ φ'→Tr σ.length φ ι w φ' ι w'→HOK φ' ι σ w'→Old w w'→K v→next (a.put o.dst v') w'):o.wp P a w next Q:=by
 unfold aPCall at ha
 split at ha
 ·rename_i fid first caps hk
  have hr:=trX_rel h2 hf
  rw [hk] at hr
  obtain ⟨u,v,hev,hu,hv⟩:=hr.fn_inv
  have hargs:=trXs_rel (φ:=φ) (ι:=ι) h2 has
  have hent:EnterOK P fid:=by
   rcases ha with ⟨args',him,hx,_⟩ | ⟨_,hx,_⟩ <;> exact hx
  obtain ⟨fn,hfn,hbody,hname⟩:=hent
  have hrun:(execOp a.eval o).run P w = .ok (.enter fid (u ++ as.toList.map a.eval ++ v).toArray) w:=by
   unfold execOp
   have hb:fn.body.isNone=false:=by cases hfb:fn.body <;> simp_all
   have harr:(u.toArray ++ Array.map a.eval as) ++ v.toArray=(u ++ as.toList.map a.eval ++ v).toArray:=by
    apply Array.ext'; simp
   have hname':¬ fn.name = "runtime.NumGoroutine" := by simpa using hname
   simp only [hop,resolve,hev,Deferred.ofValue,Sem.run_bind,Sem.run_pure,Result.andThen_ok,invoke,callFunc,run_program,hfn,hname,hb,Bool.false_eq_true,if_false,harr]
  unfold Oper.wp
  rw [hrun]
  show Calls P fid _ w _
  rcases ha with ⟨args',him,_,hcall⟩ | ⟨hup,_,hcall⟩
  ·have hall:=hcall (allFrz w) [] w (u ++ as.toList.map a.eval ++ v) (him.rel h1 ((hu.append hargs).append hv)) (allFrz_hok w)
   refine hall.mono fun e w' ⟨c,v',φ',ι',σ',he,g1,g2,g3,⟨g4,g5⟩,g6⟩=>?_
   subst he; subst g5
   have hι:ι' = []:=List.eq_nil_of_length_eq_zero g3.len
   subst hι
   have hold:Old w w':=⟨fun b hb=>g2.fr b hb (fun ⟨_,_,h,_⟩=>by simp at h),g2.sz,g2.os,g2.tp,g2.out⟩
   exact hn v' c φ w' ((g4 _ φ _ _ g1).mono (.refl _) (fun id l hl=>by simp at hl)) (.refl _) (hold.tr _) (hold.hok h1) hold g6
  ·have h0:HOK φ [] [] w:=by simpa using h1.trunc 0 (fun o ho=>by simp at ho)
   have hr0:RelL φ [] (first ++ ys.map (kx env) ++ caps) (u ++ as.toList.map a.eval ++ v):=by simpa using ((hu.append hargs).append hv).upto (n:=0) hup
   refine (hcall φ [] w _ hr0 h0).mono fun e w' ⟨c,v',φ',ι',σ',he,g1,g2,g3,g5,g6⟩=>?_
   subst he; subst g5
   have hι:ι' = []:=List.eq_nil_of_length_eq_zero g3.len
   subst hι
   have hold:Old w w':=⟨fun b hb=>g2.fr b hb (fun ⟨_,_,h,_⟩=>by simp at h),g2.sz,g2.os,g2.tp,g2.out⟩
   have hnew:∀ b C,φ' b=some C→φ b=some C∨w.heap.size≤b:=fun b C hb=>by
    rcases g2.fn b C hb with q | ⟨_,_,q,_⟩ | q
    ·exact .inl q
    ·simp at q
    ·exact .inr q
   obtain ⟨j1,j2⟩:=join (φ2:=φ) (σ':=[]) h1 ⟨.refl _,g2.l,g2.fr,g2.sz,g2.ow,g2.os,g2.tp,g2.out,fun _ _ h=>.inl h⟩ g2.f hnew g3.fz g3.len g3.nf g3.dis g3.lt g3.obj
   simp only [List.append_nil,List.map_nil] at j1 j2
   exact hn v' c φ' w' (g1.mono (.refl _) (fun id l hl=>by simp at hl)) g2.f j2 j1 hold g6
 ·exact ha.elim

def isCall:KP→Bool
 | .call ..=>true
 | _=>false
def NC (x:Option KP):Prop:=∀ p,x=some p→isCall p=false
theorem NC.none:NC none:=fun _ h=>by cases h
theorem NC.some {p:KP} (h:isCall p=false):NC (some p):=fun _ e=>by cases e; exact h
theorem NC.bind {α:Type} {x:Option α} {f:α→Option KP} (h:∀ a,NC (f a)):NC (x >>= f):=fun p e=>by
 cases x with
 | none=>cases e
 | some a=>exact h a p e
theorem NC.map {α:Type} {x:Option α} {f:α→KP} (h:∀ a,isCall (f a)=false):NC (x.map f):=fun p e=>by
 cases x with
 | none=>cases e
 | some a=>cases e; exact h a
theorem trBuiltin_call (b:Builtin) (as:List Operand) (ts:List TypeId):NC (trBuiltin P b as ts):=by
 unfold trBuiltin
 split
 all_goals repeat' (first | exact NC.none | exact NC.some rfl | exact NC.map fun _=>rfl | refine NC.bind fun _=>?_ | split)
theorem trOp_call {fz:List Nat} {d:Option Nat} {op:Op} {f:KX} {args:List KX} (h:trOp P fz d op=some (.call f args)):∃ f' as ts,op = .call { callee:=.value f',args:=as,argTypes:=ts }∧trX f'=some f∧trXs as=some args:=by
 by_cases hc:∃ c,op = .call c
 ·obtain ⟨c,rfl⟩:=hc
  simp only [trOp] at h
  unfold trCall at h
  split at h
  ·rename_i f' hcal
   simp only [Option.bind_eq_bind,Option.bind_eq_some_iff,Option.some.injEq,KP.call.injEq] at h
   obtain ⟨x,hx,ys,hys,rfl,rfl⟩:=h
   obtain ⟨cal,as,ts⟩:=c
   simp only at hcal hys; subst hcal
   exact ⟨f',as,ts,rfl,hx,hys⟩
  ·have:=trBuiltin_call _ _ _ _ h; cases this
  ·cases h
 ·exfalso
  have:NC (trOp P fz d op):=by
   unfold trOp
   split
   all_goals first | exact absurd ⟨_,rfl⟩ hc | (unfold trNil; repeat' (first | exact NC.none | exact NC.some rfl | exact NC.map fun _=>rfl | refine NC.bind fun _=>?_ | split)) | (repeat' (first | exact NC.none | exact NC.some rfl | exact NC.map fun _=>rfl | refine NC.bind fun _=>?_ | split))
  have:=this _ h; cases this
theorem mapM_get' {α β:Type} {f:α→Option β}:∀ (l:List α) (kos:List β),l.mapM f=some kos→∀ (i:Nat) (k:β),kos[i]? = some k→∃ o,l[i]? = some o∧f o=some k
 | [],kos,h,i,k,hk=>by simp at h; subst h; simp at hk
 | a :: l,kos,h,i,k,hk=>by
  simp only [List.mapM_cons,Option.bind_eq_bind,Option.pure_def,Option.bind_eq_some_iff,Option.some.injEq] at h
  obtain ⟨x,hx,xs,hxs,rfl⟩:=h
  cases i with
  | zero=>simp at hk; subst hk; exact ⟨a,rfl,hx⟩
  | succ i=>simpa using mapM_get' l xs hxs i k (by simpa using hk)
theorem mapM_get {fz:List Nat} {ops:Array Oper} {kos:List KO} (hm:ops.toList.mapM (trOper P fz N ops)=some kos) {i:Nat} {k:KO} (hk:kos[i]? = some k):∃ o,ops[i]? = some o∧trOper P fz N ops o=some k:=by
 obtain ⟨o,h1,h2⟩:=mapM_get' _ _ hm i k hk
 exact ⟨o,by simpa using h1,h2⟩

section
variable {fz:List Nat} {ops:Array Oper} {kos:List KO} {φ0:Frz} {ι0:List KLoc} {w0:World} {Q:Exit→Env→Heap→Prop} {B:Nat→Bool} {S:World→Prop}

theorem drawB (hm:ops.toList.mapM (trOper P fz N ops)=some kos) (hgs:guardsOK N kos=true):∀ (l:List Nat) (n:Nat) (listed:Array Bool) (env:Env) (σ:Heap) (φ:Frz) (ι:List KLoc) (a:Act) (w:World),
  l.length≤n→(∀ i∈l,B i=true)→okB ops .any kos.length l listed=true→Tr n0 φ0 ι0 w0 φ ι w→HOK φ ι σ w→EOK N φ ι env a→n0≤σ.length→vOps P (pickB kos l) Q env σ →
  wpH P .any ops (AWR N n0 φ0 ι0 w0 (NP Q)) B S n listed a w
 | [],n,listed,env,σ,φ,ι,a,w,hn,hBl,hk,ht,h1,h2,hs,hv=>by
  simp only [okB,decide_eq_true_eq] at hk
  exact wpH_done hk ⟨φ,ι,env,σ,ht,h1,⟨h2,hs⟩,hv⟩ n
 | i :: l,n,listed,env,σ,φ,ι,a,w,hn,hBl,hk,ht,h1,h2,hs,hv=>by
  obtain ⟨n,rfl⟩:∃ m,n=m+1:=⟨n - 1,by simp at hn; omega⟩
  simp only [okB,Bool.and_eq_true,decide_eq_true_eq] at hk
  obtain ⟨⟨hi,hr⟩,hk⟩:=hk
  have hki:=List.getElem?_eq_getElem hi
  obtain ⟨o,ho,htr⟩:=mapM_get hm hki
  simp only [pickB,hki,List.singleton_append] at hv
  generalize kos[i]=k at *
  obtain ⟨p,g,hp,hg,hd,rfl⟩:=trOper_dst htr
  have hgk:guardsOK N [⟨o.dst,g,p⟩]=true:=by
   have:=List.mem_of_getElem? hki
   simp only [guardsOK,List.all_eq_true] at hgs ⊢
   intro x hx
   simp at hx; subst hx
   exact hgs _ this
  have next:∀ (env':Env) (σ':Heap) (φ':Frz) (ι':List KLoc) (a':Act) (w':World),Tr n0 φ0 ι0 w0 φ' ι' w'→HOK φ' ι' σ' w'→EOK N φ' ι' env' a'→n0≤σ'.length→vOps P (pickB kos l) Q env' σ' →
    (B i=false→S w'∨w'=w)∧wpH P .any ops (AWR N n0 φ0 ι0 w0 (NP Q)) B S n (listed.setIfInBounds i true) a' w':=fun env' σ' φ' ι' a' w' q1 q2 q3 q4 q5 =>
   ⟨fun h=>(by rw [hBl i (by simp)] at h; cases h),drawB hm hgs l n _ env' σ' φ' ι' a' w' (by simp at hn; omega) (fun j hj=>hBl j (by simp [hj])) hk q1 q2 q3 q4 q5⟩
  refine wpH_one hr ?_
  unfold wpOp
  simp only [ho]
  rcases step_split hg hgk h2 hv with ⟨hw,env1,he1,ha⟩ | ⟨hw,env1,he1,hv1⟩
  ·simp only [hw,if_true]
   refine .inl (op_sound (N:=N) hp ha h1 he1 fun v' v φ' ι' σ' w' hr htr h1' hk'=>?_)
   have hle:=Tr.le h1 htr
   exact next _ σ' φ' ι' _ w' (ht.trans (htr.weaken hs)) h1' ((he1.mono htr.f hle).putD hd hr) (size_mono h1 h1' htr hs) hk'
  ·simp only [hw,Bool.false_eq_true,if_false]
   have hnx:=next _ σ φ ι (a.put o.dst undef) w ht h1 (he1.putD hd (tup0_rel φ ι)) hs hv1
   exact ⟨fun _=>.inr trivial,hnx.2⟩

theorem bsl_old {fz:List Nat} {o:Oper} {t:TypeId} {n:Nat} {parts:Array (Nat × Operand)} (hop:o.op = .buildSlice t n parts) {d:Option Nat} {p:KP} (h:trOp P fz d o.op=some p) {K:PV→Heap→Prop} {env:Env} {σ:Heap} {φ:Frz} {ι:List KLoc} {w:World} {a:Act} (ha:aOp P p env σ K) (h2:EOK N φ ι env a) :
  ∃ v w',(execOp a.eval o).run P w = .ok (.value v) w'∧Old w w':=by
 rw [hop] at h
 simp only [trOp,Option.bind_eq_bind,Option.bind_eq_some_iff] at h
 obtain ⟨dd,hd,h⟩:=h
 split at h
 ·rename_i e
  simp only [Option.bind_eq_some_iff] at h
  obtain ⟨i,hi,z,hz,ps,hps,h⟩:=h
  split at h
  ·cases h
  ·rename_i hsmall
   simp only [Option.some.injEq] at h
   subst h
   obtain ⟨hok,hK⟩:=ha
   obtain ⟨C,g1,g2,g3,g4⟩:=bsl_cells (w:=w) h2 hd hi hz hps hsmall hok
   refine ⟨.slice (some ⟨w.heap.size,0,none⟩) n n,w.alloc (.cells C e),by simp [execOp,hop,g1],fun b hb=>alloc_old w _ hb,by rw [alloc_size]; omega,rfl,rfl,rfl⟩
 ·cases h

theorem ebsl {fz:List Nat} {o:Oper} {d:Option Nat} {e':TypeId} {s':Nat} {t:TypeId} {n:Nat} {parts:Array (Nat × Operand)} (hop:o.op = .buildSlice t n parts) (h:trOp P fz d o.op=some (.bsl true e' s' [])) {K:PV→Heap→Prop} {env:Env} {σ:Heap} {φ:Frz} {ι:List KLoc} {w:World} {a:Act} (ha:aOp P (.bsl true e' s' []) env σ K) (h2:EOK N φ ι env a) :
  (∃ v w',(execOp a.eval o).run P w = .ok (.value v) w'∧Old w w'∧Rel φ ι (.list []) v)∧K (.list []) σ:=by
 obtain ⟨hok,hK⟩:=ha
 refine ⟨?_,by simpa using hK⟩
 rw [hop] at h
 simp only [trOp,Option.bind_eq_bind,Option.bind_eq_some_iff] at h
 obtain ⟨dd,hd,h⟩:=h
 split at h
 ·rename_i e
  simp only [Option.bind_eq_some_iff] at h
  obtain ⟨i,hi,z,hz,ps,hps,h⟩:=h
  split at h
  ·cases h
  ·rename_i hsmall
   simp only [Option.some.injEq,KP.bsl.injEq] at h
   obtain ⟨_,rfl,rfl,rfl⟩:=h
   obtain ⟨C,g1,g2,g3,g4⟩:=bsl_cells (w:=w) h2 hd hi hz hps hsmall hok
   have hn:n=0:=by simpa using g2.symm
   subst hn
   exact ⟨.slice (some ⟨w.heap.size,0,none⟩) 0 0,w.alloc (.cells C e),by simp [execOp,hop,g1],⟨fun b hb=>alloc_old w _ hb,by rw [alloc_size]; omega,rfl,rfl,rfl⟩,.list0 _ _⟩
 ·cases h
theorem wpOp_back {ops:Array Oper} {Q:Exit→Act→World→Prop} {j:Nat} {oi oj:Oper} {v:Value} (hj:ops[j]? = some oj) (hap:oi.apart ops oj=true) (hsj:∀ cs b,oj.op≠.select cs b)
  (hQ:∀ c a w,Q (.panic c) a w→Q (.panic c) (a.put oi.dst v) w) {K:Act→World→Prop} {a:Act} {w:World} (h:wpOp P ops Q j K a w) :
  wpOp P ops Q j (fun a'' w'=>∃ a',a''=a'.put oi.dst v∧K a' w') (a.put oi.dst v) w:=by
 obtain ⟨h1,h2,h3⟩:=Oper.apart_spec hap
 unfold wpOp at *
 simp only [hj] at *
 rw [wanted_put oj a oi.dst v h1]
 split
 ·rename_i hw
  simp only [hw,if_true] at h
  rcases h with h | ⟨hasks,hlets⟩
  case inr=>exact .inr ⟨by unfold Oper.asks at *; rw [execOp_put oj hsj a oi.dst v h1]; exact hasks,hlets⟩
  refine .inl ?_
  unfold Oper.wp at *
  rw [execOp_put oj hsj a oi.dst v h1]
  generalize (execOp a.eval oj).run P w=r at *
  cases r with
  | ok n w' =>
   cases n <;> simp only [Oper.upon] at h ⊢
   case value u=>exact ⟨_,Act.put_comm a v u h2,h⟩
   case skip=>exact ⟨_,Act.put_comm a v undef h2,h⟩
   case defer d =>
    refine ⟨({ a with defers:=d :: a.defers }:Act).put oj.dst undef,?_,h⟩
    show ({ a.put oi.dst v with defers:=d :: (a.put oi.dst v).defers }:Act).put oj.dst undef=_
    rw [Act.put_defers a oi.dst v d]
    exact Act.put_comm _ v undef h2
   case enter f args =>
    refine Calls.mono h fun e w'' he=>?_
    cases e with
    | returned u=>exact ⟨_,Act.put_comm a v u h2,he⟩
    | panicked c=>exact hQ _ _ _ he
    | outgrown=>exact he
   case row row args=>exact Rows.mono h fun u w'' he=>⟨_,Act.put_comm a v u h2,he⟩
  | halt x w' =>
   cases x <;> simp only [Oper.upon] at h ⊢
   case panic u=>exact hQ _ _ _ h
 ·rename_i hw
  simp only [hw] at h
  exact ⟨_,Act.put_comm a v undef h2,h⟩
theorem HOK.adopt {φ:Frz} {ι:List KLoc} {σ:Heap} {w:World} (h:HOK φ ι σ w) {b:Nat} {o:AObj} (hb:b<w.heap.size) (hf:φ b=none) (hn:∀ (id:Nat) (x:KLoc),ι[id]? = some x→x.block≠some b) (ho:ObjOK φ ι w o (.box b)):HOK φ (ι ++ [.box b]) (σ ++ [o]) w:=by
 have hin:∀ (id:Nat) (x:KLoc),(ι ++ [KLoc.box b])[id]? = some x→ι[id]? = some x∨(id = ι.length∧x = .box b):=fun id x hx=>by
  rw [List.getElem?_append] at hx
  split at hx
  ·exact .inl hx
  ·rename_i hn
   have:id - ι.length=0:=by
    have:=(List.getElem?_eq_some_iff.1 hx).1
    simp at this; omega
   rw [this] at hx; simp at hx
   exact .inr ⟨by omega,hx.symm⟩
 refine ⟨by simp [h.len],h.fz,fun id x c h1 h2=>?_,fun id id' x x' c h1 h2 h3 h4=>?_,fun id x c h1 h2=>?_,fun id o' x h1 h2=>?_⟩
 ·rcases hin _ _ h1 with h1 | ⟨_,rfl⟩
  ·exact h.nf id x c h1 h2
  ·simp only [KLoc.block,Option.some.injEq] at h2; subst h2; exact hf
 ·rcases hin _ _ h1 with h1 | ⟨e1,rfl⟩ <;> rcases hin _ _ h2 with h2 | ⟨e3,rfl⟩
  ·exact h.dis id id' x x' c h1 h2 h3 h4
  ·simp only [KLoc.block,Option.some.injEq] at h4; subst h4; exact absurd h3 (hn id x h1)
  ·simp only [KLoc.block,Option.some.injEq] at h3; subst h3; exact absurd h4 (hn id' x' h2)
  ·omega
 ·rcases hin _ _ h1 with h1 | ⟨_,rfl⟩
  ·exact h.lt id x c h1 h2
  ·simp only [KLoc.block,Option.some.injEq] at h2; subst h2; exact hb
 ·rcases hin _ _ h2 with h2 | ⟨e1,rfl⟩
  ·have h3:σ[id]? = some o':=by
    have hid:=(List.getElem?_eq_some_iff.1 h2).1
    rw [List.getElem?_append_left (by rw [← h.len]; exact hid)] at h1
    exact h1
   exact (h.obj id o' x h3 h2).keep (.refl _) (.append _ _) (fun _ _=>rfl)
  ·subst e1
   rw [h.len,List.getElem?_append_right (Nat.le_refl _)] at h1
   simp at h1; subst h1
   exact ho.keep (.refl _) (.append _ _) (fun _ _=>rfl)
theorem Tr.adopt {n0:Nat} {φ φ':Frz} {ι ι':List KLoc} {w w':World} (h:Tr n0 φ ι w φ' ι' w') {b:Nat} (hb:w.heap.size≤b):Tr n0 φ ι w φ' (ι' ++ [.box b]) w' :=
 ⟨h.f,h.l.trans (LLe.append _ _),h.fr,h.sz,fun c ⟨id,x,hx,hc⟩=>by
  rw [List.getElem?_append] at hx
  split at hx
  ·exact h.ow c ⟨id,x,hx,hc⟩
  ·have hm:=List.mem_of_getElem? hx
   simp at hm; subst hm
   simp only [KLoc.block,Option.some.injEq] at hc; subst hc
   exact .inr hb,h.os,h.tp,h.out,h.fn⟩
structure Fresh (φ:Frz) (ι:List KLoc) (w:World) (z:List PV) (b:Nat):Prop where
 lt:b<w.heap.size
 nf:φ b=none
 no:∀ (id:Nat) (x:KLoc),ι[id]? = some x→x.block≠some b
 ob:ObjOK φ ι w (.box z) (.box b)
theorem Fresh.keep {φ φ':Frz} {ι:List KLoc} {w w':World} {z:List PV} {b n:Nat} (h:Fresh φ ι w z b) (hle:FLe φ φ') (ht:Tr n φ ι w φ' ι w') (ho:Old w w'):Fresh φ' ι w' z b where
 lt:=Nat.lt_of_lt_of_le h.lt ho.sz
 nf:=by
  cases hp:φ' b with
  | none=>rfl
  | some C =>
   rcases ht.fn b C hp with q | ⟨id,l,q1,q2⟩ | q
   ·rw [h.nf] at q; cases q
   ·exact absurd q2 (h.no id l q1)
   ·have:=h.lt; omega
 no:=h.no
 ob:=h.ob.keep hle (.refl _) (fun c hc=>by simp only [KLoc.block,Option.some.injEq] at hc; subst hc; exact ho.same _ h.lt)
theorem alloc_run {fz:List Nat} {o:Oper} {d:Option Nat} {z:List PV} {t:TypeId} (hop:o.op = .alloc t) (h:trOp P fz d o.op=some (.alloc z)) (φ:Frz) (ι:List KLoc) (w:World) (a:Act) :
  ∃ C e,(execOp a.eval o).run P w = .ok (.value (.pointer (some ⟨w.heap.size,0,none⟩))) (w.alloc (.cells C e))∧RelL φ ι z C.toList∧z.all PV.ok=true:=by
 rw [hop] at h
 simp only [trOp,Option.bind_eq_bind,Option.bind_eq_some_iff,Option.some.injEq,KP.alloc.injEq] at h
 obtain ⟨z',⟨i,hi,hz⟩,zs,hzs,rfl⟩:=h
 exact ⟨z'.cells,t,by simp [execOp,hop,Instr.alloc,zeroValue,typeInfo,hi,hz,newVar,newRow],cvs_rel φ ι hzs,cvs_ok hzs⟩

theorem okF_apart {kos:List KO} {ops:Array Oper} {md:Region.Mode} {anc late:List Nat} {i0:Nat} {oi:Oper} (hi0:ops[i0]? = some oi):∀ {l:List Nat} {listed:Array Bool},okF ops kos md anc late i0 l listed=true→∀ j∈l,∀ oj,ops[j]? = some oj→oi.apart ops oj=true
 | [],_,_,j,hj,_,_=>by simp at hj
 | i :: l,listed,h,j,hj,oj,ho=>by
  simp only [okF,Bool.and_eq_true] at h
  obtain ⟨h,h'⟩:=h
  rcases List.mem_cons.1 hj with rfl | hj
  ·split at h
   ·simp at h
   ·simp only [Bool.and_eq_true,hi0,ho] at h
    exact h.2
  ·exact okF_apart hi0 h' j hj oj ho

theorem drawM {l2:List Nat} (hm:ops.toList.mapM (trOper P fz N ops)=some kos) (hgs:guardsOK N kos=true) {wS:World}:∀ (l:List Nat) (n:Nat) (listed:Array Bool) (env:Env) (σ:Heap) (φ:Frz) (ι:List KLoc) (a:Act) (w:World),
  l.length+l2.length≤n→okM ops .any kos.length l2 l listed=true→okB ops .any kos.length l2 (listUp listed l)=true→Old wS w→Tr n0 φ0 ι0 w0 φ ι w→HOK φ ι σ w→EOK N φ ι env a→n0≤σ.length→vOps P (pickB kos l ++ pickB kos l2) Q env σ →
  wpH P .any ops (AWR N n0 φ0 ι0 w0 (NP Q)) (fun i=>l2.contains i) (Old wS) n listed a w
 | [],n,listed,env,σ,φ,ι,a,w,hn,hM,hB,hold,ht,h1,h2,hs,hv =>
  drawB hm hgs l2 n listed env σ φ ι a w (by simpa using hn) (fun i hi=>by simpa using hi) (by simpa [listUp] using hB) ht h1 h2 hs (by simpa [pickB] using hv)
 | i :: l,n,listed,env,σ,φ,ι,a,w,hn,hM,hB,hold,ht,h1,h2,hs,hv=>by
  obtain ⟨n,rfl⟩:∃ m,n=m+1:=⟨n - 1,by simp at hn; omega⟩
  have hB':okB ops .any kos.length l2 (listUp (listed.setIfInBounds i true) l)=true:=by simpa [listUp] using hB
  simp only [okM,Bool.and_eq_true,decide_eq_true_eq] at hM
  obtain ⟨⟨⟨⟨hi,hnl⟩,hbs⟩,hr⟩,hk⟩:=hM
  have hki:=List.getElem?_eq_getElem hi
  obtain ⟨o,ho,htr⟩:=mapM_get hm hki
  simp only [pickB,hki,List.singleton_append,List.cons_append] at hv
  generalize kos[i]=k at *
  obtain ⟨p,g,hp,hg,hd,rfl⟩:=trOper_dst htr
  have hgk:guardsOK N [⟨o.dst,g,p⟩]=true:=by
   have:=List.mem_of_getElem? hki
   simp only [guardsOK,List.all_eq_true] at hgs ⊢
   intro x hx
   simp at hx; subst hx
   exact hgs _ this
  have next:∀ (env':Env) (σ':Heap) (φ':Frz) (ι':List KLoc) (a':Act) (w':World),Old w w'→Tr n0 φ0 ι0 w0 φ' ι' w'→HOK φ' ι' σ' w'→EOK N φ' ι' env' a'→n0≤σ'.length→vOps P (pickB kos l ++ pickB kos l2) Q env' σ' →
    (l2.contains i=false→Old wS w'∨w'=w)∧wpH P .any ops (AWR N n0 φ0 ι0 w0 (NP Q)) (fun i=>l2.contains i) (Old wS) n (listed.setIfInBounds i true) a' w':=fun env' σ' φ' ι' a' w' q0 q1 q2 q3 q4 q5 =>
   ⟨fun _=>.inl (hold.trans q0),drawM hm hgs l n _ env' σ' φ' ι' a' w' (by simp at hn; omega) hk hB' (hold.trans q0) q1 q2 q3 q4 q5⟩
  refine wpH_one hr ?_
  unfold wpOp
  simp only [ho]
  rcases step_split hg hgk h2 hv with ⟨hw,env1,he1,ha⟩ | ⟨hw,env1,he1,hv1⟩
  ·simp only [hw,if_true]
   have hbs':∃ t n parts,o.op = .buildSlice t n parts:=by
    simp only [isBsl,ho] at hbs
    split at hbs
    ·rename_i e; exact ⟨_,_,_,e⟩
    ·cases hbs
   obtain ⟨t,m,parts,hop⟩:=hbs'
   obtain ⟨v0,w1,hrun,hold1⟩:=bsl_old (w:=w) hop hp ha he1
   have hwp:=op_sound (N:=N) hp ha h1 he1 (next:=fun a' w'=>Old w w'→(l2.contains i=false→Old wS w'∨w'=w)∧wpH P .any ops (AWR N n0 φ0 ι0 w0 (NP Q)) (fun i=>l2.contains i) (Old wS) n (listed.setIfInBounds i true) a' w') (Q:=AWR N n0 φ0 ι0 w0 (NP Q)) (fun v' v φ' ι' σ' w' hr htr h1' hk' hold'=>by
    have hle:=Tr.le h1 htr
    exact next _ σ' φ' ι' _ w' hold' (ht.trans (htr.weaken hs)) h1' ((he1.mono htr.f hle).putD hd hr) (size_mono h1 h1' htr hs) hk')
   unfold Oper.wp at hwp
   rw [hrun] at hwp
   exact .inl (wp_val hrun (hwp hold1))
  ·simp only [hw,Bool.false_eq_true,if_false]
   have hnx:=next _ σ φ ι (a.put o.dst undef) w (.refl w) ht h1 (he1.putD hd (tup0_rel φ ι)) hs hv1
   exact ⟨fun _=>.inr trivial,hnx.2⟩

theorem drawA {lm l2:List Nat} {anc:List Nat} (hm:ops.toList.mapM (trOper P fz N ops)=some kos) (hgs:guardsOK N kos=true) (hsel:Region.noSelect ops=true)
  (hanc:∀ j i:Nat,(anc.getD j 0).testBit i=true→Anc .any ops i j) {σ:Heap} {ι:List KLoc} (hs:n0≤σ.length):∀ (l:List Nat) (n:Nat) (listed:Array Bool) (env:Env) (a:Act) (w:World) (φ:Frz) (wS:World),Tr n0 φ0 ι0 w0 φ ι wS→HOK φ ι σ wS →
  l.length+(lm.length+l2.length)≤n→okA ops kos .any anc l2 l listed=true→okM ops .any kos.length l2 lm (listUp listed l)=true→okB ops .any kos.length l2 (listUp (listUp listed l) lm)=true→Closed .any ops listed→Old wS w→EOK N φ ι env a→vOps P (pickA kos l ++ (pickB kos lm ++ pickB kos l2)) Q env σ →
  wpH P .any ops (AWR N n0 φ0 ι0 w0 (NP Q)) (fun i=>l2.contains i) (Old wS) n listed a w
 | [],n,listed,env,a,w,φ,wS,ht,h1,hn,hA,hM,hB,hc,hw,h2,hv=>by
  refine drawM hm hgs lm n listed env σ φ ι a w (by simpa using hn) (by simpa [listUp] using hM) (by simpa [listUp] using hB) hw (ht.trans (hw.tr n0)) (hw.hok h1) h2 hs ?_
  simpa [pickA] using hv
 | i :: l,n,listed,env,a,w,φ,wS,ht,h1,hn,hA,hM,hB,hc,hw,h2,hv=>by
  obtain ⟨n,rfl⟩:∃ m,n=m+1:=⟨n - 1,by simp at hn; omega⟩
  have hM':okM ops .any kos.length l2 lm (listUp (listed.setIfInBounds i true) l)=true:=by simpa [listUp] using hM
  have hB':okB ops .any kos.length l2 (listUp (listUp (listed.setIfInBounds i true) l) lm)=true:=by simpa [listUp] using hB
  simp only [okA,Bool.and_eq_true] at hA
  obtain ⟨hA,hA'⟩:=hA
  split at hA
  ·cases hA
  ·rename_i k hki
   obtain ⟨o,ho,htr⟩:=mapM_get hm hki
   simp only [pickA,hki,List.singleton_append,List.cons_append] at hv
   obtain ⟨p,g,hp,hg,hd,rfl⟩:=trOper_dst htr
   have hgk:guardsOK N [⟨o.dst,g,p⟩]=true:=by
    have:=List.mem_of_getElem? hki
    simp only [guardsOK,List.all_eq_true] at hgs ⊢
    intro x hx
    simp at hx; subst hx
    exact hgs _ this
   simp only [Bool.and_eq_true,Bool.not_eq_true'] at hA
   obtain ⟨hnl,hA⟩:=hA
   have next:∀ (env':Env) (a':Act) (w':World),i∈Region.ready .any ops listed→Old wS w'→EOK N φ ι env' a'→vOps P (pickA kos l ++ (pickB kos lm ++ pickB kos l2)) Q env' σ →
     wpH P .any ops (AWR N n0 φ0 ι0 w0 (NP Q)) (fun i=>l2.contains i) (Old wS) n (listed.setIfInBounds i true) a' w':=fun env' a' w' hri q1 q2 q3 =>
    drawA hm hgs hsel hanc hs l n _ env' a' w' φ wS ht h1 (by simp at hn; omega) hA' hM' hB' (hc.set hri) q1 q2 q3
   split at hA
   ·-- what only reads
    rename_i hq
    simp only [Bool.and_eq_true] at hA
    obtain ⟨⟨hfree,hready⟩,hlate⟩:=hA
    have hri:i∈Region.ready .any ops listed:=by simpa using hready
    have hearly:early ⟨o.dst,g,p⟩=⟨o.dst,g,p⟩:=by
     cases p <;> first | rfl | (simp [quietP] at hq)
    rw [hearly] at hv
    rcases Bool.or_eq_true _ _ |>.mp hlate with hlate | hdry
    ·simp only [List.all_eq_true] at hlate
     have key:∀ v:Value,YieldsIf P ops (Old wS) o v a→(∃ env',EOK N φ ι env' (a.put o.dst v)∧vOps P (pickA kos l ++ (pickB kos lm ++ pickB kos l2)) Q env' σ)→wpH P .any ops (AWR N n0 φ0 ι0 w0 (NP Q)) (fun i=>l2.contains i) (Old wS) (n+1) listed a w:=fun v hy ⟨env',he,hv'⟩ =>
      wpH_first ho (Region.noSelect_spec hsel) (fun c a w ⟨_,_,_,_,_,_,_,h⟩=>h.elim) (by simpa using hnl)
       (fun b hb=>hanc b i (hlate b (by simpa using hb))) n listed a w hc (Region.free_spec ho hfree) hri hy hw (next env' _ w hri hw he hv')
     rcases step_split hg hgk h2 hv with ⟨hwt,env1,he1,ha⟩ | ⟨hwt,env1,he1,hv1⟩
     ·obtain ⟨v,c,g1,g2,g3⟩:=op_calm hp hq ha h1 he1
      exact key v (.inl ⟨hwt,fun w' hw'=>calm_run hw'.same g1⟩) ⟨_,he1.putD hd g2,g3⟩
     ·exact key _ (.inr ⟨hwt,rfl⟩) ⟨_,he1.putD hd (tup0_rel φ ι),hv1⟩
    ·rw [ho] at hdry
     have key:∀ v:Value,YieldsIf P ops (fun _=>True) o v a→(∃ env',EOK N φ ι env' (a.put o.dst v)∧vOps P (pickA kos l ++ (pickB kos lm ++ pickB kos l2)) Q env' σ)→wpH P .any ops (AWR N n0 φ0 ι0 w0 (NP Q)) (fun i=>l2.contains i) (Old wS) (n+1) listed a w:=fun v hy ⟨env',he,hv'⟩ =>
      wpH_firstD ho (Region.noSelect_spec hsel) (fun c a w ⟨_,_,_,_,_,_,_,h⟩=>h.elim) n listed a w (Region.free_spec ho hfree) hri hy (next env' _ w hri hw he hv')
     rcases step_split hg hgk h2 hv with ⟨hwt,env1,he1,ha⟩ | ⟨hwt,env1,he1,hv1⟩
     ·obtain ⟨v,c,g1,g2,g3⟩:=dry_sound hp hdry ha he1
      exact key v (.inl ⟨hwt,fun w' _=>calm_ok (g1 w')⟩) ⟨_,he1.putD hd g2,g3⟩
     ·exact key _ (.inr ⟨hwt,rfl⟩) ⟨_,he1.putD hd (tup0_rel φ ι),hv1⟩
   ·-- a call
    rename_i hq
    split at hA
    ·rename_i f args
     simp only [decide_eq_true_eq] at hA
     have hri:i∈Region.ready .any ops listed:=by rw [hA]; simp
     refine wpH_one hA ?_
     unfold wpOp
     simp only [ho]
     rcases step_split (k:=early ⟨o.dst,g,.call f args⟩) hg hgk h2 hv with ⟨hwt,env1,he1,ha⟩ | ⟨hwt,env1,he1,hv1⟩
     ·simp only [hwt,if_true]
      obtain ⟨f',as,ts,hop,hf,has⟩:=trOp_call hp
      refine .inl (pcall_sound hop hf has ha (hw.hok h1) he1 fun v' v φ' w' hr hle htr' hok' hold hk=>?_)
      exact ⟨fun _=>.inl (hw.trans hold),wpH_weaken (fun x hx=>(hw.trans hold).trans hx) _ _ _ _ (drawA hm hgs hsel hanc hs l n _ _ _ w' φ' w' ((ht.trans (hw.tr n0)).trans (htr'.weaken hs)) hok' (by simp at hn; omega) hA' hM' hB' (hc.set hri) (.refl w') ((he1.mono hle (.refl _)).putD hd hr) hk)⟩
     ·simp only [hwt,Bool.false_eq_true,if_false]
      exact ⟨fun _=>.inl hw,next _ _ w hri hw (he1.putD hd (tup0_rel φ ι)) hv1⟩
    ·rename_i e' s'
     simp only [Bool.and_eq_true,decide_eq_true_eq] at hA
     obtain ⟨⟨hA,hgn⟩,hbs⟩:=hA
     have hri:i∈Region.ready .any ops listed:=by rw [hA]; simp
     have hbs':∃ t n parts,o.op = .buildSlice t n parts:=by
      simp only [isBsl,ho] at hbs
      split at hbs
      ·rename_i e; exact ⟨_,_,_,e⟩
      ·cases hbs
     obtain ⟨tt,m,parts,hop⟩:=hbs'
     refine wpH_one hA ?_
     unfold wpOp
     simp only [ho]
     rcases step_split (k:=⟨o.dst,g,.bsl true e' s' []⟩) hg hgk h2 hv with ⟨hwt,env1,he1,ha⟩ | ⟨hwt,env1,he1,hv1⟩
     ·simp only [hwt,if_true]
      obtain ⟨⟨v,w',hrun,hold,hr⟩,hK⟩:=ebsl hop hp ha he1 (w:=w)
      refine .inl (wp_val hrun ⟨fun _=>.inl (hw.trans hold),next _ _ w' hri (hw.trans hold) (he1.putD hd hr) hK⟩)
     ·simp only [hwt,Bool.false_eq_true,if_false]
      exact ⟨fun _=>.inl hw,next _ _ w hri hw (he1.putD hd (tup0_rel φ ι)) hv1⟩
    ·cases hA

theorem drawP {l2:List Nat} {anc:List Nat} (hm:ops.toList.mapM (trOper P fz N ops)=some kos) (hgs:guardsOK N kos=true) (hsel:Region.noSelect ops=true)
  (hanc:∀ j i:Nat,(anc.getD j 0).testBit i=true→Anc .any ops i j) {σ:Heap} {ι:List KLoc} (hs:n0≤σ.length) {oi:Oper} {i0:Nat} (hi0:ops[i0]? = some oi) {d:Nat} {z:List PV} (hd0:oi.dst=some d) (hdN:Option.all (fun x=>decide (x<N)) (some d)=true) {b:Nat} (hb0:w0.heap.size≤b) :
  ∀ (l:List Nat) (n:Nat) (listed:Array Bool) (env:Env) (a:Act) (w:World) (φ:Frz) (wS:World),Tr n0 φ0 ι0 w0 φ ι wS→HOK φ ι σ wS→Fresh φ ι wS z b →
  l.length+l2.length≤n→okA ops kos .any anc l2 l listed=true→okB ops .any kos.length l2 (listUp listed l)=true→(∀ j∈l,∀ oj,ops[j]? = some oj→oi.apart ops oj=true)→Closed .any ops listed→Old wS w→EOK N φ ι env a→vOps P (pickA kos l ++ (⟨some d,none,.alloc z⟩ :: pickB kos l2)) Q env σ →
  wpH P .any ops (AWR N n0 φ0 ι0 w0 (NP Q)) (fun i=>l2.contains i) (Old wS) n listed (a.put oi.dst (.pointer (some ⟨b,0,none⟩))) w
 | [],n,listed,env,a,w,φ,wS,ht,h1,hF,hn,hA,hB,hap,hc,hw,h2,hv=>by
  have hF':=hF.keep (.refl _) (Tr.refl n0 φ ι wS |>.trans (hw.tr n0)) hw
  have hv':vOps P (⟨some d,none,.alloc z⟩ :: pickB kos l2) Q env σ:=by simpa [pickA] using hv
  rcases vOps_cons hv' with ⟨_,ha⟩ | ⟨_,_,_,g,_⟩ | ⟨_,_,g,_⟩
  ·obtain ⟨hok,hK⟩:=ha
   have hokb:=(hw.hok h1).adopt hF'.lt hF'.nf hF'.no hF'.ob
   refine drawB hm hgs l2 n listed _ (σ ++ [.box z]) φ (ι ++ [.box b]) _ w (by simpa using hn) (fun i hi=>by simpa using hi) (by simpa [listUp] using hB) ((ht.trans (hw.tr n0)).adopt hb0) hokb ?_ (by simp; omega) hK
   rw [hd0]
   have hl:LLe ι (ι ++ [.box b]):=LLe.append _ _
   exact (h2.mono (.refl _) hl).putD hdN (.ptr _ _ _ (by rw [← h1.len]; simp))
  ·cases g
  ·cases g
 | i :: l,n,listed,env,a,w,φ,wS,ht,h1,hF,hn,hA,hB,hap,hc,hw,h2,hv=>by
  obtain ⟨n,rfl⟩:∃ m,n=m+1:=⟨n - 1,by simp at hn; omega⟩
  have hB':okB ops .any kos.length l2 (listUp (listed.setIfInBounds i true) l)=true:=by simpa [listUp] using hB
  simp only [okA,Bool.and_eq_true] at hA
  obtain ⟨hA,hA'⟩:=hA
  split at hA
  ·cases hA
  ·rename_i k hki
   obtain ⟨o,ho,htr⟩:=mapM_get hm hki
   simp only [pickA,hki,List.singleton_append,List.cons_append] at hv
   obtain ⟨p,g,hp,hg,hd,rfl⟩:=trOper_dst htr
   have hap1:=hap i (by simp) o ho
   obtain ⟨q1,q2,q3⟩:=Oper.apart_spec hap1
   have hgk:guardsOK N [⟨o.dst,g,p⟩]=true:=by
    have:=List.mem_of_getElem? hki
    simp only [guardsOK,List.all_eq_true] at hgs ⊢
    intro x hx
    simp at hx; subst hx
    exact hgs _ this
   simp only [Bool.and_eq_true,Bool.not_eq_true'] at hA
   obtain ⟨hnl,hA⟩:=hA
   have hso:=fun cs b=>Region.noSelect_spec hsel i o cs b ho
   have next:∀ (env':Env) (a':Act) (w':World),i∈Region.ready .any ops listed→Old wS w'→EOK N φ ι env' a'→vOps P (pickA kos l ++ (⟨some d,none,.alloc z⟩ :: pickB kos l2)) Q env' σ →
     wpH P .any ops (AWR N n0 φ0 ι0 w0 (NP Q)) (fun i=>l2.contains i) (Old wS) n (listed.setIfInBounds i true) (a'.put oi.dst (.pointer (some ⟨b,0,none⟩))) w':=fun env' a' w' hri q1 q2 q3 =>
    drawP hm hgs hsel hanc hs hi0 hd0 hdN hb0 l n _ env' a' w' φ wS ht h1 hF (by simp at hn; omega) hA' hB' (fun j hj=>hap j (by simp [hj])) (hc.set hri) q1 q2 q3
   split at hA
   ·rename_i hq
    simp only [Bool.and_eq_true] at hA
    obtain ⟨⟨hfree,hready⟩,hlate⟩:=hA
    have hri:i∈Region.ready .any ops listed:=by simpa using hready
    have hearly:early ⟨o.dst,g,p⟩=⟨o.dst,g,p⟩:=by
     cases p <;> first | rfl | (simp [quietP] at hq)
    rw [hearly] at hv
    have hY:∀ {S':World→Prop} {v:Value},YieldsIf P ops S' o v a→YieldsIf P ops S' o v (a.put oi.dst (.pointer (some ⟨b,0,none⟩))):=fun hy=>hy.of_same (execOp_put o hso a oi.dst _ q1) (wanted_put o a oi.dst _ q1)
    have hpc:∀ v,(a.put oi.dst (.pointer (some ⟨b,0,none⟩))).put o.dst v=(a.put o.dst v).put oi.dst (.pointer (some ⟨b,0,none⟩)):=fun v=>Act.put_comm a _ v q2
    rcases Bool.or_eq_true _ _ |>.mp hlate with hlate | hdry
    ·simp only [List.all_eq_true] at hlate
     have key:∀ v:Value,YieldsIf P ops (Old wS) o v a→(∃ env',EOK N φ ι env' (a.put o.dst v)∧vOps P (pickA kos l ++ (⟨some d,none,.alloc z⟩ :: pickB kos l2)) Q env' σ)→wpH P .any ops (AWR N n0 φ0 ι0 w0 (NP Q)) (fun i=>l2.contains i) (Old wS) (n+1) listed (a.put oi.dst (.pointer (some ⟨b,0,none⟩))) w:=fun v hy ⟨env',he,hv'⟩ =>
      wpH_first ho (Region.noSelect_spec hsel) (fun c a w ⟨_,_,_,_,_,_,_,h⟩=>h.elim) (by simpa using hnl)
       (fun b hb=>hanc b i (hlate b (by simpa using hb))) n listed _ w hc (Region.free_spec ho hfree) hri (hY hy) hw (by rw [hpc]; exact next env' _ w hri hw he hv')
     rcases step_split hg hgk h2 hv with ⟨hwt,env1,he1,ha⟩ | ⟨hwt,env1,he1,hv1⟩
     ·obtain ⟨v,c,g1,g2,g3⟩:=op_calm hp hq ha h1 he1
      exact key v (.inl ⟨hwt,fun w' hw'=>calm_run hw'.same g1⟩) ⟨_,he1.putD hd g2,g3⟩
     ·exact key _ (.inr ⟨hwt,rfl⟩) ⟨_,he1.putD hd (tup0_rel φ ι),hv1⟩
    ·rw [ho] at hdry
     have key:∀ v:Value,YieldsIf P ops (fun _=>True) o v a→(∃ env',EOK N φ ι env' (a.put o.dst v)∧vOps P (pickA kos l ++ (⟨some d,none,.alloc z⟩ :: pickB kos l2)) Q env' σ)→wpH P .any ops (AWR N n0 φ0 ι0 w0 (NP Q)) (fun i=>l2.contains i) (Old wS) (n+1) listed (a.put oi.dst (.pointer (some ⟨b,0,none⟩))) w:=fun v hy ⟨env',he,hv'⟩ =>
      wpH_firstD ho (Region.noSelect_spec hsel) (fun c a w ⟨_,_,_,_,_,_,_,h⟩=>h.elim) n listed _ w (Region.free_spec ho hfree) hri (hY hy) (by rw [hpc]; exact next env' _ w hri hw he hv')
     rcases step_split hg hgk h2 hv with ⟨hwt,env1,he1,ha⟩ | ⟨hwt,env1,he1,hv1⟩
     ·obtain ⟨v,c,g1,g2,g3⟩:=dry_sound hp hdry ha he1
      exact key v (.inl ⟨hwt,fun w' _=>calm_ok (g1 w')⟩) ⟨_,he1.putD hd g2,g3⟩
     ·exact key _ (.inr ⟨hwt,rfl⟩) ⟨_,he1.putD hd (tup0_rel φ ι),hv1⟩
   ·rename_i hq
    split at hA
    ·rename_i f args
     simp only [decide_eq_true_eq] at hA
     have hri:i∈Region.ready .any ops listed:=by rw [hA]; simp
     refine wpH_one hA ?_
     have hback:wpOp P ops (AWR N n0 φ0 ι0 w0 (NP Q)) i (fun a' w'=>((l2.contains i=false→Old wS w'∨w'=w)∧wpH P .any ops (AWR N n0 φ0 ι0 w0 (NP Q)) (fun i=>l2.contains i) (Old wS) n (listed.setIfInBounds i true) (a'.put oi.dst (.pointer (some ⟨b,0,none⟩))) w')) a w:=by
      unfold wpOp
      simp only [ho]
      rcases step_split (k:=early ⟨o.dst,g,.call f args⟩) hg hgk h2 hv with ⟨hwt,env1,he1,ha⟩ | ⟨hwt,env1,he1,hv1⟩
      ·simp only [hwt,if_true]
       obtain ⟨f',as,ts,hop,hf,has⟩:=trOp_call hp
       refine .inl (pcall_sound hop hf has ha (hw.hok h1) he1 fun v' v φ' w' hr hle htr' hok' hold hk=>?_)
       have hF1:=hF.keep (.refl _) (Tr.refl n0 φ ι wS |>.trans (hw.tr n0)) hw
       exact ⟨fun _=>.inl (hw.trans hold),wpH_weaken (fun x hx=>(hw.trans hold).trans hx) _ _ _ _ (drawP hm hgs hsel hanc hs hi0 hd0 hdN hb0 l n _ _ _ w' φ' w' ((ht.trans (hw.tr n0)).trans (htr'.weaken hs)) hok' (hF1.keep hle htr' hold) (by simp at hn; omega) hA' hB' (fun j hj=>hap j (by simp [hj])) (hc.set hri) (.refl w') ((he1.mono hle (.refl _)).putD hd hr) hk)⟩
      ·simp only [hwt,Bool.false_eq_true,if_false]
       exact ⟨fun _=>.inl hw,next _ _ w hri hw (he1.putD hd (tup0_rel φ ι)) hv1⟩
     refine wpOp_mono (fun a'' w' ⟨a',e,hh⟩=>?_) (wpOp_back ho hap1 hso (fun c a w ⟨_,_,_,_,_,_,_,h⟩=>h.elim) hback)
     subst e; exact hh
    ·rename_i e' s'
     simp only [Bool.and_eq_true,decide_eq_true_eq] at hA
     obtain ⟨⟨hA,hgn⟩,hbs⟩:=hA
     have hri:i∈Region.ready .any ops listed:=by rw [hA]; simp
     have hbs':∃ t n parts,o.op = .buildSlice t n parts:=by
      simp only [isBsl,ho] at hbs
      split at hbs
      ·rename_i e; exact ⟨_,_,_,e⟩
      ·cases hbs
     obtain ⟨tt,m,parts,hop⟩:=hbs'
     refine wpH_one hA ?_
     have hback:wpOp P ops (AWR N n0 φ0 ι0 w0 (NP Q)) i (fun a' w'=>((l2.contains i=false→Old wS w'∨w'=w)∧wpH P .any ops (AWR N n0 φ0 ι0 w0 (NP Q)) (fun i=>l2.contains i) (Old wS) n (listed.setIfInBounds i true) (a'.put oi.dst (.pointer (some ⟨b,0,none⟩))) w')) a w:=by
      unfold wpOp
      simp only [ho]
      rcases step_split (k:=⟨o.dst,g,.bsl true e' s' []⟩) hg hgk h2 hv with ⟨hwt,env1,he1,ha⟩ | ⟨hwt,env1,he1,hv1⟩
      ·simp only [hwt,if_true]
       obtain ⟨⟨v,w',hrun,hold,hr⟩,hK⟩:=ebsl hop hp ha he1 (w:=w)
       refine .inl (wp_val hrun ⟨fun _=>.inl (hw.trans hold),next _ _ w' hri (hw.trans hold) (he1.putD hd hr) hK⟩)
      ·simp only [hwt,Bool.false_eq_true,if_false]
       exact ⟨fun _=>.inl hw,next _ _ w hri hw (he1.putD hd (tup0_rel φ ι)) hv1⟩
     refine wpOp_mono (fun a'' w' ⟨a',e,hh⟩=>?_) (wpOp_back ho hap1 hso (fun c a w ⟨_,_,_,_,_,_,_,h⟩=>h.elim) hback)
     subst e; exact hh
    ·cases hA

theorem drawF {l2:List Nat} {anc:List Nat} (hm:ops.toList.mapM (trOper P fz N ops)=some kos) (hgs:guardsOK N kos=true) (hsel:Region.noSelect ops=true)
  (hanc:∀ j i:Nat,(anc.getD j 0).testBit i=true→Anc .any ops i j) {σ:Heap} {ι:List KLoc} (hs:n0≤σ.length) {oi:Oper} {i0:Nat} (hi0:ops[i0]? = some oi) {d:Nat} {z:List PV} {ta:TypeId} (hop0:oi.op = .alloc ta) (hk0:kos[i0]? = some ⟨some d,none,.alloc z⟩) (hl0:l2.contains i0=false) :
  ∀ (l:List Nat) (n:Nat) (listed:Array Bool) (env:Env) (a:Act) (w:World) (φ:Frz) (wS:World),Tr n0 φ0 ι0 w0 φ ι wS→HOK φ ι σ wS →
  l.length+(1+l2.length)≤n→okF ops kos .any anc l2 i0 l listed=true→okB ops .any kos.length (i0 :: l2) (listUp listed l)=true→Closed .any ops listed→Old wS w→EOK N φ ι env a→vOps P (pickA kos l ++ pickB kos (i0 :: l2)) Q env σ →
  wpH P .any ops (AWR N n0 φ0 ι0 w0 (NP Q)) (fun i=>l2.contains i) (Old wS) n listed a w:=by
 obtain ⟨oi',hoi',htr0⟩:=mapM_get hm hk0
 rw [hi0] at hoi'; cases hoi'
 obtain ⟨p0,g0,hp0,hg0,hd0,hko⟩:=trOper_dst htr0
 simp only [KO.mk.injEq] at hko
 obtain ⟨hdst,rfl,rfl⟩:=hko
 have hdN:Option.all (fun x=>decide (x<N)) (some d)=true:=by rw [hdst]; exact hd0
 have hpb:pickB kos (i0 :: l2)=⟨some d,none,.alloc z⟩ :: pickB kos l2:=by simp [pickB,hk0]
 have hwant:∀ a:Act,Region.wanted oi (yielded ops a.tmps)=true:=fun a=>by simp [Region.wanted,guard_none hg0]
 intro l
 induction l with
 | nil =>
  intro n listed env a w φ wS ht h1 hn hA hB hc hw h2 hv
  obtain ⟨n,rfl⟩:∃ m,n=m+1:=⟨n - 1,by simp at hn; omega⟩
  simp only [listUp,List.foldl_nil,okB,Bool.and_eq_true,decide_eq_true_eq] at hB
  obtain ⟨⟨hi,hr⟩,hB⟩:=hB
  have hr:=of_decide_eq_true hr
  refine wpH_one hr ?_
  unfold wpOp
  simp only [hi0,hwant a,if_true]
  have hv':vOps P (⟨some d,none,.alloc z⟩ :: pickB kos l2) Q env σ:=by simpa [pickA,hpb] using hv
  rcases vOps_cons hv' with ⟨_,ha⟩ | ⟨_,_,_,g,_⟩ | ⟨_,_,g,_⟩
  ·obtain ⟨hok,hK⟩:=ha
   obtain ⟨C,e,hrun,hR,hz⟩:=alloc_run hop0 hp0 φ ι w a
   obtain ⟨g1,g2,g3⟩:=new_box (e:=e) (hw.hok h1) hR hok
   refine .inl (wp_val hrun ⟨fun _=>.inl (hw.trans ⟨fun b hb=>alloc_old w _ hb,by rw [alloc_size]; omega,rfl,rfl,rfl⟩),?_⟩)
   refine drawB hm hgs l2 n _ _ (σ ++ [.box z]) φ _ _ _ (by simp at hn; omega) (fun i hi=>by simpa using hi) hB ((ht.trans (hw.tr n0)).trans (g2.weaken hs)) g1 ?_ (by simp; omega) hK
   rw [← hdst]
   exact (h2.mono (.refl _) (LLe.append _ _)).putD hdN g3
  ·cases g
  ·cases g
 | cons i l ih =>
  intro n listed env a w φ wS ht h1 hn hA hB hc hw h2 hv
  obtain ⟨n,rfl⟩:∃ m,n=m+1:=⟨n - 1,by simp at hn; omega⟩
  have hB':okB ops .any kos.length (i0 :: l2) (listUp (listed.setIfInBounds i true) l)=true:=by simpa [listUp] using hB
  have hAll:=hA
  simp only [okF,Bool.and_eq_true] at hA
  obtain ⟨hA,hA'⟩:=hA
  split at hA
  ·simp at hA
  ·rename_i k hki
   obtain ⟨o,ho,htr⟩:=mapM_get hm hki
   simp only [pickA,hki,List.singleton_append,List.cons_append] at hv
   obtain ⟨p,g,hp,hg,hd,rfl⟩:=trOper_dst htr
   have hgk:guardsOK N [⟨o.dst,g,p⟩]=true:=by
    have:=List.mem_of_getElem? hki
    simp only [guardsOK,List.all_eq_true] at hgs ⊢
    intro x hx
    simp at hx; subst hx
    exact hgs _ this
   simp only [Bool.and_eq_true,Bool.not_eq_true'] at hA
   obtain ⟨⟨hnl,hA⟩,hap1⟩:=hA
   have next:∀ (env':Env) (a':Act) (w':World),i∈Region.ready .any ops listed→Old wS w'→EOK N φ ι env' a'→vOps P (pickA kos l ++ pickB kos (i0 :: l2)) Q env' σ →
     wpH P .any ops (AWR N n0 φ0 ι0 w0 (NP Q)) (fun i=>l2.contains i) (Old wS) n (listed.setIfInBounds i true) a' w':=fun env' a' w' hri q1 q2 q3 =>
    ih n _ env' a' w' φ wS ht h1 (by simp at hn; omega) hA' hB' (hc.set hri) q1 q2 q3
   split at hA
   ·rename_i hq
    simp only [Bool.and_eq_true] at hA
    obtain ⟨⟨hfree,hready⟩,hlate⟩:=hA
    have hri:i∈Region.ready .any ops listed:=by simpa using hready
    have hearly:early ⟨o.dst,g,p⟩=⟨o.dst,g,p⟩:=by
     cases p <;> first | rfl | (simp [quietP] at hq)
    rw [hearly] at hv
    rcases Bool.or_eq_true _ _ |>.mp hlate with hlate | hdry
    ·simp only [List.all_eq_true] at hlate
     have key:∀ v:Value,YieldsIf P ops (Old wS) o v a→(∃ env',EOK N φ ι env' (a.put o.dst v)∧vOps P (pickA kos l ++ pickB kos (i0 :: l2)) Q env' σ)→wpH P .any ops (AWR N n0 φ0 ι0 w0 (NP Q)) (fun i=>l2.contains i) (Old wS) (n+1) listed a w:=fun v hy ⟨env',he,hv'⟩ =>
      wpH_first ho (Region.noSelect_spec hsel) (fun c a w ⟨_,_,_,_,_,_,_,h⟩=>h.elim) (by simpa using hnl)
       (fun b hb=>hanc b i (hlate b (by simpa using hb))) n listed a w hc (Region.free_spec ho hfree) hri hy hw (next env' _ w hri hw he hv')
     rcases step_split hg hgk h2 hv with ⟨hwt,env1,he1,ha⟩ | ⟨hwt,env1,he1,hv1⟩
     ·obtain ⟨v,c,g1,g2,g3⟩:=op_calm hp hq ha h1 he1
      exact key v (.inl ⟨hwt,fun w' hw'=>calm_run hw'.same g1⟩) ⟨_,he1.putD hd g2,g3⟩
     ·exact key _ (.inr ⟨hwt,rfl⟩) ⟨_,he1.putD hd (tup0_rel φ ι),hv1⟩
    ·rw [ho] at hdry
     have key:∀ v:Value,YieldsIf P ops (fun _=>True) o v a→(∃ env',EOK N φ ι env' (a.put o.dst v)∧vOps P (pickA kos l ++ pickB kos (i0 :: l2)) Q env' σ)→wpH P .any ops (AWR N n0 φ0 ι0 w0 (NP Q)) (fun i=>l2.contains i) (Old wS) (n+1) listed a w:=fun v hy ⟨env',he,hv'⟩ =>
      wpH_firstD ho (Region.noSelect_spec hsel) (fun c a w ⟨_,_,_,_,_,_,_,h⟩=>h.elim) n listed a w (Region.free_spec ho hfree) hri hy (next env' _ w hri hw he hv')
     rcases step_split hg hgk h2 hv with ⟨hwt,env1,he1,ha⟩ | ⟨hwt,env1,he1,hv1⟩
     ·obtain ⟨v,c,g1,g2,g3⟩:=dry_sound hp hdry ha he1
      exact key v (.inl ⟨hwt,fun w' _=>calm_ok (g1 w')⟩) ⟨_,he1.putD hd g2,g3⟩
     ·exact key _ (.inr ⟨hwt,rfl⟩) ⟨_,he1.putD hd (tup0_rel φ ι),hv1⟩
   ·rename_i hq
    split at hA
    ·rename_i f args
     simp only [Bool.and_eq_true,decide_eq_true_eq] at hA
     obtain ⟨⟨hA,hPA⟩,hPB⟩:=hA
     have hri:i∈Region.ready .any ops listed:=by
      have:i∈(Region.ready .any ops listed).filter (fun j=>j != i0):=by rw [hA]; simp
      exact (List.mem_filter.1 this).1
     refine ⟨fun h0=>(by rw [h0] at hri; cases hri),fun j hj=>?_⟩
     by_cases hji:j=i0
     ·subst hji
      unfold wpOp
      simp only [hi0,hwant a,if_true]
      obtain ⟨C,e,hrun,hR,hz⟩:=alloc_run hop0 hp0 φ ι w a
      have hold:Old w (w.alloc (.cells C e)):=⟨fun b hb=>alloc_old w _ hb,by rw [alloc_size]; omega,rfl,rfl,rfl⟩
      refine .inl (wp_val hrun ⟨fun _=>.inl (hw.trans hold),?_⟩)
      have hok':=hold.hok (hw.hok h1)
      refine wpH_weaken (fun x hx=>(hw.trans hold).trans hx) _ _ _ _ (drawP (z:=z) hm hgs hsel hanc hs hi0 hdst.symm hdN (b:=w.heap.size) ((ht.trans (hw.tr n0)).sz) (i :: l) n _ env a _ φ _ ((ht.trans (hw.tr n0)).trans (hold.tr n0)) hok' ⟨by rw [alloc_size]; omega,?_,fun id x hx hxb=>?_,⟨C,e,alloc_new w _,hR,hz⟩⟩ (by simp at hn ⊢; omega) hPA hPB ?_ (hc.set hj) (.refl _) h2 (by simpa [pickA,hki,hpb] using hv))
      ·cases hp:φ w.heap.size with
       | none=>rfl
       | some D =>
        obtain ⟨_,_,g⟩:=(hw.hok h1).fz _ _ hp
        have:=heap_lt g; omega
      ·have:=(hw.hok h1).lt id x _ hx hxb; omega
      ·exact okF_apart hi0 hAll
     ·have hji':j=i:=by
       have:j∈(Region.ready .any ops listed).filter (fun j=>j != i0):=List.mem_filter.2 ⟨hj,by simpa using hji⟩
       rw [hA] at this; simpa using this
      subst hji'
      unfold wpOp
      simp only [ho]
      rcases step_split (k:=early ⟨o.dst,g,.call f args⟩) hg hgk h2 hv with ⟨hwt,env1,he1,ha⟩ | ⟨hwt,env1,he1,hv1⟩
      ·simp only [hwt,if_true]
       obtain ⟨f',as,ts,hop,hf,has⟩:=trOp_call hp
       refine .inl (pcall_sound hop hf has ha (hw.hok h1) he1 fun v' v φ' w' hr hle htr' hok' hold hk=>?_)
       exact ⟨fun _=>.inl (hw.trans hold),wpH_weaken (fun x hx=>(hw.trans hold).trans hx) _ _ _ _ (ih n _ _ _ w' φ' w' ((ht.trans (hw.tr n0)).trans (htr'.weaken hs)) hok' (by simp at hn; omega) hA' hB' (hc.set hri) (.refl w') ((he1.mono hle (.refl _)).putD hd hr) hk)⟩
      ·simp only [hwt,Bool.false_eq_true,if_false]
       exact ⟨fun _=>.inl hw,next _ _ w hri hw (he1.putD hd (tup0_rel φ ι)) hv1⟩
    ·cases hA
end

theorem AW_draw0 {id:Nat} {fz:List Nat} {ops:Array Oper} {kos:List KO} {Q:Exit→Env→Heap→Prop} {env:Env} {σ:Heap} (hf:P.follows .mixedOrders=true) (hm:trDraw0 P fz N ops=some kos) (hv:vOps P kos Q env σ):AW P N n0 (.region id ops true) Q env σ:=by
 unfold trDraw0 at hm
 simp only [Option.bind_eq_bind,Option.bind_eq_some_iff] at hm
 obtain ⟨ks,hks,hm⟩:=hm
 split at hm
 ·rename_i hc
  simp only [Option.some.injEq] at hm; subst hm
  simp only [Bool.and_eq_true,decide_eq_true_eq] at hc
  obtain ⟨⟨⟨⟨⟨c1,c2⟩,c3⟩,c4⟩,c5⟩,c6⟩:=hc
  generalize planA ops ks .any ops.size (Array.replicate ops.size false)=l1 at *
  generalize planM ops .any (ops.size - l1.length) (listUp (Array.replicate ops.size false) l1)=lm at *
  generalize planB ops .any (ops.size - l1.length - lm.length) (listUp (listUp (Array.replicate ops.size false) l1) lm)=l2 at *
  refine AW.mono (Q:=NP Q) (fun φ ι a w h1 h2=>wp_region_any hf (wpH_any (B:=fun i=>l2.contains i) (S:=Old w) _ _ _ _ ?_)) fun e env σ q=>by
   cases e <;> first | exact q | exact q.elim
  have hcl:Closed .any ops (Array.replicate ops.size false):=fun j o ho hj=>by
   rw [Array.getD_eq_getD_getElem?] at hj
   by_cases h:j<ops.size
   ·simp [h] at hj
   ·simp [h] at hj
  exact drawA hks c1 c2 (ancF_spec ops.toList [] (fun j=>by simp) (fun j i h=>by simp at h)) h2.2 _ _ _ env a _ φ w (Tr.refl n0 φ ι w) h1 c3 c4 c5 c6 hcl ⟨fun _ _=>rfl,Nat.le_refl _,rfl,rfl,rfl⟩ h2.1 hv
 ·cases hm
theorem AW_drawF {id:Nat} {fz:List Nat} {ops:Array Oper} {kos:List KO} {Q:Exit→Env→Heap→Prop} {env:Env} {σ:Heap} (hf:P.follows .mixedOrders=true) (hm:trDrawF P fz N ops=some kos) (hv:vOps P kos Q env σ):AW P N n0 (.region id ops true) Q env σ:=by
 unfold trDrawF at hm
 simp only [Option.bind_eq_bind,Option.bind_eq_some_iff] at hm
 obtain ⟨ks,hks,i0,_,hm⟩:=hm
 split at hm
 ·rename_i hc
  simp only [Option.some.injEq] at hm; subst hm
  simp only [Bool.and_eq_true,decide_eq_true_eq,Bool.not_eq_true'] at hc
  obtain ⟨⟨⟨⟨⟨⟨c1,c2⟩,c3⟩,c4⟩,c5⟩,c6⟩,c7⟩:=hc
  generalize planF ops ks .any i0 ops.size (Array.replicate ops.size false)=l1 at *
  generalize planB ops .any (ops.size - l1.length - 1) (listUp (listUp (Array.replicate ops.size false) l1) [i0])=l2 at *
  simp only [isAl,Bool.and_eq_true] at c6
  obtain ⟨c6,c8⟩:=c6
  split at c6
  ·rename_i d z hk0
   split at c8
   ·rename_i oi hi0
    split at c8
    ·rename_i ta hop0
     refine AW.mono (Q:=NP Q) (fun φ ι a w h1 h2=>wp_region_any hf (wpH_any (B:=fun i=>l2.contains i) (S:=Old w) _ _ _ _ ?_)) fun e env σ q=>by
      cases e <;> first | exact q | exact q.elim
     have hcl:Closed .any ops (Array.replicate ops.size false):=fun j o ho hj=>by
      rw [Array.getD_eq_getD_getElem?] at hj
      by_cases h:j<ops.size
      ·simp [h] at hj
      ·simp [h] at hj
     exact drawF hks c1 c2 (ancF_spec ops.toList [] (fun j=>by simp) (fun j i h=>by simp at h)) h2.2 hi0 hop0 hk0 c7 _ _ _ env a _ φ w (Tr.refl n0 φ ι w) h1 c3 c4 c5 hcl ⟨fun _ _=>rfl,Nat.le_refl _,rfl,rfl,rfl⟩ h2.1 hv
    ·cases c8
   ·cases c8
  ·cases c6
 ·cases hm
theorem altsT_spec {f:Nat→Option KT} {Q:Exit→Env→Heap→Prop} {env:Env} {σ:Heap}:∀ {l:List Nat} {t:KT},altsT f l=some t→vT P t Q env σ→∀ i∈l,∃ u,f i=some u∧vT P u Q env σ
 | [],t,h,_,i,hi=>by simp at hi
 | [j],t,h,hv,i,hi=>by
  simp only [List.mem_singleton] at hi; subst hi
  exact ⟨t,h,hv⟩
 | j :: k :: r,t,h,hv,i,hi=>by
  simp only [altsT,Option.bind_eq_bind,Option.bind_eq_some_iff,Option.some.injEq] at h
  obtain ⟨a,ha,b,hb,rfl⟩:=h
  rcases List.mem_cons.1 hi with rfl | hi
  ·exact ⟨a,ha,hv.1⟩
  ·exact altsT_spec (l:=k :: r) (t:=b) hb hv.2 i hi
section
variable {ops:Array Oper} {kos:List KO} {fz:List Nat} {φ0:Frz} {ι0:List KLoc} {w0:World} {Q:Exit→Env→Heap→Prop}
theorem tree_sound (hm:ops.toList.mapM (trOper P fz N ops)=some kos) (hgs:guardsOK N kos=true) (hsel:Region.noSelect ops=true):∀ (n:Nat) (listed:Array Bool) (t:KT) (env:Env) (σ:Heap) (φ:Frz) (ι:List KLoc) (a:Act) (w:World),
  trTree ops kos n listed=some t→Tr n0 φ0 ι0 w0 φ ι w→HOK φ ι σ w→EOK N φ ι env a→n0≤σ.length→vT P t Q env σ →
  wpH P .any ops (AWR N n0 φ0 ι0 w0 (NP Q)) (fun _=>true) (fun _=>True) n listed a w
 | 0,listed,t,env,σ,φ,ι,a,w,h,ht,h1,h2,hs,hv=>by
  unfold trTree at h
  split at h
  ·rename_i hr
   cases h
   exact ⟨hr,φ,ι,env,σ,ht,h1,⟨h2,hs⟩,hv⟩
  ·cases h
 | n+1,listed,t,env,σ,φ,ι,a,w,h,ht,h1,h2,hs,hv=>by
  unfold trTree at h
  split at h
  ·rename_i hr
   cases h
   exact wpH_done hr ⟨φ,ι,env,σ,ht,h1,⟨h2,hs⟩,hv⟩ (n+1)
  rename_i hne
  split at h
  ·-- what looks at no world
   rename_i i hfi
   have hri:=List.mem_of_find?_eq_some hfi
   have hpi:=List.find?_some hfi
   simp only [Bool.and_eq_true] at hpi
   obtain ⟨hdry,hfree⟩:=hpi
   split at h
   ·rename_i k hki
    simp only [Option.map_eq_some_iff] at h
    obtain ⟨u,hu,rfl⟩:=h
    obtain ⟨o,ho,htr⟩:=mapM_get hm hki
    rw [ho] at hdry
    obtain ⟨p,g,hp,hg,hd,rfl⟩:=trOper_dst htr
    have hgk:guardsOK N [⟨o.dst,g,p⟩]=true:=by
     have:=List.mem_of_getElem? hki
     simp only [guardsOK,List.all_eq_true] at hgs ⊢
     intro x hx
     simp at hx; subst hx
     exact hgs _ this
    rw [vT_op'] at hv
    have key:∀ v:Value,YieldsIf P ops (fun _=>True) o v a→(∃ env',EOK N φ ι env' (a.put o.dst v)∧vOps P [] (TK P u Q) env' σ)→wpH P .any ops (AWR N n0 φ0 ι0 w0 (NP Q)) (fun _=>true) (fun _=>True) (n+1) listed a w:=fun v hy ⟨env',he,hv'⟩ =>
     wpH_firstD ho (Region.noSelect_spec hsel) (fun c a w ⟨_,_,_,_,_,_,_,h⟩=>h.elim) n listed a w (Region.free_spec ho hfree) hri hy (tree_sound hm hgs hsel n _ u env' σ φ ι _ w hu ht h1 he hs hv')
    rcases step_split hg hgk h2 hv with ⟨hwt,env1,he1,ha⟩ | ⟨hwt,env1,he1,hv1⟩
    ·obtain ⟨v,c,g1,g2,g3⟩:=dry_sound hp hdry ha he1
     exact key v (.inl ⟨hwt,fun w' _=>calm_ok (g1 w')⟩) ⟨_,he1.putD hd g2,g3⟩
    ·exact key _ (.inr ⟨hwt,rfl⟩) ⟨_,he1.putD hd (tup0_rel φ ι),hv1⟩
   ·cases h
  ·refine ⟨fun h0=>absurd h0 hne,fun i hi=>?_⟩
   obtain ⟨u',hu',hv'⟩:=altsT_spec h hv i hi
   split at hu'
   ·rename_i k hki
    simp only [Option.map_eq_some_iff] at hu'
    obtain ⟨u,hu,rfl⟩:=hu'
    obtain ⟨o,ho,htr⟩:=mapM_get hm hki
    obtain ⟨p,g,hp,hg,hd,rfl⟩:=trOper_dst htr
    have hgk:guardsOK N [⟨o.dst,g,p⟩]=true:=by
     have:=List.mem_of_getElem? hki
     simp only [guardsOK,List.all_eq_true] at hgs ⊢
     intro x hx
     simp at hx; subst hx
     exact hgs _ this
    rw [vT_op'] at hv'
    have next:∀ (env':Env) (σ':Heap) (φ':Frz) (ι':List KLoc) (a':Act) (w':World),Tr n0 φ0 ι0 w0 φ' ι' w'→HOK φ' ι' σ' w'→EOK N φ' ι' env' a'→n0≤σ'.length→vOps P [] (TK P u Q) env' σ' →
      ((fun _=>true) i=false→True∨w'=w)∧wpH P .any ops (AWR N n0 φ0 ι0 w0 (NP Q)) (fun _=>true) (fun _=>True) n (listed.setIfInBounds i true) a' w':=fun env' σ' φ' ι' a' w' q1 q2 q3 q4 q5 =>
     ⟨fun _=>.inl trivial,tree_sound hm hgs hsel n _ u env' σ' φ' ι' a' w' hu q1 q2 q3 q4 q5⟩
    unfold wpOp
    simp only [ho]
    rcases step_split hg hgk h2 hv' with ⟨hw,env1,he1,ha⟩ | ⟨hw,env1,he1,hv1⟩
    ·simp only [hw,if_true]
     refine .inl (op_sound (N:=N) hp ha h1 he1 fun v' v φ' ι' σ' w' hr htr h1' hk'=>?_)
     have hle:=Tr.le h1 htr
     exact next _ σ' φ' ι' _ w' (ht.trans (htr.weaken hs)) h1' ((he1.mono htr.f hle).putD hd hr) (size_mono h1 h1' htr hs) hk'
    ·simp only [hw,Bool.false_eq_true,if_false]
     have hnx:=next _ σ φ ι (a.put o.dst undef) w ht h1 (he1.putD hd (tup0_rel φ ι)) hs hv1
     exact ⟨fun _=>.inr trivial,hnx.2⟩
   ·cases hu'
theorem mks_old {o:Oper} {t:TypeId} {l c:Operand} (hop:o.op = .makeSlice t l c) {d:Option Nat} {p:KP} (h:trOp P fz d o.op=some p) {K:PV→Heap→Prop} {env:Env} {σ:Heap} {φ:Frz} {ι:List KLoc} {w:World} {a:Act} (ha:aOp P p env σ K) (h2:EOK N φ ι env a) :
  ∃ v w',(execOp a.eval o).run P w = .ok (.value v) w'∧Old w w':=by
 rw [hop] at h
 simp only [trOp,Option.bind_eq_bind,Option.bind_eq_some_iff] at h
 obtain ⟨e0,ht,h⟩:=h
 split at h
 ·rename_i e
  simp only [Option.bind_eq_some_iff] at h
  obtain ⟨i,hi,z,hz,zs,hzs,h⟩:=h
  split at h
  ·cases h
  ·rename_i hcond
   have fin:∀ (zp:PV) l' c',trX l=some l'→trX c=some c'→aOp P (.mks e i.size zp l' c') env σ K→∃ v w',(execOp a.eval o).run P w = .ok (.value v) w'∧Old w w':=fun zp l' c' hl hc ha=>by
    simp only [aOp] at ha
    split at ha
    ·rename_i n m e1 e2
     obtain ⟨kl,hkl⟩:=intOf_inv (trX_rel h2 hl) e1
     obtain ⟨kc,hkc⟩:=intOf_inv (trX_rel h2 hc) e2
     obtain ⟨⟨h3,h4,h5⟩,hK⟩:=ha
     have hbytes:(i.bytes:Int) * m≤281474976710656:=by
      have h3':(i.bytes:Int)≤32768:=by omega
      have:=Int.mul_le_mul h3' h5 (by omega) (by omega)
      omega
     have hr:=run_make (P:=P) w t e i z ht hi hz kl kc n m h3 h4 hbytes (by omega)
     refine ⟨_,w.alloc (.cells (madeCells z.cells (m.toNat * i.size)) e),by simp [execOp,hop,hkl,hkc,hr]; rfl,fun b hb=>alloc_old w _ hb,by rw [alloc_size]; omega,rfl,rfl,rfl⟩
    ·exact ha.elim
   simp only [Option.bind_eq_some_iff] at h
   obtain ⟨b,_,h⟩:=h
   split at h
   ·simp only [Option.bind_eq_some_iff,Option.some.injEq] at h
    obtain ⟨l',hl,c',hc,rfl⟩:=h
    exact fin _ l' c' hl hc ha
   ·split at h
    ·simp only [Option.bind_eq_some_iff,Option.some.injEq] at h
     obtain ⟨l',hl,c',hc,rfl⟩:=h
     exact fin _ l' c' hl hc ha
    ·cases h
 ·cases h
theorem keeps_old {o:Oper} (hk:keepsO o=true) {d:Option Nat} {p:KP} (h:trOp P fz d o.op=some p) {K:PV→Heap→Prop} {env:Env} {σ:Heap} {φ:Frz} {ι:List KLoc} {w:World} {a:Act} (ha:aOp P p env σ K) (h2:EOK N φ ι env a) :
  ∃ v w',(execOp a.eval o).run P w = .ok (.value v) w'∧Old w w':=by
 unfold keepsO at hk
 split at hk
 ·rename_i hop; exact bsl_old hop h ha h2
 ·rename_i hop; exact mks_old hop h ha h2
 ·cases hk
theorem closed_none:Closed .any ops (Array.replicate ops.size false):=fun j o ho hj=>by
 rw [Array.getD_eq_getD_getElem?] at hj
 by_cases h:j<ops.size
 ·simp [h] at hj
 ·simp [h] at hj
theorem treeQ_sound (hm:ops.toList.mapM (trOper P fz N ops)=some kos) (hgs:guardsOK N kos=true) (hsel:Region.noSelect ops=true):∀ (n:Nat) (listed:Array Bool) (t:KT) (env:Env) (σ:Heap) (φ:Frz) (ι:List KLoc) (a:Act) (w:World),
  trTreeQ ops kos n listed=some t→Tr n0 φ0 ι0 w0 φ ι w→HOK φ ι σ w→EOK N φ ι env a→n0≤σ.length→Closed .any ops listed→vT P t Q env σ →
  wpH P .any ops (AWR N n0 φ0 ι0 w0 (NP Q)) (fun _=>false) (Old w) n listed a w
 | 0,listed,t,env,σ,φ,ι,a,w,h,ht,h1,h2,hs,hc,hv=>by
  unfold trTreeQ at h
  split at h
  ·rename_i hr
   cases h
   exact ⟨hr,φ,ι,env,σ,ht,h1,⟨h2,hs⟩,hv⟩
  ·cases h
 | n+1,listed,t,env,σ,φ,ι,a,w,h,ht,h1,h2,hs,hc,hv=>by
  unfold trTreeQ at h
  split at h
  ·rename_i hr
   cases h
   exact wpH_done hr ⟨φ,ι,env,σ,ht,h1,⟨h2,hs⟩,hv⟩ (n+1)
  rename_i hne
  split at h
  ·-- what only reads
   rename_i i hfi
   have hri:=List.mem_of_find?_eq_some hfi
   have hpi:=List.find?_some hfi
   simp only [Bool.and_eq_true] at hpi
   obtain ⟨hq,hfree⟩:=hpi
   split at h
   ·rename_i k hki
    rw [hki] at hq
    simp only [Option.map_eq_some_iff] at h
    obtain ⟨u,hu,rfl⟩:=h
    obtain ⟨o,ho,htr⟩:=mapM_get hm hki
    obtain ⟨p,g,hp,hg,hd,rfl⟩:=trOper_dst htr
    have hgk:guardsOK N [⟨o.dst,g,p⟩]=true:=by
     have:=List.mem_of_getElem? hki
     simp only [guardsOK,List.all_eq_true] at hgs ⊢
     intro x hx
     simp at hx; subst hx
     exact hgs _ this
    rw [vT_op'] at hv
    have key:∀ v:Value,YieldsIf P ops (Old w) o v a→(∃ env',EOK N φ ι env' (a.put o.dst v)∧vOps P [] (TK P u Q) env' σ)→wpH P .any ops (AWR N n0 φ0 ι0 w0 (NP Q)) (fun _=>false) (Old w) (n+1) listed a w:=fun v hy ⟨env',he,hv'⟩ =>
     wpH_first ho (Region.noSelect_spec hsel) (fun c a w ⟨_,_,_,_,_,_,_,h⟩=>h.elim) rfl (fun b hb=>by cases hb) n listed a w hc (Region.free_spec ho hfree) hri hy (.refl w) (treeQ_sound hm hgs hsel n _ u env' σ φ ι _ w hu ht h1 he hs (hc.set hri) hv')
    rcases step_split hg hgk h2 hv with ⟨hwt,env1,he1,ha⟩ | ⟨hwt,env1,he1,hv1⟩
    ·obtain ⟨v,c,g1,g2,g3⟩:=op_calm hp hq ha h1 he1
     exact key v (.inl ⟨hwt,fun w' hw'=>calm_run hw'.same g1⟩) ⟨_,he1.putD hd g2,g3⟩
    ·exact key _ (.inr ⟨hwt,rfl⟩) ⟨_,he1.putD hd (tup0_rel φ ι),hv1⟩
   ·cases h
  ·refine ⟨fun h0=>absurd h0 hne,fun i hi=>?_⟩
   obtain ⟨u',hu',hv'⟩:=altsT_spec h hv i hi
   split at hu'
   ·rename_i hkp
    split at hu'
    ·rename_i k hki
     simp only [Option.map_eq_some_iff] at hu'
     obtain ⟨u,hu,rfl⟩:=hu'
     obtain ⟨o,ho,htr⟩:=mapM_get hm hki
     simp only [keepsAt,ho] at hkp
     obtain ⟨p,g,hp,hg,hd,rfl⟩:=trOper_dst htr
     have hgk:guardsOK N [⟨o.dst,g,p⟩]=true:=by
      have:=List.mem_of_getElem? hki
      simp only [guardsOK,List.all_eq_true] at hgs ⊢
      intro x hx
      simp at hx; subst hx
      exact hgs _ this
     rw [vT_op'] at hv'
     have next:∀ (env':Env) (σ':Heap) (φ':Frz) (ι':List KLoc) (a':Act) (w':World),Old w w'→Tr n0 φ0 ι0 w0 φ' ι' w'→HOK φ' ι' σ' w'→EOK N φ' ι' env' a'→n0≤σ'.length→vOps P [] (TK P u Q) env' σ' →
       ((fun _=>false) i=false→Old w w'∨w'=w)∧wpH P .any ops (AWR N n0 φ0 ι0 w0 (NP Q)) (fun _=>false) (Old w) n (listed.setIfInBounds i true) a' w':=fun env' σ' φ' ι' a' w' q0 q1 q2 q3 q4 q5 =>
      ⟨fun _=>.inl q0,wpH_weaken (fun x hx=>q0.trans hx) _ _ _ _ (treeQ_sound hm hgs hsel n _ u env' σ' φ' ι' a' w' hu q1 q2 q3 q4 (hc.set hi) q5)⟩
     unfold wpOp
     simp only [ho]
     rcases step_split hg hgk h2 hv' with ⟨hw,env1,he1,ha⟩ | ⟨hw,env1,he1,hv1⟩
     ·simp only [hw,if_true]
      obtain ⟨v0,w1,hrun,hold1⟩:=keeps_old (w:=w) hkp hp ha he1
      have hwp:=op_sound (N:=N) hp ha h1 he1 (next:=fun a' w'=>Old w w'→((fun _=>false) i=false→Old w w'∨w'=w)∧wpH P .any ops (AWR N n0 φ0 ι0 w0 (NP Q)) (fun _=>false) (Old w) n (listed.setIfInBounds i true) a' w') (Q:=AWR N n0 φ0 ι0 w0 (NP Q)) (fun v' v φ' ι' σ' w' hr htr h1' hk' hold'=>by
       have hle:=Tr.le h1 htr
       exact next _ σ' φ' ι' _ w' hold' (ht.trans (htr.weaken hs)) h1' ((he1.mono htr.f hle).putD hd hr) (size_mono h1 h1' htr hs) hk')
      unfold Oper.wp at hwp
      rw [hrun] at hwp
      have hwp:=hwp hold1
      exact .inl (wp_val hrun ⟨fun _=>hwp.1 rfl,hwp.2⟩)
     ·simp only [hw,Bool.false_eq_true,if_false]
      have hnx:=next _ σ φ ι (a.put o.dst undef) w (.refl w) ht h1 (he1.putD hd (tup0_rel φ ι)) hs hv1
      exact ⟨fun _=>.inr trivial,hnx.2⟩
    ·cases hu'
   ·cases hu'
end
theorem AW_drawT {id:Nat} {fz:List Nat} {ops:Array Oper} {t:KT} {Q:Exit→Env→Heap→Prop} {env:Env} {σ:Heap} (hf:P.follows .mixedOrders=true) (hm:trDrawT P fz N ops=some t) (hv:vT P t Q env σ):AW P N n0 (.region id ops true) Q env σ:=by
 unfold trDrawT at hm
 simp only [Option.bind_eq_bind,Option.bind_eq_some_iff] at hm
 obtain ⟨ks,hks,hm⟩:=hm
 split at hm
 ·rename_i hc
  simp only [Bool.and_eq_true] at hc
  split at hm
  ·rename_i t' hq
   cases hm
   exact AW.mono (Q:=NP Q) (fun φ ι a w h1 h2=>wp_region_any hf (wpH_any _ _ _ _ (treeQ_sound hks hc.1 hc.2 _ _ t env σ φ ι a _ hq (Tr.drew n0 φ ι w) h1.drew h2.1 h2.2 closed_none hv))) fun e env σ q=>by
    cases e <;> first | exact q | exact q.elim
  refine AW.mono (Q:=NP Q) (fun φ ι a w h1 h2=>wp_region_any hf (wpH_any (B:=fun _=>true) (S:=fun _=>True) _ _ _ _ ?_)) fun e env σ q=>by
   cases e <;> first | exact q | exact q.elim
  exact tree_sound hks hc.1 hc.2 _ _ t env σ φ ι a _ hm (Tr.drew n0 φ ι w) h1.drew h2.1 h2.2 hv
 ·cases hm
theorem AW_draw {id:Nat} {fz:List Nat} {ops:Array Oper} {kos:List KO} {Q:Exit→Env→Heap→Prop} {env:Env} {σ:Heap} (hf:P.follows .mixedOrders=true) (hm:trDraw P fz N ops=some kos) (hv:vOps P kos Q env σ):AW P N n0 (.region id ops true) Q env σ:=by
 unfold trDraw at hm
 split at hm
 ·cases hm
 split at hm
 ·rename_i k hk
  cases hm
  exact AW_draw0 hf hk hv
 ·exact AW_drawF hf hm hv
end Go.Kv
end

/- How the abstract condition of code is reckoned out: one equation for each form, for simp. -/
section
namespace Go.Kv
set_option linter.unusedVariables false
set_option linter.unusedSimpArgs false

def mkCfg (P:Program) (hf:P.follows .mixedOrders=true) (fz:List Nat) (N n0:Nat):Cfg where
 P:=P
 fz:=fz
 N:=N
 n0:=n0
 D:=vOps P
 dr:=trDraw P fz N
 ok:=fun _ _ _ _ _ _ h hv=>AW_draw hf h hv
 drT:=trDrawT P fz N
 okT:=fun _ _ _ _ _ _ h hv=>AW_drawT hf h hv

variable {P:Program} {C:Cfg} {Q:Exit→Env→Heap→Prop} {env:Env} {σ:Heap} {K:PV→Heap→Prop}

section code
variable {hf:P.follows .mixedOrders=true} {fz:List Nat} {N n0:Nat}
@[go_sem] theorem vc_skip:vc C .skip Q env σ = Q .normal env σ:=Eq.trans rfl rfl
@[go_sem] theorem vc_ops (l:List KO):vc (mkCfg P hf fz N n0) (.ops l) Q env σ = vOps P l Q env σ:=Eq.trans rfl rfl
@[go_sem] theorem vc_draw (l:List KO):vc (mkCfg P hf fz N n0) (.draw l) Q env σ = vOps P l Q env σ:=Eq.trans rfl rfl
@[go_sem] theorem vc_tree (t:KT):vc (mkCfg P hf fz N n0) (.tree t) Q env σ = vT P t Q env σ:=Eq.trans rfl rfl
@[go_sem] theorem vT_fin:vT P .fin Q env σ = Q .normal env σ:=Eq.trans rfl rfl
theorem vT_alt (a b:KT):vT P (.alt a b) Q env σ = (vT P a Q env σ∧vT P b Q env σ):=Eq.trans rfl rfl
@[go_sem] theorem vT_op (k:KO) (r:KT):vT P (.op k r) Q env σ = vOps P [k] (TK P r Q) env σ:=Eq.trans rfl rfl
@[go_sem] theorem TK_normal (r:KT):TK P r Q .normal env σ = vT P r Q env σ:=Eq.trans rfl rfl
theorem vc_seq' (a b:KC):vc C (.seq a b) Q env σ = vc C a (SK C b Q) env σ:=Eq.trans rfl rfl
attribute [go_sem ↓] vc_seq'
def CondK (C:Cfg) (a b:KC) (Q:Exit→Env→Heap→Prop) (env:Env) (σ:Heap):PV→Prop
 | .bool t=>(t=true→vc C a Q env σ)∧(t=false→vc C b Q env σ)
 | _=>False
theorem vc_cond' (x:KX) (a b:KC):vc C (.cond x a b) Q env σ = CondK C a b Q env σ (kx env x):=by
 simp only [vc,CondK] <;> cases kx env x <;> rfl
attribute [go_sem ↓] vc_cond'
@[go_sem] theorem CondK_true (a b:KC):CondK C a b Q env σ (.bool true)=vc C a Q env σ:=by simp [CondK]
@[go_sem] theorem CondK_false (a b:KC):CondK C a b Q env σ (.bool false)=vc C b Q env σ:=by simp [CondK]
@[go_sem low] theorem CondK_bool (a b:KC) (t:Bool):CondK C a b Q env σ (.bool t)=((t=true→vc C a Q env σ)∧(t=false→vc C b Q env σ)):=Eq.trans rfl rfl
theorem vc_block' (id:Nat) (b:KC):vc C (.block id b) Q env σ = vc C b (BlockK id Q) env σ:=Eq.trans rfl rfl
attribute [go_sem ↓] vc_block'
@[go_sem] theorem vc_loop' (b:KC):vc C (.loop b) Q env σ = KL C b Q env σ:=Eq.trans rfl rfl
@[go_sem] theorem vc_exit' (id:Nat):vc C (.exit id) Q env σ = Q (.exit id) env σ:=Eq.trans rfl rfl
@[go_sem] theorem vc_ret':vc C .ret Q env σ = Q .ret env σ:=Eq.trans rfl rfl
@[go_sem] theorem SK_normal (b:KC):SK C b Q .normal env σ = vc C b Q env σ:=Eq.trans rfl rfl
@[go_sem] theorem SK_exit (b:KC) (id:Nat):SK C b Q (.exit id) env σ = Q (.exit id) env σ:=Eq.trans rfl rfl
@[go_sem] theorem SK_ret (b:KC):SK C b Q .ret env σ = Q .ret env σ:=Eq.trans rfl rfl
@[go_sem] theorem LK_normal (b:KC):LK C b Q .normal env σ = KL C b Q env σ:=Eq.trans rfl rfl
@[go_sem] theorem LK_exit (b:KC) (id:Nat):LK C b Q (.exit id) env σ = Q (.exit id) env σ:=Eq.trans rfl rfl
@[go_sem] theorem LK_ret (b:KC):LK C b Q .ret env σ = Q .ret env σ:=Eq.trans rfl rfl
@[go_sem] theorem BlockK_normal (id:Nat):BlockK id Q .normal env σ = Q .normal env σ:=Eq.trans rfl rfl
@[go_sem] theorem BlockK_ret (id:Nat):BlockK id Q .ret env σ = Q .ret env σ:=Eq.trans rfl rfl
@[go_sem] theorem BlockK_exit (id id':Nat):BlockK id Q (.exit id') env σ = if id'=id then Q .normal env σ else Q (.exit id') env σ:=Eq.trans rfl rfl
@[go_sem] theorem FinK_normal (rs:List KR):FinK n0 rs K .normal env σ = resV n0 rs [] (fun vs=>Fin n0 K (unTup vs) σ) env σ:=Eq.trans rfl rfl
@[go_sem] theorem FinK_ret (rs:List KR):FinK n0 rs K .ret env σ = resV n0 rs [] (fun vs=>Fin n0 K (unTup vs) σ) env σ:=Eq.trans rfl rfl
def ResK (n0:Nat) (r:List KR) (vs:List PV) (K:PV→Heap→Prop) (env:Env) (σ:Heap) (v:PV):Prop:=resV n0 r (vs ++ [v]) (fun vs=>Fin n0 K (unTup vs) σ) env σ
def ResN (n0:Nat) (r:List KR) (vs:List PV) (K:PV→Heap→Prop) (env:Env) (σ:Heap):Prop:=resV n0 r vs (fun vs=>Fin n0 K (unTup vs) σ) env σ
theorem resV_start (r:List KR) (vs:List PV):resV n0 r vs (fun vs=>Fin n0 K (unTup vs) σ) env σ = ResN n0 r vs K env σ:=Eq.trans rfl rfl
attribute [go_sem ↓] resV_start
@[go_sem] theorem ResN_nil (vs:List PV):ResN n0 [] vs K env σ = Fin n0 K (unTup vs) σ:=Eq.trans rfl rfl
@[go_sem] theorem ResN_t (n:Nat) (r:List KR) (vs:List PV):ResN n0 (.t n :: r) vs K env σ = ResN n0 r (vs ++ [look env n]) K env σ:=Eq.trans rfl rfl
@[go_sem] theorem ResN_cell (n:Nat) (g:Bool) (z:Nat) (r:List KR) (vs:List PV):ResN n0 (.cell n g z :: r) vs K env σ = aLoad g z (look env n) σ (ResK n0 r vs K env σ):=Eq.trans rfl rfl
@[go_sem] theorem unTup_one (v:PV):unTup [v]=v:=Eq.trans rfl rfl
@[go_sem] theorem unTup_two (a b:PV) (r:List PV):unTup (a :: b :: r) = .tup (a :: b :: r):=Eq.trans rfl rfl
@[go_sem] theorem unTup_nil:unTup [] = .tup []:=Eq.trans rfl rfl
end code

section ops
variable {d:Option Nat} {r:List KO}
@[go_sem] theorem putD_some (k:Nat) (v:PV):putD (some k) v env=(k,v) :: env:=Eq.trans rfl rfl
@[go_sem] theorem putD_none (v:PV):putD none v env=env:=Eq.trans rfl rfl
@[go_sem] theorem vOps_nil:vOps P [] Q env σ = Q .normal env σ:=Eq.trans rfl rfl
theorem vOps_op (p:KP):vOps P (⟨d,none,p⟩ :: r) Q env σ = aOp P p env σ (OpK P d r Q env):=Eq.trans rfl rfl
attribute [go_sem ↓] vOps_op
def GuaK (P:Program) (d:Option Nat) (t:Nat) (want:Bool) (p:KP) (r:List KO) (Q:Exit→Env→Heap→Prop) (env:Env) (σ:Heap):PV→Prop
 | .bool b=>(b=want→aOp P p ((t,.bool want) :: env) σ (OpK P d r Q ((t,.bool want) :: env)))∧(b=(!want)→OpK P d r Q ((t,.bool (!want)) :: env) (.tup []) σ)
 | .tup []=>OpK P d r Q env (.tup []) σ
 | _=>False
theorem vOps_gd (t:Nat) (want:Bool) (p:KP):vOps P (⟨d,some (t,want),p⟩ :: r) Q env σ = GuaK P d t want p r Q env σ (look env t):=by
 have key:∀ v,look env t=v→vOps P (⟨d,some (t,want),p⟩ :: r) Q env σ = GuaK P d t want p r Q env σ v:=by
  intro v hv
  unfold vOps
  simp only [hv]
  cases v with
  | tup l=>cases l <;> rfl
  | _=>rfl
 exact key _ rfl
attribute [go_sem ↓] vOps_gd
@[go_sem] theorem GuaK_tt (t:Nat) (p:KP):GuaK P d t true p r Q env σ (.bool true)=aOp P p ((t,.bool true) :: env) σ (OpK P d r Q ((t,.bool true) :: env)):=by simp [GuaK]
@[go_sem] theorem GuaK_ff (t:Nat) (p:KP):GuaK P d t false p r Q env σ (.bool false)=aOp P p ((t,.bool false) :: env) σ (OpK P d r Q ((t,.bool false) :: env)):=by simp [GuaK]
@[go_sem] theorem GuaK_tf (t:Nat) (p:KP):GuaK P d t true p r Q env σ (.bool false)=OpK P d r Q ((t,.bool false) :: env) (.tup []) σ:=by simp [GuaK]
@[go_sem] theorem GuaK_ft (t:Nat) (p:KP):GuaK P d t false p r Q env σ (.bool true)=OpK P d r Q ((t,.bool true) :: env) (.tup []) σ:=by simp [GuaK]
@[go_sem] theorem GuaK_tup (t:Nat) (want:Bool) (p:KP):GuaK P d t want p r Q env σ (.tup [])=OpK P d r Q env (.tup []) σ:=Eq.trans rfl rfl
@[go_sem low] theorem GuaK_bt (t:Nat) (p:KP) (b:Bool):GuaK P d t true p r Q env σ (.bool b)=((b=true→aOp P p ((t,.bool true) :: env) σ (OpK P d r Q ((t,.bool true) :: env)))∧(b=false→OpK P d r Q ((t,.bool false) :: env) (.tup []) σ)):=Eq.trans rfl rfl
@[go_sem low] theorem GuaK_bf (t:Nat) (p:KP) (b:Bool):GuaK P d t false p r Q env σ (.bool b)=((b=false→aOp P p ((t,.bool false) :: env) σ (OpK P d r Q ((t,.bool false) :: env)))∧(b=true→OpK P d r Q ((t,.bool true) :: env) (.tup []) σ)):=Eq.trans rfl rfl

@[go_sem] theorem OpK_undef:OpK P d r Q env .undef σ = vOps P r Q (putD d .undef env) σ:=Eq.trans rfl rfl
@[go_sem] theorem OpK_int (k:IntKind) (n:Int):OpK P d r Q env (.int k n) σ = vOps P r Q (putD d (.int k n) env) σ:=Eq.trans rfl rfl
@[go_sem] theorem OpK_bool (b:Bool):OpK P d r Q env (.bool b) σ = vOps P r Q (putD d (.bool b) env) σ:=Eq.trans rfl rfl
@[go_sem] theorem OpK_agg (s:List PV):OpK P d r Q env (.agg s) σ = vOps P r Q (putD d (.agg s) env) σ:=Eq.trans rfl rfl
@[go_sem] theorem OpK_tup (s:List PV):OpK P d r Q env (.tup s) σ = vOps P r Q (putD d (.tup s) env) σ:=Eq.trans rfl rfl
@[go_sem] theorem OpK_ptr (i o:Nat):OpK P d r Q env (.ptr i o) σ = vOps P r Q (putD d (.ptr i o) env) σ:=Eq.trans rfl rfl
@[go_sem] theorem OpK_fptr (s:List PV) (o:Nat):OpK P d r Q env (.fptr s o) σ = vOps P r Q (putD d (.fptr s o) env) σ:=Eq.trans rfl rfl
@[go_sem] theorem OpK_nilptr:OpK P d r Q env .nilptr σ = vOps P r Q (putD d .nilptr env) σ:=Eq.trans rfl rfl
@[go_sem] theorem OpK_nils:OpK P d r Q env .nils σ = vOps P r Q (putD d .nils env) σ:=Eq.trans rfl rfl
@[go_sem] theorem OpK_list (s:List PV):OpK P d r Q env (.list s) σ = vOps P r Q (putD d (.list s) env) σ:=Eq.trans rfl rfl
@[go_sem] theorem OpK_ref (i v o n:Nat):OpK P d r Q env (.ref i v o n) σ = vOps P r Q (putD d (.ref i v o n) env) σ:=Eq.trans rfl rfl
@[go_sem] theorem OpK_eptr (i v o n:Nat):OpK P d r Q env (.eptr i v o n) σ = vOps P r Q (putD d (.eptr i v o n) env) σ:=Eq.trans rfl rfl
@[go_sem] theorem OpK_fn (f:Fn) (a b:List PV):OpK P d r Q env (.fn f a b) σ = vOps P r Q (putD d (.fn f a b) env) σ:=Eq.trans rfl rfl
section res
variable {n0:Nat} {rs:List KR} {vs:List PV}
@[go_sem] theorem ResK_agg (s:List PV):ResK n0 rs vs K env σ (.agg s)=ResN n0 rs (vs ++ [.agg s]) K env σ:=Eq.trans rfl rfl
end res

attribute [go_sem] look_nil look_cons
@[go_sem] theorem kx_t (n:Nat):kx env (.t n)=look env n:=Eq.trans rfl rfl
@[go_sem] theorem kx_c (v:PV):kx env (.c v)=v:=Eq.trans rfl rfl
attribute [go_sem] List.map_cons List.map_nil List.nil_append List.cons_append List.append_nil /-! ### Operations -/
@[go_sem] theorem aOp_mv (x:KX):aOp P (.mv x) env σ K=K (kx env x) σ:=Eq.trans rfl rfl
def PickK (a b:PV) (σ:Heap) (K:PV→Heap→Prop):PV→Prop
 | .bool t=>(t=true→K a σ)∧(t=false→K b σ)
 | _=>False
@[go_sem] theorem aOp_pick (c a b:KX):aOp P (.pick c a b) env σ K=PickK (kx env a) (kx env b) σ K (kx env c):=by
 simp only [aOp,PickK]; cases kx env c <;> rfl
@[go_sem] theorem PickK_true (a b:PV):PickK a b σ K (.bool true)=K a σ:=by simp [PickK]
@[go_sem] theorem PickK_false (a b:PV):PickK a b σ K (.bool false)=K b σ:=by simp [PickK]
@[go_sem] theorem aOp_alloc (z:List PV):aOp P (.alloc z) env σ K=(z.all PV.ok=true∧K (.ptr σ.length 0) (σ ++ [.box z])):=Eq.trans rfl rfl
@[go_sem] theorem aOp_boxf (x:KX):aOp P (.box true x) env σ K=((kx env x).cs.all PV.ok=true∧K (.fptr (kx env x).cs 0) σ):=by simp [aOp]
@[go_sem] theorem aOp_boxo (x:KX):aOp P (.box false x) env σ K=((kx env x).cs.all PV.ok=true∧K (.ptr σ.length 0) (σ ++ [.box (kx env x).cs])):=by simp [aOp]
def HK (σ:Heap) (K:PV→Heap→Prop) (v:PV):Prop:=K v σ
section hk
@[go_sem] theorem HK_int (k:IntKind) (n:Int):HK σ K (.int k n)=K (.int k n) σ:=Eq.trans rfl rfl
@[go_sem] theorem HK_bool (b:Bool):HK σ K (.bool b)=K (.bool b) σ:=Eq.trans rfl rfl
@[go_sem] theorem HK_agg (s:List PV):HK σ K (.agg s)=K (.agg s) σ:=Eq.trans rfl rfl
@[go_sem] theorem HK_ptr (i o:Nat):HK σ K (.ptr i o)=K (.ptr i o) σ:=Eq.trans rfl rfl
@[go_sem] theorem HK_fptr (s:List PV) (o:Nat):HK σ K (.fptr s o)=K (.fptr s o) σ:=Eq.trans rfl rfl
@[go_sem] theorem HK_nils:HK σ K .nils=K .nils σ:=Eq.trans rfl rfl
@[go_sem] theorem HK_list (s:List PV):HK σ K (.list s)=K (.list s) σ:=Eq.trans rfl rfl
@[go_sem] theorem HK_ref (i v o n:Nat):HK σ K (.ref i v o n)=K (.ref i v o n) σ:=Eq.trans rfl rfl
@[go_sem] theorem HK_eptr (i v o n:Nat):HK σ K (.eptr i v o n)=K (.eptr i v o n) σ:=Eq.trans rfl rfl
end hk
@[go_sem] theorem aOp_load (g:Bool) (n:Nat) (x:KX):aOp P (.load g n x) env σ K=aLoad g n (kx env x) σ (HK σ K):=Eq.trans rfl rfl
@[go_sem] theorem aOp_store (n:Nat) (x y:KX):aOp P (.store n x y) env σ K=aStore n (kx env x) (kx env y) σ (K .undef):=Eq.trans rfl rfl
def NilK (K:PV→Heap→Prop) (σ:Heap) (v:PV):Prop:=match v with | .ptr .. | .fptr .. | .fn (.func _) _ _=>K v σ | .eptr id ver i off=>aAt (.eptr id ver i off) 0 σ fun _=>K (.eptr id ver i off) σ | _=>False
@[go_sem] theorem aOp_nilck (x:KX):aOp P (.nilck x) env σ K=NilK K σ (kx env x):=Eq.trans rfl rfl
@[go_sem] theorem NilK_ptr (i o:Nat):NilK K σ (.ptr i o)=K (.ptr i o) σ:=Eq.trans rfl rfl
@[go_sem] theorem NilK_fptr (s:List PV) (o:Nat):NilK K σ (.fptr s o)=K (.fptr s o) σ:=Eq.trans rfl rfl
@[go_sem] theorem aOp_bin (op:BinOp) (x y:KX):aOp P (.bin op x y) env σ K=aBin op (kx env x) (kx env y) (HK σ K):=Eq.trans rfl rfl
def BeqK (ng:Bool) (σ:Heap) (K:PV→Heap→Prop):PV→PV→Prop
 | .bool a,.bool b=>K (.bool (if ng=true then a != b else a == b)) σ
 | _,_=>False
@[go_sem] theorem aOp_beq (ng:Bool) (x y:KX):aOp P (.beq ng x y) env σ K=BeqK ng σ K (kx env x) (kx env y):=by
 simp only [aOp,BeqK]
 split
 ·rename_i a b h1 h2; rw [h1,h2]
 ·rename_i h
  cases h1:kx env x <;> cases h2:kx env y <;> first | rfl | exact absurd h2 (h _ _ h1)
@[go_sem] theorem BeqK_t (a b:Bool):BeqK true σ K (.bool a) (.bool b)=K (.bool (a != b)) σ:=by simp [BeqK]
def AeqK (ng:Bool) (n:Nat) (σ:Heap) (K:PV→Heap→Prop):PV→PV→Prop
 | .agg cs,.agg ds=>∃ xs ys:List Int,cs=ints xs∧ds=ints ys∧(xs.length=n∧ys.length=n)∧K (.bool (if ng=true then !decide (xs=ys) else decide (xs=ys))) σ
 | _,_=>False
@[go_sem] theorem aOp_aeq (ng:Bool) (n:Nat) (x y:KX):aOp P (.aeq ng n x y) env σ K=AeqK ng n σ K (kx env x) (kx env y):=by
 simp only [aOp,AeqK]
 split
 ·rename_i a b h1 h2; rw [h1,h2]
 ·rename_i h
  cases h1:kx env x <;> cases h2:kx env y <;> first | rfl | exact absurd h2 (h _ _ h1)
theorem ints_inj {a b:List Int} (h:ints a=ints b):a=b:=by
 have:=congrArg (List.map fun c=>match c with | PV.int _ n=>n | _=>0) h
 simpa [ints,Function.comp_def] using this
@[go_sem] theorem AeqK_f (n:Nat) (a b:List Int):AeqK false n σ K (.agg (ints a)) (.agg (ints b))=((a.length=n∧b.length=n)∧K (.bool (decide (a=b))) σ):=by
 simp only [AeqK,eq_iff_iff]
 exact ⟨fun ⟨x,y,h1,h2,h3,h4⟩=>by cases ints_inj h1; cases ints_inj h2; exact ⟨h3,by simpa using h4⟩,fun ⟨h1,h2⟩=>⟨a,b,rfl,rfl,h1,by simpa using h2⟩⟩
def NotK (σ:Heap) (K:PV→Heap→Prop):PV→Prop
 | .bool b=>K (.bool (!b)) σ
 | _=>False
@[go_sem] theorem aOp_not (x:KX):aOp P (.not x) env σ K=NotK σ K (kx env x):=by simp only [aOp,NotK]; cases kx env x <;> rfl
@[go_sem] theorem NotK_bool (b:Bool):NotK σ K (.bool b)=K (.bool (!b)) σ:=Eq.trans rfl rfl
@[go_sem] theorem aOp_conv (k:IntKind) (x:KX):aOp P (.conv k x) env σ K=aConv k (kx env x) (HK σ K):=Eq.trans rfl rfl
@[go_sem] theorem aOp_fieldA (o:Nat) (x:KX):aOp P (.fieldA o x) env σ K=aAt (kx env x) o σ (HK σ K):=Eq.trans rfl rfl
def IdxAK (len esz:Nat) (x:PV) (σ:Heap) (K:PV→Heap→Prop):PV→Prop
 | .int _ n=>(0≤n∧n<len)∧aAt x (n.toNat * esz) σ (HK σ K)
 | _=>False
@[go_sem] theorem aOp_idxA (len esz:Nat) (x i:KX):aOp P (.idxA len esz x i) env σ K=IdxAK len esz (kx env x) σ K (kx env i):=by simp only [aOp,IdxAK,intOf?]; cases kx env i <;> rfl
@[go_sem] theorem IdxAK_int (len esz:Nat) (x:PV) (k:IntKind) (n:Int):IdxAK len esz x σ K (.int k n)=((0≤n∧n<len)∧aAt x (n.toNat * esz) σ (HK σ K)):=Eq.trans rfl rfl
def IdxSK (esz:Nat) (x:PV) (σ:Heap) (K:PV→Heap→Prop):PV→Prop
 | .int _ n=>aIdxS esz x n σ (HK σ K)
 | _=>False
@[go_sem] theorem aOp_idxS (esz:Nat) (x i:KX):aOp P (.idxS esz x i) env σ K=IdxSK esz (kx env x) σ K (kx env i):=by simp only [aOp,IdxSK,intOf?]; cases kx env i <;> rfl
@[go_sem] theorem IdxSK_int (esz:Nat) (x:PV) (k:IntKind) (n:Int):IdxSK esz x σ K (.int k n)=aIdxS esz x n σ (HK σ K):=Eq.trans rfl rfl
def IdxVK (len esz:Nat) (g:Bool) (σ:Heap) (K:PV→Heap→Prop):PV→PV→Prop
 | .int _ n,.agg cs=>(0≤n∧n<len)∧ldC g esz cs (n.toNat * esz) (HK σ K)
 | _,_=>False
@[go_sem] theorem aOp_idxV (len esz:Nat) (g:Bool) (x i:KX):aOp P (.idxV len esz g x i) env σ K=IdxVK len esz g σ K (kx env i) (kx env x):=by
 simp only [aOp,IdxVK,intOf?]; cases kx env i <;> cases kx env x <;> rfl
@[go_sem] theorem IdxVK_int (len esz:Nat) (g:Bool) (k:IntKind) (n:Int) (cs:List PV):IdxVK len esz g σ K (.int k n) (.agg cs)=((0≤n∧n<len)∧ldC g esz cs (n.toNat * esz) (HK σ K)):=Eq.trans rfl rfl
def ExtK (i:Nat) (σ:Heap) (K:PV→Heap→Prop):PV→Prop
 | .tup vs=>(match vs[i]? with | some v=>K v σ | none=>False)
 | _=>False
@[go_sem] theorem aOp_extr (i:Nat) (x:KX):aOp P (.extr i x) env σ K=ExtK i σ K (kx env x):=by simp only [aOp,ExtK]; cases kx env x <;> rfl
@[go_sem] theorem ExtK_0 (v:PV) (vs:List PV):ExtK 0 σ K (.tup (v :: vs))=K v σ:=Eq.trans rfl rfl
@[go_sem] theorem ExtK_1 (u v:PV) (vs:List PV):ExtK 1 σ K (.tup (u :: v :: vs))=K v σ:=Eq.trans rfl rfl
@[go_sem] theorem ExtK_2 (t u v:PV) (vs:List PV):ExtK 2 σ K (.tup (t :: u :: v :: vs))=K v σ:=Eq.trans rfl rfl
@[go_sem] theorem aOp_mkfn (f:Fn) (a b:List KX):aOp P (.mkfn f a b) env σ K=K (.fn f (a.map (kx env)) (b.map (kx env))) σ:=Eq.trans rfl rfl
@[go_sem] theorem aOp_call (f:KX) (as:List KX):aOp P (.call f as) env σ K=aCall P (kx env f) (as.map (kx env)) σ K:=Eq.trans rfl rfl
@[go_sem] theorem aOp_pcall (f:KX) (as:List KX):aOp P (.pcall f as) env σ K=aPCall P (kx env f) (as.map (kx env)) σ (HK σ K):=Eq.trans rfl rfl
@[go_sem] theorem aCall_fn (fid:FuncId) (a b args:List PV):aCall P (.fn (.func fid) a b) args σ K=ACall P fid (a ++ args ++ b) σ K:=Eq.trans rfl rfl
@[go_sem] theorem aPCall_fn (fid:FuncId) (a b args:List PV) (K:PV→Prop):aPCall P (.fn (.func fid) a b) args σ K=PCall P fid (a ++ args ++ b) σ K:=Eq.trans rfl rfl
@[go_sem] theorem aOp_lenS (x:KX):aOp P (.len false x) env σ K=aLen (kx env x) σ (HK σ K):=by
 simp only [aOp]; cases kx env x <;> rfl
@[go_sem] theorem aOp_app (s x:KX) (e:TypeId) (esz:Nat):aOp P (.app s x e esz) env σ K=aApp e esz (kx env s) (kx env x) σ K:=Eq.trans rfl rfl
def MksK (e:TypeId) (esz:Nat) (z:PV) (σ:Heap) (K:PV→Heap→Prop):PV→PV→Prop
 | .int _ n,.int _ m=>(0≤n∧n≤m∧m≤4294967296)∧K (.ref σ.length 0 0 n.toNat) (σ ++ [.arr 0 e esz (List.replicate n.toNat z)])
 | _,_=>False
@[go_sem] theorem aOp_mks (e:TypeId) (esz:Nat) (z:PV) (l c:KX):aOp P (.mks e esz z l c) env σ K=MksK e esz z σ K (kx env l) (kx env c):=by
 simp only [aOp,MksK,intOf?]; cases kx env l <;> cases kx env c <;> rfl
@[go_sem] theorem MksK_int (e:TypeId) (esz:Nat) (z:PV) (k k':IntKind) (n m:Int):MksK e esz z σ K (.int k n) (.int k' m)=((0≤n∧n≤m∧m≤4294967296)∧K (.ref σ.length 0 0 n.toNat) (σ ++ [.arr 0 e esz (List.replicate n.toNat z)])):=Eq.trans rfl rfl
@[go_sem] theorem aOp_bslf (e:TypeId) (esz:Nat) (ps:List KX):aOp P (.bsl true e esz ps) env σ K=(okL esz (ps.map (kx env))∧K (.list (ps.map (kx env))) σ):=by simp [aOp]
@[go_sem] theorem aOp_bslo (e:TypeId) (esz:Nat) (ps:List KX):aOp P (.bsl false e esz ps) env σ K=(okL esz (ps.map (kx env))∧K (.ref σ.length 0 0 ps.length) (σ ++ [.arr 0 e esz (ps.map (kx env))])):=by simp [aOp]
@[go_sem] theorem aOp_build (z:List PV) (ps:List (Nat × Nat × KX)):aOp P (.build z ps) env σ K=((z.all PV.ok=true∧buildOK env z.length ps)∧K (.agg (buildC env z ps)) σ):=Eq.trans rfl rfl
@[go_sem] theorem buildOK_nil (n:Nat):buildOK env n []=True:=Eq.trans rfl rfl
@[go_sem] theorem buildOK_cons (n o z:Nat) (x:KX) (r:List (Nat × Nat × KX)):buildOK env n ((o,z,x) :: r)=(((kx env x).cs.length=z∧(kx env x).cs.all PV.ok=true∧o+z≤n)∧buildOK env n r):=Eq.trans rfl rfl
@[go_sem] theorem buildC_nil (cs:List PV):buildC env cs []=cs:=Eq.trans rfl rfl
@[go_sem] theorem buildC_cons (cs:List PV) (o z:Nat) (x:KX) (r:List (Nat × Nat × KX)):buildC env cs ((o,z,x) :: r)=buildC env (putC cs o (kx env x).cs) r:=Eq.trans rfl rfl
def SlsK (esz:Nat) (x:PV) (σ:Heap) (K:PV→Heap→Prop) (lo hi:Option PV):Prop :=
 ((∀ y,lo=some y→∃ n,intOf? y=some n)∧∀ y,hi=some y→∃ n,intOf? y=some n)∧aSls esz x (lo.bind intOf?) (hi.bind intOf?) σ (HK σ K)
@[go_sem] theorem aOp_sls (esz:Nat) (x:KX) (lo hi:Option KX):aOp P (.sls esz x lo hi) env σ K=SlsK esz (kx env x) σ K (lo.map (kx env)) (hi.map (kx env)):=by
 cases lo <;> cases hi <;> simp [aOp,SlsK] <;> first | rfl | (intros; exact Iff.rfl)
attribute [go_sem] Option.map_some Option.map_none
@[go_sem] theorem SlsK_in (esz:Nat) (x:PV) (k:IntKind) (n:Int):SlsK esz x σ K (some (.int k n)) none=aSls esz x (some n) none σ (HK σ K):=by simp [SlsK,intOf?]
@[go_sem] theorem SlsK_ni (esz:Nat) (x:PV) (k:IntKind) (n:Int):SlsK esz x σ K none (some (.int k n))=aSls esz x none (some n) σ (HK σ K):=by simp [SlsK,intOf?]
@[go_sem] theorem aOp_mnmx (m:Bool) (x:KX) (xs:List KX):aOp P (.mnmx m x xs) env σ K=mnmxV m (kx env x) (xs.map (kx env)) (HK σ K):=Eq.trans rfl rfl
@[go_sem] theorem aOp_clr (esz:Nat) (z:PV) (x:KX):aOp P (.clr esz z x) env σ K=aClr esz z (kx env x) σ (K (.tup [])):=Eq.trans rfl rfl
def CapK (σ:Heap) (K:PV→Heap→Prop):PV→Prop
 | .nils=>K (.int .i64 0) σ
 | _=>False
@[go_sem] theorem aOp_cap0 (x:KX):aOp P (.cap0 x) env σ K=CapK σ K (kx env x):=by simp only [aOp,CapK]; cases kx env x <;> rfl
@[go_sem] theorem CapK_nils:CapK σ K .nils=K (.int .i64 0) σ:=Eq.trans rfl rfl
@[go_sem] theorem aOp_isnf (x:KX):aOp P (.isn false x) env σ K=aIsn (kx env x) (fun b=>K (.bool b) σ):=by simp [aOp]
def ApnK (e:TypeId) (esz:Nat) (z s:PV) (σ:Heap) (K:PV→Heap→Prop):PV→Prop
 | .int _ n=>aApn e esz z s n σ K
 | _=>False
@[go_sem] theorem aOp_apn (s n:KX) (e:TypeId) (esz:Nat) (z:PV):aOp P (.apn s n e esz z) env σ K=ApnK e esz z (kx env s) σ K (kx env n):=by simp only [aOp,ApnK,intOf?]; cases kx env n <;> rfl
@[go_sem] theorem ApnK_int (e:TypeId) (esz:Nat) (z:PV) (k:IntKind) (n:Int):ApnK e esz z .nils σ K (.int k n)=((0≤n∧n≤4294967296)∧(n=0→K .nils σ)∧(0<n→K (.ref σ.length 0 0 n.toNat) (σ ++ [.arr 0 e esz (List.replicate n.toNat z)]))):=Eq.trans rfl rfl
@[go_sem] theorem aOp_bad:aOp P .bad env σ K=False:=Eq.trans rfl rfl
end ops

/-! ### Numbers -/
section num
variable {K:PV→Prop} {k:IntKind} {a b n:Int}
@[go_sem] theorem aBin_int (op:BinOp):aBin op (.int k a) (.int k b) K=aInt op k a b K:=by simp [aBin]
@[go_sem] theorem aInt_add:aInt .add k a b K=aWrap k (a+b) K:=Eq.trans rfl rfl
@[go_sem] theorem aInt_sub:aInt .sub k a b K=aWrap k (a - b) K:=Eq.trans rfl rfl
@[go_sem] theorem aInt_mul:aInt .mul k a b K=aWrap k (a * b) K:=Eq.trans rfl rfl
@[go_sem] theorem aInt_quo:aInt .quo k a b K=((0≤a∧0<b)∧aWrap k (a / b) K):=Eq.trans rfl rfl
@[go_sem] theorem aInt_rem:aInt .rem k a b K=((0≤a∧0<b)∧K (.int k (a % b))):=Eq.trans rfl rfl
@[go_sem] theorem aInt_eql:aInt .eql k a b K=K (.bool (decide (a=b))):=Eq.trans rfl rfl
@[go_sem] theorem aInt_neq:aInt .neq k a b K=K (.bool (!decide (a=b))):=Eq.trans rfl rfl
@[go_sem] theorem aInt_lss:aInt .lss k a b K=K (.bool (decide (a<b))):=Eq.trans rfl rfl
@[go_sem] theorem aInt_leq:aInt .leq k a b K=K (.bool (decide (a≤b))):=Eq.trans rfl rfl
@[go_sem] theorem aInt_gtr:aInt .gtr k a b K=K (.bool (decide (b<a))):=Eq.trans rfl rfl
@[go_sem] theorem aInt_geq:aInt .geq k a b K=K (.bool (decide (b≤a))):=Eq.trans rfl rfl
@[go_sem] theorem aWrap_i64:aWrap .i64 n K=((-9223372036854775808≤n∧n≤9223372036854775807)∧K (.int .i64 n)):=Eq.trans rfl rfl
@[go_sem] theorem aConv_int (k':IntKind):aConv k (.int k' n) K=aWrap k n K:=Eq.trans rfl rfl
@[go_sem] theorem mnmxV_nil (m:Bool) (x:PV):mnmxV m x [] K=K x:=by cases x <;> rfl
@[go_sem] theorem mnmxV_max (k':IntKind) (r:List PV):mnmxV true (.int k a) (.int k' b :: r) K=mnmxV true (.int k (max a b)) r K:=by simp [mnmxV]
@[go_sem] theorem mnmxV_min (k':IntKind) (r:List PV):mnmxV false (.int k a) (.int k' b :: r) K=mnmxV false (.int k (min a b)) r K:=by simp [mnmxV]
end num

/-! ### Memory -/
section mem
variable {K:PV→Prop} {KH:Heap→Prop} {σ:Heap}
@[go_sem] theorem cs_int (k:IntKind) (n:Int):(PV.int k n).cs = [.int k n]:=Eq.trans rfl rfl
@[go_sem] theorem cs_agg (l:List PV):(PV.agg l).cs=l:=Eq.trans rfl rfl
@[go_sem] theorem cs_list (l:List PV):(PV.list l).cs = [.list l]:=Eq.trans rfl rfl
@[go_sem] theorem cs_nils:(PV.nils).cs = [.nils]:=Eq.trans rfl rfl
@[go_sem] theorem cs_ref (i v o n:Nat):(PV.ref i v o n).cs = [.ref i v o n]:=Eq.trans rfl rfl
@[go_sem] theorem ok_int (k:IntKind) (n:Int):(PV.int k n).ok=true:=Eq.trans rfl rfl
@[go_sem] theorem ok_list (l:List PV):(PV.list l).ok=true:=Eq.trans rfl rfl
@[go_sem] theorem ok_nils:(PV.nils).ok=true:=Eq.trans rfl rfl
@[go_sem] theorem ok_ref (i v o n:Nat):(PV.ref i v o n).ok=true:=Eq.trans rfl rfl
attribute [go_sem] List.all_cons List.all_nil Bool.and_self List.all_append Bool.and_true Bool.true_and
@[go_sem] theorem ints_length (l:List Int):(ints l).length=l.length:=by simp [ints]
@[go_sem] theorem ints_ok (l:List Int):(ints l).all PV.ok=true:=by simp [ints,PV.ok]
@[go_sem] theorem flat_ints (l:List Int):flat (ints l)=ints l:=by
 induction l with
 | nil=>rfl
 | cons a l ih=>simp only [ints,List.map_cons,flat_cons] at ih ⊢; rw [ih]; rfl
def aggs (l:List (List Int)):List PV:=l.map fun m=>.agg (ints m)
def rows (l:List (List Int)):List PV:=l.map fun m=>.list (ints m)
@[go_sem] theorem aggs_length (l:List (List Int)):(aggs l).length=l.length:=by simp [aggs]
@[go_sem] theorem rows_length (l:List (List Int)):(rows l).length=l.length:=by simp [rows]

theorem all_get_ints (l:List Int) (i:Nat) (p:PV→Prop):(∀ c,(ints l)[i]? = some c→p c)=(i<l.length→p (.int .i64 (l.getD i 0))):=by
 rw [eq_iff_iff]
 simp only [ints,List.getElem?_map,Option.map_eq_some_iff,List.getD_eq_getElem?_getD]
 constructor
 ·intro h hi
  rw [List.getElem?_eq_getElem hi]
  exact h _ ⟨l[i],List.getElem?_eq_getElem hi,rfl⟩
 ·rintro h c ⟨x,hx,rfl⟩
  have:=h (List.getElem?_eq_some_iff.1 hx).1
  rwa [hx] at this
theorem all_get_aggs (l:List (List Int)) (i:Nat) (p:PV→Prop):(∀ c,(aggs l)[i]? = some c→p c)=(i<l.length→p (.agg (ints (l.getD i [])))):=by
 rw [eq_iff_iff]
 simp only [aggs,List.getElem?_map,Option.map_eq_some_iff,List.getD_eq_getElem?_getD]
 constructor
 ·intro h hi
  rw [List.getElem?_eq_getElem hi]
  exact h _ ⟨l[i],List.getElem?_eq_getElem hi,rfl⟩
 ·rintro h c ⟨x,hx,rfl⟩
  have:=h (List.getElem?_eq_some_iff.1 hx).1
  rwa [hx] at this
theorem all_get_rows (l:List (List Int)) (i:Nat) (p:PV→Prop):(∀ c,(rows l)[i]? = some c→p c)=(i<l.length→p (.list (ints (l.getD i [])))):=by
 rw [eq_iff_iff]
 simp only [rows,List.getElem?_map,Option.map_eq_some_iff,List.getD_eq_getElem?_getD]
 constructor
 ·intro h hi
  rw [List.getElem?_eq_getElem hi]
  exact h _ ⟨l[i],List.getElem?_eq_getElem hi,rfl⟩
 ·rintro h c ⟨x,hx,rfl⟩
  have:=h (List.getElem?_eq_some_iff.1 hx).1
  rwa [hx] at this
theorem all_get_0 (x:PV) (l:List PV) (p:PV→Prop):(∀ c,(x :: l)[0]? = some c→p c)=p x:=by simp
theorem all_get_1 (x y:PV) (l:List PV) (p:PV→Prop):(∀ c,(x :: y :: l)[1]? = some c→p c)=p y:=by simp
theorem all_get_s (x:PV) (l:List PV) (i:Nat) (p:PV→Prop):(∀ c,(x :: l)[i+1]? = some c→p c)=(∀ c,l[i]? = some c→p c):=by simp
@[go_sem] theorem all_some (x:PV) (p:PV→Prop):(∀ c,some x=some c→p c)=p x:=by simp
attribute [go_sem ↓] all_get_ints all_get_aggs all_get_rows all_get_0 all_get_1 all_get_s
@[go_sem] theorem ints_set (l:List Int) (i:Nat) (k:Int):(ints l).set i (.int .i64 k)=ints (l.set i k):=by simp [ints,List.map_set]
@[go_sem] theorem ints_snoc (l:List Int) (k:Int):ints l ++ [.int .i64 k]=ints (l ++ [k]):=by simp [ints]
@[go_sem] theorem ints_append (l m:List Int):ints l ++ ints m=ints (l ++ m):=by simp [ints]
@[go_sem] theorem ints_take (l:List Int) (n:Nat):(ints l).take n=ints (l.take n):=by simp [ints,List.map_take]
@[go_sem] theorem ints_drop (l:List Int) (n:Nat):(ints l).drop n=ints (l.drop n):=by simp [ints,List.map_drop]
@[go_sem] theorem ints_rep (n:Nat) (k:Int):List.replicate n (PV.int .i64 k)=ints (List.replicate n k):=by simp [ints]
@[go_sem] theorem aggs_snoc (l:List (List Int)) (k:List Int):aggs l ++ [.agg (ints k)]=aggs (l ++ [k]):=by simp [aggs]
@[go_sem] theorem aggs_take (l:List (List Int)) (n:Nat):(aggs l).take n=aggs (l.take n):=by simp [aggs,List.map_take]
@[go_sem] theorem aggs_drop (l:List (List Int)) (n:Nat):(aggs l).drop n=aggs (l.drop n):=by simp [aggs,List.map_drop]
@[go_sem] theorem rows_snoc (l:List (List Int)) (k:List Int):rows l ++ [.list (ints k)]=rows (l ++ [k]):=by simp [rows]
@[go_sem] theorem rows_take (l:List (List Int)) (n:Nat):(rows l).take n=rows (l.take n):=by simp [rows,List.map_take]
@[go_sem] theorem rows_drop (l:List (List Int)) (n:Nat):(rows l).drop n=rows (l.drop n):=by simp [rows,List.map_drop]
attribute [go_sem] List.take_length
@[go_sem] theorem ldC_t (n:Nat) (cs:List PV) (o:Nat):ldC true n cs o K=(o+n≤cs.length∧K (.agg (subC cs o n))):=by simp [ldC]
theorem ldC_f (n:Nat) (cs:List PV) (o:Nat):ldC false n cs o K=(o<cs.length∧∀ c,cs[o]? = some c→K c):=by simp [ldC]
attribute [go_sem ↓] ldC_f
@[go_sem] theorem subC_ints (m:List Int) (o n:Nat):subC (ints m) o n=ints ((m.drop o).take n):=by
 unfold subC
 split
 ·rename_i h
  obtain ⟨rfl,h⟩:=h
  rw [ints_length] at h
  rw [List.drop_zero,List.take_of_length_le (by omega)]
 ·rw [ints_drop,ints_take]
@[go_sem] theorem putC_one (cs:List PV) (o:Nat) (v:PV):putC cs o [v]=cs.set o v:=Eq.trans rfl rfl
@[go_sem] theorem aLoad_fptr (g:Bool) (n:Nat) (cs:List PV) (o:Nat):aLoad g n (.fptr cs o) σ K=ldC g n cs o K:=Eq.trans rfl rfl
def LdP (g:Bool) (n o:Nat) (K:PV→Prop):Option AObj→Prop
 | some (.box cs)=>ldC g n cs o K
 | _=>False
@[go_sem] theorem aLoad_ptr (g:Bool) (n id o:Nat):aLoad g n (.ptr id o) σ K=LdP g n o K σ[id]?:=by
 simp only [aLoad,LdP]; cases σ[id]? with | none=>rfl | some x=>cases x <;> rfl
@[go_sem] theorem LdP_box (g:Bool) (n o:Nat) (cs:List PV):LdP g n o K (some (.box cs))=ldC g n cs o K:=Eq.trans rfl rfl
def LdE (g:Bool) (n ver i o:Nat) (K:PV→Prop):Option AObj→Prop
 | some (.arr v _ _ xs)=>v=ver∧i<xs.length∧∀ x,xs[i]? = some x→ldC g n x.cs o K
 | _=>False
@[go_sem] theorem aLoad_eptr (g:Bool) (n id ver i o:Nat):aLoad g n (.eptr id ver i o) σ K=LdE g n ver i o K σ[id]?:=by
 simp only [aLoad,LdE]; cases σ[id]? with | none=>rfl | some x=>cases x <;> rfl
theorem LdE_arr (g:Bool) (n ver i o v:Nat) (e:TypeId) (es:Nat) (xs:List PV):LdE g n ver i o K (some (.arr v e es xs))=(v=ver∧i<xs.length∧∀ x,xs[i]? = some x→ldC g n x.cs o K):=Eq.trans rfl rfl
attribute [go_sem ↓] LdE_arr
def StP (n o id:Nat) (y:PV) (σ:Heap) (KH:Heap→Prop):Option AObj→Prop
 | some (.box cs)=>(y.cs.length=n∧y.cs.all PV.ok=true∧o+n≤cs.length)∧KH (σ.set id (.box (putC cs o y.cs)))
 | _=>False
@[go_sem] theorem aStore_ptr (n id o:Nat) (y:PV):aStore n (.ptr id o) y σ KH=StP n o id y σ KH σ[id]?:=by
 simp only [aStore,StP]; cases σ[id]? with | none=>rfl | some x=>cases x <;> rfl
@[go_sem] theorem StP_box (n o id:Nat) (y:PV) (cs:List PV):StP n o id y σ KH (some (.box cs))=((y.cs.length=n∧y.cs.all PV.ok=true∧o+n≤cs.length)∧KH (σ.set id (.box (putC cs o y.cs)))):=Eq.trans rfl rfl
def StE (n ver i o id:Nat) (y:PV) (σ:Heap) (KH:Heap→Prop):Option AObj→Prop
 | some (.arr v e esz xs)=>(v=ver∧y.cs.length=n∧y.cs.all PV.ok=true∧i<xs.length)∧∀ x,xs[i]? = some x→o+n≤x.cs.length∧KH (σ.set id (.arr v e esz (xs.set i (putE x o y))))
 | _=>False
@[go_sem] theorem aStore_eptr (n id ver i o:Nat) (y:PV):aStore n (.eptr id ver i o) y σ KH=StE n ver i o id y σ KH σ[id]?:=by
 simp only [aStore,StE]; cases σ[id]? with | none=>rfl | some x=>cases x <;> rfl
theorem StE_arr (n ver i o id v:Nat) (y:PV) (e:TypeId) (es:Nat) (xs:List PV):StE n ver i o id y σ KH (some (.arr v e es xs))=((v=ver∧y.cs.length=n∧y.cs.all PV.ok=true∧i<xs.length)∧∀ x,xs[i]? = some x→o+n≤x.cs.length∧KH (σ.set id (.arr v e es (xs.set i (putE x o y))))):=Eq.trans rfl rfl
attribute [go_sem ↓] StE_arr
@[go_sem] theorem putE_int (k:IntKind) (n:Int) (o:Nat) (y:PV):putE (.int k n) o y=y:=Eq.trans rfl rfl
@[go_sem] theorem putE_list (l:List PV) (o:Nat) (y:PV):putE (.list l) o y=y:=Eq.trans rfl rfl
@[go_sem] theorem putE_agg (cs:List PV) (o:Nat) (y:PV):putE (.agg cs) o y = .agg (putC cs o y.cs):=Eq.trans rfl rfl
attribute [go_sem] List.getElem?_cons_zero List.getElem?_cons_succ List.set_cons_zero List.set_cons_succ List.length_cons List.length_nil List.length_append List.length_set Nat.zero_add
@[go_sem] theorem aNews_nils (esz:Nat) (K:List PV→Prop):aNews esz .nils σ K=K []:=Eq.trans rfl rfl
@[go_sem] theorem aNews_list (esz:Nat) (l:List PV) (K:List PV→Prop):aNews esz (.list l) σ K=(okL esz l∧K l):=Eq.trans rfl rfl
def NwR (esz ver off len:Nat) (K:List PV→Prop):Option AObj→Prop
 | some (.arr v _ es ys)=>(v=ver∧es=esz∧off+len≤ys.length)∧K ((ys.drop off).take len)
 | _=>False
@[go_sem] theorem aNews_ref (esz id ver off len:Nat) (K:List PV→Prop):aNews esz (.ref id ver off len) σ K=NwR esz ver off len K σ[id]?:=by
 simp only [aNews,NwR]; cases σ[id]? with | none=>rfl | some x=>cases x <;> rfl
@[go_sem] theorem NwR_arr (esz ver off len v es:Nat) (e:TypeId) (ys:List PV) (K:List PV→Prop):NwR esz ver off len K (some (.arr v e es ys))=((v=ver∧es=esz∧off+len≤ys.length)∧K ((ys.drop off).take len)):=Eq.trans rfl rfl
@[go_sem] theorem okL_nil (esz:Nat):okL esz []=True:=by simp [okL]
@[go_sem] theorem okL_cons (esz:Nat) (x:PV) (l:List PV):okL esz (x :: l)=((x.cs.length=esz∧x.cs.all PV.ok=true)∧okL esz l):=by simp [okL]
@[go_sem] theorem okL_ints (l:List Int):okL 1 (ints l)=True:=by simp [okL,ints,PV.cs,PV.ok]
@[go_sem] theorem okL_rows (l:List (List Int)):okL 1 (rows l)=True:=by simp [okL,rows,PV.cs,PV.ok]
theorem okL_aggs (n:Nat) (l:List (List Int)):okL n (aggs l)=(∀ m∈l,m.length=n):=by
 simp only [okL,aggs,List.mem_map,eq_iff_iff]
 constructor
 ·intro h m hm
  have:=(h _ ⟨m,hm,rfl⟩).1
  simpa [PV.cs,ints_length] using this
 ·rintro h y ⟨m,hm,rfl⟩
  exact ⟨by simpa [PV.cs,ints_length] using h m hm,ints_ok m⟩
variable {K2:PV→Heap→Prop}
def AppN (e:TypeId) (esz:Nat) (σ:Heap) (K:PV→Heap→Prop) (ns:List PV):Prop:=ns.length≤4294967296∧K (.ref σ.length 0 0 ns.length) (σ ++ [.arr 0 e esz ns])
@[go_sem] theorem aApp_nils (e:TypeId) (esz:Nat) (x:PV):aApp e esz .nils x σ K2=aNews esz x σ (AppN e esz σ K2):=Eq.trans rfl rfl
@[go_sem] theorem AppN_def (e:TypeId) (esz:Nat) (ns:List PV):AppN e esz σ K2 ns=(ns.length≤4294967296∧K2 (.ref σ.length 0 0 ns.length) (σ ++ [.arr 0 e esz ns])):=Eq.trans rfl rfl
def AppR (e:TypeId) (esz id ver off len:Nat) (x:PV) (σ:Heap) (K:PV→Heap→Prop):Option AObj→Prop
 | some (.arr v e' es xs)=>aNews esz x σ fun ns=>(v=ver∧e'=e∧es=esz∧off=0∧len≤xs.length∧len+ns.length≤4294967296)∧K (.ref id (ver+1) 0 (len+ns.length)) (σ.set id (.arr (ver+1) e esz (xs.take len ++ ns)))
 | _=>False
def AppM (e:TypeId) (esz id ver off len v:Nat) (e':TypeId) (es:Nat) (xs:List PV) (σ:Heap) (K:PV→Heap→Prop) (ns:List PV):Prop :=
 (v=ver∧e'=e∧es=esz∧off=0∧len≤xs.length∧len+ns.length≤4294967296)∧K (.ref id (ver+1) 0 (len+ns.length)) (σ.set id (.arr (ver+1) e esz (xs.take len ++ ns)))
@[go_sem] theorem aApp_ref (e:TypeId) (esz id ver off len:Nat) (x:PV):aApp e esz (.ref id ver off len) x σ K2=AppR e esz id ver off len x σ K2 σ[id]?:=by
 simp only [aApp,AppR]; cases σ[id]? with | none=>rfl | some x=>cases x <;> rfl
@[go_sem] theorem AppR_arr (e:TypeId) (esz id ver off len v:Nat) (e':TypeId) (es:Nat) (xs:List PV) (x:PV):AppR e esz id ver off len x σ K2 (some (.arr v e' es xs))=aNews esz x σ (AppM e esz id ver off len v e' es xs σ K2):=Eq.trans rfl rfl
@[go_sem] theorem AppM_def (e:TypeId) (esz id ver off len v:Nat) (e':TypeId) (es:Nat) (xs ns:List PV):AppM e esz id ver off len v e' es xs σ K2 ns=((v=ver∧e'=e∧es=esz∧off=0∧len≤xs.length∧len+ns.length≤4294967296)∧K2 (.ref id (ver+1) 0 (len+ns.length)) (σ.set id (.arr (ver+1) e esz (xs.take len ++ ns)))):=Eq.trans rfl rfl
@[go_sem] theorem aLen_nils:aLen .nils σ K=K (.int .i64 0):=Eq.trans rfl rfl
@[go_sem] theorem aLen_list (l:List PV):aLen (.list l) σ K=K (.int .i64 l.length):=Eq.trans rfl rfl
def LnR (ver len:Nat) (K:PV→Prop):Option AObj→Prop
 | some (.arr v _ _ _)=>v=ver∧K (.int .i64 len)
 | _=>False
@[go_sem] theorem aLen_ref (id ver off len:Nat):aLen (.ref id ver off len) σ K=LnR ver len K σ[id]?:=by
 simp only [aLen,LnR]; cases σ[id]? with | none=>rfl | some x=>cases x <;> rfl
@[go_sem] theorem LnR_arr (ver len v:Nat) (e:TypeId) (es:Nat) (xs:List PV):LnR ver len K (some (.arr v e es xs))=(v=ver∧K (.int .i64 len)):=Eq.trans rfl rfl
theorem aIdxS_list (esz:Nat) (l:List PV) (n:Int):aIdxS esz (.list l) n σ K=((0≤n∧n<l.length)∧∀ y,l[n.toNat]? = some y→y.cs.length=esz∧K (.fptr y.cs 0)):=Eq.trans rfl rfl
attribute [go_sem ↓] aIdxS_list
def IxR (esz id ver off len:Nat) (n:Int) (K:PV→Prop):Option AObj→Prop
 | some (.arr v _ es xs)=>(v=ver∧es=esz∧0≤n∧n<len∧off+len≤xs.length)∧K (.eptr id ver (n.toNat+off) 0)
 | _=>False
@[go_sem] theorem aIdxS_ref (esz id ver off len:Nat) (n:Int):aIdxS esz (.ref id ver off len) n σ K=IxR esz id ver off len n K σ[id]?:=by
 simp only [aIdxS,IxR]; cases σ[id]? with | none=>rfl | some x=>cases x <;> rfl
@[go_sem] theorem IxR_arr (esz id ver off len v:Nat) (n:Int) (e:TypeId) (es:Nat) (xs:List PV):IxR esz id ver off len n K (some (.arr v e es xs))=((v=ver∧es=esz∧0≤n∧n<len∧off+len≤xs.length)∧K (.eptr id ver (n.toNat+off) 0)):=Eq.trans rfl rfl
@[go_sem] theorem aSls_nils (esz:Nat) (lo hi:Option Int):aSls esz .nils lo hi σ K=((lo.getD 0=0∧hi.getD 0=0)∧K .nils):=Eq.trans rfl rfl
@[go_sem] theorem aSls_list (esz:Nat) (l:List PV) (lo hi:Option Int):aSls esz (.list l) lo hi σ K=((0≤lo.getD 0∧lo.getD 0≤hi.getD l.length∧hi.getD l.length≤l.length)∧okL esz l∧K (.list ((l.drop (lo.getD 0).toNat).take ((hi.getD l.length).toNat - (lo.getD 0).toNat)))):=Eq.trans rfl rfl
def SlR (esz id ver off len:Nat) (lo hi:Option Int) (K:PV→Prop):Option AObj→Prop
 | some (.arr v _ es _)=>(v=ver∧es=esz∧0≤lo.getD 0∧lo.getD 0≤hi.getD len∧hi.getD len≤len)∧K (.ref id ver (off+(lo.getD 0).toNat) ((hi.getD len).toNat - (lo.getD 0).toNat))
 | _=>False
@[go_sem] theorem aSls_ref (esz id ver off len:Nat) (lo hi:Option Int):aSls esz (.ref id ver off len) lo hi σ K=SlR esz id ver off len lo hi K σ[id]?:=by
 simp only [aSls,SlR]; cases σ[id]? with | none=>rfl | some x=>cases x <;> rfl
@[go_sem] theorem SlR_arr (esz id ver off len v:Nat) (lo hi:Option Int) (e:TypeId) (es:Nat) (xs:List PV):SlR esz id ver off len lo hi K (some (.arr v e es xs))=((v=ver∧es=esz∧0≤lo.getD 0∧lo.getD 0≤hi.getD len∧hi.getD len≤len)∧K (.ref id ver (off+(lo.getD 0).toNat) ((hi.getD len).toNat - (lo.getD 0).toNat))):=Eq.trans rfl rfl
attribute [go_sem] Option.getD_some Option.getD_none
@[go_sem] theorem aAt_ptr (id o f:Nat):aAt (.ptr id o) f σ K=K (.ptr id (f+o)):=Eq.trans rfl rfl
@[go_sem] theorem aAt_fptr (cs:List PV) (o f:Nat):aAt (.fptr cs o) f σ K=K (.fptr cs (f+o)):=Eq.trans rfl rfl
def ClR (esz:Nat) (z:PV) (id ver off len:Nat) (σ:Heap) (K:Heap→Prop):Option AObj→Prop
 | some (.arr v e es xs)=>(v=ver∧es=esz∧off+len≤xs.length)∧K (σ.set id (.arr v e es (xs.take off ++ List.replicate len z ++ xs.drop (off+len))))
 | _=>False
@[go_sem] theorem aClr_ref (esz:Nat) (z:PV) (id ver off len:Nat):aClr esz z (.ref id ver off len) σ KH=ClR esz z id ver off len σ KH σ[id]?:=by
 simp only [aClr,ClR]; cases σ[id]? with | none=>rfl | some x=>cases x <;> rfl
@[go_sem] theorem ClR_arr (esz:Nat) (z:PV) (id ver off len v es:Nat) (e:TypeId) (xs:List PV):ClR esz z id ver off len σ KH (some (.arr v e es xs))=((v=ver∧es=esz∧off+len≤xs.length)∧KH (σ.set id (.arr v e es (xs.take off ++ List.replicate len z ++ xs.drop (off+len))))):=Eq.trans rfl rfl
end mem
theorem toNat_0:(0:Int).toNat=0:=Eq.trans rfl rfl
theorem toNat_1:(1:Int).toNat=1:=Eq.trans rfl rfl
attribute [go_sem] toNat_0 toNat_1
theorem z_lt_one:(0<1)=True:=by simp
theorem z_le_nat (n:Nat):(0≤(n:Int))=True:=by simp
attribute [go_sem] z_lt_one z_le_nat Int.toNat_natCast true_implies
attribute [go_sem] decide_true decide_false if_true if_false not_true_eq_false not_false_eq_true false_implies implies_true
attribute [go_sem] and_true true_and and_self decide_eq_true_eq decide_eq_false_iff_not Bool.not_eq_true' Bool.not_eq_false' Bool.not_true Bool.not_false Nat.mul_one Nat.add_zero
end Go.Kv
end
