/- Several texts of this session as one, less what the claim does not need. -/
import Derived.Test.YtcfmmmloeaggmaaGreatFC
import Derived.Test.YtcfmmmloeaggmaaGreatCb
section
section
namespace Go.Kv
set_option linter.unusedVariables false
set_option linter.unusedSimpArgs false
def mpN (n:Int) (l:List Nat):List Int:=n :: (l.map (fun x:Nat=>(x:Int)) ++ List.replicate (5 - l.length) 0)
def mp (f:List Nat):List Int:=mpN f.length f
theorem mpN_length {n:Int} {l:List Nat} (h:l.length≤5):(mpN n l).length=6:=by simp [mpN]; omega
theorem mpN_get0 (n:Int) (l:List Nat):(mpN n l).getD 0 0=n:=rfl
theorem mpN_get {n:Int} {l:List Nat} (i:Nat):(mpN n l).getD (i+1) 0=(l.getD i 0:Int):=by
 simp only [mpN,List.getD_cons_succ]
 rw [List.getD_eq_getElem?_getD,List.getD_eq_getElem?_getD,List.getElem?_append]
 split
 ·rename_i h
  simp only [List.length_map] at h
  simp [h]
 ·rename_i h
  simp only [List.length_map] at h
  rw [List.getElem?_eq_none (l:=l) (by omega)]
  simp only [List.getElem?_replicate,List.length_map]
  split <;> rfl
theorem mp_get0 (f:List Nat):(mp f).getD 0 0=f.length:=rfl
theorem mp_get {l:List Nat} (i:Nat):(mp l).getD (i+1) 0=(l.getD i 0:Int):=mpN_get i
attribute [go_sem] mpN_get mpN_get0 mp_get mp_get0
theorem mpN_set {n:Int} {l:List Nat} {i v:Nat} (h:i<l.length):(mpN n l).set (i+1) (v:Int)=mpN n (l.set i v):=by
 simp [mpN,List.set_append,h,List.map_set]
theorem mpN_push {n:Int} {l:List Nat} {v:Nat} (h:l.length<5):(mpN n l).set (l.length+1) (v:Int)=mpN n (l ++ [v]):=by
 have e:5 - l.length=(5 - (l.length+1))+1:=by omega
 simp only [mpN,List.set_cons_succ]
 rw [List.set_append_right _ _ (by simp),e,List.replicate_succ]
 simp
theorem mpN_pushI {n:Int} {l:List Nat} {v:Nat} {i:Nat} (hi:i=l.length) (h:l.length<5):(mpN n l).set (i+1) (v:Int)=mpN n (l ++ [v]):=by subst hi; exact mpN_push h
theorem mpN_rep {m:Int} {n:Nat} (h:n≤5):mpN m (List.replicate n 0) = [m,0,0,0,0,0]:=by
 have:n=0∨n=1∨n=2∨n=3∨n=4∨n=5:=by omega
 rcases this with rfl | rfl | rfl | rfl | rfl | rfl <;> rfl
theorem mp_inj {f g:List Nat} (h:mp f=mp g):f=g:=by
 have h0:(mp f).getD 0 0=(mp g).getD 0 0:=by rw [h]
 simp only [mp,mpN_get0] at h0
 have hl:f.length=g.length:=by omega
 apply List.ext_getElem hl
 intro i h1 h2
 have:=congrArg (fun m=>m.getD (i+1) 0) h
 simp only [mp,mpN_get] at this
 simp [List.getD_eq_getElem?_getD,h1,h2] at this
 omega
structure Ok (f:List Nat) (n:Nat):Prop where
 len:f.length=n
 pos:1≤n
 le:n≤5
 lt:∀ x∈f,x<n
theorem Ok.get {f:List Nat} {n i:Nat} (h:Ok f n) (hi:i<n):f.getD i 0<n:=by
 rw [List.getD_eq_getElem?_getD,List.getElem?_eq_getElem (by rw [h.len]; exact hi)]
 exact h.lt _ (List.getElem_mem _)
theorem Ok.get' {f:List Nat} {n:Nat} (h:Ok f n) (i:Nat):f.getD i 0<n:=by
 by_cases hi:i<n
 ·exact h.get hi
 ·rw [List.getD_eq_getElem?_getD,List.getElem?_eq_none (by rw [h.len]; omega)]
  exact h.pos
theorem Ok.mp_eq {f:List Nat} {n:Nat} (h:Ok f n):mp f=mpN n f:=by rw [mp,h.len]
theorem Ok.mp_len {f:List Nat} {n:Nat} (h:Ok f n):(mp f).length=6:=mpN_length (by rw [h.len]; exact h.le)
def mul (f g:List Nat):List Nat:=f.map fun x=>g.getD x 0
@[simp] theorem mul_length (f g:List Nat):(mul f g).length=f.length:=by simp [mul]
theorem mul_get {f g:List Nat} {i:Nat} (h:i<f.length):(mul f g).getD i 0=g.getD (f.getD i 0) 0:=by
 simp [mul,List.getD_eq_getElem?_getD,h]
theorem Ok.mul {f g:List Nat} {n:Nat} (hf:Ok f n) (hg:Ok g n):Ok (mul f g) n:=⟨by rw [mul_length,hf.len],hf.pos,hf.le,fun x hx=>by
 simp only [Kv.mul,List.mem_map] at hx
 obtain ⟨y,hy,rfl⟩:=hx
 exact hg.get (hf.lt y hy)⟩
theorem Ok.idn {n:Nat} (h:1≤n) (h':n≤5):Ok (List.range n) n:=⟨by simp,h,h',fun x hx=>by simpa using hx⟩
theorem ext_getD {f g:List Nat} (hl:f.length=g.length) (h:∀ i,i<f.length→f.getD i 0=g.getD i 0):f=g:=by
 apply List.ext_getElem hl
 intro i h1 h2
 have:=h i h1
 simpa [List.getD_eq_getElem?_getD,h1,h2] using this
def um (m:List Int):List Nat:=((m.drop 1).take (m.getD 0 0).toNat).map Int.toNat
theorem um_mp (f:List Nat):um (mp f)=f:=by
 have h1:(f.map fun x:Nat=>(x:Int)).length=f.length:=by simp
 simp only [um,mp_get0,Int.toNat_natCast]
 simp only [mp,mpN,List.drop_succ_cons,List.drop_zero]
 rw [← h1,List.take_left,List.map_map]
 conv=>rhs; rw [← List.map_id f]
 exact List.map_congr_left fun x _=>by simp
def okP (m:List Int) (i:Nat):Bool:=if (i:Int)<m.getD 0 0 then decide (0≤m.getD (i+1) 0∧m.getD (i+1) 0≤m.getD 0 0 - 1) else decide (m.getD (i+1) 0=0)
def isM (m:List Int):Bool:=decide (1≤m.getD 0 0∧m.getD 0 0≤5) && (List.range 5).all (okP m)
theorem isM_ok {m:List Int} (hl:m.length=6) (h:isM m=true):∃ f n,Ok f n∧m=mp f:=by
 obtain ⟨a,b,c,d,e,g,rfl⟩:∃ a b c d e g,m = [a,b,c,d,e,g]:=by
  match m,hl with
  | [a,b,c,d,e,g],_=>exact ⟨a,b,c,d,e,g,rfl⟩
 simp only [isM,okP,Bool.and_eq_true,decide_eq_true_eq,List.all_eq_true,List.mem_range] at h
 obtain ⟨h0,h1⟩:=h
 have g0:=h1 0 (by omega)
 have g1:=h1 1 (by omega)
 have g2:=h1 2 (by omega)
 have g3:=h1 3 (by omega)
 have g4:=h1 4 (by omega)
 simp only [List.getD_cons_zero,List.getD_cons_succ] at h0 g0 g1 g2 g3 g4
 have hn:a=1∨a=2∨a=3∨a=4∨a=5:=by omega
 rcases hn with rfl | rfl | rfl | rfl | rfl <;> simp at g0 g1 g2 g3 g4
 ·refine ⟨[b.toNat],1,⟨rfl,by omega,by omega,by simp; try omega⟩,?_⟩
  simp [mp,mpN,List.replicate]; first | omega | skip
 ·refine ⟨[b.toNat,c.toNat],2,⟨rfl,by omega,by omega,by simp; try omega⟩,?_⟩
  simp [mp,mpN,List.replicate]; first | omega | skip
 ·refine ⟨[b.toNat,c.toNat,d.toNat],3,⟨rfl,by omega,by omega,by simp; try omega⟩,?_⟩
  simp [mp,mpN,List.replicate]; first | omega | skip
 ·refine ⟨[b.toNat,c.toNat,d.toNat,e.toNat],4,⟨rfl,by omega,by omega,by simp; try omega⟩,?_⟩
  simp [mp,mpN,List.replicate]; first | omega | skip
 ·refine ⟨[b.toNat,c.toNat,d.toNat,e.toNat,g.toNat],5,⟨rfl,by omega,by omega,by simp; try omega⟩,?_⟩
  simp [mp,mpN,List.replicate]; first | omega | skip
theorem isM_mp {f:List Nat} {n:Nat} (h:Ok f n):isM (mp f)=true:=by
 simp only [isM,okP,Bool.and_eq_true,decide_eq_true_eq,List.all_eq_true,List.mem_range,h.mp_eq,mpN_get0,mpN_get]
 refine ⟨by have:=h.pos; have:=h.le; omega,fun i hi=>?_⟩
 split
 ·have:=h.get' i
  simp only [decide_eq_true_eq]; omega
 ·rw [List.getD_eq_getElem?_getD,List.getElem?_eq_none (by rw [h.len]; omega)]; simp
end Go.Kv
end
section
namespace Go.Proofs.YtcfmmmloeaggmaaGreat
open Go.Kv
set_option linter.unusedVariables false
set_option linter.unusedSimpArgs false
attribute [local irreducible] ACall PCall KL
theorem all_take_succ {α:Type} (p:α→Bool) {l:List α} {x:Nat} (h:x<l.length):(l.take (x+1)).all p=((l.take x).all p && p l[x]):=by
 rw [List.take_succ_eq_append_getElem h,List.all_append]; simp
theorem getD_eq {α:Type} {l:List α} {x:Nat} (h:x<l.length) (d:α):l.getD x d=l[x]:=by
 rw [List.getD_eq_getElem?_getD,List.getElem?_eq_getElem h]; rfl
def idx {α:Type} (p:α→Bool) (l:List α):Int:=match l.findIdx? p with | some i=>i | none=>-1
theorem idx_none {α:Type} {p:α→Bool} {l:List α} (h:l.any p=false):idx p l = -1:=by
 have:l.findIdx? p=none:=by
  rw [List.findIdx?_eq_none_iff]
  intro x hx
  rw [List.any_eq_false] at h
  simpa using h x hx
 simp [idx,this]
theorem idx_some {α:Type} {p:α→Bool} {l:List α} {x:Nat} (h:x<l.length) (h0:(l.take x).any p=false) (h1:p l[x]=true):idx p l=x:=by
 have:l.findIdx? p=some x:=by
  rw [List.findIdx?_eq_some_iff_getElem]
  refine ⟨h,h1,fun j hj=>?_⟩
  rw [List.any_eq_false] at h0
  have:=h0 l[j] (List.mem_take_iff_getElem.2 ⟨j,by omega,rfl⟩)
  simpa using this
 simp [idx,this]
theorem any_take_succ {α:Type} (p:α→Bool) {l:List α} {x:Nat} (h:x<l.length):(l.take (x+1)).any p=((l.take x).any p || p l[x]):=by
 rw [List.take_succ_eq_append_getElem h,List.any_append]; simp
theorem idx_nonneg {α:Type} (p:α→Bool) (l:List α):decide (0≤idx p l)=l.any p:=by
 cases h:l.any p with
 | false=>rw [idx_none h]; rfl
 | true =>
  unfold idx
  cases hf:l.findIdx? p with
  | none =>
   rw [List.findIdx?_eq_none_iff] at hf
   rw [List.any_eq_true] at h
   obtain ⟨x,hx,hp⟩:=h
   have:=hf x hx
   simp [hp] at this
  | some i=>simp
theorem any_split {α:Type} {p:α→Bool}:∀ {l:List α},l.any p=true→∃ i,∃ h:i<l.length,(l.take i).any p=false∧p l[i]=true
 | a :: l,h=>by
  cases hp:p a with
  | true=>exact ⟨0,by simp,by simp,by simpa using hp⟩
  | false =>
   simp only [List.any_cons,hp,Bool.false_or] at h
   obtain ⟨i,hi,h1,h2⟩:=any_split h
   exact ⟨i+1,by simpa using hi,by simp [hp,h1],by simpa using h2⟩
end Go.Proofs.YtcfmmmloeaggmaaGreat
end
section
namespace Go.Kv
set_option linter.unusedVariables false
set_option linter.unusedSimpArgs false
structure Rw where
 nil:Bool
 id:Nat
 ver:Nat
 pre:List Int
 post:List Int
def Rw.pv (r:Rw) (l:List Int):PV:=if r.nil=true then .nils else .ref r.id r.ver r.pre.length l.length
structure Rw.at (e1:TypeId) (σ:Heap) (r:Rw) (l:List Int):Prop where
 nl:r.nil=true→l = []
 ow:r.nil=false→σ[r.id]? = some (.arr r.ver e1 1 (ints (r.pre ++ l ++ r.post)))
def pvs (rs:List Rw) (t:List (List Int)):List PV:=List.zipWith Rw.pv rs t
theorem pvs_length {rs:List Rw} {t:List (List Int)} (h:rs.length=t.length):(pvs rs t).length=t.length:=by simp [pvs,h]
theorem pvs_get {rs:List Rw} {t:List (List Int)} {i:Nat} {x:PV} (h:(pvs rs t)[i]? = some x):∃ r l,rs[i]? = some r∧t[i]? = some l∧x=r.pv l:=by
 simp only [pvs,List.getElem?_zipWith] at h
 cases hr:rs[i]? with
 | none=>simp [hr] at h
 | some r =>
  cases hl:t[i]? with
  | none=>simp [hr,hl] at h
  | some l=>simp [hr,hl] at h; exact ⟨r,l,rfl,rfl,h.symm⟩
theorem pvs_snoc {rs:List Rw} {t:List (List Int)} (h:rs.length=t.length) (r:Rw) (l:List Int):pvs (rs ++ [r]) (t ++ [l])=pvs rs t ++ [r.pv l]:=by
 simp [pvs,List.zipWith_append h]
theorem pv_cases (r:Rw) (l:List Int):r.pv l = .nils∨∃ a b c d,r.pv l = .ref a b c d:=by
 unfold Rw.pv; split
 ·exact .inl rfl
 ·exact .inr ⟨_,_,_,_,rfl⟩
structure TabG (e2 e1:TypeId) (σ:Heap) (id ver:Nat) (rs:List Rw) (t:List (List Int)):Prop where
 out:∃ junk,σ[id]? = some (.arr ver e2 1 (pvs rs t ++ junk))
 len:rs.length=t.length
 row:∀ (i:Nat) (r:Rw) (l:List Int),rs[i]? = some r→t[i]? = some l→r.at e1 σ l
 nd:∀ (i j:Nat) (r q:Rw),rs[i]? = some r→rs[j]? = some q→r.nil=false→q.nil=false→r.id=q.id→i=j
 ni:∀ r∈rs,r.nil=false→r.id≠id
variable {e2 e1:TypeId} {σ:Heap} {id ver:Nat} {rs:List Rw} {t:List (List Int)}
theorem Rw.at.imm {r:Rw} {l:List Int} (h:r.at e1 σ l):Imm σ (r.pv l) (.list (ints l)):=by
 unfold Rw.pv
 split
 ·rename_i hn; rw [h.nl hn]; exact .nils
 ·rename_i hn; exact .refp (h.ow (by simpa using hn)) rfl rfl
theorem TabG.imm (h:TabG e2 e1 σ id ver rs t) {n:Nat} (hn:n=t.length):Imm σ (.ref id ver 0 n) (.list (rows t)):=by
 subst hn
 obtain ⟨junk,ho⟩:=h.out
 have hpl:=pvs_length h.len
 refine .ref id ver 0 t.length e2 1 (pvs rs t ++ junk) (rows t) ho (by simp [hpl]) (rows_length t) (fun i x d hx hd=>?_) (fun i x d j c c' hx hd hc hc'=>?_)
 all_goals rw [Nat.zero_add] at hx
 all_goals have hi:=(List.getElem?_eq_some_iff.1 hd).1
 all_goals rw [rows_length] at hi
 all_goals rw [List.getElem?_append_left (by rw [hpl]; exact hi)] at hx
 all_goals obtain ⟨r,l,hr,hl,rfl⟩:=pvs_get hx
 all_goals obtain ⟨y,hy,rfl⟩:=rows_get hd
 ·rcases pv_cases r l with e | ⟨a,b,c,d,e⟩ <;> rw [e] <;> exact ⟨rfl,rfl⟩
 ·rw [hl] at hy; cases hy
  have h2:=List.mem_of_getElem? hc'
  simp only [PV.cs,List.mem_singleton] at h2; subst h2
  have h1:c=r.pv l:=by
   have h1:=List.mem_of_getElem? hc
   rcases pv_cases r l with e | ⟨a,b,cc,d,e⟩ <;> rw [e] at h1 ⊢ <;> simpa [PV.cs] using h1
  subst h1
  exact (h.row i r l hr hl).imm
theorem Rw.at.keep {r:Rw} {l:List Int} {σ':Heap} (h:r.at e1 σ l) (hs:r.nil=false→σ'[r.id]? = σ[r.id]?):r.at e1 σ' l:=⟨h.nl,fun hn=>(hs hn).trans (h.ow hn)⟩
theorem TabG.keep (h:TabG e2 e1 σ id ver rs t) {σ':Heap} (h1:σ'[id]? = σ[id]?) (h2:∀ r∈rs,r.nil=false→σ'[r.id]? = σ[r.id]?):TabG e2 e1 σ' id ver rs t where
 out:=by obtain ⟨junk,ho⟩:=h.out; exact ⟨junk,h1.trans ho⟩
 len:=h.len
 row:=fun i r l hr hl=>(h.row i r l hr hl).keep (h2 r (List.mem_of_getElem? hr))
 nd:=h.nd
 ni:=h.ni
theorem TabG.lt (h:TabG e2 e1 σ id ver rs t):id < σ.length∧∀ r∈rs,r.nil=false→r.id < σ.length:=by
 obtain ⟨junk,ho⟩:=h.out
 refine ⟨(List.getElem?_eq_some_iff.1 ho).1,fun r hr hn=>?_⟩
 obtain ⟨i,hi⟩:=List.getElem?_of_mem hr
 have hlt:=(List.getElem?_eq_some_iff.1 hi).1
 have:=h.row i r (t[i]'(h.len ▸ hlt)) hi (List.getElem?_eq_getElem (h.len ▸ hlt))
 exact (List.getElem?_eq_some_iff.1 (this.ow hn)).1
theorem TabG.append (h:TabG e2 e1 σ id ver rs t) (τ:Heap):TabG e2 e1 (σ ++ τ) id ver rs t :=
 h.keep (List.getElem?_append_left h.lt.1) fun r hr hn=>List.getElem?_append_left (h.lt.2 r hr hn)
def Rw.sh (n:Nat) (r:Rw):Rw:={ r with id:=r.id+n }
theorem pv_ren (n:Nat) (r:Rw) (l:List Int):(r.pv l).ren (Kv.sh n)=(r.sh n).pv l:=by
 unfold Rw.pv Rw.sh
 simp only
 split
 ·simp [PV.ren]
 ·simp only [ren_ref,sh_def]
theorem TabG.shift (h:TabG e2 e1 σ id ver rs t) (τ:Heap):TabG e2 e1 (τ ++ σ.map (AObj.ren (Kv.sh τ.length))) (id + τ.length) ver (rs.map (Rw.sh τ.length)) t where
 out:=by
  obtain ⟨junk,ho⟩:=h.out
  refine ⟨junk.map (PV.ren (Kv.sh τ.length)),?_⟩
  rw [List.getElem?_append_right (by omega),Nat.add_sub_cancel,List.getElem?_map,ho]
  simp only [Option.map_some,ren_arr,Option.some.injEq,AObj.arr.injEq,true_and,List.map_append]
  congr 1
  simp only [pvs,List.map_zipWith,List.zipWith_map_left,pv_ren]
 len:=by simp [h.len]
 row:=fun i r l hr hl=>by
  simp only [List.getElem?_map,Option.map_eq_some_iff] at hr
  obtain ⟨q,hq,rfl⟩:=hr
  have:=h.row i q l hq hl
  refine ⟨this.nl,fun hn=>?_⟩
  simp only [Rw.sh]
  rw [List.getElem?_append_right (by omega),Nat.add_sub_cancel,List.getElem?_map,this.ow hn]
  simp only [Option.map_some,ren_arr,ren_ints]
 nd:=fun i j r q hr hq h1 h2 h3=>by
  simp only [List.getElem?_map,Option.map_eq_some_iff] at hr hq
  obtain ⟨r',hr',rfl⟩:=hr
  obtain ⟨q',hq',rfl⟩:=hq
  simp only [Rw.sh] at h1 h2 h3
  exact h.nd i j r' q' hr' hq' h1 h2 (by omega)
 ni:=fun r hr hn=>by
  obtain ⟨q,hq,rfl⟩:=List.mem_map.1 hr
  have:=h.ni q hq hn
  simp only [Rw.sh]; omega
theorem TabG.set (h:TabG e2 e1 σ id ver rs t) {i:Nat} {r:Rw} (hr:rs[i]? = some r) (hn:r.nil=false) {l m:List Int} (hl:t[i]? = some l) (hm:m.length=l.length) :
  TabG e2 e1 (σ.set r.id (.arr r.ver e1 1 (ints (r.pre ++ m ++ r.post)))) id ver rs (t.set i m):=by
 have hit:=(List.getElem?_eq_some_iff.1 hl).1
 have hrl:=h.lt.2 r (List.mem_of_getElem? hr) hn
 have hpv:∀ (q:Rw),q.pv m=q.pv l:=fun q=>by simp [Rw.pv,hm]
 refine ⟨?_,by simp [h.len],fun j q n hq hj=>?_,h.nd,h.ni⟩
 ·obtain ⟨junk,ho⟩:=h.out
  refine ⟨junk,?_⟩
  rw [List.getElem?_set_ne (h.ni r (List.mem_of_getElem? hr) hn),ho]
  congr 3
  apply List.ext_getElem?; intro j
  simp only [pvs,List.getElem?_zipWith,List.getElem?_set]
  by_cases e:i=j
  ·subst e
   simp only [if_pos hit,if_true,hr,hl,hpv]
  ·rw [if_neg e]
 ·by_cases e:i=j
  ·subst e
   rw [hr] at hq; cases hq
   rw [List.getElem?_set_self hit] at hj; cases hj
   exact ⟨fun h=>absurd h (by simp [hn]),fun _=>List.getElem?_set_self hrl⟩
  ·rw [List.getElem?_set_ne e] at hj
   exact (h.row j q n hq hj).keep fun hqn=>List.getElem?_set_ne fun e2=>e (h.nd i j r q hr hq hn hqn e2)
theorem TabG.free (h:∀ o∈σ,AObj.free o):True:=trivial
inductive TabN (e2 e1:TypeId) (σ:Heap):PV→List (List Int)→Prop
 | nil:TabN e2 e1 σ .nils []
 | tab (id ver:Nat) (rs:List Rw) (t:List (List Int)) (h:TabG e2 e1 σ id ver rs t):TabN e2 e1 σ (.ref id ver 0 t.length) t
theorem TabN.imm {v:PV} (h:TabN e2 e1 σ v t):Imm σ v (.list (rows t)):=by
 cases h with
 | nil=>exact .nils
 | tab id ver rs t h=>exact h.imm rfl
theorem TabN.append {v:PV} (h:TabN e2 e1 σ v t) (τ:Heap):TabN e2 e1 (σ ++ τ) v t:=by
 cases h with
 | nil=>exact .nil
 | tab id ver rs t h=>exact .tab id ver rs t (h.append τ)
theorem TabN.shift {v:PV} (h:TabN e2 e1 σ v t) (τ:Heap):TabN e2 e1 (τ ++ σ.map (AObj.ren (Kv.sh τ.length))) (v.ren (Kv.sh τ.length)) t:=by
 cases h with
 | nil=>simp only [ren_nils]; exact .nil
 | tab id ver rs t h=>simp only [ren_ref,sh_def]; exact .tab _ _ _ t (h.shift τ)
theorem TabN.push {v:PV} (h:TabN e2 e1 σ v t) {τ:Heap} {l:List Int} {r:Rw} (hr:r.at e1 (σ ++ τ) l) (hge:r.nil=false→σ.length≤r.id) (hn:t.length<4294967296) {K:PV→Heap→Prop}
  (hK:∀ v' σ',TabN e2 e1 σ' v' (t ++ [l])→(∀ o∈σ',o∈σ ++ τ∨∃ ver rs,o = .arr ver e2 1 (pvs rs (t ++ [l])))→K v' σ'):aApp e2 1 v (.list [r.pv l]) (σ ++ τ) K:=by
 have hok:okL 1 [r.pv l]:=by
  rcases pv_cases r l with e | ⟨a,b,c,d,e⟩ <;> rw [e] <;> simp [okL,PV.cs,PV.ok]
 cases h with
 | nil =>
  rw [aApp_nils,aNews_list,AppN_def]
  refine ⟨hok,by simp,?_⟩
  refine hK _ _ (.tab (σ ++ τ).length 0 [r] [l] ⟨⟨[],by simp [pvs]⟩,rfl,fun i q m hq hm=>?_,fun i j q p hq hp _ _ _=>?_,fun q hq hqn=>?_⟩) (fun o ho=>?_)
  ·cases i with
   | zero =>
    simp at hq hm; subst hq; subst hm
    exact hr.keep fun hrn=>List.getElem?_append_left (List.getElem?_eq_some_iff.1 (hr.ow hrn)).1
   | succ i=>simp at hq
  ·have h1:=(List.getElem?_eq_some_iff.1 hq).1
   have h2:=(List.getElem?_eq_some_iff.1 hp).1
   simp at h1 h2; omega
  ·simp at hq; subst hq
   have:=(List.getElem?_eq_some_iff.1 (hr.ow hqn)).1
   omega
  ·rcases List.mem_append.1 ho with ho | ho
   ·exact .inl ho
   ·simp at ho; subst ho; exact .inr ⟨0,[r],by simp [pvs]⟩
 | tab id ver rs t h =>
  obtain ⟨junk,ho⟩:=(h.append τ).out
  have hpl:=pvs_length h.len
  have hlt:=h.lt
  have hid:id<(σ ++ τ).length:=by simp; omega
  rw [aApp_ref,ho,AppR_arr,aNews_list,AppM_def]
  refine ⟨hok,⟨rfl,rfl,rfl,rfl,by simp [hpl],by simp; omega⟩,?_⟩
  have hself:∀ o,((σ ++ τ).set id o)[id]? = some o:=fun o=>List.getElem?_set_self hid
  have ht:t.length + [r.pv l].length=(t ++ [l]).length:=by simp
  have htk:(pvs rs t ++ junk).take t.length ++ [r.pv l]=pvs (rs ++ [r]) (t ++ [l]):=by
   rw [pvs_snoc h.len,← hpl,List.take_left]
  rw [ht,htk]
  refine hK _ _ (.tab id (ver+1) (rs ++ [r]) (t ++ [l]) ⟨⟨[],?_⟩,by simp [h.len],fun i q m hq hm=>?_,fun i j q p hq hp h1 h2 h3=>?_,fun q hq hqn=>?_⟩) (fun o ho=>?_)
  ·rw [hself,List.append_nil]
  ·rw [List.getElem?_append] at hq hm
   split at hq
   ·rename_i hi
    rw [if_pos (by rw [← h.len]; exact hi)] at hm
    exact ((h.append τ).row i q m hq hm).keep fun hqn=>List.getElem?_set_ne (Ne.symm (h.ni q (List.mem_of_getElem? hq) hqn))
   ·rename_i hi
    rw [if_neg (by rw [← h.len]; exact hi)] at hm
    have e1:=List.mem_of_getElem? hq
    have e2:=List.mem_of_getElem? hm
    simp at e1 e2; subst e1; subst e2
    exact hr.keep fun hrn=>List.getElem?_set_ne (by have:=hge hrn; omega)
  ·rw [List.getElem?_append] at hq hp
   have hlast:∀ (k:Nat) (x:Rw),¬ k<rs.length→[r][k - rs.length]? = some x→x=r∧k=rs.length:=fun k x hk hx=>by
    have h5:=(List.getElem?_eq_some_iff.1 hx).1
    have h4:=List.mem_of_getElem? hx
    simp at h4 h5
    exact ⟨h4,by omega⟩
   split at hq <;> split at hp
   ·exact h.nd i j q p hq hp h1 h2 h3
   ·rename_i hj
    obtain ⟨rfl,_⟩:=hlast j p hj hp
    have:=hlt.2 q (List.mem_of_getElem? hq) h1
    have:=hge h2
    omega
   ·rename_i hi _
    obtain ⟨rfl,_⟩:=hlast i q hi hq
    have:=hlt.2 p (List.mem_of_getElem? hp) h2
    have:=hge h1
    omega
   ·rename_i hi hj
    obtain ⟨_,rfl⟩:=hlast i q hi hq
    obtain ⟨_,rfl⟩:=hlast j p hj hp
    rfl
  ·rcases List.mem_append.1 hq with hq | hq
   ·exact h.ni q hq hqn
   ·simp at hq; subst hq
    have:=hge hqn
    omega
  ·rcases List.mem_or_eq_of_mem_set ho with ho | rfl
   ·exact .inl ho
   ·exact .inr ⟨_,_,rfl⟩
theorem TabN.empty:TabN e2 e1 [.arr 0 e2 1 []] (.ref 0 0 0 0) []:=.tab 0 0 [] [] ⟨⟨[],rfl⟩,rfl,fun i r l h=>by simp at h,fun i j r q h=>by simp at h,fun r h=>by simp at h⟩
def Free (σ:Heap):Prop:=∀ o∈σ,AObj.free o
theorem Free.nil:Free []:=fun o h=>by simp at h
theorem Free.append {σ τ:Heap} (h:Free σ) (h':Free τ):Free (σ ++ τ):=fun o ho=>by
 rcases List.mem_append.1 ho with ho | ho
 ·exact h o ho
 ·exact h' o ho
theorem free_ints {v:Nat} {e:TypeId} {s:Nat} (l:List Int):AObj.free (.arr v e s (ints l)):=fun c hc=>by
 rw [flat_ints] at hc; exact (Plain.ints _ c hc).fr
theorem Free.ints (v:Nat) (e:TypeId) (s:Nat) (l:List Int):Free [.arr v e s (Kv.ints l)]:=fun o ho=>by
 simp at ho; subst ho; exact free_ints l
theorem Free.empty (v:Nat) (e:TypeId) (s:Nat):Free [.arr v e s []]:=fun o ho=>by
 simp at ho; subst ho; intro c hc; simp [flat] at hc
theorem ACall.ret {P:Program} {f:FuncId} {args:List PV} {K K':PV→Heap→Prop} (h:ACall P f args [] K) (hk:∀ v s,K v s→Fin 0 K' v s):ACall P f args [] K' :=
 ⟨h.1,fun φ ι w vs hr ho=>(h.2 φ ι w vs hr ho).mono fun e w' ⟨v,v',φ',ι',σ',h1,h2,h3,h4,h5⟩=>by
  obtain ⟨u,s,hret,hK⟩:=hk v σ' h5
  obtain ⟨φ2,ι2,g1,g2,g3⟩:=hret φ' ι' w' v' (Nat.zero_le _) h4 h2
  exact ⟨u,v',φ2,ι2,s,h1,g3,h3.trans g1,g2,hK⟩⟩
def NewTN (P:Program) (f:FuncId) (args:List PV) (e2 e1:TypeId) (T:List (List Int)) (r:Int):Prop :=
 ACall P f args [] fun v s=>∃ x,v = .tup [x,.int .i64 r]∧TabN e2 e1 s x T∧Free s
theorem TabN.up {v:PV} (h:TabN e2 e1 σ v t):v.free:=by
 cases h with
 | nil=>exact Plain.nils.fr
 | tab id ver rs t h=>exact free_ref _ _ _ _
theorem NewTN.call {P:Program} {f:FuncId} {args:List PV} {T:List (List Int)} {r:Int} (h:NewTN P f args e2 e1 T r) {σ:Heap} {K:PV→Heap→Prop} [ha:StillL args]
  (hk:∀ (x:PV) (s:Heap),(∀ τ,TabN e2 e1 (σ ++ s ++ τ) x T)→(x = .nils∨∃ id ver rs,x = .ref id ver 0 T.length∧σ.length≤id∧(∀ r∈rs,r.nil=false→σ.length≤r.id)∧TabG e2 e1 (σ ++ s) id ver rs T)→K (.tup [x,.int .i64 r]) (σ ++ s)):ACall P f args σ K:=by
 refine ACall.frame h ha.up fun v s ⟨x,hv,hT,_⟩=>?_
 subst hv
 have h1:=hT.shift σ
 have:=hk (x.ren (Kv.sh σ.length)) (s.map (AObj.ren (Kv.sh σ.length))) (fun τ=>h1.append τ) (by
  cases hT with
  | nil=>exact .inl (by simp only [ren_nils])
  | tab id ver rs t h =>
   refine .inr ⟨id + σ.length,ver,rs.map (Rw.sh σ.length),by simp only [ren_ref,sh_def],by omega,fun r hr hn=>?_,h.shift σ⟩
   obtain ⟨q,_,rfl⟩:=List.mem_map.1 hr
   simp [Rw.sh])
 simpa only [ren_tup,ren_int,List.map_cons,List.map_nil] using this
theorem NewTN.lend {P:Program} {f:FuncId} {args args':List PV} {T:List (List Int)} {r:Int} (h:NewTN P f args' e2 e1 T r) {σ:Heap} {K:PV→Heap→Prop} (ha:ImmL σ args args')
  (hk:∀ (x:PV) (s:Heap),(∀ τ,TabN e2 e1 (σ ++ s ++ τ) x T)→(x = .nils∨∃ id ver rs,x = .ref id ver 0 T.length∧σ.length≤id∧(∀ r∈rs,r.nil=false→σ.length≤r.id)∧TabG e2 e1 (σ ++ s) id ver rs T)→K (.tup [x,.int .i64 r]) (σ ++ s)):ACall P f args σ K:=by
 refine ACall.lend h ha fun v s ⟨x,hv,hT,hf⟩=>?_
 subst hv
 refine ⟨⟨free_tup fun c hc=>?_,hf⟩,?_⟩
 ·simp only [List.mem_cons,List.not_mem_nil,or_false] at hc
  rcases hc with rfl | rfl
  ·exact hT.up
  ·exact (Plain.int _ _).fr
 ·have h1:=hT.shift σ
  have:=hk (x.ren (Kv.sh σ.length)) (s.map (AObj.ren (Kv.sh σ.length))) (fun τ=>h1.append τ) (by
   cases hT with
   | nil=>exact .inl (by simp only [ren_nils])
   | tab id ver rs t h =>
    refine .inr ⟨id + σ.length,ver,rs.map (Rw.sh σ.length),by simp only [ren_ref,sh_def],by omega,fun r hr hn=>?_,h.shift σ⟩
    obtain ⟨q,_,rfl⟩:=List.mem_map.1 hr
    simp [Rw.sh])
  simpa only [ren_tup,ren_int,List.map_cons,List.map_nil] using this
end Go.Kv
end
section
namespace Go.Proofs.YtcfmmmloeaggmaaGreat
open Go.Kv
set_option maxRecDepth 100000
def k71:KC:=(.seq (.ops [oP 6 (.mv (.c (.bool false)))])
 (.seq (.ops [mV 7 0,mV 8 1,oP 9 (.bin .geq (.t 7) (.t 8)),mV 10 9,⟨(some 11),some (10,true),.mv (.t 0)⟩,⟨(some 12),some (10,true),.mv (.t 2)⟩,⟨(some 13),some (10,true),.bin .leq (.t 11) (.t 12)⟩,oP 14 (.pick (.t 10) (.t 13) (.c (.bool false))),mV 6 14])
 .ret))
theorem e71:Ent 71 15 [] [.t 6] k71:=ent Tryz.func71
def k80:KC:=(.seq (.ops [oP 6 (.mv (.c (.bool false)))])
 (.seq (.ops [mV 7 0,mV 8 1,oP 9 (.bin .geq (.t 7) (.t 8)),mV 10 9,⟨(some 11),some (10,true),.mv (.t 0)⟩,⟨(some 12),some (10,true),.mv (.t 2)⟩,⟨(some 13),some (10,true),.bin .leq (.t 11) (.t 12)⟩,oP 14 (.pick (.t 10) (.t 13) (.c (.bool false))),mV 6 14])
 .ret))
theorem e80:Ent 80 15 [] [.t 6] k80:=ent Tryz.func80
end Go.Proofs.YtcfmmmloeaggmaaGreat
namespace Go.Proofs.YtcfmmmloeaggmaaGreat
open Go.Kv
set_option linter.unusedVariables false
set_option linter.unusedSimpArgs false
attribute [local irreducible] ACall PCall KL
theorem p71 (a b c:Int):Pure Tryz.prog 71 [.int .i64 a,.int .i64 b,.int .i64 c] (.bool (decide (b≤a∧a≤c))):=by
 refine e71 (by simp) fun _ _=>?_
 simp only [k71,argEnv,go_sem,↓reduceIte,Nat.reduceEqDiff,Nat.reduceAdd,reduceCtorEq]
 by_cases h:b≤a <;> simp only [h,true_and,false_and,decide_false,true_implies,not_true_eq_false,false_implies,and_true,not_false_eq_true] <;> exact Kv.Fin.now ⟨rfl,rfl⟩
theorem p80 (a b c:Int):Pure Tryz.prog 80 [.int .i64 a,.int .i64 b,.int .i64 c] (.bool (decide (b≤a∧a≤c))):=by
 refine e80 (by simp) fun _ _=>?_
 simp only [k80,argEnv,go_sem,↓reduceIte,Nat.reduceEqDiff,Nat.reduceAdd,reduceCtorEq]
 by_cases h:b≤a <;> simp only [h,true_and,false_and,decide_false,true_implies,not_true_eq_false,false_implies,and_true,not_false_eq_true] <;> exact Kv.Fin.now ⟨rfl,rfl⟩
end Go.Proofs.YtcfmmmloeaggmaaGreat
end
section
namespace Go.Kv
def mk (m:Nat) (f:Nat→Int):List Int:=(List.range m).map f
@[go_sem,simp] theorem mk_length (m:Nat) (f:Nat→Int):(mk m f).length=m:=by simp [mk]
@[go_sem] theorem get_last (σ:Heap) (a:AObj):(σ ++ [a])[σ.length]? = some a:=by simp
@[go_sem] theorem set_last (σ:Heap) (a b:AObj):(σ ++ [a]).set σ.length b = σ ++ [b]:=by simp
theorem all_range_succ (p:Nat→Bool) (n:Nat):(List.range (n+1)).all p=((List.range n).all p && p n):=by simp [List.range_succ,List.all_append]
theorem not_range {p:Nat→Bool} {n x:Nat} (h:x<n) (hp:p x=false):(List.range n).all p=false:=by
 rw [List.all_eq_false]; exact ⟨x,by simpa using h,by simp [hp]⟩
end Go.Kv
end
section
namespace Go.Proofs.YtcfmmmloeaggmaaGreat
open Go.Kv
set_option maxRecDepth 100000
def k178_b0:KC:=(.seq (.seq (.ops [mV 8 3,oP 9 (.bin .lss (.t 8) (iC 5))])
 (.cond (.t 9) .skip (.exit 0)))
 (.seq (.block 1 (.seq (.draw [mV 12 3,oP 13 (.fieldA 0 (.t 1)),oP 14 (.load false 1 (.t 13)),oP 15 (.bin .lss (.t 12) (.t 14)),mV 16 15,⟨(some 17),some (16,true),.mv (.t 3)⟩,⟨(some 18),some (16,true),.fieldA 1 (.t 1)⟩,⟨(some 19),some (16,true),.idxA 5 1 (.t 18) (.t 17)⟩,⟨(some 20),some (16,true),.load false 1 (.t 19)⟩,⟨(some 21),some (16,true),.fieldA 0 (.t 1)⟩,⟨(some 22),some (16,true),.load false 1 (.t 21)⟩,⟨(some 23),some (16,true),.bin .sub (.t 22) (iC 1)⟩,⟨(some 24),some (16,true),.pcall (fC 71) [(.t 20),(iC 0),(.t 23)]⟩,⟨(some 25),some (16,true),.not (.t 24)⟩,oP 26 (.pick (.t 16) (.t 25) (.c (.bool false))),mV 27 26,⟨(some 28),some (27,false),.mv (.t 3)⟩,⟨(some 29),some (27,false),.fieldA 0 (.t 1)⟩,⟨(some 30),some (27,false),.load false 1 (.t 29)⟩,⟨(some 31),some (27,false),.bin .geq (.t 28) (.t 30)⟩,⟨(some 32),some (27,false),.mv (.t 31)⟩,⟨(some 33),some (32,true),.mv (.t 3)⟩,⟨(some 34),some (32,true),.fieldA 1 (.t 1)⟩,⟨(some 35),some (32,true),.idxA 5 1 (.t 34) (.t 33)⟩,⟨(some 36),some (32,true),.load false 1 (.t 35)⟩,⟨(some 37),some (32,true),.bin .neq (.t 36) (iC 0)⟩,⟨(some 38),some (27,false),.pick (.t 32) (.t 37) (.c (.bool false))⟩,oP 39 (.pick (.t 27) (.c (.bool true)) (.t 38))])
 (.cond (.t 39) (.seq (.ops [oP 2 (.mv (.c (.bool false)))])
 .ret) .skip)))
 (.ops [mV 10 3,oP 11 (.bin .add (.t 10) (iC 1)),mV 3 11])))
def k178:KC:=(.seq (.ops [oP 1 (.box true (.t 0)),oP 2 (.mv (.c (.bool false)))])
 (.seq (.seq (.ops [oP 4 (.fieldA 0 (.t 1)),oP 5 (.load false 1 (.t 4)),oP 6 (.call (fC 71) [(.t 5),(iC 1),(iC 5)]),oP 7 (.not (.t 6))])
 (.cond (.t 7) (.seq (.ops [oP 2 (.mv (.c (.bool false)))])
 .ret) .skip))
 (.seq (.seq (.ops [oP 3 (.mv (iC 0))])
 (.block 0 (.loop k178_b0)))
 (.seq (.ops [oP 2 (.mv (.c (.bool true)))])
 .ret))))
theorem e178:Ent 178 40 [1] [.t 2] k178:=ent Tryz.func178
def k65_b0:KC:=(.seq (.ops [oP 12 (.bin .lss (.t 11) (iC 5))])
 (.seq (.cond (.t 12) .skip (.exit 0))
 (.seq (.block 1 (.seq (.ops [mV 13 11,oP 14 (.idxV 5 1 false (.t 10) (.t 11)),mV 3 13,mV 4 14])
 (.seq (.ops [mV 15 3,oP 16 (.fieldA 0 (.t 1)),oP 17 (.load false 1 (.t 16)),oP 18 (.bin .lss (.t 15) (.t 17)),mV 19 18,⟨(some 20),some (19,true),.mv (.t 4)⟩,⟨(some 21),some (19,true),.fieldA 0 (.t 1)⟩,⟨(some 22),some (19,true),.load false 1 (.t 21)⟩,⟨(some 23),some (19,true),.bin .sub (.t 22) (iC 1)⟩,⟨(some 24),some (19,true),.call (fC 80) [(.t 20),(iC 0),(.t 23)]⟩,⟨(some 25),some (19,true),.not (.t 24)⟩,oP 26 (.pick (.t 19) (.t 25) (.c (.bool false))),mV 27 26,⟨(some 28),some (27,false),.mv (.t 3)⟩,⟨(some 29),some (27,false),.fieldA 0 (.t 1)⟩,⟨(some 30),some (27,false),.load false 1 (.t 29)⟩,⟨(some 31),some (27,false),.bin .geq (.t 28) (.t 30)⟩,⟨(some 32),some (27,false),.mv (.t 31)⟩,⟨(some 33),some (32,true),.mv (.t 4)⟩,⟨(some 34),some (32,true),.bin .neq (.t 33) (iC 0)⟩,⟨(some 35),some (27,false),.pick (.t 32) (.t 34) (.c (.bool false))⟩,oP 36 (.pick (.t 27) (.c (.bool true)) (.t 35))])
 (.cond (.t 36) (.seq (.ops [oP 2 (.mv (.c (.bool false)))])
 .ret) .skip))))
 (.ops [oP 37 (.bin .add (.t 11) (iC 1)),mV 11 37]))))
def k65:KC:=(.seq (.ops [oP 1 (.box true (.t 0)),oP 2 (.mv (.c (.bool false)))])
 (.seq (.seq (.ops [oP 5 (.fieldA 0 (.t 1)),oP 6 (.load false 1 (.t 5)),oP 7 (.call (fC 80) [(.t 6),(iC 1),(iC 5)]),oP 8 (.not (.t 7))])
 (.cond (.t 8) (.seq (.ops [oP 2 (.mv (.c (.bool false)))])
 .ret) .skip))
 (.seq (.seq (.ops [oP 9 (.fieldA 1 (.t 1)),oP 10 (.load true 5 (.t 9)),oP 11 (.mv (iC 0))])
 (.block 0 (.loop k65_b0)))
 (.seq (.ops [oP 2 (.mv (.c (.bool true)))])
 .ret))))
theorem e65:Ent 65 38 [1] [.t 2] k65:=ent Tryz.func65
def k136_b0:KC:=(.seq (.seq (.ops [mV 7 4,mV 8 0,oP 9 (.bin .lss (.t 7) (.t 8))])
 (.cond (.t 9) .skip (.exit 0)))
 (.seq (.block 1 (.ops [mV 12 4,mV 13 4,oP 14 (.fieldA 1 (.t 3)),oP 15 (.idxA 5 1 (.t 14) (.t 12)),⟨none,none,.store 1 (.t 15) (.t 13)⟩]))
 (.ops [mV 10 4,oP 11 (.bin .add (.t 10) (iC 1)),mV 4 11])))
def k136:KC:=(.seq (.ops [oP 2 (.alloc [.int .i64 0,.int .i64 0,.int .i64 0,.int .i64 0,.int .i64 0,.int .i64 0])])
 (.seq (.ops [mV 5 0,oP 6 (.build [.int .i64 0,.int .i64 0,.int .i64 0,.int .i64 0,.int .i64 0,.int .i64 0] [(0,1,(.t 5))]),oP 3 (.alloc [.int .i64 0,.int .i64 0,.int .i64 0,.int .i64 0,.int .i64 0,.int .i64 0]),⟨none,none,.store 6 (.t 3) (.t 6)⟩])
 (.seq (.seq (.ops [oP 4 (.mv (iC 0))])
 (.block 0 (.loop k136_b0)))
 (.seq (.ops [oP 16 (.load true 6 (.t 3)),⟨none,none,.store 6 (.t 2) (.t 16)⟩])
 .ret))))
theorem e136:Ent 136 17 [] [.cell 2 true 6] k136:=ent Tryz.func136
def k137_b0:KC:=(.seq (.seq (.ops [mV 10 6,oP 11 (.fieldA 0 (.t 2)),oP 12 (.load false 1 (.t 11)),oP 13 (.bin .lss (.t 10) (.t 12))])
 (.cond (.t 13) .skip (.exit 0)))
 (.seq (.block 1 (.ops [mV 16 6,mV 17 6,oP 18 (.fieldA 1 (.t 2)),oP 19 (.idxA 5 1 (.t 18) (.t 17)),oP 20 (.load false 1 (.t 19)),oP 21 (.fieldA 1 (.t 3)),oP 22 (.idxA 5 1 (.t 21) (.t 20)),oP 23 (.load false 1 (.t 22)),oP 24 (.fieldA 1 (.t 5)),oP 25 (.idxA 5 1 (.t 24) (.t 16)),⟨none,none,.store 1 (.t 25) (.t 23)⟩]))
 (.ops [mV 14 6,oP 15 (.bin .add (.t 14) (iC 1)),mV 6 15])))
def k137:KC:=(.seq (.ops [oP 2 (.box true (.t 0)),oP 3 (.box true (.t 1)),oP 4 (.alloc [.int .i64 0,.int .i64 0,.int .i64 0,.int .i64 0,.int .i64 0,.int .i64 0])])
 (.seq (.ops [oP 7 (.fieldA 0 (.t 2)),oP 8 (.load false 1 (.t 7)),oP 9 (.build [.int .i64 0,.int .i64 0,.int .i64 0,.int .i64 0,.int .i64 0,.int .i64 0] [(0,1,(.t 8))]),oP 5 (.alloc [.int .i64 0,.int .i64 0,.int .i64 0,.int .i64 0,.int .i64 0,.int .i64 0]),⟨none,none,.store 6 (.t 5) (.t 9)⟩])
 (.seq (.seq (.ops [oP 6 (.mv (iC 0))])
 (.block 0 (.loop k137_b0)))
 (.seq (.ops [oP 26 (.load true 6 (.t 5)),⟨none,none,.store 6 (.t 4) (.t 26)⟩])
 .ret))))
theorem e137:Ent 137 27 [2,3] [.cell 4 true 6] k137:=ent Tryz.func137
def k124_b0:KC:=(.seq (.ops [oP 9 (.bin .lss (.t 8) (.t 7))])
 (.seq (.cond (.t 9) .skip (.exit 0))
 (.seq (.block 1 (.seq (.ops [mV 10 8,mV 5 10])
 (.ops [mV 11 5,mV 12 5,oP 13 (.fieldA 1 (.t 2)),oP 14 (.idxA 5 1 (.t 13) (.t 12)),oP 15 (.load false 1 (.t 14)),oP 16 (.fieldA 1 (.t 3)),oP 17 (.idxA 5 1 (.t 16) (.t 15)),oP 18 (.load false 1 (.t 17)),oP 19 (.fieldA 1 (.t 2)),oP 20 (.idxA 5 1 (.t 19) (.t 11)),⟨none,none,.store 1 (.t 20) (.t 18)⟩])))
 (.ops [oP 21 (.bin .add (.t 8) (iC 1)),mV 8 21]))))
def k124:KC:=(.seq (.ops [oP 2 (.box false (.t 0)),oP 3 (.box true (.t 1)),oP 4 (.alloc [.int .i64 0,.int .i64 0,.int .i64 0,.int .i64 0,.int .i64 0,.int .i64 0])])
 (.seq (.seq (.ops [oP 6 (.fieldA 0 (.t 2)),oP 7 (.load false 1 (.t 6)),oP 8 (.mv (iC 0))])
 (.block 0 (.loop k124_b0)))
 (.seq (.ops [oP 22 (.load true 6 (.t 2)),⟨none,none,.store 6 (.t 4) (.t 22)⟩])
 .ret)))
theorem e124:Ent 124 23 [3] [.cell 4 true 6] k124:=ent Tryz.func124
end Go.Proofs.YtcfmmmloeaggmaaGreat
namespace Go.Proofs.YtcfmmmloeaggmaaGreat
open Go.Kv
set_option linter.unusedVariables false
set_option linter.unusedSimpArgs false
attribute [local irreducible] ACall PCall KL
theorem p136 (n:Nat) (h1:1≤n) (h5:n≤5):Pure Tryz.prog 136 [.int .i64 n] (.agg (ints (mp (List.range n)))):=by
 refine e136 (by simp) fun _ _=>?_
 simp only [k136,argEnv,go_sem]
 refine KL_ind k136_b0.eq_1 (fun x:Nat=>[(0,.int .i64 n),(2,.ptr 0 0),(3,.ptr 1 0),(4,.int .i64 x)]) (fun x=>[.box (ints [0,0,0,0,0,0]),.box (ints (mpN n (List.range x)))]) (fun x=>x≤n) (fun x=>n - x) [0,2,3,4] 0 (by simp [keep]) (by rfl) (Nat.zero_le _) fun x hi ih=>?_
 have hl:(mpN n (List.range x)).length=6:=mpN_length (by simp; omega)
 try simp only [hl,go_sem]
 refine ⟨fun h=>?_,fun h=>?_⟩
 ·repeat' (first | refine And.intro ?_ ?_ | intro _)
  all_goals (try omega)
  refine ih (x+1) (by omega) (by omega) _ _ (by rfl) ?_
  rw [mpN_pushI (by simp) (by simp; omega),← List.range_succ]
 ·obtain rfl:x=n:=by omega
  refine Kv.Fin.still ⟨?_,rfl⟩
  simp [mp]
theorem mul_step {f g:List Nat} {n x:Nat} (hf:Ok f n) (h:x<n):((mul f g).take x ++ f.drop x).set x (g.getD (f.getD x 0) 0)=(mul f g).take (x+1) ++ f.drop (x+1):=by
 have hl:=hf.len
 rw [List.set_append_right _ _ (by simp; omega),List.length_take,mul_length,Nat.min_eq_left (by omega),Nat.sub_self,List.drop_eq_getElem_cons (by omega),List.set_cons_zero,List.take_succ_eq_append_getElem (by simp; omega),List.append_assoc]
 simp [mul,List.getD_eq_getElem?_getD,hl,h]
theorem mul_mid {f g:List Nat} {n x:Nat} (hf:Ok f n) (h:x<n):((mul f g).take x ++ f.drop x).getD x 0=f.getD x 0:=by
 have hl:=hf.len
 rw [List.getD_eq_getElem?_getD,List.getElem?_append_right (by simp; omega),List.length_take,mul_length,Nat.min_eq_left (by omega),Nat.sub_self]
 simp [List.getD_eq_getElem?_getD]
theorem p124 (f g:List Nat) (n:Nat) (hf:Ok f n) (hg:Ok g n):Pure Tryz.prog 124 [.agg (ints (mp f)),.agg (ints (mp g))] (.agg (ints (mp (mul f g)))):=by
 rw [hf.mp_eq,hg.mp_eq,(hf.mul hg).mp_eq]
 have hlg:=hg.mp_eq ▸ hg.mp_len
 have hlf:=hf.mp_eq ▸ hf.mp_len
 have hll:=hf.len
 have h5:=hf.le
 refine e124 (by simp) fun _ _=>?_
 simp only [k124,argEnv,hlf,hlg,go_sem]
 refine KL_ind k124_b0.eq_1 (fun x:Nat=>[(2,.ptr 0 0),(3,.fptr (ints (mpN n g)) 0),(4,.ptr 1 0),(7,.int .i64 n),(8,.int .i64 x)]) (fun x=>[.box (ints (mpN n ((mul f g).take x ++ f.drop x))),.box (ints [0,0,0,0,0,0])]) (fun x=>x≤n) (fun x=>n - x) [2,3,4,7,8] 0 (by rfl) (by simp [ints]) (Nat.zero_le _) fun x hi ih=>?_
 have hl:(mpN n ((mul f g).take x ++ f.drop x)).length=6:=mpN_length (by simp; omega)
 try simp only [hl,hlg,go_sem]
 refine ⟨fun h=>?_,fun h=>?_⟩
 ·have hx:x<n:=by omega
  rw [mul_mid hf hx]
  have:=hf.get hx
  repeat' (first | refine And.intro ?_ ?_ | intro _)
  all_goals (try omega)
  refine ih (x+1) (by omega) (by omega) _ _ (by rfl) ?_
  rw [mpN_set (by simp; omega),mul_step hf hx]
 ·obtain rfl:x=n:=by omega
  refine Kv.Fin.still ⟨?_,rfl⟩
  rw [List.take_of_length_le (by simp; omega),List.drop_of_length_le (by omega),List.append_nil]
theorem p137 (f g:List Nat) (n:Nat) (hf:Ok f n) (hg:Ok g n):Pure Tryz.prog 137 [.agg (ints (mp f)),.agg (ints (mp g))] (.agg (ints (mp (mul f g)))):=by
 rw [hf.mp_eq,hg.mp_eq,(hf.mul hg).mp_eq]
 have hlg:=hg.mp_eq ▸ hg.mp_len
 have hlf:=hf.mp_eq ▸ hf.mp_len
 have hll:=hf.len
 have h5:=hf.le
 refine e137 (by simp) fun _ _=>?_
 simp only [k137,argEnv,hlf,hlg,go_sem]
 refine KL_ind k137_b0.eq_1 (fun x:Nat=>[(2,.fptr (ints (mpN n f)) 0),(3,.fptr (ints (mpN n g)) 0),(4,.ptr 0 0),(5,.ptr 1 0),(6,.int .i64 x)]) (fun x=>[.box (ints [0,0,0,0,0,0]),.box (ints (mpN n ((mul f g).take x)))]) (fun x=>x≤n) (fun x=>n - x) [2,3,4,5,6] 0 (by rfl) (by simp [ints,mpN]) (Nat.zero_le _) fun x hi ih=>?_
 have hl:(mpN n ((mul f g).take x)).length=6:=mpN_length (by simp; omega)
 try simp only [hl,hlg,hlf,go_sem]
 refine ⟨fun h=>?_,fun h=>?_⟩
 ·have hx:x<n:=by omega
  have:=hf.get hx
  repeat' (first | refine And.intro ?_ ?_ | intro _)
  all_goals (try omega)
  refine ih (x+1) (by omega) (by omega) _ _ (by rfl) ?_
  rw [mpN_pushI (by simp; omega) (by simp; omega),← mul_get (by omega),List.take_succ_eq_append_getElem (by simp; omega)]
  simp [List.getD_eq_getElem?_getD,hx,hll]
 ·obtain rfl:x=n:=by omega
  refine Kv.Fin.still ⟨?_,rfl⟩
  rw [List.take_of_length_le (by simp; omega)]
theorem p65 (m:List Int) (h:m.length=6):Pure Tryz.prog 65 [.agg (ints m)] (.bool (isM m)):=by
 refine e65 (by simp) fun _ _=>?_
 simp only [k65,argEnv,h,go_sem]
 refine (p80 _ _ _).go ?_
 try simp only [go_sem]
 refine ⟨fun h1=>Kv.Fin.now ⟨by simp only [isM]; rw [decide_eq_false h1]; rfl,rfl⟩,fun h1=>?_⟩
 refine ⟨by omega,?_⟩
 have h2:1≤m.getD 0 0∧m.getD 0 0≤5:=by simpa using h1
 have hd:decide (1≤m.getD 0 0∧m.getD 0 0≤5)=true:=by simpa using h2
 refine KL_ind k65_b0.eq_1 (fun x:Nat=>[(1,.fptr (ints m) 0),(10,.agg (ints ((m.drop 1).take 5))),(11,.int .i64 x)]) (fun x=>[]) (fun x=>x≤5∧(List.range x).all (okP m)=true) (fun x=>5 - x) [1,10,11] 0 (by rfl) (by rfl) ⟨Nat.zero_le _,rfl⟩ fun x ⟨hx,hall⟩ ih=>?_
 have ht:((m.drop 1).take 5).length=5:=by simp [h]
 have hg:x<5→((m.drop 1).take 5).getD x 0=m.getD (x+1) 0:=fun hx=>by
  simp [List.getD_eq_getElem?_getD,List.getElem?_take,hx,Nat.add_comm]
 have hs:okP m x=true→(List.range (x+1)).all (okP m)=true:=fun hp=>by rw [all_range_succ,hall,hp]; rfl
 have hb:x<5→okP m x=false→isM m=false:=fun hx hp=>by rw [isM,not_range hx hp,Bool.and_false]
 by_cases hc:(x:Int)<m.getD 0 0
 ·try simp only [h,hc,ht,go_sem]
  refine ⟨fun h3=>?_,fun h3=>by omega⟩
  rw [hg (by omega)]
  refine ⟨by omega,by omega,fun _=>⟨by omega,?_⟩⟩
  refine (p80 _ _ _).go ?_
  try simp only [go_sem]
  have he:okP m x=decide (0≤m.getD (x+1) 0∧m.getD (x+1) 0≤m.getD 0 0 - 1):=by rw [okP,if_pos hc]
  refine ⟨fun h4=>?_,fun h4=>?_⟩
  ·have hc3:¬ m.getD 0 0≤x:=by omega
   try simp only [hc3,go_sem]
   repeat' (first | refine And.intro ?_ ?_ | intro _)
   all_goals (try omega)
   exact ih (x+1) ⟨by omega,hs (by rw [he]; exact decide_eq_true h4)⟩ (by omega) _ _ (by rfl) rfl
  ·exact Kv.Fin.now ⟨by rw [hb (by omega) (by rw [he]; exact decide_eq_false h4)],rfl⟩
 ·have hc2:m.getD 0 0≤x:=by omega
  have he:okP m x=decide (m.getD (x+1) 0=0):=by rw [okP,if_neg hc]
  try simp only [h,hc,hc2,ht,go_sem]
  refine ⟨fun h3=>?_,fun h3=>?_⟩
  ·rw [hg (by omega)]
   refine ⟨by omega,by omega,fun _=>⟨fun h4=>?_,fun h4=>?_⟩⟩
   ·exact Kv.Fin.now ⟨by rw [hb (by omega) (by rw [he]; exact decide_eq_false h4)],rfl⟩
   ·repeat' (first | refine And.intro ?_ ?_ | intro _)
    all_goals (try omega)
    exact ih (x+1) ⟨by omega,hs (by rw [he]; exact decide_eq_true h4)⟩ (by omega) _ _ (by rfl) rfl
  ·obtain rfl:x=5:=by omega
   exact Kv.Fin.now ⟨by rw [isM,hd,hall]; rfl,rfl⟩
theorem p178 (m:List Int) (h:m.length=6):Pure Tryz.prog 178 [.agg (ints m)] (.bool (isM m)):=by
 refine e178 (by simp) fun _ _=>?_
 simp only [k178,argEnv,h,go_sem]
 refine (p71 _ _ _).go ?_
 try simp only [go_sem]
 refine ⟨fun h1=>Kv.Fin.now ⟨by simp only [isM]; rw [decide_eq_false h1]; rfl,rfl⟩,fun h1=>?_⟩
 have h2:1≤m.getD 0 0∧m.getD 0 0≤5:=by simpa using h1
 have hd:decide (1≤m.getD 0 0∧m.getD 0 0≤5)=true:=by simpa using h2
 refine KL_ind k178_b0.eq_1 (fun x:Nat=>[(1,.fptr (ints m) 0),(3,.int .i64 x)]) (fun x=>[]) (fun x=>x≤5∧(List.range x).all (okP m)=true) (fun x=>5 - x) [1,3] 0 (by rfl) (by rfl) ⟨Nat.zero_le _,rfl⟩ fun x ⟨hx,hall⟩ ih=>?_
 have hs:okP m x=true→(List.range (x+1)).all (okP m)=true:=fun hp=>by rw [all_range_succ,hall,hp]; rfl
 have hb:x<5→okP m x=false→isM m=false:=fun hx hp=>by rw [isM,not_range hx hp,Bool.and_false]
 by_cases hc:(x:Int)<m.getD 0 0
 ·try simp only [h,hc,go_sem]
  refine ⟨fun h3=>?_,fun h3=>by omega⟩
  refine ⟨by omega,by omega,fun _=>⟨by omega,?_⟩⟩
  refine (p71 _ _ _).pgo ?_
  try simp only [go_sem]
  have he:okP m x=decide (0≤m.getD (x+1) 0∧m.getD (x+1) 0≤m.getD 0 0 - 1):=by rw [okP,if_pos hc]
  refine ⟨fun h4=>?_,fun h4=>?_⟩
  ·have hc3:¬ m.getD 0 0≤x:=by omega
   try simp only [hc3,go_sem]
   repeat' (first | refine And.intro ?_ ?_ | intro _)
   all_goals (try omega)
   exact ih (x+1) ⟨by omega,hs (by rw [he]; exact decide_eq_true h4)⟩ (by omega) _ _ (by rfl) rfl
  ·exact Kv.Fin.now ⟨by rw [hb (by omega) (by rw [he]; exact decide_eq_false h4)],rfl⟩
 ·have hc2:m.getD 0 0≤x:=by omega
  have he:okP m x=decide (m.getD (x+1) 0=0):=by rw [okP,if_neg hc]
  try simp only [h,hc,hc2,go_sem]
  refine ⟨fun h3=>?_,fun h3=>?_⟩
  ·refine ⟨by omega,by omega,fun _=>⟨fun h4=>?_,fun h4=>?_⟩⟩
   ·exact Kv.Fin.now ⟨by rw [hb (by omega) (by rw [he]; exact decide_eq_false h4)],rfl⟩
   ·repeat' (first | refine And.intro ?_ ?_ | intro _)
    all_goals (try omega)
    exact ih (x+1) ⟨by omega,hs (by rw [he]; exact decide_eq_true h4)⟩ (by omega) _ _ (by rfl) rfl
  ·obtain rfl:x=5:=by omega
   exact Kv.Fin.now ⟨by rw [isM,hd,hall]; rfl,rfl⟩
end Go.Proofs.YtcfmmmloeaggmaaGreat
end
section
namespace Go.Proofs.YtcfmmmloeaggmaaGreat
open Go.Kv
set_option linter.unusedVariables false
set_option linter.unusedSimpArgs false
attribute [local irreducible] ACall PCall KL
def seqI (k:Int) (n:Nat):List Int:=(List.range n).map fun i=>k+(i:Nat)
@[simp] theorem seqI_length (k:Int) (n:Nat):(seqI k n).length=n:=by simp [seqI]
end Go.Proofs.YtcfmmmloeaggmaaGreat
end
end
namespace Go.Proofs.YtcfmmmloeaggmaaGreat
open Go.Kv
set_option linter.unusedVariables false
set_option linter.unusedSimpArgs false
section
section
set_option maxRecDepth 100000
def k96_b0:KC:=(.seq (.ops [oP 14 (.bin .lss (.t 13) (.t 12))])
 (.seq (.cond (.t 14) .skip (.exit 0))
 (.seq (.block 1 (.seq (.ops [mV 15 13,mV 5 15])
 (.seq (.draw [mV 16 0,mV 17 5,oP 18 (.idxS 1 (.t 16) (.t 17)),oP 19 (.load false 1 (.t 18)),mV 20 1,mV 21 5,oP 22 (.idxS 1 (.t 20) (.t 21)),oP 23 (.load false 1 (.t 22)),oP 24 (.bin .neq (.t 19) (.t 23))])
 (.cond (.t 24) (.seq (.ops [oP 4 (.mv (.c (.bool false)))])
 .ret) .skip))))
 (.ops [oP 25 (.bin .add (.t 13) (iC 1)),mV 13 25]))))
def k96:KC:=(.seq (.ops [oP 4 (.mv (.c (.bool false)))])
 (.seq (.seq (.ops [mV 6 0,oP 7 (.len false (.t 6)),mV 8 1,oP 9 (.len false (.t 8)),oP 10 (.bin .neq (.t 7) (.t 9))])
 (.cond (.t 10) (.seq (.ops [oP 4 (.mv (.c (.bool false)))])
 .ret) .skip))
 (.seq (.seq (.ops [mV 11 0,oP 12 (.len false (.t 11)),oP 13 (.mv (iC 0))])
 (.block 0 (.loop k96_b0)))
 (.seq (.ops [oP 4 (.mv (.c (.bool true)))])
 .ret))))
theorem e96:Ent 96 26 [] [.t 4] k96:=ent Tryz.func96
def k177:KC:=(.seq (.ops [oP 2 (.box true (.t 0)),oP 3 (.mv (.c (.bool false)))])
 (.seq (.ops [oP 4 (.fieldA 0 (.t 2)),oP 5 (.load false 1 (.t 4)),oP 6 (.load false 1 (.t 1)),oP 7 (.call (fC 96) [(.t 5),(.t 6)]),mV 3 7])
 .ret))
theorem e177:Ent 177 8 [2] [.t 3] k177:=ent Tryz.func177
def k197_b0:KC:=(.seq (.ops [oP 9 (.bin .lss (.t 8) (.t 7))])
 (.seq (.cond (.t 9) .skip (.exit 0))
 (.seq (.block 1 (.seq (.ops [mV 10 8,mV 5 10])
 (.seq (.ops [mV 11 1,mV 12 0,mV 13 5,oP 14 (.idxS 2 (.t 12) (.t 13)),oP 15 (.load true 2 (.t 14)),oP 16 (.call (.t 11) [(.t 15)])])
 (.cond (.t 16) (.seq (.ops [mV 17 5,mV 4 17])
 .ret) .skip))))
 (.ops [oP 18 (.bin .add (.t 8) (iC 1)),mV 8 18]))))
def k197:KC:=(.seq (.ops [oP 4 (.mv (iC 0))])
 (.seq (.seq (.ops [mV 6 0,oP 7 (.len false (.t 6)),oP 8 (.mv (iC 0))])
 (.block 0 (.loop k197_b0)))
 (.seq (.ops [oP 4 (.mv (iC (-1)))])
 .ret)))
theorem e197:Ent 197 19 [] [.t 4] k197:=ent Tryz.func197
def k176:KC:=(.seq (.ops [oP 4 (.mv (.c (.bool false)))])
 (.seq (.ops [mV 5 0,mV 6 1,oP 7 (.call (fC 197) [(.t 5),(.t 6)]),oP 8 (.bin .geq (.t 7) (iC 0)),mV 4 8])
 .ret))
theorem e176:Ent 176 9 [] [.t 4] k176:=ent Tryz.func176
end
section
attribute [local irreducible] ACall PCall KL
abbrev Met:=List Int × List Int
def mcell (m:Met):PV:=.agg [.list (ints m.1),.list (ints m.2)]
def mets (l:List Met):List PV:=l.map mcell
theorem subC2 (a b:PV):subC [a,b] 0 2 = [a,b]:=by unfold subC; first | rfl | (split <;> rfl) | simp
theorem mcell_sub (m:Met):PV.agg (subC (mcell m).cs 0 2)=mcell m:=by
 show PV.agg (subC [_,_] 0 2)=_
 rw [subC2]; rfl
@[simp] theorem mets_length (l:List Met):(mets l).length=l.length:=by simp [mets]
theorem mets_get {l:List Met} {i:Nat} (h:i<l.length):(mets l)[i]? = some (mcell l[i]):=by simp [mets,h]
instance (m:Met):Still (mcell m):=by unfold mcell; infer_instance
instance (l:List Met):Still (.list (mets l)):=Still.list fun x hx=>by
 obtain ⟨m,_,rfl⟩:=List.mem_map.1 hx
 refine ⟨inferInstance,fun c hc=>?_⟩
 simp only [mcell,PV.cs,List.mem_cons,List.mem_singleton,List.not_mem_nil,or_false] at hc
 rcases hc with rfl | rfl <;> exact upto_ints 0 _
theorem p96 (xs ys:List Int) (hl:ys.length≤4294967296) (hl':xs.length≤4294967296):Pure Tryz.prog 96 [.list (ints xs),.list (ints ys)] (.bool (decide (xs=ys))):=by
 refine e96 (by simp) fun _ _=>?_
 simp only [k96,argEnv,go_sem]
 refine ⟨fun h=>?_,fun h=>?_⟩
 ·exact Kv.Fin.still ⟨by rw [decide_eq_false (fun e=>h (by rw [e]))],rfl⟩
 ·have hxy:xs.length=ys.length:=by omega
  refine KL_ind k96_b0.eq_1 (fun x:Nat=>[(0,.list (ints xs)),(1,.list (ints ys)),(12,.int .i64 xs.length),(13,.int .i64 x)]) (fun _=>[]) (fun x=>x≤xs.length∧xs.take x=ys.take x) (fun x=>xs.length - x) [0,1,12,13] 0 (by rfl) rfl ⟨Nat.zero_le _,by simp⟩ fun x ⟨hx,he⟩ ih=>?_
  try simp only [go_sem]
  refine ⟨fun h1=>?_,fun h1=>?_⟩
  ·have h2:x<xs.length:=by omega
   have h3:x<ys.length:=by omega
   refine ⟨by omega,fun _=>⟨by omega,fun _=>⟨fun h4=>?_,fun h4=>⟨by omega,?_⟩⟩⟩⟩
   ·rw [getD_eq h2,getD_eq h3] at h4
    exact Kv.Fin.still ⟨by rw [decide_eq_false]; rintro rfl; exact h4 rfl,rfl⟩
   ·rw [getD_eq h2,getD_eq h3] at h4
    refine ih (x+1) ⟨by omega,?_⟩ (by omega) _ _ (by rfl) rfl
    rw [List.take_succ_eq_append_getElem h2,List.take_succ_eq_append_getElem h3,he,h4]
  ·obtain rfl:x=xs.length:=by omega
   rw [List.take_length,hxy,List.take_length] at he
   exact Kv.Fin.still ⟨by rw [decide_eq_true he],rfl⟩
theorem p177 (m:Met) (nx:List Int) (hl:nx.length≤4294967296) (hl':m.1.length≤4294967296):Pure Tryz.prog 177 [mcell m,.fptr [.list (ints nx)] 0] (.bool (decide (m.1=nx))):=by
 unfold mcell
 refine e177 (by simp) fun _ _=>?_
 simp only [k177,argEnv,go_sem]
 refine (p96 m.1 nx hl hl').go ?_
 try simp only [go_sem]
 exact Kv.Fin.still ⟨rfl,rfl⟩
theorem p197 (l:List Met) (hl:l.length≤4294967296) (fid:FuncId) (caps:List PV) [hc:StillL caps] (p:Met→Bool) (hp:∀ x∈l,Pure Tryz.prog fid (mcell x :: caps) (.bool (p x))) :
  Pure Tryz.prog 197 [.list (mets l),.fn (.func fid) [] caps] (.int .i64 (idx p l)):=by
 have hlen:=mets_length l
 refine e197 (by simp) fun _ _=>?_
 simp only [k197,argEnv,hlen,go_sem]
 refine KL_ind k197_b0.eq_1 (fun x:Nat=>[(0,.list (mets l)),(1,.fn (.func fid) [] caps),(7,.int .i64 l.length),(8,.int .i64 x)]) (fun _=>[]) (fun x=>x≤l.length∧(l.take x).any p=false) (fun x=>l.length - x) [0,1,7,8] 0 rfl rfl ⟨Nat.zero_le _,by simp⟩ fun x ⟨hx,hall⟩ ih=>?_
 try simp only [hlen,go_sem]
 refine ⟨fun h1=>?_,fun h1=>?_⟩
 ·have h2:x<l.length:=by omega
  have hg:=mets_get h2
  have hpx:=hp _ (List.getElem_mem h2)
  refine ⟨h1,fun y hy=>?_⟩
  rw [hg] at hy; cases hy
  refine ⟨rfl,Nat.le_refl _,?_⟩
  rw [mcell_sub]
  refine hpx.go ?_
  try simp only [go_sem]
  refine ⟨fun h3=>?_,fun h3=>⟨by omega,?_⟩⟩
  ·exact Kv.Fin.now ⟨by rw [idx_some h2 hall h3],rfl⟩
  ·refine ih (x+1) ⟨by omega,?_⟩ (by omega) _ _ rfl rfl
   rw [any_take_succ _ h2,hall,h3]; rfl
 ·obtain rfl:x=l.length:=by omega
  rw [List.take_length] at hall
  exact Kv.Fin.now ⟨by rw [idx_none hall],rfl⟩
theorem p176 (l:List Met) (hl:l.length≤4294967296) (fid:FuncId) (caps:List PV) [hc:StillL caps] (p:Met→Bool) (hp:∀ x∈l,Pure Tryz.prog fid (mcell x :: caps) (.bool (p x))) :
  Pure Tryz.prog 176 [.list (mets l),.fn (.func fid) [] caps] (.bool (l.any p)):=by
 refine e176 (by simp) fun _ _=>?_
 simp only [k176,argEnv,go_sem]
 refine (p197 l hl fid caps p hp).go ?_
 try simp only [go_sem]
 exact Kv.Fin.still ⟨by rw [idx_nonneg],rfl⟩
end
end
section
section
section
set_option maxRecDepth 100000
def k143_b0:KC:=(.seq (.ops [oP 9 (.bin .lss (.t 8) (.t 7))])
 (.seq (.cond (.t 9) .skip (.exit 0))
 (.seq (.block 1 (.seq (.ops [mV 10 8,mV 5 10])
 (.seq (.ops [mV 11 1,mV 12 0,mV 13 5,oP 14 (.idxS 6 (.t 12) (.t 13)),oP 15 (.load true 6 (.t 14)),oP 16 (.call (.t 11) [(.t 15)])])
 (.cond (.t 16) (.seq (.ops [mV 17 5,mV 4 17])
 .ret) .skip))))
 (.ops [oP 18 (.bin .add (.t 8) (iC 1)),mV 8 18]))))
def k143:KC:=(.seq (.ops [oP 4 (.mv (iC 0))])
 (.seq (.seq (.ops [mV 6 0,oP 7 (.len false (.t 6)),oP 8 (.mv (iC 0))])
 (.block 0 (.loop k143_b0)))
 (.seq (.ops [oP 4 (.mv (iC (-1)))])
 .ret)))
theorem e143:Ent 143 19 [] [.t 4] k143:=ent Tryz.func143
end
section
attribute [local irreducible] ACall PCall KL
theorem p143 (l:List (List Int)) (hm:∀ x∈l,x.length=6) (hl:l.length≤4294967296) (fid:FuncId) (caps:List PV) [hc:StillL caps] (p:List Int→Bool) (hp:∀ x∈l,Pure Tryz.prog fid (.agg (ints x) :: caps) (.bool (p x))) :
  Pure Tryz.prog 143 [.list (aggs l),.fn (.func fid) [] caps] (.int .i64 (idx p l)):=by
 refine e143 (by simp) fun _ _=>?_
 simp only [k143,argEnv,go_sem]
 refine KL_ind k143_b0.eq_1 (fun x:Nat=>[(0,.list (aggs l)),(1,.fn (.func fid) [] caps),(7,.int .i64 l.length),(8,.int .i64 x)]) (fun _=>[]) (fun x=>x≤l.length∧(l.take x).any p=false) (fun x=>l.length - x) [0,1,7,8] 0 rfl rfl ⟨Nat.zero_le _,by simp⟩ fun x ⟨hx,hall⟩ ih=>?_
 try simp only [go_sem]
 refine ⟨fun h1=>⟨by omega,fun h2=>?_⟩,fun h1=>?_⟩
 ·rw [getD_eq h2]
  have h6:=hm _ (List.getElem_mem h2)
  try simp only [h6,go_sem]
  refine (hp _ (List.getElem_mem h2)).go ?_
  try simp only [go_sem]
  refine ⟨fun h3=>?_,fun h3=>⟨by omega,?_⟩⟩
  ·exact Kv.Fin.now ⟨by rw [idx_some h2 hall h3],rfl⟩
  ·refine ih (x+1) ⟨by omega,?_⟩ (by omega) _ _ rfl rfl
   rw [any_take_succ _ h2,hall,h3]; rfl
 ·obtain rfl:x=l.length:=by omega
  rw [List.take_length] at hall
  exact Kv.Fin.now ⟨by rw [idx_none hall],rfl⟩
end
end
section
section
set_option maxRecDepth 100000
def k196:KC:=(.seq (.ops [oP 4 (.mv (.c (.nils)))])
 (.seq (.seq (.ops [mV 5 1,oP 6 (.bin .lss (.t 5) (iC 0))])
 (.cond (.t 6) (.ops [oP 7 (.bad),⟨none,none,.bad⟩]) .skip))
 (.seq (.seq (.ops [mV 8 1,mV 9 0,oP 10 (.cap0 (.t 9)),mV 11 0,oP 12 (.len false (.t 11)),oP 13 (.bin .sub (.t 10) (.t 12)),oP 14 (.bin .sub (.t 8) (.t 13)),mV 1 14])
 (.seq (.ops [mV 15 1,oP 16 (.bin .gtr (.t 15) (iC 0))])
 (.cond (.t 16) (.ops [mV 17 0,mV 18 0,oP 19 (.cap0 (.t 18)),oP 20 (.sls 6 (.t 17) none (some (.t 19))),mV 21 1,oP 22 (.apn (.t 20) (.t 21) 48 6 (.agg [.int .i64 0,.int .i64 0,.int .i64 0,.int .i64 0,.int .i64 0,.int .i64 0])),mV 23 0,oP 24 (.len false (.t 23)),oP 25 (.sls 6 (.t 22) none (some (.t 24))),mV 0 25]) .skip)))
 (.seq (.ops [mV 26 0,mV 4 26])
 .ret))))
theorem e196:Ent 196 27 [] [.t 4] k196:=ent Tryz.func196
def k175_b0:KC:=(.seq (.ops [oP 12 (.bin .lss (.t 11) (.t 10))])
 (.seq (.cond (.t 12) .skip (.exit 0))
 (.seq (.block 1 (.seq (.ops [oP 13 (.idxS 1 (.t 9) (.t 11)),oP 14 (.load false 1 (.t 13)),mV 5 14])
 (.seq (.ops [mV 15 3,mV 16 5,oP 17 (.len false (.t 16)),oP 18 (.bin .add (.t 15) (.t 17)),mV 3 18])
 (.seq (.ops [mV 19 3,oP 20 (.bin .lss (.t 19) (iC 0))])
 (.cond (.t 20) (.ops [oP 21 (.bad),⟨none,none,.bad⟩]) .skip)))))
 (.ops [oP 22 (.bin .add (.t 11) (iC 1)),mV 11 22]))))
def k175_b1:KC:=(.seq (.ops [oP 28 (.bin .lss (.t 27) (.t 26))])
 (.seq (.cond (.t 28) .skip (.exit 2))
 (.seq (.block 3 (.seq (.ops [oP 29 (.idxS 1 (.t 25) (.t 27)),oP 30 (.load false 1 (.t 29)),mV 8 30])
 (.ops [mV 31 6,mV 32 8,oP 33 (.app (.t 31) (.t 32) 48 6),mV 6 33])))
 (.ops [oP 34 (.bin .add (.t 27) (iC 1)),mV 27 34]))))
def k175:KC:=(.seq (.ops [oP 2 (.mv (.c (.nils)))])
 (.seq (.ops [oP 3 (.mv (iC 0))])
 (.seq (.seq (.ops [mV 9 0,oP 10 (.len false (.t 9)),oP 11 (.mv (iC 0))])
 (.block 0 (.loop k175_b0)))
 (.seq (.ops [mV 23 3,oP 24 (.call (fC 196) [(.c (.nils)),(.t 23)]),mV 6 24])
 (.seq (.seq (.ops [mV 25 0,oP 26 (.len false (.t 25)),oP 27 (.mv (iC 0))])
 (.block 2 (.loop k175_b1)))
 (.seq (.ops [mV 35 6,mV 2 35])
 .ret))))))
theorem e175:Ent 175 36 [] [.t 2] k175:=ent Tryz.func175
end
section
attribute [local irreducible] ACall PCall KL
theorem aggs_repl (n:Nat):List.replicate n (PV.agg [.int .i64 0,.int .i64 0,.int .i64 0,.int .i64 0,.int .i64 0,.int .i64 0])=aggs (List.replicate n [0,0,0,0,0,0]):=by simp [aggs,ints]
end
end
section
section
attribute [local irreducible] ACall PCall KL
theorem p196 (n:Int) (h00:0≤n) (hn:n≤4294967296) {K:PV→Heap→Prop} (h0:n=0→K .nils []) (h1:0<n→K (.ref 0 0 0 0) [.arr 0 48 6 (aggs (List.replicate n.toNat [0,0,0,0,0,0]))]) :
  ACall Tryz.prog 196 [.nils,.int .i64 n] [] K:=by
 refine e196 (by simp) fun _ _=>?_
 simp only [k196,argEnv,go_sem]
 repeat' (first | refine And.intro ?_ ?_ | intro _)
 all_goals (try omega)
 ·rename_i hp
  have e:n - (0 - 0)=n:=by omega
  rw [e,aggs_repl]
  exact Kv.Fin.now (h1 (by omega))
 ·exact Kv.Fin.now (h0 (by omega))
inductive Ms:PV→List (List Int)→Prop
 | nil:Ms .nils []
 | list (l:List (List Int)):Ms (.list (aggs l)) l
theorem p175 (w:PV) (a b:List (List Int)) (hw:Ms w b) (ha:a.length≤1048576) (hb:b.length≤1048576) (hma:∀ r∈a,r.length=6) (hmb:∀ r∈b,r.length=6) :
  ACall Tryz.prog 175 [.list [.list (aggs a),w]] [] (fun v s=>∃ ver,v = .ref 0 ver 0 (a ++ b).length∧s = [.arr ver 48 6 (aggs (a ++ b))]):=by
 have hoa:=okL_aggs 6 a
 have hob:=okL_aggs 6 b
 rw [eq_true hma] at hoa
 rw [eq_true hmb] at hob
 have hap:aggs a ++ aggs b=aggs (a ++ b):=by simp [aggs]
 have hnil:aggs ([]:List (List Int)) = []:=rfl
 cases hw
 all_goals
  refine e175 (by simp) fun _ _=>?_
  simp only [k175,argEnv,go_sem]
  refine KL_round ?_
  rw [k175_b0.eq_1]
  try simp only [go_sem]
  repeat' (first | refine And.intro ?_ ?_ | intro _)
  all_goals (try omega)
  refine KL_round ?_
  try simp only [Int.reduceAdd,Int.reduceToNat,Int.zero_add,go_sem]
  repeat' (first | refine And.intro ?_ ?_ | intro _)
  all_goals (try omega)
  refine KL_round ?_
  try simp only [Int.reduceAdd,Int.reduceToNat,Int.zero_add,go_sem]
  repeat' (first | refine And.intro ?_ ?_ | intro _)
  all_goals (try omega)
  refine (p196 _ (by omega) (by omega) (fun h0=>?_) (fun h0=>?_))
 all_goals
  try simp only [go_sem]
  refine KL_round ?_
  rw [k175_b1.eq_1]
  try simp only [hoa,hob,hap,hnil,go_sem]
  repeat' (first | refine And.intro ?_ ?_ | intro _)
  all_goals (try omega)
  refine KL_round ?_
  try simp only [Int.reduceAdd,Int.reduceToNat,Int.zero_add,hoa,hob,hap,hnil,go_sem]
  repeat' (first | refine And.intro ?_ ?_ | intro _)
  all_goals (try omega)
  refine KL_round ?_
  try simp only [Int.reduceAdd,Int.reduceToNat,Int.zero_add,hoa,hob,hap,hnil,go_sem]
  repeat' (first | refine And.intro ?_ ?_ | intro _)
  all_goals (try omega)
  refine Kv.Fin.now ?_
 ·exact ⟨1,rfl,rfl⟩
 ·exact ⟨2,rfl,by simp⟩
 ·exact ⟨1,rfl,rfl⟩
 ·exact ⟨2,rfl,by simp⟩
theorem Imm.refs {σ:Heap} {id ver n:Nat} {e:TypeId} {cs:List PV} (h:σ[id]? = some (.arr ver e 1 cs)) (hn:n=cs.length) (hc:∀ c∈cs,c.cs = [c]∧c.ok=true∧Still c):Imm σ (.ref id ver 0 n) (.list cs):=by
 subst hn
 exact .ref id ver 0 cs.length e 1 cs cs h (by simp) rfl
  (fun i x d hx hd=>by simp only [Nat.zero_add,hd,Option.some.injEq] at hx; subst hx; have h1:=hc _ (List.mem_of_getElem? hd); rw [h1.1]; exact ⟨rfl,by simp [h1.2.1]⟩)
  (fun i x d j c c' hx hd hcc hc'=>by
   simp only [Nat.zero_add,hd,Option.some.injEq] at hx; subst hx
   have h1:=hc _ (List.mem_of_getElem? hd)
   rw [hcc] at hc'; cases hc'
   rw [h1.1] at hcc
   have:=List.mem_of_getElem? hcc
   simp only [List.mem_singleton] at this; subst this
   have:=h1.2.2
   exact Imm.still)
theorem Ms.still {w:PV} {l:List (List Int)} (h:Ms w l):w.cs = [w]∧w.ok=true∧Still w:=by
 cases h
 ·exact ⟨rfl,rfl,inferInstance⟩
 ·exact ⟨rfl,rfl,inferInstance⟩
theorem p175L (σ:Heap) (id:Nat) (w:PV) (a b:List (List Int)) (hw:Ms w b) (hid:σ[id]? = some (.arr 0 24 1 [.list (aggs a),w])) (ha:a.length≤1048576) (hb:b.length≤1048576) (hma:∀ r∈a,r.length=6) (hmb:∀ r∈b,r.length=6) {K:PV→Heap→Prop}
  (hK:∀ ver,K (.ref σ.length ver 0 (a ++ b).length) (σ ++ [.arr ver 48 6 (aggs (a ++ b))])) :
  ACall Tryz.prog 175 [.ref id 0 0 2] σ K:=by
 have him:Imm σ (.ref id 0 0 2) (.list [.list (aggs a),w]):=Imm.refs hid rfl fun c hc=>by
  simp only [List.mem_cons,List.not_mem_nil,or_false] at hc
  rcases hc with rfl | rfl
  ·exact ⟨rfl,rfl,inferInstance⟩
  ·exact hw.still
 refine ACall.lend (p175 w a b hw ha hb hma hmb) (.cons him (.nil _)) fun v s ⟨ver,hv,hs⟩=>?_
 subst hv; subst hs
 refine ⟨⟨free_ref _ _ _ _,?_⟩,?_⟩
 ·intro o ho
  simp only [List.mem_singleton] at ho; subst ho
  exact fun c hc=>(flat_aggs c hc).fr
 ·simpa only [ren_ref,ren_arr,ren_aggs,List.map_cons,List.map_nil,sh_def,Nat.zero_add] using hK ver
end
end
section
section
attribute [local irreducible] ACall PCall KL
def ch (n:Nat):Nat→Int
 | 0=>1
 | i+1=>ch n i * ((n:Int) - i) / ((i:Int)+1)
end
end
section
section
set_option maxRecDepth 100000
def k118_b0:KC:=(.seq (.ops [oP 15 (.bin .lss (.t 14) (.t 13))])
 (.seq (.cond (.t 15) .skip (.exit 0))
 (.seq (.block 1 (.seq (.ops [oP 16 (.idxS 6 (.t 12) (.t 14)),oP 17 (.load true 6 (.t 16)),oP 6 (.alloc [.int .i64 0,.int .i64 0,.int .i64 0,.int .i64 0,.int .i64 0,.int .i64 0]),⟨none,none,.store 6 (.t 6) (.t 17)⟩])
 (.seq (.ops [oP 18 (.load true 6 (.t 6)),oP 19 (.call (fC 65) [(.t 18)]),oP 20 (.not (.t 19))])
 (.cond (.t 20) (.seq (.ops [oP 4 (.mv (iC 1))])
 .ret) .skip))))
 (.ops [oP 21 (.bin .add (.t 14) (iC 1)),mV 14 21]))))
def k118_b1:KC:=(.seq (.ops [oP 32 (.bin .lss (.t 31) (.t 30))])
 (.seq (.cond (.t 32) .skip (.exit 2))
 (.seq (.block 3 (.seq (.ops [oP 33 (.idxS 6 (.t 29) (.t 31)),oP 34 (.load true 6 (.t 33)),oP 8 (.alloc [.int .i64 0,.int .i64 0,.int .i64 0,.int .i64 0,.int .i64 0,.int .i64 0]),⟨none,none,.store 6 (.t 8) (.t 34)⟩])
 (.seq (.draw [oP 35 (.fieldA 0 (.t 8)),oP 36 (.load false 1 (.t 35)),mV 37 0,oP 38 (.idxS 6 (.t 37) (iC 0)),oP 39 (.fieldA 0 (.t 38)),oP 40 (.load false 1 (.t 39)),oP 41 (.bin .neq (.t 36) (.t 40))])
 (.cond (.t 41) (.seq (.ops [oP 4 (.mv (iC 2))])
 .ret) .skip))))
 (.ops [oP 42 (.bin .add (.t 31) (iC 1)),mV 31 42]))))
def k118:KC:=(.seq (.ops [oP 4 (.mv (iC 0))])
 (.seq (.seq (.ops [mV 9 0,mV 10 1,oP 11 (.bsl false 24 1 [(.t 9),(.t 10)]),oP 12 (.call (fC 175) [(.t 11)]),oP 13 (.len false (.t 12)),oP 14 (.mv (iC 0))])
 (.block 0 (.loop k118_b0)))
 (.seq (.seq (.ops [mV 22 0,oP 23 (.len false (.t 22)),oP 24 (.call (fC 80) [(.t 23),(iC 1),(iC 6)]),oP 25 (.not (.t 24))])
 (.cond (.t 25) (.seq (.ops [oP 4 (.mv (iC 2))])
 .ret) .skip))
 (.seq (.seq (.ops [mV 26 0,mV 27 1,oP 28 (.bsl false 24 1 [(.t 26),(.t 27)]),oP 29 (.call (fC 175) [(.t 28)]),oP 30 (.len false (.t 29)),oP 31 (.mv (iC 0))])
 (.block 2 (.loop k118_b1)))
 (.seq (.ops [oP 4 (.mv (iC 0))])
 .ret)))))
theorem e118:Ent 118 43 [] [.t 4] k118:=ent Tryz.func118
def k132_b0:KC:=(.seq (.seq (.ops [mV 8 5,mV 9 0,oP 10 (.len false (.t 9)),oP 11 (.bin .lss (.t 8) (.t 10))])
 (.cond (.t 11) .skip (.exit 0)))
 (.seq (.block 1 (.seq (.ops [mV 14 0,mV 15 5,oP 16 (.idxS 6 (.t 14) (.t 15)),oP 17 (.load true 6 (.t 16)),oP 18 (.call (fC 178) [(.t 17)]),oP 19 (.not (.t 18))])
 (.cond (.t 19) (.seq (.ops [oP 4 (.mv (iC 1))])
 .ret) .skip)))
 (.ops [mV 12 5,oP 13 (.bin .add (.t 12) (iC 1)),mV 5 13])))
def k132_b1:KC:=(.seq (.seq (.ops [mV 20 6,mV 21 1,oP 22 (.len false (.t 21)),oP 23 (.bin .lss (.t 20) (.t 22))])
 (.cond (.t 23) .skip (.exit 2)))
 (.seq (.block 3 (.seq (.ops [mV 26 1,mV 27 6,oP 28 (.idxS 6 (.t 26) (.t 27)),oP 29 (.load true 6 (.t 28)),oP 30 (.call (fC 178) [(.t 29)]),oP 31 (.not (.t 30))])
 (.cond (.t 31) (.seq (.ops [oP 4 (.mv (iC 1))])
 .ret) .skip)))
 (.ops [mV 24 6,oP 25 (.bin .add (.t 24) (iC 1)),mV 6 25])))
def k132_b2:KC:=(.seq (.seq (.ops [mV 35 7,mV 36 1,oP 37 (.len false (.t 36)),oP 38 (.bin .lss (.t 35) (.t 37))])
 (.cond (.t 38) .skip (.exit 4)))
 (.seq (.block 5 (.seq (.draw [mV 41 1,mV 42 7,oP 43 (.idxS 6 (.t 41) (.t 42)),oP 44 (.fieldA 0 (.t 43)),oP 45 (.load false 1 (.t 44)),mV 46 0,oP 47 (.idxS 6 (.t 46) (iC 0)),oP 48 (.fieldA 0 (.t 47)),oP 49 (.load false 1 (.t 48)),oP 50 (.bin .neq (.t 45) (.t 49))])
 (.cond (.t 50) (.seq (.ops [oP 4 (.mv (iC 2))])
 .ret) .skip)))
 (.ops [mV 39 7,oP 40 (.bin .add (.t 39) (iC 1)),mV 7 40])))
def k132:KC:=(.seq (.ops [oP 4 (.mv (iC 0))])
 (.seq (.seq (.ops [oP 5 (.mv (iC 0))])
 (.block 0 (.loop k132_b0)))
 (.seq (.seq (.ops [oP 6 (.mv (iC 0))])
 (.block 2 (.loop k132_b1)))
 (.seq (.seq (.ops [mV 32 0,oP 33 (.call (fC 127) [(.t 32)]),oP 34 (.not (.t 33))])
 (.cond (.t 34) (.seq (.ops [oP 4 (.mv (iC 2))])
 .ret) .skip))
 (.seq (.seq (.ops [oP 7 (.mv (iC 0))])
 (.block 4 (.loop k132_b2)))
 (.seq (.ops [oP 4 (.mv (iC 0))])
 .ret))))))
theorem e132:Ent 132 51 [] [.t 4] k132:=ent Tryz.func132
def k127_b0:KC:=(.seq (.seq (.ops [mV 12 3,mV 13 0,oP 14 (.len false (.t 13)),oP 15 (.bin .lss (.t 12) (.t 14))])
 (.cond (.t 15) .skip (.exit 0)))
 (.seq (.block 1 (.seq (.draw [mV 18 0,mV 19 3,oP 20 (.idxS 6 (.t 18) (.t 19)),oP 21 (.load true 6 (.t 20)),oP 22 (.pcall (fC 178) [(.t 21)]),oP 23 (.not (.t 22)),mV 24 23,⟨(some 25),some (24,false),.mv (.t 0)⟩,⟨(some 26),some (24,false),.mv (.t 3)⟩,⟨(some 27),some (24,false),.idxS 6 (.t 25) (.t 26)⟩,⟨(some 28),some (24,false),.fieldA 0 (.t 27)⟩,⟨(some 29),some (24,false),.load false 1 (.t 28)⟩,⟨(some 30),some (24,false),.mv (.t 0)⟩,⟨(some 31),some (24,false),.idxS 6 (.t 30) (iC 0)⟩,⟨(some 32),some (24,false),.fieldA 0 (.t 31)⟩,⟨(some 33),some (24,false),.load false 1 (.t 32)⟩,⟨(some 34),some (24,false),.bin .neq (.t 29) (.t 33)⟩,oP 35 (.pick (.t 24) (.c (.bool true)) (.t 34))])
 (.cond (.t 35) (.seq (.ops [oP 2 (.mv (.c (.bool false)))])
 .ret) .skip)))
 (.ops [mV 16 3,oP 17 (.bin .add (.t 16) (iC 1)),mV 3 17])))
def k127:KC:=(.seq (.ops [oP 2 (.mv (.c (.bool false)))])
 (.seq (.seq (.ops [mV 4 0,oP 5 (.len false (.t 4)),oP 6 (.bin .lss (.t 5) (iC 1)),mV 7 6,⟨(some 8),some (7,false),.mv (.t 0)⟩,⟨(some 9),some (7,false),.len false (.t 8)⟩,⟨(some 10),some (7,false),.bin .gtr (.t 9) (iC 6)⟩,oP 11 (.pick (.t 7) (.c (.bool true)) (.t 10))])
 (.cond (.t 11) (.seq (.ops [oP 2 (.mv (.c (.bool false)))])
 .ret) .skip))
 (.seq (.seq (.ops [oP 3 (.mv (iC 0))])
 (.block 0 (.loop k127_b0)))
 (.seq (.ops [oP 2 (.mv (.c (.bool true)))])
 .ret))))
theorem e127:Ent 127 36 [] [.t 2] k127:=ent Tryz.func127
end
section
attribute [local irreducible] ACall PCall KL
def lcode (a b:List (List Int)):Int :=
 if (a ++ b).all isM=false then 1 else if ¬ (1≤a.length∧a.length≤6) then 2 else if (a ++ b).all (fun r=>decide (r.getD 0 0=(a.getD 0 []).getD 0 0))=false then 2 else 0
theorem all_false {α:Type} {l:List α} {x:Nat} {p:α→Bool} (h:x<l.length) (hp:p l[x]=false):l.all p=false:=by
 rw [List.all_eq_false]; exact ⟨l[x],List.getElem_mem h,by simp [hp]⟩
theorem p118 (w:PV) (a b:List (List Int)) (hw:Ms w b) (ha:a.length≤1048576) (hb:b.length≤1048576) (hma:∀ r∈a,r.length=6) (hmb:∀ r∈b,r.length=6) :
  Pure Tryz.prog 118 [.list (aggs a),w] (.int .i64 (lcode a b)):=by
 have hab:∀ r∈a ++ b,r.length=6:=fun r hr=>(List.mem_append.1 hr).elim (hma r) (hmb r)
 have hlab:(a ++ b).length≤2097152:=by simp; omega
 have hwu:∀ n,w.undr n=true:=fun n=>by cases hw <;> simp [PV.undr,undrX_aggs]
 have hwc:=hw.still
 have hwk:w.cs.length=1:=by rw [hwc.1]; rfl
 have hwk2:w.cs.all PV.ok=true:=by rw [hwc.1]; simp [hwc.2.1]
 refine e118 (by simp) fun _ _=>?_
 simp only [k118,argEnv,OpK_eq,hwk,hwk2,go_sem]
 refine p175L _ 0 w a b hw rfl ha hb hma hmb fun ver=>?_
 try simp only [go_sem]
 have hsum:a.length+b.length=(a ++ b).length:=by simp
 rw [hsum]
 have hlc:lcode a b=if (a ++ b).all isM=false then 1 else if ¬ (1≤a.length∧a.length≤6) then 2 else if (a ++ b).all (fun r=>decide (r.getD 0 0=(a.getD 0 []).getD 0 0))=false then 2 else 0:=rfl
 generalize hL:a ++ b=l at *
 refine KL_indD k118_b0.eq_1 (fun x:Nat=>[(0,.list (aggs a)),(1,w),(12,.ref 1 ver 0 l.length),(13,.int .i64 l.length),(14,.int .i64 x)]) (fun _=>[.arr 0 24 1 [.list (aggs a),w],.arr ver 48 6 (aggs l)]) (fun x=>x≤l.length∧(l.take x).all isM=true) (fun x=>l.length - x) [0,1,12,13,14] 0 (by rfl) ⟨[],rfl⟩ ⟨Nat.zero_le _,by simp⟩ (fun x hx=>?_) fun x ⟨hx,hall⟩ ih=>?_
 ·refine ⟨Nat.zero_le _,?_,?_⟩
  ·exact Env.undr_upto (by simp [Env.undr,PV.undr,hwu,undrX_aggs])
  ·exact .cons (by simp [AObj.undr,PV.undr,PV.undrX,hwu,undrX_aggs]) (.cons (by simp [AObj.undr,undrX_aggs]) (.nil _))
 try simp only [go_sem]
 refine ⟨fun h1=>⟨by omega,by omega,fun h2=>?_⟩,fun h1=>?_⟩
 ·have h6:=hab _ (List.getElem_mem h2)
  rw [getD_eq h2]
  try simp only [h6,go_sem]
  refine (p65 _ h6).go ?_
  try simp only [go_sem]
  refine ⟨fun h3=>?_,fun h3=>⟨by omega,?_⟩⟩
  ·refine Kv.Fin.still ⟨?_,rfl⟩
   rw [hlc,if_pos (all_false h2 h3)]
  ·refine ih (x+1) ⟨by omega,?_⟩ (by omega) _ _ (by rfl) ⟨[_],rfl⟩
   rw [all_take_succ _ h2,hall,h3]; rfl
 ·obtain rfl:x=l.length:=by omega
  rw [List.take_length] at hall
  have hlc:lcode a b=if ¬ (1≤a.length∧a.length≤6) then 2 else if l.all (fun r=>decide (r.getD 0 0=(a.getD 0 []).getD 0 0))=false then 2 else 0:=by rw [hlc,if_neg (by rw [hall]; simp)]
  refine (p80 _ _ _).go ?_
  try simp only [go_sem]
  refine ⟨fun h2=>Kv.Fin.still ⟨by rw [hlc,if_pos (by omega)],rfl⟩,fun h2=>?_⟩
  have hlc:lcode a b=if l.all (fun r=>decide (r.getD 0 0=(a.getD 0 []).getD 0 0))=false then 2 else 0:=by rw [hlc,if_neg (by omega)]
  try simp only [OpK_eq,hwk,hwk2,go_sem]
  refine p175L _ 2 w a b hw rfl ha hb hma hmb fun ver2=>?_
  rw [hL]
  try simp only [go_sem]
  have h0:0<a.length:=by omega
  have h06:(a.getD 0 []).length=6:=by rw [getD_eq h0]; exact hma _ (List.getElem_mem h0)
  refine KL_indD k118_b1.eq_1 (fun x:Nat=>[(0,.list (aggs a)),(29,.ref 3 ver2 0 l.length),(30,.int .i64 l.length),(31,.int .i64 x)]) (fun _=>[.arr 0 24 1 [.list (aggs a),w],.arr ver 48 6 (aggs l),.arr 0 24 1 [.list (aggs a),w],.arr ver2 48 6 (aggs l)]) (fun x=>x≤l.length∧(l.take x).all (fun r=>decide (r.getD 0 0=(a.getD 0 []).getD 0 0))=true) (fun x=>l.length - x) [0,29,30,31] 0 (by rfl) ⟨[],rfl⟩ ⟨Nat.zero_le _,by simp⟩ (fun x hx=>?_) fun x ⟨hx,hall⟩ ih=>?_
  ·refine ⟨Nat.zero_le _,?_,?_⟩
   ·exact Env.undr_upto (by simp [Env.undr,PV.undr,hwu,undrX_aggs])
   ·exact .cons (by simp [AObj.undr,PV.undr,PV.undrX,hwu,undrX_aggs]) (.cons (by simp [AObj.undr,undrX_aggs]) (.cons (by simp [AObj.undr,PV.undr,PV.undrX,hwu,undrX_aggs]) (.cons (by simp [AObj.undr,undrX_aggs]) (.nil _))))
  try simp only [go_sem]
  refine ⟨fun h1=>⟨by omega,by omega,fun h2=>?_⟩,fun h1=>?_⟩
  ·have h6:=hab _ (List.getElem_mem h2)
   rw [getD_eq h2]
   try simp only [h6,h06,h0,go_sem]
   refine ⟨by omega,fun h3=>?_,fun h3=>⟨by omega,?_⟩⟩
   ·refine Kv.Fin.still ⟨?_,rfl⟩
    rw [hlc,if_pos (all_false h2 (by simpa using h3))]
   ·refine ih (x+1) ⟨by omega,?_⟩ (by omega) _ _ (by rfl) ⟨[_],rfl⟩
    rw [all_take_succ _ h2,hall,h3]; simp
  ·obtain rfl:x=l.length:=by omega
   rw [List.take_length] at hall
   exact Kv.Fin.still ⟨by rw [hlc,if_neg (by rw [hall]; simp)],rfl⟩
def same (l:List (List Int)):Bool:=decide (1≤l.length∧l.length≤6) && l.all fun r=>isM r && decide (r.getD 0 0=(l.getD 0 []).getD 0 0)
theorem p127 (l:List (List Int)) (hl:l.length≤1048576) (hm:∀ r∈l,r.length=6):Pure Tryz.prog 127 [.list (aggs l)] (.bool (same l)):=by
 have hsame:same l=(decide (1≤l.length∧l.length≤6) && l.all fun r=>isM r && decide (r.getD 0 0=(l.getD 0 []).getD 0 0)):=rfl
 refine e127 (by simp) fun _ _=>?_
 simp only [k127,argEnv,go_sem]
 refine ⟨fun h1=>⟨fun h2=>?_,fun h2=>?_⟩,fun h1=>?_⟩
 ·exact Kv.Fin.still ⟨by rw [hsame,decide_eq_false (by omega)]; rfl,rfl⟩
 ·have hsame:same l=l.all fun r=>isM r && decide (r.getD 0 0=(l.getD 0 []).getD 0 0):=by rw [hsame,decide_eq_true (by omega),Bool.true_and]
  have h0:0<l.length:=by omega
  have h06:(l.getD 0 []).length=6:=by rw [getD_eq h0]; exact hm _ (List.getElem_mem h0)
  refine KL_ind k127_b0.eq_1 (fun x:Nat=>[(0,.list (aggs l)),(3,.int .i64 x)]) (fun _=>[]) (fun x=>x≤l.length∧(l.take x).all (fun r=>isM r && decide (r.getD 0 0=(l.getD 0 []).getD 0 0))=true) (fun x=>l.length - x) [0,3] 0 (by rfl) rfl ⟨Nat.zero_le _,by simp⟩ fun x ⟨hx,hall⟩ ih=>?_
  try simp only [go_sem]
  refine ⟨fun h3=>⟨by omega,fun h4=>?_⟩,fun h3=>?_⟩
  ·have h6:=hm _ (List.getElem_mem h4)
   rw [getD_eq h4]
   try simp only [h6,go_sem]
   refine (p178 _ h6).pgo ?_
   cases hM:isM l[x] with
   | false =>
    try simp only [go_sem]
    exact Kv.Fin.still ⟨by rw [hsame,all_false h4 (by simp [hM])],rfl⟩
   | true =>
    try simp only [go_sem]
    refine ⟨by omega,fun h5=>?_⟩
    rw [getD_eq h4]
    try simp only [h6,h06,h0,go_sem]
    refine ⟨by omega,fun h7=>?_,fun h7=>⟨by omega,?_⟩⟩
    ·exact Kv.Fin.still ⟨by rw [hsame,all_false h4 (by simp only [hM,Bool.true_and]; exact decide_eq_false h7)],rfl⟩
    ·refine ih (x+1) ⟨by omega,?_⟩ (by omega) _ _ (by rfl) rfl
     rw [all_take_succ _ h4,hall,hM,h7]; simp
  ·obtain rfl:x=l.length:=by omega
   rw [List.take_length] at hall
   exact Kv.Fin.still ⟨by rw [hsame,hall],rfl⟩
 ·exact Kv.Fin.still ⟨by rw [hsame,decide_eq_false (by omega)]; rfl,rfl⟩
theorem lcode_eq (a b:List (List Int)):lcode a b=if a.all isM=false then 1 else if b.all isM=false then 1 else if same a=false then 2 else if b.all (fun r=>decide (r.getD 0 0=(a.getD 0 []).getD 0 0))=false then 2 else 0:=by
 have h3:a.all isM=true→(a.all fun r=>isM r && decide (r.getD 0 0=(a.getD 0 []).getD 0 0))=a.all fun r=>decide (r.getD 0 0=(a.getD 0 []).getD 0 0):=fun h1=>by
  rw [Bool.eq_iff_iff]
  simp only [List.all_eq_true,Bool.and_eq_true] at h1 ⊢
  exact ⟨fun h r hr=>(h r hr).2,fun h r hr=>⟨h1 r hr,h r hr⟩⟩
 simp only [lcode,List.all_append]
 cases h1:a.all isM
 ·simp only [Bool.false_and,if_true]
 cases h2:b.all isM
 ·simp only [Bool.true_and,if_true,Bool.false_and,reduceCtorEq,if_false]
 have hs:same a=(decide (1≤a.length∧a.length≤6) && a.all fun r=>decide (r.getD 0 0=(a.getD 0 []).getD 0 0)):=by unfold same; rw [h3 h1]
 rw [hs]
 generalize (a.all fun r=>decide (r.getD 0 0=(a.getD 0 []).getD 0 0))=x
 generalize (b.all fun r=>decide (r.getD 0 0=(a.getD 0 []).getD 0 0))=y
 by_cases hc:(1≤a.length∧a.length≤6) <;> cases x <;> cases y <;> simp [hc]
theorem p132n (a:List (List Int)) (ha:a.length≤1048576) (hma:∀ r∈a,r.length=6) :
  Pure Tryz.prog 132 [.list (aggs a),.nils] (.int .i64 (lcode a [])):=by
 rw [lcode_eq]
 refine e132 (by simp) fun _ _=>?_
 simp only [k132,argEnv,go_sem]
 refine KL_ind k132_b0.eq_1 (fun x:Nat=>[(0,.list (aggs a)),(1,.nils),(5,.int .i64 x)]) (fun _=>[]) (fun x=>x≤a.length∧(a.take x).all isM=true) (fun x=>a.length - x) [0,1,5] 0 (by rfl) rfl ⟨Nat.zero_le _,by simp⟩ fun x ⟨hx,hall⟩ ih=>?_
 try simp only [go_sem]
 refine ⟨fun h3=>⟨by omega,fun h4=>?_⟩,fun h3=>?_⟩
 ·have h6:=hma _ (List.getElem_mem h4)
  rw [getD_eq h4]
  try simp only [h6,go_sem]
  refine (p178 _ h6).go ?_
  try simp only [go_sem]
  refine ⟨fun h5=>Kv.Fin.still ⟨by rw [if_pos (all_false h4 h5)],rfl⟩,fun h5=>⟨by omega,?_⟩⟩
  refine ih (x+1) ⟨by omega,?_⟩ (by omega) _ _ (by rfl) rfl
  rw [all_take_succ _ h4,hall,h5]; rfl
 obtain rfl:x=a.length:=by omega
 rw [List.take_length] at hall
 rw [if_neg (by rw [hall]; simp)]
 clear ih
 refine KL_round ?_
 rw [k132_b1.eq_1]
 try simp only [Int.reduceNeg,Int.lt_irrefl,go_sem]
 refine (p127 a ha hma).go ?_
 cases hs:same a with
 | false =>
  try simp only [go_sem]
  exact Kv.Fin.still ⟨by simp,rfl⟩
 | true =>
  try simp only [go_sem]
  refine KL_round ?_
  rw [k132_b2.eq_1]
  try simp only [Int.lt_irrefl,go_sem]
  exact Kv.Fin.still ⟨by simp,rfl⟩
end
end
section
section
set_option maxRecDepth 100000
def k84_b0:KC:=(.seq (.ops [oP 9 (.bin .lss (.t 8) (.t 7))])
 (.seq (.cond (.t 9) .skip (.exit 0))
 (.seq (.block 1 (.seq (.ops [mV 10 8,mV 5 10])
 (.seq (.ops [mV 11 1,mV 12 0,mV 13 5,oP 14 (.idxS 1 (.t 12) (.t 13)),oP 15 (.load false 1 (.t 14)),oP 16 (.bin .eql (.t 11) (.t 15))])
 (.cond (.t 16) (.seq (.ops [mV 17 5,mV 4 17])
 .ret) .skip))))
 (.ops [oP 18 (.bin .add (.t 8) (iC 1)),mV 8 18]))))
def k84:KC:=(.seq (.ops [oP 4 (.mv (iC 0))])
 (.seq (.seq (.ops [mV 6 0,oP 7 (.len false (.t 6)),oP 8 (.mv (iC 0))])
 (.block 0 (.loop k84_b0)))
 (.seq (.ops [oP 4 (.mv (iC (-1)))])
 .ret)))
theorem e84:Ent 84 19 [] [.t 4] k84:=ent Tryz.func84
end
section
attribute [local irreducible] ACall PCall KL
theorem p84 (l:List Int) (k:Int) (hl:l.length≤1048576):Pure Tryz.prog 84 [.list (ints l),.int .i64 k] (.int .i64 (idx (fun y=>decide (k=y)) l)):=by
 refine e84 (by simp) fun _ _=>?_
 simp only [k84,argEnv,go_sem]
 refine KL_ind k84_b0.eq_1 (fun x:Nat=>[(0,.list (ints l)),(1,.int .i64 k),(7,.int .i64 l.length),(8,.int .i64 x)]) (fun _=>[]) (fun x=>x≤l.length∧(l.take x).any (fun y=>decide (k=y))=false) (fun x=>l.length - x) [0,1,7,8] 0 (by rfl) rfl ⟨Nat.zero_le _,by simp⟩ fun x ⟨hx,hall⟩ ih=>?_
 try simp only [go_sem]
 refine ⟨fun h1=>⟨by omega,fun h2=>?_⟩,fun h1=>?_⟩
 ·rw [getD_eq h2]
  refine ⟨fun h3=>?_,fun h3=>⟨by omega,?_⟩⟩
  ·exact Kv.Fin.still ⟨by rw [idx_some h2 hall (by simpa using h3)],rfl⟩
  ·refine ih (x+1) ⟨by omega,?_⟩ (by omega) _ _ (by rfl) rfl
   rw [any_take_succ _ h2,hall,decide_eq_false h3]; rfl
 ·obtain rfl:x=l.length:=by omega
  rw [List.take_length] at hall
  exact Kv.Fin.still ⟨by rw [idx_none hall],rfl⟩
theorem lcode_maps {a:List (List Int)} (h6:∀ r∈a,r.length=6) (h:lcode a []=0):∃ (fs:List (List Nat)) (n:Nat),a=fs.map mp∧(∀ f∈fs,Ok f n)∧1≤fs.length∧fs.length≤6∧(a.getD 0 []).getD 0 0=n∧1≤n∧n≤5:=by
 unfold lcode at h
 rw [List.append_nil] at h
 split at h
 ·omega
 rename_i h1
 split at h
 ·omega
 rename_i h2
 split at h
 ·omega
 rename_i h3
 simp only [Bool.not_eq_false,List.all_eq_true,decide_eq_true_eq] at h1 h3
 have h2':1≤a.length∧a.length≤6:=by omega
 have h0:0<a.length:=by omega
 obtain ⟨f0,n,hf0,e0⟩:=isM_ok (h6 _ (List.getElem_mem h0)) (h1 _ (List.getElem_mem h0))
 have hn:(a.getD 0 []).getD 0 0=n:=by rw [getD_eq h0,e0,mp_get0,hf0.len]
 have key:∀ r∈a,r=mp (um r)∧Ok (um r) n:=fun r hr=>by
  obtain ⟨f,n',hf,e⟩:=isM_ok (h6 r hr) (h1 r hr)
  have h4:=h3 r hr
  rw [hn,e,mp_get0,hf.len] at h4
  obtain rfl:n'=n:=by omega
  rw [e,um_mp]
  exact ⟨rfl,hf⟩
 refine ⟨a.map um,n,?_,?_,by simpa using h2'.1,by simpa using h2'.2,hn,hf0.pos,hf0.le⟩
 ·rw [List.map_map]
  conv=>lhs; rw [← List.map_id a]
  exact List.map_congr_left fun r hr=>by simpa using (key r hr).1
 ·intro f hf
  obtain ⟨r,hr,rfl⟩:=List.mem_map.1 hf
  exact (key r hr).2
theorem map_getD {fs:List (List Nat)} {x:Nat} (h:x<fs.length):(fs.map mp).getD x []=mp fs[x]:=by simp [List.getD_eq_getElem?_getD,h]
theorem map_um (fs:List (List Nat)):(fs.map mp).map um=fs:=by
 rw [List.map_map]
 conv=>rhs; rw [← List.map_id fs]
 exact List.map_congr_left fun f _=>um_mp f
end
end
section
section
attribute [local irreducible] ACall PCall KL
def seqA (k:Int) (n:Nat):List (List Int):=(List.range n).map fun i=>seqI (k+6 * (i:Nat)) 6
@[simp] theorem seqA_length (k:Int) (n:Nat):(seqA k n).length=n:=by simp [seqA]
end
end
end
end Go.Proofs.YtcfmmmloeaggmaaGreat
