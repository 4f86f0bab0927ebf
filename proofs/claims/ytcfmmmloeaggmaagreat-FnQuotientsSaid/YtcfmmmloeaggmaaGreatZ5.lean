/- Several texts of this session as one, less what the claim does not need. -/
import Derived.Test.YtcfmmmloeaggmaaGreatFC
import Derived.Test.YtcfmmmloeaggmaaGreatCb
namespace Go.Proofs.YtcfmmmloeaggmaaGreat
open Go.Kv
set_option linter.unusedVariables false
set_option linter.unusedSimpArgs false
section
section
attribute [local irreducible] ACall PCall KL
def nmA (same:Nat→Nat→Bool):Nat→List Nat × Nat
 | 0=>([],0)
 | i+1=>match (List.range i).find? fun k=>same k i with
  | some k=>((nmA same i).1 ++ [(nmA same i).1.getD k 0],(nmA same i).2)
  | none=>((nmA same i).1 ++ [(nmA same i).2],(nmA same i).2+1)
def nmB (same:Nat→Nat→Bool):Nat→List Nat × List Nat
 | 0=>([],[])
 | i+1=>match (nmB same i).1.findIdx? fun f=>same f i with
  | some c=>((nmB same i).1,(nmB same i).2 ++ [c])
  | none=>((nmB same i).1 ++ [i],(nmB same i).2 ++ [(nmB same i).1.length])
structure Eqv (same:Nat→Nat→Bool) (N:Nat):Prop where
 symm:∀ a b,a<N→b<N→same a b=true→same b a=true
 trans:∀ a b c,a<N→b<N→c<N→same a b=true→same b c=true→same a c=true
structure NmI (same:Nat→Nat→Bool) (i:Nat):Prop where
 len:(nmB same i).2.length=i
 lt:∀ f∈(nmB same i).1,f<i
 own:∀ j,j<i→∃ f,(nmB same i).1[(nmB same i).2.getD j 0]? = some f∧(f=j∨same f j=true)
 dif:∀ (c d f g:Nat),c<d→(nmB same i).1[c]? = some f→(nmB same i).1[d]? = some g→same f g=false
 eqA:(nmA same i).1=(nmB same i).2∧(nmA same i).2=(nmB same i).1.length
theorem nm_step {same:Nat→Nat→Bool} {N i:Nat} (hE:Eqv same N) (hi:i<N) (h:NmI same i):NmI same (i+1):=by
 obtain ⟨h1,h2,h3,h4,h5,h6⟩:=h
 cases hf:(nmB same i).1.findIdx? fun f=>same f i with
 | some c =>
  obtain ⟨c1,c2,c3⟩:=List.findIdx?_eq_some_iff_getElem.1 hf
  have eB:nmB same (i+1)=((nmB same i).1,(nmB same i).2 ++ [c]):=by rw [nmB,hf]
  have hfc:(nmB same i).1[c]<i:=h2 _ (List.getElem_mem c1)
  have hsome:∃ k,(List.range i).find? (fun k=>same k i)=some k:=by
   cases hk:(List.range i).find? fun k=>same k i with
   | some k=>exact ⟨k,rfl⟩
   | none =>
    have:=List.find?_eq_none.1 hk _ (List.mem_range.2 hfc)
    exact absurd c2 this
  obtain ⟨k,hk⟩:=hsome
  have hki:k<i:=List.mem_range.1 (List.mem_of_find?_eq_some hk)
  have hks:same k i=true:=List.find?_some (p:=fun k=>same k i) hk
  have eA:nmA same (i+1)=((nmA same i).1 ++ [(nmA same i).1.getD k 0],(nmA same i).2):=by rw [nmA,hk]
  -- the number of k is c
  have hkc:(nmB same i).2.getD k 0=c:=by
   obtain ⟨f,e1,e2⟩:=h3 k hki
   obtain ⟨d,hd⟩:∃ d,(nmB same i).2.getD k 0=d:=⟨_,rfl⟩
   rw [hd] at e1 ⊢
   have hfl:f<i:=h2 f (List.mem_of_getElem? e1)
   have hfi:same f i=true:=by
    rcases e2 with rfl | e2
    ·exact hks
    ·exact hE.trans f k i (by omega) (by omega) hi e2 hks
   have hcc:(nmB same i).1[c]? = some (nmB same i).1[c]:=List.getElem?_eq_getElem c1
   have hic:=hE.symm _ _ (by omega) hi c2
   rcases Nat.lt_trichotomy d c with hlt | e | hlt
   ·have:=c3 d hlt
    obtain ⟨hdl,e3⟩:=List.getElem?_eq_some_iff.1 e1
    rw [e3] at this
    rw [hfi] at this; simp at this
   ·exact e
   ·have:=h4 c d _ _ hlt hcc e1
    have h7:=hE.trans _ i f (by omega) hi (by omega) c2 (hE.symm f i (by omega) hi hfi)
    rw [h7] at this; cases this
  refine ⟨by rw [eB]; simp [h1],by rw [eB]; exact fun f hf=>by have:=h2 f hf; omega,?_,by rw [eB]; exact h4,?_,?_⟩
  ·rw [eB]
   intro j hj
   by_cases e:j=i
   ·subst e
    refine ⟨(nmB same j).1[c],?_,.inr c2⟩
    have:((nmB same j).2 ++ [c]).getD j 0=c:=by simp [List.getD_eq_getElem?_getD,List.getElem?_append_right,h1]
    show (nmB same j).1[((nmB same j).2 ++ [c]).getD j 0]? = _
    rw [this,List.getElem?_eq_getElem c1]
   ·have:((nmB same i).2 ++ [c]).getD j 0=(nmB same i).2.getD j 0:=by
     rw [List.getD_eq_getElem?_getD,List.getD_eq_getElem?_getD,List.getElem?_append_left (by omega)]
    show ∃ f,(nmB same i).1[((nmB same i).2 ++ [c]).getD j 0]? = some f∧_
    rw [this]
    exact h3 j (by omega)
  ·rw [eA,eB,h5,hkc]
  ·rw [eA,eB]; exact h6
 | none =>
  have hno:=List.findIdx?_eq_none_iff.1 hf
  have eB:nmB same (i+1)=((nmB same i).1 ++ [i],(nmB same i).2 ++ [(nmB same i).1.length]):=by rw [nmB,hf]
  have hk:(List.range i).find? (fun k=>same k i)=none:=by
   rw [List.find?_eq_none]
   intro k hk hks
   have hki:=List.mem_range.1 hk
   obtain ⟨f,e1,e2⟩:=h3 k hki
   have hfm:=List.mem_of_getElem? e1
   have hfl:=h2 f hfm
   have hfi:same f i=true:=by
    rcases e2 with rfl | e2
    ·exact hks
    ·exact hE.trans f k i (by omega) (by omega) hi e2 hks
   have:=hno f hfm
   rw [hfi] at this; simp at this
  have eA:nmA same (i+1)=((nmA same i).1 ++ [(nmA same i).2],(nmA same i).2+1):=by rw [nmA,hk]
  refine ⟨by rw [eB]; simp [h1],by
   rw [eB]
   intro f hf
   rcases List.mem_append.1 hf with hf | hf
   ·have:=h2 f hf; omega
   ·rw [List.mem_singleton] at hf; omega,?_,?_,?_,?_⟩
  ·rw [eB]
   intro j hj
   by_cases e:j=i
   ·subst e
    refine ⟨j,?_,.inl rfl⟩
    have:((nmB same j).2 ++ [(nmB same j).1.length]).getD j 0=(nmB same j).1.length:=by simp [List.getD_eq_getElem?_getD,List.getElem?_append_right,h1]
    show ((nmB same j).1 ++ [j])[((nmB same j).2 ++ [(nmB same j).1.length]).getD j 0]? = _
    rw [this]; simp
   ·have:((nmB same i).2 ++ [(nmB same i).1.length]).getD j 0=(nmB same i).2.getD j 0:=by
     rw [List.getD_eq_getElem?_getD,List.getD_eq_getElem?_getD,List.getElem?_append_left (by omega)]
    obtain ⟨f,e1,e2⟩:=h3 j (by omega)
    refine ⟨f,?_,e2⟩
    show ((nmB same i).1 ++ [i])[((nmB same i).2 ++ [(nmB same i).1.length]).getD j 0]? = _
    rw [this,List.getElem?_append_left (List.getElem?_eq_some_iff.1 e1).1]
    exact e1
  ·rw [eB]
   intro c d f g hcd e1 e2
   have hd:=(List.getElem?_eq_some_iff.1 e2).1
   simp only [List.length_append,List.length_cons,List.length_nil] at hd
   rw [List.getElem?_append_left (by omega)] at e1
   by_cases hdl:d<(nmB same i).1.length
   ·rw [List.getElem?_append_left hdl] at e2
    exact h4 c d f g hcd e1 e2
   ·have e:d=(nmB same i).1.length:=by omega
    subst e
    simp at e2
    subst e2
    have:=hno f (List.mem_of_getElem? e1)
    simpa using this
  ·rw [eA,eB,h5,h6]
  ·rw [eA,eB,h6]; simp
theorem nm_eq {same:Nat→Nat→Bool} {N:Nat} (hE:Eqv same N):∀ i,i≤N→NmI same i
 | 0,_=>⟨rfl,by simp [nmB],fun j hj=>by omega,fun c d f g _ e1=>by simp [nmB] at e1,rfl,rfl⟩
 | i+1,h=>nm_step hE (by omega) (nm_eq hE i (by omega))
end
end
section
section
attribute [local irreducible] ACall PCall KL
def tgC (T:List (List Int)) (a c:Nat):Nat:=((T.getD a []).getD c 0).toNat
def eqC (r:List Int) (i j:Nat):Prop:=r.getD i 0=r.getD j 0
instance (r:List Int) (i j:Nat):Decidable (eqC r i j):=inferInstanceAs (Decidable (r.getD i 0=r.getD j 0))
def fnC (N:Nat) (r s:List Int):Prop:=∀ i j,i<N→j<N→eqC r i j→eqC s i j
structure LeaC (N:Nat) (P:List Int→Prop) (r:List Int):Prop where
 len:r.length=N
 own:P r
 min:∀ s,P s→fnC N r s
def nmC (r:List Int):List Nat:=(nmA (fun i k=>decide (r.getD i 0=r.getD k 0)) r.length).1
theorem find_congrC {α:Type} {p q:α→Bool}:∀ {l:List α},(∀ x∈l,p x=q x)→l.find? p=l.find? q
 | [],_=>rfl
 | x :: l,h=>by
  rw [List.find?_cons,List.find?_cons,h x (by simp),find_congrC fun y hy=>h y (by simp [hy])]
theorem nmA_congr {s s':Nat→Nat→Bool}:∀ n,(∀ k i,k<i→i<n→s k i=s' k i)→nmA s n=nmA s' n
 | 0,_=>rfl
 | i+1,h=>by
  have ih:=nmA_congr i fun k j hk hj=>h k j hk (by omega)
  have e:(List.range i).find? (fun k=>s k i)=(List.range i).find? (fun k=>s' k i):=find_congrC fun k hk=>h k i (List.mem_range.1 hk) (by omega)
  rw [nmA,nmA,ih,e]
theorem nmC_I (r:List Int):NmI (fun i k=>decide (r.getD i 0=r.getD k 0)) r.length :=
 nm_eq (N:=r.length) ⟨fun a b _ _ h=>by simpa using (of_decide_eq_true h).symm,fun a b c _ _ _ h1 h2=>decide_eq_true ((of_decide_eq_true h1).trans (of_decide_eq_true h2))⟩ _ (Nat.le_refl _)
theorem nmC_len (r:List Int):(nmC r).length=r.length:=by
 have h:=nmC_I r
 unfold nmC; rw [h.eqA.1,h.len]
theorem nmC_rel {r:List Int} {i j:Nat} (hi:i<r.length) (hj:j<r.length):(nmC r).getD i 0=(nmC r).getD j 0↔eqC r i j:=by
 have h:=nmC_I r
 unfold nmC
 rw [h.eqA.1]
 obtain ⟨f,e1,e2⟩:=h.own i hi
 obtain ⟨g,e3,e4⟩:=h.own j hj
 have hf:eqC r f i:=by
  rcases e2 with rfl | e2
  ·exact rfl
  ·exact of_decide_eq_true e2
 have hg:eqC r g j:=by
  rcases e4 with rfl | e4
  ·exact rfl
  ·exact of_decide_eq_true e4
 unfold eqC at *
 constructor
 ·intro he
  rw [he,e3] at e1
  cases e1
  exact hf.symm.trans hg
 ·intro he
  rcases Nat.lt_trichotomy ((nmB (fun i k=>decide (r.getD i 0=r.getD k 0)) r.length).2.getD i 0) ((nmB (fun i k=>decide (r.getD i 0=r.getD k 0)) r.length).2.getD j 0) with hlt | e | hlt
  ·have:=of_decide_eq_false (h.dif _ _ _ _ hlt e1 e3)
   exact absurd (hf.trans (he.trans hg.symm)) this
  ·exact e
  ·have:=of_decide_eq_false (h.dif _ _ _ _ hlt e3 e1)
   exact absurd (hg.trans (he.symm.trans hf.symm)) this
theorem nmC_uniq {r s:List Int} (hl:r.length=s.length) (h1:fnC r.length r s) (h2:fnC r.length s r):nmC r=nmC s:=by
 unfold nmC
 rw [← hl]
 congr 1
 refine nmA_congr _ fun k i hk hi=>decide_eq_decide.2 ⟨h1 k i (by omega) hi,h2 k i (by omega) hi⟩
theorem LeaC.uniq {N:Nat} {P:List Int→Prop} {r s:List Int} (h:LeaC N P r) (h':LeaC N P s):nmC r=nmC s :=
 nmC_uniq (h.len.trans h'.len.symm) (by rw [h.len]; exact h.min s h'.own) (by rw [h.len]; exact h'.min r h.own)
open Classical in
noncomputable def lfC (N:Nat) (P:List Int→Prop):List Nat:=if h:∃ r,LeaC N P r then nmC (Classical.choose h) else []
theorem lfC_eq {N:Nat} {P:List Int→Prop} {r:List Int} (h:LeaC N P r):lfC N P=nmC r:=by
 unfold lfC
 rw [dif_pos ⟨r,h⟩]
 exact (Classical.choose_spec (⟨r,h⟩:∃ r,LeaC N P r)).uniq h
theorem lfC_congr {N:Nat} {P Q:List Int→Prop} (h:∀ s,P s↔Q s):lfC N P=lfC N Q:=by
 have:P=Q:=funext fun s=>propext (h s)
 rw [this]
structure TblC (T:List (List Int)) (N:Nat):Prop where
 len:T.length=N
 row:∀ a,a<N→(T.getD a []).length=N
 lt:∀ a c,a<N→c<N→0≤(T.getD a []).getD c 0∧(T.getD a []).getD c 0<N
theorem TblC.tg {T:List (List Int)} {N:Nat} (h:TblC T N) {a c:Nat} (ha:a<N) (hc:c<N):tgC T a c<N∧(T.getD a []).getD c 0=(tgC T a c:Int):=by
 have:=h.lt a c ha hc
 unfold tgC
 omega
def CloC (T:List (List Int)) (N:Nat) (both:Bool) (s:List Int):Prop:=∀ a b c,a<N→b<N→c<N→eqC s a b→eqC s (tgC T a c) (tgC T b c)∧(both=true→eqC s (tgC T c a) (tgC T c b))
def PC (T:List (List Int)) (N:Nat) (both:Bool) (R:Nat→Nat→Prop) (s:List Int):Prop:=CloC T N both s∧∀ i j,i<N→j<N→R i j→eqC s i j
theorem CloC.congr {T:List (List Int)} {N:Nat} (hT:TblC T N) {both:Bool} {s s':List Int} (h:CloC T N both s) (h1:fnC N s s') (h2:fnC N s' s):CloC T N both s':=fun a b c ha hb hc he=>by
 obtain ⟨g1,g2⟩:=h a b c ha hb hc (h2 a b ha hb he)
 exact ⟨h1 _ _ (hT.tg ha hc).1 (hT.tg hb hc).1 g1,fun hh=>h1 _ _ (hT.tg hc ha).1 (hT.tg hc hb).1 (g2 hh)⟩
theorem natDC (l:List Nat) (x:Nat):(l.map fun x:Nat=>(x:Int)).getD x 0=(l.getD x 0:Int):=by
 simp only [List.getD_eq_getElem?_getD,List.getElem?_map]
 cases l[x]? <;> rfl
theorem nmC_fn (r:List Int):fnC r.length r ((nmC r).map fun x:Nat=>(x:Int))∧fnC r.length ((nmC r).map fun x:Nat=>(x:Int)) r:=by
 constructor <;> intro i j hi hj he
 ·unfold eqC
  rw [natDC,natDC,(nmC_rel hi hj).2 he]
 ·unfold eqC at he
  rw [natDC,natDC] at he
  exact (nmC_rel hi hj).1 (by omega)
theorem LeaC.nm {T:List (List Int)} {N:Nat} (hT:TblC T N) {both:Bool} {R:Nat→Nat→Prop} {r:List Int} (h:LeaC N (PC T N both R) r):LeaC N (PC T N both R) ((nmC r).map fun x:Nat=>(x:Int)):=by
 obtain ⟨h1,h2⟩:=nmC_fn r
 rw [h.len] at h1 h2
 refine ⟨by rw [List.length_map,nmC_len,h.len],⟨h.own.1.congr hT h1 h2,fun i j hi hj hr=>h1 i j hi hj (h.own.2 i j hi hj hr)⟩,fun s hs i j hi hj he=>h.min s hs i j hi hj (h2 i j hi hj he)⟩
def jnC (r:List Int) (p q:Int):List Int:=r.map fun x=>if x=q then p else x
theorem jnC_len (r:List Int) (p q:Int):(jnC r p q).length=r.length:=List.length_map _
theorem jnC_get {r:List Int} {p q:Int} {i:Nat} (hi:i<r.length):(jnC r p q).getD i 0=if r.getD i 0=q then p else r.getD i 0:=by
 simp only [jnC,List.getD_eq_getElem?_getD,List.getElem?_map,List.getElem?_eq_getElem hi]; rfl
theorem jnC_up {r:List Int} (p q:Int):fnC r.length r (jnC r p q):=fun i j hi hj he=>by
 unfold eqC at *
 rw [jnC_get hi,jnC_get hj,he]
theorem jnC_eq {r:List Int} {x y:Nat} (hx:x<r.length) (hy:y<r.length):eqC (jnC r (r.getD x 0) (r.getD y 0)) x y:=by
 unfold eqC
 rw [jnC_get hx,jnC_get hy,if_pos rfl]
 split <;> rfl
theorem jnC_min {r s:List Int} (h:fnC r.length r s) {x y:Nat} (hx:x<r.length) (hy:y<r.length) (he:eqC s x y):fnC r.length (jnC r (r.getD x 0) (r.getD y 0)) s:=fun i j hi hj hij=>by
 unfold eqC at hij
 rw [jnC_get hi,jnC_get hj] at hij
 by_cases h1:r.getD i 0=r.getD y 0
 ·have g1:=h i y hi hy h1
  by_cases h2:r.getD j 0=r.getD y 0
  ·exact g1.trans (h j y hj hy h2).symm
  ·rw [if_pos h1,if_neg h2] at hij
   exact g1.trans (he.symm.trans (h x j hx hj hij))
 ·by_cases h2:r.getD j 0=r.getD y 0
  ·have g2:=h j y hj hy h2
   rw [if_neg h1,if_pos h2] at hij
   exact (h i x hi hx hij).trans (he.trans g2.symm)
  ·rw [if_neg h1,if_neg h2] at hij
   exact h i j hi hj hij
def prC (N:Nat):List (Nat × Nat):=(List.range N).flatMap fun i=>(List.range N).map fun j=>(i,j)
theorem prC_mem {N i j:Nat}:(i,j)∈prC N↔i<N∧j<N:=by
 unfold prC
 simp
def mC (N:Nat) (r:List Int):Nat:=((prC N).filter fun p=>!decide (eqC r p.1 p.2)).length
theorem filter_ltC {α:Type} {p q:α→Bool}:∀ {l:List α},(∀ x∈l,p x=true→q x=true)→(l.filter p).length≤(l.filter q).length
 | [],_=>Nat.le_refl _
 | x :: l,h=>by
  have ih:=filter_ltC (l:=l) fun y hy=>h y (by simp [hy])
  have hx:=h x (by simp)
  rw [List.filter_cons,List.filter_cons]
  cases hp:p x with
  | true=>rw [hx hp]; simpa using ih
  | false=>cases hq:q x <;> simp <;> omega
theorem filter_lt1C {α:Type} {p q:α→Bool} {z:α} (hz1:p z=false) (hz2:q z=true):∀ {l:List α},(∀ x∈l,p x=true→q x=true)→z∈l→(l.filter p).length<(l.filter q).length
 | [],_,hz=>by simp at hz
 | x :: l,h,hz=>by
  have hx:=h x (by simp)
  have hle:=filter_ltC (l:=l) fun y hy=>h y (by simp [hy])
  rw [List.filter_cons,List.filter_cons]
  rcases List.mem_cons.1 hz with e | hz
  ·subst e
   rw [hz1,hz2]; simp; omega
  ·have ih:=filter_lt1C hz1 hz2 (l:=l) (fun y hy=>h y (by simp [hy])) hz
   cases hp:p x with
   | true=>rw [hx hp]; simpa using ih
   | false=>cases hq:q x <;> simp <;> omega
theorem mC_lt {N:Nat} {r r':List Int} (h:fnC N r r') {x y:Nat} (hx:x<N) (hy:y<N) (h1:¬ eqC r x y) (h2:eqC r' x y):mC N r'<mC N r:=by
 unfold mC
 refine filter_lt1C (z:=(x,y)) (by simp [h2]) (by simp [h1]) (fun p hp hq=>?_) (prC_mem.2 ⟨hx,hy⟩)
 obtain ⟨i,j⟩:=p
 obtain ⟨hi,hj⟩:=prC_mem.1 hp
 simp only [Bool.not_eq_true',decide_eq_false_iff_not] at hq ⊢
 exact fun he=>hq (h i j hi hj he)
theorem nmC_le (r:List Int):∀ x∈nmC r,x<r.length:=by
 have key:∀ (same:Nat→Nat→Bool) i,(∀ x∈(nmA same i).1,x<i)∧(nmA same i).2≤i∧(nmA same i).1.length=i:=fun same i=>by
  induction i with
  | zero=>exact ⟨by simp [nmA],Nat.le_refl _,rfl⟩
  | succ i ih =>
   obtain ⟨h1,h2,h3⟩:=ih
   rw [nmA]
   split
   ·rename_i k hk
    have hki:k<i:=List.mem_range.1 (List.mem_of_find?_eq_some hk)
    refine ⟨fun x hx=>?_,by show (nmA same i).2≤i+1; omega,by simp [h3]⟩
    rcases List.mem_append.1 hx with hx | hx
    ·have:=h1 x hx; omega
    ·rw [List.mem_singleton] at hx
     subst hx
     have:=h1 ((nmA same i).1.getD k 0) (by rw [List.getD_eq_getElem?_getD,List.getElem?_eq_getElem (by omega)]; exact List.getElem_mem _)
     omega
   ·refine ⟨fun x hx=>?_,by show (nmA same i).2+1≤i+1; omega,by simp [h3]⟩
    rcases List.mem_append.1 hx with hx | hx
    ·have:=h1 x hx; omega
    ·rw [List.mem_singleton] at hx
     omega
 exact (key _ r.length).1
end
end
end Go.Proofs.YtcfmmmloeaggmaaGreat
section
section
namespace Go.Kv
set_option linter.unusedVariables false
set_option linter.unusedSimpArgs false
def mpN (n:Int) (l:List Nat):List Int:=n :: (l.map (fun x:Nat=>(x:Int)) ++ List.replicate (5 - l.length) 0)
def mp (f:List Nat):List Int:=mpN f.length f
theorem mpN_length {n:Int} {l:List Nat} (h:l.length≤5):(mpN n l).length=6:=by simp [mpN]; omega
theorem mpN_get0 (n:Int) (l:List Nat):(mpN n l).getD 0 0=n:=rfl
theorem mpN_get {n:Int} {l:List Nat} (i:Nat):(mpN n l).getD (i+1) 0=(l.getD i 0:Int):=by
 simp only [mpN,List.getD_cons_succ]
 rw [List.getD_eq_getElem?_getD,List.getD_eq_getElem?_getD,List.getElem?_append]
 split
 ·rename_i h
  simp only [List.length_map] at h
  simp [h]
 ·rename_i h
  simp only [List.length_map] at h
  rw [List.getElem?_eq_none (l:=l) (by omega)]
  simp only [List.getElem?_replicate,List.length_map]
  split <;> rfl
theorem mp_get0 (f:List Nat):(mp f).getD 0 0=f.length:=rfl
theorem mp_get {l:List Nat} (i:Nat):(mp l).getD (i+1) 0=(l.getD i 0:Int):=mpN_get i
attribute [go_sem] mpN_get mpN_get0 mp_get mp_get0
theorem mpN_set {n:Int} {l:List Nat} {i v:Nat} (h:i<l.length):(mpN n l).set (i+1) (v:Int)=mpN n (l.set i v):=by
 simp [mpN,List.set_append,h,List.map_set]
theorem mpN_push {n:Int} {l:List Nat} {v:Nat} (h:l.length<5):(mpN n l).set (l.length+1) (v:Int)=mpN n (l ++ [v]):=by
 have e:5 - l.length=(5 - (l.length+1))+1:=by omega
 simp only [mpN,List.set_cons_succ]
 rw [List.set_append_right _ _ (by simp),e,List.replicate_succ]
 simp
theorem mpN_pushI {n:Int} {l:List Nat} {v:Nat} {i:Nat} (hi:i=l.length) (h:l.length<5):(mpN n l).set (i+1) (v:Int)=mpN n (l ++ [v]):=by subst hi; exact mpN_push h
theorem mpN_rep {m:Int} {n:Nat} (h:n≤5):mpN m (List.replicate n 0) = [m,0,0,0,0,0]:=by
 have:n=0∨n=1∨n=2∨n=3∨n=4∨n=5:=by omega
 rcases this with rfl | rfl | rfl | rfl | rfl | rfl <;> rfl
theorem mp_inj {f g:List Nat} (h:mp f=mp g):f=g:=by
 have h0:(mp f).getD 0 0=(mp g).getD 0 0:=by rw [h]
 simp only [mp,mpN_get0] at h0
 have hl:f.length=g.length:=by omega
 apply List.ext_getElem hl
 intro i h1 h2
 have:=congrArg (fun m=>m.getD (i+1) 0) h
 simp only [mp,mpN_get] at this
 simp [List.getD_eq_getElem?_getD,h1,h2] at this
 omega
structure Ok (f:List Nat) (n:Nat):Prop where
 len:f.length=n
 pos:1≤n
 le:n≤5
 lt:∀ x∈f,x<n
theorem Ok.get {f:List Nat} {n i:Nat} (h:Ok f n) (hi:i<n):f.getD i 0<n:=by
 rw [List.getD_eq_getElem?_getD,List.getElem?_eq_getElem (by rw [h.len]; exact hi)]
 exact h.lt _ (List.getElem_mem _)
theorem Ok.get' {f:List Nat} {n:Nat} (h:Ok f n) (i:Nat):f.getD i 0<n:=by
 by_cases hi:i<n
 ·exact h.get hi
 ·rw [List.getD_eq_getElem?_getD,List.getElem?_eq_none (by rw [h.len]; omega)]
  exact h.pos
theorem Ok.mp_eq {f:List Nat} {n:Nat} (h:Ok f n):mp f=mpN n f:=by rw [mp,h.len]
theorem Ok.mp_len {f:List Nat} {n:Nat} (h:Ok f n):(mp f).length=6:=mpN_length (by rw [h.len]; exact h.le)
def mul (f g:List Nat):List Nat:=f.map fun x=>g.getD x 0
@[simp] theorem mul_length (f g:List Nat):(mul f g).length=f.length:=by simp [mul]
theorem mul_get {f g:List Nat} {i:Nat} (h:i<f.length):(mul f g).getD i 0=g.getD (f.getD i 0) 0:=by
 simp [mul,List.getD_eq_getElem?_getD,h]
theorem Ok.mul {f g:List Nat} {n:Nat} (hf:Ok f n) (hg:Ok g n):Ok (mul f g) n:=⟨by rw [mul_length,hf.len],hf.pos,hf.le,fun x hx=>by
 simp only [Kv.mul,List.mem_map] at hx
 obtain ⟨y,hy,rfl⟩:=hx
 exact hg.get (hf.lt y hy)⟩
theorem Ok.idn {n:Nat} (h:1≤n) (h':n≤5):Ok (List.range n) n:=⟨by simp,h,h',fun x hx=>by simpa using hx⟩
theorem ext_getD {f g:List Nat} (hl:f.length=g.length) (h:∀ i,i<f.length→f.getD i 0=g.getD i 0):f=g:=by
 apply List.ext_getElem hl
 intro i h1 h2
 have:=h i h1
 simpa [List.getD_eq_getElem?_getD,h1,h2] using this
theorem range_getD {n i:Nat} (h:i<n):(List.range n).getD i 0=i:=by simp [List.getD_eq_getElem?_getD,h]
theorem mul_assoc {f g h:List Nat} {n:Nat} (hf:Ok f n) (hg:Ok g n) (hh:Ok h n):mul (mul f g) h=mul f (mul g h):=by
 refine ext_getD (by simp) fun i hi=>?_
 simp only [mul_length] at hi
 rw [mul_get (by simpa using hi),mul_get hi,mul_get hi,mul_get (by rw [hg.len]; exact hf.get' i)]
theorem mul_one {f:List Nat} {n:Nat} (hf:Ok f n):mul f (List.range n)=f:=by
 refine ext_getD (by simp) fun i hi=>?_
 simp only [mul_length] at hi
 rw [mul_get hi,range_getD (hf.get' i)]
theorem one_mul {f:List Nat} {n:Nat} (hf:Ok f n):mul (List.range n) f=f:=by
 refine ext_getD (by simp [hf.len]) fun i hi=>?_
 simp only [mul_length,List.length_range] at hi
 rw [mul_get (by simpa using hi),range_getD hi]
def um (m:List Int):List Nat:=((m.drop 1).take (m.getD 0 0).toNat).map Int.toNat
theorem um_mp (f:List Nat):um (mp f)=f:=by
 have h1:(f.map fun x:Nat=>(x:Int)).length=f.length:=by simp
 simp only [um,mp_get0,Int.toNat_natCast]
 simp only [mp,mpN,List.drop_succ_cons,List.drop_zero]
 rw [← h1,List.take_left,List.map_map]
 conv=>rhs; rw [← List.map_id f]
 exact List.map_congr_left fun x _=>by simp
def okP (m:List Int) (i:Nat):Bool:=if (i:Int)<m.getD 0 0 then decide (0≤m.getD (i+1) 0∧m.getD (i+1) 0≤m.getD 0 0 - 1) else decide (m.getD (i+1) 0=0)
def isM (m:List Int):Bool:=decide (1≤m.getD 0 0∧m.getD 0 0≤5) && (List.range 5).all (okP m)
theorem isM_ok {m:List Int} (hl:m.length=6) (h:isM m=true):∃ f n,Ok f n∧m=mp f:=by
 obtain ⟨a,b,c,d,e,g,rfl⟩:∃ a b c d e g,m = [a,b,c,d,e,g]:=by
  match m,hl with
  | [a,b,c,d,e,g],_=>exact ⟨a,b,c,d,e,g,rfl⟩
 simp only [isM,okP,Bool.and_eq_true,decide_eq_true_eq,List.all_eq_true,List.mem_range] at h
 obtain ⟨h0,h1⟩:=h
 have g0:=h1 0 (by omega)
 have g1:=h1 1 (by omega)
 have g2:=h1 2 (by omega)
 have g3:=h1 3 (by omega)
 have g4:=h1 4 (by omega)
 simp only [List.getD_cons_zero,List.getD_cons_succ] at h0 g0 g1 g2 g3 g4
 have hn:a=1∨a=2∨a=3∨a=4∨a=5:=by omega
 rcases hn with rfl | rfl | rfl | rfl | rfl <;> simp at g0 g1 g2 g3 g4
 ·refine ⟨[b.toNat],1,⟨rfl,by omega,by omega,by simp; try omega⟩,?_⟩
  simp [mp,mpN,List.replicate]; first | omega | skip
 ·refine ⟨[b.toNat,c.toNat],2,⟨rfl,by omega,by omega,by simp; try omega⟩,?_⟩
  simp [mp,mpN,List.replicate]; first | omega | skip
 ·refine ⟨[b.toNat,c.toNat,d.toNat],3,⟨rfl,by omega,by omega,by simp; try omega⟩,?_⟩
  simp [mp,mpN,List.replicate]; first | omega | skip
 ·refine ⟨[b.toNat,c.toNat,d.toNat,e.toNat],4,⟨rfl,by omega,by omega,by simp; try omega⟩,?_⟩
  simp [mp,mpN,List.replicate]; first | omega | skip
 ·refine ⟨[b.toNat,c.toNat,d.toNat,e.toNat,g.toNat],5,⟨rfl,by omega,by omega,by simp; try omega⟩,?_⟩
  simp [mp,mpN,List.replicate]; first | omega | skip
end Go.Kv
end
section
namespace Go.Proofs.YtcfmmmloeaggmaaGreat
open Go.Kv
set_option linter.unusedVariables false
set_option linter.unusedSimpArgs false
attribute [local irreducible] ACall PCall KL
theorem all_take_succ {α:Type} (p:α→Bool) {l:List α} {x:Nat} (h:x<l.length):(l.take (x+1)).all p=((l.take x).all p && p l[x]):=by
 rw [List.take_succ_eq_append_getElem h,List.all_append]; simp
theorem getD_eq {α:Type} {l:List α} {x:Nat} (h:x<l.length) (d:α):l.getD x d=l[x]:=by
 rw [List.getD_eq_getElem?_getD,List.getElem?_eq_getElem h]; rfl
def idx {α:Type} (p:α→Bool) (l:List α):Int:=match l.findIdx? p with | some i=>i | none=>-1
theorem idx_none {α:Type} {p:α→Bool} {l:List α} (h:l.any p=false):idx p l = -1:=by
 have:l.findIdx? p=none:=by
  rw [List.findIdx?_eq_none_iff]
  intro x hx
  rw [List.any_eq_false] at h
  simpa using h x hx
 simp [idx,this]
theorem idx_some {α:Type} {p:α→Bool} {l:List α} {x:Nat} (h:x<l.length) (h0:(l.take x).any p=false) (h1:p l[x]=true):idx p l=x:=by
 have:l.findIdx? p=some x:=by
  rw [List.findIdx?_eq_some_iff_getElem]
  refine ⟨h,h1,fun j hj=>?_⟩
  rw [List.any_eq_false] at h0
  have:=h0 l[j] (List.mem_take_iff_getElem.2 ⟨j,by omega,rfl⟩)
  simpa using this
 simp [idx,this]
theorem any_take_succ {α:Type} (p:α→Bool) {l:List α} {x:Nat} (h:x<l.length):(l.take (x+1)).any p=((l.take x).any p || p l[x]):=by
 rw [List.take_succ_eq_append_getElem h,List.any_append]; simp
theorem idx_nonneg {α:Type} (p:α→Bool) (l:List α):decide (0≤idx p l)=l.any p:=by
 cases h:l.any p with
 | false=>rw [idx_none h]; rfl
 | true =>
  unfold idx
  cases hf:l.findIdx? p with
  | none =>
   rw [List.findIdx?_eq_none_iff] at hf
   rw [List.any_eq_true] at h
   obtain ⟨x,hx,hp⟩:=h
   have:=hf x hx
   simp [hp] at this
  | some i=>simp
theorem any_split {α:Type} {p:α→Bool}:∀ {l:List α},l.any p=true→∃ i,∃ h:i<l.length,(l.take i).any p=false∧p l[i]=true
 | a :: l,h=>by
  cases hp:p a with
  | true=>exact ⟨0,by simp,by simp,by simpa using hp⟩
  | false =>
   simp only [List.any_cons,hp,Bool.false_or] at h
   obtain ⟨i,hi,h1,h2⟩:=any_split h
   exact ⟨i+1,by simpa using hi,by simp [hp,h1],by simpa using h2⟩
end Go.Proofs.YtcfmmmloeaggmaaGreat
end
section
namespace Go.Kv
set_option linter.unusedVariables false
set_option linter.unusedSimpArgs false
structure Rw where
 nil:Bool
 id:Nat
 ver:Nat
 pre:List Int
 post:List Int
def Rw.pv (r:Rw) (l:List Int):PV:=if r.nil=true then .nils else .ref r.id r.ver r.pre.length l.length
structure Rw.at (e1:TypeId) (σ:Heap) (r:Rw) (l:List Int):Prop where
 nl:r.nil=true→l = []
 ow:r.nil=false→σ[r.id]? = some (.arr r.ver e1 1 (ints (r.pre ++ l ++ r.post)))
def pvs (rs:List Rw) (t:List (List Int)):List PV:=List.zipWith Rw.pv rs t
theorem pvs_length {rs:List Rw} {t:List (List Int)} (h:rs.length=t.length):(pvs rs t).length=t.length:=by simp [pvs,h]
theorem pvs_get {rs:List Rw} {t:List (List Int)} {i:Nat} {x:PV} (h:(pvs rs t)[i]? = some x):∃ r l,rs[i]? = some r∧t[i]? = some l∧x=r.pv l:=by
 simp only [pvs,List.getElem?_zipWith] at h
 cases hr:rs[i]? with
 | none=>simp [hr] at h
 | some r =>
  cases hl:t[i]? with
  | none=>simp [hr,hl] at h
  | some l=>simp [hr,hl] at h; exact ⟨r,l,rfl,rfl,h.symm⟩
theorem pvs_snoc {rs:List Rw} {t:List (List Int)} (h:rs.length=t.length) (r:Rw) (l:List Int):pvs (rs ++ [r]) (t ++ [l])=pvs rs t ++ [r.pv l]:=by
 simp [pvs,List.zipWith_append h]
theorem pv_cases (r:Rw) (l:List Int):r.pv l = .nils∨∃ a b c d,r.pv l = .ref a b c d:=by
 unfold Rw.pv; split
 ·exact .inl rfl
 ·exact .inr ⟨_,_,_,_,rfl⟩
structure TabG (e2 e1:TypeId) (σ:Heap) (id ver:Nat) (rs:List Rw) (t:List (List Int)):Prop where
 out:∃ junk,σ[id]? = some (.arr ver e2 1 (pvs rs t ++ junk))
 len:rs.length=t.length
 row:∀ (i:Nat) (r:Rw) (l:List Int),rs[i]? = some r→t[i]? = some l→r.at e1 σ l
 nd:∀ (i j:Nat) (r q:Rw),rs[i]? = some r→rs[j]? = some q→r.nil=false→q.nil=false→r.id=q.id→i=j
 ni:∀ r∈rs,r.nil=false→r.id≠id
variable {e2 e1:TypeId} {σ:Heap} {id ver:Nat} {rs:List Rw} {t:List (List Int)}
theorem Rw.at.imm {r:Rw} {l:List Int} (h:r.at e1 σ l):Imm σ (r.pv l) (.list (ints l)):=by
 unfold Rw.pv
 split
 ·rename_i hn; rw [h.nl hn]; exact .nils
 ·rename_i hn; exact .refp (h.ow (by simpa using hn)) rfl rfl
theorem TabG.imm (h:TabG e2 e1 σ id ver rs t) {n:Nat} (hn:n=t.length):Imm σ (.ref id ver 0 n) (.list (rows t)):=by
 subst hn
 obtain ⟨junk,ho⟩:=h.out
 have hpl:=pvs_length h.len
 refine .ref id ver 0 t.length e2 1 (pvs rs t ++ junk) (rows t) ho (by simp [hpl]) (rows_length t) (fun i x d hx hd=>?_) (fun i x d j c c' hx hd hc hc'=>?_)
 all_goals rw [Nat.zero_add] at hx
 all_goals have hi:=(List.getElem?_eq_some_iff.1 hd).1
 all_goals rw [rows_length] at hi
 all_goals rw [List.getElem?_append_left (by rw [hpl]; exact hi)] at hx
 all_goals obtain ⟨r,l,hr,hl,rfl⟩:=pvs_get hx
 all_goals obtain ⟨y,hy,rfl⟩:=rows_get hd
 ·rcases pv_cases r l with e | ⟨a,b,c,d,e⟩ <;> rw [e] <;> exact ⟨rfl,rfl⟩
 ·rw [hl] at hy; cases hy
  have h2:=List.mem_of_getElem? hc'
  simp only [PV.cs,List.mem_singleton] at h2; subst h2
  have h1:c=r.pv l:=by
   have h1:=List.mem_of_getElem? hc
   rcases pv_cases r l with e | ⟨a,b,cc,d,e⟩ <;> rw [e] at h1 ⊢ <;> simpa [PV.cs] using h1
  subst h1
  exact (h.row i r l hr hl).imm
theorem Rw.at.keep {r:Rw} {l:List Int} {σ':Heap} (h:r.at e1 σ l) (hs:r.nil=false→σ'[r.id]? = σ[r.id]?):r.at e1 σ' l:=⟨h.nl,fun hn=>(hs hn).trans (h.ow hn)⟩
theorem TabG.keep (h:TabG e2 e1 σ id ver rs t) {σ':Heap} (h1:σ'[id]? = σ[id]?) (h2:∀ r∈rs,r.nil=false→σ'[r.id]? = σ[r.id]?):TabG e2 e1 σ' id ver rs t where
 out:=by obtain ⟨junk,ho⟩:=h.out; exact ⟨junk,h1.trans ho⟩
 len:=h.len
 row:=fun i r l hr hl=>(h.row i r l hr hl).keep (h2 r (List.mem_of_getElem? hr))
 nd:=h.nd
 ni:=h.ni
theorem TabG.lt (h:TabG e2 e1 σ id ver rs t):id < σ.length∧∀ r∈rs,r.nil=false→r.id < σ.length:=by
 obtain ⟨junk,ho⟩:=h.out
 refine ⟨(List.getElem?_eq_some_iff.1 ho).1,fun r hr hn=>?_⟩
 obtain ⟨i,hi⟩:=List.getElem?_of_mem hr
 have hlt:=(List.getElem?_eq_some_iff.1 hi).1
 have:=h.row i r (t[i]'(h.len ▸ hlt)) hi (List.getElem?_eq_getElem (h.len ▸ hlt))
 exact (List.getElem?_eq_some_iff.1 (this.ow hn)).1
theorem TabG.append (h:TabG e2 e1 σ id ver rs t) (τ:Heap):TabG e2 e1 (σ ++ τ) id ver rs t :=
 h.keep (List.getElem?_append_left h.lt.1) fun r hr hn=>List.getElem?_append_left (h.lt.2 r hr hn)
def Rw.sh (n:Nat) (r:Rw):Rw:={ r with id:=r.id+n }
theorem pv_ren (n:Nat) (r:Rw) (l:List Int):(r.pv l).ren (Kv.sh n)=(r.sh n).pv l:=by
 unfold Rw.pv Rw.sh
 simp only
 split
 ·simp [PV.ren]
 ·simp only [ren_ref,sh_def]
theorem TabG.shift (h:TabG e2 e1 σ id ver rs t) (τ:Heap):TabG e2 e1 (τ ++ σ.map (AObj.ren (Kv.sh τ.length))) (id + τ.length) ver (rs.map (Rw.sh τ.length)) t where
 out:=by
  obtain ⟨junk,ho⟩:=h.out
  refine ⟨junk.map (PV.ren (Kv.sh τ.length)),?_⟩
  rw [List.getElem?_append_right (by omega),Nat.add_sub_cancel,List.getElem?_map,ho]
  simp only [Option.map_some,ren_arr,Option.some.injEq,AObj.arr.injEq,true_and,List.map_append]
  congr 1
  simp only [pvs,List.map_zipWith,List.zipWith_map_left,pv_ren]
 len:=by simp [h.len]
 row:=fun i r l hr hl=>by
  simp only [List.getElem?_map,Option.map_eq_some_iff] at hr
  obtain ⟨q,hq,rfl⟩:=hr
  have:=h.row i q l hq hl
  refine ⟨this.nl,fun hn=>?_⟩
  simp only [Rw.sh]
  rw [List.getElem?_append_right (by omega),Nat.add_sub_cancel,List.getElem?_map,this.ow hn]
  simp only [Option.map_some,ren_arr,ren_ints]
 nd:=fun i j r q hr hq h1 h2 h3=>by
  simp only [List.getElem?_map,Option.map_eq_some_iff] at hr hq
  obtain ⟨r',hr',rfl⟩:=hr
  obtain ⟨q',hq',rfl⟩:=hq
  simp only [Rw.sh] at h1 h2 h3
  exact h.nd i j r' q' hr' hq' h1 h2 (by omega)
 ni:=fun r hr hn=>by
  obtain ⟨q,hq,rfl⟩:=List.mem_map.1 hr
  have:=h.ni q hq hn
  simp only [Rw.sh]; omega
theorem TabG.set (h:TabG e2 e1 σ id ver rs t) {i:Nat} {r:Rw} (hr:rs[i]? = some r) (hn:r.nil=false) {l m:List Int} (hl:t[i]? = some l) (hm:m.length=l.length) :
  TabG e2 e1 (σ.set r.id (.arr r.ver e1 1 (ints (r.pre ++ m ++ r.post)))) id ver rs (t.set i m):=by
 have hit:=(List.getElem?_eq_some_iff.1 hl).1
 have hrl:=h.lt.2 r (List.mem_of_getElem? hr) hn
 have hpv:∀ (q:Rw),q.pv m=q.pv l:=fun q=>by simp [Rw.pv,hm]
 refine ⟨?_,by simp [h.len],fun j q n hq hj=>?_,h.nd,h.ni⟩
 ·obtain ⟨junk,ho⟩:=h.out
  refine ⟨junk,?_⟩
  rw [List.getElem?_set_ne (h.ni r (List.mem_of_getElem? hr) hn),ho]
  congr 3
  apply List.ext_getElem?; intro j
  simp only [pvs,List.getElem?_zipWith,List.getElem?_set]
  by_cases e:i=j
  ·subst e
   simp only [if_pos hit,if_true,hr,hl,hpv]
  ·rw [if_neg e]
 ·by_cases e:i=j
  ·subst e
   rw [hr] at hq; cases hq
   rw [List.getElem?_set_self hit] at hj; cases hj
   exact ⟨fun h=>absurd h (by simp [hn]),fun _=>List.getElem?_set_self hrl⟩
  ·rw [List.getElem?_set_ne e] at hj
   exact (h.row j q n hq hj).keep fun hqn=>List.getElem?_set_ne fun e2=>e (h.nd i j r q hr hq hn hqn e2)
theorem TabG.free (h:∀ o∈σ,AObj.free o):True:=trivial
inductive TabN (e2 e1:TypeId) (σ:Heap):PV→List (List Int)→Prop
 | nil:TabN e2 e1 σ .nils []
 | tab (id ver:Nat) (rs:List Rw) (t:List (List Int)) (h:TabG e2 e1 σ id ver rs t):TabN e2 e1 σ (.ref id ver 0 t.length) t
theorem TabN.imm {v:PV} (h:TabN e2 e1 σ v t):Imm σ v (.list (rows t)):=by
 cases h with
 | nil=>exact .nils
 | tab id ver rs t h=>exact h.imm rfl
theorem TabN.append {v:PV} (h:TabN e2 e1 σ v t) (τ:Heap):TabN e2 e1 (σ ++ τ) v t:=by
 cases h with
 | nil=>exact .nil
 | tab id ver rs t h=>exact .tab id ver rs t (h.append τ)
theorem TabN.shift {v:PV} (h:TabN e2 e1 σ v t) (τ:Heap):TabN e2 e1 (τ ++ σ.map (AObj.ren (Kv.sh τ.length))) (v.ren (Kv.sh τ.length)) t:=by
 cases h with
 | nil=>simp only [ren_nils]; exact .nil
 | tab id ver rs t h=>simp only [ren_ref,sh_def]; exact .tab _ _ _ t (h.shift τ)
theorem TabN.push {v:PV} (h:TabN e2 e1 σ v t) {τ:Heap} {l:List Int} {r:Rw} (hr:r.at e1 (σ ++ τ) l) (hge:r.nil=false→σ.length≤r.id) (hn:t.length<4294967296) {K:PV→Heap→Prop}
  (hK:∀ v' σ',TabN e2 e1 σ' v' (t ++ [l])→(∀ o∈σ',o∈σ ++ τ∨∃ ver rs,o = .arr ver e2 1 (pvs rs (t ++ [l])))→K v' σ'):aApp e2 1 v (.list [r.pv l]) (σ ++ τ) K:=by
 have hok:okL 1 [r.pv l]:=by
  rcases pv_cases r l with e | ⟨a,b,c,d,e⟩ <;> rw [e] <;> simp [okL,PV.cs,PV.ok]
 cases h with
 | nil =>
  rw [aApp_nils,aNews_list,AppN_def]
  refine ⟨hok,by simp,?_⟩
  refine hK _ _ (.tab (σ ++ τ).length 0 [r] [l] ⟨⟨[],by simp [pvs]⟩,rfl,fun i q m hq hm=>?_,fun i j q p hq hp _ _ _=>?_,fun q hq hqn=>?_⟩) (fun o ho=>?_)
  ·cases i with
   | zero =>
    simp at hq hm; subst hq; subst hm
    exact hr.keep fun hrn=>List.getElem?_append_left (List.getElem?_eq_some_iff.1 (hr.ow hrn)).1
   | succ i=>simp at hq
  ·have h1:=(List.getElem?_eq_some_iff.1 hq).1
   have h2:=(List.getElem?_eq_some_iff.1 hp).1
   simp at h1 h2; omega
  ·simp at hq; subst hq
   have:=(List.getElem?_eq_some_iff.1 (hr.ow hqn)).1
   omega
  ·rcases List.mem_append.1 ho with ho | ho
   ·exact .inl ho
   ·simp at ho; subst ho; exact .inr ⟨0,[r],by simp [pvs]⟩
 | tab id ver rs t h =>
  obtain ⟨junk,ho⟩:=(h.append τ).out
  have hpl:=pvs_length h.len
  have hlt:=h.lt
  have hid:id<(σ ++ τ).length:=by simp; omega
  rw [aApp_ref,ho,AppR_arr,aNews_list,AppM_def]
  refine ⟨hok,⟨rfl,rfl,rfl,rfl,by simp [hpl],by simp; omega⟩,?_⟩
  have hself:∀ o,((σ ++ τ).set id o)[id]? = some o:=fun o=>List.getElem?_set_self hid
  have ht:t.length + [r.pv l].length=(t ++ [l]).length:=by simp
  have htk:(pvs rs t ++ junk).take t.length ++ [r.pv l]=pvs (rs ++ [r]) (t ++ [l]):=by
   rw [pvs_snoc h.len,← hpl,List.take_left]
  rw [ht,htk]
  refine hK _ _ (.tab id (ver+1) (rs ++ [r]) (t ++ [l]) ⟨⟨[],?_⟩,by simp [h.len],fun i q m hq hm=>?_,fun i j q p hq hp h1 h2 h3=>?_,fun q hq hqn=>?_⟩) (fun o ho=>?_)
  ·rw [hself,List.append_nil]
  ·rw [List.getElem?_append] at hq hm
   split at hq
   ·rename_i hi
    rw [if_pos (by rw [← h.len]; exact hi)] at hm
    exact ((h.append τ).row i q m hq hm).keep fun hqn=>List.getElem?_set_ne (Ne.symm (h.ni q (List.mem_of_getElem? hq) hqn))
   ·rename_i hi
    rw [if_neg (by rw [← h.len]; exact hi)] at hm
    have e1:=List.mem_of_getElem? hq
    have e2:=List.mem_of_getElem? hm
    simp at e1 e2; subst e1; subst e2
    exact hr.keep fun hrn=>List.getElem?_set_ne (by have:=hge hrn; omega)
  ·rw [List.getElem?_append] at hq hp
   have hlast:∀ (k:Nat) (x:Rw),¬ k<rs.length→[r][k - rs.length]? = some x→x=r∧k=rs.length:=fun k x hk hx=>by
    have h5:=(List.getElem?_eq_some_iff.1 hx).1
    have h4:=List.mem_of_getElem? hx
    simp at h4 h5
    exact ⟨h4,by omega⟩
   split at hq <;> split at hp
   ·exact h.nd i j q p hq hp h1 h2 h3
   ·rename_i hj
    obtain ⟨rfl,_⟩:=hlast j p hj hp
    have:=hlt.2 q (List.mem_of_getElem? hq) h1
    have:=hge h2
    omega
   ·rename_i hi _
    obtain ⟨rfl,_⟩:=hlast i q hi hq
    have:=hlt.2 p (List.mem_of_getElem? hp) h2
    have:=hge h1
    omega
   ·rename_i hi hj
    obtain ⟨_,rfl⟩:=hlast i q hi hq
    obtain ⟨_,rfl⟩:=hlast j p hj hp
    rfl
  ·rcases List.mem_append.1 hq with hq | hq
   ·exact h.ni q hq hqn
   ·simp at hq; subst hq
    have:=hge hqn
    omega
  ·rcases List.mem_or_eq_of_mem_set ho with ho | rfl
   ·exact .inl ho
   ·exact .inr ⟨_,_,rfl⟩
theorem TabN.empty:TabN e2 e1 [.arr 0 e2 1 []] (.ref 0 0 0 0) []:=.tab 0 0 [] [] ⟨⟨[],rfl⟩,rfl,fun i r l h=>by simp at h,fun i j r q h=>by simp at h,fun r h=>by simp at h⟩
def Free (σ:Heap):Prop:=∀ o∈σ,AObj.free o
theorem Free.nil:Free []:=fun o h=>by simp at h
theorem Free.append {σ τ:Heap} (h:Free σ) (h':Free τ):Free (σ ++ τ):=fun o ho=>by
 rcases List.mem_append.1 ho with ho | ho
 ·exact h o ho
 ·exact h' o ho
theorem free_ints {v:Nat} {e:TypeId} {s:Nat} (l:List Int):AObj.free (.arr v e s (ints l)):=fun c hc=>by
 rw [flat_ints] at hc; exact (Plain.ints _ c hc).fr
theorem Free.ints (v:Nat) (e:TypeId) (s:Nat) (l:List Int):Free [.arr v e s (Kv.ints l)]:=fun o ho=>by
 simp at ho; subst ho; exact free_ints l
theorem Free.empty (v:Nat) (e:TypeId) (s:Nat):Free [.arr v e s []]:=fun o ho=>by
 simp at ho; subst ho; intro c hc; simp [flat] at hc
theorem free_pvs {v:Nat} {e:TypeId} {s:Nat} (rs:List Rw) (t:List (List Int)):AObj.free (.arr v e s (pvs rs t)):=fun c hc=>by
 obtain ⟨x,hx,hcx⟩:=List.mem_flatMap.1 hc
 obtain ⟨i,hi⟩:=List.getElem?_of_mem hx
 obtain ⟨r,l,_,_,rfl⟩:=pvs_get hi
 rcases pv_cases r l with e | ⟨a,b,cc,d,e⟩ <;> rw [e] at hcx <;> simp [PV.cs] at hcx <;> subst hcx
 ·exact Plain.nils.fr
 ·exact free_ref _ _ _ _
theorem TabN.pushNew {v:PV} (h:TabN e2 e1 σ v t) (hf:Free σ) {l pre post:List Int} {vr n o:Nat} (hl:n=l.length) (ho:o=pre.length) (hn:t.length<4294967296) {K:PV→Heap→Prop}
  (hK:∀ v' σ',TabN e2 e1 σ' v' (t ++ [l])→Free σ'→K v' σ'):aApp e2 1 v (.list [.ref σ.length vr o n]) (σ ++ [.arr vr e1 1 (ints (pre ++ l ++ post))]) K:=by
 subst hl; subst ho
 refine h.push (r:=⟨false,σ.length,vr,pre,post⟩) (l:=l) ⟨fun h=>(by cases h),fun _=>(by simp)⟩ (fun _=>Nat.le_refl _) hn (fun v' σ' h1 h2=>hK v' σ' h1 fun o ho=>?_)
 rcases h2 o ho with ho | ⟨ver,rs,rfl⟩
 ·exact (hf.append (.ints _ _ _ _)) o ho
 ·exact free_pvs rs _
theorem TabN.pushRow {v:PV} (h:TabN e2 e1 σ v t) (hf:Free σ) (l:List Int) {vr n:Nat} (hl:n=l.length) (hn:t.length<4294967296) {K:PV→Heap→Prop}
  (hK:∀ v' σ',TabN e2 e1 σ' v' (t ++ [l])→Free σ'→K v' σ'):aApp e2 1 v (.list [.ref σ.length vr 0 n]) (σ ++ [.arr vr e1 1 (ints l)]) K:=by
 have:=h.pushNew hf (l:=l) (pre:=[]) (post:=[]) (vr:=vr) (o:=0) hl rfl hn hK
 simpa only [List.nil_append,List.append_nil] using this
theorem ACall.ret {P:Program} {f:FuncId} {args:List PV} {K K':PV→Heap→Prop} (h:ACall P f args [] K) (hk:∀ v s,K v s→Fin 0 K' v s):ACall P f args [] K' :=
 ⟨h.1,fun φ ι w vs hr ho=>(h.2 φ ι w vs hr ho).mono fun e w' ⟨v,v',φ',ι',σ',h1,h2,h3,h4,h5⟩=>by
  obtain ⟨u,s,hret,hK⟩:=hk v σ' h5
  obtain ⟨φ2,ι2,g1,g2,g3⟩:=hret φ' ι' w' v' (Nat.zero_le _) h4 h2
  exact ⟨u,v',φ2,ι2,s,h1,g3,h3.trans g1,g2,hK⟩⟩
def NewTN (P:Program) (f:FuncId) (args:List PV) (e2 e1:TypeId) (T:List (List Int)) (r:Int):Prop :=
 ACall P f args [] fun v s=>∃ x,v = .tup [x,.int .i64 r]∧TabN e2 e1 s x T∧Free s
theorem TabN.up {v:PV} (h:TabN e2 e1 σ v t):v.free:=by
 cases h with
 | nil=>exact Plain.nils.fr
 | tab id ver rs t h=>exact free_ref _ _ _ _
theorem NewTN.call {P:Program} {f:FuncId} {args:List PV} {T:List (List Int)} {r:Int} (h:NewTN P f args e2 e1 T r) {σ:Heap} {K:PV→Heap→Prop} [ha:StillL args]
  (hk:∀ (x:PV) (s:Heap),(∀ τ,TabN e2 e1 (σ ++ s ++ τ) x T)→(x = .nils∨∃ id ver rs,x = .ref id ver 0 T.length∧σ.length≤id∧(∀ r∈rs,r.nil=false→σ.length≤r.id)∧TabG e2 e1 (σ ++ s) id ver rs T)→K (.tup [x,.int .i64 r]) (σ ++ s)):ACall P f args σ K:=by
 refine ACall.frame h ha.up fun v s ⟨x,hv,hT,_⟩=>?_
 subst hv
 have h1:=hT.shift σ
 have:=hk (x.ren (Kv.sh σ.length)) (s.map (AObj.ren (Kv.sh σ.length))) (fun τ=>h1.append τ) (by
  cases hT with
  | nil=>exact .inl (by simp only [ren_nils])
  | tab id ver rs t h =>
   refine .inr ⟨id + σ.length,ver,rs.map (Rw.sh σ.length),by simp only [ren_ref,sh_def],by omega,fun r hr hn=>?_,h.shift σ⟩
   obtain ⟨q,_,rfl⟩:=List.mem_map.1 hr
   simp [Rw.sh])
 simpa only [ren_tup,ren_int,List.map_cons,List.map_nil] using this
theorem NewTN.lend {P:Program} {f:FuncId} {args args':List PV} {T:List (List Int)} {r:Int} (h:NewTN P f args' e2 e1 T r) {σ:Heap} {K:PV→Heap→Prop} (ha:ImmL σ args args')
  (hk:∀ (x:PV) (s:Heap),(∀ τ,TabN e2 e1 (σ ++ s ++ τ) x T)→(x = .nils∨∃ id ver rs,x = .ref id ver 0 T.length∧σ.length≤id∧(∀ r∈rs,r.nil=false→σ.length≤r.id)∧TabG e2 e1 (σ ++ s) id ver rs T)→K (.tup [x,.int .i64 r]) (σ ++ s)):ACall P f args σ K:=by
 refine ACall.lend h ha fun v s ⟨x,hv,hT,hf⟩=>?_
 subst hv
 refine ⟨⟨free_tup fun c hc=>?_,hf⟩,?_⟩
 ·simp only [List.mem_cons,List.not_mem_nil,or_false] at hc
  rcases hc with rfl | rfl
  ·exact hT.up
  ·exact (Plain.int _ _).fr
 ·have h1:=hT.shift σ
  have:=hk (x.ren (Kv.sh σ.length)) (s.map (AObj.ren (Kv.sh σ.length))) (fun τ=>h1.append τ) (by
   cases hT with
   | nil=>exact .inl (by simp only [ren_nils])
   | tab id ver rs t h =>
    refine .inr ⟨id + σ.length,ver,rs.map (Rw.sh σ.length),by simp only [ren_ref,sh_def],by omega,fun r hr hn=>?_,h.shift σ⟩
    obtain ⟨q,_,rfl⟩:=List.mem_map.1 hr
    simp [Rw.sh])
  simpa only [ren_tup,ren_int,List.map_cons,List.map_nil] using this
end Go.Kv
end
section
namespace Go.Proofs.YtcfmmmloeaggmaaGreat
open Go.Kv
set_option maxRecDepth 100000
def k71:KC:=(.seq (.ops [oP 6 (.mv (.c (.bool false)))])
 (.seq (.ops [mV 7 0,mV 8 1,oP 9 (.bin .geq (.t 7) (.t 8)),mV 10 9,⟨(some 11),some (10,true),.mv (.t 0)⟩,⟨(some 12),some (10,true),.mv (.t 2)⟩,⟨(some 13),some (10,true),.bin .leq (.t 11) (.t 12)⟩,oP 14 (.pick (.t 10) (.t 13) (.c (.bool false))),mV 6 14])
 .ret))
theorem e71:Ent 71 15 [] [.t 6] k71:=ent Tryz.func71
def k80:KC:=(.seq (.ops [oP 6 (.mv (.c (.bool false)))])
 (.seq (.ops [mV 7 0,mV 8 1,oP 9 (.bin .geq (.t 7) (.t 8)),mV 10 9,⟨(some 11),some (10,true),.mv (.t 0)⟩,⟨(some 12),some (10,true),.mv (.t 2)⟩,⟨(some 13),some (10,true),.bin .leq (.t 11) (.t 12)⟩,oP 14 (.pick (.t 10) (.t 13) (.c (.bool false))),mV 6 14])
 .ret))
theorem e80:Ent 80 15 [] [.t 6] k80:=ent Tryz.func80
end Go.Proofs.YtcfmmmloeaggmaaGreat
namespace Go.Proofs.YtcfmmmloeaggmaaGreat
open Go.Kv
set_option linter.unusedVariables false
set_option linter.unusedSimpArgs false
attribute [local irreducible] ACall PCall KL
theorem p71 (a b c:Int):Pure Tryz.prog 71 [.int .i64 a,.int .i64 b,.int .i64 c] (.bool (decide (b≤a∧a≤c))):=by
 refine e71 (by simp) fun _ _=>?_
 simp only [k71,argEnv,go_sem,↓reduceIte,Nat.reduceEqDiff,Nat.reduceAdd,reduceCtorEq]
 by_cases h:b≤a <;> simp only [h,true_and,false_and,decide_false,true_implies,not_true_eq_false,false_implies,and_true,not_false_eq_true] <;> exact Kv.Fin.now ⟨rfl,rfl⟩
theorem p80 (a b c:Int):Pure Tryz.prog 80 [.int .i64 a,.int .i64 b,.int .i64 c] (.bool (decide (b≤a∧a≤c))):=by
 refine e80 (by simp) fun _ _=>?_
 simp only [k80,argEnv,go_sem,↓reduceIte,Nat.reduceEqDiff,Nat.reduceAdd,reduceCtorEq]
 by_cases h:b≤a <;> simp only [h,true_and,false_and,decide_false,true_implies,not_true_eq_false,false_implies,and_true,not_false_eq_true] <;> exact Kv.Fin.now ⟨rfl,rfl⟩
end Go.Proofs.YtcfmmmloeaggmaaGreat
end
section
namespace Go.Kv
def mk (m:Nat) (f:Nat→Int):List Int:=(List.range m).map f
@[go_sem,simp] theorem mk_length (m:Nat) (f:Nat→Int):(mk m f).length=m:=by simp [mk]
theorem mk_succ (m:Nat) (f:Nat→Int):mk (m+1) f=mk m f ++ [f m]:=by simp [mk,List.range_succ]
@[go_sem] theorem get_last (σ:Heap) (a:AObj):(σ ++ [a])[σ.length]? = some a:=by simp
@[go_sem] theorem set_last (σ:Heap) (a b:AObj):(σ ++ [a]).set σ.length b = σ ++ [b]:=by simp
theorem all_range_succ (p:Nat→Bool) (n:Nat):(List.range (n+1)).all p=((List.range n).all p && p n):=by simp [List.range_succ,List.all_append]
theorem not_range {p:Nat→Bool} {n x:Nat} (h:x<n) (hp:p x=false):(List.range n).all p=false:=by
 rw [List.all_eq_false]; exact ⟨x,by simpa using h,by simp [hp]⟩
end Go.Kv
end
section
namespace Go.Proofs.YtcfmmmloeaggmaaGreat
open Go.Kv
set_option maxRecDepth 100000
def k178_b0:KC:=(.seq (.seq (.ops [mV 8 3,oP 9 (.bin .lss (.t 8) (iC 5))])
 (.cond (.t 9) .skip (.exit 0)))
 (.seq (.block 1 (.seq (.draw [mV 12 3,oP 13 (.fieldA 0 (.t 1)),oP 14 (.load false 1 (.t 13)),oP 15 (.bin .lss (.t 12) (.t 14)),mV 16 15,⟨(some 17),some (16,true),.mv (.t 3)⟩,⟨(some 18),some (16,true),.fieldA 1 (.t 1)⟩,⟨(some 19),some (16,true),.idxA 5 1 (.t 18) (.t 17)⟩,⟨(some 20),some (16,true),.load false 1 (.t 19)⟩,⟨(some 21),some (16,true),.fieldA 0 (.t 1)⟩,⟨(some 22),some (16,true),.load false 1 (.t 21)⟩,⟨(some 23),some (16,true),.bin .sub (.t 22) (iC 1)⟩,⟨(some 24),some (16,true),.pcall (fC 71) [(.t 20),(iC 0),(.t 23)]⟩,⟨(some 25),some (16,true),.not (.t 24)⟩,oP 26 (.pick (.t 16) (.t 25) (.c (.bool false))),mV 27 26,⟨(some 28),some (27,false),.mv (.t 3)⟩,⟨(some 29),some (27,false),.fieldA 0 (.t 1)⟩,⟨(some 30),some (27,false),.load false 1 (.t 29)⟩,⟨(some 31),some (27,false),.bin .geq (.t 28) (.t 30)⟩,⟨(some 32),some (27,false),.mv (.t 31)⟩,⟨(some 33),some (32,true),.mv (.t 3)⟩,⟨(some 34),some (32,true),.fieldA 1 (.t 1)⟩,⟨(some 35),some (32,true),.idxA 5 1 (.t 34) (.t 33)⟩,⟨(some 36),some (32,true),.load false 1 (.t 35)⟩,⟨(some 37),some (32,true),.bin .neq (.t 36) (iC 0)⟩,⟨(some 38),some (27,false),.pick (.t 32) (.t 37) (.c (.bool false))⟩,oP 39 (.pick (.t 27) (.c (.bool true)) (.t 38))])
 (.cond (.t 39) (.seq (.ops [oP 2 (.mv (.c (.bool false)))])
 .ret) .skip)))
 (.ops [mV 10 3,oP 11 (.bin .add (.t 10) (iC 1)),mV 3 11])))
def k178:KC:=(.seq (.ops [oP 1 (.box true (.t 0)),oP 2 (.mv (.c (.bool false)))])
 (.seq (.seq (.ops [oP 4 (.fieldA 0 (.t 1)),oP 5 (.load false 1 (.t 4)),oP 6 (.call (fC 71) [(.t 5),(iC 1),(iC 5)]),oP 7 (.not (.t 6))])
 (.cond (.t 7) (.seq (.ops [oP 2 (.mv (.c (.bool false)))])
 .ret) .skip))
 (.seq (.seq (.ops [oP 3 (.mv (iC 0))])
 (.block 0 (.loop k178_b0)))
 (.seq (.ops [oP 2 (.mv (.c (.bool true)))])
 .ret))))
theorem e178:Ent 178 40 [1] [.t 2] k178:=ent Tryz.func178
def k65_b0:KC:=(.seq (.ops [oP 12 (.bin .lss (.t 11) (iC 5))])
 (.seq (.cond (.t 12) .skip (.exit 0))
 (.seq (.block 1 (.seq (.ops [mV 13 11,oP 14 (.idxV 5 1 false (.t 10) (.t 11)),mV 3 13,mV 4 14])
 (.seq (.ops [mV 15 3,oP 16 (.fieldA 0 (.t 1)),oP 17 (.load false 1 (.t 16)),oP 18 (.bin .lss (.t 15) (.t 17)),mV 19 18,⟨(some 20),some (19,true),.mv (.t 4)⟩,⟨(some 21),some (19,true),.fieldA 0 (.t 1)⟩,⟨(some 22),some (19,true),.load false 1 (.t 21)⟩,⟨(some 23),some (19,true),.bin .sub (.t 22) (iC 1)⟩,⟨(some 24),some (19,true),.call (fC 80) [(.t 20),(iC 0),(.t 23)]⟩,⟨(some 25),some (19,true),.not (.t 24)⟩,oP 26 (.pick (.t 19) (.t 25) (.c (.bool false))),mV 27 26,⟨(some 28),some (27,false),.mv (.t 3)⟩,⟨(some 29),some (27,false),.fieldA 0 (.t 1)⟩,⟨(some 30),some (27,false),.load false 1 (.t 29)⟩,⟨(some 31),some (27,false),.bin .geq (.t 28) (.t 30)⟩,⟨(some 32),some (27,false),.mv (.t 31)⟩,⟨(some 33),some (32,true),.mv (.t 4)⟩,⟨(some 34),some (32,true),.bin .neq (.t 33) (iC 0)⟩,⟨(some 35),some (27,false),.pick (.t 32) (.t 34) (.c (.bool false))⟩,oP 36 (.pick (.t 27) (.c (.bool true)) (.t 35))])
 (.cond (.t 36) (.seq (.ops [oP 2 (.mv (.c (.bool false)))])
 .ret) .skip))))
 (.ops [oP 37 (.bin .add (.t 11) (iC 1)),mV 11 37]))))
def k65:KC:=(.seq (.ops [oP 1 (.box true (.t 0)),oP 2 (.mv (.c (.bool false)))])
 (.seq (.seq (.ops [oP 5 (.fieldA 0 (.t 1)),oP 6 (.load false 1 (.t 5)),oP 7 (.call (fC 80) [(.t 6),(iC 1),(iC 5)]),oP 8 (.not (.t 7))])
 (.cond (.t 8) (.seq (.ops [oP 2 (.mv (.c (.bool false)))])
 .ret) .skip))
 (.seq (.seq (.ops [oP 9 (.fieldA 1 (.t 1)),oP 10 (.load true 5 (.t 9)),oP 11 (.mv (iC 0))])
 (.block 0 (.loop k65_b0)))
 (.seq (.ops [oP 2 (.mv (.c (.bool true)))])
 .ret))))
theorem e65:Ent 65 38 [1] [.t 2] k65:=ent Tryz.func65
def k136_b0:KC:=(.seq (.seq (.ops [mV 7 4,mV 8 0,oP 9 (.bin .lss (.t 7) (.t 8))])
 (.cond (.t 9) .skip (.exit 0)))
 (.seq (.block 1 (.ops [mV 12 4,mV 13 4,oP 14 (.fieldA 1 (.t 3)),oP 15 (.idxA 5 1 (.t 14) (.t 12)),⟨none,none,.store 1 (.t 15) (.t 13)⟩]))
 (.ops [mV 10 4,oP 11 (.bin .add (.t 10) (iC 1)),mV 4 11])))
def k136:KC:=(.seq (.ops [oP 2 (.alloc [.int .i64 0,.int .i64 0,.int .i64 0,.int .i64 0,.int .i64 0,.int .i64 0])])
 (.seq (.ops [mV 5 0,oP 6 (.build [.int .i64 0,.int .i64 0,.int .i64 0,.int .i64 0,.int .i64 0,.int .i64 0] [(0,1,(.t 5))]),oP 3 (.alloc [.int .i64 0,.int .i64 0,.int .i64 0,.int .i64 0,.int .i64 0,.int .i64 0]),⟨none,none,.store 6 (.t 3) (.t 6)⟩])
 (.seq (.seq (.ops [oP 4 (.mv (iC 0))])
 (.block 0 (.loop k136_b0)))
 (.seq (.ops [oP 16 (.load true 6 (.t 3)),⟨none,none,.store 6 (.t 2) (.t 16)⟩])
 .ret))))
theorem e136:Ent 136 17 [] [.cell 2 true 6] k136:=ent Tryz.func136
def k137_b0:KC:=(.seq (.seq (.ops [mV 10 6,oP 11 (.fieldA 0 (.t 2)),oP 12 (.load false 1 (.t 11)),oP 13 (.bin .lss (.t 10) (.t 12))])
 (.cond (.t 13) .skip (.exit 0)))
 (.seq (.block 1 (.ops [mV 16 6,mV 17 6,oP 18 (.fieldA 1 (.t 2)),oP 19 (.idxA 5 1 (.t 18) (.t 17)),oP 20 (.load false 1 (.t 19)),oP 21 (.fieldA 1 (.t 3)),oP 22 (.idxA 5 1 (.t 21) (.t 20)),oP 23 (.load false 1 (.t 22)),oP 24 (.fieldA 1 (.t 5)),oP 25 (.idxA 5 1 (.t 24) (.t 16)),⟨none,none,.store 1 (.t 25) (.t 23)⟩]))
 (.ops [mV 14 6,oP 15 (.bin .add (.t 14) (iC 1)),mV 6 15])))
def k137:KC:=(.seq (.ops [oP 2 (.box true (.t 0)),oP 3 (.box true (.t 1)),oP 4 (.alloc [.int .i64 0,.int .i64 0,.int .i64 0,.int .i64 0,.int .i64 0,.int .i64 0])])
 (.seq (.ops [oP 7 (.fieldA 0 (.t 2)),oP 8 (.load false 1 (.t 7)),oP 9 (.build [.int .i64 0,.int .i64 0,.int .i64 0,.int .i64 0,.int .i64 0,.int .i64 0] [(0,1,(.t 8))]),oP 5 (.alloc [.int .i64 0,.int .i64 0,.int .i64 0,.int .i64 0,.int .i64 0,.int .i64 0]),⟨none,none,.store 6 (.t 5) (.t 9)⟩])
 (.seq (.seq (.ops [oP 6 (.mv (iC 0))])
 (.block 0 (.loop k137_b0)))
 (.seq (.ops [oP 26 (.load true 6 (.t 5)),⟨none,none,.store 6 (.t 4) (.t 26)⟩])
 .ret))))
theorem e137:Ent 137 27 [2,3] [.cell 4 true 6] k137:=ent Tryz.func137
def k124_b0:KC:=(.seq (.ops [oP 9 (.bin .lss (.t 8) (.t 7))])
 (.seq (.cond (.t 9) .skip (.exit 0))
 (.seq (.block 1 (.seq (.ops [mV 10 8,mV 5 10])
 (.ops [mV 11 5,mV 12 5,oP 13 (.fieldA 1 (.t 2)),oP 14 (.idxA 5 1 (.t 13) (.t 12)),oP 15 (.load false 1 (.t 14)),oP 16 (.fieldA 1 (.t 3)),oP 17 (.idxA 5 1 (.t 16) (.t 15)),oP 18 (.load false 1 (.t 17)),oP 19 (.fieldA 1 (.t 2)),oP 20 (.idxA 5 1 (.t 19) (.t 11)),⟨none,none,.store 1 (.t 20) (.t 18)⟩])))
 (.ops [oP 21 (.bin .add (.t 8) (iC 1)),mV 8 21]))))
def k124:KC:=(.seq (.ops [oP 2 (.box false (.t 0)),oP 3 (.box true (.t 1)),oP 4 (.alloc [.int .i64 0,.int .i64 0,.int .i64 0,.int .i64 0,.int .i64 0,.int .i64 0])])
 (.seq (.seq (.ops [oP 6 (.fieldA 0 (.t 2)),oP 7 (.load false 1 (.t 6)),oP 8 (.mv (iC 0))])
 (.block 0 (.loop k124_b0)))
 (.seq (.ops [oP 22 (.load true 6 (.t 2)),⟨none,none,.store 6 (.t 4) (.t 22)⟩])
 .ret)))
theorem e124:Ent 124 23 [3] [.cell 4 true 6] k124:=ent Tryz.func124
end Go.Proofs.YtcfmmmloeaggmaaGreat
namespace Go.Proofs.YtcfmmmloeaggmaaGreat
open Go.Kv
set_option linter.unusedVariables false
set_option linter.unusedSimpArgs false
attribute [local irreducible] ACall PCall KL
theorem p136 (n:Nat) (h1:1≤n) (h5:n≤5):Pure Tryz.prog 136 [.int .i64 n] (.agg (ints (mp (List.range n)))):=by
 refine e136 (by simp) fun _ _=>?_
 simp only [k136,argEnv,go_sem]
 refine KL_ind k136_b0.eq_1 (fun x:Nat=>[(0,.int .i64 n),(2,.ptr 0 0),(3,.ptr 1 0),(4,.int .i64 x)]) (fun x=>[.box (ints [0,0,0,0,0,0]),.box (ints (mpN n (List.range x)))]) (fun x=>x≤n) (fun x=>n - x) [0,2,3,4] 0 (by simp [keep]) (by rfl) (Nat.zero_le _) fun x hi ih=>?_
 have hl:(mpN n (List.range x)).length=6:=mpN_length (by simp; omega)
 try simp only [hl,go_sem]
 refine ⟨fun h=>?_,fun h=>?_⟩
 ·repeat' (first | refine And.intro ?_ ?_ | intro _)
  all_goals (try omega)
  refine ih (x+1) (by omega) (by omega) _ _ (by rfl) ?_
  rw [mpN_pushI (by simp) (by simp; omega),← List.range_succ]
 ·obtain rfl:x=n:=by omega
  refine Kv.Fin.still ⟨?_,rfl⟩
  simp [mp]
theorem mul_step {f g:List Nat} {n x:Nat} (hf:Ok f n) (h:x<n):((mul f g).take x ++ f.drop x).set x (g.getD (f.getD x 0) 0)=(mul f g).take (x+1) ++ f.drop (x+1):=by
 have hl:=hf.len
 rw [List.set_append_right _ _ (by simp; omega),List.length_take,mul_length,Nat.min_eq_left (by omega),Nat.sub_self,List.drop_eq_getElem_cons (by omega),List.set_cons_zero,List.take_succ_eq_append_getElem (by simp; omega),List.append_assoc]
 simp [mul,List.getD_eq_getElem?_getD,hl,h]
theorem mul_mid {f g:List Nat} {n x:Nat} (hf:Ok f n) (h:x<n):((mul f g).take x ++ f.drop x).getD x 0=f.getD x 0:=by
 have hl:=hf.len
 rw [List.getD_eq_getElem?_getD,List.getElem?_append_right (by simp; omega),List.length_take,mul_length,Nat.min_eq_left (by omega),Nat.sub_self]
 simp [List.getD_eq_getElem?_getD]
theorem p124 (f g:List Nat) (n:Nat) (hf:Ok f n) (hg:Ok g n):Pure Tryz.prog 124 [.agg (ints (mp f)),.agg (ints (mp g))] (.agg (ints (mp (mul f g)))):=by
 rw [hf.mp_eq,hg.mp_eq,(hf.mul hg).mp_eq]
 have hlg:=hg.mp_eq ▸ hg.mp_len
 have hlf:=hf.mp_eq ▸ hf.mp_len
 have hll:=hf.len
 have h5:=hf.le
 refine e124 (by simp) fun _ _=>?_
 simp only [k124,argEnv,hlf,hlg,go_sem]
 refine KL_ind k124_b0.eq_1 (fun x:Nat=>[(2,.ptr 0 0),(3,.fptr (ints (mpN n g)) 0),(4,.ptr 1 0),(7,.int .i64 n),(8,.int .i64 x)]) (fun x=>[.box (ints (mpN n ((mul f g).take x ++ f.drop x))),.box (ints [0,0,0,0,0,0])]) (fun x=>x≤n) (fun x=>n - x) [2,3,4,7,8] 0 (by rfl) (by simp [ints]) (Nat.zero_le _) fun x hi ih=>?_
 have hl:(mpN n ((mul f g).take x ++ f.drop x)).length=6:=mpN_length (by simp; omega)
 try simp only [hl,hlg,go_sem]
 refine ⟨fun h=>?_,fun h=>?_⟩
 ·have hx:x<n:=by omega
  rw [mul_mid hf hx]
  have:=hf.get hx
  repeat' (first | refine And.intro ?_ ?_ | intro _)
  all_goals (try omega)
  refine ih (x+1) (by omega) (by omega) _ _ (by rfl) ?_
  rw [mpN_set (by simp; omega),mul_step hf hx]
 ·obtain rfl:x=n:=by omega
  refine Kv.Fin.still ⟨?_,rfl⟩
  rw [List.take_of_length_le (by simp; omega),List.drop_of_length_le (by omega),List.append_nil]
theorem p137 (f g:List Nat) (n:Nat) (hf:Ok f n) (hg:Ok g n):Pure Tryz.prog 137 [.agg (ints (mp f)),.agg (ints (mp g))] (.agg (ints (mp (mul f g)))):=by
 rw [hf.mp_eq,hg.mp_eq,(hf.mul hg).mp_eq]
 have hlg:=hg.mp_eq ▸ hg.mp_len
 have hlf:=hf.mp_eq ▸ hf.mp_len
 have hll:=hf.len
 have h5:=hf.le
 refine e137 (by simp) fun _ _=>?_
 simp only [k137,argEnv,hlf,hlg,go_sem]
 refine KL_ind k137_b0.eq_1 (fun x:Nat=>[(2,.fptr (ints (mpN n f)) 0),(3,.fptr (ints (mpN n g)) 0),(4,.ptr 0 0),(5,.ptr 1 0),(6,.int .i64 x)]) (fun x=>[.box (ints [0,0,0,0,0,0]),.box (ints (mpN n ((mul f g).take x)))]) (fun x=>x≤n) (fun x=>n - x) [2,3,4,5,6] 0 (by rfl) (by simp [ints,mpN]) (Nat.zero_le _) fun x hi ih=>?_
 have hl:(mpN n ((mul f g).take x)).length=6:=mpN_length (by simp; omega)
 try simp only [hl,hlg,hlf,go_sem]
 refine ⟨fun h=>?_,fun h=>?_⟩
 ·have hx:x<n:=by omega
  have:=hf.get hx
  repeat' (first | refine And.intro ?_ ?_ | intro _)
  all_goals (try omega)
  refine ih (x+1) (by omega) (by omega) _ _ (by rfl) ?_
  rw [mpN_pushI (by simp; omega) (by simp; omega),← mul_get (by omega),List.take_succ_eq_append_getElem (by simp; omega)]
  simp [List.getD_eq_getElem?_getD,hx,hll]
 ·obtain rfl:x=n:=by omega
  refine Kv.Fin.still ⟨?_,rfl⟩
  rw [List.take_of_length_le (by simp; omega)]
theorem p65 (m:List Int) (h:m.length=6):Pure Tryz.prog 65 [.agg (ints m)] (.bool (isM m)):=by
 refine e65 (by simp) fun _ _=>?_
 simp only [k65,argEnv,h,go_sem]
 refine (p80 _ _ _).go ?_
 try simp only [go_sem]
 refine ⟨fun h1=>Kv.Fin.now ⟨by simp only [isM]; rw [decide_eq_false h1]; rfl,rfl⟩,fun h1=>?_⟩
 refine ⟨by omega,?_⟩
 have h2:1≤m.getD 0 0∧m.getD 0 0≤5:=by simpa using h1
 have hd:decide (1≤m.getD 0 0∧m.getD 0 0≤5)=true:=by simpa using h2
 refine KL_ind k65_b0.eq_1 (fun x:Nat=>[(1,.fptr (ints m) 0),(10,.agg (ints ((m.drop 1).take 5))),(11,.int .i64 x)]) (fun x=>[]) (fun x=>x≤5∧(List.range x).all (okP m)=true) (fun x=>5 - x) [1,10,11] 0 (by rfl) (by rfl) ⟨Nat.zero_le _,rfl⟩ fun x ⟨hx,hall⟩ ih=>?_
 have ht:((m.drop 1).take 5).length=5:=by simp [h]
 have hg:x<5→((m.drop 1).take 5).getD x 0=m.getD (x+1) 0:=fun hx=>by
  simp [List.getD_eq_getElem?_getD,List.getElem?_take,hx,Nat.add_comm]
 have hs:okP m x=true→(List.range (x+1)).all (okP m)=true:=fun hp=>by rw [all_range_succ,hall,hp]; rfl
 have hb:x<5→okP m x=false→isM m=false:=fun hx hp=>by rw [isM,not_range hx hp,Bool.and_false]
 by_cases hc:(x:Int)<m.getD 0 0
 ·try simp only [h,hc,ht,go_sem]
  refine ⟨fun h3=>?_,fun h3=>by omega⟩
  rw [hg (by omega)]
  refine ⟨by omega,by omega,fun _=>⟨by omega,?_⟩⟩
  refine (p80 _ _ _).go ?_
  try simp only [go_sem]
  have he:okP m x=decide (0≤m.getD (x+1) 0∧m.getD (x+1) 0≤m.getD 0 0 - 1):=by rw [okP,if_pos hc]
  refine ⟨fun h4=>?_,fun h4=>?_⟩
  ·have hc3:¬ m.getD 0 0≤x:=by omega
   try simp only [hc3,go_sem]
   repeat' (first | refine And.intro ?_ ?_ | intro _)
   all_goals (try omega)
   exact ih (x+1) ⟨by omega,hs (by rw [he]; exact decide_eq_true h4)⟩ (by omega) _ _ (by rfl) rfl
  ·exact Kv.Fin.now ⟨by rw [hb (by omega) (by rw [he]; exact decide_eq_false h4)],rfl⟩
 ·have hc2:m.getD 0 0≤x:=by omega
  have he:okP m x=decide (m.getD (x+1) 0=0):=by rw [okP,if_neg hc]
  try simp only [h,hc,hc2,ht,go_sem]
  refine ⟨fun h3=>?_,fun h3=>?_⟩
  ·rw [hg (by omega)]
   refine ⟨by omega,by omega,fun _=>⟨fun h4=>?_,fun h4=>?_⟩⟩
   ·exact Kv.Fin.now ⟨by rw [hb (by omega) (by rw [he]; exact decide_eq_false h4)],rfl⟩
   ·repeat' (first | refine And.intro ?_ ?_ | intro _)
    all_goals (try omega)
    exact ih (x+1) ⟨by omega,hs (by rw [he]; exact decide_eq_true h4)⟩ (by omega) _ _ (by rfl) rfl
  ·obtain rfl:x=5:=by omega
   exact Kv.Fin.now ⟨by rw [isM,hd,hall]; rfl,rfl⟩
theorem p178 (m:List Int) (h:m.length=6):Pure Tryz.prog 178 [.agg (ints m)] (.bool (isM m)):=by
 refine e178 (by simp) fun _ _=>?_
 simp only [k178,argEnv,h,go_sem]
 refine (p71 _ _ _).go ?_
 try simp only [go_sem]
 refine ⟨fun h1=>Kv.Fin.now ⟨by simp only [isM]; rw [decide_eq_false h1]; rfl,rfl⟩,fun h1=>?_⟩
 have h2:1≤m.getD 0 0∧m.getD 0 0≤5:=by simpa using h1
 have hd:decide (1≤m.getD 0 0∧m.getD 0 0≤5)=true:=by simpa using h2
 refine KL_ind k178_b0.eq_1 (fun x:Nat=>[(1,.fptr (ints m) 0),(3,.int .i64 x)]) (fun x=>[]) (fun x=>x≤5∧(List.range x).all (okP m)=true) (fun x=>5 - x) [1,3] 0 (by rfl) (by rfl) ⟨Nat.zero_le _,rfl⟩ fun x ⟨hx,hall⟩ ih=>?_
 have hs:okP m x=true→(List.range (x+1)).all (okP m)=true:=fun hp=>by rw [all_range_succ,hall,hp]; rfl
 have hb:x<5→okP m x=false→isM m=false:=fun hx hp=>by rw [isM,not_range hx hp,Bool.and_false]
 by_cases hc:(x:Int)<m.getD 0 0
 ·try simp only [h,hc,go_sem]
  refine ⟨fun h3=>?_,fun h3=>by omega⟩
  refine ⟨by omega,by omega,fun _=>⟨by omega,?_⟩⟩
  refine (p71 _ _ _).pgo ?_
  try simp only [go_sem]
  have he:okP m x=decide (0≤m.getD (x+1) 0∧m.getD (x+1) 0≤m.getD 0 0 - 1):=by rw [okP,if_pos hc]
  refine ⟨fun h4=>?_,fun h4=>?_⟩
  ·have hc3:¬ m.getD 0 0≤x:=by omega
   try simp only [hc3,go_sem]
   repeat' (first | refine And.intro ?_ ?_ | intro _)
   all_goals (try omega)
   exact ih (x+1) ⟨by omega,hs (by rw [he]; exact decide_eq_true h4)⟩ (by omega) _ _ (by rfl) rfl
  ·exact Kv.Fin.now ⟨by rw [hb (by omega) (by rw [he]; exact decide_eq_false h4)],rfl⟩
 ·have hc2:m.getD 0 0≤x:=by omega
  have he:okP m x=decide (m.getD (x+1) 0=0):=by rw [okP,if_neg hc]
  try simp only [h,hc,hc2,go_sem]
  refine ⟨fun h3=>?_,fun h3=>?_⟩
  ·refine ⟨by omega,by omega,fun _=>⟨fun h4=>?_,fun h4=>?_⟩⟩
   ·exact Kv.Fin.now ⟨by rw [hb (by omega) (by rw [he]; exact decide_eq_false h4)],rfl⟩
   ·repeat' (first | refine And.intro ?_ ?_ | intro _)
    all_goals (try omega)
    exact ih (x+1) ⟨by omega,hs (by rw [he]; exact decide_eq_true h4)⟩ (by omega) _ _ (by rfl) rfl
  ·obtain rfl:x=5:=by omega
   exact Kv.Fin.now ⟨by rw [isM,hd,hall]; rfl,rfl⟩
end Go.Proofs.YtcfmmmloeaggmaaGreat
end
section
namespace Go.Proofs.YtcfmmmloeaggmaaGreat
open Go.Kv
set_option linter.unusedVariables false
set_option linter.unusedSimpArgs false
attribute [local irreducible] ACall PCall KL
def seqI (k:Int) (n:Nat):List Int:=(List.range n).map fun i=>k+(i:Nat)
@[simp] theorem seqI_length (k:Int) (n:Nat):(seqI k n).length=n:=by simp [seqI]
end Go.Proofs.YtcfmmmloeaggmaaGreat
end
end
