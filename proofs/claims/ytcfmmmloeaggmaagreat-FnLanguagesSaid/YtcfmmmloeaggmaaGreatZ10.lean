/- Several texts of this session as one, less what the claim does not need. -/
import Derived.Test.YtcfmmmloeaggmaaGreatZ9
import Derived.Test.YtcfmmmloeaggmaaGreatZ8
import Derived.Test.YtcfmmmloeaggmaaGreatCb
import Derived.Test.YtcfmmmloeaggmaaGreatZ6
import Derived.Test.YtcfmmmloeaggmaaGreatZ7
import Derived.Test.YtcfmmmloeaggmaaGreatZ5
import Derived.Test.YtcfmmmloeaggmaaGreatFC
namespace Go.Proofs.YtcfmmmloeaggmaaGreat
open Go.Kv
set_option linter.unusedVariables false
set_option linter.unusedSimpArgs false
section
section
attribute [local irreducible] ACall PCall KL
def adF (fs:List (List Nat)) (p x:Nat) (nx:List Nat) (k:Nat):List Nat:=(List.range k).foldl (fun nx k=>nx.set ((fs.getD k []).getD p 0) (nx.getD ((fs.getD k []).getD p 0) 0+x)) nx
theorem adF_succ (fs:List (List Nat)) (p x:Nat) (nx:List Nat) (k:Nat):adF fs p x nx (k+1)=(adF fs p x nx k).set ((fs.getD k []).getD p 0) ((adF fs p x nx k).getD ((fs.getD k []).getD p 0) 0+x):=by
 unfold adF
 rw [List.range_succ,List.foldl_append]
 rfl
theorem adF_len (fs:List (List Nat)) (p x:Nat) (nx:List Nat) (k:Nat):(adF fs p x nx k).length=nx.length:=by
 induction k with
 | zero=>rfl
 | succ k ih=>rw [adF_succ,List.length_set,ih]
theorem setN_getD (l:List Nat) (i j y:Nat):(l.set i y).getD j 0=if i=j∧i<l.length then y else l.getD j 0:=by
 simp only [List.getD_eq_getElem?_getD,List.getElem?_set]
 by_cases e:i=j
 ·subst e
  by_cases h:i<l.length
  ·simp [h]
  ·simp [h]
 ·simp [e]
theorem set_sum:∀ (l:List Nat) (i y:Nat),i<l.length→(l.set i (l.getD i 0+y)).sum=l.sum+y
 | [],i,y,h=>by simp at h
 | a :: l,0,y,_=>by simp [List.getD_eq_getElem?_getD]; omega
 | a :: l,i+1,y,h=>by
  have:=set_sum l i y (by simpa using h)
  simp only [List.set_cons_succ,List.sum_cons]
  rw [show (a :: l).getD (i+1) 0=l.getD i 0 by simp [List.getD_eq_getElem?_getD],this]
  omega
theorem getD_le_sum:∀ (l:List Nat) (i:Nat),l.getD i 0≤l.sum
 | [],i=>by simp
 | a :: l,0=>by simp [List.getD_eq_getElem?_getD]
 | a :: l,i+1=>by
  have:=getD_le_sum l i
  rw [show (a :: l).getD (i+1) 0=l.getD i 0 by simp [List.getD_eq_getElem?_getD],List.sum_cons]
  omega
theorem adF_sum {fs:List (List Nat)} {p x:Nat} {nx:List Nat} (h:∀ f∈fs,f.getD p 0<nx.length):∀ k,k≤fs.length→(adF fs p x nx k).sum=nx.sum+k * x
 | 0,_=>by simp [adF]
 | k+1,hk=>by
  have hf:(fs.getD k []).getD p 0<nx.length:=by
   have e:fs.getD k []=fs[k]:=by rw [List.getD_eq_getElem?_getD,List.getElem?_eq_getElem (by omega)]; rfl
   rw [e]; exact h _ (List.getElem_mem _)
  rw [adF_succ,set_sum _ _ _ (by rw [adF_len]; exact hf),adF_sum h k (by omega),Nat.succ_mul]
  omega
theorem adF_pos {fs:List (List Nat)} {p x:Nat} {nx:List Nat} (h:∀ f∈fs,f.getD p 0<nx.length) (r:Nat):∀ k,k≤fs.length→(0<(adF fs p x nx k).getD r 0↔0<nx.getD r 0∨(0<x∧∃ j,j<k∧(fs.getD j []).getD p 0=r))
 | 0,_=>by
  have e:adF fs p x nx 0=nx:=rfl
  rw [e]
  exact ⟨.inl,fun h=>h.elim id fun ⟨_,j,hj,_⟩=>by omega⟩
 | k+1,hk=>by
  have ih:=adF_pos (x:=x) h r k (by omega)
  have hf:(fs.getD k []).getD p 0<nx.length:=by
   have e:fs.getD k []=fs[k]:=by rw [List.getD_eq_getElem?_getD,List.getElem?_eq_getElem (by omega)]; rfl
   rw [e]; exact h _ (List.getElem_mem _)
  rw [adF_succ,setN_getD,adF_len]
  by_cases e:(fs.getD k []).getD p 0=r
  ·rw [if_pos ⟨e,hf⟩,e]
   constructor
   ·intro h1
    by_cases hx:0<x
    ·exact .inr ⟨hx,k,by omega,e⟩
    ·rcases ih.1 (by omega) with h2 | ⟨h2,j,hj,h3⟩
     ·exact .inl h2
     ·exact .inr ⟨h2,j,by omega,h3⟩
   ·rintro (h1 | ⟨h1,_⟩)
    ·have:=ih.2 (.inl h1); omega
    ·omega
  ·rw [if_neg (fun h=>e h.1),ih]
   constructor
   ·rintro (h1 | ⟨h1,j,hj,h2⟩)
    ·exact .inl h1
    ·exact .inr ⟨h1,j,by omega,h2⟩
   ·rintro (h1 | ⟨h1,j,hj,h2⟩)
    ·exact .inl h1
    ·refine .inr ⟨h1,j,?_,h2⟩
     by_cases ej:j=k
     ·subst ej; exact absurd h2 e
     ·omega
def avF (fs:List (List Nat)) (v:List Nat) (m:Nat) (k:Nat):List Nat:=(List.range k).foldl (fun nx p=>adF fs p (v.getD p 0) nx fs.length) (List.replicate m 0)
theorem avF_succ (fs:List (List Nat)) (v:List Nat) (m k:Nat):avF fs v m (k+1)=adF fs k (v.getD k 0) (avF fs v m k) fs.length:=by
 unfold avF
 rw [List.range_succ,List.foldl_append]
 rfl
theorem avF_len (fs:List (List Nat)) (v:List Nat) (m k:Nat):(avF fs v m k).length=m:=by
 induction k with
 | zero=>simp [avF]
 | succ k ih=>rw [avF_succ,adF_len,ih]
theorem avF_sum {fs:List (List Nat)} {n m:Nat} (hf:∀ f∈fs,Ok f n) (hm:n≤m) (v:List Nat) (hv:v.length=m):∀ k,k≤m→(avF fs v m k).sum=fs.length * (v.take k).sum
 | 0,_=>by simp [avF]
 | k+1,hk=>by
  have hlt:∀ f∈fs,f.getD k 0<(avF fs v m k).length:=fun f hff=>by
   rw [avF_len]; have:=(hf f hff).get' k; omega
  rw [avF_succ,adF_sum hlt _ (Nat.le_refl _),avF_sum hf hm v hv k (by omega),List.take_succ_eq_append_getElem (by omega),List.sum_append,Nat.mul_add]
  have e:v.getD k 0=v[k]:=by rw [List.getD_eq_getElem?_getD,List.getElem?_eq_getElem (by omega)]; rfl
  rw [e]; simp
theorem avF_pos {fs:List (List Nat)} {n m:Nat} (hf:∀ f∈fs,Ok f n) (hm:n≤m) (v:List Nat) (r:Nat):∀ k,0<(avF fs v m k).getD r 0↔∃ p,p<k∧0<v.getD p 0∧∃ j,j<fs.length∧(fs.getD j []).getD p 0=r
 | 0=>by
  have e:(avF fs v m 0).getD r 0=0:=by
   show (List.replicate m 0).getD r 0=0
   rw [List.getD_eq_getElem?_getD,List.getElem?_replicate]
   split <;> rfl
  rw [e]
  exact ⟨fun h=>by omega,fun ⟨p,hp,_⟩=>by omega⟩
 | k+1=>by
  have hlt:∀ f∈fs,f.getD k 0<(avF fs v m k).length:=fun f hff=>by
   rw [avF_len]; have:=(hf f hff).get' k; omega
  rw [avF_succ,adF_pos hlt r _ (Nat.le_refl _),avF_pos hf hm v r k]
  constructor
  ·rintro (⟨p,hp,h1,h2⟩ | ⟨h1,h2⟩)
   ·exact ⟨p,by omega,h1,h2⟩
   ·exact ⟨k,by omega,h1,h2⟩
  ·rintro ⟨p,hp,h1,h2⟩
   by_cases e:p=k
   ·subst e; exact .inr ⟨h1,h2⟩
   ·exact .inl ⟨p,by omega,h1,h2⟩
def veF (fs:List (List Nat)) (q m:Nat):Nat→List Nat
 | 0=>(List.replicate m 0).set q 1
 | k+1=>avF fs (veF fs q m k) m m
theorem veF_len (fs:List (List Nat)) (q m k:Nat):(veF fs q m k).length=m:=by
 cases k with
 | zero=>simp [veF]
 | succ k=>exact avF_len _ _ _ _
theorem veF_sum {fs:List (List Nat)} {n m q:Nat} (hf:∀ f∈fs,Ok f n) (hm:n≤m) (hq:q<n):∀ k,(veF fs q m k).sum=fs.length ^ k
 | 0=>by
  have:=set_sum (List.replicate m 0) q 1 (by simp; omega)
  have e:(List.replicate m 0).getD q 0=0:=by
   rw [List.getD_eq_getElem?_getD,List.getElem?_replicate]
   split <;> rfl
  rw [e,Nat.zero_add] at this
  show ((List.replicate m 0).set q 1).sum=_
  rw [this]
  simp
 | k+1=>by
  have hl:=veF_len fs q m k
  show (avF fs (veF fs q m k) m m).sum=_
  rw [avF_sum hf hm _ hl m (Nat.le_refl _),List.take_of_length_le (by omega),veF_sum hf hm hq k,Nat.pow_succ,Nat.mul_comm]
theorem veF_pos {fs:List (List Nat)} {n m q:Nat} (hf:∀ f∈fs,Ok f n) (hm:n≤m) (hq:q<n):∀ (k r:Nat),0<(veF fs q m k).getD r 0↔∃ w:List Nat,(∀ c∈w,c<fs.length)∧w.length=k∧rnw fs w q=r
 | 0,r=>by
  show 0<((List.replicate m 0).set q 1).getD r 0↔_
  have e:(List.replicate m 0).getD r 0=0:=by
   rw [List.getD_eq_getElem?_getD,List.getElem?_replicate]
   split <;> rfl
  rw [setN_getD,e,List.length_replicate]
  by_cases h:q=r
  ·subst h
   rw [if_pos ⟨rfl,by omega⟩]
   exact ⟨fun _=>⟨[],by simp,rfl,rfl⟩,fun _=>by omega⟩
  ·rw [if_neg (fun x=>h x.1)]
   refine ⟨fun x=>by omega,fun ⟨w,_,hl,hw⟩=>?_⟩
   obtain rfl:=List.eq_nil_of_length_eq_zero hl
   exact absurd hw h
 | k+1,r=>by
  show 0<(avF fs (veF fs q m k) m m).getD r 0↔_
  rw [avF_pos hf hm]
  constructor
  ·rintro ⟨p,hp,h1,j,hj,h2⟩
   obtain ⟨w,hw,hl,rfl⟩:=(veF_pos hf hm hq k p).1 h1
   refine ⟨w ++ [j],fun c hc=>?_,by simp [hl],by rw [rnw_snoc,h2]⟩
   rcases List.mem_append.1 hc with hc | hc
   ·exact hw c hc
   ·rw [List.mem_singleton] at hc; subst hc; exact hj
  ·rintro ⟨w,hw,hl,hr⟩
   have hne:w≠[]:=by rintro rfl; simp at hl
   obtain ⟨w',j,rfl⟩:∃ w' j,w=w' ++ [j]:=⟨w.dropLast,w.getLast hne,(List.dropLast_concat_getLast hne).symm⟩
   have hw':∀ c∈w',c<fs.length:=fun c hc=>hw c (by simp [hc])
   rw [rnw_snoc] at hr
   have hlt:=rnw_lt hf hq w' hw'
   exact ⟨rnw fs w' q,by omega,(veF_pos hf hm hq k _).2 ⟨w',hw',by simpa using hl,rfl⟩,j,hw j (by simp),hr⟩
def csF (v:List Nat) (la:List Nat) (j:Nat):Nat:=((la.take j).map fun x=>v.getD x 0).sum
theorem csF_succ {v la:List Nat} {j:Nat} (h:j<la.length):csF v la (j+1)=csF v la j+v.getD la[j] 0:=by
 unfold csF
 rw [List.take_succ_eq_append_getElem h,List.map_append,List.sum_append]
 simp
theorem csF_le (v la:List Nat):∀ j,csF v la j≤j * v.sum
 | 0=>by simp [csF]
 | j+1=>by
  have ih:=csF_le v la j
  by_cases h:j<la.length
  ·rw [csF_succ h,Nat.succ_mul]
   have:=getD_le_sum v la[j]
   omega
  ·have e:csF v la (j+1)=csF v la j:=by
    unfold csF
    rw [List.take_of_length_le (by omega),List.take_of_length_le (by omega)]
   rw [e,Nat.succ_mul]; omega
theorem csF_pos {v la:List Nat}:∀ j,0<csF v la j↔∃ x∈la.take j,0<v.getD x 0
 | j=>by
  unfold csF
  generalize la.take j=l
  induction l with
  | nil=>simp
  | cons a l ih =>
   simp only [List.map_cons,List.sum_cons,List.mem_cons]
   constructor
   ·intro h
    by_cases ha:0<v.getD a 0
    ·exact ⟨a,.inl rfl,ha⟩
    ·obtain ⟨x,hx,h2⟩:=ih.1 (by omega)
     exact ⟨x,.inr hx,h2⟩
   ·rintro ⟨x,rfl | hx,h2⟩
    ·omega
    ·have:=ih.2 ⟨x,hx,h2⟩; omega
def ciF (v:List Nat) (la:List Nat) (j:Nat):Nat:=((List.range j).map fun p=>if p∈la then v.getD p 0 else 0).sum
theorem ciF_succ (v la:List Nat) (j:Nat):ciF v la (j+1)=ciF v la j+(if j∈la then v.getD j 0 else 0):=by
 unfold ciF
 rw [List.range_succ,List.map_append,List.sum_append]
 simp
theorem ciF_le (v la:List Nat):∀ j,ciF v la j≤j * v.sum
 | 0=>by simp [ciF]
 | j+1=>by
  have ih:=ciF_le v la j
  rw [ciF_succ,Nat.succ_mul]
  have:=getD_le_sum v j
  split <;> omega
theorem ciF_pos (v la:List Nat):∀ j,0<ciF v la j↔∃ p,p<j∧p∈la∧0<v.getD p 0
 | 0=>by simp [ciF]
 | j+1=>by
  rw [ciF_succ]
  constructor
  ·intro h
   by_cases h1:0<ciF v la j
   ·obtain ⟨p,hp,h2⟩:=(ciF_pos v la j).1 h1
    exact ⟨p,by omega,h2⟩
   ·by_cases h2:j∈la
    ·rw [if_pos h2] at h
     exact ⟨j,by omega,h2,by omega⟩
    ·rw [if_neg h2] at h; omega
  ·rintro ⟨p,hp,h1,h2⟩
   by_cases e:p=j
   ·subst e; rw [if_pos h1]; omega
   ·have:=(ciF_pos v la j).2 ⟨p,by omega,h1,h2⟩
    omega
theorem cs_acc {fs:List (List Nat)} {n q:Nat} {la:List Nat} (hf:∀ f∈fs,Ok f n) (hq:q<n) (k:Nat):0<csF (veF fs q n k) la la.length↔∃ w,Acw fs la q w∧w.length=k:=by
 rw [csF_pos,List.take_length]
 constructor
 ·rintro ⟨x,hx,h⟩
  obtain ⟨w,hw,hl,rfl⟩:=(veF_pos hf (Nat.le_refl _) hq k x).1 h
  exact ⟨w,⟨hw,hx⟩,hl⟩
 ·rintro ⟨w,⟨hw,hx⟩,hl⟩
  exact ⟨_,hx,(veF_pos hf (Nat.le_refl _) hq k _).2 ⟨w,hw,hl,rfl⟩⟩
theorem ci_acc {fs:List (List Nat)} {n q:Nat} {la:List Nat} (hf:∀ f∈fs,Ok f n) (hn:n≤5) (hq:q<n) (k:Nat):0<ciF (veF fs q 5 k) la 5↔∃ w,Acw fs la q w∧w.length=k:=by
 rw [ciF_pos]
 constructor
 ·rintro ⟨x,_,hx,h⟩
  obtain ⟨w,hw,hl,rfl⟩:=(veF_pos hf hn hq k x).1 h
  exact ⟨w,⟨hw,hx⟩,hl⟩
 ·rintro ⟨w,⟨hw,hx⟩,hl⟩
  have:=rnw_lt hf hq w hw
  exact ⟨_,by omega,hx,(veF_pos hf hn hq k _).2 ⟨w,hw,hl,rfl⟩⟩
end
end
section
section
attribute [local irreducible] ACall PCall KL
theorem advN_wl {fs:List (List Nat)} {bf:List Nat→List Int→List Int} {Q:List Met} {m:Met} (hQ:∀ (j:Nat) (x:Met),Q[j]? = some x→x.2.length≤j) (hm:m.2.length+1≤Q.length)   : ∀ (k j:Nat) (x:Met),(advN fs bf Q m k)[j]? = some x→x.2.length≤j
 | 0,j,x,h=>hQ j x h
 | k+1,j,x,h=>by
  rw [advN_succ] at h
  split at h
  ·exact advN_wl hQ hm k j x h
  ·by_cases hj:j<(advN fs bf Q m k).length
   ·rw [List.getElem?_append_left hj] at h; exact advN_wl hQ hm k j x h
   ·rw [List.getElem?_append_right (by omega)] at h
    have h0:j - (advN fs bf Q m k).length=0:=by
     have:=(List.getElem?_eq_some_iff.1 h).1
     simpa using this
    rw [h0] at h
    simp only [List.getElem?_cons_zero,Option.some.injEq] at h
    subst h
    have:=advN_mono fs bf Q m (Nat.zero_le k)
    have e:advN fs bf Q m 0=Q:=rfl
    rw [e] at this
    simp only [List.length_append,List.length_cons,List.length_nil]
    omega
theorem pq_wl {fs gs:List (List Nat)} {p q:Nat}:∀ (i j:Nat) (x:Met),(pq fs gs p q i)[j]? = some x→x.2.length≤j
 | 0,j,x,h=>by
  have e:pq fs gs p q 0 = [([(p:Int),(q:Int)],[])]:=rfl
  rw [e] at h
  have hj:j=0:=by
   have:=(List.getElem?_eq_some_iff.1 h).1
   simpa using this
  subst hj
  simp only [List.getElem?_cons_zero,Option.some.injEq] at h
  subst h; exact Nat.le_refl _
 | i+1,j,x,h=>by
  by_cases hi:i<(pq fs gs p q i).length
  ·rw [pq_succ hi] at h
   refine advN_wl (pq_wl i) ?_ _ j x h
   have:=pq_wl i i _ (List.getElem?_eq_getElem hi)
   omega
  ·rw [pq_none hi] at h; exact pq_wl i j x h
theorem fwp_word {fs gs:List (List Nat)} {la lb:List Nat} {n m p q:Nat} (hf:∀ f∈fs,Ok f n) (hg:∀ g∈gs,Ok g m) (hl:fs.length=gs.length) (hp:p<n) (hq:q<m) (hn:n≤5) (hm:m≤5) {w0:List Int} (h:fwp fs gs la lb p q=some w0) :
  ∃ w:List Nat,w0=nz w∧(∀ k∈w,k<fs.length)∧w.length≤25∧¬ (rnw fs w p∈la↔rnw gs w q∈lb):=by
 unfold fwp at h
 split at h
 ·next hex =>
  have hs:=Classical.choose_spec hex
  generalize Classical.choose hex=k at hs h
  obtain ⟨h1,h2,_⟩:=hs
  rw [pq_getD h1] at h h2
  obtain ⟨w,hw,e,hd⟩:=pq_dfr (List.getElem_mem h1) h2
  have h3:=pq_wl k k _ (List.getElem?_eq_getElem h1)
  have h4:=pq_len hf hg hl hp hq hn hm k
  rw [Option.some.injEq] at h
  refine ⟨w,by rw [← h]; exact e,hw,?_,hd⟩
  have:(pq fs gs p q k)[k].2.length=w.length:=by rw [e,List.length_map]
  omega
 ·cases h
theorem fin_none {fs:List (List Nat)} {n q:Nat} {la:List Nat} (hf:∀ f∈fs,Ok f n) (hn5:n≤5) (hq:q<n) (h:¬ ∃ w,Acw fs la q w∧n≤w.length∧w.length<2 * n) (k:Nat) (hk:n≤k):ciF (veF fs q 5 k) la 5=0:=by
 refine Classical.byContradiction fun hc=>?_
 obtain ⟨w,hw,hl⟩:=(ci_acc (la:=la) hf hn5 hq k).1 (by omega)
 obtain ⟨w',h1,h2,h3⟩:=shorten hf hq _ w rfl hw (by omega)
 exact h ⟨w',h1,h2,h3⟩
end
end
section
section
attribute [local irreducible] ACall PCall KL
def p2 (x:Met):Nat × Nat:=((x.1.getD 0 0).toNat,(x.1.getD 1 0).toNat)
def rp2 (sA:Nat→Nat→Bool) (P:List (Nat × Nat)):List (Nat × Nat):=P.foldl (fun a x=>if (a.any fun y=>sA y.1 x.1)=true then a else a ++ [x]) []
theorem rp2_snoc (sA:Nat→Nat→Bool) (P:List (Nat × Nat)) (x:Nat × Nat):rp2 sA (P ++ [x])=if ((rp2 sA P).any fun y=>sA y.1 x.1)=true then rp2 sA P else rp2 sA P ++ [x]:=by
 unfold rp2; rw [List.foldl_append]; rfl
theorem rp2_both {sA sB:Nat→Nat→Bool} {P:List (Nat × Nat)} (h:∀ x∈P,∀ y∈P,sA x.1 y.1=sB x.2 y.2):rp sA (P.map Prod.fst)=(rp2 sA P).map Prod.fst∧rp sB (P.map Prod.snd)=(rp2 sA P).map Prod.snd∧∀ x∈rp2 sA P,x∈P:=by
 have key:∀ k,rp sA ((P.take k).map Prod.fst)=(rp2 sA (P.take k)).map Prod.fst∧rp sB ((P.take k).map Prod.snd)=(rp2 sA (P.take k)).map Prod.snd∧∀ x∈rp2 sA (P.take k),x∈P:=fun k=>by
  induction k with
  | zero=>exact ⟨rfl,rfl,fun x hx=>by simp [rp2] at hx⟩
  | succ k ih =>
   obtain ⟨i1,i2,i3⟩:=ih
   by_cases hk:k<P.length
   ·rw [List.take_succ_eq_append_getElem hk,List.map_append,List.map_append,List.map_singleton,List.map_singleton,rp_snoc,rp_snoc,rp2_snoc,i1,i2]
    have hA:(((rp2 sA (P.take k)).map Prod.fst).any fun y=>sA y P[k].1)=((rp2 sA (P.take k)).any fun y=>sA y.1 P[k].1):=by rw [List.any_map]; rfl
    have hB:(((rp2 sA (P.take k)).map Prod.snd).any fun y=>sB y P[k].2)=((rp2 sA (P.take k)).any fun y=>sA y.1 P[k].1):=by
     rw [List.any_map,Bool.eq_iff_iff,List.any_eq_true,List.any_eq_true]
     constructor
     ·rintro ⟨y,hy,e⟩; exact ⟨y,hy,by rw [h y (i3 y hy) _ (List.getElem_mem hk)]; exact e⟩
     ·rintro ⟨y,hy,e⟩; exact ⟨y,hy,by rw [h y (i3 y hy) _ (List.getElem_mem hk)] at e; exact e⟩
    rw [hA,hB]
    cases (rp2 sA (P.take k)).any fun y=>sA y.1 P[k].1 with
    | true=>exact ⟨rfl,rfl,i3⟩
    | false =>
     refine ⟨by simp,by simp,fun x hx=>?_⟩
     rw [if_neg (by simp)] at hx
     rcases List.mem_append.1 hx with hx | hx
     ·exact i3 x hx
     ·rw [List.mem_singleton] at hx; subst hx; exact List.getElem_mem hk
   ·rw [List.take_of_length_le (by omega)]
    rw [List.take_of_length_le (by omega)] at i1 i2 i3
    exact ⟨i1,i2,i3⟩
 have:=key P.length
 rwa [List.take_of_length_le (Nat.le_refl _)] at this
theorem pq_fin {fs gs:List (List Nat)} {n m p q:Nat} (hf:∀ f∈fs,Ok f n) (hg:∀ g∈gs,Ok g m) (hl:fs.length=gs.length) (hp:p<n) (hq:q<m) (hn:n≤5) (hm:m≤5):∃ i,i=(pq fs gs p q i).length:=by
 refine Classical.byContradiction fun hno=>?_
 have:∀ i,i≤(pq fs gs p q i).length:=fun i=>by
  induction i with
  | zero=>exact Nat.zero_le _
  | succ i ih =>
   have h2:i≠(pq fs gs p q i).length:=fun e=>hno ⟨i,e⟩
   have hi:i<(pq fs gs p q i).length:=by omega
   have h3:=advN_mono (ixs fs.length) (ld2 fs gs) (pq fs gs p q i) (pq fs gs p q i)[i] (Nat.zero_le fs.length)
   rw [← pq_succ hi] at h3
   have e:advN (ixs fs.length) (ld2 fs gs) (pq fs gs p q i) (pq fs gs p q i)[i] 0=pq fs gs p q i:=rfl
   rw [e] at h3
   have h4:(i+1)≠(pq fs gs p q (i+1)).length∨(i+1)=(pq fs gs p q (i+1)).length:=by omega
   omega
 have h6:=this 26
 have:=pq_len hf hg hl hp hq hn hm 26
 omega
theorem least_eq {fs gs:List (List Nat)} {n m p q:Nat} (la lb:List Nat) (hf:∀ f∈fs,Ok f n) (hg:∀ g∈gs,Ok g m) (hl:fs.length=gs.length) (hp:p<n) (hq:q<m) (hn:n≤5) (hm:m≤5)
  (h:∀ w:List Nat,(∀ k∈w,k<fs.length)→(rnw fs w p∈la↔rnw gs w q∈lb)):lsM fs la p=lsM gs lb q∧lsL fs la p=lsL gs lb q:=by
 obtain ⟨i,hi⟩:=pq_fin hf hg hl hp hq hn hm
 obtain ⟨hall,_,_,hclo⟩:=pq_inv (fs:=fs) (gs:=gs) (p:=p) (q:=q) i (by omega)
 have hA:=pj_end (hs:=fs) (t:=0) (r:=p) hf hn hp rfl (by simp) (fun x hx k hk=>by
  obtain ⟨w,_,_,e⟩:=hx
  rw [e,ld2_val]; simp) hi
 have hB:=pj_end (hs:=gs) (t:=1) (r:=q) hg hm hq hl.symm (by simp) (fun x hx k hk=>by
  obtain ⟨w,_,_,e⟩:=hx
  rw [e,ld2_val]; simp) hi
 -- the pairs
 have hP0:pj 0 (pq fs gs p q i)=((pq fs gs p q i).map p2).map Prod.fst:=by simp [pj,p2]
 have hP1:pj 1 (pq fs gs p q i)=((pq fs gs p q i).map p2).map Prod.snd:=by simp [pj,p2]
 have hcross:∀ x∈(pq fs gs p q i).map p2,∀ w:List Nat,(∀ k∈w,k<fs.length)→(rnw fs w x.1∈la↔rnw gs w x.2∈lb):=fun x hx w hw=>by
  obtain ⟨y,hy,rfl⟩:=List.mem_map.1 hx
  obtain ⟨w0,hw0,_,e⟩:=hall y hy
  have:=h (w0 ++ w) fun c hc=>by
   rcases List.mem_append.1 hc with hc | hc
   ·exact hw0 c hc
   ·exact hw c hc
  rw [rnw_app,rnw_app] at this
  unfold p2
  rw [e]
  simpa using this
 have hclo2:∀ x∈(pq fs gs p q i).map p2,∀ k,k<fs.length→((fs.getD k []).getD x.1 0,(gs.getD k []).getD x.2 0)∈(pq fs gs p q i).map p2:=fun x hx k hk=>by
  obtain ⟨y,hy,rfl⟩:=List.mem_map.1 hx
  obtain ⟨j,hj,rfl⟩:=List.getElem_of_mem hy
  obtain ⟨w0,hw0,_,e⟩:=hall _ hy
  obtain ⟨z,hz,ez⟩:=hclo j hj (by omega) k hk
  refine List.mem_map.2 ⟨z,hz,?_⟩
  unfold p2
  rw [ez,e,ld2_val]; simp
 have hsame:∀ x∈(pq fs gs p q i).map p2,∀ y∈(pq fs gs p q i).map p2,smB fs la x.1 y.1=smB gs lb x.2 y.2:=fun x hx y hy=>by
  rw [Bool.eq_iff_iff,smB_iff,smB_iff]
  constructor
  ·intro h1 w hw
   have hw':∀ k∈w,k<fs.length:=fun k hk=>by rw [hl]; exact hw k hk
   exact (hcross x hx w hw').symm.trans ((h1 w hw').trans (hcross y hy w hw'))
  ·intro h1 w hw
   have hw':∀ k∈w,k<gs.length:=fun k hk=>by rw [← hl]; exact hw k hk
   exact (hcross x hx w hw).trans ((h1 w hw').trans (hcross y hy w hw).symm)
 obtain ⟨r1,r2,r3⟩:=rp2_both hsame
 have hRA:RR fs la p=(rp2 (smB fs la) ((pq fs gs p q i).map p2)).map Prod.fst:=by
  unfold RR
  rw [hA,rp_ded fun x _=>smB_refl fs la x,hP0,r1]
 have hRB:RR gs lb q=(rp2 (smB fs la) ((pq fs gs p q i).map p2)).map Prod.snd:=by
  unfold RR
  rw [hB,rp_ded fun x _=>smB_refl gs lb x,hP1,r2]
 generalize rp2 (smB fs la) ((pq fs gs p q i).map p2)=R at *
 generalize (pq fs gs p q i).map p2=P at *
 have hcl:∀ x∈P,cls (smB fs la) (R.map Prod.fst) x.1=cls (smB gs lb) (R.map Prod.snd) x.2:=fun x hx=>by
  unfold cls
  rw [List.findIdx?_map,List.findIdx?_map]
  rw [fx_congr (p:=(fun y=>smB fs la y x.1) ∘ Prod.fst) (q:=(fun y=>smB gs lb y x.2) ∘ Prod.snd) fun z hz=>hsame z (r3 z hz) x hx]
 constructor
 ·rw [lsM_RR la hf hn hp,lsM_RR lb hg hm hq,hRA,hRB]
  refine List.ext_getElem (by simp [hl]) fun k h1 h2=>?_
  rw [List.length_map] at h1 h2
  rw [List.getElem_map,List.getElem_map,List.map_map,List.map_map]
  refine List.map_congr_left fun r hr=>?_
  have hg1:fs.getD k []=fs[k]:=by simp [List.getD_eq_getElem?_getD,h1]
  have hg2:gs.getD k []=gs[k]:=by simp [List.getD_eq_getElem?_getD,h2]
  have:=hcl _ (hclo2 r (r3 r hr) k h1)
  rw [hg1,hg2] at this
  exact this
 ·rw [lsL_RR,lsL_RR,hRA,hRB,List.length_map,List.length_map]
  refine List.filter_congr fun c hc=>?_
  have hc:=List.mem_range.1 hc
  have e1:(R.map Prod.fst).getD c 0=R[c].1:=by simp [List.getD_eq_getElem?_getD,hc]
  have e2:(R.map Prod.snd).getD c 0=R[c].2:=by simp [List.getD_eq_getElem?_getD,hc]
  rw [e1,e2]
  exact decide_eq_decide.2 (hcross _ (r3 _ (List.getElem_mem hc)) [] (by simp))
theorem least_iff {fs gs:List (List Nat)} {n m p q:Nat} (la lb:List Nat) (hf:∀ f∈fs,Ok f n) (hg:∀ g∈gs,Ok g m) (hl:fs.length=gs.length) (hp:p<n) (hq:q<m) (hn:n≤5) (hm:m≤5) :
  fwp fs gs la lb p q=none↔(lsM fs la p=lsM gs lb q∧lsL fs la p=lsL gs lb q):=by
 rw [fwp_iff hf hg hl hp hq hn hm]
 constructor
 ·exact least_eq la lb hf hg hl hp hq hn hm
 ·rintro ⟨h1,h2⟩ w hw
  rw [lang_least la hf hn hp w hw,lang_least lb hg hm hq w (fun k hk=>by rw [← hl]; exact hw k hk),h1,h2]
end
end
section
section
attribute [local irreducible] ACall PCall KL
def bad (P:List Int) (n:Int):Bool:=decide (P.length=0) || !stB P n
noncomputable abbrev wq (fs:List (List Nat)) (p:List Int) (i:Nat):List Met:=(bq fs img (fun (_:Unit) _=>()) ([(p,[])],()) i).1
end
end
section
section
attribute [local irreducible] ACall PCall KL
def ords (n:Nat):Nat→List Nat→List (List Nat)
 | 0,p=>[p]
 | d+1,p=>((List.range n).map fun q=>if q∈p then [] else ords n d (p ++ [q])).flatten
theorem ords_mem (n:Nat):∀ (d:Nat) (p:List Nat),(∀ x∈p,x<n)→∀ f∈ords n d p,f.length=p.length+d∧∀ x∈f,x<n
 | 0,p,hp,f,hf=>by
  simp only [ords,List.mem_singleton] at hf
  subst hf; exact ⟨rfl,hp⟩
 | d+1,p,hp,f,hf=>by
  simp only [ords,List.mem_flatten,List.mem_map,List.mem_range] at hf
  obtain ⟨l,⟨q,hq,rfl⟩,hf⟩:=hf
  split at hf
  ·simp at hf
  ·obtain ⟨h1,h2⟩:=ords_mem n d (p ++ [q]) (fun x hx=>by
    rcases List.mem_append.1 hx with hx | hx
    ·exact hp x hx
    ·simp at hx; omega) f hf
   exact ⟨by simp at h1; omega,h2⟩
def wds (n:Nat):Nat→List (List Nat)
 | 0=>[[]]
 | d+1=>((List.range n).map fun q=>(wds n d).map (q :: ·)).flatten
theorem dg_mod (n:Nat) (hn:1≤n):∀ (d k q:Nat),dg n d (q * n ^ d+k)=dg n d k
 | 0,k,q=>rfl
 | d+1,k,q=>by
  have hp:0<n ^ d:=Nat.pow_pos hn
  have e:q * n ^ (d+1)+k=(q * n) * n ^ d+k:=by rw [Nat.pow_succ,Nat.mul_assoc,Nat.mul_comm n]
  simp only [dg]
  rw [e,dg_mod n hn d k (q * n)]
  congr 1
  rw [Nat.add_comm,Nat.add_mul_div_right _ _ hp,Nat.add_mul_mod_self_right]
theorem range_mul (a b:Nat):List.range (a * b)=((List.range a).map fun q=>(List.range b).map fun k=>q * b+k).flatten:=by
 induction a with
 | zero=>simp
 | succ a ih =>
  rw [Nat.succ_mul,List.range_add,ih,List.range_succ,List.map_append,List.flatten_append]
  simp
theorem wds_dg (n:Nat) (hn:1≤n):∀ d,(List.range (n ^ d)).map (dg n d)=wds n d
 | 0=>rfl
 | d+1=>by
  have hp:0<n ^ d:=Nat.pow_pos hn
  rw [Nat.pow_succ,Nat.mul_comm,range_mul,wds,← wds_dg n hn d,List.map_flatten,List.map_map]
  congr 1
  refine List.map_congr_left fun q hq=>?_
  rw [List.mem_range] at hq
  simp only [Function.comp_def,List.map_map]
  refine List.map_congr_left fun k hk=>?_
  rw [List.mem_range] at hk
  show dg n (d+1) (q * n ^ d+k)=q :: dg n d k
  simp only [dg]
  rw [dg_mod n hn d k q,Nat.add_comm,Nat.add_mul_div_right _ _ hp,Nat.div_eq_of_lt hk,Nat.zero_add,Nat.mod_eq_of_lt hq]
def prm (n:Nat):List (List Nat):=(allM n).filter fun f=>decide f.Nodup
theorem Imm.refa' {σ:Heap} {id ver k:Nat} {e:TypeId} {n:Nat} {l:List (List Int)} (h:σ[id]? = some (.arr ver e n (aggs l))) (hk:k=l.length):Imm σ (.ref id ver 0 k) (.list (aggs l)):=hk ▸ Imm.refa h
theorem wds_mem (n:Nat):∀ f:List Nat,(∀ x∈f,x<n)→f∈wds n f.length
 | [],_=>by simp [wds]
 | a :: f,h=>by
  simp only [List.length_cons,wds,List.mem_flatten,List.mem_map,List.mem_range]
  exact ⟨_,⟨a,h a (by simp),rfl⟩,List.mem_map.2 ⟨f,wds_mem n f fun x hx=>h x (by simp [hx]),rfl⟩⟩
theorem allM_mem {n:Nat} (hn:1≤n) {f:List Nat} (hl:f.length=n) (h:∀ x∈f,x<n):f∈allM n:=by
 have:=wds_mem n f h
 rw [hl,← wds_dg n hn n] at this
 exact this
end
end
end Go.Proofs.YtcfmmmloeaggmaaGreat
section

end
namespace Go.Proofs.YtcfmmmloeaggmaaGreat
open Go.Kv
set_option linter.unusedVariables false
set_option linter.unusedSimpArgs false
section
section
attribute [local irreducible] ACall PCall KL
def kept (f:List Nat) (n x:Nat):Nat:=(((prm n).take x).filter fun g=>decide (mul f g=mul g f)).length
end
end
section
section
set_option maxRecDepth 100000
def k173_b0:KC:=(.seq (.seq (.ops [mV 8 4,oP 9 (.fieldA 0 (.t 1)),oP 10 (.load false 1 (.t 9)),oP 11 (.bin .lss (.t 8) (.t 10))])
 (.cond (.t 11) .skip (.exit 0)))
 (.seq (.block 1 (.ops [mV 14 4,oP 15 (.fieldA 1 (.t 1)),oP 16 (.idxA 5 1 (.t 15) (.t 14)),oP 17 (.load false 1 (.t 16)),mV 18 4,oP 19 (.fieldA 1 (.t 3)),oP 20 (.idxA 5 1 (.t 19) (.t 17)),⟨none,none,.store 1 (.t 20) (.t 18)⟩]))
 (.ops [mV 12 4,oP 13 (.bin .add (.t 12) (iC 1)),mV 4 13])))
def k173:KC:=(.seq (.ops [oP 1 (.box true (.t 0)),oP 2 (.alloc [.int .i64 0,.int .i64 0,.int .i64 0,.int .i64 0,.int .i64 0,.int .i64 0])])
 (.seq (.ops [oP 5 (.fieldA 0 (.t 1)),oP 6 (.load false 1 (.t 5)),oP 7 (.build [.int .i64 0,.int .i64 0,.int .i64 0,.int .i64 0,.int .i64 0,.int .i64 0] [(0,1,(.t 6))]),oP 3 (.alloc [.int .i64 0,.int .i64 0,.int .i64 0,.int .i64 0,.int .i64 0,.int .i64 0]),⟨none,none,.store 6 (.t 3) (.t 7)⟩])
 (.seq (.seq (.ops [oP 4 (.mv (iC 0))])
 (.block 0 (.loop k173_b0)))
 (.seq (.ops [oP 21 (.load true 6 (.t 3)),⟨none,none,.store 6 (.t 2) (.t 21)⟩])
 .ret))))
theorem e173:Ent 173 22 [1] [.cell 2 true 6] k173:=ent Tryz.func173
def k110:KC:=(.seq (.ops [oP 2 (.box true (.t 0)),oP 3 (.box true (.t 1)),oP 4 (.alloc [.int .i64 0,.int .i64 0,.int .i64 0,.int .i64 0,.int .i64 0,.int .i64 0])])
 (.seq (.draw [oP 5 (.load true 6 (.t 3)),oP 7 (.load true 6 (.t 2)),oP 9 (.load true 6 (.t 3)),oP 6 (.pcall (fC 173) [(.t 5)]),oP 8 (.pcall (fC 137) [(.t 6),(.t 7)]),oP 10 (.pcall (fC 137) [(.t 8),(.t 9)]),⟨none,none,.store 6 (.t 4) (.t 10)⟩])
 .ret))
theorem e110:Ent 110 11 [2,3] [.cell 4 true 6] k110:=ent Tryz.func110
def k184_b0:KC:=(.seq (.seq (.ops [mV 16 5,oP 17 (.fieldA 0 (.t 2)),oP 18 (.load false 1 (.t 17)),oP 19 (.bin .lss (.t 16) (.t 18))])
 (.cond (.t 19) .skip (.exit 0)))
 (.seq (.block 1 (.seq (.draw [mV 22 5,oP 23 (.fieldA 1 (.t 2)),oP 24 (.idxA 5 1 (.t 23) (.t 22)),oP 25 (.load false 1 (.t 24)),mV 26 5,oP 27 (.fieldA 1 (.t 3)),oP 28 (.idxA 5 1 (.t 27) (.t 26)),oP 29 (.load false 1 (.t 28)),oP 30 (.bin .neq (.t 25) (.t 29))])
 (.cond (.t 30) (.seq (.draw [mV 31 5,oP 32 (.fieldA 1 (.t 2)),oP 33 (.idxA 5 1 (.t 32) (.t 31)),oP 34 (.load false 1 (.t 33)),mV 35 5,oP 36 (.fieldA 1 (.t 3)),oP 37 (.idxA 5 1 (.t 36) (.t 35)),oP 38 (.load false 1 (.t 37)),oP 39 (.bin .lss (.t 34) (.t 38)),mV 4 39])
 .ret) .skip)))
 (.ops [mV 20 5,oP 21 (.bin .add (.t 20) (iC 1)),mV 5 21])))
def k184:KC:=(.seq (.ops [oP 2 (.box true (.t 0)),oP 3 (.box true (.t 1)),oP 4 (.mv (.c (.bool false)))])
 (.seq (.seq (.ops [oP 6 (.fieldA 0 (.t 2)),oP 7 (.load false 1 (.t 6)),oP 8 (.fieldA 0 (.t 3)),oP 9 (.load false 1 (.t 8)),oP 10 (.bin .neq (.t 7) (.t 9))])
 (.cond (.t 10) (.seq (.ops [oP 11 (.fieldA 0 (.t 2)),oP 12 (.load false 1 (.t 11)),oP 13 (.fieldA 0 (.t 3)),oP 14 (.load false 1 (.t 13)),oP 15 (.bin .lss (.t 12) (.t 14)),mV 4 15])
 .ret) .skip))
 (.seq (.seq (.ops [oP 5 (.mv (iC 0))])
 (.block 0 (.loop k184_b0)))
 (.seq (.ops [oP 4 (.mv (.c (.bool false)))])
 .ret))))
theorem e184:Ent 184 40 [2,3] [.t 4] k184:=ent Tryz.func184
end
section
attribute [local irreducible] ACall PCall KL
theorem nodup_le:∀ (n:Nat) (l:List Nat),l.Nodup→(∀ x∈l,x<n)→l.length≤n
 | 0,l,_,h=>by
  cases l with
  | nil=>simp
  | cons a l=>have:=h a (by simp); omega
 | n+1,l,hl,h=>by
  by_cases hm:n∈l
  ·have h1:=nodup_le n (l.erase n) (hl.erase n) fun x hx=>by
    have:=(hl.mem_erase_iff).1 hx
    have:=h x this.2
    omega
   rw [List.length_erase_of_mem hm] at h1
   omega
  ·have:=nodup_le n l hl fun x hx=>by
    have h2:=h x hx
    by_cases e:x=n
    ·subst e; exact absurd hx hm
    ·omega
   omega
theorem perm_mem {p:List Nat} {n:Nat} (hp:Ok p n) (hn:p.Nodup) {y:Nat} (hy:y<n):y∈p:=by
 by_cases h:y∈p
 ·exact h
 ·have:=nodup_le n (y :: p) (List.nodup_cons.2 ⟨h,hn⟩) fun x hx=>by
   rcases List.mem_cons.1 hx with rfl | hx
   ·exact hy
   ·exact hp.lt x hx
  simp [hp.len] at this
  omega
def inv (p:List Nat):List Nat:=(List.range p.length).map fun y=>p.idxOf y
def invS (p:List Nat) (b:Nat→Nat) (i:Nat):List Nat:=(List.range p.length).map fun y=>if y∈p.take i then p.idxOf y else b y
@[simp] theorem invS_length (p:List Nat) (b:Nat→Nat) (i:Nat):(invS p b i).length=p.length:=by simp [invS]
theorem invS_zero (p:List Nat) (b:Nat→Nat):invS p b 0=(List.range p.length).map b:=by simp [invS]
theorem invS_succ {p:List Nat} {n:Nat} (hp:Ok p n) (hn:p.Nodup) (b:Nat→Nat) {i:Nat} (hi:i<n):(invS p b i).set (p.getD i 0) i=invS p b (i+1):=by
 have hil:i<p.length:=by rw [hp.len]; exact hi
 have hg:p.getD i 0=p[i]:=by simp [List.getD_eq_getElem?_getD,hil]
 have hpi:p[i]<p.length:=by rw [hp.len]; exact hp.lt _ (List.getElem_mem hil)
 rw [hg]
 apply List.ext_getElem (by simp)
 intro y h1 h2
 simp only [invS_length] at h2
 rw [List.getElem_set]
 simp only [invS,List.getElem_map,List.getElem_range]
 rw [List.take_succ_eq_append_getElem hil]
 by_cases e:p[i]=y
 ·subst e
  rw [if_pos rfl,if_pos (List.mem_append.2 (.inr (List.mem_singleton.2 rfl)))]
  exact (hn.idxOf_getElem i hil).symm
 ·rw [if_neg e]
  by_cases hm:y∈p.take i
  ·rw [if_pos hm,if_pos (List.mem_append.2 (.inl hm))]
  ·rw [if_neg hm,if_neg (by simp only [List.mem_append,List.mem_singleton,not_or]; exact ⟨hm,fun h=>e h.symm⟩)]
theorem invS_all {p:List Nat} {n:Nat} (hp:Ok p n) (hn:p.Nodup) (b:Nat→Nat):invS p b n=inv p:=by
 unfold invS inv
 refine List.map_congr_left fun y hy=>?_
 rw [List.mem_range,hp.len] at hy
 rw [if_pos]
 rw [List.take_of_length_le (by rw [hp.len]; exact Nat.le_refl _)]
 exact perm_mem hp hn hy
theorem inv_ok {p:List Nat} {n:Nat} (hp:Ok p n) (hn:p.Nodup):Ok (inv p) n:=⟨by simp [inv,hp.len],hp.pos,hp.le,fun x hx=>by
 simp only [inv,List.mem_map,List.mem_range,hp.len] at hx
 obtain ⟨y,hy,rfl⟩:=hx
 have:=List.idxOf_lt_length_iff.2 (perm_mem hp hn hy)
 rwa [hp.len] at this⟩
theorem p173 (p:List Nat) (n:Nat) (hp:Ok p n) (hn:p.Nodup):Pure Tryz.prog 173 [.agg (ints (mp p))] (.agg (ints (mp (inv p)))):=by
 have hl6:=hp.mp_len
 have h5:=hp.le
 have e0:mpN (n:Int) (invS p (fun y=>0) 0) = [(n:Int),0,0,0,0,0]:=by
  rw [invS_zero,hp.len,List.map_const',List.length_range,mpN_rep h5]
 refine e173 (by simp) fun _ _=>?_
 simp only [k173,argEnv,hl6,hp.len,go_sem]
 refine KL_ind k173_b0.eq_1 (fun x:Nat=>[(1,.fptr (ints (mp p)) 0),(2,.ptr 0 0),(3,.ptr 1 0),(4,.int .i64 x)]) (fun x=>[.box [.int .i64 0,.int .i64 0,.int .i64 0,.int .i64 0,.int .i64 0,.int .i64 0],.box (ints (mpN n (invS p (fun y=>0) x)))]) (fun x=>x≤n) (fun x=>n - x) [1,2,3,4] 0 (by simp [keep]) (by rw [e0]; rfl) (Nat.zero_le _) fun x hx ih=>?_
 have h6:(mpN (n:Int) (invS p (fun y=>0) x)).length=6:=mpN_length (by simp [hp.len]; exact h5)
 have hg:=hp.get' x
 have hn0:∀ k:Nat,(k:Int).toNat=k:=fun k=>by omega
 try simp only [hl6,h6,hn0,hp.len,go_sem]
 refine ⟨fun h1=>?_,fun h1=>?_⟩
 ·have hxn:x<n:=by omega
  have hs:=invS_succ hp hn (fun y=>0) hxn
  have hms:(mpN (n:Int) (invS p (fun y=>0) x)).set (p.getD x 0+1) (x:Int)=mpN n (invS p (fun y=>0) (x+1)):=by
   rw [mpN_set (by simp [hp.len]; exact hg),hs]
  refine ⟨by omega,by omega,fun _=>⟨by omega,by omega,by omega,ih (x+1) (by omega) (by omega) _ _ (by simp [keep]) (by rw [hms])⟩⟩
 ·obtain rfl:x=n:=by omega
  have h6':=h6
  rw [invS_all hp hn] at h6'
  rw [invS_all hp hn]
  have e:mpN (x:Int) (inv p)=mp (inv p):=by rw [mp,(inv_ok hp hn).len]
  rw [e] at h6' ⊢
  try simp only [h6',go_sem]
  exact Kv.Fin.still ⟨rfl,rfl⟩
def rnm (f p:List Nat):List Nat:=mul (mul (inv p) f) p
theorem rnm_ok {f p:List Nat} {n:Nat} (hf:Ok f n) (hp:Ok p n) (hn:p.Nodup):Ok (rnm f p) n:=((inv_ok hp hn).mul hf).mul hp
theorem p110 (f p:List Nat) (n:Nat) (hf:Ok f n) (hp:Ok p n) (hn:p.Nodup):Pure Tryz.prog 110 [.agg (ints (mp f)),.agg (ints (mp p))] (.agg (ints (mp (rnm f p)))):=by
 have hlf:=hf.mp_len
 have hlp:=hp.mp_len
 have hi:=inv_ok hp hn
 have h6:(mp (mul (mul (inv p) f) p)).length=6:=(rnm_ok hf hp hn).mp_len
 refine e110 (by simp) fun _ _=>?_
 simp only [k110,argEnv,hlf,hlp,go_sem]
 refine (p173 p n hp hn).pgo ?_
 try simp only [go_sem]
 refine (p137 _ f n hi hf).pgo ?_
 try simp only [go_sem]
 refine (p137 _ p n (hi.mul hf) hp).pgo ?_
 try simp only [h6,go_sem]
 exact Kv.Fin.still ⟨rfl,rfl⟩
def cmpL:List Int→List Int→Int
 | a :: xs,b :: ys=>if a<b then -1 else if b<a then 1 else cmpL xs ys
 | _,_=>0
theorem cmpL_same:∀ l,cmpL l l=0
 | []=>rfl
 | a :: l=>by simp [cmpL,cmpL_same l]
theorem cmpL_app:∀ (xs ys zs:List Int),xs.length=ys.length→cmpL (xs ++ zs) (ys ++ zs)=cmpL xs ys
 | [],[],zs,_=>by simp [cmpL,cmpL_same]
 | a :: xs,b :: ys,zs,h=>by
  simp only [List.cons_append,cmpL]
  rw [cmpL_app xs ys zs (by simpa using h)]
 | [],_ :: _,_,h=>by simp at h
 | _ :: _,[],_,h=>by simp at h
theorem cmpL_drop {xs ys:List Int} {i:Nat} (h1:i<xs.length) (h2:i<ys.length):cmpL (xs.drop i) (ys.drop i)=if xs.getD i 0<ys.getD i 0 then -1 else if ys.getD i 0<xs.getD i 0 then 1 else cmpL (xs.drop (i+1)) (ys.drop (i+1)):=by
 rw [List.drop_eq_getElem_cons h1,List.drop_eq_getElem_cons h2,cmpL]
 simp [List.getD_eq_getElem?_getD,h1,h2]
def ltM (f g:List Nat):Bool:=decide (cmpL (f.map fun x:Nat=>(x:Int)) (g.map fun x:Nat=>(x:Int))<0)
theorem p184 (f g:List Nat) (n:Nat) (hf:Ok f n) (hg:Ok g n):Pure Tryz.prog 184 [.agg (ints (mp f)),.agg (ints (mp g))] (.bool (ltM f g)):=by
 have hlf:=hf.mp_len
 have hlg:=hg.mp_len
 have h5:=hf.le
 have hml:(f.map fun x:Nat=>(x:Int)).length=n:=by simp [hf.len]
 have hmg:(g.map fun x:Nat=>(x:Int)).length=n:=by simp [hg.len]
 have hgf:∀ x,x<n→(f.map fun x:Nat=>(x:Int)).getD x 0=(f.getD x 0:Int):=fun x _=>natD f x
 have hgg:∀ x,x<n→(g.map fun x:Nat=>(x:Int)).getD x 0=(g.getD x 0:Int):=fun x _=>natD g x
 refine e184 (by simp) fun _ _=>?_
 simp only [k184,argEnv,hlf,hlg,hf.len,hg.len,go_sem]
 refine KL_ind k184_b0.eq_1 (fun x:Nat=>[(2,.fptr (ints (mp f)) 0),(3,.fptr (ints (mp g)) 0),(5,.int .i64 x)]) (fun _=>[]) (fun x=>x≤n∧cmpL (f.map fun x:Nat=>(x:Int)) (g.map fun x:Nat=>(x:Int))=cmpL ((f.map fun x:Nat=>(x:Int)).drop x) ((g.map fun x:Nat=>(x:Int)).drop x)) (fun x=>n - x) [2,3,5] 0 (by simp [keep]) rfl ⟨Nat.zero_le _,by simp⟩ fun x ⟨hx,hc⟩ ih=>?_
 try simp only [hlf,hlg,hf.len,hg.len,go_sem]
 refine ⟨fun h1=>?_,fun h1=>?_⟩
 ·have hxn:x<n:=by omega
  have hd:=cmpL_drop (xs:=f.map fun x:Nat=>(x:Int)) (ys:=g.map fun x:Nat=>(x:Int)) (i:=x) (by omega) (by omega)
  rw [hgf x hxn,hgg x hxn] at hd
  refine ⟨by omega,by omega,fun _=>⟨by omega,by omega,fun _=>⟨fun h2=>⟨by omega,by omega,fun _=>⟨by omega,by omega,fun _=>Kv.Fin.still ⟨?_,rfl⟩⟩⟩,fun h2=>⟨by omega,ih (x+1) ⟨by omega,?_⟩ (by omega) _ _ (by simp [keep]) rfl⟩⟩⟩⟩
  ·unfold ltM
   rw [hc,hd]
   by_cases h3:(f.getD x 0:Int)<g.getD x 0
   ·rw [if_pos h3]; simp only [h3]; rfl
   ·rw [if_neg h3,if_pos (by omega)]; simp only [h3]; rfl
  ·rw [hc,hd,if_neg (by omega),if_neg (by omega)]
 ·obtain rfl:x=n:=by omega
  have e:cmpL (f.map fun x:Nat=>(x:Int)) (g.map fun x:Nat=>(x:Int))=0:=by
   rw [hc,List.drop_of_length_le (by omega),List.drop_of_length_le (by omega)]; rfl
  refine Kv.Fin.still ⟨?_,rfl⟩
  unfold ltM; rw [e]; rfl
end
end
end Go.Proofs.YtcfmmmloeaggmaaGreat
section

end
namespace Go.Proofs.YtcfmmmloeaggmaaGreat
open Go.Kv
set_option linter.unusedVariables false
set_option linter.unusedSimpArgs false
section
section
attribute [local irreducible] ACall PCall KL
def nbl (n:Nat):List Nat→Nat
 | []=>0
 | a :: r=>a * n ^ r.length+nbl n r
theorem nbl_lt {n:Nat}:∀ {l:List Nat},(∀ x∈l,x<n)→nbl n l<n ^ l.length
 | [],_=>by simp [nbl]
 | a :: r,h=>by
  have h1:=nbl_lt (l:=r) fun x hx=>h x (by simp [hx])
  have h2:=h a (by simp)
  simp only [nbl,List.length_cons,Nat.pow_succ]
  have h3:(a+1) * n ^ r.length≤n * n ^ r.length:=Nat.mul_le_mul_right _ h2
  rw [Nat.succ_mul] at h3
  rw [Nat.mul_comm (n ^ r.length) n]
  omega
theorem cmp_nbl {n:Nat}:∀ (f g:List Nat),f.length=g.length→(∀ x∈f,x<n)→(∀ x∈g,x<n)→(cmpL (f.map fun x:Nat=>(x:Int)) (g.map fun x:Nat=>(x:Int))<0↔nbl n f<nbl n g)
 | [],[],_,_,_=>by simp [cmpL]
 | [],_ :: _,h,_,_=>by simp at h
 | _ :: _,[],h,_,_=>by simp at h
 | a :: r,b :: s,h,hf,hg=>by
  have hl:r.length=s.length:=by simpa using h
  have ih:=cmp_nbl r s hl (fun x hx=>hf x (by simp [hx])) (fun x hx=>hg x (by simp [hx]))
  have h1:=nbl_lt (l:=r) fun x hx=>hf x (by simp [hx])
  have h2:=nbl_lt (l:=s) fun x hx=>hg x (by simp [hx])
  simp only [List.map_cons,cmpL,nbl]
  rw [hl] at h1 ⊢
  by_cases e1:a<b
  ·have h3:(a+1) * n ^ s.length≤b * n ^ s.length:=Nat.mul_le_mul_right _ e1
   rw [Nat.succ_mul] at h3
   rw [if_pos (by omega)]
   constructor
   ·intro _; omega
   ·intro _; omega
  ·by_cases e2:b<a
   ·have h3:(b+1) * n ^ s.length≤a * n ^ s.length:=Nat.mul_le_mul_right _ e2
    rw [Nat.succ_mul] at h3
    rw [if_neg (by omega),if_pos (by omega)]
    constructor
    ·intro h; omega
    ·intro _; omega
   ·obtain rfl:a=b:=by omega
    rw [if_neg (by omega),if_neg (by omega),ih]
    omega
theorem ltM_nbl {f g:List Nat} {n:Nat} (hf:Ok f n) (hg:Ok g n):ltM f g=true↔nbl n f<nbl n g:=by
 unfold ltM
 rw [decide_eq_true_iff]
 exact cmp_nbl f g (by rw [hf.len,hg.len]) hf.lt hg.lt
theorem nbl_dg {n:Nat} (hn:1≤n):∀ j k,nbl n (dg n j k)=k % n ^ j
 | 0,k=>by simp [dg,nbl,Nat.mod_one]
 | j+1,k=>by
  simp only [dg,nbl,dg_length,nbl_dg hn j k]
  rw [Nat.pow_succ,Nat.mod_mul,Nat.mul_comm,Nat.add_comm]
theorem nbl_at {n k:Nat} (hn:1≤n) (hk:k<n ^ n):nbl n (dg n n k)=k:=by rw [nbl_dg hn,Nat.mod_eq_of_lt hk]
theorem dg_nbl {n:Nat} {f:List Nat} (hf:Ok f n):nbl n f<n ^ n∧dg n n (nbl n f)=f:=by
 have h:=allM_mem hf.pos hf.len hf.lt
 simp only [allM,List.mem_map,List.mem_range] at h
 obtain ⟨k,hk,rfl⟩:=h
 rw [nbl_at hf.pos hk]
 exact ⟨hk,rfl⟩
theorem nbl_inj {n:Nat} {f g:List Nat} (hf:Ok f n) (hg:Ok g n) (h:nbl n f=nbl n g):f=g:=by
 rw [← (dg_nbl hf).2,h,(dg_nbl hg).2]
end
end
section
section
set_option maxRecDepth 100000
def k183_b0:KC:=(.seq (.seq (.ops [mV 10 5,mV 11 6,oP 12 (.bin .lss (.t 10) (.t 11))])
 (.cond (.t 12) .skip (.exit 0)))
 (.block 1 (.seq (.ops [mV 13 5,mV 14 6,oP 15 (.bin .add (.t 13) (.t 14)),oP 16 (.bin .quo (.t 15) (iC 2)),mV 7 16])
 (.seq (.draw [mV 17 0,mV 18 7,oP 19 (.idxS 6 (.t 17) (.t 18)),oP 20 (.load true 6 (.t 19)),oP 21 (.load true 6 (.t 3)),oP 22 (.pcall (fC 184) [(.t 20),(.t 21)])])
 (.cond (.t 22) (.ops [mV 23 7,oP 24 (.bin .add (.t 23) (iC 1)),mV 5 24]) (.ops [mV 25 7,mV 6 25]))))))
def k183:KC:=(.seq (.ops [oP 3 (.box true (.t 1)),oP 4 (.mv (iC 0))])
 (.seq (.ops [mV 8 0,oP 9 (.len false (.t 8)),oP 5 (.mv (iC 0)),mV 6 9])
 (.seq (.block 0 (.loop k183_b0))
 (.seq (.seq (.draw [mV 26 5,mV 27 0,oP 28 (.len false (.t 27)),oP 29 (.bin .lss (.t 26) (.t 28)),mV 30 29,⟨(some 31),some (30,true),.mv (.t 0)⟩,⟨(some 32),some (30,true),.mv (.t 5)⟩,⟨(some 33),some (30,true),.idxS 6 (.t 31) (.t 32)⟩,⟨(some 34),some (30,true),.load true 6 (.t 33)⟩,⟨(some 35),some (30,true),.load true 6 (.t 3)⟩,⟨(some 36),some (30,true),.aeq false 6 (.t 34) (.t 35)⟩,oP 37 (.pick (.t 30) (.t 36) (.c (.bool false)))])
 (.cond (.t 37) (.seq (.ops [mV 38 5,mV 4 38])
 .ret) .skip))
 (.seq (.ops [oP 4 (.mv (iC (-1)))])
 .ret)))))
theorem e183:Ent 183 39 [3] [.t 4] k183:=ent Tryz.func183
def k134_b0:KC:=(.seq (.seq (.ops [mV 11 5,mV 12 6,oP 13 (.bin .lss (.t 11) (.t 12))])
 (.cond (.t 13) .skip (.exit 0)))
 (.block 1 (.seq (.ops [mV 14 5,mV 15 6,oP 16 (.bin .add (.t 14) (.t 15)),oP 17 (.bin .quo (.t 16) (iC 2)),mV 7 17])
 (.seq (.draw [mV 18 0,mV 19 7,oP 20 (.idxS 6 (.t 18) (.t 19)),oP 21 (.load true 6 (.t 20)),oP 22 (.load true 6 (.t 3)),oP 23 (.pcall (fC 184) [(.t 21),(.t 22)])])
 (.cond (.t 23) (.ops [mV 24 7,oP 25 (.bin .add (.t 24) (iC 1)),mV 5 25]) (.ops [mV 26 7,mV 6 26]))))))
abbrev k134s0:KT:=(.op (oP 47 (.app (.t 44) (.t 46) 48 6)) (.op (mV 8 47) .fin))
abbrev k134s1:KT:=(.op (oP 46 (.bsl true 48 6 [(.t 45)])) k134s0)
abbrev k134s2:KT:=(.op (oP 44 (.app (.t 40) (.t 43) 48 6)) k134s0)
abbrev k134s3:KT:=(.alt (.op (oP 44 (.app (.t 40) (.t 43) 48 6)) k134s1) (.op (oP 46 (.bsl true 48 6 [(.t 45)])) k134s2))
abbrev k134s4:KT:=(.alt (.op (oP 44 (.app (.t 40) (.t 43) 48 6)) (.op (oP 45 (.load true 6 (.t 3))) k134s1)) (.op (oP 45 (.load true 6 (.t 3))) k134s3))
abbrev k134s5:KT:=(.op (oP 43 (.sls 6 (.t 41) none (some (.t 42)))) k134s2)
abbrev k134s6:KT:=(.alt (.op (oP 43 (.sls 6 (.t 41) none (some (.t 42)))) k134s3) (.op (oP 46 (.bsl true 48 6 [(.t 45)])) k134s5))
abbrev k134s7:KT:=(.op (oP 40 (.bsl false 48 6 [])) k134s2)
abbrev k134s8:KT:=(.alt (.op (oP 40 (.bsl false 48 6 [])) k134s3) (.op (oP 46 (.bsl true 48 6 [(.t 45)])) k134s7))
def k134:KC:=(.seq (.ops [oP 3 (.box true (.t 1)),oP 4 (.mv (.c (.nils)))])
 (.seq (.ops [mV 9 0,oP 10 (.len false (.t 9)),oP 5 (.mv (iC 0)),mV 6 10])
 (.seq (.block 0 (.loop k134_b0))
 (.seq (.seq (.draw [mV 27 5,mV 28 0,oP 29 (.len false (.t 28)),oP 30 (.bin .lss (.t 27) (.t 29)),mV 31 30,⟨(some 32),some (31,true),.mv (.t 0)⟩,⟨(some 33),some (31,true),.mv (.t 5)⟩,⟨(some 34),some (31,true),.idxS 6 (.t 32) (.t 33)⟩,⟨(some 35),some (31,true),.load true 6 (.t 34)⟩,⟨(some 36),some (31,true),.load true 6 (.t 3)⟩,⟨(some 37),some (31,true),.aeq false 6 (.t 35) (.t 36)⟩,oP 38 (.pick (.t 31) (.t 37) (.c (.bool false)))])
 (.cond (.t 38) (.seq (.ops [mV 39 0,mV 4 39])
 .ret) .skip))
 (.seq (.tree (.op (mV 41 0) (.op (mV 42 5) (.alt (.op (oP 40 (.bsl false 48 6 [])) (.alt (.op (oP 43 (.sls 6 (.t 41) none (some (.t 42)))) k134s4) (.op (oP 45 (.load true 6 (.t 3))) k134s6))) (.alt (.op (oP 43 (.sls 6 (.t 41) none (some (.t 42)))) (.alt (.op (oP 40 (.bsl false 48 6 [])) k134s4) (.op (oP 45 (.load true 6 (.t 3))) k134s8))) (.op (oP 45 (.load true 6 (.t 3))) (.alt (.op (oP 40 (.bsl false 48 6 [])) k134s6) (.alt (.op (oP 43 (.sls 6 (.t 41) none (some (.t 42)))) k134s8) (.op (oP 46 (.bsl true 48 6 [(.t 45)])) (.alt (.op (oP 40 (.bsl false 48 6 [])) k134s5) (.op (oP 43 (.sls 6 (.t 41) none (some (.t 42)))) k134s7)))))))))))
 (.seq (.ops [mV 48 8,mV 49 0,mV 50 5,oP 51 (.sls 6 (.t 49) (some (.t 50)) none),oP 52 (.app (.t 48) (.t 51) 48 6),mV 4 52])
 .ret))))))
theorem e134:Ent 134 53 [3,46] [.t 4] k134:=ent Tryz.func134
end
section
attribute [local irreducible] ACall PCall KL
def SrM (n:Nat) (S:List (List Nat)):Prop:=(∀ f∈S,Ok f n)∧S.Pairwise (fun a b=>nbl n a<nbl n b)
def loM (n:Nat) (S:List (List Nat)) (f:List Nat):Nat:=(S.takeWhile fun x=>decide (nbl n x<nbl n f)).length
theorem loM_le (n:Nat) (S:List (List Nat)) (f:List Nat):loM n S f≤S.length:=by
 unfold loM
 exact (List.takeWhile_sublist _).length_le
theorem loM_iff {n:Nat}:∀ {S:List (List Nat)} (f:List Nat),S.Pairwise (fun a b=>nbl n a<nbl n b)→∀ i (h:i<S.length),nbl n S[i]<nbl n f↔i<loM n S f
 | [],f,_,i,h=>by simp at h
 | a :: S,f,hp,i,h=>by
  rw [List.pairwise_cons] at hp
  unfold loM
  rw [List.takeWhile_cons]
  by_cases ha:nbl n a<nbl n f
  ·rw [if_pos (by simpa using ha),List.length_cons]
   cases i with
   | zero=>simp [ha]
   | succ i =>
    have:=loM_iff f hp.2 i (by simpa using h)
    simp only [List.getElem_cons_succ]
    rw [this]; unfold loM; omega
  ·rw [if_neg (by simpa using ha)]
   simp only [List.length_nil,Nat.not_lt_zero,iff_false]
   cases i with
   | zero=>exact ha
   | succ i =>
    have:=hp.1 _ (List.getElem_mem (by simpa using h:i<S.length))
    simp only [List.getElem_cons_succ]
    omega
theorem p183 (n:Nat) (S:List (List Nat)) (hS:SrM n S) (hl:S.length≤100000) (f:List Nat) (hf:Ok f n):Pure Tryz.prog 183 [.list (aggs (S.map mp)),.agg (ints (mp f))] (.int .i64 (if loM n S f<S.length∧S.getD (loM n S f) []=f then loM n S f else -1)):=by
 have hlf:=hf.mp_len
 have hle:=loM_le n S f
 refine e183 (by simp) fun _ _=>?_
 simp only [k183,argEnv,hlf,go_sem]
 try simp only [OpK_eq,HKv,hlf,aggs_length,List.length_map,go_sem]
 have hSl:(S.map mp).length=S.length:=List.length_map _
 refine KL_ind k183_b0.eq_1 (fun y:Nat × Nat=>[(0,.list (aggs (S.map mp))),(3,.fptr (ints (mp f)) 0),(5,.int .i64 y.1),(6,.int .i64 y.2),(31,.undef),(32,.undef),(33,.undef),(34,.undef),(35,.undef),(36,.undef)]) (fun _=>[]) (fun y=>y.1≤loM n S f∧loM n S f≤y.2∧y.2≤S.length) (fun y=>y.2 - y.1) [0,3,5,6,31,32,33,34,35,36] (0,S.length) (by simp [keep]) rfl ⟨Nat.zero_le _,hle,Nat.le_refl _⟩ fun ⟨lw,hg⟩ ⟨h1,h2,h3⟩ ih=>?_
 simp only at h1 h2 h3
 try simp only [OpK_eq,HKv,hlf,aggs_length,List.length_map,go_sem]
 refine ⟨fun g1=>?_,fun g1=>?_⟩
 ·have hm:((lw:Int)+hg) / 2=(((lw+hg) / 2:Nat):Int):=by omega
  rw [hm]
  have hmS:(lw+hg) / 2<S.length:=by omega
  have hgm:(S.map mp).getD ((lw+hg) / 2) []=mp S[(lw+hg) / 2]:=by simp [List.getD_eq_getElem?_getD,hmS]
  have hOk:=hS.1 _ (List.getElem_mem hmS)
  have h6m:=hOk.mp_len
  have hiff:=loM_iff f hS.2 ((lw+hg) / 2) hmS
  have hlt:=ltM_nbl hOk hf
  generalize (lw+hg) / 2=m at *
  try simp only [OpK_eq,HKv,hlf,aggs_length,List.length_map,hgm,h6m,go_sem]
  refine ⟨by omega,by omega,by omega,by omega,fun _=>?_⟩
  refine (p184 S[m] f n hOk hf).pgo ?_
  by_cases hb:nbl n S[m]<nbl n f
  ·have e:ltM S[m] f=true:=hlt.2 hb
   have:=hiff.1 hb
   rw [e]
   try simp only [OpK_eq,HKv,go_sem]
   exact ⟨by omega,ih (m+1,hg) ⟨by show m+1≤loM n S f; omega,h2,h3⟩ (by show hg - (m+1)<hg - lw; omega) _ _ (by simp [keep]) rfl⟩
  ·have e:ltM S[m] f=false:=by
    cases hc:ltM S[m] f with
    | true=>exact absurd (hlt.1 hc) hb
    | false=>rfl
   have:¬ m<loM n S f:=fun h=>hb (hiff.2 h)
   rw [e]
   try simp only [OpK_eq,HKv,go_sem]
   exact ih (lw,m) ⟨h1,by show loM n S f≤m; omega,by show m≤S.length; omega⟩ (by show m - lw<hg - lw; omega) _ _ (by simp [keep]) rfl
 ·obtain rfl:lw=loM n S f:=by omega
  by_cases hlo:loM n S f<S.length
  ·have hgm:(S.map mp).getD (loM n S f) []=mp S[loM n S f]:=by simp [List.getD_eq_getElem?_getD,hlo]
   have hgs:S.getD (loM n S f) []=S[loM n S f]:=by simp [List.getD_eq_getElem?_getD,hlo]
   have hOk:=hS.1 _ (List.getElem_mem hlo)
   have h6m:=hOk.mp_len
   rw [hgm,hgs,take6 h6m]
   refine ⟨fun _=>⟨by omega,fun _=>⟨h6m,by omega,h6m,fun he=>Kv.Fin.still ⟨?_,rfl⟩,fun he=>Kv.Fin.still ⟨?_,rfl⟩⟩⟩,fun h=>absurd hlo (by omega)⟩
   ·rw [if_pos ⟨hlo,mp_inj he⟩]
   ·rw [if_neg (fun h=>he (by rw [h.2]))]
  ·refine ⟨fun h=>absurd (by omega) hlo,fun _=>Kv.Fin.still ⟨by rw [if_neg (fun h=>hlo h.1)],rfl⟩⟩
theorem ok6' {m:List Int} (hm:m.length=6):okL 6 [PV.agg (ints m)]:=by
 have:=okL_aggs 6 [m]
 simp only [List.mem_singleton,forall_eq,hm] at this
 simpa [aggs] using this
def putM (n:Nat) (S:List (List Nat)) (f:List Nat):List (List Nat):=if loM n S f<S.length∧S.getD (loM n S f) []=f then S else S.take (loM n S f) ++ f :: S.drop (loM n S f)
set_option maxHeartbeats 4000000 in
theorem p134 (n:Nat) (S:List (List Nat)) (hS:SrM n S) (hl:S.length≤100000) (f:List Nat) (hf:Ok f n):Pure Tryz.prog 134 [.list (aggs (S.map mp)),.agg (ints (mp f))] (.list (aggs ((putM n S f).map mp))):=by
 have hlf:=hf.mp_len
 have hle:=loM_le n S f
 refine e134 (by simp) fun _ _=>?_
 simp only [k134,argEnv,hlf,go_sem]
 try simp only [OpK_eq,HKv,hlf,aggs_length,List.length_map,go_sem]
 have hSl:(S.map mp).length=S.length:=List.length_map _
 refine KL_ind k134_b0.eq_1 (fun y:Nat × Nat=>[(0,.list (aggs (S.map mp))),(3,.fptr (ints (mp f)) 0),(5,.int .i64 y.1),(6,.int .i64 y.2),(32,.undef),(33,.undef),(34,.undef),(35,.undef),(36,.undef),(37,.undef)]) (fun _=>[]) (fun y=>y.1≤loM n S f∧loM n S f≤y.2∧y.2≤S.length) (fun y=>y.2 - y.1) [0,3,5,6,32,33,34,35,36,37] (0,S.length) (by simp [keep]) rfl ⟨Nat.zero_le _,hle,Nat.le_refl _⟩ fun ⟨lw,hg⟩ ⟨h1,h2,h3⟩ ih=>?_
 simp only at h1 h2 h3
 try simp only [OpK_eq,HKv,hlf,aggs_length,List.length_map,go_sem]
 refine ⟨fun g1=>?_,fun g1=>?_⟩
 ·have hm:((lw:Int)+hg) / 2=(((lw+hg) / 2:Nat):Int):=by omega
  rw [hm]
  have hmS:(lw+hg) / 2<S.length:=by omega
  have hgm:(S.map mp).getD ((lw+hg) / 2) []=mp S[(lw+hg) / 2]:=by simp [List.getD_eq_getElem?_getD,hmS]
  have hOk:=hS.1 _ (List.getElem_mem hmS)
  have h6m:=hOk.mp_len
  have hiff:=loM_iff f hS.2 ((lw+hg) / 2) hmS
  have hlt:=ltM_nbl hOk hf
  generalize (lw+hg) / 2=m at *
  try simp only [OpK_eq,HKv,hlf,aggs_length,List.length_map,hgm,h6m,go_sem]
  refine ⟨by omega,by omega,by omega,by omega,fun _=>?_⟩
  refine (p184 S[m] f n hOk hf).pgo ?_
  by_cases hb:nbl n S[m]<nbl n f
  ·have e:ltM S[m] f=true:=hlt.2 hb
   have:=hiff.1 hb
   rw [e]
   try simp only [OpK_eq,HKv,go_sem]
   exact ⟨by omega,ih (m+1,hg) ⟨by show m+1≤loM n S f; omega,h2,h3⟩ (by show hg - (m+1)<hg - lw; omega) _ _ (by simp [keep]) rfl⟩
  ·have e:ltM S[m] f=false:=by
    cases hc:ltM S[m] f with
    | true=>exact absurd (hlt.1 hc) hb
    | false=>rfl
   have:¬ m<loM n S f:=fun h=>hb (hiff.2 h)
   rw [e]
   try simp only [OpK_eq,HKv,go_sem]
   exact ih (lw,m) ⟨h1,by show loM n S f≤m; omega,by show m≤S.length; omega⟩ (by show m - lw<hg - lw; omega) _ _ (by simp [keep]) rfl
 ·obtain rfl:lw=loM n S f:=by omega
  have hnew:¬ (loM n S f<S.length∧S.getD (loM n S f) []=f)→putM n S f=S.take (loM n S f) ++ f :: S.drop (loM n S f):=fun h=>by unfold putM; rw [if_neg h]
  generalize hlo':loM n S f=lo at *
  by_cases hc:lo<S.length∧S.getD lo []=f
  ·have hgm:(S.map mp).getD lo []=mp f:=by
    have:(S.map mp).getD lo []=mp (S.getD lo []):=by simp [List.getD_eq_getElem?_getD,hc.1]
    rw [this,hc.2]
   have hp:putM n S f=S:=by unfold putM; rw [hlo',if_pos hc]
   rw [hgm,take6 hlf,hp]
   exact ⟨fun _=>⟨by omega,fun _=>⟨hlf,by omega,hlf,fun _=>Kv.Fin.still ⟨rfl,rfl⟩,fun h=>absurd rfl h⟩⟩,fun h=>absurd hc.1 (by omega)⟩
  ·rw [hnew hc]
   have hS6:∀ r∈S.map mp,r.length=6:=fun r hr=>by
    obtain ⟨g,hg',rfl⟩:=List.mem_map.1 hr
    exact (hS.1 g hg').mp_len
   have hget:lo<S.length→(S.map mp).getD lo []=mp (S.getD lo [])∧Ok (S.getD lo []) n:=fun h=>by
    have e:S.getD lo []=S[lo]:=by simp [List.getD_eq_getElem?_getD,h]
    rw [e]
    exact ⟨by simp [List.getD_eq_getElem?_getD,h],hS.1 _ (List.getElem_mem h)⟩
   have hg6:lo<S.length→((S.map mp).getD lo []).length=6:=fun h=>by rw [(hget h).1]; exact (hget h).2.mp_len
   have hne:lo<S.length→List.take 6 ((S.map mp).getD lo [])≠mp f:=fun h e=>by
    rw [take6 (hg6 h),(hget h).1] at e
    exact hc ⟨h,mp_inj e⟩
   obtain ⟨A,hA⟩:∃ A,A=(S.map mp).take lo:=⟨_,rfl⟩
   obtain ⟨B,hB⟩:∃ B,B=(S.map mp).drop lo:=⟨_,rfl⟩
   have a1:List.take (lo - 0) (S.map mp)=A:=by rw [Nat.sub_zero,hA]
   have a2:List.take lo (S.map mp)=A:=hA.symm
   have b1:List.take (S.length - lo) (List.drop lo (S.map mp))=B:=by rw [hB,List.take_of_length_le (by rw [List.length_drop,List.length_map]; exact Nat.le_refl _)]
   have hAl:A.length=lo:=by rw [hA,List.length_take,List.length_map]; omega
   have hBl:B.length=S.length - lo:=by rw [hB,List.length_drop,List.length_map]
   have hokA:okL 6 (aggs A):=by rw [okL_aggs,hA]; exact fun r hr=>hS6 r (List.mem_of_mem_take hr)
   have hokB:okL 6 (aggs B):=by rw [okL_aggs,hB]; exact fun r hr=>hS6 r (List.mem_of_mem_drop hr)
   have hokS:okL 6 (aggs (S.map mp)):=by rw [okL_aggs]; exact hS6
   have hlen4:lo+1+(S.length - lo)=(A ++ mp f :: B).length:=by rw [List.length_append,List.length_cons]; omega
   have t0:(List.take 0 ([]:List PV)) ++ aggs A=aggs A:=rfl
   have t1:(aggs A).take lo ++ [PV.agg (ints (mp f))]=aggs (A ++ [mp f]):=by
    rw [List.take_of_length_le (by rw [aggs_length]; omega)]; simp [aggs]
   have t2:(aggs (A ++ [mp f])).take (lo+1) ++ aggs B=aggs (A ++ mp f :: B):=by
    rw [List.take_of_length_le (by rw [aggs_length,List.length_append,List.length_singleton]; omega)]; simp [aggs]
   have t3:List.take lo A=A:=List.take_of_length_le (by omega)
   have t4:List.take (lo+1) (A ++ [mp f])=A ++ [mp f]:=List.take_of_length_le (by rw [List.length_append,List.length_singleton]; omega)
   have t5:aggs A ++ [PV.agg (ints (mp f))]=aggs (A ++ [mp f]):=by simp [aggs]
   have t6:aggs (A ++ [mp f]) ++ aggs B=aggs (A ++ mp f :: B):=by simp [aggs]
   have hfin:(S.take lo ++ f :: S.drop lo).map mp=A ++ mp f :: B:=by rw [hA,hB,List.map_append,List.map_cons,List.map_take,List.map_drop]
   have hlen3:(A ++ [mp f]).length=lo+1:=by rw [List.length_append,List.length_singleton]; omega
   rw [hfin]
   clear hfin hA hB
   have hok1:=ok6' hlf
   have hil:(ints (mp f)).length=6:=by rw [ints_length,hlf]
   repeat' (first
    | omega
    | (rw [vT_alt]; refine ⟨?_,?_⟩)
    | exact hg6 (by omega)
    | (have h6':=hg6 (by omega); omega)
    | (rw [take6 (hg6 (by omega))]; exact hg6 (by omega))
    | exact hokA
    | exact hokS
    | exact hokB
    | exact hok1
    | (exfalso; exact hne (by omega) (by assumption))
    | (with_reducible refine And.intro ?_ ?_)
    | (with_reducible intro _)
    | (simp only [OpK_eq,HKv,a1,a2,b1,hAl,hBl,hlen3,t0,t1,t2,t3,t4,t5,t6,hlf,hil,aggs_take,aggs_drop,aggs_length,List.length_map,go_sem]))
   all_goals exact Kv.Fin.freeze (Imm.refa' rfl hlen4) ⟨rfl,rfl⟩
end
end
section
section
attribute [local irreducible] ACall PCall KL
theorem lo_mem {n:Nat} {S:List (List Nat)} (hS:SrM n S) {f:List Nat} (hf:Ok f n):(loM n S f<S.length∧S.getD (loM n S f) []=f)↔f∈S:=by
 constructor
 ·rintro ⟨h1,h2⟩
  rw [← h2,List.getD_eq_getElem?_getD,List.getElem?_eq_getElem h1]
  exact List.getElem_mem _
 ·intro h
  obtain ⟨i,hi,e⟩:=List.getElem_of_mem h
  have hle:=loM_le n S f
  have h1:¬ i<loM n S f:=fun hh=>by
   have:=(loM_iff f hS.2 i hi).2 hh
   rw [e] at this; omega
  have hlo:loM n S f<S.length:=by omega
  have h2:¬ nbl n S[loM n S f]<nbl n f:=fun hh=>by
   have:=(loM_iff f hS.2 _ hlo).1 hh
   omega
  have h3:loM n S f=i:=by
   refine Classical.byContradiction fun hne=>?_
   have:=List.pairwise_iff_getElem.1 hS.2 (loM n S f) i hlo hi (by omega)
   rw [e] at this
   exact h2 this
  refine ⟨hlo,?_⟩
  rw [List.getD_eq_getElem?_getD,List.getElem?_eq_getElem hlo]
  simp only [h3,Option.getD_some]
  exact e
theorem putM_mem {n:Nat} {S:List (List Nat)} (hS:SrM n S) {f:List Nat} (hf:Ok f n) {x:List Nat}:x∈putM n S f↔x=f∨x∈S:=by
 unfold putM
 split
 ·rename_i h
  have:=(lo_mem hS hf).1 h
  exact ⟨fun h=>.inr h,fun h=>by rcases h with rfl | h <;> assumption⟩
 ·rw [List.mem_append,List.mem_cons]
  constructor
  ·rintro (h | h | h)
   ·exact .inr (List.mem_of_mem_take h)
   ·exact .inl h
   ·exact .inr (List.mem_of_mem_drop h)
  ·rintro (h | h)
   ·exact .inr (.inl h)
   ·rw [← List.take_append_drop (loM n S f) S,List.mem_append] at h
    rcases h with h | h
    ·exact .inl h
    ·exact .inr (.inr h)
theorem putM_srm {n:Nat} {S:List (List Nat)} (hS:SrM n S) {f:List Nat} (hf:Ok f n):SrM n (putM n S f):=by
 refine ⟨fun g hg=>?_,?_⟩
 ·rcases (putM_mem hS hf).1 hg with rfl | hg
  ·exact hf
  ·exact hS.1 g hg
 ·unfold putM
  split
  ·exact hS.2
  ·rename_i hno
   have hnm:f ∉ S:=fun h=>hno ((lo_mem hS hf).2 h)
   have hle:=loM_le n S f
   have hfr:∀ x∈S.take (loM n S f),nbl n x<nbl n f:=fun x hx=>by
    obtain ⟨i,hi,rfl⟩:=List.getElem_of_mem hx
    rw [List.length_take] at hi
    rw [List.getElem_take]
    exact (loM_iff f hS.2 i (by omega)).2 (by omega)
   have hbk:∀ x∈S.drop (loM n S f),nbl n f<nbl n x:=fun x hx=>by
    obtain ⟨i,hi,rfl⟩:=List.getElem_of_mem hx
    rw [List.length_drop] at hi
    rw [List.getElem_drop]
    have h1:¬ nbl n S[loM n S f+i]<nbl n f:=fun hh=>by
     have:=(loM_iff f hS.2 _ (by omega)).1 hh
     omega
    have h2:nbl n S[loM n S f+i]≠nbl n f:=fun hh=>hnm (by
     rw [← nbl_inj (hS.1 _ (List.getElem_mem (by omega))) hf hh]
     exact List.getElem_mem _)
    omega
   rw [List.pairwise_append,List.pairwise_cons]
   refine ⟨hS.2.sublist (List.take_sublist _ _),⟨hbk,hS.2.sublist (List.drop_sublist _ _)⟩,fun a ha b hb=>?_⟩
   have h1:=hfr a ha
   rcases List.mem_cons.1 hb with rfl | hb
   ·exact h1
   ·have:=hbk b hb; omega
theorem putM_len {n:Nat} {S:List (List Nat)} (f:List Nat):(putM n S f).length≤S.length+1:=by
 have hle:=loM_le n S f
 unfold putM
 split
 ·omega
 ·rw [List.length_append,List.length_cons,List.length_take,List.length_drop]; omega
def plM (n:Nat) (S:List (List Nat)) (f:List Nat):Int:=if loM n S f<S.length∧S.getD (loM n S f) []=f then loM n S f else -1
def rowM (n:Nat) (S:List (List Nat)) (f:List Nat):List Int:=S.map fun g=>plM n S (mul f g)
def tabM (n:Nat) (S:List (List Nat)):List (List Int):=S.map fun f=>rowM n S f
end
end
section
section
attribute [local irreducible] ACall PCall KL
structure WG (σ:Heap) (A:Nat→Prop) (q ver:Nat) (ws:List PV) (L:List (List Int)):Prop where
 out:σ[q]? = some (.arr ver 25 1 ws)
 len:ws.length=L.length
 row:∀ (i:Nat) (w:PV) (l:List Int),ws[i]? = some w→L[i]? = some l→Wd σ (fun id=>A id∨id=q) w l
theorem WG.cell {σ:Heap} {A:Nat→Prop} {q ver:Nat} {ws:List PV} {L:List (List Int)} (h:WG σ A q ver ws L) {i:Nat} (hi:i<L.length):∃ w,ws[i]? = some w∧Wd σ (fun id=>A id∨id=q) w L[i]:=by
 have hw:i<ws.length:=by rw [h.len]; exact hi
 exact ⟨ws[i],by simp [hw],h.row i _ _ (by simp [hw]) (by simp [hi])⟩
theorem WG.keep {σ σ':Heap} {A:Nat→Prop} {q ver:Nat} {ws:List PV} {L:List (List Int)} (h:WG σ A q ver ws L) (hk:∀ id,id < σ.length→¬ A id→σ'[id]? = σ[id]?) (hq:¬ A q):WG σ' A q ver ws L where
 out:=(hk q (List.getElem?_eq_some_iff.1 h.out).1 hq).trans h.out
 len:=h.len
 row:=fun i w m hw hm=>(h.row i w m hw hm).keep fun id hid hA=>⟨hk id hid (fun h=>hA (.inl h)),hA⟩
theorem WG.push {σ:Heap} {A:Nat→Prop} {q ver:Nat} {ws:List PV} {L:List (List Int)} (h:WG σ A q ver ws L) {l:List Int} {w:PV} (hw:Wd σ (fun id=>A id∨id=q) w l) (hl:L.length≤1000) {K:PV→Heap→Prop}
  (hK:WG (σ.set q (.arr (ver+1) 25 1 (ws ++ [w]))) A q (ver+1) (ws ++ [w]) (L ++ [l])→K (.ref q (ver+1) 0 (L.length+1)) (σ.set q (.arr (ver+1) 25 1 (ws ++ [w])))) :
  aApp 25 1 (.ref q ver 0 L.length) (.list [w]) σ K:=by
 have hlt:=(List.getElem?_eq_some_iff.1 h.out).1
 have hzl:=h.len
 have hok:okL 1 [w]=True:=by
  rcases hw with ⟨rfl,rfl⟩ | ⟨id,ver,rfl,_,_⟩ <;> simp [okL,PV.cs,PV.ok]
 have hset:∀ id,id < σ.length→¬ (A id∨id=q)→(σ.set q (.arr (ver+1) 25 1 (ws ++ [w])))[id]? = σ[id]?∧¬ (A id∨id=q):=fun id _ hA=>by
  refine ⟨List.getElem?_set_ne ?_,hA⟩
  rintro rfl; exact hA (.inr rfl)
 have hQ:WG (σ.set q (.arr (ver+1) 25 1 (ws ++ [w]))) A q (ver+1) (ws ++ [w]) (L ++ [l]):=by
  refine ⟨List.getElem?_set_self hlt,by simp [h.len],fun i w' m hw' hm=>?_⟩
  rw [List.getElem?_append] at hw' hm
  split at hw'
  ·rename_i hi
   rw [if_pos (by rw [← h.len]; exact hi)] at hm
   exact (h.row i w' m hw' hm).keep hset
  ·rename_i hi
   rw [if_neg (by rw [← h.len]; exact hi)] at hm
   have e1:=List.mem_of_getElem? hw'
   have e2:=List.mem_of_getElem? hm
   simp only [List.mem_singleton] at e1 e2
   subst e1; subst e2
   exact hw.keep hset
 simp only [aApp_ref,h.out,AppR_arr,aNews_list,hok,true_and,AppM_def]
 rw [List.take_of_length_le (by omega)]
 exact ⟨⟨by omega,by simp; omega⟩,hK hQ⟩
end
end
end Go.Proofs.YtcfmmmloeaggmaaGreat
section
namespace Go.Kv
set_option linter.unusedVariables false
def AObj.plain:AObj→Prop
 | .dead=>True
 | .box cs=>∀ c∈cs,Plain c
 | .arr _ _ _ xs=>∀ c∈flat xs,Plain c
theorem Plain.rel {c:PV} (h:Plain c) {φ φ':Frz} {ι ι':List KLoc} {v:Value} (hr:Rel φ ι c v):Rel φ' ι' c v:=by
 have h1:=h.up _ _ _ hr
 have h2:=h.fr φ φ' _ _ h1
 exact h2.mono (.refl _) (fun id l hl=>by simp at hl)
theorem RelL.plain {cs:List PV} (h:∀ c∈cs,Plain c) {φ φ':Frz} {ι ι':List KLoc} {vs:List Value} (hr:RelL φ ι cs vs):RelL φ' ι' cs vs :=
 ⟨hr.1,fun i c v hc hv=>(h c (List.mem_of_getElem? hc)).rel (hr.2 i c v hc hv)⟩
theorem ObjOK.plain {φ φ':Frz} {ι ι':List KLoc} {w:World} {o:AObj} {l:KLoc} (hp:o.plain) (h:ObjOK φ ι w o l):ObjOK φ' ι' w o l:=by
 cases o with
 | dead=>cases l <;> simp [ObjOK]
 | box cs =>
  cases l <;> simp only [ObjOK] at h ⊢
  obtain ⟨C,e,h1,h2,h3⟩:=h
  exact ⟨C,e,h1,h2.plain hp,h3⟩
 | arr v e s xs =>
  cases l <;> simp only [ObjOK] at h ⊢
  obtain ⟨h1,h2,h2',h3,ys,h4,h5,h6⟩:=h
  exact ⟨h1,h2,h2',h3,ys,h4,h5.plain hp,h6⟩
end Go.Kv
end
section
namespace Go.Kv
set_option linter.unusedVariables false
def Gv (σ:Heap) (id:Nat) (c d:PV):Prop:=Imm (solo σ id) c d∨(c=d∧∃ j ver off len,j≠id∧c = .ref j ver off len)
theorem give_trN (n:Nat) {φ:Frz} {ι:List KLoc} {σ:Heap} {w:World} (ho:HOK φ ι σ w) {id ver esz:Nat} {e:TypeId} {xs:List PV} (hid:σ[id]? = some (.arr ver e esz xs)) :
  ∃ φ1 ι1,HOK φ1 ι1 (σ.set id .dead) w∧Tr n φ ι w φ1 ι1 w∧∀ c d v,Gv σ id c d→Rel φ ι c v→Rel φ1 ι1 d v:=by
 have hlt:=(List.getElem?_eq_some_iff.1 hid).1
 have hltι:id < ι.length:=by rw [ho.len]; exact hlt
 have hl:ι[id]? = some ι[id]:=List.getElem?_eq_getElem hltι
 have hobj:=ho.obj id _ _ hid hl
 obtain ⟨k,e',s,u,hu⟩:∃ k e' s u,ι[id]=KLoc.arr k e' s u:=by
  cases hx:ι[id] with
  | dead=>rw [hx] at hobj; exact hobj.elim
  | box b=>rw [hx] at hobj; exact hobj.elim
  | arr k e' s u=>exact ⟨k,e',s,u,rfl⟩
 rw [hu] at hl
 obtain ⟨ho1,hLe⟩:=ho.upd (w':=w) (l':=.arr (k+1) e' s (.slice none 0 0)) (o:=.dead) hl (by simp [KLoc.le]) (Nat.le_refl _) (fun _ _ _=>rfl) (fun b hb=>by simp [KLoc.block,Value.ownBlock] at hb) (fun b hb=>by simp [KLoc.block,Value.ownBlock] at hb) trivial
 let φ1:Frz:=fun b=>if u.ownBlock=some b then allFrz w b else φ b
 have hle:FLe φ φ1:=fun b C hb=>by
  show (if u.ownBlock=some b then allFrz w b else φ b)=some C
  split
  ·rename_i hb2
   have:=ho.nf id _ b hl hb2
   rw [this] at hb; cases hb
  ·exact hb
 have hin:∀ (j:Nat) (x:KLoc) (b:Nat),(ι.set id (.arr (k+1) e' s (.slice none 0 0)))[j]? = some x→x.block=some b→id≠j∧ι[j]? = some x:=fun j x b hx hb=>by
  by_cases ej:id=j
  ·subst ej; rw [List.getElem?_set_self hltι] at hx; cases hx
   simp [KLoc.block,Value.ownBlock] at hb
  ·rw [List.getElem?_set_ne ej] at hx; exact ⟨ej,hx⟩
 have ho2:HOK φ1 (ι.set id (.arr (k+1) e' s (.slice none 0 0))) (σ.set id .dead) w:=by
  refine ⟨ho1.len,fun b C hb=>?_,fun j x b hx hb=>?_,ho1.dis,ho1.lt,fun j o x h1 h2=>(ho1.obj j o x h1 h2).keep hle (.refl _) (fun _ _=>rfl)⟩
  ·replace hb:(if u.ownBlock=some b then allFrz w b else φ b)=some C:=hb
   split at hb
   ·exact (allFrz_hok w).fz b C hb
   ·exact ho.fz b C hb
  ·obtain ⟨hj,hx'⟩:=hin j x b hx hb
   show (if u.ownBlock=some b then allFrz w b else φ b)=none
   rw [if_neg fun hb2:u.ownBlock=some b=>hj (ho.dis id j _ x b hl hx' hb2 hb)]
   exact ho.nf j x b hx' hb
 have ht0:Tr n φ ι w φ1 (ι.set id (.arr (k+1) e' s (.slice none 0 0))) w:=⟨hle,hLe.of_take _,fun _ _ _=>rfl,Nat.le_refl _,fun b ⟨j,x,hx,hb⟩=>.inl ⟨j,x,(hin j x b hx hb).2,hb⟩,rfl,rfl,rfl,fun b C hb=>by
  replace hb:(if u.ownBlock=some b then allFrz w b else φ b)=some C:=hb
  split at hb
  ·rename_i hb2; exact .inr (.inl ⟨id,_,hl,hb2⟩)
  ·exact .inl hb⟩
 refine ⟨φ1,_,ho2,ht0,fun c d v hg hr=>?_⟩
 rcases hg with hi | ⟨rfl,j,vj,off,len,hj,rfl⟩
 ·have:=hi.rel (ho.solo id) hle (fun j o l' b C e f h1 h2 h3 h4 h5=>?_) hr
  ·exact this.mono (.refl _) (by simpa using LLe.append [] (ι.set id (KLoc.arr (k+1) e' s (.slice none 0 0))))
  ·by_cases ej:id=j
   ·subst ej; rw [hl] at h3; cases h3
    show (if u.ownBlock=some b then allFrz w b else φ b)=some C
    rw [if_pos (show u.ownBlock=some b from h4)]; exact allFrz_own h5
   ·exact absurd (solo_ne ej h1) h2
 ·cases hr with
  | ref _ _ _ _ _ k e esz u hh ho' hk' hv' =>
   exact .ref j vj off len v k e esz u (by rw [List.getElem?_set_ne (Ne.symm hj)]; exact hh) ho' hk' hv'
theorem KL_freezeAt {C:Cfg} {b:KC} {Q:Exit→Env→Heap→Prop} {env env0 env':Env} {σ:Heap} (live:List Nat) (hn:C.n0=0) (hE:keep live env=env0) {id ver esz:Nat} {e:TypeId} {xs:List PV} (hid:σ[id]? = some (.arr ver e esz xs))
  (he:∀ t,Gv σ id (Kv.look env0 t) (Kv.look env' t)) (h:KL C b Q env' (σ.set id .dead)):KL C b Q env σ:=by
 refine KL_keep live ?_
 rw [hE]
 intro c hc φ ι a w h1 h2
 obtain ⟨φ1,ι1,hok,htr,hrel⟩:=give_trN 0 h1 hid
 have:=h c hc φ1 ι1 a w hok ⟨⟨h2.1.sz,h2.1.df,fun t=>hrel _ _ _ (he t) (h2.1.rel t)⟩,by simp [hn]⟩
 refine this.mono fun e a' w' ⟨φ',ι',env',σ',g1,g2,g3,g4⟩=>⟨φ',ι',env',σ',?_,g2,g3,g4⟩
 rw [hn] at g1 ⊢
 exact htr.trans g1
theorem Fin.giveAt {n0:Nat} {K:PV→Heap→Prop} {v v':PV} {σ:Heap} {id ver esz:Nat} {e:TypeId} {xs:List PV} (hid:σ[id]? = some (.arr ver e esz xs)) (hg:Gv σ id v v') (h:K v' (σ.set id .dead)):Fin n0 K v σ :=
 ⟨v',σ.set id .dead,fun φ ι w x _ ho hr=>by
  obtain ⟨φ1,ι1,h1,h2,h3⟩:=give_trN n0 ho hid
  exact ⟨φ1,ι1,h2,h1,h3 _ _ _ hg hr⟩,h⟩
end Go.Kv
end
