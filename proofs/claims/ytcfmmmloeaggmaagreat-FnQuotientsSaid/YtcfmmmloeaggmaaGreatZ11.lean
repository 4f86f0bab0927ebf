/- Several texts of this session as one, less what the claim does not need. -/
import Derived.Test.YtcfmmmloeaggmaaGreatZ9
import Derived.Test.YtcfmmmloeaggmaaGreatZ10
import Derived.Test.YtcfmmmloeaggmaaGreatZ7
import Derived.Test.YtcfmmmloeaggmaaGreatCb
import Derived.Test.YtcfmmmloeaggmaaGreatZ8
import Derived.Test.YtcfmmmloeaggmaaGreatFC
import Derived.OpenShut
import Derived.DataElems
import Derived.Test.YtcfmmmloeaggmaaGreatZ6
import Derived.Test.YtcfmmmloeaggmaaGreatZ5
namespace Go.Proofs.YtcfmmmloeaggmaaGreat
open Go.Kv
set_option linter.unusedVariables false
set_option linter.unusedSimpArgs false
section
section
attribute [local irreducible] ACall PCall KL
inductive Rch (fs:List (List Nat)) (n:Nat):List Nat→Prop
 | one:Rch fs n (List.range n)
 | step (g f:List Nat) (hg:Rch fs n g) (hf:f∈fs):Rch fs n (mul g f)
theorem Rch.ok {fs:List (List Nat)} {n:Nat} (h1:1≤n) (h5:n≤5) (hf:∀ f∈fs,Ok f n) {g:List Nat} (h:Rch fs n g):Ok g n:=by
 induction h with
 | one=>exact range_ok h1 h5
 | step g f _ hm ih=>exact ih.mul (hf f hm)
theorem clA_has {fs:List (List Nat)} {n:Nat} {m:List Nat} {Q:List (List Nat)} (hm:Rch fs n m) (hQ:∀ g∈Q,Rch fs n g):∀ k R,k≤fs.length→clA fs m Q k=some R→(∀ t,t<k→mul m (fs.getD t [])∈R)∧∀ g∈R,Rch fs n g
 | 0,R,_,h=>by
  have:Q=R:=by simpa [clA] using h
  subst this
  exact ⟨fun t ht=>by omega,hQ⟩
 | k+1,R,hk,h=>by
  unfold clA at h
  cases hc:clA fs m Q k with
  | none=>rw [hc] at h; cases h
  | some R' =>
   obtain ⟨a,b⟩:=clA_has hm hQ k R' (by omega) hc
   rw [hc] at h
   simp only at h
   have hkm:fs.getD k []∈fs:=by rw [List.getD_eq_getElem?_getD,List.getElem?_eq_getElem (by omega)]; exact List.getElem_mem _
   split at h
   ·rename_i hin
    cases h
    refine ⟨fun t ht=>?_,b⟩
    by_cases e:t=k
    ·subst e; exact hin
    ·exact a t (by omega)
   ·split at h
    ·cases h
    ·cases h
     refine ⟨fun t ht=>?_,fun g hg=>?_⟩
     ·by_cases e:t=k
      ·subst e; simp
      ·exact List.mem_append.2 (.inl (a t (by omega)))
     ·rcases List.mem_append.1 hg with hg | hg
      ·exact b g hg
      ·simp only [List.mem_singleton] at hg
       subst hg
       exact .step m _ hm hkm
theorem clB_has {fs:List (List Nat)} {n:Nat}:∀ i Q,clB fs n i=some Q→List.range n∈Q∧(∀ g∈Q,Rch fs n g)∧∀ j m,j<i→Q[j]? = some m→∀ f∈fs,mul m f∈Q
 | 0,Q,h=>by
  have:[List.range n]=Q:=by simpa [clB] using h
  subst this
  refine ⟨by simp,fun g hg=>?_,fun j m hj=>by omega⟩
  simp only [List.mem_singleton] at hg
  subst hg; exact .one
 | i+1,Q,h=>by
  rw [clB] at h
  cases hc:clB fs n i with
  | none=>rw [hc] at h; cases h
  | some Q' =>
   obtain ⟨a,b,c⟩:=clB_has i Q' hc
   rw [hc] at h
   simp only at h
   split at h
   ·rename_i m0 hm0
    obtain ⟨r,hr⟩:=clA_pre _ _ h
    obtain ⟨d,e⟩:=clA_has (b m0 (List.mem_of_getElem? hm0)) b fs.length Q (Nat.le_refl _) h
    have hlt:=(List.getElem?_eq_some_iff.1 hm0).1
    refine ⟨by rw [hr]; exact List.mem_append.2 (.inl a),e,fun j m hj hjm f hf=>?_⟩
    by_cases eji:j=i
    ·subst eji
     rw [hr,List.getElem?_append_left hlt,hm0] at hjm
     cases hjm
     obtain ⟨t,ht,rfl⟩:=List.getElem_of_mem hf
     have:=d t ht
     rwa [List.getD_eq_getElem?_getD,List.getElem?_eq_getElem ht] at this
    ·have hj2:Q'[j]? = some m:=by rw [hr,List.getElem?_append_left (by omega)] at hjm; exact hjm
     have:=c j m (by omega) hj2 f hf
     rw [hr]; exact List.mem_append.2 (.inl this)
   ·rename_i hm0
    cases h
    refine ⟨a,b,fun j m hj hjm f hf=>?_⟩
    have hlt:=(List.getElem?_eq_some_iff.1 hjm).1
    have:=List.getElem?_eq_none_iff.1 hm0
    exact c j m (by omega) hjm f hf
structure Mnd (n:Nat) (S:List (List Nat)):Prop where
 srm:SrM n S
 one:List.range n∈S
 mul:∀ f g,f∈S→g∈S→Go.Kv.mul f g∈S
theorem clR_mnd {fs:List (List Nat)} {n:Nat} (h1:1≤n) (h5:n≤5) (hf:∀ f∈fs,Ok f n) {Q:List (List Nat)} (hR:clB fs n 301=some Q):Mnd n (elS n Q):=by
 obtain ⟨c3,c4⟩:=clB_okQ h1 h5 hf _ _ hR
 obtain ⟨s1,s2,s3⟩:=elS_ok c3
 obtain ⟨a,b,c⟩:=clB_has _ _ hR
 refine ⟨s1,(s2 _).2 a,fun f g hfm hgm=>(s2 _).2 ?_⟩
 have hfQ:=(s2 f).1 hfm
 have hr:=b g ((s2 g).1 hgm)
 clear hgm hfm
 induction hr with
 | one=>rw [mul_one (c3 f hfQ)]; exact hfQ
 | step g' f' hg' hf' ih =>
  rw [← mul_assoc (c3 f hfQ) (hg'.ok h1 h5 hf) (hf f' hf')]
  obtain ⟨j,hj,e⟩:=List.getElem_of_mem ih
  exact c j _ (by omega) (by rw [List.getElem?_eq_getElem hj,e]) f' hf'
theorem Mnd.at {n:Nat} {S:List (List Nat)} (h:Mnd n S) {i j:Nat} (hi:i<S.length) (hj:j<S.length):tat (tabM n S) i j=(loM n S (Go.Kv.mul S[i] S[j]):Int)∧loM n S (Go.Kv.mul S[i] S[j])<S.length∧S.getD (loM n S (Go.Kv.mul S[i] S[j])) []=Go.Kv.mul S[i] S[j]:=by
 have hm:=h.mul _ _ (List.getElem_mem hi) (List.getElem_mem hj)
 have hO:=h.srm.1 _ hm
 obtain ⟨h1,h2⟩:=(lo_mem h.srm hO).2 hm
 refine ⟨?_,h1,h2⟩
 have e1:(tabM n S).getD i []=rowM n S S[i]:=by simp [tabM,List.getD_eq_getElem?_getD,hi]
 have e2:(rowM n S S[i]).getD j 0=plM n S (Go.Kv.mul S[i] S[j]):=by simp [rowM,List.getD_eq_getElem?_getD,hj]
 rw [tat,e1,e2,plM,if_pos ⟨h1,h2⟩]
theorem tabM_len {n:Nat} {S:List (List Nat)}:(tabM n S).length=S.length:=by simp [tabM]
theorem Mnd.isTab {n:Nat} {S:List (List Nat)} (h:Mnd n S) (h40:S.length≤40):isTab (tabM n S)=true:=by
 have h0:0<S.length:=List.length_pos_of_mem h.one
 have hrow:∀ r∈tabM n S,rowOk (tabM n S).length r=true:=fun r hr=>by
  obtain ⟨i,hi,rfl⟩:=List.getElem_of_mem hr
  have hiS:i<S.length:=by rw [← tabM_len (n:=n)]; exact hi
  have hri:(tabM n S)[i]=rowM n S S[i]:=by simp [tabM]
  rw [hri,rowOk,Bool.and_eq_true,List.all_eq_true]
  refine ⟨decide_eq_true (by simp [rowM,tabM_len]),fun x hx=>decide_eq_true ?_⟩
  obtain ⟨j,hj,rfl⟩:=List.getElem_of_mem hx
  have hjS:j<S.length:=by simpa [rowM] using hj
  obtain ⟨x1,x2,_⟩:=h.at hiS hjS
  have e1:(rowM n S S[i])[j]=tat (tabM n S) i j:=by
   have e2:(tabM n S).getD i []=rowM n S S[i]:=by simp [tabM,List.getD_eq_getElem?_getD,hiS]
   rw [tat,e2,List.getD_eq_getElem?_getD,List.getElem?_eq_getElem hj]; rfl
  rw [e1,x1,tabM_len]; omega
 unfold Go.Proofs.YtcfmmmloeaggmaaGreat.isTab
 rw [Bool.and_eq_true,List.all_eq_true]
 exact ⟨decide_eq_true (by rw [tabM_len]; omega),hrow⟩
theorem Mnd.asso {n:Nat} {S:List (List Nat)} (h:Mnd n S):Go.Proofs.YtcfmmmloeaggmaaGreat.asso (tabM n S)=true:=by
 have hO:∀ i (hi:i<S.length),Ok S[i] n:=fun i hi=>h.srm.1 _ (List.getElem_mem hi)
 unfold Go.Proofs.YtcfmmmloeaggmaaGreat.asso ascA ascB ascC
 simp only [List.all_eq_true,List.mem_range,tabM_len,decide_eq_true_eq]
 intro a ha b hb c hc
 obtain ⟨x1,x2,x3⟩:=h.at ha hb
 obtain ⟨y1,y2,y3⟩:=h.at hb hc
 have e1:(tat (tabM n S) a b).toNat=loM n S (Go.Kv.mul S[a] S[b]):=by rw [x1]; omega
 have e2:(tat (tabM n S) b c).toNat=loM n S (Go.Kv.mul S[b] S[c]):=by rw [y1]; omega
 rw [e1,e2]
 have z1:=(h.at x2 hc).1
 have z2:=(h.at ha y2).1
 have g1:S[loM n S (Go.Kv.mul S[a] S[b])]=Go.Kv.mul S[a] S[b]:=by
  rw [List.getD_eq_getElem?_getD,List.getElem?_eq_getElem x2] at x3; exact x3
 have g2:S[loM n S (Go.Kv.mul S[b] S[c])]=Go.Kv.mul S[b] S[c]:=by
  rw [List.getD_eq_getElem?_getD,List.getElem?_eq_getElem y2] at y3; exact y3
 rw [z1,z2,g1,g2,mul_assoc (hO a ha) (hO b hb) (hO c hc)]
theorem Mnd.idn {n:Nat} {S:List (List Nat)} (h:Mnd n S):0≤Go.Proofs.YtcfmmmloeaggmaaGreat.idn (tabM n S):=by
 have hO:∀ i (hi:i<S.length),Ok S[i] n:=fun i hi=>h.srm.1 _ (List.getElem_mem hi)
 have hdec:=idx_nonneg (fun e=>okE (tabM n S) e (tabM n S).length) (List.range (tabM n S).length)
 have hone:Ok (List.range n) n:=h.srm.1 _ h.one
 obtain ⟨h1,h2⟩:=(lo_mem h.srm hone).2 h.one
 have hat:∀ i (hi:i<S.length),loM n S S[i]=i:=fun i hi=>by
  obtain ⟨a,b⟩:=(lo_mem h.srm (hO i hi)).2 (List.getElem_mem hi)
  apply Classical.byContradiction
  intro hne
  rw [List.getD_eq_getElem?_getD,List.getElem?_eq_getElem a] at b
  simp only [Option.getD_some] at b
  rcases Nat.lt_or_gt_of_ne hne with hlt | hlt
  ·have:=List.pairwise_iff_getElem.1 h.srm.2 _ _ a hi hlt
   rw [b] at this; omega
  ·have:=List.pairwise_iff_getElem.1 h.srm.2 _ _ hi a hlt
   rw [b] at this; omega
 have hg:S[loM n S (List.range n)]=List.range n:=by
  rw [List.getD_eq_getElem?_getD,List.getElem?_eq_getElem h1] at h2; exact h2
 have hok:okE (tabM n S) (loM n S (List.range n)) (tabM n S).length=true:=by
  unfold okE
  simp only [List.all_eq_true,List.mem_range,tabM_len,Bool.and_eq_true,decide_eq_true_eq]
  intro x hx
  rw [(h.at h1 hx).1,(h.at hx h1).1,hg,one_mul (hO x hx),mul_one (hO x hx),hat x hx]
  exact ⟨rfl,rfl⟩
 have hany:(List.range (tabM n S).length).any (fun e=>okE (tabM n S) e (tabM n S).length)=true:=by
  rw [List.any_eq_true]
  exact ⟨_,List.mem_range.2 (by rw [tabM_len]; exact h1),hok⟩
 rw [hany] at hdec
 exact of_decide_eq_true hdec
theorem Mnd.monB {n:Nat} {S:List (List Nat)} (h:Mnd n S):Go.Proofs.YtcfmmmloeaggmaaGreat.monB (tabM n S)=true:=by
 unfold Go.Proofs.YtcfmmmloeaggmaaGreat.monB
 rw [decide_eq_true h.idn,h.asso]; rfl
end
end
section
section
set_option maxRecDepth 100000
def k98:KC:=(.seq (.ops [oP 4 (.mv (.c (.nils))),oP 5 (.mv (iC 0))])
 (.seq (.ops [mV 9 0,oP 10 (.call (fC 62) [(.t 9),(.c (.nils))]),mV 8 10,oP 11 (.extr 0 (.t 8)),oP 12 (.extr 1 (.t 8)),mV 6 11,mV 7 12])
 (.seq (.seq (.ops [mV 13 7,oP 14 (.bin .neq (.t 13) (iC 0))])
 (.cond (.t 14) (.seq (.ops [mV 15 7,oP 4 (.mv (.c (.nils))),mV 5 15])
 .ret) .skip))
 (.seq (.seq (.ops [mV 16 6,oP 17 (.len false (.t 16)),mV 18 1,oP 19 (.bin .gtr (.t 17) (.t 18))])
 (.cond (.t 19) (.seq (.ops [oP 4 (.mv (.c (.nils))),oP 5 (.mv (iC 3))])
 .ret) .skip))
 (.seq (.ops [mV 20 6,oP 21 (.call (fC 168) [(.t 20)]),mV 4 21,oP 5 (.mv (iC 0))])
 .ret)))))
theorem e98:Ent 98 22 [] [.t 4,.t 5] k98:=ent Tryz.func98
def k90:KC:=(.seq (.ops [oP 2 (.mv (.c (.nils))),oP 3 (.mv (iC 0))])
 (.seq (.ops [mV 8 0,oP 9 (.call (fC 58) [(.t 8),(.c (.nils))]),mV 7 9,oP 10 (.extr 0 (.t 7)),oP 11 (.extr 1 (.t 7)),oP 12 (.extr 2 (.t 7)),mV 4 10,mV 5 11,mV 6 12])
 (.seq (.block 0 (.seq (.ops [mV 14 6,oP 15 (.bin .neq (.t 14) (iC 0)),mV 13 15])
 (.cond (.t 13) (.seq (.ops [mV 16 6,oP 2 (.mv (.c (.nils))),mV 3 16])
 .ret) (.seq (.ops [mV 18 4,oP 19 (.nilck (.t 18)),oP 20 (.fieldA 0 (.t 19)),oP 21 (.load false 1 (.t 20)),oP 22 (.len false (.t 21)),oP 23 (.bin .gtr (.t 22) (iC 30)),mV 17 23])
 (.cond (.t 17) (.seq (.ops [oP 2 (.mv (.c (.nils))),oP 3 (.mv (iC 3))])
 .ret) .skip)))))
 (.seq (.ops [mV 24 4,oP 25 (.call (fC 159) [(.t 24)]),mV 2 25,oP 3 (.mv (iC 0))])
 .ret))))
theorem e90:Ent 90 26 [] [.t 2,.t 3] k90:=ent Tryz.func90
end
section
attribute [local irreducible] ACall PCall KL
attribute [local go_sem] OpK_eq HKv
theorem tab_tbl {n:Nat} {S:List (List Nat)} (h:Mnd n S):TblC (tabM n S) S.length:=by
 have hr:∀ a,a<S.length→(tabM n S).getD a []=rowM n S (S.getD a []):=fun a ha=>by
  simp [tabM,List.getD_eq_getElem?_getD,ha]
 refine ⟨tabM_len,fun a ha=>by rw [hr a ha]; simp [rowM],fun a c ha hc=>?_⟩
 obtain ⟨e1,e2,_⟩:=h.at ha hc
 have:((tabM n S).getD a []).getD c 0=tat (tabM n S) a c:=rfl
 rw [this,e1]; omega
structure GxC (t:List (List Int)) (c:Int):Prop where
 ne:c≠0
 s30:Pure Tryz.prog 98 [.list (aggs t),.int .i64 30] (.tup [.nils,.int .i64 c])
 s12:Pure Tryz.prog 98 [.list (aggs t),.int .i64 12] (.tup [.nils,.int .i64 c])
 ip:Pure Tryz.prog 90 [.list (aggs t)] (.tup [.nils,.int .i64 c])
structure GvC (t T:List (List Int)) (N:Nat):Prop where
 s30:Pure Tryz.prog 98 [.list (aggs t),.int .i64 30] (.tup [.list (rows T),.int .i64 0])
 s12:Pure Tryz.prog 98 [.list (aggs t),.int .i64 12] (if N≤12 then .tup [.list (rows T),.int .i64 0] else .tup [.nils,.int .i64 3])
 ip:Pure Tryz.prog 90 [.list (aggs t)] (.tup [.list (rows T),.int .i64 0])
 tbl:TblC T N
 n30:N≤30
 mon:∃ n S,Mnd n S∧T=tabM n S
set_option maxRecDepth 8000 in
theorem gv_loc (t:List (List Int)) (ht:t.length≤1048576) (h6:∀ r∈t,r.length=6):(∃ c,GxC t c)∨∃ T N,GvC t T N:=by
 by_cases hl:lcode t []=0
 ·obtain ⟨fs,n,e,hf,h0,hfl,hn,h1,h5⟩:=lcode_maps h6 hl
  subst e
  have h0':0<fs.length:=by omega
  have hE:=p62_in fs n h1 h5 hf h0' hfl hl
  have hM:=monOk fs n h1 h5 hf (Nat.le_trans hfl (by decide))
  unfold MonOk at hM
  cases hR:clR fs n with
  | none =>
   rw [hR] at hE hM
   simp only at hE hM
   have hI:=p58_of fs n hf h0' hfl hl _ _ hM
   rw [if_neg (by decide)] at hI
   refine .inl ⟨3,by decide,?_,?_,?_⟩
   ·refine e98 (by simp) fun _ _=>?_
    simp only [k98,argEnv,go_sem]
    refine hE.go ?_
    try simp only [go_sem]
    exact ⟨fun _=>Kv.Fin.still ⟨rfl,rfl⟩,fun h=>absurd h (by decide)⟩
   ·refine e98 (by simp) fun _ _=>?_
    simp only [k98,argEnv,go_sem]
    refine hE.go ?_
    try simp only [go_sem]
    exact ⟨fun _=>Kv.Fin.still ⟨rfl,rfl⟩,fun h=>absurd h (by decide)⟩
   ·refine e90 (by simp) fun _ _=>?_
    simp only [k90,argEnv,go_sem]
    refine hI.go ?_
    try simp only [go_sem]
    exact ⟨fun _=>Kv.Fin.still ⟨rfl,rfl⟩,fun h=>absurd h (by decide)⟩
  | some Q =>
   rw [hR] at hE hM
   simp only at hE hM
   obtain ⟨W,P,hW,hP,hM⟩:=hM
   obtain ⟨c3,c4⟩:=clB_okQ h1 h5 hf _ _ hR
   obtain ⟨s1,s2,s3⟩:=elS_ok c3
   have hMn:=clR_mnd h1 h5 hf hR
   have hI:=p58_of fs n hf h0' hfl hl _ _ hM
   rw [if_pos rfl] at hI
   have hT:=p159 W P hP.1 (elS n Q) n s1.1 (by omega) hP.2.1
   rw [tabP_eq hP s1.1] at hT
   have hT2:=p168 n (elS n Q) s1 (by omega)
   have hml:(moV (.list (aggs ((elS n Q).map mp))) W P).length=3127:=by rw [moV,List.length_cons,List.length_cons,ints_length,hP.1]
   have hm0:(moV (.list (aggs ((elS n Q).map mp))) W P)[0]? = some (.list (aggs ((elS n Q).map mp))):=rfl
   by_cases h30:30<(elS n Q).length
   ·refine .inl ⟨3,by decide,?_,?_,?_⟩
    ·refine e98 (by simp) fun _ _=>?_
     simp only [k98,argEnv,go_sem]
     refine hE.go ?_
     try simp only [aggs_length,List.length_map,go_sem]
     exact ⟨fun _=>Kv.Fin.still ⟨rfl,rfl⟩,fun h=>absurd h (by omega)⟩
    ·refine e98 (by simp) fun _ _=>?_
     simp only [k98,argEnv,go_sem]
     refine hE.go ?_
     try simp only [aggs_length,List.length_map,go_sem]
     exact ⟨fun _=>Kv.Fin.still ⟨rfl,rfl⟩,fun h=>absurd h (by omega)⟩
    ·refine e90 (by simp) fun _ _=>?_
     simp only [k90,argEnv,go_sem]
     refine hI.go ?_
     try simp only [hml,hm0,aggs_length,List.length_map,go_sem]
     exact ⟨fun _=>Kv.Fin.still ⟨rfl,rfl⟩,fun h=>absurd h (by omega)⟩
   ·refine .inr ⟨tabM n (elS n Q),(elS n Q).length,?_,?_,?_,tab_tbl hMn,by omega,n,_,hMn,rfl⟩
    ·refine e98 (by simp) fun _ _=>?_
     simp only [k98,argEnv,go_sem]
     refine hE.go ?_
     try simp only [aggs_length,List.length_map,go_sem]
     refine ⟨fun h=>absurd h (by omega),fun _=>hT2.go ?_⟩
     try simp only [go_sem]
     exact Kv.Fin.still ⟨rfl,rfl⟩
    ·refine e98 (by simp) fun _ _=>?_
     simp only [k98,argEnv,go_sem]
     refine hE.go ?_
     try simp only [aggs_length,List.length_map,go_sem]
     refine ⟨fun h=>?_,fun h=>hT2.go ?_⟩
     ·rw [if_neg (by omega)]
      exact Kv.Fin.still ⟨rfl,rfl⟩
     ·rw [if_pos (by omega)]
      try simp only [go_sem]
      exact Kv.Fin.still ⟨rfl,rfl⟩
    ·refine e90 (by simp) fun _ _=>?_
     simp only [k90,argEnv,go_sem]
     refine hI.go ?_
     try simp only [hml,hm0,aggs_length,List.length_map,go_sem]
     refine ⟨fun h=>absurd h (by omega),fun _=>hT.go ?_⟩
     try simp only [go_sem]
     exact Kv.Fin.still ⟨rfl,rfl⟩
 ·refine .inl ⟨lcode t [],hl,?_,?_,?_⟩
  ·refine e98 (by simp) fun _ _=>?_
   simp only [k98,argEnv,go_sem]
   refine (p62_out t ht h6 hl).go ?_
   try simp only [go_sem]
   exact ⟨fun _=>Kv.Fin.still ⟨rfl,rfl⟩,fun h=>absurd h hl⟩
  ·refine e98 (by simp) fun _ _=>?_
   simp only [k98,argEnv,go_sem]
   refine (p62_out t ht h6 hl).go ?_
   try simp only [go_sem]
   exact ⟨fun _=>Kv.Fin.still ⟨rfl,rfl⟩,fun h=>absurd h hl⟩
  ·refine e90 (by simp) fun _ _=>?_
   simp only [k90,argEnv,go_sem]
   refine (p58_out t ht h6 hl).go ?_
   try simp only [go_sem]
   exact ⟨fun _=>Kv.Fin.still ⟨rfl,rfl⟩,fun h=>absurd h hl⟩
end
end
section
section
set_option maxRecDepth 100000
def k38:KC:=(.seq (.ops [oP 2 (.mv (.c (.nils))),oP 3 (.mv (iC 0))])
 (.seq (.ops [mV 7 0,oP 8 (.call (fC 98) [(.t 7),(iC 30)]),mV 6 8,oP 9 (.extr 0 (.t 6)),oP 10 (.extr 1 (.t 6)),mV 4 9,mV 5 10])
 (.seq (.seq (.ops [mV 11 5,oP 12 (.bin .neq (.t 11) (iC 0))])
 (.cond (.t 12) (.seq (.ops [mV 13 5,oP 2 (.mv (.c (.nils))),mV 3 13])
 .ret) .skip))
 (.seq (.ops [mV 14 4,oP 15 (.call (fC 99) [(.t 14)]),mV 2 15,oP 3 (.mv (iC 0))])
 .ret))))
theorem e38:Ent 38 16 [] [.t 2,.t 3] k38:=ent Tryz.func38
def k40_b0:KC:=(.seq (.seq (.ops [mV 28 10,mV 29 6,oP 30 (.len false (.t 29)),oP 31 (.bin .lss (.t 28) (.t 30))])
 (.cond (.t 31) .skip (.exit 2)))
 (.seq (.block 3 (.draw [mV 34 9,mV 35 34,⟨(some 36),some (35,true),.mv (.t 10)⟩,⟨(some 37),some (35,true),.mv (.t 8)⟩,⟨(some 38),some (35,true),.bin .eql (.t 36) (.t 37)⟩,⟨(some 39),some (35,true),.mv (.t 38)⟩,⟨(some 40),some (39,false),.mv (.t 6)⟩,⟨(some 41),some (39,false),.mv (.t 10)⟩,⟨(some 42),some (39,false),.idxS 1 (.t 40) (.t 41)⟩,⟨(some 43),some (39,false),.load false 1 (.t 42)⟩,⟨(some 44),some (39,false),.mv (.t 6)⟩,⟨(some 45),some (39,false),.mv (.t 8)⟩,⟨(some 46),some (39,false),.idxS 1 (.t 44) (.t 45)⟩,⟨(some 47),some (39,false),.load false 1 (.t 46)⟩,⟨(some 48),some (39,false),.pcall (fC 105) [(.t 43),(.t 47)]⟩,⟨(some 49),some (39,false),.not (.t 48)⟩,⟨(some 50),some (35,true),.pick (.t 39) (.c (.bool true)) (.t 49)⟩,oP 51 (.pick (.t 35) (.t 50) (.c (.bool false))),mV 9 51]))
 (.ops [mV 32 10,oP 33 (.bin .add (.t 32) (iC 1)),mV 10 33])))
def k40_b1:KC:=(.seq (.seq (.ops [mV 22 8,mV 23 6,oP 24 (.len false (.t 23)),oP 25 (.bin .lss (.t 22) (.t 24))])
 (.cond (.t 25) .skip (.exit 0)))
 (.seq (.block 1 (.seq (.ops [oP 9 (.mv (.c (.bool true)))])
 (.seq (.seq (.ops [oP 10 (.mv (iC 0))])
 (.block 2 (.loop k40_b0)))
 (.seq (.ops [mV 52 9])
 (.cond (.t 52) (.ops [mV 53 7,mV 54 6,mV 55 8,oP 56 (.idxS 1 (.t 54) (.t 55)),oP 57 (.load false 1 (.t 56)),oP 58 (.bsl true 25 1 [(.t 57)]),oP 59 (.app (.t 53) (.t 58) 25 1),mV 7 59]) .skip)))))
 (.ops [mV 26 8,oP 27 (.bin .add (.t 26) (iC 1)),mV 8 27])))
def k40:KC:=(.seq (.ops [oP 2 (.mv (.c (.nils))),oP 3 (.mv (iC 0))])
 (.seq (.ops [mV 12 0,oP 13 (.call (fC 98) [(.t 12),(iC 30)]),mV 11 13,oP 14 (.extr 0 (.t 11)),oP 15 (.extr 1 (.t 11)),mV 4 14,mV 5 15])
 (.seq (.seq (.ops [mV 16 5,oP 17 (.bin .neq (.t 16) (iC 0))])
 (.cond (.t 17) (.seq (.ops [mV 18 5,oP 2 (.mv (.c (.nils))),mV 3 18])
 .ret) .skip))
 (.seq (.ops [mV 19 4,oP 20 (.call (fC 99) [(.t 19)]),oP 21 (.bsl false 25 1 []),mV 6 20,mV 7 21])
 (.seq (.seq (.ops [oP 8 (.mv (iC 0))])
 (.block 0 (.loop k40_b1)))
 (.seq (.ops [mV 60 7,mV 2 60,oP 3 (.mv (iC 0))])
 .ret))))))
theorem e40:Ent 40 61 [58] [.t 2,.t 3] k40:=ent Tryz.func40
def k36_b0:KC:=(.seq (.seq (.ops [mV 46 10,mV 47 6,oP 48 (.len false (.t 47)),oP 49 (.bin .lss (.t 46) (.t 48))])
 (.cond (.t 49) .skip (.exit 2)))
 (.seq (.block 3 (.seq (.ops [mV 52 4,mV 53 9,mV 54 6,mV 55 10,oP 56 (.idxS 1 (.t 54) (.t 55)),oP 57 (.load false 1 (.t 56)),oP 58 (.call (fC 101) [(.t 52),(.t 53),(.t 57)]),mV 11 58])
 (.seq (.ops [mV 60 7,mV 61 11,oP 62 (.call (fC 102) [(.t 60),(.t 61)]),mV 59 62,oP 63 (.extr 0 (.t 59)),oP 64 (.extr 1 (.t 59)),mV 12 63,mV 13 64])
 (.seq (.seq (.ops [mV 65 13,oP 66 (.not (.t 65))])
 (.cond (.t 66) (.exit 3) .skip))
 (.seq (.seq (.ops [mV 67 12,oP 68 (.len false (.t 67)),oP 69 (.bin .gtr (.t 68) (iC 300))])
 (.cond (.t 69) (.seq (.ops [oP 2 (.mv (.c (.nils))),oP 3 (.mv (iC 3))])
 .ret) .skip))
 (.seq (.ops [mV 70 12,mV 7 70])
 (.ops [mV 71 8,mV 72 11,oP 73 (.bsl true 25 1 [(.t 72)]),oP 74 (.app (.t 71) (.t 73) 25 1),mV 8 74])))))))
 (.ops [mV 50 10,oP 51 (.bin .add (.t 50) (iC 1)),mV 10 51])))
def k36_b1:KC:=(.seq (.seq (.ops [mV 32 8,oP 33 (.len false (.t 32)),oP 34 (.bin .gtr (.t 33) (iC 0))])
 (.cond (.t 34) .skip (.exit 0)))
 (.block 1 (.seq (.ops [mV 35 8,mV 36 8,oP 37 (.len false (.t 36)),oP 38 (.bin .sub (.t 37) (iC 1)),oP 39 (.idxS 1 (.t 35) (.t 38)),oP 40 (.load false 1 (.t 39)),mV 9 40])
 (.seq (.ops [mV 41 8,mV 42 8,oP 43 (.len false (.t 42)),oP 44 (.bin .sub (.t 43) (iC 1)),oP 45 (.sls 1 (.t 41) none (some (.t 44))),mV 8 45])
 (.seq (.ops [oP 10 (.mv (iC 0))])
 (.block 2 (.loop k36_b0)))))))
def k36:KC:=(.seq (.ops [oP 2 (.mv (.c (.nils))),oP 3 (.mv (iC 0))])
 (.seq (.ops [mV 15 0,oP 16 (.call (fC 98) [(.t 15),(iC 12)]),mV 14 16,oP 17 (.extr 0 (.t 14)),oP 18 (.extr 1 (.t 14)),mV 4 17,mV 5 18])
 (.seq (.seq (.ops [mV 19 5,oP 20 (.bin .neq (.t 19) (iC 0))])
 (.cond (.t 20) (.seq (.ops [mV 21 5,oP 2 (.mv (.c (.nils))),mV 3 21])
 .ret) .skip))
 (.seq (.ops [mV 22 4,oP 23 (.call (fC 99) [(.t 22)]),mV 24 4,oP 25 (.len false (.t 24)),oP 26 (.call (fC 100) [(.t 25)]),oP 27 (.bsl true 25 1 [(.t 26)]),mV 6 23,mV 7 27])
 (.seq (.ops [mV 28 4,oP 29 (.len false (.t 28)),oP 30 (.call (fC 100) [(.t 29)]),oP 31 (.bsl false 25 1 [(.t 30)]),mV 8 31])
 (.seq (.block 0 (.loop k36_b1))
 (.seq (.ops [mV 75 7,mV 2 75,oP 3 (.mv (iC 0))])
 .ret)))))))
theorem e36:Ent 36 76 [27,73] [.t 2,.t 3] k36:=ent Tryz.func36
end
section
attribute [local irreducible] ACall PCall KL
attribute [local go_sem] OpK_eq HKv
theorem p100F (m:Nat) (hm:m≤1000):Pure Tryz.prog 100 [.int .i64 m] (.list (ints (trvC m))) :=
 ACall.ret (p100 m hm) fun v s ⟨hv,hs⟩=>by
  subst hv; subst hs
  exact Kv.Fin.freeze (Imm.refn rfl (by simp [nz])) ⟨rfl,rfl⟩
theorem p38_bad {t:List (List Int)} {c:Int} (h:GxC t c):Pure Tryz.prog 38 [.list (aggs t)] (.tup [.nils,.int .i64 c]):=by
 refine e38 (by simp) fun _ _=>?_
 simp only [k38,argEnv,go_sem]
 refine h.s30.go ?_
 try simp only [go_sem]
 exact ⟨fun _=>Kv.Fin.still ⟨rfl,rfl⟩,fun e=>absurd e h.ne⟩
theorem p40_bad {t:List (List Int)} {c:Int} (h:GxC t c):Pure Tryz.prog 40 [.list (aggs t)] (.tup [.nils,.int .i64 c]):=by
 refine e40 (by simp) fun _ _=>?_
 simp only [k40,argEnv,go_sem]
 refine h.s30.go ?_
 try simp only [go_sem]
 exact ⟨fun _=>Kv.Fin.still ⟨rfl,rfl⟩,fun e=>absurd e h.ne⟩
theorem p36_bad {t:List (List Int)} {c:Int} (h:GxC t c):Pure Tryz.prog 36 [.list (aggs t)] (.tup [.nils,.int .i64 c]):=by
 refine e36 (by simp) fun _ _=>?_
 simp only [k36,argEnv,go_sem]
 refine h.s12.go ?_
 try simp only [go_sem]
 exact ⟨fun _=>Kv.Fin.still ⟨rfl,rfl⟩,fun e=>absurd e h.ne⟩
theorem p38_in {t T:List (List Int)} {N:Nat} (h:GvC t T N):Pure Tryz.prog 38 [.list (aggs t)] (.tup [.list (rows (onesC T N)),.int .i64 0]):=by
 have h30:=h.n30
 refine e38 (by simp) fun _ _=>?_
 simp only [k38,argEnv,go_sem]
 refine h.s30.go ?_
 try simp only [go_sem]
 refine (p99 T N h.tbl (by omega)).go ?_
 try simp only [go_sem]
 exact Kv.Fin.still ⟨rfl,rfl⟩
theorem genC_len (T:List (List Int)) (N:Nat):(genC T N).length≤N * N:=genA_len T N N
theorem onesC_len {T:List (List Int)} {N:Nat} (h:N≤30):(onesC T N).length≤900:=by
 have h1:=srtG_le (genC T N)
 have h2:=genC_len T N
 have h3:N * N≤30 * 30:=Nat.mul_le_mul h h
 unfold onesC; omega
theorem any_takeC {α:Type} {p:α→Bool} {l:List α} {y:Nat} (h:y<l.length):(l.take (y+1)).any p=((l.take y).any p || p l[y]):=by
 rw [List.take_succ_eq_append_getElem h,List.any_append]; simp
theorem filter_takeC {α:Type} {p:α→Bool} {l:List α} {y:Nat} (h:y<l.length):(l.take (y+1)).filter p=if p l[y]=true then (l.take y).filter p ++ [l[y]] else (l.take y).filter p:=by
 rw [List.take_succ_eq_append_getElem h,List.filter_append]
 by_cases e:p l[y]=true <;> simp [e]
theorem p40_in {t T:List (List Int)} {N:Nat} (h:GvC t T N):Pure Tryz.prog 40 [.list (aggs t)] (.tup [.list (rows (lstC (onesC T N))),.int .i64 0]):=by
 have h30:=h.n30
 have hcn:=fun x hx=>(onesC_cn h.tbl x hx).1
 have hnd:(onesC T N).Nodup:=(srtG_ok _).1.nodup
 have hol:=onesC_len (T:=T) h30
 refine e40 (by simp) fun _ _=>?_
 simp only [k40,argEnv,go_sem]
 refine h.s30.go ?_
 try simp only [go_sem]
 refine (p99 T N h.tbl (by omega)).go ?_
 generalize onesC T N=L at *
 try simp only [go_sem]
 unfold lstC
 generalize hp:(fun a:List Int=>!(L.any fun b=>!decide (a=b) && fnB b a))=p
 refine KL_ind k40_b1.eq_1 (fun x:Nat=>[(6,.list (rows L)),(7,.ref 0 ((L.take x).filter p).length 0 ((L.take x).filter p).length),(8,.int .i64 x)]) (fun x=>[.arr ((L.take x).filter p).length 25 1 (rows ((L.take x).filter p))]) (fun x=>x≤L.length) (fun x=>L.length - x) [6,7,8] 0 (by simp [keep]) (by simp [rows]) (Nat.zero_le _) fun x hx ih=>?_
 try simp only [go_sem]
 refine ⟨fun g1=>?_,fun g1=>?_⟩
 ·have hxl:x<L.length:=by omega
  have hgx:L.getD x []=L[x]:=by simp [List.getD_eq_getElem?_getD,hxl]
  refine KL_ind k40_b0.eq_1 (fun y:Nat=>[(6,.list (rows L)),(7,.ref 0 ((L.take x).filter p).length 0 ((L.take x).filter p).length),(8,.int .i64 x),(9,.bool (!((L.take y).any fun b=>!decide (L[x]=b) && fnB b L[x]))),(10,.int .i64 y)]) (fun y=>[.arr ((L.take x).filter p).length 25 1 (rows ((L.take x).filter p))]) (fun y=>y≤L.length) (fun y=>L.length - y) [6,7,8,9,10] 0 (by simp [keep]) rfl (Nat.zero_le _) fun y hy ihy=>?_
  try simp only [go_sem]
  refine ⟨fun g2=>?_,fun g2=>?_⟩
  ·have hyl:y<L.length:=by omega
   have hgy:L.getD y []=L[y]:=by simp [List.getD_eq_getElem?_getD,hyl]
   have hF:=p105 L[y] L[x] ((hcn _ (List.getElem_mem hxl)).len.trans (hcn _ (List.getElem_mem hyl)).len.symm) (by rw [(hcn _ (List.getElem_mem hyl)).len]; omega)
   have hst:=any_takeC (p:=fun b=>!decide (L[x]=b) && fnB b L[x]) hyl
   cases hc:(L.take y).any fun b=>!decide (L[x]=b) && fnB b L[x] with
   | true =>
    rw [hc,Bool.true_or] at hst
    try simp only [go_sem]
    exact ⟨by omega,ihy (y+1) (by omega) (by omega) _ _ (by simp only [hst]; simp [keep]) rfl⟩
   | false =>
    rw [hc,Bool.false_or] at hst
    try simp only [hgx,hgy,go_sem]
    refine ⟨fun ne=>⟨by omega,fun _=>⟨by omega,fun _=>hF.pgo ?_⟩⟩,fun e=>?_⟩
    ·have hne:¬ L[x]=L[y]:=fun e=>by
      have:=(List.getElem_inj hnd).1 e
      omega
     rw [decide_eq_false hne,Bool.not_false,Bool.true_and] at hst
     try simp only [go_sem]
     exact ⟨by omega,ihy (y+1) (by omega) (by omega) _ _ (by simp only [hst]; simp [keep]) rfl⟩
    ·have hyx:y=x:=by omega
     subst hyx
     rw [decide_eq_true rfl,Bool.not_true,Bool.false_and] at hst
     exact ⟨by omega,ihy (y+1) (by omega) (by omega) _ _ (by simp only [hst]; simp [keep]) rfl⟩
  ·have hye:y=L.length:=by omega
   subst hye
   rw [List.take_length]
   have hpx:p L[x] = !(L.any fun b=>!decide (L[x]=b) && fnB b L[x]):=by rw [← hp]
   have hfs:=filter_takeC (p:=p) hxl
   have hfl:=List.length_filter_le p (L.take x)
   rw [List.length_take] at hfl
   try simp only [hgx,go_sem]
   refine ⟨fun e=>?_,fun e=>?_⟩
   ·rw [hpx,e,Bool.not_false,if_pos rfl] at hfs
    refine ⟨by omega,fun _=>⟨⟨Nat.le_refl _,by omega⟩,by omega,ih (x+1) (by omega) (by omega) _ _ (by rw [hfs]; simp [keep]) ?_⟩⟩
    rw [hfs]; simp
   ·rw [hpx,e,Bool.not_true,if_neg (by simp)] at hfs
    exact ⟨by omega,ih (x+1) (by omega) (by omega) _ _ (by rw [hfs]; simp [keep]) (by rw [hfs])⟩
 ·have hxe:x=L.length:=by omega
  subst hxe
  rw [List.take_length]
  exact Kv.Fin.freeze (Imm.tupL (.cons (Imm.refr rfl rfl) (.cons (.int _ _ _) (.nil _)))) ⟨rfl,rfl⟩
noncomputable def allV (T:List (List Int)) (N:Nat):PV:=if N≤12 then (match allG (jgC T N) (trvC N) (onesC T N) with
 | some S=>.tup [.list (rows S),.int .i64 0]
 | none=>.tup [.nils,.int .i64 3]) else .tup [.nils,.int .i64 3]
structure AiC (J:List Int→List Int→List Int) (z:List Int) (L S stk:List (List Int)):Prop where
 srt:SrtG S
 cj:∀ x∈S,Cj J z L x
 few:S.length≤300
 zin:z∈S
 sub:∀ x∈stk,x∈S
 done:∀ a∈S,a∈stk∨∀ p∈L,J a p∈S
theorem AiC.all {J:List Int→List Int→List Int} {z:List Int} {L S:List (List Int)} (h:AiC J z L S []):AllG J z L S :=
 ⟨h.srt,fun x=>⟨h.cj x,fun hx=>cj_all h.zin (fun a ha p hp=>(h.done a ha).elim (fun h=>absurd h (by simp)) fun h=>h p hp) x hx⟩,h.few⟩
theorem p36_in {t T:List (List Int)} {N:Nat} (h:GvC t T N):Pure Tryz.prog 36 [.list (aggs t)] (allV T N):=by
 have h12:=h.s12
 have hT:=h.tbl
 have hTl:=hT.len
 unfold allV
 by_cases hN:N≤12
 ·rw [if_pos hN] at h12 ⊢
  have hJ:=fun a b ha hb=>p101 T N hT (by omega) a b ha hb
  have hjc:=jgC_cn hT
  have hocn:=onesC_cn hT
  have hol:=onesC_len (T:=T) (show N≤30 by omega)
  have hone:=p99 T N hT (by omega)
  have hz:=trv_cn N
  have hap:=p100F N (by omega)
  have hsz:SrtG [trvC N]:=by simp [SrtG]
  generalize trvC N=z at *
  generalize jgC T N=J at *
  generalize onesC T N=L at *
  have hsome:=fun S=>@allG_some J z L S
  have hnone:=fun S=>@allG_none J z L S
  generalize allG J z L=V at *
  have hcj:∀ x,Cj J z L x→CnC N x:=fun x hx=>by
   cases hx with
   | base=>exact hz
   | step a p ha hp=>exact (hjc a p).1
  refine e36 (by simp) fun _ _=>?_
  simp only [k36,argEnv,go_sem]
  refine h12.go ?_
  try simp only [hTl,go_sem]
  refine hone.go ?_
  try simp only [hTl,go_sem]
  refine hap.go ?_
  try simp only [hTl,go_sem]
  refine hap.go ?_
  try simp only [hTl,go_sem]
  refine KL_ind k36_b1.eq_1 (fun y:Nat × List (List Int) × List PV × List (List Int)=>[(4,.list (rows T)),(6,.list (rows L)),(7,.list (rows y.2.2.2)),(8,.ref 0 y.1 0 y.2.1.length)]) (fun y=>[.arr y.1 25 1 (rows y.2.1 ++ y.2.2.1)]) (fun y=>AiC J z L y.2.2.2 y.2.1∧301 - y.2.2.2.length+y.2.1.length≤301) (fun y=>301 - y.2.2.2.length+y.2.1.length) [4,6,7,8] (0,[z],[],[z]) (by simp [keep,rows]) (by simp [rows]) ⟨⟨hsz,fun x hx=>by simp at hx; subst hx; exact .base,by simp,by simp,fun x h=>h,fun a h=>.inl h⟩,by simp⟩ fun ⟨ver,stk,junk,S⟩ ⟨hA,hsl⟩ ih=>?_
  simp only at hA hsl
  by_cases hstk:stk = []
  ·subst hstk
   have hV:=hsome S hA.all
   subst hV
   try simp only [go_sem]
   exact Kv.Fin.still ⟨rfl,rfl⟩
  ·obtain ⟨s,own,rfl⟩:∃ s own,stk=s ++ [own]:=⟨stk.dropLast,stk.getLast hstk,(List.dropLast_concat_getLast hstk).symm⟩
   have e1:rows (s ++ [own]) ++ junk=rows s ++ (.list (ints own) :: junk):=by simp [rows]
   have e2:(s ++ [own]).length=s.length+1:=by simp
   have e3:(rows s).length=s.length:=rows_lenC s
   have e4:(((s.length+1:Nat):Int) - 1).toNat=s.length:=by omega
   have e5:∀ d,(rows s ++ PV.list (ints own) :: junk).getD s.length d = .list (ints own):=fun d=>by
    rw [List.getD_eq_getElem?_getD,List.getElem?_append_right (by omega),e3,Nat.sub_self]; rfl
   rw [e2] at hsl
   try simp only [e1,e2,e3,e4,e5,go_sem]
   refine ⟨fun _=>⟨by omega,⟨by omega,by omega,by omega⟩,by omega,fun x hx=>?_⟩,fun h=>absurd (by omega) h⟩
   rw [List.getElem?_append_right (by omega),e3,Nat.sub_self,List.getElem?_cons_zero,Option.some.injEq] at hx
   subst hx
   refine ⟨by simp [PV.cs],fun c hc=>?_⟩
   simp only [PV.cs,List.getElem?_cons_zero,Option.some.injEq] at hc
   subst hc
   refine ⟨by omega,⟨by omega,by omega⟩,?_⟩
   have hown:own∈S:=hA.sub own (by simp)
   have hA1:AiC J z L S (s ++ [own]):=hA
   refine KL_ind k36_b0.eq_1 (fun y:Nat × List (List Int) × List PV × List (List Int) × Nat=>[(4,.list (rows T)),(6,.list (rows L)),(7,.list (rows y.2.2.2.1)),(8,.ref 0 y.1 0 y.2.1.length),(9,.list (ints own)),(10,.int .i64 y.2.2.2.2)]) (fun y=>[.arr y.1 25 1 (rows y.2.1 ++ y.2.2.1)]) (fun y=>AiC J z L y.2.2.2.1 (y.2.1 ++ [own])∧y.2.2.2.2≤L.length∧(∀ k,k<y.2.2.2.2→J own (L.getD k [])∈y.2.2.2.1)∧301 - y.2.2.2.1.length+y.2.1.length+1≤301 - S.length+(s.length+1)) (fun y=>L.length - y.2.2.2.2) [4,6,7,8,9,10] (ver,s,.list (ints own) :: junk,S,0) (by simp [keep]) rfl ⟨hA1,Nat.zero_le _,fun k h=>absurd h (Nat.not_lt_zero _),Nat.le_refl _⟩ fun ⟨ver,s',junk,S',i⟩ ⟨hI,hi,hk,hme⟩ ihi=>?_
   simp only at hI hi hk hme
   have hown:=hI.sub own (by simp)
   try simp only [go_sem]
   refine ⟨fun g1=>?_,fun g1=>?_⟩
   ·have hil:i<L.length:=by omega
    have hgi:L.getD i []=L[i]:=by simp [List.getD_eq_getElem?_getD,hil]
    have hpm:=List.getElem_mem hil
    have hjm:Cj J z L (J own L[i]):=.step _ _ (hI.cj own hown) hpm
    have hJc:=hJ own L[i] (hcj own (hI.cj own hown)).len (hocn _ hpm).1.len
    have hP:=p102 (show N≤300 by omega) S' (J own L[i]) (fun x hx=>hcj x (hI.cj x hx)) (hjc own L[i]).1 (by have:=hI.few; omega)
    have hpl:=putG_len (S:=S') (J own L[i])
    have hpm':=fun x=>@putG_mem S' (J own L[i]) x
    have hps:=putG_srt hI.srt (J own L[i])
    have hhs:=hasG_iff hI.srt (J own L[i])
    have hfew:=hI.few
    have e3':(rows s').length=s'.length:=rows_lenC s'
    try simp only [hgi,go_sem]
    refine ⟨by omega,fun _=>hJc.go ?_⟩
    try simp only [go_sem]
    refine hP.go ?_
    by_cases hh:hasG S' (J own L[i])
    ·rw [decide_eq_true hh]
     try simp only [go_sem]
     refine ⟨by omega,ihi (ver,s',junk,S',i+1) ⟨hI,by show i+1≤L.length; omega,fun k hk'=>?_,hme⟩ (by show L.length - (i+1)<L.length - i; omega) _ _ (by simp [keep]) rfl⟩
     by_cases e:k=i
     ·subst e; rw [hgi]; exact hhs.1 hh
     ·exact hk k (by have:k<i+1:=hk'; omega)
    ·rw [decide_eq_false hh]
     rw [if_neg hh] at hpl
     have htk:List.take s'.length (rows s' ++ junk)=rows s':=by rw [← e3',List.take_left']; rfl
     try simp only [hpl,e3',htk,go_sem]
     refine ⟨fun g2=>?_,fun g2=>?_⟩
     ·have hV:=hnone (putG S' (J own L[i])) hps.nodup (fun x hx=>by
       rcases (hpm' x).1 hx with rfl | hx
       ·exact hjm
       ·exact hI.cj x hx) (by omega)
      subst hV
      exact Kv.Fin.still ⟨rfl,rfl⟩
     ·refine ⟨⟨by omega,by omega⟩,by omega,ihi (ver+1,s' ++ [J own L[i]],[],putG S' (J own L[i]),i+1) ⟨⟨hps,fun x hx=>?_,by show (putG S' (J own L[i])).length≤300; omega,(hpm' z).2 (.inr hI.zin),fun x hx=>?_,fun a ha=>?_⟩,by show i+1≤L.length; omega,fun k hk'=>?_,?_⟩ (by show L.length - (i+1)<L.length - i; omega) _ _ (by simp [keep]) (by simp)⟩
      ·rcases (hpm' x).1 hx with rfl | hx
       ·exact hjm
       ·exact hI.cj x hx
      ·refine (hpm' x).2 ?_
       have hx:x∈(s' ++ [J own L[i]]) ++ [own]:=hx
       simp only [List.mem_append,List.mem_singleton] at hx
       rcases hx with (hx | hx) | hx
       ·exact .inr (hI.sub x (by simp [hx]))
       ·exact .inl hx
       ·exact .inr (by rw [hx]; exact hown)
      ·have hg:a∈(s' ++ [J own L[i]]) ++ [own]∨∀ p∈L,J a p∈putG S' (J own L[i]):=by
        rcases (hpm' a).1 ha with rfl | ha
        ·exact .inl (by simp)
        ·rcases hI.done a ha with h | h
         ·refine .inl ?_
          simp only [List.mem_append,List.mem_singleton] at h ⊢
          rcases h with h | h
          ·exact .inl (.inl h)
          ·exact .inr h
         ·exact .inr fun p hp=>(hpm' _).2 (.inr (h p hp))
       exact hg
      ·refine (hpm' _).2 ?_
       by_cases e:k=i
       ·subst e; rw [hgi]; exact .inl rfl
       ·exact .inr (hk k (by have:k<i+1:=hk'; omega))
      ·show 301 - (putG S' (J own L[i])).length+(s' ++ [J own L[i]]).length+1≤_
       rw [hpl,List.length_append,List.length_singleton]
       omega
   ·have hie:i=L.length:=by omega
    refine ih (ver,s',junk,S') ⟨⟨hI.srt,hI.cj,hI.few,hI.zin,fun x hx=>hI.sub x (by have hx:x∈s':=hx; simp [hx]),fun a ha=>?_⟩,by show 301 - S'.length+s'.length≤301; omega⟩ (by show 301 - S'.length+s'.length<301 - S.length+(s ++ [own]).length; omega) _ _ (by simp [keep]) rfl
    rcases hI.done a ha with h | h
    ·rw [List.mem_append,List.mem_singleton] at h
     rcases h with h | h
     ·exact .inl h
     ·subst h
      refine .inr fun p hp=>?_
      obtain ⟨k,hkl,rfl⟩:=List.getElem_of_mem hp
      have:=hk k (by omega)
      rwa [show L.getD k []=L[k] by simp [List.getD_eq_getElem?_getD,hkl]] at this
    ·exact .inr h
 ·rw [if_neg hN] at h12 ⊢
  refine e36 (by simp) fun _ _=>?_
  simp only [k36,argEnv,go_sem]
  refine h12.go ?_
  try simp only [go_sem]
  exact ⟨fun _=>Kv.Fin.still ⟨rfl,rfl⟩,fun h=>absurd h (by decide)⟩
end
end
section
section
set_option maxRecDepth 100000
def k200_b0:KC:=(.seq (.seq (.ops [mV 14 7,mV 15 1,oP 16 (.len false (.t 15)),oP 17 (.bin .lss (.t 14) (.t 16))])
 (.cond (.t 17) .skip (.exit 0)))
 (.seq (.block 1 (.seq (.seq (.ops [mV 20 1,mV 21 7,oP 22 (.idxS 1 (.t 20) (.t 21)),oP 23 (.load false 1 (.t 22)),oP 24 (.len false (.t 23)),oP 25 (.bin .neq (.t 24) (iC 2)),mV 26 25,⟨(some 27),some (26,false),.mv (.t 1)⟩,⟨(some 28),some (26,false),.mv (.t 7)⟩,⟨(some 29),some (26,false),.idxS 1 (.t 27) (.t 28)⟩,⟨(some 30),some (26,false),.load false 1 (.t 29)⟩,⟨(some 31),some (26,false),.idxS 1 (.t 30) (iC 0)⟩,⟨(some 32),some (26,false),.load false 1 (.t 31)⟩,⟨(some 33),some (26,false),.mv (.t 0)⟩,⟨(some 34),some (26,false),.bin .sub (.t 33) (iC 1)⟩,⟨(some 35),some (26,false),.call (fC 71) [(.t 32),(iC 0),(.t 34)]⟩,⟨(some 36),some (26,false),.not (.t 35)⟩,oP 37 (.pick (.t 26) (.c (.bool true)) (.t 36)),mV 38 37,⟨(some 39),some (38,false),.mv (.t 1)⟩,⟨(some 40),some (38,false),.mv (.t 7)⟩,⟨(some 41),some (38,false),.idxS 1 (.t 39) (.t 40)⟩,⟨(some 42),some (38,false),.load false 1 (.t 41)⟩,⟨(some 43),some (38,false),.idxS 1 (.t 42) (iC 1)⟩,⟨(some 44),some (38,false),.load false 1 (.t 43)⟩,⟨(some 45),some (38,false),.mv (.t 0)⟩,⟨(some 46),some (38,false),.bin .sub (.t 45) (iC 1)⟩,⟨(some 47),some (38,false),.call (fC 71) [(.t 44),(iC 0),(.t 46)]⟩,⟨(some 48),some (38,false),.not (.t 47)⟩,oP 49 (.pick (.t 38) (.c (.bool true)) (.t 48))])
 (.cond (.t 49) (.seq (.ops [mV 50 6,mV 4 50,oP 5 (.mv (.c (.bool false)))])
 .ret) .skip))
 (.draw [mV 51 6,mV 52 6,mV 53 1,mV 54 7,oP 55 (.idxS 1 (.t 53) (.t 54)),oP 56 (.load false 1 (.t 55)),oP 57 (.idxS 1 (.t 56) (iC 0)),oP 58 (.load false 1 (.t 57)),oP 59 (.idxS 1 (.t 52) (.t 58)),oP 60 (.load false 1 (.t 59)),mV 61 6,mV 62 1,mV 63 7,oP 64 (.idxS 1 (.t 62) (.t 63)),oP 65 (.load false 1 (.t 64)),oP 66 (.idxS 1 (.t 65) (iC 1)),oP 67 (.load false 1 (.t 66)),oP 68 (.idxS 1 (.t 61) (.t 67)),oP 69 (.load false 1 (.t 68)),oP 70 (.call (fC 154) [(.t 51),(.t 60),(.t 69)])])))
 (.ops [mV 18 7,oP 19 (.bin .add (.t 18) (iC 1)),mV 7 19])))
def k200:KC:=(.seq (.ops [oP 4 (.mv (.c (.nils))),oP 5 (.mv (.c (.bool false)))])
 (.seq (.ops [mV 8 0,oP 9 (.call (fC 100) [(.t 8)]),mV 6 9])
 (.seq (.seq (.ops [mV 10 1,oP 11 (.len false (.t 10)),oP 12 (.bin .gtr (.t 11) (iC 10))])
 (.cond (.t 12) (.seq (.ops [mV 13 6,mV 4 13,oP 5 (.mv (.c (.bool false)))])
 .ret) .skip))
 (.seq (.seq (.ops [oP 7 (.mv (iC 0))])
 (.block 0 (.loop k200_b0)))
 (.seq (.ops [mV 71 6,mV 4 71,oP 5 (.mv (.c (.bool true)))])
 .ret)))))
theorem e200 {args:List PV} {σ:Heap} {K:PV→Heap→Prop} (hl:args.length≤72) (h:Wf σ→(∀ a∈args,PV.upto σ.length a)→vc (mkCfgR Tryz.prog mixed [] 72 σ.length) k200 (FinK σ.length [.t 4,.t 5] K) (argEnv 0 args) σ):ACall Tryz.prog 200 args σ K :=
 ACall_enter (C:=mkCfgR Tryz.prog mixed [] 72 σ.length) (c:=Tryz.f200.body.getD .skip) Tryz.func200 (by kernel_rfl) (by kernel_rfl) (by kernel_rfl) rfl hl (by kernel_rfl) (by kernel_rfl) h
def k187:KC:=(.seq (.ops [oP 6 (.mv (.c (.nils))),oP 7 (.mv (iC 0))])
 (.seq (.ops [mV 13 0,oP 14 (.call (fC 98) [(.t 13),(iC 30)]),mV 12 14,oP 15 (.extr 0 (.t 12)),oP 16 (.extr 1 (.t 12)),mV 8 15,mV 9 16])
 (.seq (.seq (.ops [mV 17 9,oP 18 (.bin .neq (.t 17) (iC 0))])
 (.cond (.t 18) (.seq (.ops [mV 19 9,oP 6 (.mv (.c (.nils))),mV 7 19])
 .ret) .skip))
 (.seq (.ops [mV 21 8,oP 22 (.len false (.t 21)),mV 23 1,oP 24 (.call (fC 200) [(.t 22),(.t 23)]),mV 20 24,oP 25 (.extr 0 (.t 20)),oP 26 (.extr 1 (.t 20)),mV 10 25,mV 11 26])
 (.seq (.seq (.ops [mV 27 11,oP 28 (.not (.t 27))])
 (.cond (.t 28) (.seq (.ops [oP 6 (.mv (.c (.nils))),oP 7 (.mv (iC 2))])
 .ret) .skip))
 (.seq (.ops [mV 29 8,mV 30 10,mV 31 2,oP 32 (.call (fC 87) [(.t 29),(.t 30),(.t 31)]),mV 6 32,oP 7 (.mv (iC 0))])
 .ret))))))
theorem e187:Ent 187 33 [] [.t 6,.t 7] k187:=ent Tryz.func187
def k146:KC:=(.seq (.ops [oP 4 (.mv (.c (.nils))),oP 5 (.mv (iC 0))])
 (.seq (.ops [mV 9 0,mV 10 1,oP 11 (.call (fC 187) [(.t 9),(.t 10),(.c (.bool true))]),mV 8 11,oP 12 (.extr 0 (.t 8)),oP 13 (.extr 1 (.t 8)),mV 6 12,mV 7 13])
 (.seq (.ops [mV 14 6,mV 15 7,mV 4 14,mV 5 15])
 .ret)))
theorem e146:Ent 146 16 [] [.t 4,.t 5] k146:=ent Tryz.func146
def k147:KC:=(.seq (.ops [oP 4 (.mv (.c (.nils))),oP 5 (.mv (iC 0))])
 (.seq (.ops [mV 9 0,mV 10 1,oP 11 (.call (fC 187) [(.t 9),(.t 10),(.c (.bool false))]),mV 8 11,oP 12 (.extr 0 (.t 8)),oP 13 (.extr 1 (.t 8)),mV 6 12,mV 7 13])
 (.seq (.ops [mV 14 6,mV 15 7,mV 4 14,mV 5 15])
 .ret)))
theorem e147:Ent 147 16 [] [.t 4,.t 5] k147:=ent Tryz.func147
end
section
attribute [local irreducible] ACall PCall KL
attribute [local go_sem] OpK_eq HKv
theorem p200 (N:Nat) (hN:1≤N∧N≤300) (P:List (List Int)) (hP:P.length≤1000) {K:PV→Heap→Prop} (hK:∀ (r:List Int) (b:Bool),r.length=N→K (.tup [.list (ints r),.bool b]) []):ACall Tryz.prog 200 [.int .i64 N,.list (rows P)] [] K:=by
 have hfr:∀ (r:List Int) (b:Bool),r.length=N→Kv.Fin 0 K (.tup [.ref 0 N 0 N,.bool b]) [.arr N 2 1 (ints r)]:=fun r b hr=>Kv.Fin.freeze (Imm.tupL (.cons (Imm.refn rfl hr.symm) (.cons (.bool _ _) (.nil _)))) (hK r b hr)
 refine e200 (by simp) fun _ _=>?_
 simp only [k200,argEnv,go_sem]
 refine (p100 N (by omega)).go fun v s ⟨hv,hs⟩=>?_
 subst hv; subst hs
 have hl0:(nz (List.range N)).length=N:=by simp [nz]
 try simp only [ren_ref,ren_arr,ren_ints,go_sem]
 refine ⟨fun g=>hfr _ _ hl0,fun g=>?_⟩
 refine KL_ind k200_b0.eq_1 (fun y:List Int × Nat=>[(0,.int .i64 N),(1,.list (rows P)),(6,.ref 0 N 0 N),(7,.int .i64 y.2)]) (fun y=>[.arr N 2 1 (ints y.1)]) (fun y=>y.1.length=N∧y.2≤P.length) (fun y=>P.length - y.2) [0,1,6,7] (nz (List.range N),0) (by simp [keep]) rfl ⟨hl0,Nat.zero_le _⟩ fun ⟨r,x⟩ ⟨hl,hx⟩ ih=>?_
 simp only at hl hx
 try simp only [go_sem]
 refine ⟨fun g1=>?_,fun g1=>?_⟩
 ·have hxl:x<P.length:=by omega
  refine ⟨by omega,fun _=>⟨fun g2=>⟨by omega,fun _=>⟨by omega,fun _=>⟨by omega,?_⟩⟩⟩,fun g2=>?_⟩⟩
  ·refine (p71 _ _ _).go ?_
   by_cases h1:0≤(P.getD x []).getD 0 0∧(P.getD x []).getD 0 0≤(N:Int) - 1
   ·rw [decide_eq_true h1]
    obtain ⟨a,ea⟩:∃ a:Nat,(P.getD x []).getD 0 0=a:=⟨((P.getD x []).getD 0 0).toNat,by omega⟩
    have haN:a<N:=by omega
    try simp only [go_sem]
    refine ⟨by omega,fun _=>⟨by omega,fun _=>⟨by omega,?_⟩⟩⟩
    refine (p71 _ _ _).go ?_
    by_cases h2:0≤(P.getD x []).getD 1 0∧(P.getD x []).getD 1 0≤(N:Int) - 1
    ·rw [decide_eq_true h2]
     obtain ⟨b,eb⟩:∃ b:Nat,(P.getD x []).getD 1 0=b:=⟨((P.getD x []).getD 1 0).toNat,by omega⟩
     have hbN:b<N:=by omega
     try simp only [ea,eb,hl,go_sem]
     refine ⟨by omega,fun _=>⟨by omega,fun _=>⟨⟨by omega,Nat.le_refl _⟩,haN,fun _=>⟨by omega,fun _=>⟨by omega,fun _=>⟨⟨by omega,Nat.le_refl _⟩,hbN,fun _=>?_⟩⟩⟩⟩⟩⟩
     refine p154 r rfl (by omega) _ _ hl.symm ?_
     try simp only [go_sem]
     exact ⟨by omega,ih (jnC r (r.getD a 0) (r.getD b 0),x+1) ⟨(jnC_len _ _ _).trans hl,hxl⟩ (by show P.length - (x+1)<P.length - x; omega) _ _ (by simp [keep]) rfl⟩
    ·rw [decide_eq_false h2]
     try simp only [go_sem]
     exact hfr _ _ hl
   ·rw [decide_eq_false h1]
    try simp only [go_sem]
    exact hfr _ _ hl
  ·exact hfr _ _ hl
 ·exact hfr _ _ hl
inductive MdV:PV→Prop
 | bad (c:Int) (h:c≠0):MdV (.tup [.nils,.int .i64 c])
 | ok (Y:List Int) (h:Y.length≤300):MdV (.tup [.list (ints Y),.int .i64 0])
theorem p187 (t:List (List Int)) (ht:t.length≤1048576) (h6:∀ r∈t,r.length=6) (P:List (List Int)) (hP:P.length≤1000) (both:Bool):ACall Tryz.prog 187 [.list (aggs t),.list (rows P),.bool both] [] fun v s=>MdV v∧s = []:=by
 rcases gv_loc t ht h6 with ⟨c,hx⟩ | ⟨T,N,hv⟩
 ·refine e187 (by simp) fun _ _=>?_
  simp only [k187,argEnv,go_sem]
  refine hx.s30.go ?_
  try simp only [go_sem]
  exact ⟨fun _=>Kv.Fin.still ⟨.bad c hx.ne,rfl⟩,fun e=>absurd e hx.ne⟩
 ·have hTl:=hv.tbl.len
  have h30:=hv.n30
  have hpos:1≤N:=by
   obtain ⟨n,S,hM,e⟩:=hv.mon
   have h1:0<S.length:=List.length_pos_of_mem hM.one
   have h2:=hv.tbl.len
   rw [e,tabM_len] at h2
   omega
  have hC:=fun r hr=>p87 T N hv.tbl (by omega) r hr both
  have hle:=fun (r:List Int)=>(lfC_lea hv.tbl both (eqC r)).2.len
  refine e187 (by simp) fun _ _=>?_
  simp only [k187,argEnv,go_sem]
  refine hv.s30.go ?_
  try simp only [hTl,go_sem]
  refine (p200 N ⟨hpos,by omega⟩ P hP (K:=fun v s=>s = []∧∃ r b,r.length=N∧v = .tup [.list (ints r),.bool b]) fun r b h=>⟨rfl,r,b,h,rfl⟩).go fun v s ⟨hs,r,b,hr,hv⟩=>?_
  subst hs; subst hv
  try simp only [go_sem]
  refine ⟨fun _=>Kv.Fin.still ⟨.bad 2 (by decide),rfl⟩,fun _=>(hC r hr).go ?_⟩
  try simp only [go_sem]
  exact Kv.Fin.still ⟨.ok _ (by rw [hle]; omega),rfl⟩
theorem p146 (t:List (List Int)) (ht:t.length≤1048576) (h6:∀ r∈t,r.length=6) (P:List (List Int)) (hP:P.length≤1000):ACall Tryz.prog 146 [.list (aggs t),.list (rows P)] [] fun v s=>MdV v∧s = []:=by
 refine e146 (by simp) fun _ _=>?_
 simp only [k146,argEnv,go_sem]
 refine (p187 t ht h6 P hP true).go fun v s ⟨hv,hs⟩=>?_
 subst hs
 cases hv with
 | bad c h =>
  try simp only [go_sem]
  exact Kv.Fin.still ⟨.bad c h,rfl⟩
 | ok Y h =>
  try simp only [go_sem]
  exact Kv.Fin.still ⟨.ok Y h,rfl⟩
theorem p147 (t:List (List Int)) (ht:t.length≤1048576) (h6:∀ r∈t,r.length=6) (P:List (List Int)) (hP:P.length≤1000):ACall Tryz.prog 147 [.list (aggs t),.list (rows P)] [] fun v s=>MdV v∧s = []:=by
 refine e147 (by simp) fun _ _=>?_
 simp only [k147,argEnv,go_sem]
 refine (p187 t ht h6 P hP false).go fun v s ⟨hv,hs⟩=>?_
 subst hs
 cases hv with
 | bad c h =>
  try simp only [go_sem]
  exact Kv.Fin.still ⟨.bad c h,rfl⟩
 | ok Y h =>
  try simp only [go_sem]
  exact Kv.Fin.still ⟨.ok Y h,rfl⟩
end
end
end Go.Proofs.YtcfmmmloeaggmaaGreat
section
namespace Go.Kv
open Go.ChangeShapes
set_option linter.unusedVariables false
set_option linter.unusedSimpArgs false
variable {H:Type} {enc:TypeId × Value→H} {P:Program} {W:World} {sp:Nat→Bool} {held:Bool}
end Go.Kv
end
section
namespace Go.Kv
open Go.ChangeShapes
set_option linter.unusedVariables false
set_option linter.unusedSimpArgs false
def u8s (l:List Int):List PV:=l.map (PV.int .u8)
@[simp] theorem u8s_length (l:List Int):(u8s l).length=l.length:=by simp [u8s]
attribute [go_sem] u8s_length
theorem u8s_get {l:List Int} {i:Nat} {x:PV} (h:(u8s l)[i]? = some x):∃ z,l[i]? = some z∧x = .int .u8 z:=by
 simp only [u8s,List.getElem?_map,Option.map_eq_some_iff] at h
 obtain ⟨y,hy,rfl⟩:=h
 exact ⟨y,hy,rfl⟩
instance (l:List Int):Still (.list (u8s l)):=Still.list fun x hx=>by
 obtain ⟨m,_,rfl⟩:=List.mem_map.1 hx
 refine ⟨⟨(Plain.int _ _).up,(Plain.int _ _).rn⟩,fun c hc=>?_⟩
 simp only [PV.cs,List.mem_singleton] at hc
 subst hc
 exact (Plain.int _ _).up
variable {H:Type} {enc:TypeId × Value→H} {P:Program} {W:World} {sp:Nat→Bool} {held:Bool}
theorem rel_bytes {t e:TypeId} {fuel:Nat} {cs:List Value} {x:DataW H × List MemPlace} (ht:P.underlying t=some (.slice e)) (he:P.underlying e=some (.int .u8)) (hc:P.cellsOf e=1)
  (h:DataW.trod enc P W 0 sp held fuel t cs=some x):∃ (v:Value) (l:List Int),cs = [v]∧Rel (allFrz W) [] (.list (u8s l)) v∧l.length≤maxLen∧∀ z∈l,0≤z∧z≤255:=by
 rcases DataW.trod_slice ht h with ⟨rfl,_⟩ | ⟨a,len,cap,elems,rest,n,_,rfl,_,_,hlc,hcm,hel,hget,_,_⟩
 ·exact ⟨_,[],rfl,.listn,by simp,by simp⟩
 ·obtain ⟨l,hll,hq⟩:=choose_list (0:Int) (fun i z=>(0≤z∧z≤255)∧W.cell? (a.add (i * 1+0))=some (.int .u8 z)) len (fun i hi=>by
   have hg:=hget i hi
   rw [List.getElem?_eq_getElem (by omega),hc,Option.bind_eq_some_iff] at hg
   obtain ⟨cs',hcs,htr⟩:=hg
   obtain ⟨z,hz,_,hw⟩:=DataW.trod_int he htr
   refine ⟨z,?_,?_⟩
   ·simp only [Lit.wf,Bool.and_eq_true,decide_eq_true_eq] at hw
    exact hw
   ·have:=(World.cells?_some hcs).2.2 0 (by omega)
    rw [hz] at this
    rw [Addr.add_add] at this
    exact this)
  refine ⟨_,l,rfl,?_,by omega,fun z hz=>?_⟩
  ·have:=list_rel (W:=W) (a:=a) (cap:=cap) (esz:=1) (xs:=u8s l) (by rw [u8s_length,hll]; exact hlc) (by omega) (fun x hx=>by
    simp only [u8s,List.mem_map] at hx
    obtain ⟨y,_,rfl⟩:=hx
    exact ⟨rfl,rfl⟩) (fun i x j c hx hcj=>by
    obtain ⟨y,hy,rfl⟩:=u8s_get hx
    have hj:j=0∧c = .int .u8 y:=by
     cases j with
     | zero=>simp [PV.cs] at hcj; exact ⟨rfl,hcj.symm⟩
     | succ j=>simp [PV.cs] at hcj
    obtain ⟨rfl,rfl⟩:=hj
    have hi:=(List.getElem?_eq_some_iff.1 hy).1
    have h2:=(hq i (by omega)).2
    rw [List.getD_eq_getElem?_getD,hy] at h2
    exact ⟨.int .u8 y,h2,.int _ _⟩)
   rw [u8s_length,hll] at this
   exact this
  ·obtain ⟨i,hi⟩:=List.getElem?_of_mem hz
   have hlt:=(List.getElem?_eq_some_iff.1 hi).1
   have:=(hq i (by omega)).1
   rw [List.getD_eq_getElem?_getD,hi] at this
   exact this
theorem arg_bytes {r:Reach} {b:Nat} {t e:TypeId} {v:Value} {d:DataW H} {ps:List MemPlace} (ht:P.underlying t=some (.slice e)) (he:P.underlying e=some (.int .u8)) (hc:P.cellsOf e=1)
  (hv:Value.okWide P W r b t v) (h:DataW.Trod enc P W 0 sp held t v d ps):∃ l:List Int,Rel (allFrz W) [] (.list (u8s l)) v∧l.length≤maxLen∧∀ z∈l,0≤z∧z≤255:=by
 obtain ⟨fuel,h⟩:=h
 rw [arg_slice ht hv] at h
 obtain ⟨u,l,hu,h1,h2,h3⟩:=rel_bytes ht he hc h
 cases hu
 exact ⟨l,h1,h2,h3⟩
end Go.Kv
end
namespace Go.Proofs.YtcfmmmloeaggmaaGreat
open Go.Kv
set_option linter.unusedVariables false
set_option linter.unusedSimpArgs false
section
section
set_option maxRecDepth 100000
def k5:KC:=(.seq (.ops [oP 2 (.mv (.c (.bool false)))])
 (.seq (.ops [mV 3 0,oP 4 (.len false (.t 3)),oP 5 (.bin .gtr (.t 4) (iC 4096)),mV 2 5])
 .ret))
theorem e5:Ent 5 6 [] [.t 2] k5:=ent Tryz.func5
def k53_b0:KC:=(.seq (.seq (.ops [mV 12 4,mV 13 0,oP 14 (.len false (.t 13)),oP 15 (.bin .lss (.t 12) (.t 14)),mV 16 15,⟨(some 17),some (16,true),.mv (.t 4)⟩,⟨(some 18),some (16,true),.bin .lss (.t 17) (iC 4096)⟩,oP 19 (.pick (.t 16) (.t 18) (.c (.bool false)))])
 (.cond (.t 19) .skip (.exit 0)))
 (.seq (.block 1 (.draw [mV 22 3,mV 23 3,oP 24 (.nilck (.t 23)),oP 25 (.fieldA 2 (.t 24)),oP 26 (.load false 1 (.t 25)),oP 27 (.bin .mul (.t 26) (.c (.int .u64 1099511628211))),mV 28 0,mV 29 4,oP 30 (.idxS 1 (.t 28) (.t 29)),oP 31 (.load false 1 (.t 30)),oP 32 (.conv .u64 (.t 31)),oP 33 (.bin .add (.t 27) (.t 32)),oP 34 (.bin .add (.t 33) (.c (.int .u64 181))),oP 35 (.nilck (.t 22)),oP 36 (.fieldA 2 (.t 35)),⟨none,none,.store 1 (.t 36) (.t 34)⟩]))
 (.ops [mV 20 4,oP 21 (.bin .add (.t 20) (iC 1)),mV 4 21])))
def k53:KC:=(.seq (.ops [oP 2 (.mv (.c (.nilptr)))])
 (.seq (.ops [mV 5 0,mV 6 0,oP 7 (.len false (.t 6)),oP 8 (.conv .u64 (.t 7)),oP 9 (.bin .add (.c (.int .u64 13591)) (.t 8)),oP 10 (.build [.nils,.int .i64 0,.int .u64 0] [(0,1,(.t 5)),(2,1,(.t 9))]),oP 11 (.box false (.t 10)),mV 3 11])
 (.seq (.seq (.ops [oP 4 (.mv (iC 0))])
 (.block 0 (.loop k53_b0)))
 (.seq (.ops [mV 37 3,mV 2 37])
 .ret))))
theorem e53:Ent 53 38 [] [.t 2] k53:=ent Tryz.func53
def k72:KC:=(.seq (.ops [oP 4 (.mv (iC 0))])
 (.seq (.seq (.ops [mV 6 1,oP 7 (.bin .lss (.t 6) (iC 1))])
 (.cond (.t 7) (.seq (.ops [oP 4 (.mv (iC 0))])
 .ret) .skip))
 (.seq (.ops [mV 8 0,mV 9 0,oP 10 (.nilck (.t 9)),oP 11 (.fieldA 2 (.t 10)),oP 12 (.load false 1 (.t 11)),oP 13 (.bin .mul (.t 12) (.c (.int .u64 6364136223846793005))),oP 14 (.bin .add (.t 13) (.c (.int .u64 1442695040888963407))),oP 15 (.nilck (.t 8)),oP 16 (.fieldA 2 (.t 15)),⟨none,none,.store 1 (.t 16) (.t 14)⟩])
 (.seq (.ops [mV 17 0,oP 18 (.nilck (.t 17)),oP 19 (.fieldA 2 (.t 18)),oP 20 (.load false 1 (.t 19)),oP 21 (.bin .shr (.t 20) (.c (.int .u64 33))),oP 22 (.bin .and (.t 21) (.c (.int .u64 16777215))),oP 23 (.conv .i64 (.t 22)),mV 5 23])
 (.seq (.seq (.draw [mV 24 0,oP 25 (.nilck (.t 24)),oP 26 (.fieldA 1 (.t 25)),oP 27 (.load false 1 (.t 26)),mV 28 0,oP 29 (.nilck (.t 28)),oP 30 (.fieldA 0 (.t 29)),oP 31 (.load false 1 (.t 30)),oP 32 (.len false (.t 31)),oP 33 (.bin .lss (.t 27) (.t 32))])
 (.cond (.t 33) (.seq (.draw [mV 34 5,mV 35 0,oP 36 (.nilck (.t 35)),oP 37 (.fieldA 0 (.t 36)),oP 38 (.load false 1 (.t 37)),mV 39 0,oP 40 (.nilck (.t 39)),oP 41 (.fieldA 1 (.t 40)),oP 42 (.load false 1 (.t 41)),oP 43 (.idxS 1 (.t 38) (.t 42)),oP 44 (.load false 1 (.t 43)),oP 45 (.conv .i64 (.t 44)),oP 46 (.bin .add (.t 34) (.t 45)),mV 5 46])
 (.ops [mV 47 0,mV 48 0,oP 49 (.nilck (.t 48)),oP 50 (.fieldA 1 (.t 49)),oP 51 (.load false 1 (.t 50)),oP 52 (.bin .add (.t 51) (iC 1)),oP 53 (.nilck (.t 47)),oP 54 (.fieldA 1 (.t 53)),⟨none,none,.store 1 (.t 54) (.t 52)⟩])) .skip))
 (.seq (.ops [mV 55 5,mV 56 1,oP 57 (.bin .rem (.t 55) (.t 56)),mV 4 57])
 .ret))))))
theorem e72:Ent 72 58 [] [.t 4] k72:=ent Tryz.func72
def k139:KC:=(.seq (.ops [oP 4 (.mv (iC 0))])
 (.seq (.ops [mV 5 1,mV 6 0,mV 7 1,oP 8 (.len false (.t 7)),oP 9 (.call (fC 72) [(.t 6),(.t 8)]),oP 10 (.idxS 1 (.t 5) (.t 9)),oP 11 (.load false 1 (.t 10)),mV 4 11])
 .ret))
theorem e139:Ent 139 12 [] [.t 4] k139:=ent Tryz.func139
end
section
attribute [local irreducible] ACall PCall KL
def srcO (l:List Int) (p:Nat) (h:Int):AObj:=.box [.list (u8s l),.int .i64 p,.int .u64 h]
def Src (σ:Heap) (b:Nat) (l:List Int):Prop:=∃ (p:Nat) (h:Int),σ[b]? = some (srcO l p h)∧p≤l.length
def Kept (σ σ':Heap) (b:Nat):Prop:=σ.length≤σ'.length∧∀ j,j < σ.length→j≠b→σ'[j]? = σ[j]?
def Byt (l:List Int):Prop:=l.length≤4096∧∀ z∈l,0≤z∧z≤255
theorem Kept.refl (σ:Heap) (b:Nat):Kept σ σ b:=⟨Nat.le_refl _,fun _ _ _=>rfl⟩
theorem Kept.trans {σ τ ρ:Heap} {b:Nat} (h:Kept σ τ b) (h':Kept τ ρ b):Kept σ ρ b :=
 ⟨Nat.le_trans h.1 h'.1,fun j hj hb=>(h'.2 j (Nat.lt_of_lt_of_le hj h.1) hb).trans (h.2 j hj hb)⟩
theorem Src.lt {σ:Heap} {b:Nat} {l:List Int} (h:Src σ b l):b < σ.length:=by
 obtain ⟨p,x,h,_⟩:=h
 exact (List.getElem?_eq_some_iff.1 h).1
theorem Kept.set {σ:Heap} {b:Nat} (o:AObj):Kept σ (σ.set b o) b:=⟨by simp,fun j _ hb=>List.getElem?_set_ne (Ne.symm hb)⟩
theorem Kept.app (σ τ:Heap) (b:Nat):Kept σ (σ ++ τ) b:=⟨by simp,fun j hj _=>List.getElem?_append_left hj⟩
theorem Src.app {σ:Heap} {b:Nat} {l:List Int} (h:Src σ b l) (τ:Heap):Src (σ ++ τ) b l:=by
 have:=h.lt
 obtain ⟨p,x,h,h2⟩:=h
 exact ⟨p,x,(List.getElem?_append_left this).trans h,h2⟩
theorem p5 (l:List Int) (hl:l.length≤9223372036854775807):Pure Tryz.prog 5 [.list (u8s l)] (.bool (decide (4096<(l.length:Int)))):=by
 refine e5 (by simp) fun _ _=>?_
 simp only [k5,argEnv,go_sem]
 exact Kv.Fin.still ⟨rfl,rfl⟩
theorem put3 (a b c d:PV):putC [a,b,c] 2 [d] = [a,b,d]:=by unfold putC; first | rfl | (split <;> rfl) | simp
theorem put31 (a b c d:PV):putC [a,b,c] 1 [d] = [a,d,c]:=by unfold putC; first | rfl | (split <;> rfl) | simp
def andV (a:Int):Nat:=(BitVec.ofInt 64 a &&& BitVec.ofInt 64 16777215).toNat
theorem andV_le (a:Int):andV a≤16777215:=by
 unfold andV
 rw [BitVec.toNat_and]
 exact Nat.le_trans Nat.and_le_right (by decide)
theorem wrapU64 {n:Nat} (h:n<18446744073709551616):IntKind.u64.wrap (n:Int)=n:=by
 have:IntKind.u64.wrap (n:Int)=(n:Int) % 18446744073709551616:=by simp [IntKind.wrap,IntKind.bits,IntKind.signed]
 rw [this]; omega
theorem aInt_and24 (a:Int) (K:PV→Prop):aInt .and .u64 a 16777215 K=K (.int .u64 (andV a)):=by
 have h:=andV_le a
 have:IntKind.u64.wrap ((BitVec.ofInt 64 a &&& BitVec.ofInt 64 16777215).toNat:Int)=((andV a:Nat):Int):=wrapU64 (by omega)
 show K (.int .u64 (IntKind.u64.wrap ((BitVec.ofInt 64 a &&& BitVec.ofInt 64 16777215).toNat:Int)))=_
 rw [this]
theorem aInt_shrU (a b:Int) (K:PV→Prop):aInt .shr .u64 a b K=((0≤b∧b≤(64:Nat))∧K (.int .u64 (a.fdiv (2 ^ b.toNat)))):=Eq.trans rfl rfl
theorem aWrapU (n:Int) (K:PV→Prop):aWrap .u64 n K=K (.int .u64 (IntKind.u64.wrap n)):=Eq.trans rfl rfl
theorem u8s_getD {l:List Int} {i:Nat} (h:i<l.length):(u8s l)[i]? = some (.int .u8 l[i]):=by simp [u8s,h]
theorem p72 {l:List Int} (hl:Byt l) {σ:Heap} {b:Nat} (hS:Src σ b l) (n:Int) {K:PV→Heap→Prop}
  (hK:∀ (r:Int) σ',0≤r→(1≤n→r<n)→Src σ' b l→Kept σ σ' b→σ'.length = σ.length→K (.int .i64 r) σ'):ACall Tryz.prog 72 [.ptr b 0,.int .i64 n] σ K:=by
 have hlt:=hS.lt
 obtain ⟨p,x,hb,hp⟩:=hS
 have hself:∀ o,(σ.set b o)[b]? = some o:=fun o=>List.getElem?_set_self hlt
 have hset:∀ o o',(σ.set b o).set b o' = σ.set b o':=fun o o'=>List.set_set ..
 unfold srcO at hb
 refine e72 (by simp) fun _ _=>?_
 simp only [k72,argEnv,go_sem]
 try simp only [OpK_eq,HKv,hb,hself,hset,put3,put31,aWrapU,aInt_and24,aInt_shrU,go_sem]
 generalize hV:andV _=V
 have hV1:V≤16777215:=by rw [← hV]; exact andV_le _
 clear hV
 generalize IntKind.u64.wrap _=x1
 refine ⟨fun h=>?_,fun h1=>?_⟩
 ·exact Kv.Fin.now (hK 0 σ (by omega) (fun h'=>by omega) ⟨p,x,hb,hp⟩ (Kept.refl _ _) rfl)
 refine ⟨by omega,fun h2=>⟨h2,fun y hy=>?_⟩,fun h2=>?_⟩
 ·have hpl:p<l.length:=by omega
  rw [u8s_getD hpl] at hy; cases hy
  have hbt:=hl.2 _ (List.getElem_mem hpl)
  have hcs:(PV.int .u8 l[p]).cs = [.int .u8 l[p]]:=rfl
  rw [hcs]
  refine ⟨rfl,by simp,fun c hc=>?_⟩
  simp only [List.getElem?_cons_zero,Option.some.injEq] at hc
  subst hc
  have hpl2:=hl.1
  try simp only [OpK_eq,HKv,hself,hset,put3,put31,go_sem]
  iterate 6 (try refine ⟨by omega,?_⟩)
  exact Kv.Fin.now (hK _ _ (Int.emod_nonneg _ (by omega)) (fun h'=>Int.emod_lt_of_pos _ (by omega)) ⟨p+1,x1,hself _,by omega⟩ (Kept.set _) (by simp))
 ·try simp only [OpK_eq,HKv,hself,hset,go_sem]
  iterate 6 (try refine ⟨by omega,?_⟩)
  exact Kv.Fin.now (hK _ _ (Int.emod_nonneg _ (by omega)) (fun h'=>Int.emod_lt_of_pos _ (by omega)) ⟨p,x1,hself _,hp⟩ (Kept.set _) (by simp))
theorem getD_memD {l:List Int} {i:Nat} (h:i<l.length):l.getD i 0∈l:=by
 rw [List.getD_eq_getElem?_getD,List.getElem?_eq_getElem h]; exact List.getElem_mem _
theorem p139 {l:List Int} (hl:Byt l) {σ:Heap} {b:Nat} (hS:Src σ b l) (L:List Int) (h0:1≤L.length∧L.length≤1000) {id ver:Nat} {e:TypeId} (hid:σ[id]? = some (.arr ver e 1 (ints L))) (hne:id≠b) (k:Nat) (hk:k=L.length) {K:PV→Heap→Prop}
  (hK:∀ (r:Int) σ',r∈L→Src σ' b l→Kept σ σ' b→σ'.length = σ.length→K (.int .i64 r) σ'):ACall Tryz.prog 139 [.ptr b 0,.ref id ver 0 k] σ K:=by
 subst hk
 refine e139 (by simp) fun _ _=>?_
 simp only [k139,argEnv,go_sem]
 try simp only [OpK_eq,HKv,hid,go_sem]
 refine p72 hl hS _ fun r σ' h1 h2 h3 h4 h5=>?_
 have hid2:=(h4.2 id (List.getElem?_eq_some_iff.1 hid).1 hne).trans hid
 have hrl:=h2 (by omega)
 try simp only [OpK_eq,HKv,hid2,go_sem]
 exact ⟨by omega,by omega,fun _=>Kv.Fin.now (hK _ σ' (getD_memD (by omega)) h3 h4 h5)⟩
theorem p53 {l:List Int} (hl:Byt l) {K:PV→Heap→Prop} (hK:∀ h,K (.ptr 0 0) [srcO l 0 h]):ACall Tryz.prog 53 [.list (u8s l)] [] K:=by
 have hll:=hl.1
 refine e53 (by simp) fun _ _=>?_
 simp only [k53,argEnv,aWrapU,go_sem]
 generalize IntKind.u64.wrap _=h0
 refine KL_ind k53_b0.eq_1 (fun y:Nat × Int × PV × PV=>[(0,.list (u8s l)),(3,.ptr 0 0),(4,.int .i64 y.1),(17,y.2.2.1),(18,y.2.2.2)]) (fun y=>[srcO l 0 y.2.1]) (fun y=>y.1≤l.length) (fun y=>l.length - y.1) [0,3,4,17,18] (0,h0,.undef,.undef) (by simp [keep]) (by rfl) (Nat.zero_le _) fun ⟨k,h,v1,v2⟩ hk ih=>?_
 simp only at hk
 have hb:∀ h,[srcO l 0 h][0]? = some (.box [.list (u8s l),.int .i64 (0:Nat),.int .u64 h]):=fun h=>rfl
 have hset:∀ o o':AObj,[o].set 0 o' = [o']:=fun o o'=>rfl
 try simp only [OpK_eq,HKv,hb,hset,put3,aWrapU,go_sem]
 refine ⟨fun h1=>⟨fun h2=>⟨h1,fun y hy=>?_⟩,fun h2=>Kv.Fin.now (hK h)⟩,fun h1=>Kv.Fin.now (hK h)⟩
 have hkl:k<l.length:=by omega
 rw [u8s_getD hkl] at hy; cases hy
 have hcs:(PV.int .u8 l[k]).cs = [.int .u8 l[k]]:=rfl
 rw [hcs]
 refine ⟨rfl,by simp,fun c hc=>?_⟩
 simp only [List.getElem?_cons_zero,Option.some.injEq] at hc
 subst hc
 try simp only [OpK_eq,HKv,hb,hset,put3,aWrapU,go_sem]
 iterate 4 (try refine ⟨by omega,?_⟩)
 exact ih (k+1,_,_,_) (by show k+1≤l.length; omega) (by show l.length - (k+1)<l.length - k; omega) _ _ (by simp [keep]; exact ⟨rfl,rfl⟩) rfl
end
end
section
section
set_option maxRecDepth 100000
abbrev k109_b0s0:KT:=(.op (oP 28 (.app (.t 24) (.t 27) 2 1)) (.op (mV 5 28) .fin))
abbrev k109_b0s1:KT:=(.op (oP 24 (.app (.t 21) (.t 23) 2 1)) k109_b0s0)
abbrev k109_b0s2:KT:=(.alt (.op (oP 24 (.app (.t 21) (.t 23) 2 1)) (.op (oP 27 (.sls 1 (.t 25) (some (.t 26)) none)) k109_b0s0)) (.op (oP 27 (.sls 1 (.t 25) (some (.t 26)) none)) k109_b0s1))
abbrev k109_b0s3:KT:=(.op (oP 23 (.bsl true 2 1 [(.t 22)])) k109_b0s1)
abbrev k109_b0s4:KT:=(.op (oP 21 (.call (fC 117) [(.t 20)])) k109_b0s1)
abbrev k109_b0s5:KT:=(.alt (.op (oP 21 (.call (fC 117) [(.t 20)])) k109_b0s2) (.op (oP 27 (.sls 1 (.t 25) (some (.t 26)) none)) k109_b0s4))
abbrev k109_b0s6:KT:=(.alt (.op (oP 21 (.call (fC 117) [(.t 20)])) k109_b0s3) (.op (oP 23 (.bsl true 2 1 [(.t 22)])) k109_b0s4))
abbrev k109_b0s7:KT:=(.op (oP 20 (.sls 1 (.t 18) none (some (.t 19)))) k109_b0s4)
def k109_b0:KC:=(.seq (.seq (.ops [mV 9 6,mV 10 1,oP 11 (.bin .lss (.t 9) (.t 10))])
 (.cond (.t 11) .skip (.exit 0)))
 (.seq (.block 1 (.seq (.ops [mV 14 0,mV 15 6,oP 16 (.bin .add (.t 15) (iC 1)),oP 17 (.call (fC 72) [(.t 14),(.t 16)]),mV 7 17])
 (.tree (.op (mV 18 5) (.op (mV 19 7) (.op (mV 22 6) (.op (mV 25 5) (.op (mV 26 7) (.alt (.op (oP 20 (.sls 1 (.t 18) none (some (.t 19)))) (.alt (.op (oP 21 (.call (fC 117) [(.t 20)])) (.alt (.op (oP 23 (.bsl true 2 1 [(.t 22)])) k109_b0s2) (.op (oP 27 (.sls 1 (.t 25) (some (.t 26)) none)) k109_b0s3))) (.alt (.op (oP 23 (.bsl true 2 1 [(.t 22)])) k109_b0s5) (.op (oP 27 (.sls 1 (.t 25) (some (.t 26)) none)) k109_b0s6)))) (.alt (.op (oP 23 (.bsl true 2 1 [(.t 22)])) (.alt (.op (oP 20 (.sls 1 (.t 18) none (some (.t 19)))) k109_b0s5) (.op (oP 27 (.sls 1 (.t 25) (some (.t 26)) none)) k109_b0s7))) (.op (oP 27 (.sls 1 (.t 25) (some (.t 26)) none)) (.alt (.op (oP 20 (.sls 1 (.t 18) none (some (.t 19)))) k109_b0s6) (.op (oP 23 (.bsl true 2 1 [(.t 22)])) k109_b0s7)))))))))))))
 (.ops [mV 12 6,oP 13 (.bin .add (.t 12) (iC 1)),mV 6 13])))
def k109:KC:=(.seq (.ops [oP 4 (.mv (.c (.nils)))])
 (.seq (.ops [oP 8 (.bsl false 2 1 []),mV 5 8])
 (.seq (.seq (.ops [oP 6 (.mv (iC 0))])
 (.block 0 (.loop k109_b0)))
 (.seq (.ops [mV 29 5,mV 4 29])
 .ret))))
theorem e109:Ent 109 30 [23] [.t 4] k109:=ent Tryz.func109
end
section
attribute [local irreducible] ACall PCall KL
theorem Src.keep {σ σ':Heap} {b:Nat} {l:List Int} (h:Src σ b l) (hk:σ'[b]? = σ[b]?):Src σ' b l:=by
 obtain ⟨p,x,h,h2⟩:=h
 exact ⟨p,x,hk.trans h,h2⟩
theorem p109S {l:List Int} (hl:Byt l) {σ:Heap} {b:Nat} (hS:Src σ b l) (n:Nat) (hn:n≤1000) {K:PV→Heap→Prop}
    (hK:∀ (L:List Int) id ver σ',L.length=n→((∀ x∈L,0≤x∧x<n)∧L.Nodup)→Src σ' b l→Kept σ σ' b→σ.length≤id→σ'[id]? = some (.arr ver 2 1 (ints L))→K (.ref id ver 0 n) σ'):ACall Tryz.prog 109 [.ptr b 0,.int .i64 n] σ K:=by
  have hlt:=hS.lt
  refine e109 (by simp) fun _ _=>?_
  simp only [k109,argEnv,go_sem]
  refine KL_ind k109_b0.eq_1 (fun y:Nat × List Int × Nat × Nat × Heap=>[(0,.ptr b 0),(1,.int .i64 n),(5,.ref y.2.2.1 y.2.2.2.1 0 y.1),(6,.int .i64 y.1)]) (fun y=>y.2.2.2.2) (fun y=>y.1≤n∧y.2.1.length=y.1∧((∀ x∈y.2.1,0≤x∧x<y.1)∧y.2.1.Nodup)∧Src y.2.2.2.2 b l∧Kept σ y.2.2.2.2 b∧σ.length≤y.2.2.1∧y.2.2.2.2[y.2.2.1]? = some (.arr y.2.2.2.1 2 1 (ints y.2.1))) (fun y=>n - y.1) [0,1,5,6] (0,[],σ.length,0,σ ++ [.arr 0 2 1 []]) (by simp [keep]) rfl ⟨Nat.zero_le _,rfl,⟨by simp,by simp⟩,hS.app _,Kept.app _ _ _,Nat.le_refl _,by simp; rfl⟩ fun ⟨k,L,id,ver,τ⟩ ⟨hk,hLl,⟨hLx,hLn⟩,hS1,hKp,hid1,hid⟩ ih=>?_
  simp only at hk hLl hLx hLn hS1 hKp hid1 hid
  try simp only [OpK_eq,HKv,go_sem]
  refine ⟨fun h1=>⟨by omega,?_⟩,fun h1=>?_⟩
  · refine p72 hl hS1 _ fun r τ' h2 h3 h4 h5 h6=>?_
    have h3:=h3 (by omega)
    have hne:id≠b:=by omega
    have hid2:=(h5.2 id (List.getElem?_eq_some_iff.1 hid).1 hne).trans hid
    have hlt2:=(List.getElem?_eq_some_iff.1 hid2).1
    have hap:∀ X,(τ' ++ X)[id]? = some (.arr ver 2 1 (ints L)):=fun X=>(List.getElem?_append_left hlt2).trans hid2
    try simp only [OpK_eq,HKv,hid2,hap,go_sem]
    have hr0:((k:Int)+1)=((k+1:Nat):Int):=by omega
    have hrk:r.toNat≤k:=by omega
    have hri:(r.toNat:Int)=r:=by omega
    have hLk:L.length=k:=hLl
    have htl:(L.take r.toNat).length=r.toNat:=by rw [List.length_take]; omega
    have himm:Imm τ' (.ref id ver 0 (r.toNat - 0)) (.list (ints (L.take r.toNat))):=by
      refine Imm.refp (pre:=[]) (l:=L.take r.toNat) (post:=L.drop r.toNat) (by rw [List.nil_append,List.take_append_drop]; exact hid2) (by rw [htl]; rfl) rfl
    have hs0:∀ (x y:AObj),(τ' ++ [x]).set τ'.length y = τ' ++ [y]:=fun x y=>by
      rw [List.set_append_right _ _ (Nat.le_refl _)]; simp
    have ht0:∀ (x:AObj),(τ' ++ [x])[τ'.length]? = some x:=fun x=>by simp
    have e1:List.take (r.toNat+1) (List.take r.toNat (List.take r.toNat L) ++ [(k:Int)])=L.take r.toNat ++ [(k:Int)]:=by
      rw [List.take_take,Nat.min_self,List.take_of_length_le (by rw [List.length_append,htl]; exact Nat.le_refl _)]
    have e2:List.take (k - r.toNat) (List.drop r.toNat L)=L.drop r.toNat:=List.take_of_length_le (by rw [List.length_drop]; omega)
    have e3:(L.take r.toNat ++ [(k:Int)]) ++ L.drop r.toNat=L.take r.toNat ++ (k:Int) :: L.drop r.toNat:=by simp
    have e4:r.toNat+1+(L.drop r.toNat).length=k+1:=by rw [List.length_drop]; omega
    have hx2:∀ x∈L.take r.toNat ++ (k:Int) :: L.drop r.toNat,0≤x∧x<(k+1:Nat):=fun x hx=>by
      rcases List.mem_append.1 hx with hx | hx
      · have:=hLx x (List.mem_of_mem_take hx); omega
      · rcases List.mem_cons.1 hx with rfl | hx
        · omega
        · have:=hLx x (List.mem_of_mem_drop hx); omega
    have hnd2:(L.take r.toNat ++ (k:Int) :: L.drop r.toNat).Nodup:=by
      refine List.perm_middle.nodup_iff.2 (List.nodup_cons.2 ⟨fun h=>?_,by rw [List.take_append_drop]; exact hLn⟩)
      rw [List.take_append_drop] at h
      have:=hLx _ h; omega
    repeat' (first
      | omega
      | (rw [vT_alt]; refine ⟨?_,?_⟩)
      | (refine ACall.lend (p117 (L.take r.toNat) (by rw [htl]; omega)) (.cons himm (.nil _)) fun v s hv=>?_
         obtain ⟨rfl,rfl⟩:=hv
         refine ⟨⟨free_ref _ _ _ _,Free.ints _ _ _ _⟩,?_⟩)
      | (with_reducible refine And.intro ?_ ?_)
      | (simp only [OpK_eq,HKv,hid2,hap,hs0,ht0,htl,ren_ref,ren_arr,ren_ints,Nat.zero_add,List.map_cons,List.map_nil,go_sem]))
    all_goals (try (first | (show _≤_; simp only [List.length_take,List.length_drop,List.length_append,List.length_singleton]; omega)))
    all_goals (rw [e1,e2,e3,e4])
    all_goals exact ih (k+1,L.take r.toNat ++ (k:Int) :: L.drop r.toNat,τ'.length,3,_) ⟨by show k+1≤n; omega,by show (L.take r.toNat ++ (k:Int) :: L.drop r.toNat).length=k+1; rw [List.length_append,List.length_cons,List.length_drop,htl]; omega,⟨hx2,hnd2⟩,h4.app _,(hKp.trans h5).trans (Kept.app _ _ _),by show σ.length≤τ'.length; have:=hKp.1; omega,ht0 _⟩ (by show n - (k+1)<n - k; omega) _ _ (by simp [keep]) rfl
  · obtain rfl:k=n:=by omega
    exact Kv.Fin.now (hK L id ver τ hLl ⟨hLx,hLn⟩ hS1 hKp hid1 hid)
theorem p109 {l:List Int} (hl:Byt l) {σ:Heap} {b:Nat} (hS:Src σ b l) (n:Nat) (hn:n≤5) {K:PV→Heap→Prop}
  (hK:∀ (L:List Int) id ver σ',L.length=n→(∀ x∈L,0≤x∧x<n)→Src σ' b l→Kept σ σ' b→σ.length≤id→σ'[id]? = some (.arr ver 2 1 (ints L))→K (.ref id ver 0 n) σ'):ACall Tryz.prog 109 [.ptr b 0,.int .i64 n] σ K :=
 p109S hl hS n (by omega) fun L id ver σ' h1 h2 h3 h4 h5 h6=>hK L id ver σ' h1 h2.1 h3 h4 h5 h6
end
end
end Go.Proofs.YtcfmmmloeaggmaaGreat
