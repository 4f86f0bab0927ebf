/- Several texts of this session as one, less what the claim does not need. -/
import Derived.Test.YtcfmmmloeaggmaaGreatCb
import Derived.Test.YtcfmmmloeaggmaaGreatZ10
import Derived.Test.YtcfmmmloeaggmaaGreatZ5
import Derived.Test.YtcfmmmloeaggmaaGreatZ6
import Derived.Test.YtcfmmmloeaggmaaGreatZ7
import Derived.Test.YtcfmmmloeaggmaaGreatFC
import Derived.Test.YtcfmmmloeaggmaaGreatZ8
namespace Go.Proofs.YtcfmmmloeaggmaaGreat
open Go.Kv
set_option linter.unusedVariables false
set_option linter.unusedSimpArgs false
section
section
set_option maxRecDepth 100000
def k133_b0:KC:=(.seq (.seq (.ops [mV 27 11,mV 28 0,oP 29 (.len false (.t 28)),oP 30 (.bin .lss (.t 27) (.t 29))])
 (.cond (.t 30) .skip (.exit 2)))
 (.seq (.block 3 (.seq (.draw [mV 33 7,mV 34 10,oP 35 (.idxS 6 (.t 33) (.t 34)),oP 36 (.load true 6 (.t 35)),mV 37 0,mV 38 11,oP 39 (.idxS 6 (.t 37) (.t 38)),oP 40 (.load true 6 (.t 39)),oP 41 (.pcall (fC 137) [(.t 36),(.t 40)]),oP 12 (.alloc [.int .i64 0,.int .i64 0,.int .i64 0,.int .i64 0,.int .i64 0,.int .i64 0]),⟨none,none,.store 6 (.t 12) (.t 41)⟩])
 (.seq (.seq (.ops [mV 42 9,oP 43 (.load true 6 (.t 12)),oP 44 (.call (fC 183) [(.t 42),(.t 43)]),oP 45 (.bin .geq (.t 44) (iC 0))])
 (.cond (.t 45) (.exit 3) .skip))
 (.seq (.seq (.ops [mV 46 7,oP 47 (.len false (.t 46)),oP 48 (.bin .eql (.t 47) (iC 300))])
 (.cond (.t 48) (.seq (.ops [oP 4 (.mv (.c (.nils))),oP 5 (.mv (.c (.nils))),oP 6 (.mv (.c (.bool false)))])
 .ret) .skip))
 (.seq (.ops [mV 49 7,oP 50 (.load true 6 (.t 12)),oP 51 (.bsl true 48 6 [(.t 50)]),oP 52 (.app (.t 49) (.t 51) 48 6),mV 7 52])
 (.seq (.ops [mV 53 8,mV 54 8,mV 55 10,oP 56 (.idxS 1 (.t 54) (.t 55)),oP 57 (.load false 1 (.t 56)),oP 58 (.call (fC 117) [(.t 57)]),mV 59 11,oP 60 (.bsl true 2 1 [(.t 59)]),oP 61 (.app (.t 58) (.t 60) 2 1),oP 62 (.bsl true 25 1 [(.t 61)]),oP 63 (.app (.t 53) (.t 62) 25 1),mV 8 63])
 (.ops [mV 64 9,oP 65 (.load true 6 (.t 12)),oP 66 (.call (fC 134) [(.t 64),(.t 65)]),mV 9 66])))))))
 (.ops [mV 31 11,oP 32 (.bin .add (.t 31) (iC 1)),mV 11 32])))
def k133_b1:KC:=(.seq (.seq (.ops [mV 21 10,mV 22 7,oP 23 (.len false (.t 22)),oP 24 (.bin .lss (.t 21) (.t 23))])
 (.cond (.t 24) .skip (.exit 0)))
 (.seq (.block 1 (.seq (.ops [oP 11 (.mv (iC 0))])
 (.block 2 (.loop k133_b0))))
 (.ops [mV 25 10,oP 26 (.bin .add (.t 25) (iC 1)),mV 10 26])))
def k133:KC:=(.seq (.ops [oP 4 (.mv (.c (.nils))),oP 5 (.mv (.c (.nils))),oP 6 (.mv (.c (.bool false)))])
 (.seq (.ops [mV 13 1,oP 14 (.call (fC 136) [(.t 13)]),oP 15 (.bsl false 48 6 [(.t 14)]),oP 16 (.bsl false 2 1 []),oP 17 (.bsl false 25 1 [(.t 16)]),mV 7 15,mV 8 17])
 (.seq (.ops [mV 18 1,oP 19 (.call (fC 136) [(.t 18)]),oP 20 (.bsl false 48 6 [(.t 19)]),mV 9 20])
 (.seq (.seq (.ops [oP 10 (.mv (iC 0))])
 (.block 0 (.loop k133_b1)))
 (.seq (.ops [mV 67 7,mV 68 8,mV 4 67,mV 5 68,oP 6 (.mv (.c (.bool true)))])
 .ret)))))
theorem e133:Ent 133 69 [51,60,62] [.t 4,.t 5,.t 6] k133:=ent Tryz.func133
end
section
attribute [local irreducible] ACall PCall KL
def clA (fs:List (List Nat)) (m:List Nat) (Q:List (List Nat)):Nat→Option (List (List Nat))
 | 0=>some Q
 | k+1=>match clA fs m Q k with
  | none=>none
  | some R=>if mul m (fs.getD k [])∈R then some R else if R.length=300 then none else some (R ++ [mul m (fs.getD k [])])
def clB (fs:List (List Nat)) (n:Nat):Nat→Option (List (List Nat))
 | 0=>some [List.range n]
 | i+1=>match clB fs n i with
  | none=>none
  | some Q=>match Q[i]? with
   | some m=>clA fs m Q fs.length
   | none=>some Q
theorem range_ok {n:Nat} (h1:1≤n) (h5:n≤5):Ok (List.range n) n:=by
 refine ⟨?_,?_,?_,?_⟩ <;> first | exact h1 | exact h5 | simp
theorem clA_pre {fs:List (List Nat)} {m:List Nat} {Q:List (List Nat)}:∀ k R,clA fs m Q k=some R→∃ r,R=Q ++ r
 | 0,R,h=>by
  have:Q=R:=by simpa [clA] using h
  exact ⟨[],by simp [this]⟩
 | k+1,R,h=>by
  unfold clA at h
  cases hc:clA fs m Q k with
  | none=>rw [hc] at h; cases h
  | some R' =>
   obtain ⟨r,hr⟩:=clA_pre k R' hc
   rw [hc] at h
   simp only at h
   split at h
   ·cases h; exact ⟨r,hr⟩
   ·split at h
    ·cases h
    ·cases h; exact ⟨r ++ [mul m (fs.getD k [])],by rw [hr,List.append_assoc]⟩
theorem clA_none {fs:List (List Nat)} {m:List Nat} {Q:List (List Nat)} {k:Nat} (h:clA fs m Q k=none):∀ d,clA fs m Q (k+d)=none
 | 0=>h
 | d+1=>by
  show clA fs m Q (k+d+1)=none
  unfold clA
  rw [clA_none h d]
theorem WG.immN {σ:Heap} {A:Nat→Prop} {q ver k:Nat} {ws:List PV} {L:List (List Int)} (h:WG σ A q ver ws L) (hk:k=L.length):Imm σ (.ref q ver 0 k) (.list (rows L)):=by
 subst hk
 refine .ref q ver 0 L.length _ 1 ws (rows L) h.out (by rw [h.len]; simp) (rows_length L) (fun i x d hx hd=>?_) (fun i x d j c c' hx hd hc hc'=>?_)
 all_goals
  rw [Nat.zero_add] at hx
  have hi:i<L.length:=by have:=(List.getElem?_eq_some_iff.1 hd).1; rwa [rows_length] at this
  obtain ⟨w,hw,hW⟩:=h.cell hi
  obtain ⟨y,hy,rfl⟩:=rows_get hd
  rw [List.getElem?_eq_getElem hi] at hy; cases hy
  rw [hw] at hx; cases hx
 ·have:=hW.cs
  refine ⟨by rw [this.1]; rfl,rfl⟩
 ·have h1:=List.mem_of_getElem? hc
  have h2:=List.mem_of_getElem? hc'
  rw [hW.cs.1] at h1
  simp only [PV.cs,List.mem_singleton] at h1 h2
  subst h1; subst h2
  exact hW.imm
set_option maxHeartbeats 4000000 in
theorem p133 (fs:List (List Nat)) (n:Nat) (h1:1≤n) (h5:n≤5) (hf:∀ f∈fs,Ok f n) (hfl:fs.length≤1000) {K:PV→Heap→Prop}
  (hK1:∀ i Q W,clB fs n i=some Q→i=Q.length→(∀ f∈Q,Ok f n)→Q.length≤300→K (.tup [.list (aggs (Q.map mp)),.list (rows W),.bool true]) [])
  (hK2:∀ i,i≤301→clB fs n i=none→K (.tup [.nils,.nils,.bool false]) []):ACall Tryz.prog 133 [.list (aggs (fs.map mp)),.int .i64 n] [] K:=by
 have h0k:=range_ok h1 h5
 have h06:=h0k.mp_len
 refine e133 (by simp) fun _ _=>?_
 simp only [k133,argEnv,go_sem]
 refine (p136 n h1 h5).go ?_
 try simp only [OpK_eq,HKv,h06,go_sem]
 refine (p136 n h1 h5).go ?_
 try simp only [OpK_eq,HKv,h06,go_sem]
 refine KL_freezeAt (id:=3) [0,7,8,9,10] rfl (env0:=[(0,.list (aggs (fs.map mp))),(7,.ref 0 0 0 1),(8,.ref 2 0 0 1),(9,.ref 3 0 0 1),(10,.int .i64 0)]) (env':=[(0,.list (aggs (fs.map mp))),(7,.ref 0 0 0 1),(8,.ref 2 0 0 1),(9,.list (aggs ([List.range n].map mp))),(10,.int .i64 0)]) (by simp [keep]) (by rfl) (fun t=>?_) ?_
 ·simp only [look_cons,look_nil]
  repeat' split
  ·exact .inl Imm.still
  ·exact .inr ⟨rfl,0,0,0,1,by decide,rfl⟩
  ·exact .inr ⟨rfl,2,0,0,1,by decide,rfl⟩
  ·exact .inl (Imm.refa (l:=[mp (List.range n)]) (solo_get rfl))
  ·exact .inl Imm.still
  ·exact .inl (.refl _ Plain.undef.up)
 refine KL_ind k133_b1.eq_1 (fun y:Nat × Nat × Nat × List PV × List (List Int) × List (List Nat) × List (List Nat) × Heap=>[(0,.list (aggs (fs.map mp))),(7,.ref 0 y.2.1 0 y.2.2.2.2.2.2.1.length),(8,.ref 2 y.2.2.1 0 y.2.2.2.2.2.2.1.length),(9,.list (aggs (y.2.2.2.2.2.1.map mp))),(10,.int .i64 y.1)]) (fun y=>y.2.2.2.2.2.2.2)
  (fun ⟨i,v0,v2,ws,W,S,Q,σ⟩=>i≤Q.length∧clB fs n i=some Q∧(∀ f∈Q,Ok f n)∧Q.length≤300∧SrM n S∧(∀ f,f∈S↔f∈Q)∧S.length≤Q.length∧σ[0]? = some (.arr v0 48 6 (aggs (Q.map mp)))∧WG σ (fun id=>id=0) 2 v2 ws W∧W.length=Q.length∧(∀ w∈W,w.length+1≤W.length)) (fun y=>301 - y.1) [0,7,8,9,10]
  (0,0,0,[.ref 1 0 0 0],[[]],[List.range n],[List.range n],_) (by simp [keep]) rfl ?_ fun ⟨i,v0,v2,ws,W,S,Q,σ⟩ ⟨j1,j2,j3,j4,j5,j6,j7,j8,j9,j10,j11⟩ ih=>?_
 ·refine ⟨Nat.zero_le _,rfl,fun f hf'=>?_,by simp,⟨fun f hf'=>?_,by simp⟩,fun f=>Iff.rfl,Nat.le_refl _,rfl,⟨rfl,rfl,fun j w l hw hl=>?_⟩,rfl,fun w hw=>?_⟩
  ·simp only [List.mem_singleton] at hf'; rw [hf']; exact h0k
  ·simp only [List.mem_singleton] at hf'; rw [hf']; exact h0k
  ·have e1:=List.mem_of_getElem? hw
   have e2:=List.mem_of_getElem? hl
   simp only [List.mem_singleton] at e1 e2
   subst e1; subst e2
   exact .inr ⟨1,0,rfl,rfl,by decide⟩
  ·simp only [List.mem_singleton] at hw; subst hw; simp
 try simp only at j1 j2 j3 j4 j5 j6 j7 j8 j9 j10 j11
 try simp only [OpK_eq,HKv,j8,aggs_length,List.length_map,go_sem]
 refine ⟨fun g1=>?_,fun g1=>?_⟩
 ·have hil:i<Q.length:=by omega
  have hm?:Q[i]? = some Q[i]:=List.getElem?_eq_getElem hil
  have hBs:clB fs n (i+1)=clA fs Q[i] Q fs.length:=by
   rw [clB,j2]
   simp only
   rw [hm?]
  have hmO:=j3 _ (List.getElem_mem hil)
  generalize hm:Q[i]=m at *
  refine KL_ind k133_b0.eq_1 (fun y:Nat × Nat × Nat × List PV × List (List Int) × List (List Nat) × List (List Nat) × Heap=>[(0,.list (aggs (fs.map mp))),(7,.ref 0 y.2.1 0 y.2.2.2.2.2.2.1.length),(8,.ref 2 y.2.2.1 0 y.2.2.2.2.2.2.1.length),(9,.list (aggs (y.2.2.2.2.2.1.map mp))),(10,.int .i64 i),(11,.int .i64 y.1)]) (fun y=>y.2.2.2.2.2.2.2)
   (fun ⟨k,v0,v2,ws,W,S,R,τ⟩=>k≤fs.length∧clA fs m Q k=some R∧(∀ f∈R,Ok f n)∧R.length≤300∧SrM n S∧(∀ f,f∈S↔f∈R)∧S.length≤R.length∧τ[0]? = some (.arr v0 48 6 (aggs (R.map mp)))∧WG τ (fun id=>id=0) 2 v2 ws W∧W.length=R.length∧(∀ w∈W,w.length+1≤W.length)) (fun y=>fs.length - y.1) [0,7,8,9,10,11]
   (0,v0,v2,ws,W,S,Q,σ) (by simp [keep]) rfl ⟨Nat.zero_le _,rfl,j3,j4,j5,j6,j7,j8,j9,j10,j11⟩ fun ⟨k,u0,u2,ws2,W2,S2,R,τ⟩ ⟨l1,l2,l3,l4,l5,l6,l7,l8,l9,l10,l11⟩ ihk=>?_
  obtain ⟨r,hr⟩:=clA_pre k R l2
  have hiR:i<R.length:=by rw [hr,List.length_append]; omega
  have hRi:(R.map mp).getD i []=mp m:=by
   rw [List.getD_eq_getElem?_getD,List.getElem?_map,hr,List.getElem?_append_left hil,hm?]; rfl
  have h6m:=hmO.mp_len
  try simp only [OpK_eq,HKv,l8,aggs_length,List.length_map,go_sem]
  refine ⟨fun g2=>?_,fun g2=>?_⟩
  ·have hkl:k<fs.length:=by omega
   have hfk:=hf _ (List.getElem_mem hkl)
   have h6k:=hfk.mp_len
   have hgk:(fs.map mp).getD k []=mp fs[k]:=by simp [List.getD_eq_getElem?_getD,hkl]
   have hgf:fs.getD k []=fs[k]:=by simp [List.getD_eq_getElem?_getD,hkl]
   try simp only [OpK_eq,HKv,l8,aggs_length,List.length_map,hRi,h6m,hgk,h6k,go_sem]
   refine ⟨⟨by omega,by omega⟩,by omega,fun _=>⟨by omega,fun _=>?_⟩⟩
   refine (p137 m fs[k] n hmO hfk).pgo ?_
   have hgO:=hmO.mul hfk
   have hAs:clA fs m Q (k+1)=if mul m fs[k]∈R then some R else if R.length=300 then none else some (R ++ [mul m fs[k]]):=by
    rw [clA,l2]
    simp only
    rw [hgf]
   generalize hg':mul m fs[k]=g at *
   have h6g:=hgO.mp_len
   have hgb:∀ (s:Heap) (a:AObj),(s ++ [a])[s.length]? = some a:=fun s a=>by simp
   have hsb:∀ (s:Heap) (a b:AObj),(s ++ [a]).set s.length b=s ++ [b]:=fun s a b=>by simp [List.set_append_right]
   have hilg:(ints (mp g)).length=6:=by rw [ints_length,h6g]
   try simp only [OpK_eq,HKv,hgb,hsb,hilg,h6g,go_sem]
   have hFd:=p183 n S2 l5 (by omega) g hgO
   have hlom:=lo_mem l5 hgO
   by_cases hin:g∈R
   ·rw [if_pos hin] at hAs
    rw [if_pos (hlom.2 ((l6 g).2 hin))] at hFd
    refine hFd.go ?_
    try simp only [OpK_eq,HKv,go_sem]
    refine ⟨by omega,ihk (k+1,u0,u2,ws2,W2,S2,R,_) ⟨by omega,hAs,l3,l4,l5,l6,l7,(List.getElem?_append_left (List.getElem?_eq_some_iff.1 l8).1).trans l8,l9.keep (fun id hid _=>List.getElem?_append_left hid) (by decide),l10,l11⟩ (by show fs.length - (k+1)<fs.length - k; omega) _ _ (by simp [keep]) rfl⟩
   ·rw [if_neg hin] at hAs
    rw [if_neg (fun h=>hin ((l6 g).1 (hlom.1 h)))] at hFd
    refine hFd.go ?_
    have h0':∀ X,(τ ++ X)[0]? = some (.arr u0 48 6 (aggs (R.map mp))):=fun X=>(List.getElem?_append_left (List.getElem?_eq_some_iff.1 l8).1).trans l8
    have hok:=ok6' h6g
    have t6:List.take 6 (mp g)=mp g:=take6 h6g
    have tR:List.take R.length (R.map mp)=R.map mp:=List.take_of_length_le (by rw [List.length_map]; exact Nat.le_refl _)
    have tRg:R.map mp ++ [mp g]=(R ++ [g]).map mp:=by simp
    try simp only [OpK_eq,HKv,h0',aggs_length,List.length_map,t6,tR,tRg,go_sem]
    refine ⟨fun h300=>Kv.Fin.still (hK2 (i+1) (by omega) ?_),fun h300=>⟨by omega,h6g,h6g,⟨by omega,by omega⟩,?_⟩⟩
    ·rw [hBs]
     have hN:clA fs m Q (k+1)=none:=by rw [hAs,if_pos (by omega)]
     have:=clA_none hN (fs.length - (k+1))
     rwa [show k+1+(fs.length - (k+1))=fs.length by omega] at this
    ·rw [if_neg (by omega)] at hAs
     have hτ0:=(List.getElem?_eq_some_iff.1 l8).1
     have r0:((τ ++ [AObj.box (ints (mp g))]).set 0 (.arr (u0+1) 48 6 (aggs ((R ++ [g]).map mp))))[0]? = some (.arr (u0+1) 48 6 (aggs ((R ++ [g]).map mp))):=List.getElem?_set_self (by simp)
     have rb:((τ ++ [AObj.box (ints (mp g))]).set 0 (.arr (u0+1) 48 6 (aggs ((R ++ [g]).map mp))))[τ.length]? = some (.box (ints (mp g))):=by
      rw [List.getElem?_set_ne (by omega)]; simp
     have hW:WG ((τ ++ [AObj.box (ints (mp g))]).set 0 (.arr (u0+1) 48 6 (aggs ((R ++ [g]).map mp)))) (fun id=>id=0) 2 u2 ws2 W2:=l9.keep (fun id hid hA=>by
      rw [List.getElem?_set_ne (fun e=>hA e.symm),List.getElem?_append_left hid]) (by decide)
     generalize (τ ++ [AObj.box (ints (mp g))]).set 0 (.arr (u0+1) 48 6 (aggs ((R ++ [g]).map mp))) = ρ at *
     obtain ⟨w,hw,hWd⟩:=hW.cell (i:=i) (by omega)
     have hWo:=hW.out
     have hwl:=hW.len
     have hwcs:=hWd.cs
     try simp only [OpK_eq,HKv,hWo,go_sem]
     refine ⟨⟨by omega,by omega⟩,by omega,fun q hq=>?_⟩
     rw [hw] at hq; cases hq
     rw [hwcs.1]
     refine ⟨by simp,fun q hq=>?_⟩
     simp only [List.getElem?_cons_zero,Option.some.injEq] at hq; subst hq
     have hWi:W2[i].length+1≤W2.length:=l11 _ (List.getElem_mem _)
     generalize W2[i]'(by omega)=wi at hWd hWi
     try simp only [OpK_eq,HKv,go_sem]
     refine ACall.lend (p117 wi (by omega)) (.cons hWd.imm (.nil _)) fun v s hv=>?_
     obtain ⟨rfl,rfl⟩:=hv
     refine ⟨⟨free_ref _ _ _ _,Free.ints _ _ _ _⟩,?_⟩
     try simp only [OpK_eq,HKv,ren_ref,ren_arr,ren_ints,Nat.zero_add,hgb,hsb,go_sem]
     have hW3:WG (ρ ++ [AObj.arr 2 2 1 (ints (wi ++ [(k:Int)]))]) (fun id=>id=0) 2 u2 ws2 W2:=hW.keep (fun id hid _=>List.getElem?_append_left hid) (by decide)
     have hρ2:=(List.getElem?_eq_some_iff.1 hWo).1
     have hwd:Wd (ρ ++ [AObj.arr 2 2 1 (ints (wi ++ [(k:Int)]))]) (fun id=>id=0∨id=2) (.ref ρ.length 2 0 (wi.length+1)) (wi ++ [(k:Int)]):=by
      have e:wi.length+1=(wi ++ [(k:Int)]).length:=by simp
      rw [e]
      exact .inr ⟨_,2,rfl,by simp,fun h=>by rcases h with h | h <;> omega⟩
     have hpush:∀ K':PV→Heap→Prop,(WG ((ρ ++ [AObj.arr 2 2 1 (ints (wi ++ [(k:Int)]))]).set 2 (.arr (u2+1) 25 1 (ws2 ++ [.ref ρ.length 2 0 (wi.length+1)]))) (fun id=>id=0) 2 (u2+1) (ws2 ++ [.ref ρ.length 2 0 (wi.length+1)]) (W2 ++ [wi ++ [(k:Int)]])→K' (.ref 2 (u2+1) 0 (R.length+1)) ((ρ ++ [AObj.arr 2 2 1 (ints (wi ++ [(k:Int)]))]).set 2 (.arr (u2+1) 25 1 (ws2 ++ [.ref ρ.length 2 0 (wi.length+1)]))))→aApp 25 1 (.ref 2 u2 0 R.length) (.list [.ref ρ.length 2 0 (wi.length+1)]) (ρ ++ [AObj.arr 2 2 1 (ints (wi ++ [(k:Int)]))]) K':=fun K' hk=>by
      have:=hW3.push hwd (by omega) (K:=K') (by rw [l10]; exact hk)
      rwa [l10] at this
     refine ⟨⟨by omega,by omega⟩,?_⟩
     rw [← aApp_ref]
     refine hpush _ fun hWn=>?_
     have n0:((ρ ++ [AObj.arr 2 2 1 (ints (wi ++ [(k:Int)]))]).set 2 (.arr (u2+1) 25 1 (ws2 ++ [.ref ρ.length 2 0 (wi.length+1)])))[0]? = some (.arr (u0+1) 48 6 (aggs ((R ++ [g]).map mp))):=by
      rw [List.getElem?_set_ne (by decide),List.getElem?_append_left (by omega)]; exact r0
     have hτ2:=(List.getElem?_eq_some_iff.1 l9.out).1
     have nb:((ρ ++ [AObj.arr 2 2 1 (ints (wi ++ [(k:Int)]))]).set 2 (.arr (u2+1) 25 1 (ws2 ++ [.ref ρ.length 2 0 (wi.length+1)])))[τ.length]? = some (.box (ints (mp g))):=by
      have hb:=(List.getElem?_eq_some_iff.1 rb).1
      rw [List.getElem?_set_ne (by omega),List.getElem?_append_left hb]; exact rb
     generalize (ρ ++ [AObj.arr 2 2 1 (ints (wi ++ [(k:Int)]))]).set 2 (.arr (u2+1) 25 1 (ws2 ++ [.ref ρ.length 2 0 (wi.length+1)])) = ρ2 at *
     try simp only [OpK_eq,HKv,nb,hilg,h6g,go_sem]
     refine (p134 n S2 l5 (by omega) g hgO).go ?_
     have hpm:=fun x=>putM_mem l5 hgO (x:=x)
     have hps:=putM_srm l5 hgO
     have hpl:=putM_len (n:=n) (S:=S2) g
     try simp only [OpK_eq,HKv,go_sem]
     refine ⟨by omega,ihk (k+1,u0+1,u2+1,_,W2 ++ [wi ++ [(k:Int)]],putM n S2 g,R ++ [g],ρ2) ⟨by omega,hAs,fun f hf'=>?_,by simp; omega,hps,fun f=>?_,by simp; omega,n0,hWn,by simp [l10],fun x hx=>?_⟩ (by show fs.length - (k+1)<fs.length - k; omega) _ _ (by simp [keep]) rfl⟩
     ·rcases List.mem_append.1 hf' with hf' | hf'
      ·exact l3 f hf'
      ·simp only [List.mem_singleton] at hf'; rw [hf']; exact hgO
     ·rw [hpm,List.mem_append,List.mem_singleton,l6]
      exact ⟨fun h=>h.elim .inr .inl,fun h=>h.elim .inr .inl⟩
     ·rw [List.length_append,List.length_singleton]
      rcases List.mem_append.1 hx with hx | hx
      ·have:=l11 x hx; omega
      ·simp only [List.mem_singleton] at hx
       rw [hx,List.length_append,List.length_singleton]; omega
  ·have hke:k=fs.length:=by omega
   subst hke
   try simp only [go_sem]
   exact ⟨by omega,ih (i+1,u0,u2,ws2,W2,S2,R,τ) ⟨by omega,by rw [hBs]; exact l2,l3,l4,l5,l6,l7,l8,l9,l10,l11⟩ (by show 301 - (i+1)<301 - i; omega) _ _ (by simp [keep]) rfl⟩
 ·have hiQ:i=Q.length:=by omega
  have hl1:Q.length=(Q.map mp).length:=(List.length_map _).symm
  refine Kv.Fin.freeze (Imm.tupL (.cons (Imm.refa' j8 hl1) (.cons (WG.immN j9 j10.symm) (.cons Imm.still (.nil _))))) (hK1 i Q W j2 hiQ j3 j4)
end
end
section
section
attribute [local irreducible] ACall PCall KL
noncomputable def run (fs:List (List Nat)) (P:List Int) (w:List Int):List Int:=w.foldl (fun p k=>img (fs.getD k.toNat []) p) P
def mw (fs:List (List Nat)) (f0:List Nat) (w:List Int):List Nat:=w.foldl (fun f k=>mul f (fs.getD k.toNat [])) f0
theorem mw_ok {fs:List (List Nat)} {n:Nat} (hf:∀ f∈fs,Ok f n):∀ (w:List Int) (f0:List Nat),Ok f0 n→(∀ k∈w,0≤k∧k≤(fs.length:Int) - 1)→Ok (mw fs f0 w) n
 | [],f0,h0,_=>h0
 | k :: w,f0,h0,hw=>by
  have hk:=hw k (by simp)
  have hm:fs.getD k.toNat []∈fs:=by
   have:k.toNat<fs.length:=by omega
   rw [List.getD_eq_getElem?_getD,List.getElem?_eq_getElem this]; exact List.getElem_mem _
  exact mw_ok hf w _ (h0.mul (hf _ hm)) fun c hc=>hw c (by simp [hc])
end
end
section
section
set_option maxRecDepth 100000
def k123_b0:KC:=(.seq (.ops [oP 9 (.bin .lss (.t 8) (.t 7))])
 (.seq (.cond (.t 9) .skip (.exit 0))
 (.seq (.block 1 (.seq (.ops [mV 10 8,mV 4 10])
 (.ops [mV 11 4,mV 12 4,oP 13 (.fieldA 1 (.t 3)),oP 14 (.idxA 5 1 (.t 13) (.t 11)),⟨none,none,.store 1 (.t 14) (.t 12)⟩])))
 (.ops [oP 15 (.bin .add (.t 8) (iC 1)),mV 8 15]))))
def k123:KC:=(.seq (.ops [oP 2 (.alloc [.int .i64 0,.int .i64 0,.int .i64 0,.int .i64 0,.int .i64 0,.int .i64 0])])
 (.seq (.ops [mV 5 0,oP 6 (.build [.int .i64 0,.int .i64 0,.int .i64 0,.int .i64 0,.int .i64 0,.int .i64 0] [(0,1,(.t 5))]),oP 3 (.alloc [.int .i64 0,.int .i64 0,.int .i64 0,.int .i64 0,.int .i64 0,.int .i64 0]),⟨none,none,.store 6 (.t 3) (.t 6)⟩])
 (.seq (.seq (.ops [mV 7 0,oP 8 (.mv (iC 0))])
 (.block 0 (.loop k123_b0)))
 (.seq (.ops [oP 16 (.load true 6 (.t 3)),⟨none,none,.store 6 (.t 2) (.t 16)⟩])
 .ret))))
theorem e123:Ent 123 17 [] [.cell 2 true 6] k123:=ent Tryz.func123
end
section
attribute [local irreducible] ACall PCall KL
theorem p123 (n:Nat) (h1:1≤n) (h5:n≤5):Pure Tryz.prog 123 [.int .i64 n] (.agg (ints (mp (List.range n)))):=by
 refine e123 (by simp) fun _ _=>?_
 simp only [k123,argEnv,go_sem]
 refine KL_ind k123_b0.eq_1 (fun x:Nat=>[(2,.ptr 0 0),(3,.ptr 1 0),(7,.int .i64 n),(8,.int .i64 x)]) (fun x=>[.box (ints [0,0,0,0,0,0]),.box (ints (mpN n (List.range x)))]) (fun x=>x≤n) (fun x=>n - x) [2,3,7,8] 0 (by rfl) (by rfl) (Nat.zero_le _) fun x hi ih=>?_
 have hl:(mpN n (List.range x)).length=6:=mpN_length (by simp; omega)
 try simp only [hl,go_sem]
 refine ⟨fun h=>?_,fun h=>?_⟩
 ·repeat' (first | refine And.intro ?_ ?_ | intro _)
  all_goals (try omega)
  refine ih (x+1) (by omega) (by omega) _ _ (by rfl) ?_
  rw [mpN_pushI (by simp) (by simp; omega),← List.range_succ]
 ·obtain rfl:x=n:=by omega
  refine Kv.Fin.still ⟨?_,rfl⟩
  simp [mp]
end
end
section
section
set_option maxRecDepth 100000
def k51_b0:KC:=(.seq (.ops [oP 16 (.bin .lss (.t 15) (.t 14))])
 (.seq (.cond (.t 16) .skip (.exit 0))
 (.seq (.block 1 (.seq (.ops [oP 17 (.idxS 1 (.t 13) (.t 15)),oP 18 (.load false 1 (.t 17)),mV 7 18])
 (.draw [oP 19 (.load true 6 (.t 5)),mV 20 0,mV 21 7,oP 22 (.idxS 6 (.t 20) (.t 21)),oP 23 (.load true 6 (.t 22)),oP 24 (.pcall (fC 124) [(.t 19),(.t 23)]),⟨none,none,.store 6 (.t 5) (.t 24)⟩])))
 (.ops [oP 25 (.bin .add (.t 15) (iC 1)),mV 15 25]))))
def k51:KC:=(.seq (.ops [oP 4 (.alloc [.int .i64 0,.int .i64 0,.int .i64 0,.int .i64 0,.int .i64 0,.int .i64 0])])
 (.seq (.ops [mV 8 0,oP 9 (.idxS 6 (.t 8) (iC 0)),oP 10 (.fieldA 0 (.t 9)),oP 11 (.load false 1 (.t 10)),oP 12 (.call (fC 123) [(.t 11)]),oP 5 (.alloc [.int .i64 0,.int .i64 0,.int .i64 0,.int .i64 0,.int .i64 0,.int .i64 0]),⟨none,none,.store 6 (.t 5) (.t 12)⟩])
 (.seq (.seq (.ops [mV 13 1,oP 14 (.len false (.t 13)),oP 15 (.mv (iC 0))])
 (.block 0 (.loop k51_b0)))
 (.seq (.ops [oP 26 (.load true 6 (.t 5)),⟨none,none,.store 6 (.t 4) (.t 26)⟩])
 .ret))))
theorem e51:Ent 51 27 [] [.cell 4 true 6] k51:=ent Tryz.func51
def k49:KC:=(.seq (.ops [oP 3 (.box true (.t 0)),oP 6 (.mv (.c (.bool false)))])
 (.seq (.ops [mV 7 1,oP 8 (.len false (.t 7)),mV 9 2,oP 10 (.bin .leq (.t 8) (.t 9)),mV 11 10,⟨(some 12),some (11,true),.mv (.t 1)⟩,⟨(some 13),some (11,true),.mkfn (.func 122) [] [(.t 3)]⟩,⟨(some 14),some (11,true),.call (fC 78) [(.t 12),(.t 13)]⟩,⟨(some 15),some (11,true),.not (.t 14)⟩,oP 16 (.pick (.t 11) (.t 15) (.c (.bool false))),mV 6 16])
 .ret))
theorem e49:Ent 49 17 [3] [.t 6] k49:=ent Tryz.func49
def k122:KC:=(.seq (.ops [oP 3 (.mv (.c (.bool false)))])
 (.seq (.ops [mV 4 0,oP 5 (.load false 1 (.t 1)),oP 6 (.len false (.t 5)),oP 7 (.bin .sub (.t 6) (iC 1)),oP 8 (.call (fC 80) [(.t 4),(iC 0),(.t 7)]),oP 9 (.not (.t 8)),mV 3 9])
 .ret))
theorem e122:Ent 122 10 [] [.t 3] k122:=ent Tryz.func122
end
section
attribute [local irreducible] ACall PCall KL
theorem p122 (t:List (List Int)) (ht:t.length≤1000) (k:Int):Pure Tryz.prog 122 [.int .i64 k,.fptr [.list (aggs t)] 0] (.bool (!decide (0≤k∧k≤(t.length:Int) - 1))):=by
 refine e122 (by simp) fun _ _=>?_
 simp only [k122,argEnv,aggs_length,go_sem]
 refine ⟨by omega,(p80 _ _ _).go ?_⟩
 try simp only [OpK_eq,HKv,go_sem]
 exact Kv.Fin.still ⟨rfl,rfl⟩
theorem p49m (t:List (List Int)) (ht:t.length≤1000) (w:List Int) (hw:∀ k∈w,0≤k∧k≤(t.length:Int) - 1) (most:Nat) (hm:most≤1000) (hl:w.length≤most):Pure Tryz.prog 49 [.list (aggs t),.list (ints w),.int .i64 most] (.bool true):=by
 have hC:=p78 w (by omega) 122 [.fptr [.list (aggs t)] 0] (fun c hc=>by simp only [List.mem_singleton] at hc; subst hc; exact (inferInstance:Still (.fptr [.list (aggs t)] 0)).up) (fun k=>!decide (0≤k∧k≤(t.length:Int) - 1)) fun k _=>p122 t ht k
 have ha:(w.any fun k=>!decide (0≤k∧k≤(t.length:Int) - 1))=false:=by
  rw [List.any_eq_false]
  intro k hk
  simp [hw k hk]
 rw [ha] at hC
 have h1:decide ((w.length:Int)≤most)=true:=decide_eq_true (by omega)
 refine e49 (by simp) fun _ _=>?_
 simp only [k49,argEnv,h1,go_sem]
 refine hC.go ?_
 try simp only [OpK_eq,HKv,go_sem]
 exact Kv.Fin.still ⟨rfl,rfl⟩
set_option maxHeartbeats 2000000 in
theorem p51 (fs:List (List Nat)) (n:Nat) (h1:1≤n) (h5:n≤5) (hf:∀ f∈fs,Ok f n) (h0:0<fs.length) (hfl:fs.length≤1000) (w:List Int) (hw:∀ k∈w,0≤k∧k≤(fs.length:Int) - 1) (hl:w.length≤100):Pure Tryz.prog 51 [.list (aggs (fs.map mp)),.list (ints w)] (.agg (ints (mp (mw fs (List.range n) w)))):=by
 have hk:=hf _ (List.getElem_mem h0)
 have h6k:=hk.mp_len
 have hn:(mp fs[0]).getD 0 0=(n:Int):=by simp [mp,mpN,hk.len]
 have ho:∀ x,Ok (mw fs (List.range n) (w.take x)) n:=fun x=>mw_ok hf _ _ (range_ok h1 h5) fun k hk=>hw k (List.mem_of_mem_take hk)
 have h6w:∀ x,(ints (mp (mw fs (List.range n) (w.take x)))).length=6:=fun x=>by rw [ints_length,(ho x).mp_len]
 have ht6:∀ x,(mp (mw fs (List.range n) (w.take x))).take 6=mp (mw fs (List.range n) (w.take x)):=fun x=>List.take_of_length_le (by rw [(ho x).mp_len]; exact Nat.le_refl _)
 have h60:(ints (mp (List.range n))).length=6:=by rw [ints_length,(range_ok h1 h5).mp_len]
 refine e51 (by simp) fun _ _=>?_
 simp only [k51,argEnv,map_getD h0,h6k,hn,List.length_map,aggs_length,go_sem]
 refine ⟨by omega,fun _=>(p123 n h1 h5).go ?_⟩
 try simp only [OpK_eq,HKv,h60,go_sem]
 refine KL_ind k51_b0.eq_1 (fun x:Nat=>[(0,.list (aggs (fs.map mp))),(4,.ptr 0 0),(5,.ptr 1 0),(13,.list (ints w)),(14,.int .i64 w.length),(15,.int .i64 x)]) (fun x=>[.box [.int .i64 0,.int .i64 0,.int .i64 0,.int .i64 0,.int .i64 0,.int .i64 0],.box (ints (mp (mw fs (List.range n) (w.take x))))]) (fun x=>x≤w.length) (fun x=>w.length - x) [0,4,5,13,14,15] 0 (by simp [keep]) rfl (Nat.zero_le _) fun x hx ih=>?_
 try simp only [OpK_eq,HKv,go_sem]
 refine ⟨fun g1=>?_,fun g1=>?_⟩
 ·have hxl:x<w.length:=by omega
  have hwx:=hw _ (List.getElem_mem hxl)
  have hgx:w.getD x 0=w[x]:=by simp [List.getD_eq_getElem?_getD,hxl]
  have hkl:(w[x]).toNat<fs.length:=by omega
  have hfm:fs.getD (w[x]).toNat []∈fs:=by rw [List.getD_eq_getElem?_getD,List.getElem?_eq_getElem hkl]; exact List.getElem_mem _
  have hgm:(fs.map mp).getD (w[x]).toNat []=mp (fs.getD (w[x]).toNat []):=by simp [List.getD_eq_getElem?_getD,hkl]
  have h6g:=(hf _ hfm).mp_len
  have hst:mw fs (List.range n) (w.take (x+1))=mul (mw fs (List.range n) (w.take x)) (fs.getD (w[x]).toNat []):=by
   rw [List.take_succ_eq_append_getElem hxl]
   unfold mw
   rw [List.foldl_append]; rfl
  have h6n:=h6w (x+1)
  rw [hst] at h6n
  try simp only [OpK_eq,HKv,h6w,hgx,hgm,h6g,ht6,List.length_map,aggs_length,go_sem]
  refine ⟨by omega,fun _=>⟨by rw [(ho x).mp_len]; omega,⟨hwx.1,by omega⟩,fun _=>?_⟩⟩
  refine (p124 _ _ n (ho x) (hf _ hfm)).pgo ?_
  try simp only [OpK_eq,HKv,h6w,h6n,go_sem]
  refine ⟨by omega,ih (x+1) (by omega) (by omega) _ _ (by simp [keep]) ?_⟩
  rw [hst]
 ·obtain rfl:x=w.length:=by omega
  have h6n:=h6w w.length
  rw [List.take_length] at h6n
  rw [List.take_length]
  have ht6':=ht6 w.length
  rw [List.take_length] at ht6'
  try simp only [OpK_eq,HKv,h6n,ht6',go_sem]
  refine ⟨by rw [← ints_length,h6n]; omega,by rw [← ints_length,h6n],Kv.Fin.freeze .still ⟨rfl,rfl⟩⟩
end
end
section
section
attribute [local irreducible] ACall PCall KL
def bls (m:List Bool):List PV:=m.map PV.bool
@[simp] theorem bls_length (m:List Bool):(bls m).length=m.length:=by simp [bls]
theorem bls_get {m:List Bool} {i:Nat} (h:i<m.length):(bls m)[i]? = some (.bool (m.getD i false)):=by
 simp [bls,List.getD_eq_getElem?_getD,h]
theorem bls_set (m:List Bool) (i:Nat) (b:Bool):(bls m).set i (.bool b)=bls (m.set i b):=by simp [bls,List.map_set]
end
end
section
section
attribute [local irreducible] ACall PCall KL
def hdK:KC→KC
 | .seq a _=>a
 | k=>k
def tlK:KC→KC
 | .seq _ b=>b
 | k=>k
def drK:Nat→KC→KC
 | 0,k=>k
 | n+1,k=>drK n (tlK k)
def upK:Nat→KC→KC→KC
 | 0,_,t=>t
 | n+1,k,t=>.seq (hdK k) (upK n (tlK k) t)
end
end
section
section
set_option maxRecDepth 100000
def k45_b0:KC:=(.seq (.seq (.ops [mV 75 17,oP 76 (.fieldA 0 (.t 4)),oP 77 (.load false 1 (.t 76)),oP 78 (.len false (.t 77)),oP 79 (.bin .lss (.t 75) (.t 78))])
 (.cond (.t 79) .skip (.exit 2)))
 (.seq (.block 3 (.seq (.draw [oP 82 (.fieldA 0 (.t 4)),oP 83 (.load false 1 (.t 82)),mV 84 17,mV 85 15,oP 86 (.idxS 6 (.t 83) (.t 84)),oP 87 (.fieldA 1 (.t 86)),oP 88 (.idxA 5 1 (.t 87) (.t 85)),oP 89 (.load false 1 (.t 88)),oP 90 (.fieldA 0 (.t 5)),oP 91 (.load false 1 (.t 90)),mV 92 17,mV 93 16,oP 94 (.idxS 6 (.t 91) (.t 92)),oP 95 (.fieldA 1 (.t 94)),oP 96 (.idxA 5 1 (.t 95) (.t 93)),oP 97 (.load false 1 (.t 96)),mV 18 89,mV 19 97])
 (.seq (.ops [mV 98 13,mV 99 18,mV 100 10,oP 101 (.bin .mul (.t 99) (.t 100)),mV 102 19,oP 103 (.bin .add (.t 101) (.t 102)),oP 104 (.idxS 1 (.t 98) (.t 103)),oP 105 (.load false 1 (.t 104)),oP 106 (.not (.t 105))])
 (.cond (.t 106) (.seq (.ops [mV 107 13,mV 108 18,mV 109 10,oP 110 (.bin .mul (.t 108) (.t 109)),mV 111 19,oP 112 (.bin .add (.t 110) (.t 111)),oP 113 (.idxS 1 (.t 107) (.t 112)),⟨none,none,.store 1 (.t 113) (.c (.bool true))⟩])
 (.seq (.ops [mV 114 11,mV 115 18,mV 116 19,oP 117 (.bsl false 2 1 [(.t 115),(.t 116)]),oP 118 (.bsl true 25 1 [(.t 117)]),oP 119 (.app (.t 114) (.t 118) 25 1),mV 11 119])
 (.ops [mV 120 12,mV 121 12,mV 122 14,oP 123 (.idxS 1 (.t 121) (.t 122)),oP 124 (.load false 1 (.t 123)),oP 125 (.call (fC 117) [(.t 124)]),mV 126 17,oP 127 (.bsl true 2 1 [(.t 126)]),oP 128 (.app (.t 125) (.t 127) 2 1),oP 129 (.bsl true 25 1 [(.t 128)]),oP 130 (.app (.t 120) (.t 129) 25 1),mV 12 130]))) .skip))))
 (.ops [mV 80 17,oP 81 (.bin .add (.t 80) (iC 1)),mV 17 81])))
def k45_b1:KC:=(.seq (.seq (.ops [mV 46 14,mV 47 11,oP 48 (.len false (.t 47)),oP 49 (.bin .lss (.t 46) (.t 48))])
 (.cond (.t 49) .skip (.exit 0)))
 (.seq (.block 1 (.seq (.draw [mV 52 11,mV 53 14,oP 54 (.idxS 1 (.t 52) (.t 53)),oP 55 (.load false 1 (.t 54)),oP 56 (.idxS 1 (.t 55) (iC 0)),oP 57 (.load false 1 (.t 56)),mV 58 11,mV 59 14,oP 60 (.idxS 1 (.t 58) (.t 59)),oP 61 (.load false 1 (.t 60)),oP 62 (.idxS 1 (.t 61) (iC 1)),oP 63 (.load false 1 (.t 62)),mV 15 57,mV 16 63])
 (.seq (.seq (.draw [oP 64 (.load true 3 (.t 4)),mV 65 15,oP 67 (.load true 3 (.t 5)),mV 68 16,oP 66 (.pcall (fC 116) [(.t 64),(.t 65)]),oP 69 (.pcall (fC 116) [(.t 67),(.t 68)]),oP 70 (.beq true (.t 66) (.t 69))])
 (.cond (.t 70) (.seq (.ops [mV 71 12,mV 72 14,oP 73 (.idxS 1 (.t 71) (.t 72)),oP 74 (.load false 1 (.t 73)),mV 8 74,oP 9 (.mv (.c (.bool true)))])
 .ret) .skip))
 (.seq (.ops [oP 17 (.mv (iC 0))])
 (.block 2 (.loop k45_b0))))))
 (.ops [mV 50 14,oP 51 (.bin .add (.t 50) (iC 1)),mV 14 51])))
abbrev k45s0:KT:=(.op (mV 12 30) (.op (oP 38 (.mks 4 1 (.bool false) (.t 37) (.t 37))) (.op (mV 13 38) .fin)))
abbrev k45s1:KT:=(.op (oP 30 (.bsl false 25 1 [(.t 29)])) (.op (mV 12 30) (.op (mV 13 38) .fin)))
abbrev k45s2:KT:=(.alt (.op (oP 30 (.bsl false 25 1 [(.t 29)])) k45s0) (.op (oP 38 (.mks 4 1 (.bool false) (.t 37) (.t 37))) k45s1))
abbrev k45s3:KT:=(.op (oP 28 (.bsl false 25 1 [(.t 27)])) (.op (mV 11 28) (.op (mV 12 30) (.op (mV 13 38) .fin))))
abbrev k45s4:KT:=(.alt (.op (oP 28 (.bsl false 25 1 [(.t 27)])) (.op (mV 11 28) k45s0)) (.op (oP 38 (.mks 4 1 (.bool false) (.t 37) (.t 37))) k45s3))
abbrev k45s5:KT:=(.alt (.op (oP 28 (.bsl false 25 1 [(.t 27)])) (.op (mV 11 28) k45s1)) (.op (oP 30 (.bsl false 25 1 [(.t 29)])) k45s3))
abbrev k45s6:KT:=(.alt (.op (oP 28 (.bsl false 25 1 [(.t 27)])) (.op (mV 11 28) k45s2)) (.alt (.op (oP 30 (.bsl false 25 1 [(.t 29)])) k45s4) (.op (oP 38 (.mks 4 1 (.bool false) (.t 37) (.t 37))) k45s5)))
abbrev k45s7:KT:=(.alt (.op (oP 28 (.bsl false 25 1 [(.t 27)])) (.op (mV 11 28) (.op (oP 29 (.bsl false 2 1 [])) k45s1))) (.op (oP 29 (.bsl false 2 1 [])) k45s5))
abbrev k45s8:KT:=(.op (oP 27 (.bsl false 2 1 [(.t 25),(.t 26)])) k45s3)
abbrev k45s9:KT:=(.alt (.op (oP 27 (.bsl false 2 1 [(.t 25),(.t 26)])) k45s5) (.op (oP 30 (.bsl false 25 1 [(.t 29)])) k45s8))
def k45:KC:=(.seq (.ops [oP 4 (.box true (.t 0)),oP 5 (.box true (.t 1)),oP 8 (.mv (.c (.nils))),oP 9 (.mv (.c (.bool false)))])
 (.seq (.ops [oP 20 (.fieldA 0 (.t 5)),oP 21 (.load false 1 (.t 20)),oP 22 (.idxS 6 (.t 21) (iC 0)),oP 23 (.fieldA 0 (.t 22)),oP 24 (.load false 1 (.t 23)),mV 10 24])
 (.seq (.tree (.op (mV 25 2) (.op (mV 26 3) (.op (oP 31 (.fieldA 0 (.t 4))) (.op (oP 32 (.load false 1 (.t 31))) (.op (oP 33 (.idxS 6 (.t 32) (iC 0))) (.op (oP 34 (.fieldA 0 (.t 33))) (.op (oP 35 (.load false 1 (.t 34))) (.op (mV 36 10) (.op (oP 37 (.bin .mul (.t 35) (.t 36))) (.alt (.op (oP 27 (.bsl false 2 1 [(.t 25),(.t 26)])) (.alt (.op (oP 28 (.bsl false 25 1 [(.t 27)])) (.op (mV 11 28) (.alt (.op (oP 29 (.bsl false 2 1 [])) k45s2) (.op (oP 38 (.mks 4 1 (.bool false) (.t 37) (.t 37))) (.op (oP 29 (.bsl false 2 1 [])) k45s1))))) (.alt (.op (oP 29 (.bsl false 2 1 [])) k45s6) (.op (oP 38 (.mks 4 1 (.bool false) (.t 37) (.t 37))) k45s7)))) (.alt (.op (oP 29 (.bsl false 2 1 [])) (.alt (.op (oP 27 (.bsl false 2 1 [(.t 25),(.t 26)])) k45s6) (.alt (.op (oP 30 (.bsl false 25 1 [(.t 29)])) (.alt (.op (oP 27 (.bsl false 2 1 [(.t 25),(.t 26)])) k45s4) (.op (oP 38 (.mks 4 1 (.bool false) (.t 37) (.t 37))) k45s8))) (.op (oP 38 (.mks 4 1 (.bool false) (.t 37) (.t 37))) k45s9)))) (.op (oP 38 (.mks 4 1 (.bool false) (.t 37) (.t 37))) (.alt (.op (oP 27 (.bsl false 2 1 [(.t 25),(.t 26)])) k45s7) (.op (oP 29 (.bsl false 2 1 [])) k45s9)))))))))))))))
 (.seq (.ops [mV 39 13,mV 40 2,mV 41 10,oP 42 (.bin .mul (.t 40) (.t 41)),mV 43 3,oP 44 (.bin .add (.t 42) (.t 43)),oP 45 (.idxS 1 (.t 39) (.t 44)),⟨none,none,.store 1 (.t 45) (.c (.bool true))⟩])
 (.seq (.seq (.ops [oP 14 (.mv (iC 0))])
 (.block 0 (.loop k45_b1)))
 (.seq (.ops [oP 8 (.mv (.c (.nils))),oP 9 (.mv (.c (.bool false)))])
 .ret))))))
theorem e45:Ent 45 131 [4,5,118,127,129] [.t 8,.t 9] k45:=ent Tryz.func45
end
section
attribute [local irreducible] ACall PCall KL
structure ApH (σ:Heap) (i1 i2 i3 v1 v2:Nat) (ws1 ws2:List PV) (M:List Bool) (N m:Nat) (L:List Met):Prop where
 p:WG σ (fun id=>id=i2∨id=i3) i1 v1 ws1 (L.map Prod.fst)
 w:WG σ (fun id=>id=i1∨id=i3) i2 v2 ws2 (L.map Prod.snd)
 b:σ[i3]? = some (.arr 0 4 1 (bls M))
 ml:M.length=N * m
 mt:∀ c,c<N * m→(M.getD c false=true↔∃ x∈L,pcode m x.1=c)
 wl:∀ x∈L,x.2.length+1≤L.length
 d12:i1≠i2
 d13:i1≠i3
 d23:i2≠i3
def apW (o:Option (List Int)):PV:=match o with
 | some w=>.tup [.list (ints w),.bool true]
 | none=>.tup [.nils,.bool false]
theorem advN_preI (fs:List (List Nat)) (bf:List Nat→List Int→List Int) (Q:List Met) (m:Met) (k:Nat):∃ r,advN fs bf Q m k=Q ++ r:=advN_preE fs bf Q m k
theorem wd_two {σ:Heap} {A:Nat→Prop} {w:PV} {u v:Int} (h:Wd σ A w [u,v]):∃ id ver,w = .ref id ver 0 2∧σ[id]? = some (.arr ver 2 1 (ints [u,v]))∧¬ A id:=by
 rcases h with ⟨_,h⟩ | ⟨id,ver,rfl,h1,h2⟩
 ·cases h
 ·exact ⟨id,ver,rfl,h1,h2⟩
section
variable {K:PV→Heap→Prop}
theorem ap_loop (fs gs:List (List Nat)) (n m:Nat) (hf:∀ f∈fs,Ok f n) (hg:∀ g∈gs,Ok g m) (hl:fs.length=gs.length) (hfl:fs.length≤1000) (hn5:n≤5) (hm5:m≤5) (la lb:List Nat) (hla:∀ x∈la,x<5) (hLa:la.length≤1048576) (qa qb:Int) (Wb:PV) [hSW:Still Wb] (hWb:∀ v:Nat,v<5→Pure Tryz.prog 116 [.agg [.list (aggs (gs.map mp)),.int .i64 qb,Wb],.int .i64 v] (.bool (decide (v∈lb)))) (p q:Nat) (hp:p<n) (hq:q<m)
  (hK:K (apW (fwp fs gs la lb p q)) []) {Q:Exit→Env→Heap→Prop}
  (hQ1:∀ env σ (w:PV) (l:List Int),fwp fs gs la lb p q=some l→Imm σ w (.list (ints l))→Kv.look env 8=w→Kv.look env 9 = .bool true→Q .ret env σ)
  (hQ2:∀ env σ,fwp fs gs la lb p q=none→Q (.exit 0) env σ)
  (σ:Heap) (i1 i2 i3:Nat) (ws1 ws2:List PV) (M:List Bool) (hH:ApH σ i1 i2 i3 0 0 ws1 ws2 M n m (pq fs gs p q 0)) (env:Env)
  (he:keep [4,5,10,11,12,13,14] env = [(4,.fptr [.list (aggs (fs.map mp)),.int .i64 qa,.list (ints (nz la))] 0),(5,.fptr [.list (aggs (gs.map mp)),.int .i64 qb,Wb] 0),(10,.int .i64 m),(11,.ref i1 0 0 1),(12,.ref i2 0 0 1),(13,.ref i3 0 0 (n * m)),(14,.int .i64 0)]) :
  KL (mkCfg Tryz.prog mixed [4,5,118,127,129] 131 0) k45_b1 Q env σ:=by
 have hS0:pq fs gs p q 0 = [(([(p:Int),(q:Int)],[]):Met)]:=rfl
 have hSs:∀ i (h:i<(pq fs gs p q i).length),pq fs gs p q (i+1)=advN (ixs fs.length) (ld2 fs gs) (pq fs gs p q i) (pq fs gs p q i)[i] fs.length:=fun i h=>pq_succ h
 have hall:=fun i=>pq_all (fs:=fs) (gs:=gs) (p:=p) (q:=q) i
 have hlen:=fun i=>pq_len hf hg hl hp hq hn5 hm5 i
 have hF1:∀ i,FH fs gs la lb p q i→fwp fs gs la lb p q=some ((pq fs gs p q i).getD i ([],[])).2:=fun i h=>fwp_some h
 have hF2:∀ i,i=(pq fs gs p q i).length→_→fwp fs gs la lb p q=none:=fun i h h'=>fwp_none (la:=la) (lb:=lb) h h'
 unfold FH at hF1
 generalize fwp fs gs la lb p q=o at *
 generalize pq fs gs p q=S at *
 refine KL_ind k45_b1.eq_1 (fun x:Nat × Nat × Nat × List PV × List PV × List Bool × Heap=>[(4,.fptr [.list (aggs (fs.map mp)),.int .i64 qa,.list (ints (nz la))] 0),(5,.fptr [.list (aggs (gs.map mp)),.int .i64 qb,Wb] 0),(10,.int .i64 m),(11,.ref i1 x.2.1 0 (S x.1).length),(12,.ref i2 x.2.2.1 0 (S x.1).length),(13,.ref i3 0 0 (n * m)),(14,.int .i64 x.1)]) (fun x=>x.2.2.2.2.2.2)
  (fun x=>x.1≤(S x.1).length∧(∀ j,j<x.1→j<(S j).length→dfr la lb ((S j).getD j ([],[])).1=false)∧ApH x.2.2.2.2.2.2 i1 i2 i3 x.2.1 x.2.2.1 x.2.2.2.1 x.2.2.2.2.1 x.2.2.2.2.2.1 n m (S x.1)) (fun x=>26 - x.1) [4,5,10,11,12,13,14]
  (0,0,0,ws1,ws2,M,σ) (by rw [he]; simp [hS0]) rfl ⟨Nat.zero_le _,fun j h=>by omega,hH⟩ fun ⟨i,v1,v2,ws1,ws2,M,σ⟩ ⟨hi,hno,hH⟩ ih=>?_
 simp only at hi hno hH
 have hli:=hlen i
 obtain ⟨hPm,hnd⟩:=hall i
 have g1:=hH.p.out
 have g2:=hH.w.out
 have gl1:=hH.p.len
 have gl2:=hH.w.len
 rw [List.length_map] at gl1 gl2
 try simp only [OpK_eq,HKv,g1,go_sem]
 refine ⟨fun h2=>?_,fun h2=>?_⟩
 ·have hil:i<(S i).length:=by omega
  have hSi:=hSs i hil
  have hmP:=hPm _ (List.getElem_mem hil)
  obtain ⟨u,v,hu,hv,huv⟩:=hmP.two hf hg hl hp hq
  obtain ⟨w1,hw1,hWd1⟩:=hH.p.cell (i:=i) (by rw [List.length_map]; exact hil)
  obtain ⟨w2,hw2,hWd2⟩:=hH.w.cell (i:=i) (by rw [List.length_map]; exact hil)
  rw [List.getElem_map] at hWd1 hWd2
  have hgD:(S i).getD i ([],[])=(S i)[i]:=by rw [List.getD_eq_getElem?_getD,List.getElem?_eq_getElem hil]; rfl
  have hF1:=hF1 i
  rw [hgD] at hF1
  generalize hm':(S i)[i]=mm at *
  rw [huv] at hWd1
  obtain ⟨r1,rv,rfl,hr1,hr2⟩:=wd_two hWd1
  have hget0:[(u:Int),(v:Int)].getD 0 0=(u:Int):=rfl
  have hget1:[(u:Int),(v:Int)].getD 1 0=(v:Int):=rfl
  refine ⟨⟨by omega,by omega⟩,by omega,fun x hx=>?_⟩
  rw [hw1] at hx; cases hx
  refine ⟨by simp [PV.cs],fun c hc=>?_⟩
  simp only [PV.cs,List.getElem?_cons_zero,Option.some.injEq] at hc; subst hc
  try simp only [OpK_eq,HKv,hr1,hget0,hget1,g1,go_sem]
  refine ⟨⟨by omega,by omega⟩,by omega,fun x hx=>?_⟩
  rw [hw1] at hx; cases hx
  refine ⟨by simp [PV.cs],fun c hc=>?_⟩
  simp only [PV.cs,List.getElem?_cons_zero,Option.some.injEq] at hc; subst hc
  have hd:dfr la lb mm.1=(decide (u∈la) != decide (v∈lb)):=by rw [huv]; simp [dfr]
  try simp only [OpK_eq,HKv,hr1,hget0,hget1,subC3,go_sem]
  refine (p116 (fs.map mp) qa la hla hLa u (by omega)).pgo ?_
  try simp only [OpK_eq,HKv,subC3,go_sem]
  refine (hWb v (by omega)).pgo ?_
  generalize decide (u∈la)=b1 at *
  generalize decide (v∈lb)=b2 at *
  cases hb:(b1 != b2) with
  | true =>
   rw [hb] at hd
   try simp only [OpK_eq,HKv,g2,hb,go_sem]
   refine ⟨⟨by omega,by omega⟩,by omega,fun x hx=>?_⟩
   rw [hw2] at hx; cases hx
   have hwcs:=hWd2.cs
   rw [hwcs.1]
   refine ⟨by simp,fun c hc=>?_⟩
   simp only [List.getElem?_cons_zero,Option.some.injEq] at hc; subst hc
   refine hQ1 _ _ _ _ (hF1 ⟨hil,hd,hno⟩) hWd2.imm (by simp) (by simp)
  | false =>
   rw [hb] at hd
   have hno':∀ j,j<i+1→j<(S j).length→dfr la lb ((S j).getD j ([],[])).1=false:=fun j hj hjl=>by
    by_cases e:j=i
    ·subst e; rw [hgD]; exact hd
    ·exact hno j (by omega) hjl
   try simp only [OpK_eq,HKv,hb,go_sem]
   clear hF1 hno hQ1 hQ2 hK
   have hadv:∀ k,k≤fs.length→_:=fun k hk=>adv_pq hPm hnd hmP k hk
   have hadvB:∀ k,k≤fs.length→(advN (ixs fs.length) (ld2 fs gs) (S i) mm k).length≤25:=fun k hk=>by
    have e1:=advN_mono (ixs fs.length) (ld2 fs gs) (S i) mm hk
    have e2:=hlen (i+1)
    rw [hSi] at e2
    exact Nat.le_trans e1 e2
   refine KL_ind k45_b0.eq_1 (fun x:Nat × Nat × Nat × List PV × List PV × List Bool × Heap=>[(4,.fptr [.list (aggs (fs.map mp)),.int .i64 qa,.list (ints (nz la))] 0),(5,.fptr [.list (aggs (gs.map mp)),.int .i64 qb,Wb] 0),(10,.int .i64 m),(11,.ref i1 x.2.1 0 (advN (ixs fs.length) (ld2 fs gs) (S i) mm x.1).length),(12,.ref i2 x.2.2.1 0 (advN (ixs fs.length) (ld2 fs gs) (S i) mm x.1).length),(13,.ref i3 0 0 (n * m)),(14,.int .i64 i),(15,.int .i64 u),(16,.int .i64 v),(17,.int .i64 x.1)]) (fun x=>x.2.2.2.2.2.2)
    (fun x=>x.1≤fs.length∧ApH x.2.2.2.2.2.2 i1 i2 i3 x.2.1 x.2.2.1 x.2.2.2.1 x.2.2.2.2.1 x.2.2.2.2.2.1 n m (advN (ixs fs.length) (ld2 fs gs) (S i) mm x.1)) (fun x=>fs.length - x.1) [4,5,10,11,12,13,14,15,16,17]
    (0,v1,v2,ws1,ws2,M,σ) (by rfl) rfl ⟨Nat.zero_le _,hH⟩ fun ⟨k,u1,u2,wt1,wt2,N,τ⟩ ⟨hk,gH⟩ ihk=>?_
   simp only at hk gH
   clear hH g1 g2 gl1 gl2 hw1 hw2 hWd1 hWd2 hr1 hr2
   obtain ⟨gPm,gnd,_,_⟩:=hadv k hk
   have hsucc:=advN_succ (ixs fs.length) (ld2 fs gs) (S i) mm k
   have hlenB:=hadvB k hk
   obtain ⟨r,hpre⟩:=advN_preI (ixs fs.length) (ld2 fs gs) (S i) mm k
   generalize hL:advN (ixs fs.length) (ld2 fs gs) (S i) mm k=L at *
   have hiL:i<L.length:=by rw [hpre,List.length_append]; omega
   have hLi:L[i]=mm:=by
    have:L[i]? = some mm:=by rw [hpre,List.getElem?_append_left hil,List.getElem?_eq_getElem hil,hm']
    rw [List.getElem?_eq_getElem hiL] at this
    exact Option.some.inj this
   try simp only [OpK_eq,HKv,List.length_map,go_sem]
   refine ⟨fun h6=>?_,fun h6=>?_⟩
   ·have hkl:k<fs.length:=by omega
    have hkg:k<gs.length:=by omega
    have hfk:=hf _ (List.getElem_mem hkl)
    have h6k:=hfk.mp_len
    have hgk':=hg _ (List.getElem_mem hkg)
    have h6g:=hgk'.mp_len
    have hgk:(fs.map mp).getD k []=mp fs[k]:=by simp [List.getD_eq_getElem?_getD,hkl]
    have hgk2:(gs.map mp).getD k []=mp gs[k]:=by simp [List.getD_eq_getElem?_getD,hkg]
    have hgf:fs.getD k []=fs[k]:=by simp [List.getD_eq_getElem?_getD,hkl]
    have hgf2:gs.getD k []=gs[k]:=by simp [List.getD_eq_getElem?_getD,hkg]
    rw [ixs_get hkl,huv,ld2_val,hgf,hgf2] at hsucc
    have hx5:=hfk.get' u
    have hy5:=hgk'.get' v
    have hut:(u:Int).toNat=u:=by omega
    have hvt:(v:Int).toNat=v:=by omega
    rw [hgk,hgk2]
    try simp only [OpK_eq,HKv,h6k,h6g,hut,hvt,List.length_map,go_sem]
    refine ⟨h6,fun _=>⟨by omega,by omega,fun _=>⟨by omega,fun _=>⟨by omega,by omega,fun _=>?_⟩⟩⟩⟩
    have hXY:two n m [((fs[k].getD u 0:Nat):Int),((gs[k].getD v 0:Nat):Int)]:=⟨_,_,hx5,hy5,rfl⟩
    generalize fs[k].getD u 0=X at *
    generalize gs[k].getD v 0=Y at *
    have hmul:(X:Int) * (m:Int)=((X * m:Nat):Int):=(Int.natCast_mul X m).symm
    have hadd:((X * m:Nat):Int)+(Y:Int)=((X * m+Y:Nat):Int):=(Int.natCast_add _ _).symm
    have hcl:X * m+Y<n * m:=pair_lt hx5 hy5
    have hnm:n * m≤5 * 5:=Nat.mul_le_mul hn5 hm5
    have hpc:pcode m [(X:Int),(Y:Int)]=X * m+Y:=pcode_val m X Y
    have hct:((X * m+Y:Nat):Int).toNat=X * m+Y:=by omega
    have gb:=gH.b
    have hNl:=gH.ml
    have gM:=gH.mt _ hcl
    have hany:L.any (fun x=>decide (x.1 = [(X:Int),(Y:Int)]))=N.getD (X * m+Y) false:=by
     rw [Bool.eq_iff_iff,gM,List.any_eq_true]
     constructor
     ·rintro ⟨y,hy,e⟩
      exact ⟨y,hy,by rw [of_decide_eq_true e,hpc]⟩
     ·rintro ⟨y,hy,e⟩
      exact ⟨y,hy,decide_eq_true (pcode_inj ((gPm y hy).two hf hg hl hp hq) hXY (by rw [e,hpc]))⟩
    rw [hany] at hsucc
    rw [hmul,hadd]
    generalize hcc:X * m+Y=c at *
    try simp only [OpK_eq,HKv,gb,hct,go_sem]
    refine ⟨by omega,by omega,⟨by omega,by simp [hNl]⟩,by rw [bls_length,hNl]; exact hcl,fun q hq=>?_⟩
    rw [bls_get (by rw [hNl]; exact hcl)] at hq; cases hq
    refine ⟨by simp [PV.cs],fun q hq=>?_⟩
    simp only [PV.cs,List.getElem?_cons_zero,Option.some.injEq] at hq; subst hq
    cases hNb:N.getD c false with
    | true =>
     rw [hNb,if_pos rfl] at hsucc
     try simp only [OpK_eq,HKv,go_sem]
     refine ⟨by omega,ihk (k+1,u1,u2,wt1,wt2,N,τ) ⟨by show k+1≤fs.length; omega,?_⟩ (by show fs.length - (k+1)<fs.length - k; omega) _ _ (by simp [keep,hsucc]) rfl⟩
     show ApH τ i1 i2 i3 u1 u2 wt1 wt2 N n m (advN (ixs fs.length) (ld2 fs gs) (S i) mm (k+1))
     rw [hsucc]; exact gH
    | false =>
     rw [hNb,if_neg (by simp)] at hsucc
     have hlenB1:=hadvB (k+1) (by omega)
     rw [hsucc,List.length_append,List.length_singleton] at hlenB1
     have hput:∀ b y,putE (.bool b) 0 y=y:=fun b y=>rfl
     have d12:=gH.d12
     have d13:=gH.d13
     have d23:=gH.d23
     have lt3:=(List.getElem?_eq_some_iff.1 gb).1
     have lt1:=(List.getElem?_eq_some_iff.1 gH.p.out).1
     have lt2:=(List.getElem?_eq_some_iff.1 gH.w.out).1
     have gl1:=gH.p.len
     have gl2:=gH.w.len
     rw [List.length_map] at gl1 gl2
     generalize hvq:PV.ref i1 u1 0 L.length=vq at *
     try simp only [OpK_eq,HKv,hmul,hadd,hct,gb,go_sem]
     refine ⟨by omega,by omega,⟨by omega,by simp [hNl]⟩,by rw [bls_length,hNl]; exact hcl,fun q hq=>?_⟩
     rw [bls_get (by rw [hNl]; exact hcl)] at hq; cases hq
     rw [hput,bls_set]
     refine ⟨by simp [PV.cs],?_⟩
     -- what is met, marked
     have hM2:∀ d,d<n * m→((N.set c true).getD d false=true↔∃ x∈L ++ [([(X:Int),(Y:Int)],mm.2 ++ [(k:Int)])],pcode m x.1=d):=fun d hdl=>by
      have hgd:(N.set c true).getD d false=if c=d then true else N.getD d false:=by
       simp only [List.getD_eq_getElem?_getD,List.getElem?_set]
       by_cases ee:c=d
       ·rw [if_pos ee,if_pos ee,if_pos (by omega)]; rfl
       ·rw [if_neg ee,if_neg ee]
      rw [hgd]
      by_cases ee:c=d
      ·rw [if_pos ee]
       exact ⟨fun _=>⟨_,List.mem_append.2 (.inr (List.mem_singleton.2 rfl)),by rw [← ee]; exact hpc⟩,fun _=>rfl⟩
      ·rw [if_neg ee,gH.mt d hdl]
       constructor
       ·rintro ⟨y,hy,e⟩; exact ⟨y,List.mem_append.2 (.inl hy),e⟩
       ·rintro ⟨y,hy,e⟩
        rcases List.mem_append.1 hy with hy | hy
        ·exact ⟨y,hy,e⟩
        ·simp only [List.mem_singleton] at hy; subst hy; exact absurd (hpc.symm.trans e) ee
     have hN2:(N.set c true).length=n * m:=by simp [hNl]
     generalize N.set c true=N2 at *
     have gP4:=gH.p.keep (σ':=τ.set i3 (.arr 0 4 1 (bls N2))) (fun id _ hA=>List.getElem?_set_ne (by rintro rfl; exact hA (.inr rfl))) (by rintro (h | h); exact d12 h; exact d13 h)
     have gW4:=gH.w.keep (σ':=τ.set i3 (.arr 0 4 1 (bls N2))) (fun id _ hA=>List.getElem?_set_ne (by rintro rfl; exact hA (.inr rfl))) (by rintro (h | h); exact d12 h.symm; exact d23 h)
     have gb4:(τ.set i3 (.arr 0 4 1 (bls N2)))[i3]? = some (.arr 0 4 1 (bls N2)):=List.getElem?_set_self lt3
     have hwl:=gH.wl
     have hρl:(τ.set i3 (.arr 0 4 1 (bls N2))).length = τ.length:=List.length_set ..
     generalize τ.set i3 (.arr 0 4 1 (bls N2)) = ρ at *
     clear gH gb gM hany
     have eI:[PV.int .i64 (X:Int),PV.int .i64 (Y:Int)]=ints [(X:Int),(Y:Int)]:=rfl
     rw [eI]
     have gP5:=gP4.keep (σ':=ρ ++ [.arr 0 2 1 (ints [(X:Int),(Y:Int)])]) (fun id hid _=>List.getElem?_append_left hid) (by rintro (h | h); exact d12 h; exact d13 h)
     have gW5:=gW4.keep (σ':=ρ ++ [.arr 0 2 1 (ints [(X:Int),(Y:Int)])]) (fun id hid _=>List.getElem?_append_left hid) (by rintro (h | h); exact d12 h.symm; exact d23 h)
     have gb5:(ρ ++ [AObj.arr 0 2 1 (ints [(X:Int),(Y:Int)])])[i3]? = some (.arr 0 4 1 (bls N2)):=(List.getElem?_append_left (by omega)).trans gb4
     have hWdXY:Wd (ρ ++ [.arr 0 2 1 (ints [(X:Int),(Y:Int)])]) (fun id=>(id=i2∨id=i3)∨id=i1) (.ref τ.length 0 0 2) [(X:Int),(Y:Int)]:=by
      refine .inr ⟨τ.length,0,rfl,by rw [← hρl]; simp,fun h=>?_⟩
      rcases h with (h | h) | h <;> omega
     have h5l:(ρ ++ [AObj.arr 0 2 1 (ints [(X:Int),(Y:Int)])]).length = τ.length+1:=by simp [hρl]
     generalize ρ ++ [AObj.arr 0 2 1 (ints [(X:Int),(Y:Int)])] = π at *
     clear gP4 gW4 gb4
     subst hvq
     have hpush:=fun K'=>gP5.push (K:=K') hWdXY (by rw [List.length_map]; omega)
     simp only [List.length_map] at hpush
     refine hpush _ fun hP6=>?_
     clear hpush
     have gW6:=gW5.keep (σ':=π.set i1 (.arr (u1+1) 25 1 (wt1 ++ [.ref τ.length 0 0 2]))) (fun id _ hA=>List.getElem?_set_ne (by rintro rfl; exact hA (.inl rfl))) (by rintro (h | h); exact d12 h.symm; exact d23 h)
     have gb6:(π.set i1 (.arr (u1+1) 25 1 (wt1 ++ [.ref τ.length 0 0 2])))[i3]? = some (.arr 0 4 1 (bls N2)):=(List.getElem?_set_ne d13).trans gb5
     have h6l:(π.set i1 (.arr (u1+1) 25 1 (wt1 ++ [.ref τ.length 0 0 2]))).length = τ.length+1:=by rw [List.length_set,h5l]
     generalize π.set i1 (.arr (u1+1) 25 1 (wt1 ++ [.ref τ.length 0 0 2])) = χ at *
     generalize wt1 ++ [.ref τ.length 0 0 2]=wz1 at *
     clear gP5 gW5 gb5
     have g2:=gW6.out
     obtain ⟨w',hw',hWd'⟩:=gW6.cell (i:=i) (by rw [List.length_map]; exact hiL)
     rw [List.getElem_map,hLi] at hWd'
     have hwcs:=hWd'.cs
     have hml:=hwl mm (by rw [← hLi]; exact List.getElem_mem hiL)
     try simp only [OpK_eq,HKv,g2,go_sem]
     refine ⟨⟨by omega,by omega⟩,by omega,fun q hq=>?_⟩
     rw [hw'] at hq; cases hq
     rw [hwcs.1]
     refine ⟨by simp,fun q hq=>?_⟩
     simp only [List.getElem?_cons_zero,Option.some.injEq] at hq; subst hq
     try simp only [OpK_eq,HKv,go_sem]
     refine ACall.lend (p117 mm.2 (by omega)) (.cons hWd'.imm (.nil _)) fun v s ⟨hv,hs⟩=>?_
     subst hv; subst hs
     refine ⟨⟨free_ref _ _ _ _,Free.ints _ _ _ _⟩,?_⟩
     have ht0:∀ (x:AObj),(χ ++ [x])[χ.length]? = some x:=fun x=>by simp
     have hs0:∀ (x y:AObj),(χ ++ [x]).set χ.length y = χ ++ [y]:=fun x y=>by
      rw [List.set_append_right _ _ (Nat.le_refl _)]; simp
     generalize hvq:PV.ref i2 u2 0 L.length=vq at *
     try simp only [OpK_eq,HKv,ht0,hs0,ren_ref,go_sem]
     subst hvq
     refine ⟨⟨Nat.le_refl _,by omega⟩,?_⟩
     have lt1:=(List.getElem?_eq_some_iff.1 hP6.out).1
     have lt2:=(List.getElem?_eq_some_iff.1 gW6.out).1
     have lt3:=(List.getElem?_eq_some_iff.1 gb6).1
     have hW7:=fun x=>gW6.keep (σ':=χ ++ [x]) (fun id hid _=>List.getElem?_append_left hid) (by rintro (h | h); exact d12 h.symm; exact d23 h)
     have hP7:=fun x=>hP6.keep (σ':=χ ++ [x]) (fun id hid _=>List.getElem?_append_left hid) (by rintro (h | h); exact d12 h; exact d13 h)
     have hwd1:Wd (χ ++ [.arr 2 2 1 (ints (mm.2 ++ [(k:Int)]))]) (fun id=>(id=i1∨id=i3)∨id=i2) (.ref χ.length 2 0 (mm.2.length+1)) (mm.2 ++ [(k:Int)]):=by
      refine .inr ⟨_,2,by simp,ht0 _,fun h=>?_⟩
      rcases h with (h | h) | h <;> omega
     have hpush:=fun K'=>(hW7 (.arr 2 2 1 (ints (mm.2 ++ [(k:Int)])))).push (K:=K') hwd1 (by rw [List.length_map]; omega)
     simp only [List.length_map] at hpush
     refine hpush _ fun hW8=>?_
     try simp only [OpK_eq,HKv,go_sem]
     refine ⟨by omega,ihk (k+1,u1+1,u2+1,wz1,wt2 ++ [.ref χ.length 2 0 (mm.2.length+1)],N2,_) ⟨by show k+1≤fs.length; omega,?_⟩ (by show fs.length - (k+1)<fs.length - k; omega) _ _ (by simp [keep,hsucc]) rfl⟩
     show ApH _ i1 i2 i3 (u1+1) (u2+1) wz1 _ N2 n m (advN (ixs fs.length) (ld2 fs gs) (S i) mm (k+1))
     rw [hsucc]
     refine ⟨?_,?_,?_,hN2,hM2,?_,d12,d13,d23⟩
     ·rw [List.map_append]
      exact (hP7 _).keep (fun id _ hA=>List.getElem?_set_ne (by rintro rfl; exact hA (.inl rfl))) (by rintro (h | h); exact d12 h; exact d13 h)
     ·rw [List.map_append]; exact hW8
     ·rw [List.getElem?_set_ne d23,List.getElem?_append_left lt3]; exact gb6
     ·intro y hy
      rw [List.length_append,List.length_singleton]
      rcases List.mem_append.1 hy with hy | hy
      ·have:=hwl y hy; omega
      ·simp only [List.mem_singleton] at hy; subst hy
       simp only [List.length_append,List.length_singleton]
       omega
   ·have hke:k=fs.length:=by omega
    subst hke
    try simp only [OpK_eq,HKv,go_sem]
    refine ⟨by omega,ih (i+1,u1,u2,wt1,wt2,N,τ) ⟨?_,hno',?_⟩ (by show 26 - (i+1)<26 - i; omega) _ _ ?_ rfl⟩
    ·show i+1≤(S (i+1)).length
     rw [hSi,hL]; omega
    ·show ApH τ i1 i2 i3 u1 u2 wt1 wt2 N n m (S (i+1))
     rw [hSi,hL]; exact gH
    ·simp [keep,hSi,hL]
 ·have hie:i=(S i).length:=by omega
  exact hQ2 _ _ (hF2 i hie hno)
theorem ap_rest (fs gs:List (List Nat)) (n m:Nat) (hf:∀ f∈fs,Ok f n) (hg:∀ g∈gs,Ok g m) (hl:fs.length=gs.length) (hfl:fs.length≤1000) (hn5:n≤5) (hm5:m≤5) (la lb:List Nat) (hla:∀ x∈la,x<5) (hLa:la.length≤1048576) (qa qb:Int) (Wb:PV) [hSW:Still Wb] (hWb:∀ v:Nat,v<5→Pure Tryz.prog 116 [.agg [.list (aggs (gs.map mp)),.int .i64 qb,Wb],.int .i64 v] (.bool (decide (v∈lb)))) (p q:Nat) (hp:p<n) (hq:q<m)
  (hK:K (apW (fwp fs gs la lb p q)) []) (σ:Heap) (i1 i2 i3 j1 j2:Nat) (env:Env)
  (u2:Kv.look env 2 = .int .i64 p) (u3:Kv.look env 3 = .int .i64 q) (u4:Kv.look env 4 = .fptr [.list (aggs (fs.map mp)),.int .i64 qa,.list (ints (nz la))] 0) (u5:Kv.look env 5 = .fptr [.list (aggs (gs.map mp)),.int .i64 qb,Wb] 0) (u10:Kv.look env 10 = .int .i64 m)
  (u11:Kv.look env 11 = .ref i1 0 0 1) (u12:Kv.look env 12 = .ref i2 0 0 1) (u13:Kv.look env 13 = .ref i3 0 0 (n * m))
  (h1:σ[i1]? = some (.arr 0 25 1 [.ref j1 0 0 2])) (h2:σ[i2]? = some (.arr 0 25 1 [.ref j2 0 0 0])) (h3:σ[i3]? = some (.arr 0 4 1 (List.replicate (n * m) (.bool false)))) (h4:σ[j1]? = some (.arr 0 2 1 (ints [(p:Int),(q:Int)]))) (h5:σ[j2]? = some (.arr 0 2 1 (ints [])))
  (d12:i1≠i2) (d13:i1≠i3) (d23:i2≠i3) (dj:j1≠i1∧j1≠i2∧j1≠i3∧j2≠i1∧j2≠i2∧j2≠i3):vc (mkCfg Tryz.prog mixed [4,5,118,127,129] 131 0) (drK 3 k45) (FinK 0 [.t 8,.t 9] K) env σ:=by
 have hmul:(p:Int) * (m:Int)=((p * m:Nat):Int):=(Int.natCast_mul p m).symm
 have hadd:((p * m:Nat):Int)+(q:Int)=((p * m+q:Nat):Int):=(Int.natCast_add _ _).symm
 have hcl:p * m+q<n * m:=pair_lt hp hq
 have hnm:n * m≤5 * 5:=Nat.mul_le_mul hn5 hm5
 have hpc:pcode m [(p:Int),(q:Int)]=p * m+q:=pcode_val m p q
 have hct:((p * m+q:Nat):Int).toNat=p * m+q:=by omega
 have hbl:List.replicate (n * m) (PV.bool false)=bls (List.replicate (n * m) false):=by simp [bls]
 have hput:∀ b y,putE (.bool b) 0 y=y:=fun b y=>rfl
 have lt3:=(List.getElem?_eq_some_iff.1 h3).1
 rw [hbl] at h3
 generalize hcc:p * m+q=c at *
 simp only [drK,tlK,k45]
 try simp only [OpK_eq,HKv,u2,u3,u10,u13,hmul,hadd,hct,h3,go_sem]
 refine ⟨by omega,by omega,⟨by omega,by simp⟩,by simp; omega,fun x hx=>?_⟩
 rw [bls_get (by simp; omega)] at hx; cases hx
 rw [hput,bls_set]
 refine ⟨by simp [PV.cs],?_⟩
 refine ap_loop (K:=K) fs gs n m hf hg hl hfl hn5 hm5 la lb hla hLa qa qb Wb hWb p q hp hq hK (fun env σ w l e hI h8 h9=>?_) (fun env σ e=>?_) _ i1 i2 i3 [.ref j1 0 0 2] [.ref j2 0 0 0] ((List.replicate (n * m) false).set c true) ?_ _ (by simp [keep,u4,u5,u10,u11,u12,u13])
 ·rw [e] at hK
  simp only [apW] at hK
  try simp only [h8,h9,go_sem]
  exact Kv.Fin.freeze (Imm.tupL (.cons hI (.cons (.bool _ _) (.nil _)))) hK
 ·rw [e] at hK
  simp only [apW] at hK
  try simp only [OpK_eq,HKv,go_sem]
  exact Kv.Fin.still hK
 ·have hs:∀ id,id≠i3→(σ.set i3 (.arr 0 4 1 (bls ((List.replicate (n * m) false).set c true))))[id]? = σ[id]?:=fun id h=>List.getElem?_set_ne (Ne.symm h)
  have hS0:pq fs gs p q 0 = [(([(p:Int),(q:Int)],[]):Met)]:=rfl
  rw [hS0]
  refine ⟨⟨(hs i1 d13).trans h1,rfl,fun i w l hw hl=>?_⟩,⟨(hs i2 d23).trans h2,rfl,fun i w l hw hl=>?_⟩,List.getElem?_set_self lt3,by simp,fun d hd=>?_,fun x hx=>?_,d12,d13,d23⟩
  ·have e1:=List.mem_of_getElem? hw
   have e2:=List.mem_of_getElem? hl
   simp only [List.mem_singleton,List.map_cons,List.map_nil] at e1 e2
   subst e1; subst e2
   refine .inr ⟨j1,0,rfl,(hs j1 dj.2.2.1).trans h4,fun h=>?_⟩
   rcases h with (h | h) | h <;> omega
  ·have e1:=List.mem_of_getElem? hw
   have e2:=List.mem_of_getElem? hl
   simp only [List.mem_singleton,List.map_cons,List.map_nil] at e1 e2
   subst e1; subst e2
   refine .inr ⟨j2,0,rfl,(hs j2 dj.2.2.2.2.2).trans h5,fun h=>?_⟩
   rcases h with (h | h) | h <;> omega
  ·simp only [List.getD_eq_getElem?_getD,List.getElem?_set,List.length_replicate]
   by_cases e:c=d
   ·rw [if_pos e,if_pos (by omega)]; simp [← e,hpc]
   ·rw [if_neg e,List.getElem?_replicate,if_pos hd]; simp [hpc,e]
  ·simp only [List.mem_singleton] at hx; subst hx; simp
end
set_option maxHeartbeats 4000000 in
theorem p45W (fs gs:List (List Nat)) (n m:Nat) (hf:∀ f∈fs,Ok f n) (hg:∀ g∈gs,Ok g m) (h0:0<fs.length) (hl:fs.length=gs.length) (hfl:fs.length≤1000) (hn5:n≤5) (hm5:m≤5) (la lb:List Nat) (hla:∀ x∈la,x<5) (hLa:la.length≤1048576) (qa qb:Int) (Wb:PV) [hSW:Still Wb] (hok:Wb.ok=true) (hWb:∀ v:Nat,v<5→Pure Tryz.prog 116 [.agg [.list (aggs (gs.map mp)),.int .i64 qb,Wb],.int .i64 v] (.bool (decide (v∈lb)))) (p q:Nat) (hp:p<n) (hq:q<m) :
  Pure Tryz.prog 45 [.agg [.list (aggs (fs.map mp)),.int .i64 qa,.list (ints (nz la))],.agg [.list (aggs (gs.map mp)),.int .i64 qb,Wb],.int .i64 p,.int .i64 q] (apW (fwp fs gs la lb p q)):=by
 obtain ⟨e1,e2,e3⟩:=mpD0 hf h0
 obtain ⟨g1,g2,g3⟩:=mpD0 hg (by omega)
 have hn1:=(hf _ (List.getElem_mem h0)).pos
 have hmul:(n:Int) * (m:Int)=((n * m:Nat):Int):=(Int.natCast_mul n m).symm
 have hnm:n * m≤5 * 5:=Nat.mul_le_mul hn5 hm5
 have hct:((n * m:Nat):Int).toNat=n * m:=by omega
 have hrest:=fun σ i1 i2 i3 j1 j2 env=>ap_rest (K:=fun v s=>v=apW (fwp fs gs la lb p q)∧s = []) fs gs n m hf hg hl hfl hn5 hm5 la lb hla hLa qa qb Wb hWb p q hp hq ⟨rfl,rfl⟩ σ i1 i2 i3 j1 j2 env
 refine e45 (by simp) fun _ _=>?_
 rw [show k45=upK 3 k45 (drK 3 k45) from rfl]
 generalize drK 3 k45=t at hrest ⊢
 simp only [upK,hdK,tlK,k45,argEnv]
 try simp only [OpK_eq,HKv,subC3,g1,g2,g3,e1,e2,e3,List.length_map,hok,go_sem]
 refine ⟨by omega,fun _=>?_⟩
 try simp only [OpK_eq,HKv,e1,e2,e3,List.length_map,hmul,hct,go_sem]
 refine ⟨by omega,fun _=>⟨by omega,?_⟩⟩
 repeat' (first
  | (rw [vT_alt]; refine And.intro ?_ ?_)
  | (with_reducible refine And.intro ?_ ?_)
  | exact hrest _ _ _ _ _ _ _ rfl rfl rfl rfl rfl rfl rfl rfl rfl rfl rfl rfl rfl (by decide) (by decide) (by decide) (by decide)
  | omega
  | (simp only [OpK_eq,HKv,hct,go_sem]))
theorem p45 (fs gs:List (List Nat)) (n m:Nat) (hf:∀ f∈fs,Ok f n) (hg:∀ g∈gs,Ok g m) (h0:0<fs.length) (hl:fs.length=gs.length) (hfl:fs.length≤1000) (hn5:n≤5) (hm5:m≤5) (la lb:List Nat) (hla:∀ x∈la,x<5) (hlb:∀ x∈lb,x<5) (hLa:la.length≤1048576) (hLb:lb.length≤1048576) (qa qb:Int) (p q:Nat) (hp:p<n) (hq:q<m) :
  Pure Tryz.prog 45 [.agg [.list (aggs (fs.map mp)),.int .i64 qa,.list (ints (nz la))],.agg [.list (aggs (gs.map mp)),.int .i64 qb,.list (ints (nz lb))],.int .i64 p,.int .i64 q] (apW (fwp fs gs la lb p q)) :=
 p45W fs gs n m hf hg h0 hl hfl hn5 hm5 la lb hla hLa qa qb _ rfl (fun v hv=>p116 (gs.map mp) qb lb hlb hLb v hv) p q hp hq
end
end
end Go.Proofs.YtcfmmmloeaggmaaGreat
