/- Several texts of this session as one, less what the claim does not need. -/
import Derived.Test.YtcfmmmloeaggmaaGreatCb
import Derived.Test.YtcfmmmloeaggmaaGreatZ15
import Derived.Test.YtcfmmmloeaggmaaGreatZ14
import Derived.Test.YtcfmmmloeaggmaaGreatZ10
import Derived.Test.YtcfmmmloeaggmaaGreatZ5
import Derived.Test.YtcfmmmloeaggmaaGreatZ6
import Derived.Test.YtcfmmmloeaggmaaGreatZ8
import Derived.Test.YtcfmmmloeaggmaaGreatZ12
import Derived.Test.YtcfmmmloeaggmaaGreatZ7
namespace Go.Proofs.YtcfmmmloeaggmaaGreat
open Go.Kv
set_option linter.unusedVariables false
set_option linter.unusedSimpArgs false
section
section
set_option maxRecDepth 100000
def k7:KC:=(.seq (.ops [oP 2 (.box true (.t 0)),oP 3 (.box true (.t 1)),oP 4 (.mv (.c (.nils))),oP 5 (.mv (iC 0))])
 (.seq (.ops [oP 6 (.load true 3 (.t 2)),oP 7 (.load true 3 (.t 3)),oP 8 (.call (fC 43) [(.t 6),(.t 7)]),oP 9 (.extr 0 (.t 8)),oP 10 (.extr 1 (.t 8)),mV 4 9,mV 5 10])
 .ret))
theorem e7:Ent 7 11 [2,3] [.t 4,.t 5] k7:=ent Tryz.func7
def k9:KC:=(.seq (.ops [oP 2 (.box true (.t 0)),oP 3 (.box true (.t 1)),oP 4 (.mv (.c (.bool false))),oP 5 (.mv (iC 0))])
 (.seq (.ops [oP 9 (.load true 3 (.t 2)),oP 10 (.load true 3 (.t 3)),oP 11 (.call (fC 43) [(.t 9),(.t 10)]),mV 8 11,oP 12 (.extr 0 (.t 8)),oP 13 (.extr 1 (.t 8)),mV 6 12,mV 7 13])
 (.seq (.seq (.ops [mV 14 7,oP 15 (.bin .eql (.t 14) (iC 4))])
 (.cond (.t 15) (.seq (.ops [oP 4 (.mv (.c (.bool true))),oP 5 (.mv (iC 0))])
 .ret) .skip))
 (.seq (.ops [mV 16 7,oP 4 (.mv (.c (.bool false))),mV 5 16])
 .ret))))
theorem e9:Ent 9 17 [2,3] [.t 4,.t 5] k9:=ent Tryz.func9
end
section
attribute [local irreducible] ACall PCall KL
theorem ints3 (a b c:PV):putC [.int .i64 0,.int .i64 0,.nils] 0 [a,b,c] = [a,b,c]:=by unfold putC; first | rfl | (split <;> rfl) | simp
set_option maxHeartbeats 4000000 in
theorem p43_in {fs gs:List (List Nat)} {n m p q:Nat} {la lb:List Nat} (h1:GoodA fs n p la) (h2:GoodA gs m q lb) (hl:fs.length=gs.length):Pure Tryz.prog 43 [gav fs p la,gav gs q lb] (apV (fwp fs gs la lb p q)):=by
 have hf:=h1.ok
 have hg:=h2.ok
 have hn5:=h1.n5
 have hm5:=h2.n5
 have hp:=h1.qn
 have hq:=h2.qn
 have hfl:=h1.fl
 have hS0:pq fs gs p q 0 = [(([(p:Int),(q:Int)],[]):Met)]:=rfl
 have hSs:∀ i (h:i<(pq fs gs p q i).length),pq fs gs p q (i+1)=advN (ixs fs.length) (ld2 fs gs) (pq fs gs p q i) (pq fs gs p q i)[i] fs.length:=fun i h=>pq_succ h
 have hall:=fun i=>pq_all (fs:=fs) (gs:=gs) (p:=p) (q:=q) i
 have hlen:=fun i=>pq_len hf hg hl hp hq hn5 hm5 i
 have hF1:∀ i,FH fs gs la lb p q i→fwp fs gs la lb p q=some ((pq fs gs p q i).getD i ([],[])).2:=fun i h=>fwp_some h
 have hF2:∀ i,i=(pq fs gs p q i).length→_→fwp fs gs la lb p q=none:=fun i h h'=>fwp_none (la:=la) (lb:=lb) h h'
 have hi1:=h1.i
 have hi2:=h2.i
 have hLa:=fun x=>p50 (.list (aggs (fs.map mp))) (.int .i64 p) la h1.ll x
 have hLb:=fun x=>p50 (.list (aggs (gs.map mp))) (.int .i64 q) lb h2.ll x
 unfold FH at hF1
 generalize fwp fs gs la lb p q=o at *
 generalize pq fs gs p q=S at *
 refine e43 (by simp) fun _ _=>?_
 simp only [k43,argEnv,go_sem]
 try simp only [OpK_eq,HKv,subC3,go_sem]
 refine hi1.go ?_
 try simp only [OpK_eq,HKv,subC3,go_sem]
 refine hi2.go ?_
 try simp only [OpK_eq,HKv,subC3,List.length_map,go_sem]
 refine ⟨fun h=>absurd (by rw [hl]) h,fun _=>?_⟩
 refine KL_ind k43_b1.eq_1 (fun x:Nat × Nat × List PV × Heap=>[(2,.fptr [.list (aggs (fs.map mp)),.int .i64 p,.list (ints (nz la))] 0),(3,.fptr [.list (aggs (gs.map mp)),.int .i64 q,.list (ints (nz lb))] 0),(6,.ref 0 x.2.1 0 (S x.1).length),(7,.int .i64 x.1)]) (fun x=>x.2.2.2)
  (fun x=>x.1≤(S x.1).length∧(∀ j,j<x.1→j<(S j).length→dfr la lb ((S j).getD j ([],[])).1=false)∧DG x.2.2.2 x.2.1 x.2.2.1 (S x.1)∧(∀ x'∈S x.1,x'.2.length+1≤(S x.1).length)) (fun x=>26 - x.1) [2,3,6,7]
  (0,0,[.nils],[AObj.arr 0 121 3 [PV.agg [PV.int IntKind.i64 p,PV.int IntKind.i64 q,PV.nils]]]) (by simp [keep,hS0]) rfl ?_ fun ⟨i,ver,ws,σ⟩ ⟨hi,hno,hG,hwl⟩ ih=>?_
 ·refine ⟨Nat.zero_le _,fun j h=>by omega,?_,?_⟩
  ·show DG _ 0 [.nils] (S 0)
   rw [hS0]
   refine ⟨by simp [dcell],rfl,fun i w m hw hm=>.inl ⟨?_,?_⟩⟩
   ·have:=List.mem_of_getElem? hw; simpa using this
   ·have:=List.mem_of_getElem? hm
    simp only [List.mem_singleton] at this; rw [this]
  ·intro x hx
   have hx:x∈S 0:=hx
   show x.2.length+1≤(S 0).length
   rw [hS0] at hx ⊢
   simp only [List.mem_singleton] at hx
   subst hx; simp
 simp only at hi hno hG hwl
 have hli:=hlen i
 obtain ⟨hPm,hnd⟩:=hall i
 have hout:=hG.out
 have hzl:(List.zipWith dcell ws (S i)).length=(S i).length:=by simp [hG.len]
 try simp only [OpK_eq,HKv,hout,hzl,go_sem]
 refine ⟨fun h1=>?_,fun h1=>?_⟩
 ·have hil:i<(S i).length:=by omega
  have hSi:=hSs i hil
  have hmP:=hPm _ (List.getElem_mem hil)
  obtain ⟨u,v,hu,hv,huv⟩:=hmP.two hf hg hl hp hq
  obtain ⟨w,hw,hcell,hW⟩:=hG.cell hil
  have hgD:(S i).getD i ([],[])=(S i)[i]:=by rw [List.getD_eq_getElem?_getD,List.getElem?_eq_getElem hil]; rfl
  have hF1:=hF1 i
  rw [hgD] at hF1
  have hml:=hwl _ (List.getElem_mem hil)
  generalize hm':(S i)[i]=mm at *
  have hd:dfr la lb mm.1=(decide (u∈la) != decide (v∈lb)):=by rw [huv]; simp [dfr]
  have hdc:dcell w mm = .agg [.int .i64 u,.int .i64 v,w]:=by unfold dcell; rw [huv]; rfl
  rw [hdc] at hcell
  have hsub:subC (PV.agg [.int .i64 u,.int .i64 v,w]).cs 0 3 = [.int .i64 u,.int .i64 v,w]:=subC3 _ _ _
  have hput:putC [.int .i64 0,.int .i64 0,.nils] 0 [.int .i64 u,.int .i64 v,w] = [.int .i64 u,.int .i64 v,w]:=ints3 _ _ _
  have hwok:[PV.int .i64 u,.int .i64 v,w].all PV.ok=true:=by rcases hW with ⟨rfl,_⟩ | ⟨_,_,rfl,_⟩ <;> simp [PV.ok]
  refine ⟨⟨by omega,by omega⟩,hil,fun x hx=>?_⟩
  rw [hcell] at hx; cases hx
  rw [hsub,hput]
  refine ⟨Nat.le_refl _,⟨rfl,hwok⟩,by simp,fun c hc=>?_⟩
  simp only [List.getElem?_cons_zero,Option.some.injEq] at hc; subst hc
  refine ⟨by simp,fun c hc=>?_⟩
  simp only [List.getElem?_cons_succ,List.getElem?_cons_zero,Option.some.injEq] at hc; subst hc
  have hb0:σ.length≠0:=by have:=(List.getElem?_eq_some_iff.1 hout).1; omega
  have hb1:(σ ++ [AObj.box [.int .i64 u,.int .i64 v,w]])[σ.length]? = some (.box [.int .i64 u,.int .i64 v,w]):=by simp
  have hG1:DG (σ ++ [AObj.box [.int .i64 u,.int .i64 v,w]]) ver ws (S i):=hG.keep fun id hid=>List.getElem?_append_left hid
  have hW1:Wd (σ ++ [AObj.box [.int .i64 u,.int .i64 v,w]]) (fun id=>id=0) w mm.2:=hW.keep fun id hid hA=>⟨List.getElem?_append_left hid,hA⟩
  generalize σ ++ [AObj.box [.int .i64 u,.int .i64 v,w]] = τ at *
  generalize σ.length=b at *
  clear hG hW hcell hw hout hzl
  refine (hLa u).pgo ?_
  try simp only [OpK_eq,HKv,go_sem]
  refine (hLb v).pgo ?_
  generalize decide (u∈la)=c1 at *
  generalize decide (v∈lb)=c2 at *
  cases hb:(c1 != c2) with
  | true =>
   rw [hb] at hd
   try simp only [OpK_eq,HKv,hb,hb1,go_sem]
   rw [hF1 ⟨hil,hd,hno⟩]
   exact Kv.Fin.freeze (Imm.tupL (.cons hW1.imm (.cons (.int _ _ _) (.nil _)))) ⟨rfl,rfl⟩
  | false =>
   rw [hb] at hd
   have hno':∀ j,j<i+1→j<(S j).length→dfr la lb ((S j).getD j ([],[])).1=false:=fun j hj hjl=>by
    by_cases e:j=i
    ·subst e; rw [hgD]; exact hd
    ·exact hno j (by omega) hjl
   try simp only [OpK_eq,HKv,hb,List.length_map,go_sem]
   clear hF1 hno hF2
   have hadv:∀ k,k≤fs.length→_:=fun k hk=>adv_pq hPm hnd hmP k hk
   have hadvB:∀ k,k≤fs.length→(advN (ixs fs.length) (ld2 fs gs) (S i) mm k).length≤25:=fun k hk=>by
    have e1:=advN_mono (ixs fs.length) (ld2 fs gs) (S i) mm hk
    have e2:=hlen (i+1)
    rw [hSi] at e2
    exact Nat.le_trans e1 e2
   have hmonoL:∀ k,(S i).length≤(advN (ixs fs.length) (ld2 fs gs) (S i) mm k).length:=fun k=>advN_mono (ixs fs.length) (ld2 fs gs) (S i) mm (Nat.zero_le k)
   refine KL_ind k43_b0.eq_1 (fun x:Nat × Nat × List PV × Heap=>[(2,.fptr [.list (aggs (fs.map mp)),.int .i64 p,.list (ints (nz la))] 0),(3,.fptr [.list (aggs (gs.map mp)),.int .i64 q,.list (ints (nz lb))] 0),(6,.ref 0 x.2.1 0 (advN (ixs fs.length) (ld2 fs gs) (S i) mm x.1).length),(7,.int .i64 i),(8,.ptr b 0),(56,.int .i64 fs.length),(57,.int .i64 x.1)]) (fun x=>x.2.2.2)
    (fun x=>x.1≤fs.length∧DG x.2.2.2 x.2.1 x.2.2.1 (advN (ixs fs.length) (ld2 fs gs) (S i) mm x.1)∧x.2.2.2[b]? = some (.box [.int .i64 u,.int .i64 v,w])∧Wd x.2.2.2 (fun id=>id=0) w mm.2∧(∀ y∈advN (ixs fs.length) (ld2 fs gs) (S i) mm x.1,y.2.length+1≤(advN (ixs fs.length) (ld2 fs gs) (S i) mm x.1).length)) (fun x=>fs.length - x.1) [2,3,6,7,8,56,57]
    (0,ver,ws,τ) (by rfl) rfl ⟨Nat.zero_le _,hG1,hb1,hW1,hwl⟩ fun ⟨k,ver2,ws2,ρ⟩ ⟨hk,gG,gb,gW,gwl⟩ ihk=>?_
   simp only at hk gG gb gW gwl
   clear hG1 hb1 hW1 hwl
   obtain ⟨gPm,gnd,_,_⟩:=hadv k hk
   have hsucc:=advN_succ (ixs fs.length) (ld2 fs gs) (S i) mm k
   have hlenB:=hadvB k hk
   have hmk:=hmonoL k
   generalize hL:advN (ixs fs.length) (ld2 fs gs) (S i) mm k=L at *
   try simp only [OpK_eq,HKv,List.length_map,go_sem]
   refine ⟨fun h6=>?_,fun h6=>?_⟩
   ·have hkl:k<fs.length:=by omega
    have hkg:k<gs.length:=by omega
    have hfk:=hf _ (List.getElem_mem hkl)
    have h6k:=hfk.mp_len
    have hgk':=hg _ (List.getElem_mem hkg)
    have h6g:=hgk'.mp_len
    have hgk:(fs.map mp).getD k []=mp fs[k]:=by simp [List.getD_eq_getElem?_getD,hkl]
    have hgk2:(gs.map mp).getD k []=mp gs[k]:=by simp [List.getD_eq_getElem?_getD,hkg]
    have hgf:fs.getD k []=fs[k]:=by simp [List.getD_eq_getElem?_getD,hkl]
    have hgf2:gs.getD k []=gs[k]:=by simp [List.getD_eq_getElem?_getD,hkg]
    rw [ixs_get hkl,huv,ld2_val,hgf,hgf2] at hsucc
    have hx5:=hfk.get' u
    have hy5:=hgk'.get' v
    have hut:(u:Int).toNat=u:=by omega
    have hvt:(v:Int).toNat=v:=by omega
    try simp only [OpK_eq,HKv,gb,hgk,hgk2,h6k,h6g,hut,hvt,mp_get,List.length_map,go_sem]
    refine ⟨by omega,fun _=>⟨by omega,by omega,fun _=>⟨by omega,fun _=>⟨by omega,by omega,fun _=>?_⟩⟩⟩⟩
    have hXY:two n m [((fs[k].getD u 0:Nat):Int),((gs[k].getD v 0:Nat):Int)]:=⟨_,_,hx5,hy5,rfl⟩
    generalize fs[k].getD u 0=X at *
    generalize gs[k].getD v 0=Y at *
    have hs0:∀ (x z:AObj) (A:List AObj),(ρ ++ x :: A).set ρ.length z = ρ ++ z :: A:=fun x z A=>by
     rw [List.set_append_right _ _ (Nat.le_refl _)]; simp
    have hs1:∀ (x y z:AObj) (A:List AObj),(ρ ++ x :: y :: A).set (ρ.length+1) z = ρ ++ x :: z :: A:=fun x y z A=>by
     rw [List.set_append_right _ _ (by omega)]; simp
    have ht0:∀ (x:AObj) A,(ρ ++ x :: A)[ρ.length]? = some x:=fun x A=>by simp
    have ht1:∀ (x y:AObj) A,(ρ ++ x :: y :: A)[ρ.length+1]? = some y:=fun x y A=>by
     rw [List.getElem?_append_right (by omega)]; simp
    rw [vT_alt]
    refine ⟨?_,?_⟩
    ·try simp only [OpK_eq,HKv,hs0,hs1,ht0,ht1,List.append_assoc,List.cons_append,List.nil_append,go_sem]
     have e10:=ht0 (AObj.box [.int .i64 X]) [AObj.box [.int .i64 Y]]
     have e11:=ht1 (AObj.box [.int .i64 X]) (AObj.box [.int .i64 Y]) []
     clear hs0 hs1 ht0 ht1
     have hkeep:∀ id,id < ρ.length→(ρ ++ [AObj.box [.int .i64 X],AObj.box [.int .i64 Y]])[id]? = ρ[id]?:=fun id hid=>List.getElem?_append_left hid
     generalize (ρ ++ [AObj.box [.int .i64 X],AObj.box [.int .i64 Y]]) = π at *
     have hblt:=(List.getElem?_eq_some_iff.1 gb).1
     generalize hy0:ρ.length=y0 at *
     generalize y0+1=y1 at *
     have gG2:DG π ver2 ws2 L:=gG.keep (by rw [hy0]; exact hkeep)
     have gb2:=(hkeep b hblt).trans gb
     have gW2:Wd π (fun id=>id=0) w mm.2:=gW.keep fun id hid hA=>⟨hkeep id (by rw [← hy0]; exact hid),hA⟩
     refine (p113 L (by omega) 114 [.fptr [.int .i64 X] 0,.fptr [.int .i64 Y] 0] (fun x=>decide (x.1 = [(X:Int),(Y:Int)])) (fun x hx=>?_)).lend (.cons gG2.imm (.cons (Imm.fnc _ (.cons (Imm.ptr y0 0 [.int .i64 X] [.int .i64 X] e10 rfl (by simp [PV.ok]) (fun j c d hc hd=>by rw [hc] at hd; cases hd; have:=List.mem_of_getElem? hc; simp only [List.mem_singleton] at this; subst this; exact .still)) (.cons (Imm.ptr y1 0 [.int .i64 Y] [.int .i64 Y] e11 rfl (by simp [PV.ok]) (fun j c d hc hd=>by rw [hc] at hd; cases hd; have:=List.mem_of_getElem? hc; simp only [List.mem_singleton] at this; subst this; exact .still)) (.nil _)))) (.nil _))) ?_
     ·obtain ⟨u',v',_,_,e⟩:=(gPm x hx).two hf hg hl hp hq
      obtain ⟨x1,x2⟩:=x
      simp only at e; subst e
      exact p114 u' v' X Y x2
     cases hany:L.any (fun x=>decide (x.1 = [(X:Int),(Y:Int)])) with
     | true =>
      rw [if_pos hany] at hsucc
      try simp only [OpK_eq,HKv,go_sem]
      refine ⟨by omega,ihk (k+1,ver2,ws2,π) ⟨by show k+1≤fs.length; omega,?_,gb2,gW2,?_⟩ (by show fs.length - (k+1)<fs.length - k; omega) _ _ ?_ rfl⟩
      ·show DG _ ver2 ws2 (advN (ixs fs.length) (ld2 fs gs) (S i) mm (k+1))
       rw [hsucc]; exact gG2
      ·show ∀ y∈advN (ixs fs.length) (ld2 fs gs) (S i) mm (k+1),_≤(advN (ixs fs.length) (ld2 fs gs) (S i) mm (k+1)).length
       rw [hsucc]; exact gwl
      ·simp [keep,hsucc]
     | false =>
      rw [if_neg (by rw [hany]; simp)] at hsucc
      have hlenB1:=hadvB (k+1) (by omega)
      rw [hsucc,List.length_append,List.length_singleton] at hlenB1
      try simp only [OpK_eq,HKv,go_sem]
      rw [tD_all]
      try simp only [OpK_eq,HKv,go_sem]
      refine dD0000 (vq:=.ref 0 ver2 0 L.length) (k:=k) (C:=⟨gG2,gW2,gb2,e10,e11,rfl,by omega,by omega,hb0,fun env ρ' w' q1 q2 q3 q4 q5=>?_⟩) (by simp [look_cons]) (by simp [look_cons]) (by simp [look_cons]) (by simp [look_cons]) (fun t ht=>rfl) (by simp [look_cons])
      have l2:=q4 2 (by decide)
      have l3:=q4 3 (by decide)
      have l7:=q4 7 (by decide)
      have l8:=q4 8 (by decide)
      have l56:=q4 56 (by decide)
      have l57:=q4 57 (by decide)
      simp only [go_sem] at l2 l3 l7 l8 l56 l57
      try simp only [OpK_eq,HKv,l57,go_sem]
      refine ⟨by omega,ihk (k+1,ver2+1,ws2 ++ [w'],ρ') ⟨by show k+1≤fs.length; omega,?_,q2,q3,?_⟩ (by show fs.length - (k+1)<fs.length - k; omega) _ _ ?_ rfl⟩
      ·show DG _ _ _ (advN (ixs fs.length) (ld2 fs gs) (S i) mm (k+1))
       rw [hsucc]; exact q1
      ·show ∀ y∈advN (ixs fs.length) (ld2 fs gs) (S i) mm (k+1),_≤(advN (ixs fs.length) (ld2 fs gs) (S i) mm (k+1)).length
       rw [hsucc]
       intro y hy
       rw [List.length_append,List.length_singleton]
       rcases List.mem_append.1 hy with hy | hy
       ·have:=gwl y hy; omega
       ·simp only [List.mem_singleton] at hy; subst hy
        simp only [List.length_append,List.length_singleton]
        omega
      ·simp [keep,hsucc,look_cons,l2,l3,l7,l8,l56,q5]
    ·try simp only [OpK_eq,HKv,hs0,hs1,ht0,ht1,List.append_assoc,List.cons_append,List.nil_append,go_sem]
     have e11:=ht0 (AObj.box [.int .i64 Y]) [AObj.box [.int .i64 X]]
     have e10:=ht1 (AObj.box [.int .i64 Y]) (AObj.box [.int .i64 X]) []
     clear hs0 hs1 ht0 ht1
     have hkeep:∀ id,id < ρ.length→(ρ ++ [AObj.box [.int .i64 Y],AObj.box [.int .i64 X]])[id]? = ρ[id]?:=fun id hid=>List.getElem?_append_left hid
     generalize (ρ ++ [AObj.box [.int .i64 Y],AObj.box [.int .i64 X]]) = π at *
     have hblt:=(List.getElem?_eq_some_iff.1 gb).1
     generalize hy0:ρ.length=y0 at *
     generalize y0+1=y1 at *
     have gG2:DG π ver2 ws2 L:=gG.keep (by rw [hy0]; exact hkeep)
     have gb2:=(hkeep b hblt).trans gb
     have gW2:Wd π (fun id=>id=0) w mm.2:=gW.keep fun id hid hA=>⟨hkeep id (by rw [← hy0]; exact hid),hA⟩
     refine (p113 L (by omega) 114 [.fptr [.int .i64 X] 0,.fptr [.int .i64 Y] 0] (fun x=>decide (x.1 = [(X:Int),(Y:Int)])) (fun x hx=>?_)).lend (.cons gG2.imm (.cons (Imm.fnc _ (.cons (Imm.ptr y1 0 [.int .i64 X] [.int .i64 X] e10 rfl (by simp [PV.ok]) (fun j c d hc hd=>by rw [hc] at hd; cases hd; have:=List.mem_of_getElem? hc; simp only [List.mem_singleton] at this; subst this; exact .still)) (.cons (Imm.ptr y0 0 [.int .i64 Y] [.int .i64 Y] e11 rfl (by simp [PV.ok]) (fun j c d hc hd=>by rw [hc] at hd; cases hd; have:=List.mem_of_getElem? hc; simp only [List.mem_singleton] at this; subst this; exact .still)) (.nil _)))) (.nil _))) ?_
     ·obtain ⟨u',v',_,_,e⟩:=(gPm x hx).two hf hg hl hp hq
      obtain ⟨x1,x2⟩:=x
      simp only at e; subst e
      exact p114 u' v' X Y x2
     cases hany:L.any (fun x=>decide (x.1 = [(X:Int),(Y:Int)])) with
     | true =>
      rw [if_pos hany] at hsucc
      try simp only [OpK_eq,HKv,go_sem]
      refine ⟨by omega,ihk (k+1,ver2,ws2,π) ⟨by show k+1≤fs.length; omega,?_,gb2,gW2,?_⟩ (by show fs.length - (k+1)<fs.length - k; omega) _ _ ?_ rfl⟩
      ·show DG _ ver2 ws2 (advN (ixs fs.length) (ld2 fs gs) (S i) mm (k+1))
       rw [hsucc]; exact gG2
      ·show ∀ y∈advN (ixs fs.length) (ld2 fs gs) (S i) mm (k+1),_≤(advN (ixs fs.length) (ld2 fs gs) (S i) mm (k+1)).length
       rw [hsucc]; exact gwl
      ·simp [keep,hsucc]
     | false =>
      rw [if_neg (by rw [hany]; simp)] at hsucc
      have hlenB1:=hadvB (k+1) (by omega)
      rw [hsucc,List.length_append,List.length_singleton] at hlenB1
      try simp only [OpK_eq,HKv,go_sem]
      rw [tD_all]
      try simp only [OpK_eq,HKv,go_sem]
      refine dD0000 (vq:=.ref 0 ver2 0 L.length) (k:=k) (C:=⟨gG2,gW2,gb2,e10,e11,rfl,by omega,by omega,hb0,fun env ρ' w' q1 q2 q3 q4 q5=>?_⟩) (by simp [look_cons]) (by simp [look_cons]) (by simp [look_cons]) (by simp [look_cons]) (fun t ht=>rfl) (by simp [look_cons])
      have l2:=q4 2 (by decide)
      have l3:=q4 3 (by decide)
      have l7:=q4 7 (by decide)
      have l8:=q4 8 (by decide)
      have l56:=q4 56 (by decide)
      have l57:=q4 57 (by decide)
      simp only [go_sem] at l2 l3 l7 l8 l56 l57
      try simp only [OpK_eq,HKv,l57,go_sem]
      refine ⟨by omega,ihk (k+1,ver2+1,ws2 ++ [w'],ρ') ⟨by show k+1≤fs.length; omega,?_,q2,q3,?_⟩ (by show fs.length - (k+1)<fs.length - k; omega) _ _ ?_ rfl⟩
      ·show DG _ _ _ (advN (ixs fs.length) (ld2 fs gs) (S i) mm (k+1))
       rw [hsucc]; exact q1
      ·show ∀ y∈advN (ixs fs.length) (ld2 fs gs) (S i) mm (k+1),_≤(advN (ixs fs.length) (ld2 fs gs) (S i) mm (k+1)).length
       rw [hsucc]
       intro y hy
       rw [List.length_append,List.length_singleton]
       rcases List.mem_append.1 hy with hy | hy
       ·have:=gwl y hy; omega
       ·simp only [List.mem_singleton] at hy; subst hy
        simp only [List.length_append,List.length_singleton]
        omega
      ·simp [keep,hsucc,look_cons,l2,l3,l7,l8,l56,q5]
   ·have hke:k=fs.length:=by omega
    subst hke
    try simp only [OpK_eq,HKv,go_sem]
    refine ⟨by omega,ih (i+1,ver2,ws2,ρ) ⟨?_,hno',?_,?_⟩ (by show 26 - (i+1)<26 - i; omega) _ _ ?_ rfl⟩
    ·show i+1≤(S (i+1)).length
     rw [hSi,hL]; omega
    ·show DG ρ ver2 ws2 (S (i+1))
     rw [hSi,hL]; exact gG
    ·show ∀ x∈S (i+1),x.2.length+1≤(S (i+1)).length
     rw [hSi,hL]; exact gwl
    ·rw [hSi,hL]; simp [keep]
 ·have hie:i=(S i).length:=by omega
  rw [hF2 i hie hno]
  exact Kv.Fin.still ⟨rfl,rfl⟩
theorem p43_bad (M M':List (List Int)) (q q':Int) (L L':List Int) {b1 b2:Bool} (h1:Pure Tryz.prog 46 [acv M q L] (.bool b1)) (h2:Pure Tryz.prog 46 [acv M' q' L'] (.bool b2)) (hc:twoC b1 b2 M.length M'.length≠0):Pure Tryz.prog 43 [acv M q L,acv M' q' L'] (.tup [.nils,.int .i64 (twoC b1 b2 M.length M'.length)]):=by
 cases b1 with
 | false =>
  refine e43 (by simp) fun _ _=>?_
  simp only [k43,argEnv,go_sem]
  try simp only [OpK_eq,HKv,subC3,go_sem]
  refine h1.go ?_
  try simp only [OpK_eq,HKv,subC3,go_sem]
  exact Kv.Fin.still ⟨by simp [twoC],rfl⟩
 | true =>
  cases b2 with
  | false =>
   refine e43 (by simp) fun _ _=>?_
   simp only [k43,argEnv,go_sem]
   try simp only [OpK_eq,HKv,subC3,go_sem]
   refine h1.go ?_
   try simp only [OpK_eq,HKv,subC3,go_sem]
   refine h2.go ?_
   try simp only [OpK_eq,HKv,subC3,go_sem]
   exact Kv.Fin.still ⟨by simp [twoC],rfl⟩
  | true =>
   have hne:M.length≠M'.length:=fun h=>hc (by simp [twoC,h])
   refine e43 (by simp) fun _ _=>?_
   simp only [k43,argEnv,go_sem]
   try simp only [OpK_eq,HKv,subC3,go_sem]
   refine h1.go ?_
   try simp only [OpK_eq,HKv,subC3,go_sem]
   refine h2.go ?_
   try simp only [OpK_eq,HKv,subC3,go_sem]
   refine ⟨fun _=>Kv.Fin.still ⟨by simp [twoC,hne],rfl⟩,fun h=>absurd h (by omega)⟩
theorem p7 (M M':List (List Int)) (q q':Int) (L L':List Int) {o:PV} {c:Int} [Still o] (h:Pure Tryz.prog 43 [acv M q L,acv M' q' L'] (.tup [o,.int .i64 c])):Pure Tryz.prog 7 [acv M q L,acv M' q' L'] (.tup [o,.int .i64 c]):=by
 refine e7 (by simp) fun _ _=>?_
 simp only [k7,argEnv,go_sem]
 try simp only [OpK_eq,HKv,subC3,go_sem]
 refine h.go ?_
 try simp only [OpK_eq,HKv,go_sem]
 exact Kv.Fin.still ⟨rfl,rfl⟩
theorem p9 (M M':List (List Int)) (q q':Int) (L L':List Int) {o:PV} {c:Int} [Still o] (h:Pure Tryz.prog 43 [acv M q L,acv M' q' L'] (.tup [o,.int .i64 c])):Pure Tryz.prog 9 [acv M q L,acv M' q' L'] (.tup [.bool (decide (c=4)),.int .i64 (if c=4 then 0 else c)]):=by
 refine e9 (by simp) fun _ _=>?_
 simp only [k9,argEnv,go_sem]
 try simp only [OpK_eq,HKv,subC3,go_sem]
 refine h.go ?_
 try simp only [OpK_eq,HKv,go_sem]
 refine ⟨fun h=>Kv.Fin.still ⟨?_,rfl⟩,fun h=>Kv.Fin.still ⟨?_,rfl⟩⟩
 ·rw [decide_eq_true h,if_pos h]
 ·rw [decide_eq_false h,if_neg h]
end
end
section
section
set_option maxRecDepth 100000
def k16:KC:=(.seq (.ops [oP 1 (.box true (.t 0)),oP 2 (.mv (.c (.nils))),oP 3 (.mv (iC 0))])
 (.seq (.seq (.ops [oP 4 (.load true 3 (.t 1)),oP 5 (.call (fC 46) [(.t 4)]),oP 6 (.not (.t 5))])
 (.cond (.t 6) (.seq (.ops [oP 2 (.mv (.c (.nils))),oP 3 (.mv (iC 1))])
 .ret) .skip))
 (.seq (.ops [oP 7 (.fieldA 0 (.t 1)),oP 8 (.load false 1 (.t 7)),oP 9 (.fieldA 1 (.t 1)),oP 10 (.load false 1 (.t 9)),oP 11 (.bsl false 2 1 [(.t 10)]),oP 12 (.mkfn (.func 56) [] [(.t 1)]),oP 13 (.call (fC 54) [(.t 8),(.t 11),(fC 55),(.t 12)]),oP 14 (.extr 0 (.t 13)),oP 15 (.extr 1 (.t 13)),mV 2 14,mV 3 15])
 .ret)))
theorem e16:Ent 16 16 [1] [.t 2,.t 3] k16:=ent Tryz.func16
def k56:KC:=(.seq (.ops [oP 3 (.mv (.c (.bool false)))])
 (.seq (.ops [mV 4 0,oP 5 (.idxS 1 (.t 4) (iC 0)),oP 6 (.load false 1 (.t 5)),oP 7 (.call (fC 50) [(.t 1),(.t 6)]),mV 3 7])
 .ret))
theorem e56:Ent 56 8 [] [.t 3] k56:=ent Tryz.func56
def k17:KC:=(.seq (.ops [oP 1 (.box true (.t 0)),oP 2 (.mv (.c (.nils))),oP 3 (.mv (iC 0))])
 (.seq (.seq (.ops [oP 7 (.load true 3 (.t 1)),oP 8 (.call (fC 57) [(.t 7)]),oP 9 (.not (.t 8))])
 (.cond (.t 9) (.seq (.ops [oP 2 (.mv (.c (.nils))),oP 3 (.mv (iC 1))])
 .ret) .skip))
 (.seq (.ops [oP 10 (.fieldA 0 (.t 1)),oP 11 (.load false 1 (.t 10)),oP 12 (.fieldA 1 (.t 1)),oP 13 (.load false 1 (.t 12)),oP 14 (.build [.nils,.int .i64 0,.nils] [(0,1,(.t 11)),(1,1,(.t 13))]),oP 4 (.alloc [.nils,.int .i64 0,.nils]),⟨none,none,.store 3 (.t 4) (.t 14)⟩])
 (.seq (.ops [oP 16 (.load true 3 (.t 1)),oP 17 (.load true 3 (.t 4)),oP 18 (.fieldA 1 (.t 1)),oP 19 (.load false 1 (.t 18)),oP 20 (.fieldA 1 (.t 1)),oP 21 (.load false 1 (.t 20)),oP 22 (.call (fC 45) [(.t 16),(.t 17),(.t 19),(.t 21)]),mV 15 22,oP 23 (.extr 0 (.t 15)),oP 24 (.extr 1 (.t 15)),mV 5 23,mV 6 24])
 (.seq (.seq (.ops [mV 25 6,oP 26 (.not (.t 25))])
 (.cond (.t 26) (.seq (.ops [oP 2 (.mv (.c (.nils))),oP 3 (.mv (iC 4))])
 .ret) .skip))
 (.seq (.ops [mV 27 5,mV 2 27,oP 3 (.mv (iC 0))])
 .ret))))))
theorem e17:Ent 17 28 [1] [.t 2,.t 3] k17:=ent Tryz.func17
end
section
attribute [local irreducible] ACall PCall KL
theorem mgetD {L:List Met} {i:Nat} (h:i<L.length):L.getD i ([],[])=L[i]:=by rw [List.getD_eq_getElem?_getD,List.getElem?_eq_getElem h]; rfl
def dia (x:Met):Met:=(x.1 ++ x.1,x.2)
theorem adv_dia {fs:List (List Nat)} {Q:List Met} {m:Met} {u:Nat} (hQ:∀ k,k≤fs.length→∀ x∈advN fs ldp Q m k,∃ y:Nat,x.1 = [(y:Int)]) (hm:m.1 = [(u:Int)]):∀ k,k≤fs.length→advN (ixs fs.length) (ld2 fs fs) (Q.map dia) (dia m) k=(advN fs ldp Q m k).map dia
 | 0,_=>rfl
 | k+1,hk=>by
  have ih:=adv_dia hQ hm k (by omega)
  have h1:=hQ k (by omega)
  have hd:(dia m).1 = [(u:Int),(u:Int)]:=by unfold dia; rw [hm]; rfl
  have hl:ldp (fs.getD k []) m.1 = [(((fs.getD k []).getD u 0:Nat):Int)]:=by rw [hm]; simp only [ldp,List.map_cons,List.map_nil,Int.toNat_natCast]
  rw [advN_succ,advN_succ,ixs_get (show k<fs.length by omega),hd,ld2_val,ih,hl]
  have hany:((advN fs ldp Q m k).map dia).any (fun x=>decide (x.1 = [(((fs.getD k []).getD u 0:Nat):Int),(((fs.getD k []).getD u 0:Nat):Int)]))=(advN fs ldp Q m k).any fun x=>decide (x.1 = [(((fs.getD k []).getD u 0:Nat):Int)]):=by
   rw [List.any_map,Bool.eq_iff_iff,List.any_eq_true,List.any_eq_true]
   constructor
   ·rintro ⟨x,hx,e⟩
    obtain ⟨y,ey⟩:=h1 x hx
    refine ⟨x,hx,?_⟩
    simp only [Function.comp,dia,ey] at e ⊢
    simpa using e
   ·rintro ⟨x,hx,e⟩
    refine ⟨x,hx,?_⟩
    simp only [Function.comp,dia,of_decide_eq_true e]
    simp
  rw [hany]
  split
  ·rfl
  ·rw [List.map_append]; rfl
theorem pq_dia {fs:List (List Nat)} {n q:Nat} (hf:∀ f∈fs,Ok f n) (hq:q<n):∀ i,pq fs fs q q i=(bl fs ldp [(q:Int)] i).map dia
 | 0=>rfl
 | i+1=>by
  have ih:=pq_dia hf hq i
  by_cases hi:i<(bl fs ldp [(q:Int)] i).length
  ·have hi2:i<(pq fs fs q q i).length:=by rw [ih,List.length_map]; exact hi
   have hone:∀ i,i≤(bl fs ldp [(q:Int)] i).length→∀ x∈bl fs ldp [(q:Int)] i,∃ y,Rea fs q y∧y<n∧x.1 = [(y:Int)]:=fun i h=>(bl_one hf hq i h).1
   obtain ⟨h1,h2,_,_⟩:=bl_one hf hq i (by omega)
   obtain ⟨u,_,hun,hu⟩:=h1 _ (List.getElem_mem hi)
   have hadv:=adv_dia (fs:=fs) (Q:=bl fs ldp [(q:Int)] i) (m:=(bl fs ldp [(q:Int)] i)[i]) (u:=u) (fun k hk x hx=>by
    obtain ⟨y,_,_,e⟩:=(adv_one hf h1 h2 (h1 _ (List.getElem_mem hi)) k hk).1 x hx
    exact ⟨y,e⟩) hu fs.length (Nat.le_refl _)
   rw [pq_succ hi2,bl_succ hi,← hadv]
   have e:(pq fs fs q q i)[i]=dia (bl fs ldp [(q:Int)] i)[i]:=by
    have:(pq fs fs q q i)[i]? = some (dia (bl fs ldp [(q:Int)] i)[i]):=by rw [ih,List.getElem?_map,List.getElem?_eq_getElem hi]; rfl
    rw [List.getElem?_eq_getElem hi2] at this
    exact Option.some.inj this
   rw [e,ih]
  ·have hi2:¬ i<(pq fs fs q q i).length:=by rw [ih,List.length_map]; exact hi
   rw [pq_none hi2,ih,bl_none (fs:=fs) (bf:=ldp) (p:=[(q:Int)]) hi 1]
theorem bq_bl (fs:List (List Nat)) (p:List Int):∀ i,(bq fs ldp (fun (_:Unit) _=>()) ([(p,[])],()) i).1=bl fs ldp p i
 | 0=>rfl
 | i+1=>by
  have ih:=bq_bl fs p i
  by_cases hi:i<(bl fs ldp p i).length
  ·have h2:=hi
   rw [← ih] at h2
   rw [bq_succ h2,bl_succ hi]
   simp only [ih]
  ·rw [bl_none (fs:=fs) (bf:=ldp) (p:=p) hi 1,bq]
   have:(bq fs ldp (fun (_:Unit) _=>()) ([(p,[])],()) i).1[i]? = none:=List.getElem?_eq_none (by rw [ih]; omega)
   rw [this]; exact ih
theorem p56 (m q:PV) [Still m] [Still q] (la:List Nat) (hL:la.length≤1048576) (n:Nat) (p:List Int) (hp:one n p):Pure Tryz.prog 56 [.list (ints p),.fptr [m,q,.list (ints (nz la))] 0] (.bool (decide ((p.getD 0 0).toNat∈la))):=by
 obtain ⟨u,hu,rfl⟩:=hp
 have h0:([(u:Int)]).getD 0 0=(u:Int):=rfl
 have ht:((u:Nat):Int).toNat=u:=by omega
 rw [h0,ht]
 refine e56 (by simp) fun _ _=>?_
 simp only [k56,argEnv,go_sem]
 try simp only [OpK_eq,HKv,h0,go_sem]
 refine (p50 m q la hL u).go ?_
 try simp only [OpK_eq,HKv,go_sem]
 exact Kv.Fin.still ⟨rfl,rfl⟩
theorem p16_bad (M:List (List Int)) (q:Int) (L:List Int) (h:Pure Tryz.prog 46 [acv M q L] (.bool false)):Pure Tryz.prog 16 [acv M q L] (.tup [.nils,.int .i64 1]):=by
 refine e16 (by simp) fun _ _=>?_
 simp only [k16,argEnv,go_sem]
 try simp only [OpK_eq,HKv,subC3,go_sem]
 refine h.go ?_
 try simp only [OpK_eq,HKv,subC3,go_sem]
 exact Kv.Fin.still ⟨rfl,rfl⟩
theorem p17_bad (M:List (List Int)) (q:Int) (L:List Int) (h:Pure Tryz.prog 57 [acv M q L] (.bool false)):Pure Tryz.prog 17 [acv M q L] (.tup [.nils,.int .i64 1]):=by
 refine e17 (by simp) fun _ _=>?_
 simp only [k17,argEnv,go_sem]
 try simp only [OpK_eq,HKv,subC3,go_sem]
 refine h.go ?_
 try simp only [OpK_eq,HKv,subC3,go_sem]
 exact Kv.Fin.still ⟨rfl,rfl⟩
theorem p16_in {fs:List (List Nat)} {n q:Nat} {la:List Nat} (h:GoodA fs n q la):Pure Tryz.prog 16 [gav fs q la] (apV (fwp fs fs la [] q q)):=by
 have hfl:=h.fl
 have hpd:=pq_dia h.ok h.qn
 have hbq:∀ i,(bq fs ldp (fun (_:Unit) _=>()) ([([(q:Int)],[])],()) i).1=bl fs ldp [(q:Int)] i:=bq_bl fs _
 have hbone:=fun i=>bl_one h.ok h.qn (i:=i)
 have hdf:∀ x:Met,(∃ y:Nat,x.1 = [(y:Int)])→dfr la [] (dia x).1=decide ((x.1.getD 0 0).toNat∈la):=fun x ⟨y,e⟩=>by
  unfold dia
  rw [e]
  simp [dfr]
 have hall:∀ i,∀ x∈bl fs ldp [(q:Int)] i,∃ y:Nat,x.1 = [(y:Int)]:=fun i x hx=>by
  have hm:dia x∈pq fs fs q q i:=by rw [hpd]; exact List.mem_map.2 ⟨x,hx,rfl⟩
  obtain ⟨w,_,_,e⟩:=(pq_all i).1 _ hm
  have e:x.1 ++ x.1 = [((rnw fs w q:Nat):Int),((rnw fs w q:Nat):Int)]:=e
  rcases hx1:x.1 with _ | ⟨a,_ | ⟨b,r⟩⟩
  ·rw [hx1] at e; simp at e
  ·rw [hx1] at e; simp at e; exact ⟨_,by rw [e]⟩
  ·rw [hx1] at e
   have:=congrArg List.length e
   simp at this
 have hFW:=p54 fs n h.ok (by omega) 55 ldp (one n) (fun p hp=>by obtain ⟨x,_,rfl⟩:=hp; simp) (fun f hf' p hp=>ldp_one (h.ok f hf') hp) (fun f hf' p hp=>p55 f n (h.ok f hf') p hp)
  56 [.fptr [.list (aggs (fs.map mp)),.int .i64 q,.list (ints (nz la))] 0] (fun p=>decide ((p.getD 0 0).toNat∈la)) (fun p hp=>p56 _ _ la h.ll n p hp) [(q:Int)] ⟨q,h.qn,rfl⟩ 5 (by omega) (fun i=>by rw [hbq]; exact Nat.le_trans (bl_len h.ok h.qn i) h.n5)
  (fun v s=>∃ x r,v = .tup [x,.int .i64 r]∧((∃ w,fwp fs fs la [] q q=some w∧r=0∧OwnI 2 s 0 s.length x w)∨(fwp fs fs la [] q q=none∧r=4∧x = .nils)))
  (fun i hi hit hno x s hx hs=>?_) (fun i hi hno=>?_)
 rotate_left
 ·have hib:i<(bl fs ldp [(q:Int)] i).length:=by rw [hbq] at hi; exact hi
  have hgi:∀ i,i<(bl fs ldp [(q:Int)] i).length→(pq fs fs q q i).getD i ([],[])=dia ((bl fs ldp [(q:Int)] i).getD i ([],[])):=fun i hi=>by
   rw [hpd,List.getD_eq_getElem?_getD,List.getElem?_map,List.getD_eq_getElem?_getD,List.getElem?_eq_getElem hi]; rfl
  have hgm:∀ i,i<(bl fs ldp [(q:Int)] i).length→(bl fs ldp [(q:Int)] i).getD i ([],[])∈bl fs ldp [(q:Int)] i:=fun i hi=>by
   rw [List.getD_eq_getElem?_getD,List.getElem?_eq_getElem hi]; exact List.getElem_mem hi
  have hFH:FH fs fs la [] q q i:=by
   refine ⟨by rw [hpd,List.length_map]; exact hib,?_,fun j hj hjl=>?_⟩
   ·rw [hgi i hib,hdf _ (hall i _ (hgm i hib)),← hbq,mgetD hi]; exact hit
   ·rw [hpd,List.length_map] at hjl
    rw [hgi j hjl,hdf _ (hall j _ (hgm j hjl))]
    rw [← hbq] at hjl ⊢
    rw [mgetD hjl]; exact hno j hjl hj
  refine ⟨x,0,rfl,.inl ⟨_,fwp_some hFH,rfl,?_⟩⟩
  rw [hgi i hib]
  show OwnI _ _ _ _ _ ((bl fs ldp [(q:Int)] i).getD i ([],[])).2
  rw [← hbq,mgetD hi]; exact hx
 ·refine ⟨.nils,4,rfl,.inr ⟨fwp_none (i:=i) ?_ fun j hj hjl=>?_,rfl,rfl⟩⟩
  ·rw [hpd,List.length_map,← hbq]; exact hi
  ·rw [hpd,List.length_map] at hjl
   have hgj:(pq fs fs q q j).getD j ([],[])=dia ((bl fs ldp [(q:Int)] j).getD j ([],[])):=by
    rw [hpd,List.getD_eq_getElem?_getD,List.getElem?_map,List.getD_eq_getElem?_getD,List.getElem?_eq_getElem hjl]; rfl
   have hgm:(bl fs ldp [(q:Int)] j).getD j ([],[])∈bl fs ldp [(q:Int)] j:=by
    rw [List.getD_eq_getElem?_getD,List.getElem?_eq_getElem hjl]; exact List.getElem_mem hjl
   rw [hgj,hdf _ (hall j _ hgm)]
   rw [← hbq] at hjl ⊢
   rw [mgetD hjl]; exact hno j hjl hj
 have hP:Pure Tryz.prog 54 [.list (aggs (fs.map mp)),.list (ints [(q:Int)]),.fn (.func 55) [] [],.fn (.func 56) [] [.fptr [.list (aggs (fs.map mp)),.int .i64 q,.list (ints (nz la))] 0]] (apV (fwp fs fs la [] q q)) :=
  ACall.ret hFW fun v s ⟨x,r,hv,h⟩=>by
   subst hv
   rcases h with ⟨w,e,rfl,ho⟩ | ⟨e,rfl,rfl⟩
   ·rw [e]; exact Kv.Fin.freeze (Imm.tupL (.cons ho.imm (.cons (.int _ _ _) (.nil _)))) ⟨rfl,rfl⟩
   ·rw [e]; exact Kv.Fin.still ⟨rfl,rfl⟩
 have hi:=h.i
 have ei:[PV.int .i64 (q:Int)]=ints [(q:Int)]:=rfl
 generalize fwp fs fs la [] q q=o at *
 refine e16 (by simp) fun _ _=>?_
 simp only [k16,argEnv,go_sem]
 try simp only [OpK_eq,HKv,subC3,go_sem]
 refine hi.go ?_
 try simp only [OpK_eq,HKv,subC3,ei,go_sem]
 cases o with
 | none =>
  simp only [apV] at hP ⊢
  refine hP.give (id:=0) rfl (.cons Imm.still (.cons (Imm.refn (l:=[(q:Int)]) (solo_get (o:=.arr 0 2 1 (ints [(q:Int)])) rfl) rfl) (.cons Imm.still (.cons Imm.still (.nil _))))) ?_
  try simp only [OpK_eq,HKv,go_sem]
  exact Kv.Fin.still ⟨rfl,rfl⟩
 | some w =>
  simp only [apV] at hP ⊢
  refine hP.give (id:=0) rfl (.cons Imm.still (.cons (Imm.refn (l:=[(q:Int)]) (solo_get (o:=.arr 0 2 1 (ints [(q:Int)])) rfl) rfl) (.cons Imm.still (.cons Imm.still (.nil _))))) ?_
  try simp only [OpK_eq,HKv,go_sem]
  exact Kv.Fin.still ⟨rfl,rfl⟩
theorem p17_in {fs:List (List Nat)} {n q:Nat} {la:List Nat} (h:GoodA fs n q la):Pure Tryz.prog 17 [gav fs q la] (apV (fwp fs fs la [] q q)):=by
 have hfl:=h.fl
 have hn5:=h.n5
 have hlast:∀ v:Nat,v<5→Pure Tryz.prog 116 [.agg [.list (aggs (fs.map mp)),.int .i64 q,.nils],.int .i64 v] (.bool (decide (v∈([]:List Nat)))):=fun v hv=>by
  have hb:sb ([]:List Nat)<2 ^ 62:=by simp [sb]
  have hB:=p112 ([]:List Nat) (by simp) (by simp)
  refine e116 (by simp) fun _ _=>?_
  simp only [k116,argEnv,go_sem]
  try simp only [OpK_eq,HKv,subC3,go_sem]
  refine hB.lend (.cons Imm.nils (.nil _)) ?_
  try simp only [OpK_eq,HKv,aConv_u64 (show v≤61 by omega),aBin_shr (show v≤63 by omega),aBin_and1 (shr_le hb),go_sem]
  refine Kv.Fin.still ⟨?_,rfl⟩
  congr 1
  refine decide_eq_decide.2 ?_
  rw [bit_one,sb_test,decide_eq_true_iff]
 have hap:=p45W fs fs n n h.ok h.ok h.h0 rfl (by omega) h.n5 h.n5 la [] h.l5 h.ll q q .nils rfl hlast q q h.qn h.qn
 have hi:=h.s
 have hput3:∀ a b c d e f,putC [a,b,c] 0 [d,e,f] = [d,e,f]:=fun a b c d e f=>putC3 a b c d e f
 generalize fwp fs fs la [] q q=o at *
 refine e17 (by simp) fun _ _=>?_
 simp only [k17,argEnv,go_sem]
 try simp only [OpK_eq,HKv,subC3,go_sem]
 refine hi.go ?_
 try simp only [OpK_eq,HKv,subC3,hput3,go_sem]
 cases o with
 | none =>
  simp only [apV,apW] at hap ⊢
  refine hap.go ?_
  try simp only [OpK_eq,HKv,go_sem]
  exact Kv.Fin.still ⟨rfl,rfl⟩
 | some w =>
  simp only [apV,apW] at hap ⊢
  refine hap.go ?_
  try simp only [OpK_eq,HKv,go_sem]
  exact Kv.Fin.still ⟨rfl,rfl⟩
end
end
section
section
set_option maxRecDepth 100000
def k79_b0:KC:=(.seq (.seq (.ops [mV 39 10,oP 40 (.fieldA 2 (.t 2)),oP 41 (.load false 1 (.t 40)),oP 42 (.len false (.t 41)),oP 43 (.bin .lss (.t 39) (.t 42))])
 (.cond (.t 43) .skip (.exit 3)))
 (.seq (.block 4 (.ops [mV 46 9,mV 47 6,oP 48 (.fieldA 2 (.t 2)),oP 49 (.load false 1 (.t 48)),mV 50 10,oP 51 (.idxS 1 (.t 49) (.t 50)),oP 52 (.load false 1 (.t 51)),oP 53 (.idxS 1 (.t 47) (.t 52)),oP 54 (.load false 1 (.t 53)),oP 55 (.bin .add (.t 46) (.t 54)),mV 9 55]))
 (.ops [mV 44 10,oP 45 (.bin .add (.t 44) (iC 1)),mV 10 45])))
def k79_b1:KC:=(.seq (.seq (.ops [mV 69 13,oP 70 (.fieldA 0 (.t 2)),oP 71 (.load false 1 (.t 70)),oP 72 (.len false (.t 71)),oP 73 (.bin .lss (.t 69) (.t 72))])
 (.cond (.t 73) .skip (.exit 7)))
 (.seq (.block 8 (.seq (.ops [oP 76 (.fieldA 0 (.t 2)),oP 77 (.load false 1 (.t 76)),mV 78 13,mV 79 12,oP 80 (.idxS 6 (.t 77) (.t 78)),oP 81 (.fieldA 1 (.t 80)),oP 82 (.idxA 5 1 (.t 81) (.t 79)),oP 83 (.load false 1 (.t 82)),mV 14 83])
 (.draw [mV 84 11,mV 85 14,mV 86 11,mV 87 14,oP 88 (.idxS 1 (.t 86) (.t 87)),oP 89 (.load false 1 (.t 88)),mV 90 6,mV 91 12,oP 92 (.idxS 1 (.t 90) (.t 91)),oP 93 (.load false 1 (.t 92)),oP 94 (.bin .add (.t 89) (.t 93)),oP 95 (.idxS 1 (.t 84) (.t 85)),⟨none,none,.store 1 (.t 95) (.t 94)⟩])))
 (.ops [mV 74 13,oP 75 (.bin .add (.t 74) (iC 1)),mV 13 75])))
def k79_b2:KC:=(.seq (.seq (.ops [mV 63 12,mV 64 6,oP 65 (.len false (.t 64)),oP 66 (.bin .lss (.t 63) (.t 65))])
 (.cond (.t 66) .skip (.exit 5)))
 (.seq (.block 6 (.seq (.ops [oP 13 (.mv (iC 0))])
 (.block 7 (.loop k79_b1))))
 (.ops [mV 67 12,oP 68 (.bin .add (.t 67) (iC 1)),mV 12 68])))
def k79_b3:KC:=(.seq (.seq (.ops [mV 34 8,mV 35 1,oP 36 (.bin .leq (.t 34) (.t 35))])
 (.cond (.t 36) .skip (.exit 1)))
 (.seq (.block 2 (.seq (.ops [oP 9 (.mv (iC 0))])
 (.seq (.seq (.ops [oP 10 (.mv (iC 0))])
 (.block 3 (.loop k79_b0)))
 (.seq (.ops [mV 56 7,mV 57 9,oP 58 (.bsl true 2 1 [(.t 57)]),oP 59 (.app (.t 56) (.t 58) 2 1),mV 7 59])
 (.seq (.ops [mV 60 6,oP 61 (.len false (.t 60)),oP 62 (.mks 2 1 (.int .i64 0) (.t 61) (.t 61)),mV 11 62])
 (.seq (.seq (.ops [oP 12 (.mv (iC 0))])
 (.block 5 (.loop k79_b2)))
 (.ops [mV 96 11,mV 6 96])))))))
 (.ops [mV 37 8,oP 38 (.bin .add (.t 37) (iC 1)),mV 8 38])))
def k79:KC:=(.seq (.ops [oP 2 (.box true (.t 0)),oP 4 (.mv (.c (.nils))),oP 5 (.mv (iC 0))])
 (.seq (.block 0 (.seq (.ops [oP 16 (.load true 3 (.t 2)),oP 17 (.call (fC 57) [(.t 16)]),oP 18 (.not (.t 17)),mV 15 18])
 (.cond (.t 15) (.seq (.ops [oP 4 (.mv (.c (.nils))),oP 5 (.mv (iC 1))])
 .ret) (.seq (.ops [mV 20 1,oP 21 (.call (fC 71) [(.t 20),(iC 0),(iC 20)]),oP 22 (.not (.t 21)),mV 19 22])
 (.cond (.t 19) (.seq (.ops [oP 4 (.mv (.c (.nils))),oP 5 (.mv (iC 2))])
 .ret) .skip)))))
 (.seq (.ops [oP 23 (.fieldA 0 (.t 2)),oP 24 (.load false 1 (.t 23)),oP 25 (.idxS 6 (.t 24) (iC 0)),oP 26 (.fieldA 0 (.t 25)),oP 27 (.load false 1 (.t 26)),oP 28 (.mks 2 1 (.int .i64 0) (.t 27) (.t 27)),oP 29 (.bsl false 2 1 []),mV 6 28,mV 7 29])
 (.seq (.ops [mV 30 6,oP 31 (.fieldA 1 (.t 2)),oP 32 (.load false 1 (.t 31)),oP 33 (.idxS 1 (.t 30) (.t 32)),⟨none,none,.store 1 (.t 33) (iC 1)⟩])
 (.seq (.seq (.ops [oP 8 (.mv (iC 0))])
 (.block 1 (.loop k79_b3)))
 (.seq (.ops [mV 97 7,mV 4 97,oP 5 (.mv (iC 0))])
 .ret))))))
theorem e79:Ent 79 98 [2,58] [.t 4,.t 5] k79:=ent Tryz.func79
end
section
attribute [local irreducible] ACall PCall KL
def cnaS (fs:List (List Nat)) (la:List Nat) (q n k:Nat):List Nat:=(List.range k).map fun j=>csF (veF fs q n j) la la.length
theorem cnaS_succ (fs:List (List Nat)) (la:List Nat) (q n k:Nat):cnaS fs la q n (k+1)=cnaS fs la q n k ++ [csF (veF fs q n k) la la.length]:=by
 unfold cnaS
 rw [List.range_succ,List.map_append]; rfl
theorem cnaS_len (fs:List (List Nat)) (la:List Nat) (q n k:Nat):(cnaS fs la q n k).length=k:=by simp [cnaS]
theorem ve_bound {fs:List (List Nat)} {n m q:Nat} (hf:∀ f∈fs,Ok f n) (hfl:fs.length≤6) (hm:n≤m) (hq:q<n) {k:Nat} (hk:k≤13):(veF fs q m k).sum≤13060694016:=by
 rw [veF_sum hf hm hq]
 refine Nat.le_trans (Nat.pow_le_pow_left hfl k) ?_
 exact Nat.le_trans (Nat.pow_le_pow_right (by omega) hk) (by decide)
theorem nz_getD' (l:List Nat) (i:Nat):(nz l).getD i 0=(l.getD i 0:Int):=by
 unfold nz
 simp only [List.getD_eq_getElem?_getD,List.getElem?_map]
 cases l[i]? <;> rfl
theorem nz_set (l:List Nat) (i y:Nat):(nz l).set i (y:Int)=nz (l.set i y):=by simp [nz,List.map_set]
set_option maxHeartbeats 2000000 in
theorem p79_in {fs:List (List Nat)} {n q:Nat} {la:List Nat} (h:GoodA fs n q la) (N:Nat) (hN:N≤12):Pure Tryz.prog 79 [gav fs q la,.int .i64 N] (.tup [.list (ints (nz (cnaS fs la q n (N+1)))),.int .i64 0]):=by
 have hi:=h.s
 have hf:=h.ok
 have hn5:=h.n5
 have hq:=h.qn
 have hn1:1≤n:=(h.ok _ (List.getElem_mem h.h0)).pos
 have hfl:=h.fl
 have h0:=h.h0
 have hlt:=h.lt
 have hll:=h.ll
 obtain ⟨e1,e2,e3⟩:=mpD0 h.ok h.h0
 have hIn:=p71 (N:Int) 0 20
 rw [decide_eq_true (by omega:(0:Int)≤N∧(N:Int)≤20)] at hIn
 have hvl:=fun k=>veF_len fs q n k
 have hvb:=fun k (hk:k≤13)=>ve_bound hf hfl (Nat.le_refl n) hq hk
 have hqt:(q:Int).toNat=q:=by omega
 refine e79 (by simp) fun _ _=>?_
 simp only [k79,argEnv,go_sem]
 try simp only [OpK_eq,HKv,subC3,go_sem]
 refine hi.go ?_
 try simp only [OpK_eq,HKv,subC3,go_sem]
 refine hIn.go ?_
 try simp only [OpK_eq,HKv,subC3,e1,e2,e3,List.length_map,hqt,go_sem]
 refine ⟨by omega,fun _=>⟨⟨by omega,by omega⟩,⟨by omega,by simp⟩,by simp; omega,fun _=>?_⟩⟩
 have hcl:=fun k=>cnaS_len fs la q n k
 have hv0:(List.replicate n (0:Int)).set q 1=nz (veF fs q n 0):=by
  simp [veF,nz,List.map_set,List.map_replicate]
 rw [hv0]
 refine KL_ind k79_b3.eq_1 (fun x:Nat × Nat × Nat × Heap=>[(1,.int .i64 N),(2,.fptr [.list (aggs (fs.map mp)),.int .i64 q,.list (ints (nz la))] 0),(6,.ref x.2.1 0 0 n),(7,.ref 1 x.2.2.1 0 x.1),(8,.int .i64 x.1)]) (fun x=>x.2.2.2)
  (fun x=>x.1≤N+1∧x.2.2.2[x.2.1]? = some (.arr 0 2 1 (ints (nz (veF fs q n x.1))))∧x.2.2.2[1]? = some (.arr x.2.2.1 2 1 (ints (nz (cnaS fs la q n x.1))))∧x.2.1≠1) (fun x=>N+1 - x.1) [1,2,6,7,8]
  (0,0,0,_) (by rfl) rfl ⟨Nat.zero_le _,rfl,rfl,fun h=>by cases h⟩ fun ⟨k,c,ver,τ⟩ ⟨hk,hc,ho,hc1⟩ ih=>?_
 simp only at hk hc ho hc1
 have hvlk:=hvl k
 have hclk:=hcl k
 try simp only [OpK_eq,HKv,go_sem]
 refine ⟨fun h1=>?_,fun h1=>?_⟩
 ·have hkN:k≤N:=by omega
  have hvbk:=hvb k (by omega)
  have hvs:veF fs q n (k+1)=avF fs (veF fs q n k) n n:=rfl
  have hcs:=cnaS_succ fs la q n k
  generalize veF fs q n k=v at *
  refine KL_ind k79_b0.eq_1 (fun x:Nat=>[(1,.int .i64 N),(2,.fptr [.list (aggs (fs.map mp)),.int .i64 q,.list (ints (nz la))] 0),(6,.ref c 0 0 n),(7,.ref 1 ver 0 k),(8,.int .i64 k),(9,.int .i64 (csF v la x:Nat)),(10,.int .i64 x)]) (fun _=>τ)
   (fun x=>x≤la.length) (fun x=>la.length - x) [1,2,6,7,8,9,10] 0 (by rfl) rfl (Nat.zero_le _) fun j hj ihj=>?_
  try simp only [OpK_eq,HKv,nz_len,go_sem]
  refine ⟨fun h2=>?_,fun h2=>?_⟩
  ·have hjl:j<la.length:=by omega
   have hgj:(nz la).getD j 0=(la[j]:Int):=by
    rw [nz_getD',List.getD_eq_getElem?_getD,List.getElem?_eq_getElem hjl]; rfl
   have hlj:=hlt _ (List.getElem_mem hjl)
   have hcj:=csF_succ (v:=v) hjl
   have hcb:=csF_le v la (j+1)
   have hcb2:(j+1) * v.sum≤1048576 * 13060694016:=Nat.mul_le_mul (by omega) hvbk
   have hxt:((la[j]:Nat):Int).toNat=la[j]:=by omega
   have hgx:(nz v).getD la[j] 0=(v.getD la[j] 0:Int):=nz_getD' _ _
   generalize la[j]=x at *
   try simp only [OpK_eq,HKv,hgj,hc,hxt,nz_len,go_sem]
   refine ⟨by omega,fun _=>⟨⟨by omega,by omega⟩,by omega,fun _=>?_⟩⟩
   try simp only [OpK_eq,HKv,hgx,go_sem]
   refine ⟨by omega,?_⟩
   refine ⟨by omega,ihj (j+1) (by show j+1≤la.length; omega) (by show la.length - (j+1)<la.length - j; omega) _ _ ?_ rfl⟩
   simp [keep,hcj]
  ·obtain rfl:j=la.length:=by omega
   have hok:okL 1 [PV.int .i64 (csF v la la.length:Nat)]=True:=by simp [okL,PV.cs,PV.ok]
   try simp only [OpK_eq,HKv,ho,go_sem]
   have e:List.take k (nz (cnaS fs la q n k)) ++ [((csF v la la.length:Nat):Int)]=nz (cnaS fs la q n (k+1)):=by
    rw [List.take_of_length_le (by rw [nz_len]; omega),hcs]
    simp [nz]
   rw [e]
   refine ⟨⟨by rw [nz_len]; omega,by omega⟩,?_⟩
   have hlt1:=(List.getElem?_eq_some_iff.1 ho).1
   have ho2:(τ.set 1 (AObj.arr (ver+1) 2 1 (ints (nz (cnaS fs la q n (k+1))))))[1]? = some (.arr (ver+1) 2 1 (ints (nz (cnaS fs la q n (k+1))))):=List.getElem?_set_self hlt1
   have hc2:(τ.set 1 (AObj.arr (ver+1) 2 1 (ints (nz (cnaS fs la q n (k+1))))))[c]? = some (.arr 0 2 1 (ints (nz v))):=(List.getElem?_set_ne (Ne.symm hc1)).trans hc
   generalize τ.set 1 (AObj.arr (ver+1) 2 1 (ints (nz (cnaS fs la q n (k+1))))) = π at *
   clear hc ho hlt1
   have hlt1:=(List.getElem?_eq_some_iff.1 ho2).1
   have hltc:=(List.getElem?_eq_some_iff.1 hc2).1
   try simp only [OpK_eq,HKv,hc2,go_sem]
   refine ⟨⟨by omega,by omega⟩,?_⟩
   have hr0:(List.replicate n (0:Int))=nz (avF fs v n 0):=by simp [avF,nz,List.map_replicate]
   rw [hr0]
   have hcX:∀ Z:AObj,(π ++ [Z])[c]? = some (.arr 0 2 1 (ints (nz v))):=fun Z=>(List.getElem?_append_left hltc).trans hc2
   have hoX:∀ Z:AObj,(π ++ [Z])[1]? = some (.arr (ver+1) 2 1 (ints (nz (cnaS fs la q n (k+1))))):=fun Z=>(List.getElem?_append_left hlt1).trans ho2
   have hdX:∀ Z:AObj,(π ++ [Z])[π.length]? = some Z:=fun Z=>by simp
   have hsX:∀ Z Z':AObj,(π ++ [Z]).set π.length Z' = π ++ [Z']:=fun Z Z'=>by
    rw [List.set_append_right _ _ (Nat.le_refl _)]; simp
   have hd1:π.length≠1:=by omega
   generalize hd:π.length=d at *
   refine KL_ind k79_b2.eq_1 (fun x:Nat=>[(1,.int .i64 N),(2,.fptr [.list (aggs (fs.map mp)),.int .i64 q,.list (ints (nz la))] 0),(6,.ref c 0 0 n),(7,.ref 1 (ver+1) 0 (k+1)),(8,.int .i64 k),(11,.ref d 0 0 n),(12,.int .i64 x)]) (fun x=>π ++ [.arr 0 2 1 (ints (nz (avF fs v n x)))])
    (fun x=>x≤n) (fun x=>n - x) [1,2,6,7,8,11,12] 0 (by rfl) rfl (Nat.zero_le _) fun p hp ihp=>?_
   have hal:=avF_len fs v n p
   try simp only [OpK_eq,HKv,hcX,go_sem]
   refine ⟨fun h3=>?_,fun h3=>?_⟩
   ·have hpn:p<n:=by omega
    have has:=avF_succ fs v n p
    have hsum:=avF_sum hf (Nat.le_refl n) v hvlk p (by omega)
    have hsum1:=avF_sum hf (Nat.le_refl n) v hvlk (p+1) (by omega)
    rw [has] at hsum1
    have hts:(v.take (p+1)).sum≤v.sum:=by
     have:=List.sum_append_nat (l₁:=v.take (p+1)) (l₂:=v.drop (p+1))
     rw [List.take_append_drop] at this
     omega
    generalize hnx:avF fs v n p=nx at *
    have hlf:∀ f∈fs,f.getD p 0<nx.length:=fun f hff=>by rw [hal]; exact (hf f hff).get' p
    try simp only [OpK_eq,HKv,go_sem]
    refine KL_ind k79_b1.eq_1 (fun x:Nat=>[(1,.int .i64 N),(2,.fptr [.list (aggs (fs.map mp)),.int .i64 q,.list (ints (nz la))] 0),(6,.ref c 0 0 n),(7,.ref 1 (ver+1) 0 (k+1)),(8,.int .i64 k),(11,.ref d 0 0 n),(12,.int .i64 p),(13,.int .i64 x)]) (fun x=>π ++ [.arr 0 2 1 (ints (nz (adF fs p (v.getD p 0) nx x)))])
     (fun x=>x≤fs.length) (fun x=>fs.length - x) [1,2,6,7,8,11,12,13] 0 (by rfl) rfl (Nat.zero_le _) fun i hi' ihi=>?_
    have hadl:=adF_len fs p (v.getD p 0) nx i
    try simp only [OpK_eq,HKv,List.length_map,go_sem]
    refine ⟨fun h4=>?_,fun h4=>?_⟩
    ·have hil:i<fs.length:=by omega
     have hfi:=hf _ (List.getElem_mem hil)
     have h6:=hfi.mp_len
     have hgi:(fs.map mp).getD i []=mp fs[i]:=by simp [List.getD_eq_getElem?_getD,hil]
     have hgf:fs.getD i []=fs[i]:=by simp [List.getD_eq_getElem?_getD,hil]
     have hads:=adF_succ fs p (v.getD p 0) nx i
     rw [hgf] at hads
     have hx:=hfi.get' p
     have hpt:(p:Int).toNat=p:=by omega
     have hsu:=adF_sum (x:=v.getD p 0) hlf (i+1) (by omega)
     have hgs:=getD_le_sum (adF fs p (v.getD p 0) nx (i+1)) (fs[i].getD p 0)
     have hgX:∀ y,(nz (adF fs p (v.getD p 0) nx i)).getD y 0=((adF fs p (v.getD p 0) nx i).getD y 0:Int):=fun y=>nz_getD' _ _
     have hgV:∀ y,(nz v).getD y 0=(v.getD y 0:Int):=fun y=>nz_getD' _ _
     try simp only [OpK_eq,HKv,hgi,h6,hpt,mp_get,List.length_map,go_sem]
     refine ⟨by omega,fun _=>⟨by omega,by omega,fun _=>?_⟩⟩
     generalize fs[i].getD p 0=y at *
     have hyt:((y:Nat):Int).toNat=y:=by omega
     try simp only [OpK_eq,HKv,hdX,hcX,hyt,nz_len,go_sem]
     rw [hgX,hgV]
     have hb1:(adF fs p (v.getD p 0) nx i).getD y 0≤12 * 13060694016:=by
      have g1:=getD_le_sum (adF fs p (v.getD p 0) nx i) y
      rw [adF_sum (x:=v.getD p 0) hlf i (by omega),hsum] at g1
      have g2:(v.take p).sum≤v.sum:=by
       have:=List.sum_append_nat (l₁:=v.take p) (l₂:=v.drop p)
       rw [List.take_append_drop] at this
       omega
      have g3:fs.length * (v.take p).sum≤6 * 13060694016:=Nat.mul_le_mul hfl (by omega)
      have g4:=getD_le_sum v p
      have g5:i * v.getD p 0≤6 * 13060694016:=Nat.mul_le_mul (by omega) (by omega)
      omega
     have hb2:=getD_le_sum v p
     refine ⟨⟨by omega,by omega⟩,by omega,fun _=>⟨⟨by omega,by omega⟩,by omega,fun _=>⟨by omega,⟨by omega,by omega⟩,by omega,fun _=>?_⟩⟩⟩
     refine ⟨by omega,ihi (i+1) (by show i+1≤fs.length; omega) (by show fs.length - (i+1)<fs.length - i; omega) _ _ (by simp [keep]) ?_⟩
     show _ = π ++ [AObj.arr 0 2 1 (ints (nz (adF fs p (v.getD p 0) nx (i+1))))]
     rw [hsX,hads,← nz_set]
     simp
    ·obtain rfl:i=fs.length:=by omega
     try simp only [OpK_eq,HKv,go_sem]
     rw [← has]
     exact ⟨by omega,ihp (p+1) (by show p+1≤n; omega) (by show n - (p+1)<n - p; omega) _ _ (by simp [keep]) rfl⟩
   ·obtain rfl:p=n:=by omega
    try simp only [OpK_eq,HKv,go_sem]
    refine ⟨by omega,ih (k+1,d,ver+1,_) ⟨by show k+1≤N+1; omega,?_,hoX _,hd1⟩ (by show N+1 - (k+1)<N+1 - k; omega) _ _ (by simp [keep]) rfl⟩
    show (π ++ [AObj.arr 0 2 1 (ints (nz (avF fs v p p)))])[d]? = _
    rw [hdX,hvs]
 ·obtain rfl:k=N+1:=by omega
  have:=Imm.refi ho
  rw [nz_len,hclk] at this
  exact Kv.Fin.freeze (Imm.tupL (.cons this (.cons (.int _ _ _) (.nil _)))) ⟨rfl,rfl⟩
end
end
section
section
set_option maxRecDepth 100000
def k29_b0:KC:=(.seq (.ops [oP 41 (.bin .lss (.t 40) (.t 39))])
 (.seq (.cond (.t 41) .skip (.exit 4))
 (.seq (.block 5 (.seq (.ops [oP 42 (.idxS 6 (.t 38) (.t 40)),oP 43 (.load true 6 (.t 42)),oP 13 (.alloc [.int .i64 0,.int .i64 0,.int .i64 0,.int .i64 0,.int .i64 0,.int .i64 0]),⟨none,none,.store 6 (.t 13) (.t 43)⟩])
 (.ops [mV 44 10,oP 45 (.fieldA 1 (.t 13)),oP 46 (.idxA 5 1 (.t 45) (.t 44)),oP 47 (.load false 1 (.t 46)),oP 48 (.idxA 5 1 (.t 9) (.t 47)),oP 49 (.load false 1 (.t 48)),mV 50 11,oP 51 (.bin .add (.t 49) (.t 50)),oP 52 (.idxA 5 1 (.t 9) (.t 47)),⟨none,none,.store 1 (.t 52) (.t 51)⟩])))
 (.ops [oP 53 (.bin .add (.t 40) (iC 1)),mV 40 53]))))
def k29_b1:KC:=(.seq (.ops [oP 29 (.bin .lss (.t 28) (iC 5))])
 (.seq (.cond (.t 29) .skip (.exit 2))
 (.seq (.block 3 (.seq (.ops [mV 30 28,oP 31 (.idxV 5 1 false (.t 27) (.t 28)),mV 10 30,mV 11 31])
 (.seq (.seq (.ops [mV 32 10,oP 33 (.call (fC 50) [(.t 2),(.t 32)])])
 (.cond (.t 33) (.ops [mV 34 8,mV 35 11,oP 36 (.bin .add (.t 34) (.t 35)),mV 8 36]) .skip))
 (.seq (.ops [oP 37 (.fieldA 0 (.t 2)),oP 38 (.load false 1 (.t 37)),oP 39 (.len false (.t 38)),oP 40 (.mv (iC 0))])
 (.block 4 (.loop k29_b0))))))
 (.ops [oP 54 (.bin .add (.t 28) (iC 1)),mV 28 54]))))
def k29_b2:KC:=(.seq (.ops [oP 26 (.bin .lss (.t 25) (.t 24))])
 (.seq (.cond (.t 26) .skip (.exit 0))
 (.seq (.block 1 (.seq (.ops [oP 8 (.mv (iC 0))])
 (.seq (.ops [oP 9 (.alloc [.int .i64 0,.int .i64 0,.int .i64 0,.int .i64 0,.int .i64 0])])
 (.seq (.seq (.ops [oP 27 (.load true 5 (.t 6)),oP 28 (.mv (iC 0))])
 (.block 2 (.loop k29_b1)))
 (.seq (.ops [mV 55 7,mV 56 8,oP 57 (.bsl true 2 1 [(.t 56)]),oP 58 (.app (.t 55) (.t 57) 2 1),mV 7 58])
 (.ops [oP 59 (.load true 5 (.t 9)),⟨none,none,.store 5 (.t 6) (.t 59)⟩]))))))
 (.ops [oP 60 (.bin .add (.t 25) (iC 1)),mV 25 60]))))
def k29:KC:=(.seq (.ops [oP 2 (.box true (.t 0)),oP 4 (.mv (.c (.nils))),oP 5 (.mv (iC 0))])
 (.seq (.seq (.ops [oP 14 (.load true 3 (.t 2)),oP 15 (.call (fC 46) [(.t 14)]),oP 16 (.not (.t 15))])
 (.cond (.t 16) (.seq (.ops [oP 4 (.mv (.c (.nils))),oP 5 (.mv (iC 1))])
 .ret) .skip))
 (.seq (.seq (.ops [mV 17 1,oP 18 (.call (fC 80) [(.t 17),(iC 0),(iC 20)]),oP 19 (.not (.t 18))])
 (.cond (.t 19) (.seq (.ops [oP 4 (.mv (.c (.nils))),oP 5 (.mv (iC 2))])
 .ret) .skip))
 (.seq (.ops [oP 6 (.alloc [.int .i64 0,.int .i64 0,.int .i64 0,.int .i64 0,.int .i64 0])])
 (.seq (.ops [oP 20 (.fieldA 1 (.t 2)),oP 21 (.load false 1 (.t 20)),oP 22 (.idxA 5 1 (.t 6) (.t 21)),⟨none,none,.store 1 (.t 22) (iC 1)⟩])
 (.seq (.ops [oP 7 (.mv (.c (.nils)))])
 (.seq (.seq (.ops [mV 23 1,oP 24 (.bin .add (.t 23) (iC 1)),oP 25 (.mv (iC 0))])
 (.block 0 (.loop k29_b2)))
 (.seq (.ops [mV 61 7,mV 4 61,oP 5 (.mv (iC 0))])
 .ret))))))))
theorem e29:Ent 29 62 [2,57] [.t 4,.t 5] k29:=ent Tryz.func29
end
section
attribute [local irreducible] ACall PCall KL
theorem Wd.push {σ:Heap} {A:Nat→Prop} {w:PV} {l:List Int} (h:Wd σ A w l) (x:Int) (hl:l.length≤1000) (hA:∀ id,A id→id < σ.length) {K:PV→Heap→Prop} (hK:∀ w' σ',Wd σ' A w' (l ++ [x])→(∀ id,A id→σ'[id]? = σ[id]?)→K w' σ'):aApp 2 1 w (.list [.int .i64 x]) σ K:=by
 have hok:okL 1 [PV.int .i64 x]=True:=by simp [okL,PV.cs,PV.ok]
 rcases h with ⟨rfl,rfl⟩ | ⟨id,ver,rfl,ho,ha⟩
 ·simp only [go_sem,aNews_list,hok,true_and]
  refine hK _ _ (.inr ⟨σ.length,0,rfl,by simp [ints],fun h=>by have:=hA _ h; omega⟩) fun id hid=>List.getElem?_append_left (hA _ hid)
 ·simp only [aApp_ref,ho,AppR_arr,aNews_list,hok,true_and,AppM_def]
  rw [List.take_of_length_le (l:=ints l) (i:=l.length) (by simp [ints])]
  refine ⟨⟨by simp [ints],by simp; omega⟩,?_⟩
  refine hK _ _ (.inr ⟨id,ver+1,by simp,?_,ha⟩) fun j hj=>List.getElem?_set_ne (by rintro rfl; exact ha hj)
  rw [List.getElem?_set_self (List.getElem?_eq_some_iff.1 ho).1]
  simp [ints]
def cnaI (fs:List (List Nat)) (la:List Nat) (q k:Nat):List Nat:=(List.range k).map fun j=>ciF (veF fs q 5 j) la 5
theorem cnaI_succ (fs:List (List Nat)) (la:List Nat) (q k:Nat):cnaI fs la q (k+1)=cnaI fs la q k ++ [ciF (veF fs q 5 k) la 5]:=by
 unfold cnaI
 rw [List.range_succ,List.map_append]; rfl
theorem cnaI_len (fs:List (List Nat)) (la:List Nat) (q k:Nat):(cnaI fs la q k).length=k:=by simp [cnaI]
set_option maxHeartbeats 2000000 in
theorem p29_in {fs:List (List Nat)} {n q:Nat} {la:List Nat} (h:GoodA fs n q la) (N:Nat) (hN:N≤12):Pure Tryz.prog 29 [gav fs q la,.int .i64 N] (.tup [.list (ints (nz (cnaI fs la q (N+1)))),.int .i64 0]):=by
 have hi:=h.i
 have hf:=h.ok
 have hn5:=h.n5
 have hq:=h.qn
 have hn1:1≤n:=(h.ok _ (List.getElem_mem h.h0)).pos
 have hfl:=h.fl
 have hlt:=h.lt
 have hll:=h.ll
 have hIn:=p80 (N:Int) 0 20
 rw [decide_eq_true (by omega:(0:Int)≤N∧(N:Int)≤20)] at hIn
 have hvl:=fun k=>veF_len fs q 5 k
 have hvb:=fun k (hk:k≤13)=>ve_bound (k:=k) hf hfl hn5 hq hk
 have hqt:(q:Int).toNat=q:=by omega
 have hLs:=fun x=>p50 (.list (aggs (fs.map mp))) (.int .i64 q) la h.ll x
 refine e29 (by simp) fun _ _=>?_
 simp only [k29,argEnv,go_sem]
 try simp only [OpK_eq,HKv,subC3,go_sem]
 refine hi.go ?_
 try simp only [OpK_eq,HKv,subC3,go_sem]
 refine hIn.go ?_
 try simp only [OpK_eq,HKv,subC3,List.length_map,hqt,go_sem]
 refine ⟨by omega,by omega,by omega,?_⟩
 have hv0:[PV.int .i64 0,.int .i64 0,.int .i64 0,.int .i64 0,.int .i64 0].set q (.int .i64 1)=ints (nz (veF fs q 5 0)):=by
  simp [veF,nz,ints,List.map_set]
 rw [hv0]
 have hcl:=fun k=>cnaI_len fs la q k
 refine KL_ind k29_b2.eq_1 (fun x:Nat × PV × Heap=>[(2,.fptr [.list (aggs (fs.map mp)),.int .i64 q,.list (ints (nz la))] 0),(6,.ptr 0 0),(7,x.2.1),(24,.int .i64 (N+1)),(25,.int .i64 x.1)]) (fun x=>x.2.2)
  (fun x=>x.1≤N+1∧x.2.2[0]? = some (.box (ints (nz (veF fs q 5 x.1))))∧Wd x.2.2 (fun id=>id=0) x.2.1 (nz (cnaI fs la q x.1))) (fun x=>N+1 - x.1) [2,6,7,24,25]
  (0,.nils,_) (by rfl) rfl ⟨Nat.zero_le _,rfl,.inl ⟨rfl,rfl⟩⟩ fun ⟨k,w,τ⟩ ⟨hk,hc,hW⟩ ih=>?_
 simp only at hk hc hW
 have hvlk:=hvl k
 have hclk:=hcl k
 have hwcs:=hW.cs
 have hlt0:=(List.getElem?_eq_some_iff.1 hc).1
 have h0X:∀ Z:AObj,(τ ++ [Z])[0]? = some (.box (ints (nz (veF fs q 5 k)))):=fun Z=>(List.getElem?_append_left hlt0).trans hc
 have hn5l:(nz (veF fs q 5 k)).length=5:=by rw [nz_len,hvlk]
 have hsub5:subC (ints (nz (veF fs q 5 k))) 0 5=ints (nz (veF fs q 5 k)):=by
  rw [subC_ints]; congr 1; rw [List.drop_zero,List.take_of_length_le (by omega)]
 try simp only [OpK_eq,HKv,h0X,hn5l,hsub5,go_sem]
 refine ⟨fun h1=>?_,fun h1=>?_⟩
 ·have hkN:k≤N:=by omega
  have hvbk:=hvb k (by omega)
  have hvs:veF fs q 5 (k+1)=avF fs (veF fs q 5 k) 5 5:=rfl
  have hcs:=cnaI_succ fs la q k
  generalize veF fs q 5 k=v at *
  have hz5:[PV.int .i64 0,.int .i64 0,.int .i64 0,.int .i64 0,.int .i64 0]=ints (nz (avF fs v 5 0)):=rfl
  rw [hz5]
  have hdX:(τ ++ [AObj.box (ints (nz (avF fs v 5 0)))])[τ.length]? = some (.box (ints (nz (avF fs v 5 0)))):=by simp
  have hWX:Wd (τ ++ [AObj.box (ints (nz (avF fs v 5 0)))]) (fun id=>id=0∨id = τ.length) w (nz (cnaI fs la q k)):=hW.keep fun id hid hA=>⟨List.getElem?_append_left hid,by omega⟩
  have h0Y:=h0X (AObj.box (ints (nz (avF fs v 5 0))))
  have hd0:τ.length≠0:=by omega
  generalize τ ++ [AObj.box (ints (nz (avF fs v 5 0)))] = π at *
  generalize τ.length=d at *
  clear hc hW h0X hlt0 hsub5
  have hvb1:∀ p,v.getD p 0≤13060694016:=fun p=>Nat.le_trans (getD_le_sum v p) hvbk
  refine KL_ind k29_b1.eq_1 (fun x:Nat × Heap=>[(2,.fptr [.list (aggs (fs.map mp)),.int .i64 q,.list (ints (nz la))] 0),(6,.ptr 0 0),(7,w),(8,.int .i64 (ciF v la x.1:Nat)),(9,.ptr d 0),(24,.int .i64 (N+1)),(25,.int .i64 k),(27,.agg (ints (nz v))),(28,.int .i64 x.1)]) (fun x=>x.2)
   (fun x=>x.1≤5∧x.2[0]? = some (.box (ints (nz v)))∧x.2[d]? = some (.box (ints (nz (avF fs v 5 x.1))))∧Wd x.2 (fun id=>id=0∨id=d) w (nz (cnaI fs la q k))) (fun x=>5 - x.1) [2,6,7,8,9,24,25,27,28]
   (0,π) (by rfl) rfl ⟨Nat.zero_le _,h0Y,hdX,hWX⟩ fun ⟨p,ρ⟩ ⟨hp,g0,gd,gW⟩ ihp=>?_
  simp only at hp g0 gd gW
  clear h0Y hdX hWX
  have hal:=avF_len fs v 5 p
  have hgv:∀ y,(nz v).getD y 0=(v.getD y 0:Int):=fun y=>nz_getD' _ _
  have hcs1:=ciF_succ v la p
  have hcb:=ciF_le v la p
  have hcb2:p * v.sum≤5 * 13060694016:=Nat.mul_le_mul hp hvbk
  try simp only [OpK_eq,HKv,hgv,nz_len,go_sem]
  refine ⟨fun h3=>?_,fun h3=>?_⟩
  ·have hp5:p<5:=by omega
   have has:=avF_succ fs v 5 p
   have hsum:=avF_sum hf hn5 v hvlk p (by omega)
   generalize hnx:avF fs v 5 p=nx at *
   have hlf:∀ f∈fs,f.getD p 0<nx.length:=fun f hff=>by rw [hal]; have:=(hf f hff).get' p; omega
   have hpt:(p:Int).toNat=p:=by omega
   refine ⟨by omega,by omega,fun _=>?_⟩
   refine (hLs p).go ?_
   try simp only [OpK_eq,HKv,go_sem]
   have hvp:=hvb1 p
   refine ⟨fun hpl=>⟨by omega,?_⟩,fun hpl=>?_⟩
   all_goals
    refine KL_ind k29_b0.eq_1 (fun x:Nat × Heap=>[(2,.fptr [.list (aggs (fs.map mp)),.int .i64 q,.list (ints (nz la))] 0),(6,.ptr 0 0),(7,w),(8,.int .i64 (ciF v la (p+1):Nat)),(9,.ptr d 0),(10,.int .i64 p),(11,.int .i64 (v.getD p 0:Nat)),(24,.int .i64 (N+1)),(25,.int .i64 k),(27,.agg (ints (nz v))),(28,.int .i64 p),(38,.list (aggs (fs.map mp))),(39,.int .i64 fs.length),(40,.int .i64 x.1)]) (fun x=>x.2)
     (fun x=>x.1≤fs.length∧x.2[0]? = some (.box (ints (nz v)))∧x.2[d]? = some (.box (ints (nz (adF fs p (v.getD p 0) nx x.1))))∧Wd x.2 (fun id=>id=0∨id=d) w (nz (cnaI fs la q k))) (fun x=>fs.length - x.1) [2,6,7,8,9,10,11,24,25,27,28,38,39,40]
     (0,ρ) (by simp [keep,hcs1,hpl]) rfl ⟨Nat.zero_le _,g0,gd,gW⟩ fun ⟨i,χ⟩ ⟨hi',r0,rd,rW⟩ ihi=>?_
    simp only at hi' r0 rd rW
    have hadl:=adF_len fs p (v.getD p 0) nx i
    try simp only [OpK_eq,HKv,List.length_map,go_sem]
    refine ⟨fun h4=>?_,fun h4=>?_⟩
    ·have hil:i<fs.length:=by omega
     have hfi:=hf _ (List.getElem_mem hil)
     have h6:=hfi.mp_len
     have hgi:(fs.map mp).getD i []=mp fs[i]:=by simp [List.getD_eq_getElem?_getD,hil]
     have hgf:fs.getD i []=fs[i]:=by simp [List.getD_eq_getElem?_getD,hil]
     have hads:=adF_succ fs p (v.getD p 0) nx i
     rw [hgf] at hads
     have hx:=hfi.get' p
     have hgX:∀ y,(nz (adF fs p (v.getD p 0) nx i)).getD y 0=((adF fs p (v.getD p 0) nx i).getD y 0:Int):=fun y=>nz_getD' _ _
     have hb1:∀ y,(adF fs p (v.getD p 0) nx i).getD y 0≤12 * 13060694016:=fun y=>by
      have g1:=getD_le_sum (adF fs p (v.getD p 0) nx i) y
      rw [adF_sum (x:=v.getD p 0) hlf i (by omega),hsum] at g1
      have g2:(v.take p).sum≤v.sum:=by
       have:=List.sum_append_nat (l₁:=v.take p) (l₂:=v.drop p)
       rw [List.take_append_drop] at this
       omega
      have g3:fs.length * (v.take p).sum≤6 * 13060694016:=Nat.mul_le_mul hfl (by omega)
      have g4:=hvb1 p
      have g5:i * v.getD p 0≤6 * 13060694016:=Nat.mul_le_mul (by omega) (by omega)
      omega
     have hrl0:=(List.getElem?_eq_some_iff.1 r0).1
     have hrld:=(List.getElem?_eq_some_iff.1 rd).1
     have rdX:∀ Z:AObj,(χ ++ [Z])[d]? = some (.box (ints (nz (adF fs p (v.getD p 0) nx i)))):=fun Z=>(List.getElem?_append_left hrld).trans rd
     have rlX:∀ Z:AObj,(χ ++ [Z])[χ.length]? = some Z:=fun Z=>by simp
     have rsX:∀ Z Z':AObj,(χ ++ [Z]).set χ.length Z' = χ ++ [Z']:=fun Z Z'=>by
      rw [List.set_append_right _ _ (Nat.le_refl _)]; simp
     have hsub6:subC (ints (mp fs[i])) 0 6=ints (mp fs[i]):=by
      rw [subC_ints]; congr 1; rw [List.drop_zero,List.take_of_length_le (by omega)]
     have hput6:putC [PV.int .i64 0,.int .i64 0,.int .i64 0,.int .i64 0,.int .i64 0,.int .i64 0] 0 (ints (mp fs[i]))=ints (mp fs[i]):=put6 (by rw [ints_length,h6]) rfl
     try simp only [OpK_eq,HKv,hgi,h6,hpt,hsub6,hput6,List.length_map,go_sem]
     refine ⟨h4,fun _=>?_⟩
     try simp only [OpK_eq,HKv,hgi,h6,hpt,hsub6,hput6,rlX,rsX,mp_get,List.length_map,go_sem]
     refine ⟨by omega,by omega,fun _=>?_⟩
     have hb1y:=hb1 (fs[i].getD p 0)
     generalize fs[i].getD p 0=y at *
     try simp only [OpK_eq,HKv,rdX,hgX,nz_len,go_sem]
     refine ⟨by omega,by omega,fun _=>⟨⟨by omega,by omega⟩,by omega,by omega,by omega,?_⟩⟩
     have hset:(nz (adF fs p (v.getD p 0) nx i)).set y (((adF fs p (v.getD p 0) nx i).getD y 0:Int)+(v.getD p 0:Int))=nz (adF fs p (v.getD p 0) nx (i+1)):=by
      rw [hads,← nz_set]
      simp
     rw [hset]
     refine ihi (i+1,_) ⟨by show i+1≤fs.length; omega,?_,?_,?_⟩ (by show fs.length - (i+1)<fs.length - i; omega) _ _ (by simp [keep]) rfl
     ·show ((χ ++ [AObj.box (ints (mp fs[i]))]).set d _)[0]? = _
      rw [List.getElem?_set_ne hd0,List.getElem?_append_left hrl0]; exact r0
     ·show ((χ ++ [AObj.box (ints (mp fs[i]))]).set d _)[d]? = _
      rw [List.getElem?_set_self (by simp; omega)]
     ·refine rW.keep fun id hid hA=>?_
      simp only [not_or] at hA
      show ((χ ++ [AObj.box (ints (mp fs[i]))]).set d _)[id]? = _∧¬ (id=0∨id=d)
      rw [List.getElem?_set_ne (Ne.symm hA.2),List.getElem?_append_left hid]
      exact ⟨rfl,by simp [hA]⟩
    ·obtain rfl:i=fs.length:=by omega
     try simp only [OpK_eq,HKv,go_sem]
     exact ⟨by omega,ihp (p+1,χ) ⟨by show p+1≤5; omega,r0,by rw [has]; exact rd,rW⟩ (by show 5 - (p+1)<5 - p; omega) _ _ (by simp [keep]) rfl⟩
  ·obtain rfl:p=5:=by omega
   try simp only [OpK_eq,HKv,gd,go_sem]
   have hrl0:=(List.getElem?_eq_some_iff.1 g0).1
   have hrld:=(List.getElem?_eq_some_iff.1 gd).1
   refine gW.push _ (by rw [nz_len]; omega) (fun id hid=>by rcases hid with rfl | rfl <;> assumption) fun w' σ' hW' hk'=>?_
   have s0:=(hk' 0 (.inl rfl)).trans g0
   have sd:=(hk' d (.inr rfl)).trans gd
   have hal5:(nz (avF fs v 5 5)).length=5:=by rw [nz_len,hal]
   have hsub5:subC (ints (nz (avF fs v 5 5))) 0 5=ints (nz (avF fs v 5 5)):=by
    rw [subC_ints]; congr 1; rw [List.drop_zero,List.take_of_length_le (by omega)]
   have hput5:putC (ints (nz v)) 0 (ints (nz (avF fs v 5 5)))=ints (nz (avF fs v 5 5)):=put5 (by rw [ints_length,hal5]) (by rw [ints_length,nz_len,hvlk])
   try simp only [OpK_eq,HKv,s0,sd,hal5,hsub5,hput5,nz_len,go_sem]
   refine ⟨by omega,by omega,ih (k+1,w',_) ⟨by show k+1≤N+1; omega,?_,?_⟩ (by show N+1 - (k+1)<N+1 - k; omega) _ _ (by simp [keep]) rfl⟩
   ·show (σ'.set 0 (AObj.box (ints (nz (avF fs v 5 5)))))[0]? = _
    rw [List.getElem?_set_self (List.getElem?_eq_some_iff.1 s0).1,hvs]
   ·show Wd _ _ w' (nz (cnaI fs la q (k+1)))
    rw [hcs]
    have e:nz (cnaI fs la q k ++ [ciF v la 5])=nz (cnaI fs la q k) ++ [((ciF v la 5:Nat):Int)]:=by simp [nz]
    rw [e]
    exact hW'.keep fun id _ hA=>by
     simp only [not_or] at hA
     exact ⟨List.getElem?_set_ne (Ne.symm hA.1),hA.1⟩
 ·obtain rfl:k=N+1:=by omega
  exact Kv.Fin.freeze (Imm.tupL (.cons hW.imm (.cons (.int _ _ _) (.nil _)))) ⟨rfl,rfl⟩
end
end
section
section
set_option maxRecDepth 100000
def k75:KC:=(.seq (.ops [oP 4 (.mv (.c (.bool false)))])
 (.seq (.ops [mV 5 0,mV 6 1,oP 7 (.call (fC 143) [(.t 5),(.t 6)]),oP 8 (.bin .geq (.t 7) (iC 0)),mV 4 8])
 .ret))
theorem e75:Ent 75 9 [] [.t 4] k75:=ent Tryz.func75
end
section
attribute [local irreducible] ACall PCall KL
theorem p75 (l:List (List Int)) (hm:∀ x∈l,x.length=6) (hl:l.length≤4294967296) (fid:FuncId) (caps:List PV) [hc:StillL caps] (p:List Int→Bool) (hp:∀ x∈l,Pure Tryz.prog fid (.agg (ints x) :: caps) (.bool (p x))) :
  Pure Tryz.prog 75 [.list (aggs l),.fn (.func fid) [] caps] (.bool (l.any p)):=by
 refine e75 (by simp) fun _ _=>?_
 simp only [k75,argEnv,go_sem]
 refine (p143 l hm hl fid caps p hp).go ?_
 try simp only [OpK_eq,HKv,go_sem]
 refine Kv.Fin.still ⟨?_,rfl⟩
 cases hany:l.any p with
 | false=>rw [idx_none hany,decide_eq_false (by omega)]
 | true =>
  obtain ⟨i0,hi0,hno,hyes⟩:=any_split hany
  rw [idx_some hi0 hno hyes,decide_eq_true (by omega)]
end
end
section
section
set_option maxRecDepth 100000
def k27_b0:KC:=(.seq (.ops [oP 17 (.bin .lss (.t 16) (.t 15))])
 (.seq (.cond (.t 17) .skip (.exit 0))
 (.seq (.block 1 (.seq (.ops [oP 18 (.idxS 1 (.t 14) (.t 16)),oP 19 (.load false 1 (.t 18)),oP 5 (.alloc [.int .i64 0]),⟨none,none,.store 1 (.t 5) (.t 19)⟩])
 (.seq (.ops [oP 20 (.fieldA 0 (.t 1)),oP 21 (.load false 1 (.t 20)),oP 22 (.mkfn (.func 76) [] [(.t 1),(.t 5)]),oP 23 (.call (fC 75) [(.t 21),(.t 22)]),mV 6 23])
 (.seq (.ops [mV 24 6,mV 25 24,⟨(some 26),some (25,true),.fieldA 0 (.t 1)⟩,⟨(some 27),some (25,true),.load false 1 (.t 26)⟩,⟨(some 28),some (25,true),.load false 1 (.t 5)⟩,⟨(some 29),some (25,true),.call (fC 74) [(.t 27),(.t 28)]⟩,⟨(some 30),some (25,true),.mkfn (.func 50) [(.t 1)] []⟩,⟨(some 31),some (25,true),.call (fC 78) [(.t 29),(.t 30)]⟩,oP 32 (.pick (.t 25) (.t 31) (.c (.bool false)))])
 (.cond (.t 32) (.seq (.ops [oP 2 (.mv (.c (.bool false))),oP 3 (.mv (iC 0))])
 .ret) .skip)))))
 (.ops [oP 33 (.bin .add (.t 16) (iC 1)),mV 16 33]))))
def k27:KC:=(.seq (.ops [oP 1 (.box true (.t 0)),oP 2 (.mv (.c (.bool false))),oP 3 (.mv (iC 0))])
 (.seq (.seq (.ops [oP 7 (.load true 3 (.t 1)),oP 8 (.call (fC 46) [(.t 7)]),oP 9 (.not (.t 8))])
 (.cond (.t 9) (.seq (.ops [oP 2 (.mv (.c (.bool false))),oP 3 (.mv (iC 1))])
 .ret) .skip))
 (.seq (.seq (.ops [oP 10 (.fieldA 0 (.t 1)),oP 11 (.load false 1 (.t 10)),oP 12 (.fieldA 1 (.t 1)),oP 13 (.load false 1 (.t 12)),oP 14 (.call (fC 74) [(.t 11),(.t 13)]),oP 15 (.len false (.t 14)),oP 16 (.mv (iC 0))])
 (.block 0 (.loop k27_b0)))
 (.seq (.ops [oP 2 (.mv (.c (.bool true))),oP 3 (.mv (iC 0))])
 .ret))))
theorem e27:Ent 27 34 [1] [.t 2,.t 3] k27:=ent Tryz.func27
def k76:KC:=(.seq (.ops [oP 3 (.box true (.t 0)),oP 4 (.mv (.c (.bool false)))])
 (.seq (.draw [oP 5 (.fieldA 0 (.t 1)),oP 6 (.load false 1 (.t 5)),oP 7 (.load false 1 (.t 2)),oP 8 (.fieldA 1 (.t 3)),oP 9 (.idxA 5 1 (.t 8) (.t 7)),oP 10 (.load false 1 (.t 9)),oP 12 (.load false 1 (.t 2)),oP 11 (.pcall (fC 74) [(.t 6),(.t 10)]),oP 13 (.pcall (fC 77) [(.t 11),(.t 12)]),mV 4 13])
 .ret))
theorem e76:Ent 76 14 [3] [.t 4] k76:=ent Tryz.func76
def k28_b0:KC:=(.seq (.seq (.ops [mV 24 7,mV 25 4,oP 26 (.bin .mul (iC 2) (.t 25)),oP 27 (.bin .lss (.t 24) (.t 26))])
 (.cond (.t 27) .skip (.exit 0)))
 (.seq (.block 1 (.seq (.ops [mV 30 5,mV 31 7,oP 32 (.idxS 1 (.t 30) (.t 31)),oP 33 (.load false 1 (.t 32)),oP 34 (.bin .gtr (.t 33) (iC 0))])
 (.cond (.t 34) (.seq (.ops [oP 2 (.mv (.c (.bool false))),oP 3 (.mv (iC 0))])
 .ret) .skip)))
 (.ops [mV 28 7,oP 29 (.bin .add (.t 28) (iC 1)),mV 7 29])))
def k28:KC:=(.seq (.ops [oP 1 (.box true (.t 0)),oP 2 (.mv (.c (.bool false))),oP 3 (.mv (iC 0))])
 (.seq (.seq (.ops [oP 8 (.load true 3 (.t 1)),oP 9 (.call (fC 57) [(.t 8)]),oP 10 (.not (.t 9))])
 (.cond (.t 10) (.seq (.ops [oP 2 (.mv (.c (.bool false))),oP 3 (.mv (iC 1))])
 .ret) .skip))
 (.seq (.ops [oP 11 (.fieldA 0 (.t 1)),oP 12 (.load false 1 (.t 11)),oP 13 (.idxS 6 (.t 12) (iC 0)),oP 14 (.fieldA 0 (.t 13)),oP 15 (.load false 1 (.t 14)),mV 4 15])
 (.seq (.ops [oP 17 (.load true 3 (.t 1)),mV 18 4,oP 19 (.bin .mul (iC 2) (.t 18)),oP 20 (.call (fC 79) [(.t 17),(.t 19)]),mV 16 20,oP 21 (.extr 0 (.t 16)),oP 22 (.extr 1 (.t 16)),mV 5 21,mV 6 22])
 (.seq (.seq (.ops [mV 23 4,mV 7 23])
 (.block 0 (.loop k28_b0)))
 (.seq (.ops [oP 2 (.mv (.c (.bool true))),oP 3 (.mv (iC 0))])
 .ret))))))
theorem e28:Ent 28 35 [1] [.t 2,.t 3] k28:=ent Tryz.func28
end
section
attribute [local irreducible] ACall PCall KL
noncomputable def finB (fs:List (List Nat)) (la:List Nat) (q n:Nat):Bool:=@decide (¬ ∃ w,Acw fs la q w∧n≤w.length∧w.length<2 * n) (Classical.propDecidable _)
theorem finB_true {fs:List (List Nat)} {la:List Nat} {q n:Nat} (h:¬ ∃ w,Acw fs la q w∧n≤w.length∧w.length<2 * n):finB fs la q n=true:=by unfold finB; exact @decide_eq_true _ (Classical.propDecidable _) h
theorem finB_false {fs:List (List Nat)} {la:List Nat} {q n:Nat} (h:∃ w,Acw fs la q w∧n≤w.length∧w.length<2 * n):finB fs la q n=false:=by unfold finB; exact @decide_eq_false _ (Classical.propDecidable _) (fun k=>k h)
theorem p28_bad (M:List (List Int)) (q:Int) (L:List Int) (h:Pure Tryz.prog 57 [acv M q L] (.bool false)):Pure Tryz.prog 28 [acv M q L] (.tup [.bool false,.int .i64 1]):=by
 refine e28 (by simp) fun _ _=>?_
 simp only [k28,argEnv,go_sem]
 try simp only [OpK_eq,HKv,subC3,go_sem]
 refine h.go ?_
 try simp only [OpK_eq,HKv,subC3,go_sem]
 exact Kv.Fin.still ⟨rfl,rfl⟩
theorem p27_bad (M:List (List Int)) (q:Int) (L:List Int) (h:Pure Tryz.prog 46 [acv M q L] (.bool false)):Pure Tryz.prog 27 [acv M q L] (.tup [.bool false,.int .i64 1]):=by
 refine e27 (by simp) fun _ _=>?_
 simp only [k27,argEnv,go_sem]
 try simp only [OpK_eq,HKv,subC3,go_sem]
 refine h.go ?_
 try simp only [OpK_eq,HKv,subC3,go_sem]
 exact Kv.Fin.still ⟨rfl,rfl⟩
theorem p28_in {fs:List (List Nat)} {n q:Nat} {la:List Nat} (h:GoodA fs n q la):Pure Tryz.prog 28 [gav fs q la] (.tup [.bool (finB fs la q n),.int .i64 0]):=by
 have hi:=h.s
 have hf:=h.ok
 have hn5:=h.n5
 have hq:=h.qn
 have h0:=h.h0
 obtain ⟨e1,e2,e3⟩:=mpD0 h.ok h.h0
 have hC:=p79_in h (2 * n) (by omega)
 have hcl:=cnaS_len fs la q n (2 * n+1)
 have hcg:∀ k,k<2 * n+1→(cnaS fs la q n (2 * n+1)).getD k 0=csF (veF fs q n k) la la.length:=fun k hk=>by
  simp [cnaS,List.getD_eq_getElem?_getD,hk]
 have hca:=fun k=>cs_acc (la:=la) hf hq k
 have h2n:(2:Int) * (n:Int)=((2 * n:Nat):Int):=by omega
 refine e28 (by simp) fun _ _=>?_
 simp only [k28,argEnv,go_sem]
 try simp only [OpK_eq,HKv,subC3,go_sem]
 refine hi.go ?_
 try simp only [OpK_eq,HKv,subC3,e1,e2,e3,List.length_map,go_sem]
 refine ⟨by omega,fun _=>⟨by omega,?_⟩⟩
 rw [h2n]
 refine hC.go ?_
 generalize hcnt:cnaS fs la q n (2 * n+1)=cs at *
 try simp only [OpK_eq,HKv,go_sem]
 refine KL_ind k28_b0.eq_1 (fun x:Nat=>[(4,.int .i64 n),(5,.list (ints (nz cs))),(7,.int .i64 x)]) (fun _=>[])
  (fun x=>n≤x∧x≤2 * n∧∀ j,n≤j→j<x→¬ ∃ w,Acw fs la q w∧w.length=j) (fun x=>2 * n - x) [4,5,7] n (by rfl) rfl ⟨Nat.le_refl _,by omega,fun j h1 h2=>by omega⟩ fun x ⟨hx1,hx2,hno⟩ ih=>?_
 have hxg:=hcg x (by omega)
 have hxa:=hca x
 have hgn:=nz_getD' cs x
 try simp only [OpK_eq,HKv,nz_len,hgn,go_sem]
 refine ⟨by omega,fun h3=>⟨by omega,fun _=>⟨fun h4=>?_,fun h4=>?_⟩⟩,fun h3=>?_⟩
 ·obtain ⟨w,hw,hl⟩:=hxa.1 (by omega)
  rw [finB_false ⟨w,hw,by omega,by omega⟩]
  exact Kv.Fin.still ⟨rfl,rfl⟩
 ·refine ⟨by omega,ih (x+1) ⟨by omega,by omega,fun j hj1 hj2=>?_⟩ (by omega) _ _ (by simp [keep]) rfl⟩
  by_cases e:j=x
  ·subst e
   intro hw
   have:=hxa.2 hw
   omega
  ·exact hno j hj1 (by omega)
 ·have hx:x=2 * n:=by omega
  rw [finB_true (fun ⟨w,hw,h5,h6⟩=>hno w.length h5 (by omega) ⟨w,hw,rfl⟩)]
  exact Kv.Fin.still ⟨rfl,rfl⟩
theorem p76 (fs:List (List Nat)) (n:Nat) (hf:∀ f∈fs,Ok f n) (hn5:n≤5) (hfl:fs.length≤6) (m q:PV) [Still q] (L:PV) [Still L] (f:List Nat) (hff:Ok f n) (p:Nat) (hp:p<n):Pure Tryz.prog 76 [.agg (ints (mp f)),.fptr [.list (aggs (fs.map mp)),q,L] 0,.fptr [.int .i64 p] 0] (.bool (decide (p∈ord fs (f.getD p 0)))):=by
 have h6:=hff.mp_len
 have hR:=p74P fs n hf hn5 (by omega) (f.getD p 0) (hff.get' p)
 have hpt:(p:Int).toNat=p:=by omega
 refine e76 (by simp) fun _ _=>?_
 simp only [k76,argEnv,go_sem]
 try simp only [OpK_eq,HKv,h6,hpt,mp_get,go_sem]
 refine ⟨by omega,by omega,fun _=>?_⟩
 refine hR.fgo ?_
 try simp only [OpK_eq,HKv,go_sem]
 refine (p77 (nz (ord fs (f.getD p 0))) p (by rw [nz_len]; have:=(ord_ok hf hn5 (hff.get' p)).len; omega)).pgo ?_
 try simp only [OpK_eq,HKv,go_sem]
 refine Kv.Fin.still ⟨?_,rfl⟩
 congr 1
 refine decide_eq_decide.2 ⟨fun h=>?_,fun h=>List.mem_map.2 ⟨p,h,rfl⟩⟩
 obtain ⟨z,hz,e⟩:=List.mem_map.1 h
 have:z=p:=by omega
 exact this ▸ hz
theorem p144M (l:List Int) (hl:l.length≤4294967296) (fid:FuncId) (a:PV) [ha:Still a] (p:Int→Bool) (hp:∀ x∈l,Pure Tryz.prog fid [a,.int .i64 x] (.bool (p x))) :
  Pure Tryz.prog 144 [.list (ints l),.fn (.func fid) [a] []] (.int .i64 (idx p l)):=by
 refine e144 (by simp) fun _ _=>?_
 simp only [k144,argEnv,go_sem]
 refine KL_ind k144_b0.eq_1 (fun x:Nat=>[(0,.list (ints l)),(1,.fn (.func fid) [a] []),(7,.int .i64 l.length),(8,.int .i64 x)]) (fun _=>[]) (fun x=>x≤l.length∧(l.take x).any p=false) (fun x=>l.length - x) [0,1,7,8] 0 rfl rfl ⟨Nat.zero_le _,by simp⟩ fun x ⟨hx,hall⟩ ih=>?_
 try simp only [go_sem]
 refine ⟨fun h1=>⟨by omega,fun h2=>?_⟩,fun h1=>?_⟩
 ·rw [getD_eq h2]
  refine (hp _ (List.getElem_mem h2)).go ?_
  try simp only [go_sem]
  refine ⟨fun h3=>?_,fun h3=>⟨by omega,?_⟩⟩
  ·exact Kv.Fin.now ⟨by rw [idx_some h2 hall h3],rfl⟩
  ·refine ih (x+1) ⟨by omega,?_⟩ (by omega) _ _ rfl rfl
   rw [any_take_succ _ h2,hall,h3]; rfl
 ·obtain rfl:x=l.length:=by omega
  rw [List.take_length] at hall
  exact Kv.Fin.now ⟨by rw [idx_none hall],rfl⟩
theorem p78M (l:List Int) (hl:l.length≤4294967296) (fid:FuncId) (a:PV) [ha:Still a] (p:Int→Bool) (hp:∀ x∈l,Pure Tryz.prog fid [a,.int .i64 x] (.bool (p x))) :
  Pure Tryz.prog 78 [.list (ints l),.fn (.func fid) [a] []] (.bool (l.any p)):=by
 refine e78 (by simp) fun _ _=>?_
 simp only [k78,argEnv,go_sem]
 refine (p144M l hl fid a p hp).go ?_
 try simp only [go_sem]
 exact Kv.Fin.now ⟨by rw [idx_nonneg],rfl⟩
theorem p27_in {fs:List (List Nat)} {n q:Nat} {la:List Nat} (h:GoodA fs n q la):Pure Tryz.prog 27 [gav fs q la] (.tup [.bool (finB fs la q n),.int .i64 0]):=by
 have hi:=h.i
 have hf:=h.ok
 have hn5:=h.n5
 have hq:=h.qn
 have h0:=h.h0
 have hfl:=h.fl
 have hR:=fun x hx=>p74P fs n hf hn5 (by omega) x hx
 have hLs:=fun x=>p50 (.list (aggs (fs.map mp))) (.int .i64 q) la h.ll x
 have hinf:=inf_iff (la:=la) hf hq
 have hom:=fun x (hx:x<n) y=>ord_mem hf hn5 hx y
 have hol:=fun x (hx:x<n)=>(ord_ok hf hn5 hx).len
 have hlt:∀ x∈ord fs q,x<n:=fun x hx=>by
  obtain ⟨w,hw,rfl⟩:=rea_word.1 ((hom q hq x).1 hx)
  exact rnw_lt hf hq w hw
 refine e27 (by simp) fun _ _=>?_
 simp only [k27,argEnv,go_sem]
 try simp only [OpK_eq,HKv,subC3,go_sem]
 refine hi.go ?_
 try simp only [OpK_eq,HKv,subC3,go_sem]
 refine (hR q hq).go ?_
 try simp only [OpK_eq,HKv,nz_len,go_sem]
 refine KL_ind k27_b0.eq_1 (fun x:Nat × Heap=>[(1,.fptr [.list (aggs (fs.map mp)),.int .i64 q,.list (ints (nz la))] 0),(14,.list (ints (nz (ord fs q)))),(15,.int .i64 (ord fs q).length),(16,.int .i64 x.1)]) (fun x=>x.2)
  (fun x=>x.1≤(ord fs q).length∧∀ p∈(ord fs q).take x.1,¬ ((∃ f∈fs,Rea fs (f.getD p 0) p)∧∃ r,Rea fs p r∧r∈la)) (fun x=>(ord fs q).length - x.1) [1,14,15,16] (0,_) (by rfl) rfl ⟨Nat.zero_le _,by simp⟩ fun ⟨x,τ⟩ ⟨hx,hno⟩ ih=>?_
 simp only at hx hno
 try simp only [OpK_eq,HKv,nz_len,go_sem]
 refine ⟨fun h1=>?_,fun h1=>?_⟩
 ·have hxl:x<(ord fs q).length:=by omega
  have hgx:(nz (ord fs q)).getD x 0=((ord fs q)[x]:Int):=by
   rw [nz_getD',List.getD_eq_getElem?_getD,List.getElem?_eq_getElem hxl]; rfl
  have hpn:=hlt _ (List.getElem_mem hxl)
  have hol5:=hol q hq
  have htk:=List.take_succ_eq_append_getElem hxl
  have hpm:=List.getElem_mem hxl
  generalize (ord fs q)[x]=p at *
  try simp only [OpK_eq,HKv,hgx,go_sem]
  refine ⟨by omega,fun _=>?_⟩
  try simp only [OpK_eq,HKv,hgx,go_sem]
  have ht0:∀ X:AObj,(τ ++ [X])[τ.length]? = some X:=fun X=>by simp
  refine (p75 (fs.map mp) (fun r hr=>by obtain ⟨f,hf',rfl⟩:=List.mem_map.1 hr; exact (hf f hf').mp_len) (by simp; omega) 76 [.fptr [.list (aggs (fs.map mp)),.int .i64 q,.list (ints (nz la))] 0,.fptr [.int .i64 p] 0] (fun m=>decide (p∈ord fs (m.getD (p+1) 0).toNat)) (fun m hm=>by
   obtain ⟨f,hf',rfl⟩:=List.mem_map.1 hm
   have:=p76 fs n hf hn5 hfl (.list (aggs (fs.map mp))) (.int .i64 q) (.list (ints (nz la))) f (hf f hf') p hpn
   rw [mp_get]
   exact this)).lend (.cons Imm.still (.cons (Imm.fnc _ (.cons Imm.still (.cons (Imm.ptr τ.length 0 [.int .i64 p] [.int .i64 p] (ht0 _) rfl (by simp [PV.ok]) (fun j c d hc hd=>by rw [hc] at hd; cases hd; have:=List.mem_of_getElem? hc; simp only [List.mem_singleton] at this; subst this; exact .still)) (.nil _)))) (.nil _))) ?_
  cases hb:(fs.map mp).any (fun m=>decide (p∈ord fs (m.getD (p+1) 0).toNat)) with
  | false =>
   have hnb:¬ ∃ f∈fs,Rea fs (f.getD p 0) p:=fun ⟨f,hff,hr⟩=>by
    rw [List.any_eq_false] at hb
    refine hb (mp f) (List.mem_map.2 ⟨f,hff,rfl⟩) ?_
    rw [mp_get]
    exact decide_eq_true ((hom _ ((hf f hff).get' p) p).2 hr)
   try simp only [OpK_eq,HKv,go_sem]
   refine ⟨by omega,ih (x+1,_) ⟨by show x+1≤(ord fs q).length; omega,?_⟩ (by show (ord fs q).length - (x+1)<(ord fs q).length - x; omega) _ _ (by simp [keep]) rfl⟩
   show ∀ p'∈(ord fs q).take (x+1),_
   rw [htk]
   intro p' hp'
   rcases List.mem_append.1 hp' with hp' | hp'
   ·exact hno p' hp'
   ·rw [List.mem_singleton] at hp'; subst hp'
    exact fun h=>hnb h.1
  | true =>
   have hyb:∃ f∈fs,Rea fs (f.getD p 0) p:=by
    obtain ⟨m,hm,hd⟩:=List.any_eq_true.1 hb
    obtain ⟨f,hff,rfl⟩:=List.mem_map.1 hm
    rw [mp_get] at hd
    exact ⟨f,hff,(hom _ ((hf f hff).get' p) p).1 (of_decide_eq_true hd)⟩
   try simp only [OpK_eq,HKv,ht0,go_sem]
   refine (hR p hpn).go ?_
   try simp only [OpK_eq,HKv,ht0,go_sem]
   refine (p78M (nz (ord fs p)) (by rw [nz_len]; have:=hol p hpn; omega) 50 (.fptr [.list (aggs (fs.map mp)),.int .i64 q,.list (ints (nz la))] 0) (fun y=>decide (y.toNat∈la)) (fun y hy=>by
    obtain ⟨z,_,rfl⟩:=List.mem_map.1 hy
    exact hLs z)).go ?_
   cases hc:(nz (ord fs p)).any (fun y=>decide (y.toNat∈la)) with
   | false =>
    have hnc:¬ ∃ r,Rea fs p r∧r∈la:=fun ⟨r,hr,hrl⟩=>by
     rw [List.any_eq_false] at hc
     exact hc (r:Int) (List.mem_map.2 ⟨r,(hom p hpn r).2 hr,rfl⟩) (decide_eq_true hrl)
    try simp only [OpK_eq,HKv,go_sem]
    refine ⟨by omega,ih (x+1,_) ⟨by show x+1≤(ord fs q).length; omega,?_⟩ (by show (ord fs q).length - (x+1)<(ord fs q).length - x; omega) _ _ (by simp [keep]) rfl⟩
    show ∀ p'∈(ord fs q).take (x+1),_
    rw [htk]
    intro p' hp'
    rcases List.mem_append.1 hp' with hp' | hp'
    ·exact hno p' hp'
    ·rw [List.mem_singleton] at hp'; subst hp'
     exact fun h=>hnc h.2
   | true =>
    have hyc:∃ r,Rea fs p r∧r∈la:=by
     obtain ⟨y,hy,hd⟩:=List.any_eq_true.1 hc
     obtain ⟨z,hz,rfl⟩:=List.mem_map.1 hy
     exact ⟨z,(hom p hpn z).1 hz,of_decide_eq_true hd⟩
    try simp only [OpK_eq,HKv,go_sem]
    rw [finB_false (hinf.1 ⟨p,(hom q hq p).1 hpm,hyb,hyc⟩)]
    exact Kv.Fin.still ⟨rfl,rfl⟩
 ·have hx:x=(ord fs q).length:=by omega
  rw [finB_true (fun hw=>?_)]
  ·exact Kv.Fin.still ⟨rfl,rfl⟩
  obtain ⟨p,hp,h2,h3⟩:=hinf.2 hw
  refine hno p ?_ ⟨h2,h3⟩
  rw [hx,List.take_length]
  exact (hom q hq p).2 hp
end
end
end Go.Proofs.YtcfmmmloeaggmaaGreat
section

end
namespace Go.Proofs.YtcfmmmloeaggmaaGreat
open Go.Kv
set_option linter.unusedVariables false
set_option linter.unusedSimpArgs false
section
section
attribute [local irreducible] ACall PCall KL
def colL (t:List (List Int)) (a x:Nat):List Int:=(List.range x).map fun b=>tat t b a
@[simp] theorem colL_length (t:List (List Int)) (a x:Nat):(colL t a x).length=x:=by simp [colL]
def opp (t:List (List Int)) (x:Nat):List (List Int):=(List.range x).map fun a=>colL t a t.length
@[simp] theorem opp_length (t:List (List Int)) (x:Nat):(opp t x).length=x:=by simp [opp]
end
end
section
section
attribute [local irreducible] ACall PCall KL
inductive Rch (fs:List (List Nat)) (n:Nat):List Nat→Prop
 | one:Rch fs n (List.range n)
 | step (g f:List Nat) (hg:Rch fs n g) (hf:f∈fs):Rch fs n (mul g f)
theorem Rch.ok {fs:List (List Nat)} {n:Nat} (h1:1≤n) (h5:n≤5) (hf:∀ f∈fs,Ok f n) {g:List Nat} (h:Rch fs n g):Ok g n:=by
 induction h with
 | one=>exact range_ok h1 h5
 | step g f _ hm ih=>exact ih.mul (hf f hm)
structure Mnd (n:Nat) (S:List (List Nat)):Prop where
 srm:SrM n S
 one:List.range n∈S
 mul:∀ f g,f∈S→g∈S→Go.Kv.mul f g∈S
theorem Mnd.at {n:Nat} {S:List (List Nat)} (h:Mnd n S) {i j:Nat} (hi:i<S.length) (hj:j<S.length):tat (tabM n S) i j=(loM n S (Go.Kv.mul S[i] S[j]):Int)∧loM n S (Go.Kv.mul S[i] S[j])<S.length∧S.getD (loM n S (Go.Kv.mul S[i] S[j])) []=Go.Kv.mul S[i] S[j]:=by
 have hm:=h.mul _ _ (List.getElem_mem hi) (List.getElem_mem hj)
 have hO:=h.srm.1 _ hm
 obtain ⟨h1,h2⟩:=(lo_mem h.srm hO).2 hm
 refine ⟨?_,h1,h2⟩
 have e1:(tabM n S).getD i []=rowM n S S[i]:=by simp [tabM,List.getD_eq_getElem?_getD,hi]
 have e2:(rowM n S S[i]).getD j 0=plM n S (Go.Kv.mul S[i] S[j]):=by simp [rowM,List.getD_eq_getElem?_getD,hj]
 rw [tat,e1,e2,plM,if_pos ⟨h1,h2⟩]
end
end
end Go.Proofs.YtcfmmmloeaggmaaGreat
