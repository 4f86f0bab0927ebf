/- Several texts of this session as one, less what the claim does not need. -/
import Derived.Test.YtcfmmmloeaggmaaGreatCb
import Derived.Test.YtcfmmmloeaggmaaGreatZ18
import Derived.Test.YtcfmmmloeaggmaaGreatZ7
import Derived.Test.YtcfmmmloeaggmaaGreatZ10
import Derived.Test.YtcfmmmloeaggmaaGreatZ11
import Derived.Test.YtcfmmmloeaggmaaGreatFB
import Derived.Test.YtcfmmmloeaggmaaGreatZ12
import Derived.Test.YtcfmmmloeaggmaaGreatZ8
namespace Go.Proofs.YtcfmmmloeaggmaaGreat
open Go.Kv
set_option linter.unusedVariables false
set_option linter.unusedSimpArgs false
section
section
set_option maxRecDepth 100000
def k26_b0:KC:=(.seq (.seq (.ops [mV 35 9,mV 36 5,oP 37 (.bin .lss (.t 35) (.t 36))])
 (.cond (.t 37) .skip (.exit 2)))
 (.seq (.block 3 (.ops [mV 40 9,mV 41 9,oP 42 (.fieldA 1 (.t 8)),oP 43 (.idxA 5 1 (.t 42) (.t 41)),oP 44 (.load false 1 (.t 43)),mV 45 9,oP 46 (.bin .add (.t 45) (iC 1)),oP 47 (.mnmx true (.t 44) [(.t 46)]),mV 48 5,oP 49 (.bin .sub (.t 48) (iC 1)),oP 50 (.mnmx false (.t 47) [(.t 49)]),oP 51 (.fieldA 1 (.t 8)),oP 52 (.idxA 5 1 (.t 51) (.t 40)),⟨none,none,.store 1 (.t 52) (.t 50)⟩]))
 (.ops [mV 38 9,oP 39 (.bin .add (.t 38) (iC 1)),mV 9 39])))
def k26_b1:KC:=(.seq (.seq (.ops [mV 23 7,oP 24 (.fieldA 0 (.t 4)),oP 25 (.load false 1 (.t 24)),oP 26 (.len false (.t 25)),oP 27 (.bin .lss (.t 23) (.t 26))])
 (.cond (.t 27) .skip (.exit 0)))
 (.seq (.block 1 (.seq (.ops [oP 30 (.fieldA 0 (.t 4)),oP 31 (.load false 1 (.t 30)),mV 32 7,oP 33 (.idxS 6 (.t 31) (.t 32)),oP 34 (.load true 6 (.t 33)),oP 8 (.alloc [.int .i64 0,.int .i64 0,.int .i64 0,.int .i64 0,.int .i64 0,.int .i64 0]),⟨none,none,.store 6 (.t 8) (.t 34)⟩])
 (.seq (.seq (.ops [oP 9 (.mv (iC 0))])
 (.block 2 (.loop k26_b0)))
 (.ops [mV 53 6,oP 54 (.load true 6 (.t 8)),oP 55 (.bsl true 48 6 [(.t 54)]),oP 56 (.app (.t 53) (.t 55) 48 6),mV 6 56]))))
 (.ops [mV 28 7,oP 29 (.bin .add (.t 28) (iC 1)),mV 7 29])))
def k26:KC:=(.seq (.ops [oP 2 (.alloc [.nils,.int .i64 0,.nils])])
 (.seq (.ops [mV 10 0,oP 11 (.call (fC 53) [(.t 10)]),mV 3 11])
 (.seq (.ops [mV 12 3,oP 13 (.call (fC 66) [(.t 12)]),oP 4 (.alloc [.nils,.int .i64 0,.nils]),⟨none,none,.store 3 (.t 4) (.t 13)⟩])
 (.seq (.seq (.ops [mV 14 3,oP 15 (.call (fC 72) [(.t 14),(iC 2)]),oP 16 (.bin .eql (.t 15) (iC 0))])
 (.cond (.t 16) (.seq (.ops [oP 17 (.fieldA 0 (.t 4)),oP 18 (.load false 1 (.t 17)),oP 19 (.idxS 6 (.t 18) (iC 0)),oP 20 (.fieldA 0 (.t 19)),oP 21 (.load false 1 (.t 20)),mV 5 21])
 (.seq (.ops [oP 22 (.bsl false 48 6 []),mV 6 22])
 (.seq (.seq (.ops [oP 7 (.mv (iC 0))])
 (.block 0 (.loop k26_b1)))
 (.ops [mV 57 6,mV 58 3,mV 59 5,oP 60 (.bin .sub (.t 59) (iC 1)),oP 61 (.conv .u64 (.t 60)),oP 62 (.bin .shl (iC 1) (.t 61)),oP 63 (.call (fC 72) [(.t 58),(.t 62)]),oP 64 (.call (fC 73) [(.t 63)]),oP 65 (.build [.nils,.int .i64 0,.nils] [(0,1,(.t 57)),(1,1,(iC 0)),(2,1,(.t 64))]),⟨none,none,.store 3 (.t 4) (.t 65)⟩])))) .skip))
 (.seq (.ops [mV 66 3,oP 67 (.load true 3 (.t 4)),oP 68 (.call (fC 68) [(.t 66),(.t 67)]),⟨none,none,.store 3 (.t 2) (.t 68)⟩])
 .ret)))))
theorem e26:Ent 26 69 [55] [.cell 2 true 3] k26:=ent Tryz.func26
end
section
attribute [local irreducible] ACall PCall KL
theorem upto_ptr {b id:Nat} (h:b<id):PV.upto id (.ptr b 0):=fun φ ι v hr=>by
 obtain ⟨B,hB,rfl⟩:=hr.ptr_inv
 exact .ptr b 0 B (by rw [List.getElem?_take,if_pos h]; exact hB)
theorem mps_nil:Mps []:=fun r hr=>by cases hr
theorem p26 {l:List Int} (hl:Byt l) {K:PV→Heap→Prop} (hK:∀ M q L,AnyA M L→K (acv M q L) []):ACall Tryz.prog 26 [.list (u8s l)] [] K:=by
 refine e26 (by simp) fun _ _=>?_
 simp only [k26,argEnv,go_sem]
 refine p53G hl fun h=>?_
 have hS0:Src ([AObj.box [PV.nils,PV.int .i64 0,PV.nils]] ++ [srcO l 0 h]) 1 l:=⟨0,h,rfl,Nat.zero_le _⟩
 try simp only [OpK_eq,HKv,go_sem]
 refine p66 hl hS0 fun fs n q la τ g1 g2 g3=>?_
 have hz:τ[0]? = some (.box [PV.nils,PV.int .i64 0,PV.nils]):=g3.2 0 (by simp) (by omega)
 have hzl:=(List.getElem?_eq_some_iff.1 hz).1
 have h1l:=g2.lt
 obtain ⟨m1,m2,m3,m4⟩:=g1.mps
 obtain ⟨e1,e2,e3⟩:=mpD0 g1.ok g1.h0
 have hn5:=g1.n5
 have hqn:=g1.qn
 have h0:=g1.h0
 have hfl:=g1.fl
 have hgb:∀ (s:Heap) (a:AObj),(s ++ [a])[s.length]? = some a:=fun s a=>by simp
 have hsb:∀ (s:Heap) (a b:AObj),(s ++ [a]).set s.length b=s ++ [b]:=fun s a b=>by simp [List.set_append_right]
 try simp only [OpK_eq,HKv,hgb,hsb,putC3,go_sem]
 refine p72 hl (g2.app _) _ fun r1 τ1 _ _ a1 a2 _=>?_
 have hb1:τ1[τ.length]? = some (.box [.list (aggs (fs.map mp)),.int .i64 q,.list (ints (nz la))]):=(a2.2 _ (by simp) (by omega)).trans (hgb _ _)
 have hk1:Kept τ τ1 1:=(Kept.app τ _ 1).trans a2
 try simp only [OpK_eq,HKv,go_sem]
 refine ⟨fun g5=>?_,fun g5=>?_⟩
 ·try simp only [OpK_eq,HKv,hb1,subC3,e1,e2,e3,List.length_map,go_sem]
  refine ⟨by omega,fun _=>?_⟩
  have hd:τ1.length≠0∧τ1.length≠1∧τ.length < τ1.length:=by
   have:=(List.getElem?_eq_some_iff.1 hb1).1
   omega
  have hz1:(τ1 ++ [AObj.arr 0 48 6 []])[0]? = some (.box [PV.nils,PV.int .i64 0,PV.nils]):=by
   rw [List.getElem?_append_left (by omega)]; exact (hk1.2 0 hzl (by omega)).trans hz
  have hb2:(τ1 ++ [AObj.arr 0 48 6 []])[τ.length]? = some (.box [.list (aggs (fs.map mp)),.int .i64 q,.list (ints (nz la))]):=by
   rw [List.getElem?_append_left (by omega)]; exact hb1
  have hd2:(τ1 ++ [AObj.arr 0 48 6 []])[τ1.length]? = some (.arr 0 48 6 []):=by simp
  have hτ0:τ.length≠0∧τ.length≠1:=by omega
  have hS2:Src (τ1 ++ [AObj.arr 0 48 6 []]) 1 l:=a1.app _
  generalize τ1 ++ [AObj.arr 0 48 6 []] = π at *
  generalize τ1.length=d at *
  generalize τ.length=x at *
  clear hk1 hb1 hz hzl h1l a1 a2 g2 g3 hS0 hgb hsb
  refine KL_ind k26_b1.eq_1 (fun y:Nat × Nat × List (List Int) × Heap=>[(2,.ptr 0 0),(3,.ptr 1 0),(4,.ptr x 0),(5,.int .i64 n),(6,.ref d y.2.1 0 y.1),(7,.int .i64 y.1)]) (fun y=>y.2.2.2)
   (fun y=>y.1≤fs.length∧y.2.2.1.length=y.1∧Mps y.2.2.1∧y.2.2.2[0]? = some (AObj.box [PV.nils,PV.int .i64 0,PV.nils])∧y.2.2.2[x]? = some (AObj.box [.list (aggs (fs.map mp)),.int .i64 q,.list (ints (nz la))])∧y.2.2.2[d]? = some (AObj.arr y.2.1 48 6 (aggs y.2.2.1))∧Src y.2.2.2 1 l) (fun y=>fs.length - y.1) [2,3,4,5,6,7]
   (0,0,[],π) (by simp [keep]) rfl ⟨Nat.zero_le _,rfl,mps_nil,hz1,hb2,hd2,hS2⟩ fun ⟨i,ver,T,χ⟩ ⟨hi,hT,hTm,c0,cx,cd,cS⟩ ih=>?_
  simp only at hi hT hTm c0 cx cd cS
  clear hz1 hb2 hd2 hS2
  try simp only [OpK_eq,HKv,cx,List.length_map,go_sem]
  refine ⟨fun g6=>?_,fun g6=>?_⟩
  ·have hil:i<fs.length:=by omega
   have h6:=(g1.ok _ (List.getElem_mem hil)).mp_len
   have hgi:(fs.map mp).getD i []=mp fs[i]:=by simp [List.getD_eq_getElem?_getD,hil]
   have hpt:0≤(mp fs[i]).getD 0 0∧(mp fs[i]).getD 0 0≤5:=by
    have:=(g1.ok _ (List.getElem_mem hil)).len
    rw [mp_get0]; omega
   have hs6:subC (ints (mp fs[i])) 0 6=ints (mp fs[i]):=by
    rw [subC_ints]; congr 1; rw [List.drop_zero,List.take_of_length_le (by omega)]
   have hput6:putC [PV.int .i64 0,.int .i64 0,.int .i64 0,.int .i64 0,.int .i64 0,.int .i64 0] 0 (ints (mp fs[i]))=ints (mp fs[i]):=put6 (by rw [ints_length,h6]) rfl
   have hgb:∀ (a:AObj),(χ ++ [a])[χ.length]? = some a:=fun a=>by simp
   have hsb:∀ (a b:AObj),(χ ++ [a]).set χ.length b = χ ++ [b]:=fun a b=>by simp [List.set_append_right]
   try simp only [OpK_eq,HKv,cx,hgi,h6,hs6,hput6,hgb,hsb,List.length_map,go_sem]
   refine ⟨g6,fun _=>?_⟩
   try simp only [OpK_eq,HKv,cx,hgi,h6,hs6,hput6,hgb,hsb,List.length_map,go_sem]
   have l0:=(List.getElem?_eq_some_iff.1 c0).1
   have lx:=(List.getElem?_eq_some_iff.1 cx).1
   have ld:=(List.getElem?_eq_some_iff.1 cd).1
   have u0:=(List.getElem?_append_left (l₂:=[AObj.box (ints (mp fs[i]))]) l0).trans c0
   have ux:=(List.getElem?_append_left (l₂:=[AObj.box (ints (mp fs[i]))]) lx).trans cx
   have ud:=(List.getElem?_append_left (l₂:=[AObj.box (ints (mp fs[i]))]) ld).trans cd
   have uS:=cS.app [AObj.box (ints (mp fs[i]))]
   have uy:=hgb (AObj.box (ints (mp fs[i])))
   have hy:χ.length≠0∧χ.length≠1∧χ.length≠x∧χ.length≠d:=by have:=cS.lt; omega
   generalize mp fs[i]=m at *
   generalize χ ++ [AObj.box (ints m)] = ρ at *
   generalize χ.length=y at *
   clear c0 cx cd cS hgb hsb l0 lx ld hs6 hput6 hgi
   refine KL_ind k26_b0.eq_1 (fun z:Nat × List Int × Heap=>[(2,.ptr 0 0),(3,.ptr 1 0),(4,.ptr x 0),(5,.int .i64 n),(6,.ref d ver 0 i),(7,.int .i64 i),(8,.ptr y 0),(9,.int .i64 z.1)]) (fun z=>z.2.2)
    (fun z=>z.1≤n∧z.2.1.length=6∧(0≤z.2.1.getD 0 0∧z.2.1.getD 0 0≤5)∧z.2.2[0]? = some (.box [PV.nils,PV.int .i64 0,PV.nils])∧z.2.2[x]? = some (.box [.list (aggs (fs.map mp)),.int .i64 q,.list (ints (nz la))])∧z.2.2[d]? = some (.arr ver 48 6 (aggs T))∧Src z.2.2 1 l∧z.2.2[y]? = some (.box (ints z.2.1))) (fun z=>n - z.1) [2,3,4,5,6,7,8,9]
    (0,m,ρ) (by simp [keep]) rfl ⟨Nat.zero_le _,h6,hpt,u0,ux,ud,uS,uy⟩ fun ⟨k,m,ρ⟩ ⟨hk,v6,vp,v0,vx,vd,vS,vy⟩ ihk=>?_
   simp only at hk v6 vp v0 vx vd vS vy
   clear u0 ux ud uS uy h6 hpt
   have hil6:(ints m).length=6:=by rw [ints_length,v6]
   have hs6:subC (ints m) 0 6=ints m:=by
    rw [subC_ints]; congr 1; rw [List.drop_zero,List.take_of_length_le (by omega)]
   have hok:=ok6 v6
   try simp only [OpK_eq,HKv,vy,vd,hil6,v6,hs6,hok,ints_set1,take_aggs,aggs_length,go_sem]
   refine ⟨fun g7=>?_,fun g7=>?_⟩
   ·have hly:=(List.getElem?_eq_some_iff.1 vy).1
    refine ⟨by omega,by omega,fun _=>⟨by omega,by omega,by omega,by omega,by omega,ihk (k+1,_,_) ⟨by show k+1≤n; omega,by rw [List.length_set]; exact v6,set_pt5 vp,(List.getElem?_set_ne (by omega)).trans v0,(List.getElem?_set_ne (by omega)).trans vx,(List.getElem?_set_ne (by omega)).trans vd,vS.set2 (by omega) _,List.getElem?_set_self hly⟩ (by show n - (k+1)<n - k; omega) _ _ (by simp [keep]) rfl⟩⟩
   ·have hTi:List.take i T ++ [m]=T ++ [m]:=by rw [List.take_of_length_le (by omega)]
    rw [hTi]
    have hld:=(List.getElem?_eq_some_iff.1 vd).1
    refine ⟨⟨by omega,by omega⟩,by omega,ih (i+1,ver+1,T ++ [m],_) ⟨by show i+1≤fs.length; omega,by simp [hT],fun r hr=>?_,(List.getElem?_set_ne (by omega)).trans v0,(List.getElem?_set_ne (by omega)).trans vx,List.getElem?_set_self hld,vS.set2 (by omega) _⟩ (by show fs.length - (i+1)<fs.length - i; omega) _ _ (by simp [keep]) rfl⟩
    rcases List.mem_append.1 hr with hr | hr
    ·exact hTm r hr
    ·rw [List.mem_singleton] at hr; subst hr; exact ⟨v6,vp⟩
  ·have hie:i=fs.length:=by omega
   have hn1:1≤n:=(g1.ok _ (List.getElem_mem h0)).pos
   obtain ⟨n',rfl⟩:∃ n',n=n'+1:=⟨n - 1,by omega⟩
   have hsub:(((n'+1:Nat):Int) - 1)=(n':Int):=by omega
   have hsh:∀ {K:PV→Prop},aBin .shl (.int .i64 1) (.int .u64 (n':Int)) K=K (.int .i64 ((2 ^ n':Nat):Int)):=fun {K}=>aBin_shl1 (by omega)
   have hwr:IntKind.u64.wrap (n':Int)=n':=wrapU64 (by omega)
   refine ⟨by omega,?_⟩
   rw [hsub,aWrapU,hwr]
   try simp only [OpK_eq,HKv,hsh,go_sem]
   have hp32:2 ^ n'≤32:=by
    have:2 ^ n'≤2 ^ 5:=Nat.pow_le_pow_right (by omega) (by omega)
    simpa using this
   have hp1:1≤2 ^ n':=Nat.one_le_two_pow
   refine p72 hl cS _ fun r2 τ2 b1 b2 b3 b4 b5=>?_
   have b2:=b2 (by omega)
   have l0:=(List.getElem?_eq_some_iff.1 c0).1
   have lx:=(List.getElem?_eq_some_iff.1 cx).1
   have ld:=(List.getElem?_eq_some_iff.1 cd).1
   have w0:=(b4.2 _ l0 (by omega)).trans c0
   have wx:=(b4.2 _ lx (by omega)).trans cx
   have wd:=(b4.2 _ ld (by omega)).trans cd
   obtain ⟨s,rfl⟩:∃ s:Nat,r2=s:=⟨r2.toNat,by omega⟩
   try simp only [OpK_eq,HKv,go_sem]
   refine (p73 s (Nat.lt_of_lt_of_le (by omega:s<32) (by decide))).go ?_
   have hpl:(nz (pof s 62)).length≤5:=by
    have e:pof s 62=pof s n':=by
     have:=pof_ext (s:=s) (n:=n') (Int.ofNat_lt.1 b2) (62 - n')
     rwa [show n'+(62 - n')=62 by omega] at this
    rw [nz_len,e]
    exact Nat.le_trans (pof_le s n') (by omega)
   have hpe:(pof s 62).map (fun x:Nat=>(x:Int))=nz (pof s 62):=rfl
   rw [hpe]
   generalize nz (pof s 62)=L at *
   have wx2:∀ o,(τ2.set x o)[x]? = some o:=fun o=>List.getElem?_set_self (List.getElem?_eq_some_iff.1 wx).1
   try simp only [OpK_eq,HKv,wx,putC3,wx2,subC3,go_sem]
   have wd2:(τ2.set x (AObj.box [PV.ref d ver 0 i,PV.int .i64 0,PV.list (ints L)]))[d]? = some (.arr ver 48 6 (aggs T)):=(List.getElem?_set_ne (by omega)).trans wd
   have w02:(τ2.set x (AObj.box [PV.ref d ver 0 i,PV.int .i64 0,PV.list (ints L)]))[0]? = some (.box [PV.nils,PV.int .i64 0,PV.nils]):=(List.getElem?_set_ne (by omega)).trans w0
   have wS:=b3.set2 (id:=x) (by omega) (AObj.box [PV.ref d ver 0 i,PV.int .i64 0,PV.list (ints L)])
   generalize τ2.set x (AObj.box [PV.ref d ver 0 i,PV.int .i64 0,PV.list (ints L)]) = π2 at *
   refine ACall.giveAt (args':=[.ptr 1 0,acv T 0 L]) wd2 ?_ rfl (fun j c' d' hc hd'=>?_)
   ·have wS2:=wS.set2 (id:=d) (by omega) .dead
    have w03:(π2.set d .dead)[0]? = some (.box [PV.nils,PV.int .i64 0,PV.nils]):=(List.getElem?_set_ne (by omega)).trans w02
    have w03l:=(List.getElem?_eq_some_iff.1 w03).1
    refine p68 hl wS2 hTm (by omega) (by omega) hpl fun M q L τ3 q1 q2 q3=>?_
    have hz2:τ3[0]? = some (.box [PV.nils,PV.int .i64 0,PV.nils]):=(q3.2 0 w03l (by omega)).trans w03
    have hs:∀ o,(τ3.set 0 o)[0]? = some o:=fun o=>List.getElem?_set_self (List.getElem?_eq_some_iff.1 hz2).1
    try simp only [OpK_eq,HKv,hz2,putC3,hs,subC3,go_sem]
    exact Kv.Fin.still (hK M q L q1)
   ·rcases j with _ | _ | j
    ·simp only [List.getElem?_cons_zero,Option.some.injEq] at hc hd'
     subst hc; subst hd'
     exact .inr ⟨rfl,upto_ptr (by omega)⟩
    ·simp only [List.getElem?_cons_succ,List.getElem?_cons_zero,Option.some.injEq] at hc hd'
     subst hc; subst hd'
     refine .inl (Imm.acc ?_ Imm.still rfl rfl)
     have:=Imm.refa (solo_get wd2)
     rwa [hT] at this
    ·simp at hc
 ·try simp only [OpK_eq,HKv,hb1,subC3,go_sem]
  refine p68 hl a1 m1 m2 m3 m4 fun M q L τ3 q1 q2 q3=>?_
  have hk:=hk1.trans q3
  have hz2:τ3[0]? = some (.box [PV.nils,PV.int .i64 0,PV.nils]):=(hk.2 0 hzl (by omega)).trans hz
  have hs:∀ o,(τ3.set 0 o)[0]? = some o:=fun o=>List.getElem?_set_self (List.getElem?_eq_some_iff.1 hz2).1
  try simp only [OpK_eq,HKv,hz2,putC3,hs,subC3,go_sem]
  exact Kv.Fin.still (hK M q L q1)
end
end
end Go.Proofs.YtcfmmmloeaggmaaGreat
section

end
section

end
section

end
namespace Go.Proofs.YtcfmmmloeaggmaaGreat
open Go.Kv
set_option linter.unusedVariables false
set_option linter.unusedSimpArgs false
section
section
attribute [local irreducible] ACall PCall KL
structure SA (ρ:Heap) (a:Nat) (l:List Int) (f:List Nat) (r0 r1:AObj):Prop where
 src:Src ρ 2 l
 z0:ρ[0]? = some r0
 z1:ρ[1]? = some r1
 fa:ρ[a]? = some (.box (ints (mp f)))
 a2:2<a
theorem SA.step {ρ ρ':Heap} {a:Nat} {l:List Int} {f:List Nat} {r0 r1:AObj} (h:SA ρ a l f r0 r1) (hS:Src ρ' 2 l) (hK:Kept ρ ρ' 2):SA ρ' a l f r0 r1:=by
 have:=h.src.lt
 have h2:=h.a2
 have h3:=(List.getElem?_eq_some_iff.1 h.fa).1
 exact ⟨hS,(hK.2 0 (by omega) (by decide)).trans h.z0,(hK.2 1 (by omega) (by decide)).trans h.z1,(hK.2 a h3 (by omega)).trans h.fa,h.a2⟩
theorem SA.app {ρ:Heap} {a:Nat} {l:List Int} {f:List Nat} {r0 r1:AObj} (h:SA ρ a l f r0 r1) (X:Heap):SA (ρ ++ X) a l f r0 r1:=h.step (h.src.app X) (Kept.app _ _ _)
structure SI (ρ:Heap) (a b:Nat) (l:List Int) (f:List Nat) (g:List Int) (r0 r1:AObj):Prop where
 s:SA ρ a l f r0 r1
 gb:ρ[b]? = some (.box (ints g))
 len:g.length=6
 pt:0≤g.getD 0 0∧g.getD 0 0≤5
 b2:2<b
 ab:a≠b
theorem SI.step {ρ ρ':Heap} {a b:Nat} {l:List Int} {f:List Nat} {g:List Int} {r0 r1:AObj} (h:SI ρ a b l f g r0 r1) (hS:Src ρ' 2 l) (hK:Kept ρ ρ' 2):SI ρ' a b l f g r0 r1:=by
 have h2:=h.b2
 have h3:=(List.getElem?_eq_some_iff.1 h.gb).1
 exact ⟨h.s.step hS hK,(hK.2 b h3 (by omega)).trans h.gb,h.len,h.pt,h.b2,h.ab⟩
theorem mp_pt {f:List Nat} {n:Nat} (hf:Ok f n):0≤(mp f).getD 0 0∧(mp f).getD 0 0≤5:=by
 have:(mp f).getD 0 0=(f.length:Int):=rfl
 have:=hf.le
 have:=hf.len
 omega
theorem ord_perm {L:List Int} {n:Nat} (h1:1≤n) (h5:n≤5) (hl:L.length=n) (hx:(∀ x∈L,0≤x∧x<n)∧L.Nodup):Ok (L.map Int.toNat) n∧(L.map Int.toNat).Nodup∧(L.map Int.toNat).map (fun x:Nat=>(x:Int))=L:=by
 refine ⟨⟨by rw [List.length_map,hl],h1,h5,fun x hx'=>?_⟩,?_,?_⟩
 ·obtain ⟨y,hy,rfl⟩:=List.mem_map.1 hx'
  have:=hx.1 y hy; omega
 ·rw [List.nodup_iff_pairwise_ne,List.pairwise_map]
  refine List.Pairwise.imp_of_mem (fun {a b} ha hb hab e=>hab ?_) (List.nodup_iff_pairwise_ne.1 hx.2)
  have:=hx.1 a ha
  have:=hx.1 b hb
  omega
 ·rw [List.map_map]
  conv=>rhs; rw [← List.map_id L]
  exact List.map_congr_left fun x hx'=>by have:=hx.1 x hx'; simp only [Function.comp_apply,id_eq]; omega
end
end
end Go.Proofs.YtcfmmmloeaggmaaGreat
section
section
namespace Go.Kv
set_option linter.unusedVariables false
set_option linter.unusedSimpArgs false
variable {P:Program} {N n0:Nat}
def trDrawB (P:Program) (fz:List Nat) (N:Nat) (ops:Array Oper):Option (List KO):=if ops.size≤8 then none else trDraw P fz N ops
theorem AW_drawB {id:Nat} {fz:List Nat} {ops:Array Oper} {kos:List KO} {Q:Exit→Env→Heap→Prop} {env:Env} {σ:Heap} (hf:P.follows .mixedOrders=true) (hm:trDrawB P fz N ops=some kos) (hv:vOps P kos Q env σ):AW P N n0 (.region id ops true) Q env σ:=by
 unfold trDrawB at hm
 split at hm
 ·cases hm
 ·exact AW_draw hf hm hv
def mkCfgB (P:Program) (hf:P.follows .mixedOrders=true) (fz:List Nat) (N n0:Nat):Cfg where
 P:=P
 fz:=fz
 N:=N
 n0:=n0
 D:=vOps P
 dr:=trDrawB P fz N
 ok:=fun _ _ _ _ _ _ h hv=>AW_drawB hf h hv
 drT:=trDrawT P fz N
 okT:=fun _ _ _ _ _ _ h hv=>AW_drawT hf h hv
section code
variable {hf:P.follows .mixedOrders=true} {fz:List Nat} {Q:Exit→Env→Heap→Prop} {env:Env} {σ:Heap}
@[go_sem] theorem vcB_ops (l:List KO):vc (mkCfgB P hf fz N n0) (.ops l) Q env σ = vOps P l Q env σ:=Eq.trans rfl rfl
@[go_sem] theorem vcB_draw (l:List KO):vc (mkCfgB P hf fz N n0) (.draw l) Q env σ = vOps P l Q env σ:=Eq.trans rfl rfl
@[go_sem] theorem vcB_tree (t:KT):vc (mkCfgB P hf fz N n0) (.tree t) Q env σ = vT P t Q env σ:=Eq.trans rfl rfl
end code
end Go.Kv
end
end
namespace Go.Proofs.YtcfmmmloeaggmaaGreat
open Go.Kv
set_option linter.unusedVariables false
set_option linter.unusedSimpArgs false
section
section
set_option maxRecDepth 100000
def k42_b0:KC:=(.seq (.seq (.ops [mV 31 8,oP 32 (.fieldA 0 (.t 5)),oP 33 (.load false 1 (.t 32)),oP 34 (.len false (.t 33)),oP 35 (.bin .lss (.t 31) (.t 34))])
 (.cond (.t 35) .skip (.exit 1)))
 (.seq (.block 2 (.draw [oP 38 (.fieldA 0 (.t 6)),oP 39 (.load false 1 (.t 38)),oP 40 (.fieldA 0 (.t 5)),oP 41 (.load false 1 (.t 40)),mV 42 8,oP 43 (.idxS 6 (.t 41) (.t 42)),oP 44 (.load true 6 (.t 43)),oP 45 (.load true 6 (.t 7)),oP 46 (.pcall (fC 110) [(.t 44),(.t 45)]),oP 47 (.bsl true 48 6 [(.t 46)]),oP 48 (.app (.t 39) (.t 47) 48 6),oP 49 (.fieldA 0 (.t 6)),⟨none,none,.store 1 (.t 49) (.t 48)⟩]))
 (.ops [mV 36 8,oP 37 (.bin .add (.t 36) (iC 1)),mV 8 37])))
abbrev k42s0:KT:=(.op (oP 54 (.call (fC 111) [(.t 50),(.t 53)])) (.op (mV 9 54) .fin))
abbrev k42s1:KT:=(.op (oP 53 (.call (fC 112) [(.t 52)])) k42s0)
abbrev k42s2:KT:=(.op (oP 52 (.load false 1 (.t 51))) k42s1)
abbrev k42s3:KT:=(.op (oP 85 (.call (fC 68) [(.t 83),(.t 84)])) (.op ⟨none,none,.store 3 (.t 2) (.t 82)⟩ (.op ⟨none,none,.store 3 (.t 3) (.t 85)⟩ .fin)))
abbrev k42s4:KT:=(.op (oP 82 (.call (fC 68) [(.t 80),(.t 81)])) k42s3)
def k42:KC:=(.seq (.ops [oP 2 (.alloc [.nils,.int .i64 0,.nils]),oP 3 (.alloc [.nils,.int .i64 0,.nils])])
 (.seq (.ops [mV 10 0,oP 11 (.call (fC 53) [(.t 10)]),mV 4 11])
 (.seq (.ops [mV 12 4,oP 13 (.call (fC 66) [(.t 12)]),oP 5 (.alloc [.nils,.int .i64 0,.nils]),⟨none,none,.store 3 (.t 5) (.t 13)⟩])
 (.seq (.ops [oP 14 (.build [.nils,.int .i64 0,.nils] []),oP 6 (.alloc [.nils,.int .i64 0,.nils]),⟨none,none,.store 3 (.t 6) (.t 14)⟩])
 (.seq (.seq (.ops [mV 15 4,oP 16 (.call (fC 72) [(.t 15),(iC 4)])])
 (.block 0 (.seq (.ops [oP 73 (.bin .eql (.t 16) (iC 0)),mV 72 73])
 (.cond (.t 72) (.ops [mV 74 4,oP 75 (.call (fC 66) [(.t 74)]),⟨none,none,.store 3 (.t 6) (.t 75)⟩]) (.seq (.ops [oP 77 (.bin .eql (.t 16) (iC 1)),mV 76 77])
 (.cond (.t 76) (.ops [oP 78 (.load true 3 (.t 5)),oP 79 (.call (fC 63) [(.t 78)]),⟨none,none,.store 3 (.t 6) (.t 79)⟩]) (.seq (.ops [mV 17 4,oP 18 (.fieldA 0 (.t 5)),oP 19 (.load false 1 (.t 18)),oP 20 (.idxS 6 (.t 19) (iC 0)),oP 21 (.fieldA 0 (.t 20)),oP 22 (.load false 1 (.t 21)),oP 23 (.call (fC 109) [(.t 17),(.t 22)]),oP 24 (.call (fC 108) [(.t 23)]),oP 7 (.alloc [.int .i64 0,.int .i64 0,.int .i64 0,.int .i64 0,.int .i64 0,.int .i64 0]),⟨none,none,.store 6 (.t 7) (.t 24)⟩])
 (.seq (.ops [oP 25 (.fieldA 1 (.t 5)),oP 26 (.load false 1 (.t 25)),oP 27 (.fieldA 1 (.t 7)),oP 28 (.idxA 5 1 (.t 27) (.t 26)),oP 29 (.load false 1 (.t 28)),oP 30 (.fieldA 1 (.t 6)),⟨none,none,.store 1 (.t 30) (.t 29)⟩])
 (.seq (.seq (.ops [oP 8 (.mv (iC 0))])
 (.block 1 (.loop k42_b0)))
 (.seq (.tree (.alt (.op (oP 50 (.load true 6 (.t 7))) (.op (oP 51 (.fieldA 2 (.t 5))) k42s2)) (.op (oP 51 (.fieldA 2 (.t 5))) (.alt (.op (oP 50 (.load true 6 (.t 7))) k42s2) (.op (oP 52 (.load false 1 (.t 51))) (.alt (.op (oP 50 (.load true 6 (.t 7))) k42s1) (.op (oP 53 (.call (fC 112) [(.t 52)])) (.op (oP 50 (.load true 6 (.t 7))) k42s0))))))))
 (.seq (.seq (.ops [mV 55 4,oP 56 (.call (fC 72) [(.t 55),(iC 3)]),oP 57 (.bin .eql (.t 56) (iC 0))])
 (.cond (.t 57) (.ops [mV 58 9,mV 59 4,oP 60 (.fieldA 0 (.t 5)),oP 61 (.load false 1 (.t 60)),oP 62 (.idxS 6 (.t 61) (iC 0)),oP 63 (.fieldA 0 (.t 62)),oP 64 (.load false 1 (.t 63)),oP 65 (.call (fC 72) [(.t 59),(.t 64)]),oP 66 (.conv .u64 (.t 65)),oP 67 (.bin .shl (iC 1) (.t 66)),oP 68 (.bin .xor (.t 58) (.t 67)),mV 9 68]) .skip))
 (.ops [mV 69 9,oP 70 (.call (fC 73) [(.t 69)]),oP 71 (.fieldA 2 (.t 6)),⟨none,none,.store 1 (.t 71) (.t 70)⟩]))))))))))))
 (.seq (.tree (.op (mV 80 4) (.op (mV 83 4) (.alt (.op (oP 81 (.load true 3 (.t 5))) (.alt (.op (oP 82 (.call (fC 68) [(.t 80),(.t 81)])) (.op (oP 84 (.load true 3 (.t 6))) k42s3)) (.op (oP 84 (.load true 3 (.t 6))) k42s4))) (.op (oP 84 (.load true 3 (.t 6))) (.op (oP 81 (.load true 3 (.t 5))) k42s4))))))
 .ret))))))
theorem e42 {args:List PV} {σ:Heap} {K:PV→Heap→Prop} (hl:args.length≤86) (h:Wf σ→(∀ a∈args,PV.upto σ.length a)→vc (mkCfgB Tryz.prog mixed [47] 86 σ.length) k42 (FinK σ.length [.cell 2 true 3,.cell 3 true 3] K) (argEnv 0 args) σ):ACall Tryz.prog 42 args σ K :=
 ACall_enter (C:=mkCfgB Tryz.prog mixed [47] 86 σ.length) (c:=Tryz.f42.body.getD .skip) Tryz.func42 (by kernel_rfl) (by kernel_rfl) (by kernel_rfl) rfl hl (by kernel_rfl) (by kernel_rfl) h
abbrev k6s0:KT:=(.op ⟨none,none,.store 3 (.t 3) (.t 12)⟩ .fin)
abbrev k6s1:KT:=(.op ⟨none,none,.store 3 (.t 2) (.t 11)⟩ k6s0)
def k6:KC:=(.seq (.ops [oP 2 (.alloc [.nils,.int .i64 0,.nils]),oP 3 (.alloc [.nils,.int .i64 0,.nils])])
 (.seq (.ops [mV 7 0,oP 8 (.call (fC 42) [(.t 7)]),mV 6 8,oP 9 (.extr 0 (.t 6)),oP 10 (.extr 1 (.t 6)),oP 4 (.alloc [.nils,.int .i64 0,.nils]),oP 5 (.alloc [.nils,.int .i64 0,.nils]),⟨none,none,.store 3 (.t 4) (.t 9)⟩,⟨none,none,.store 3 (.t 5) (.t 10)⟩])
 (.seq (.tree (.alt (.op (oP 11 (.load true 3 (.t 4))) (.alt (.op (oP 12 (.load true 3 (.t 5))) k6s1) (.op ⟨none,none,.store 3 (.t 2) (.t 11)⟩ (.op (oP 12 (.load true 3 (.t 5))) k6s0)))) (.op (oP 12 (.load true 3 (.t 5))) (.op (oP 11 (.load true 3 (.t 4))) k6s1))))
 .ret)))
theorem e6:Ent 6 13 [] [.cell 2 true 3,.cell 3 true 3] k6:=ent Tryz.func6
end
section
attribute [local irreducible] ACall PCall KL
theorem aBin_xor {a b:Nat} (ha:a<2 ^ 62) (hb:b<2 ^ 62) {K:PV→Prop}:aBin .xor (.int .i64 (a:Int)) (.int .i64 (b:Int)) K=K (.int .i64 ((a ^^^ b:Nat):Int)):=by
 have h3:a ^^^ b<2 ^ 62:=Nat.xor_lt_two_pow ha hb
 have e:IntKind.i64.wrap ((BitVec.ofInt IntKind.i64.bits (a:Int) ^^^ BitVec.ofInt IntKind.i64.bits (b:Int)).toNat:Int)=((a ^^^ b:Nat):Int):=by
  have:(BitVec.ofInt IntKind.i64.bits (a:Int) ^^^ BitVec.ofInt IntKind.i64.bits (b:Int)).toNat=a ^^^ b:=by
   show (BitVec.ofInt 64 (a:Int) ^^^ BitVec.ofInt 64 (b:Int)).toNat=a ^^^ b
   rw [BitVec.toNat_xor,ofInt_nat,ofInt_nat,(Go.Kv.p62 ha),(Go.Kv.p62 hb)]
  rw [this]; exact wrap_i64 (Nat.lt_trans h3 (by decide))
 rw [aBin_int]
 show K _=_
 rw [e]
def MV (σ:Heap) (x5 x6:Nat) (A:PV) (T:List (List Int)):Prop:=A = .list (aggs T)∨∃ id ver,A = .ref id ver 0 T.length∧σ[id]? = some (.arr ver 48 6 (aggs T))∧2<id∧id≠x5∧id≠x6
theorem MV.step {σ σ':Heap} {x5 x6:Nat} {A:PV} {T:List (List Int)} (h:MV σ x5 x6 A T) (hk:∀ id,id < σ.length→2<id→id≠x5→id≠x6→σ'[id]? = σ[id]?):MV σ' x5 x6 A T:=by
 rcases h with h | ⟨id,ver,h1,h2,h3,h4,h5⟩
 ·exact .inl h
 ·exact .inr ⟨id,ver,h1,(hk id (List.getElem?_eq_some_iff.1 h2).1 h3 h4 h5).trans h2,h3,h4,h5⟩
theorem MV.okc {σ:Heap} {x5 x6:Nat} {A:PV} {T:List (List Int)} (h:MV σ x5 x6 A T):A.ok=true∧A.cs = [A]:=by
 rcases h with rfl | ⟨id,ver,rfl,_⟩ <;> exact ⟨rfl,rfl⟩
theorem badMV {l:List Int} (hl:Byt l) {σ:Heap} (hS:Src σ 2 l) {x5 x6:Nat} {A:PV} {T:List (List Int)} (hA:MV σ x5 x6 A T) {q:Int} {L:List Int} (hM:Mps T) (h1:1≤T.length) (h6:T.length≤6) (hL:L.length≤5) {K:PV→Heap→Prop}
  (hK:∀ (M:List (List Int)) (q:Int) (L:List Int) σ',AnyA M L→Src σ' 2 l→(∀ id,id<2→id < σ.length→σ'[id]? = σ[id]?)→K (acv M q L) σ'):ACall Tryz.prog 68 [.ptr 2 0,.agg [A,.int .i64 q,.list (ints L)]] σ K:=by
 rcases hA with rfl | ⟨id,ver,rfl,hid,h3,_,_⟩
 ·exact p68 hl hS hM h1 h6 hL fun M q L σ' a1 a2 a3=>hK M q L σ' a1 a2 fun id h h'=>a3.2 id h' (by omega)
 ·refine ACall.giveAt (args':=[.ptr 2 0,acv T q L]) hid ?_ rfl (fun j c' d' hc hd'=>?_)
  ·exact p68 hl (hS.set2 (by omega) _) hM h1 h6 hL fun M q L σ' a1 a2 a3=>hK M q L σ' a1 a2 fun j h h'=>(a3.2 j (by rw [List.length_set]; exact h') (by omega)).trans (List.getElem?_set_ne (by omega))
  ·rcases j with _ | _ | j
   ·simp only [List.getElem?_cons_zero,Option.some.injEq] at hc hd'
    subst hc; subst hd'
    exact .inr ⟨rfl,upto_ptr (by omega)⟩
   ·simp only [List.getElem?_cons_succ,List.getElem?_cons_zero,Option.some.injEq] at hc hd'
    subst hc; subst hd'
    exact .inl (Imm.acc (Imm.refa (solo_get hid)) Imm.still rfl rfl)
   ·simp at hc
structure TwoH (σ:Heap) (l:List Int) (x5 x6:Nat) (M:List (List Int)) (q:Int) (L:List Int) (A B C:PV):Prop where
 s0:σ[0]? = some (.box [.nils,.int .i64 0,.nils])
 s1:σ[1]? = some (.box [.nils,.int .i64 0,.nils])
 src:Src σ 2 l
 s5:σ[x5]? = some (.box [.list (aggs M),.int .i64 q,.list (ints L)])
 s6:σ[x6]? = some (.box [A,B,C])
 g5:2<x5
 g6:2<x6
 d:x5≠x6
theorem TwoH.step {σ τ:Heap} {l:List Int} {x5 x6:Nat} {M:List (List Int)} {q:Int} {L:List Int} {A B C:PV} (h:TwoH σ l x5 x6 M q L A B C) (hS:Src τ 2 l) (hK:Kept σ τ 2):TwoH τ l x5 x6 M q L A B C:=by
 have h5:=h.g5
 have h6:=h.g6
 exact ⟨(hK.2 _ (List.getElem?_eq_some_iff.1 h.s0).1 (by omega)).trans h.s0,(hK.2 _ (List.getElem?_eq_some_iff.1 h.s1).1 (by omega)).trans h.s1,hS,(hK.2 _ (List.getElem?_eq_some_iff.1 h.s5).1 (by omega)).trans h.s5,(hK.2 _ (List.getElem?_eq_some_iff.1 h.s6).1 (by omega)).trans h.s6,h5,h6,h.d⟩
theorem TwoH.set {σ:Heap} {l:List Int} {x5 x6:Nat} {M:List (List Int)} {q:Int} {L:List Int} {A B C:PV} (h:TwoH σ l x5 x6 M q L A B C) (A' B' C':PV):TwoH (σ.set x6 (.box [A',B',C'])) l x5 x6 M q L A' B' C':=by
 have h5:=h.g5
 have h6:=h.g6
 exact ⟨(List.getElem?_set_ne (by omega)).trans h.s0,(List.getElem?_set_ne (by omega)).trans h.s1,h.src.set2 (by omega) _,(List.getElem?_set_ne (Ne.symm h.d)).trans h.s5,List.getElem?_set_self (List.getElem?_eq_some_iff.1 h.s6).1,h5,h6,h.d⟩
theorem TwoH.oth {σ:Heap} {l:List Int} {x5 x6:Nat} {M:List (List Int)} {q:Int} {L:List Int} {A B C:PV} (h:TwoH σ l x5 x6 M q L A B C) {id:Nat} (h2:2<id) (h5:id≠x5) (h6:id≠x6) (o:AObj):TwoH (σ.set id o) l x5 x6 M q L A B C:=by
 exact ⟨(List.getElem?_set_ne (by omega)).trans h.s0,(List.getElem?_set_ne (by omega)).trans h.s1,h.src.set2 (by omega) _,(List.getElem?_set_ne h5).trans h.s5,(List.getElem?_set_ne h6).trans h.s6,h.g5,h.g6,h.d⟩
theorem TwoH.app {σ:Heap} {l:List Int} {x5 x6:Nat} {M:List (List Int)} {q:Int} {L:List Int} {A B C:PV} (h:TwoH σ l x5 x6 M q L A B C) (X:Heap):TwoH (σ ++ X) l x5 x6 M q L A B C:=h.step (h.src.app X) (Kept.app _ _ _)
def MVn (σ:Heap) (x5 x6 x7:Nat) (A:PV) (T:List (List Int)):Prop:=(A = .nils∧T = [])∨∃ id ver,A = .ref id ver 0 T.length∧σ[id]? = some (.arr ver 48 6 (aggs T))∧2<id∧id≠x5∧id≠x6∧id≠x7
theorem both_tail {l:List Int} (hl:Byt l) {K:PV→Heap→Prop} (hK:∀ M q L M' q' L',AnyA M L→AnyA M' L'→K (.tup [acv M q L,acv M' q' L']) []) {σ:Heap} {x5 x6:Nat} {M:List (List Int)} {q:Int} {L:List Int} {A:PV} {T:List (List Int)} {q':Int} {L':List Int} (h:TwoH σ l x5 x6 M q L A (.int .i64 q') (.list (ints L')))
  (hA:MV σ x5 x6 A T) (m1:Mps M) (m2:1≤M.length) (m3:M.length≤6) (m4:L.length≤5) (t1:Mps T) (t2:1≤T.length) (t3:T.length≤6) (t4:L'.length≤5) (env:Env)
  (u2:Kv.look env 2 = .ptr 0 0) (u3:Kv.look env 3 = .ptr 1 0) (u4:Kv.look env 4 = .ptr 2 0) (u5:Kv.look env 5 = .ptr x5 0) (u6:Kv.look env 6 = .ptr x6 0) :
  vc (mkCfgB Tryz.prog mixed [47] 86 0) (drK 5 k42) (FinK 0 [.cell 2 true 3,.cell 3 true 3] K) env σ:=by
 have e0:=h.s0
 have e1:=h.s1
 have e5:=h.s5
 have e6:=h.s6
 have h5:=h.g5
 have h6:=h.g6
 obtain ⟨ok1,cs1⟩:=hA.okc
 have l0:=(List.getElem?_eq_some_iff.1 e0).1
 have l1:=(List.getElem?_eq_some_iff.1 e1).1
 simp only [drK,tlK,k42]
 try simp only [OpK_eq,HKv,u2,u3,u4,u5,u6,e5,subC3,go_sem]
 rw [vT_alt]
 refine ⟨?_,?_⟩
 ·try simp only [OpK_eq,HKv,u5,u6,e5,subC3,go_sem]
  rw [vT_alt]
  refine ⟨?_,?_⟩
  ·try simp only [OpK_eq,HKv,u5,u6,e5,subC3,go_sem]
   refine p68 hl h.src m1 m2 m3 m4 fun M1 q1 L1 σ1 a1 a2 a3=>?_
   have h1:=h.step a2 a3
   have hA1:MV σ1 x5 x6 A T:=hA.step fun id i1 i2 _ _=>a3.2 id i1 (by omega)
   have e6':=h1.s6
   try simp only [OpK_eq,HKv,u5,u6,e6',subC3,go_sem]
   refine badMV hl h1.src hA1 t1 t2 t3 t4 fun M2 q2 L2 σ2 b1 b2 b3=>?_
   have z0:=(b3 0 (by omega) (List.getElem?_eq_some_iff.1 h1.s0).1).trans h1.s0
   have z1:=(b3 1 (by omega) (List.getElem?_eq_some_iff.1 h1.s1).1).trans h1.s1
   have z0s:∀ o,(σ2.set 0 o)[0]? = some o:=fun o=>List.getElem?_set_self (List.getElem?_eq_some_iff.1 z0).1
   have z1s:∀ o,(σ2.set 0 o)[1]? = some (.box [.nils,.int .i64 0,.nils]):=fun o=>(List.getElem?_set_ne (by omega)).trans z1
   have z2s:∀ o o',((σ2.set 0 o).set 1 o')[1]? = some o':=fun o o'=>List.getElem?_set_self (by rw [List.length_set]; exact (List.getElem?_eq_some_iff.1 z1).1)
   have z3s:∀ o o',((σ2.set 0 o).set 1 o')[0]? = some o:=fun o o'=>(List.getElem?_set_ne (by omega)).trans (z0s o)
   try simp only [OpK_eq,HKv,u2,u3,z0,z0s,z1s,z2s,z3s,putC3,subC3,go_sem]
   exact Kv.Fin.still (hK M1 q1 L1 M2 q2 L2 a1 b1)
  ·try simp only [OpK_eq,HKv,u5,u6,e5,e6,subC3,go_sem]
   refine p68 hl h.src m1 m2 m3 m4 fun M1 q1 L1 σ1 a1 a2 a3=>?_
   have h1:=h.step a2 a3
   have hA1:MV σ1 x5 x6 A T:=hA.step fun id i1 i2 _ _=>a3.2 id i1 (by omega)
   have e6':=h1.s6
   try simp only [OpK_eq,HKv,u5,u6,e6',subC3,go_sem]
   refine badMV hl h1.src hA1 t1 t2 t3 t4 fun M2 q2 L2 σ2 b1 b2 b3=>?_
   have z0:=(b3 0 (by omega) (List.getElem?_eq_some_iff.1 h1.s0).1).trans h1.s0
   have z1:=(b3 1 (by omega) (List.getElem?_eq_some_iff.1 h1.s1).1).trans h1.s1
   have z0s:∀ o,(σ2.set 0 o)[0]? = some o:=fun o=>List.getElem?_set_self (List.getElem?_eq_some_iff.1 z0).1
   have z1s:∀ o,(σ2.set 0 o)[1]? = some (.box [.nils,.int .i64 0,.nils]):=fun o=>(List.getElem?_set_ne (by omega)).trans z1
   have z2s:∀ o o',((σ2.set 0 o).set 1 o')[1]? = some o':=fun o o'=>List.getElem?_set_self (by rw [List.length_set]; exact (List.getElem?_eq_some_iff.1 z1).1)
   have z3s:∀ o o',((σ2.set 0 o).set 1 o')[0]? = some o:=fun o o'=>(List.getElem?_set_ne (by omega)).trans (z0s o)
   try simp only [OpK_eq,HKv,u2,u3,z0,z0s,z1s,z2s,z3s,putC3,subC3,go_sem]
   exact Kv.Fin.still (hK M1 q1 L1 M2 q2 L2 a1 b1)
 ·try simp only [OpK_eq,HKv,u5,u6,e5,e6,subC3,go_sem]
  refine p68 hl h.src m1 m2 m3 m4 fun M1 q1 L1 σ1 a1 a2 a3=>?_
  have h1:=h.step a2 a3
  have hA1:MV σ1 x5 x6 A T:=hA.step fun id i1 i2 _ _=>a3.2 id i1 (by omega)
  have e6':=h1.s6
  try simp only [OpK_eq,HKv,u5,u6,e6',subC3,go_sem]
  refine badMV hl h1.src hA1 t1 t2 t3 t4 fun M2 q2 L2 σ2 b1 b2 b3=>?_
  have z0:=(b3 0 (by omega) (List.getElem?_eq_some_iff.1 h1.s0).1).trans h1.s0
  have z1:=(b3 1 (by omega) (List.getElem?_eq_some_iff.1 h1.s1).1).trans h1.s1
  have z0s:∀ o,(σ2.set 0 o)[0]? = some o:=fun o=>List.getElem?_set_self (List.getElem?_eq_some_iff.1 z0).1
  have z1s:∀ o,(σ2.set 0 o)[1]? = some (.box [.nils,.int .i64 0,.nils]):=fun o=>(List.getElem?_set_ne (by omega)).trans z1
  have z2s:∀ o o',((σ2.set 0 o).set 1 o')[1]? = some o':=fun o o'=>List.getElem?_set_self (by rw [List.length_set]; exact (List.getElem?_eq_some_iff.1 z1).1)
  have z3s:∀ o o',((σ2.set 0 o).set 1 o')[0]? = some o:=fun o o'=>(List.getElem?_set_ne (by omega)).trans (z0s o)
  try simp only [OpK_eq,HKv,u2,u3,z0,z0s,z1s,z2s,z3s,putC3,subC3,go_sem]
  exact Kv.Fin.still (hK M1 q1 L1 M2 q2 L2 a1 b1)
theorem pof_len5 {s n:Nat} (h:s<2 ^ n) (h5:n≤5):(nz (pof s 62)).length≤5:=by
 have e:pof s 62=pof s n:=by
  have:=pof_ext h (62 - n)
  rwa [show n+(62 - n)=62 by omega] at this
 rw [nz_len,e]
 exact Nat.le_trans (pof_le s n) h5
theorem xor_bit {n s:Nat} {r:Int} (h5:n≤5) (hs:s<2 ^ n) (h0:0≤r) (hr:r<n):∃ (k b:Nat),r=k∧(∀ {K:PV→Prop},aBin .shl (.int .i64 1) (.int .u64 (k:Int)) K=K (.int .i64 (b:Int)))∧IntKind.u64.wrap (k:Int)=k∧b<2 ^ n∧(∀ {K:PV→Prop},aBin .xor (.int .i64 (s:Int)) (.int .i64 (b:Int)) K=K (.int .i64 ((s ^^^ b:Nat):Int))):=by
 have hk:r.toNat<n:=by omega
 have hb:2 ^ r.toNat<2 ^ n:=Nat.pow_lt_pow_right (by decide) hk
 have hp:2 ^ n≤2 ^ 5:=Nat.pow_le_pow_right (by decide) h5
 exact ⟨r.toNat,2 ^ r.toNat,by omega,fun {K}=>aBin_shl1 (by omega),wrapU64 (by omega),hb,fun {K}=>aBin_xor (by omega) (by omega)⟩
theorem GoodA.least {fs:List (List Nat)} {n q:Nat} {la:List Nat} (h:GoodA fs n q la):GoodA (lsM fs la q) (kF fs la q).length 0 (lsL fs la q):=by
 have hok:=lsM_ok la h.ok h.n5 h.qn
 have hml:(lsM fs la q).length=fs.length:=by simp [lsM]
 have h0:=h.h0
 have hfl:=h.fl
 have ho:=ord_ok h.ok h.n5 h.qn
 have hk1:=kF_pos (la:=la) ho.len.1
 have hk2:=kF_le fs la q
 have hl:=ho.len.2
 have hlt:∀ x∈lsL fs la q,x<(kF fs la q).length:=fun x hx=>List.mem_range.1 (List.mem_filter.1 hx).1
 have hasc:(lsL fs la q).Pairwise (· < ·):=List.Pairwise.filter _ List.pairwise_lt_range
 refine ⟨hok,by omega,by omega,by omega,by omega,stB_asc' hasc hlt,hlt,?_⟩
 have:(lsL fs la q).length≤(kF fs la q).length:=by
  unfold lsL
  exact Nat.le_trans (List.length_filter_le _ _) (by simp)
 omega
set_option maxHeartbeats 1000000 in
theorem p42 {l:List Int} (hl:Byt l) {K:PV→Heap→Prop} (hK:∀ M q L M' q' L',AnyA M L→AnyA M' L'→K (.tup [acv M q L,acv M' q' L']) []):ACall Tryz.prog 42 [.list (u8s l)] [] K:=by
 have htail:=@both_tail l hl K hK
 refine e42 (by simp) fun _ _=>?_
 rw [show k42=upK 5 k42 (drK 5 k42) from rfl]
 generalize drK 5 k42=t at htail ⊢
 simp only [upK,hdK,tlK,k42,argEnv]
 try simp only [OpK_eq,HKv,go_sem]
 refine p53G hl fun h=>?_
 have hS0:Src ([AObj.box [PV.nils,PV.int .i64 0,PV.nils],AObj.box [PV.nils,PV.int .i64 0,PV.nils]] ++ [srcO l 0 h]) 2 l:=⟨0,h,rfl,Nat.zero_le _⟩
 try simp only [OpK_eq,HKv,go_sem]
 refine p66 hl hS0 fun fs n q la τ g1 g2 g3=>?_
 have z0:τ[0]? = some (.box [PV.nils,PV.int .i64 0,PV.nils]):=g3.2 0 (by simp) (by omega)
 have z1:τ[1]? = some (.box [PV.nils,PV.int .i64 0,PV.nils]):=g3.2 1 (by simp) (by omega)
 have hl2:=g2.lt
 obtain ⟨m1,m2,m3,m4⟩:=g1.mps
 obtain ⟨e1,e2,e3⟩:=mpD0 g1.ok g1.h0
 have hn5:=g1.n5
 have hqn:=g1.qn
 have h0:=g1.h0
 have hfl:=g1.fl
 have hgb:∀ (s:Heap) (a:AObj),(s ++ [a])[s.length]? = some a:=fun s a=>by simp
 have hsb:∀ (s:Heap) (a b:AObj),(s ++ [a]).set s.length b=s ++ [b]:=fun s a b=>by simp [List.set_append_right]
 have hT:TwoH (τ ++ [AObj.box [.list (aggs (fs.map mp)),.int .i64 q,.list (ints (nz la))]] ++ [AObj.box [.nils,.int .i64 0,.nils]]) l τ.length (τ.length+1) (fs.map mp) q (nz la) .nils (.int .i64 0) .nils :=
  ⟨by rw [List.getElem?_append_left (by rw [List.length_append]; omega),List.getElem?_append_left (by omega)]; exact z0,by rw [List.getElem?_append_left (by rw [List.length_append]; omega),List.getElem?_append_left (by omega)]; exact z1,(g2.app _).app _,by rw [List.getElem?_append_left (by simp)]; simp,by rw [List.getElem?_append_right (by simp)]; simp,by omega,by omega,by omega⟩
 have hg2:∀ a c:AObj,(τ ++ [a] ++ [c])[τ.length+1]? = some c:=fun a c=>by
  rw [List.getElem?_append_right (by simp)]; simp
 have hs2:∀ a c d:AObj,(τ ++ [a] ++ [c]).set (τ.length+1) d = τ ++ [a] ++ [d]:=fun a c d=>by
  rw [List.set_append_right _ _ (by simp)]; simp
 try simp only [OpK_eq,HKv,hgb,hsb,hg2,hs2,putC3,subC3,go_sem]
 generalize τ ++ [AObj.box [.list (aggs (fs.map mp)),.int .i64 q,.list (ints (nz la))]] ++ [AObj.box [.nils,.int .i64 0,.nils]] = π at *
 generalize τ.length=x5 at *
 generalize x5+1=x6 at *
 clear hg2 hs2 z0 z1 g3 g2 hS0 hgb hsb
 have q5:=hT.g5
 have q6:=hT.g6
 have qd:=hT.d
 refine p72 hl hT.src _ fun r1 τ1 a1 a2 a3 a4 _=>?_
 have hT:=hT.step a3 a4
 clear a3 a4
 have s5:=hT.s5
 have s6:=hT.s6
 try simp only [OpK_eq,HKv,go_sem]
 refine ⟨fun hr=>?_,fun hr=>⟨fun hr2=>?_,fun hr2=>?_⟩⟩
 ·refine p66 hl hT.src fun fs' n' q' la' τ2 b1 b2 b3=>?_
  have hT:=hT.step b2 b3
  have s6:=hT.s6
  obtain ⟨t1,t2,t3,t4⟩:=b1.mps
  try simp only [OpK_eq,HKv,s6,putC3,go_sem]
  exact htail (hT.set _ _ _) (.inl rfl) m1 m2 m3 m4 t1 t2 t3 t4 _ (by simp) (by simp) (by simp) (by simp) (by simp)
 ·try simp only [OpK_eq,HKv,s5,subC3,go_sem]
  refine (p63 fs n g1.ok hn5 h0 (by omega) q hqn la g1.l5 g1.ll).go ?_
  obtain ⟨t1,t2,t3,t4⟩:=g1.least.mps
  try simp only [OpK_eq,HKv,s6,putC3,go_sem]
  exact htail (hT.set _ _ _) (.inl rfl) m1 m2 m3 m4 t1 t2 t3 t4 _ (by simp) (by simp) (by simp) (by simp) (by simp)
 ·try simp only [OpK_eq,HKv,s5,subC3,e1,e2,e3,List.length_map,go_sem]
  refine ⟨by omega,fun _=>?_⟩
  have hn1:1≤n:=(g1.ok _ (List.getElem_mem h0)).pos
  refine p109S hl hT.src n (by omega) fun O id ver τ2 b1 b2 b3 b4 b5 b6=>?_
  have hT:=hT.step b3 b4
  obtain ⟨pk,pd,pe⟩:=ord_perm hn1 hn5 b1 b2
  generalize O.map Int.toNat=pp at *
  have h6p:=pk.mp_len
  have hMd:=p108 pp (by rw [pk.len]; exact hn5)
  rw [pe] at hMd
  have hidl:=(List.getElem?_eq_some_iff.1 b6).1
  try simp only [OpK_eq,HKv,go_sem]
  refine hMd.lend (.cons (Imm.refn b6 b1.symm) (.nil _)) ?_
  have hgb:∀ (a:AObj),(τ2 ++ [a])[τ2.length]? = some a:=fun a=>by simp
  have hsb:∀ (a b:AObj),(τ2 ++ [a]).set τ2.length b = τ2 ++ [b]:=fun a b=>by simp [List.set_append_right]
  have hput6:putC [PV.int .i64 0,.int .i64 0,.int .i64 0,.int .i64 0,.int .i64 0,.int .i64 0] 0 (ints (mp pp))=ints (mp pp):=put6 (by rw [ints_length,h6p]) rfl
  have hT7:=hT.app [AObj.box (ints (mp pp))]
  have h7:(τ2 ++ [AObj.box (ints (mp pp))])[τ2.length]? = some (AObj.box (ints (mp pp))):=by simp
  have n7:2 < τ2.length∧τ2.length≠x5∧τ2.length≠x6:=by
   have u5:=(List.getElem?_eq_some_iff.1 hT.s5).1
   have u6:=(List.getElem?_eq_some_iff.1 hT.s6).1
   omega
  have e5:=hT7.s5
  have e6:=hT7.s6
  have hpt:=h6p
  have hL5:(List.take 5 (List.drop 1 (mp pp))).length=5:=by
   rw [List.length_take,List.length_drop]; omega
  have hqt:(q:Int).toNat=q:=by omega
  try simp only [OpK_eq,HKv,hgb,hsb,hput6,h6p,e5,e6,subC3,hqt,hL5,go_sem]
  refine ⟨by omega,by omega,fun _=>?_⟩
  have hT8:=hT7.set .nils (.int .i64 (pp.getD q 0:Int)) .nils
  have h78:((τ2 ++ [AObj.box (ints (mp pp))]).set x6 (AObj.box [PV.nils,PV.int .i64 (pp.getD q 0:Int),PV.nils]))[τ2.length]? = some (AObj.box (ints (mp pp))):=(List.getElem?_set_ne (Ne.symm n7.2.2)).trans h7
  obtain ⟨n72,n75,n76⟩:=n7
  clear h7 e5 e6 hT7 hgb hsb hidl b3 b4 b5 b6
  generalize (τ2 ++ [AObj.box (ints (mp pp))]).set x6 (AObj.box [PV.nils,PV.int .i64 (pp.getD q 0:Int),PV.nils]) = χ0 at *
  generalize τ2.length=x7 at *
  generalize (pp.getD q 0:Int)=qq at *
  refine KL_ind k42_b0.eq_1 (fun y:Nat × PV × List (List Int) × Heap=>[(2,.ptr 0 0),(3,.ptr 1 0),(4,.ptr 2 0),(5,.ptr x5 0),(6,.ptr x6 0),(7,.ptr x7 0),(8,.int .i64 y.1)]) (fun y=>y.2.2.2)
   (fun y=>y.1≤fs.length∧y.2.2.1.length=y.1∧Mps y.2.2.1∧TwoH y.2.2.2 l x5 x6 (fs.map mp) q (nz la) y.2.1 (.int .i64 qq) .nils∧y.2.2.2[x7]? = some (.box (ints (mp pp)))∧MVn y.2.2.2 x5 x6 x7 y.2.1 y.2.2.1) (fun y=>fs.length - y.1) [2,3,4,5,6,7,8]
   (0,.nils,[],χ0) (by simp [keep]) rfl ⟨Nat.zero_le _,rfl,mps_nil,hT8,h78,.inl ⟨rfl,rfl⟩⟩ fun ⟨i,A,T,χ⟩ ⟨hi,hTl,hTm,hH,c7,hA⟩ ih=>?_
  simp only at hi hTl hTm hH c7 hA
  clear hT8 h78
  have e5:=hH.s5
  have e6:=hH.s6
  try simp only [OpK_eq,HKv,e5,e6,subC3,List.length_map,go_sem]
  refine ⟨fun g6=>?_,fun g6=>?_⟩
  ·have hil:i<fs.length:=by omega
   have hfo:=g1.ok _ (List.getElem_mem hil)
   have h6:=hfo.mp_len
   have hgi:(fs.map mp).getD i []=mp fs[i]:=by simp [List.getD_eq_getElem?_getD,hil]
   have hR:=p110 fs[i] pp n hfo pk pd
   have hro:=rnm_ok hfo pk pd
   have h6r:=hro.mp_len
   have hok:=ok6 h6r
   have hmr:Mps (T ++ [mp (rnm fs[i] pp)]):=fun r hr=>by
    rcases List.mem_append.1 hr with hr | hr
    ·exact hTm r hr
    ·rw [List.mem_singleton] at hr; subst hr
     exact ⟨h6r,mp_pt hro⟩
   try simp only [OpK_eq,HKv,e5,e6,subC3,hgi,h6,h6p,c7,List.length_map,go_sem]
   refine ⟨by omega,fun _=>hR.pgo ?_⟩
   have l6:=(List.getElem?_eq_some_iff.1 e6).1
   have l7:=(List.getElem?_eq_some_iff.1 c7).1
   rcases hA with ⟨rfl,rfl⟩ | ⟨id,ver,rfl,hid,z1,z2,z3,z4⟩
   ·have hHa:=hH.app [AObj.arr 0 48 6 [PV.agg (ints (mp (rnm fs[i] pp)))]]
    have e6a:=hHa.s6
    try simp only [OpK_eq,HKv,e6,hok,aNews_list,true_and,go_sem]
    try simp only [OpK_eq,HKv,e6a,putC3,go_sem]
    refine ⟨by omega,ih (i+1,.ref χ.length 0 0 1,[mp (rnm fs[i] pp)],_) ⟨by show i+1≤fs.length; omega,by show 1=i+1; simp at hTl; omega,hmr,hHa.set _ _ _,(List.getElem?_set_ne (Ne.symm n76)).trans ((List.getElem?_append_left l7).trans c7),.inr ⟨χ.length,0,rfl,(List.getElem?_set_ne (by omega)).trans (by simp [aggs]),by omega,by have:=(List.getElem?_eq_some_iff.1 e5).1; omega,by omega,by omega⟩⟩ (by show fs.length - (i+1)<fs.length - i; omega) _ _ (by simp [keep]) rfl⟩
   ·have ld:=(List.getElem?_eq_some_iff.1 hid).1
    try simp only [OpK_eq,HKv,e6,hok,hid,take_aggs,aggs_length,go_sem]
    have hHo:=hH.oth z1 z2 z3 (.arr (ver+1) 48 6 (aggs (T ++ [mp (rnm fs[i] pp)])))
    have e6a:=hHo.s6
    refine ⟨⟨Nat.le_refl _,by omega⟩,?_⟩
    try simp only [OpK_eq,HKv,e6a,putC3,go_sem]
    refine ⟨by omega,ih (i+1,.ref id (ver+1) 0 (T.length+1),T ++ [mp (rnm fs[i] pp)],_) ⟨by show i+1≤fs.length; omega,by simp [hTl],hmr,hHo.set _ _ _,(List.getElem?_set_ne (Ne.symm n76)).trans ((List.getElem?_set_ne z4).trans c7),.inr ⟨id,ver+1,by simp,(List.getElem?_set_ne (Ne.symm z3)).trans (List.getElem?_set_self ld),z1,z2,z3,z4⟩⟩ (by show fs.length - (i+1)<fs.length - i; omega) _ _ (by simp [keep]) rfl⟩
  ·have hie:i=fs.length:=by omega
   have hMV:MV χ x5 x6 A T:=by
    rcases hA with ⟨_,rfl⟩ | ⟨id,ver,e,z1,z2,z3,z4,_⟩
    ·simp at hTl; omega
    ·exact .inr ⟨id,ver,e,z1,z2,z3,z4⟩
   have hB:=p112 la g1.l5 g1.ll
   have hMo:=p111 pp n pk la g1.lt
   have hsl:sb (la.map fun p=>pp.getD p 0)<2 ^ n:=sb_lt fun y hy=>by
    obtain ⟨z,_,rfl⟩:=List.mem_map.1 hy
    exact pk.get' z
   change Pure Tryz.prog 112 [.list (ints (nz la))] _ at hB
   generalize sb la=sa at hB hMo
   generalize sb (la.map fun p=>pp.getD p 0)=s at hMo hsl
   have hp62:2 ^ n≤2 ^ 62:=Nat.pow_le_pow_right (by decide) (by omega)
   rw [vT_alt]
   refine ⟨?_,?_⟩
   ·try simp only [OpK_eq,HKv,e5,e6,subC3,c7,h6p,go_sem]
    refine hB.go ?_
    try simp only [OpK_eq,HKv,e5,e6,subC3,c7,h6p,go_sem]
    refine hMo.go ?_
    try simp only [OpK_eq,HKv,e5,e6,subC3,c7,h6p,go_sem]
    refine p72 hl hH.src _ fun r3 τ3 c1 c2 c3 c4 _=>?_
    have hH3:=hH.step c3 c4
    have e53:=hH3.s5
    have e63:=hH3.s6
    have hMV3:MV τ3 x5 x6 A T:=hMV.step fun id i1 i2 _ _=>c4.2 id i1 (by omega)
    try simp only [OpK_eq,HKv,go_sem]
    refine ⟨fun hr3=>?_,fun hr3=>?_⟩
    ·try simp only [OpK_eq,HKv,e53,subC3,e1,e2,e3,List.length_map,go_sem]
     refine ⟨by omega,fun _=>?_⟩
     refine p72 hl hH3.src _ fun r4 τ4 d1 d2 d3 d4 _=>?_
     have hH4:=hH3.step d3 d4
     have e64:=hH4.s6
     have hMV4:MV τ4 x5 x6 A T:=hMV3.step fun id i1 i2 _ _=>d4.2 id i1 (by omega)
     obtain ⟨k,b,rfl,hsh,hwr,hbn,hxo⟩:=xor_bit hn5 hsl d1 (d2 (by omega))
     try simp only [OpK_eq,HKv,go_sem]
     rw [aWrapU,hwr]
     try simp only [OpK_eq,HKv,hsh,hxo,go_sem]
     refine (p73 (s ^^^ b) (Nat.lt_of_lt_of_le (Nat.xor_lt_two_pow hsl hbn) hp62)).go ?_
     have hpe:(pof (s ^^^ b) 62).map (fun x:Nat=>(x:Int))=nz (pof (s ^^^ b) 62):=rfl
     rw [hpe]
     try simp only [OpK_eq,HKv,e64,putC3,go_sem]
     exact htail (hH4.set _ _ _) (hMV4.step fun id _ _ _ h6=>List.getElem?_set_ne (Ne.symm h6)) m1 m2 m3 m4 hTm (by omega) (by omega) (pof_len5 (Nat.xor_lt_two_pow hsl hbn) hn5) _ (by simp) (by simp) (by simp) (by simp) (by simp)
    ·refine (p73 s (Nat.lt_of_lt_of_le hsl hp62)).go ?_
     have hpe:(pof s 62).map (fun x:Nat=>(x:Int))=nz (pof s 62):=rfl
     rw [hpe]
     try simp only [OpK_eq,HKv,e63,putC3,go_sem]
     exact htail (hH3.set _ _ _) (hMV3.step fun id _ _ _ h6=>List.getElem?_set_ne (Ne.symm h6)) m1 m2 m3 m4 hTm (by omega) (by omega) (pof_len5 hsl hn5) _ (by simp) (by simp) (by simp) (by simp) (by simp)
   ·try simp only [OpK_eq,HKv,e5,e6,subC3,c7,h6p,go_sem]
    rw [vT_alt]
    refine ⟨?_,?_⟩
    ·try simp only [OpK_eq,HKv,e5,e6,subC3,c7,h6p,go_sem]
     refine hB.go ?_
     try simp only [OpK_eq,HKv,e5,e6,subC3,c7,h6p,go_sem]
     refine hMo.go ?_
     try simp only [OpK_eq,HKv,e5,e6,subC3,c7,h6p,go_sem]
     refine p72 hl hH.src _ fun r3 τ3 c1 c2 c3 c4 _=>?_
     have hH3:=hH.step c3 c4
     have e53:=hH3.s5
     have e63:=hH3.s6
     have hMV3:MV τ3 x5 x6 A T:=hMV.step fun id i1 i2 _ _=>c4.2 id i1 (by omega)
     try simp only [OpK_eq,HKv,go_sem]
     refine ⟨fun hr3=>?_,fun hr3=>?_⟩
     ·try simp only [OpK_eq,HKv,e53,subC3,e1,e2,e3,List.length_map,go_sem]
      refine ⟨by omega,fun _=>?_⟩
      refine p72 hl hH3.src _ fun r4 τ4 d1 d2 d3 d4 _=>?_
      have hH4:=hH3.step d3 d4
      have e64:=hH4.s6
      have hMV4:MV τ4 x5 x6 A T:=hMV3.step fun id i1 i2 _ _=>d4.2 id i1 (by omega)
      obtain ⟨k,b,rfl,hsh,hwr,hbn,hxo⟩:=xor_bit hn5 hsl d1 (d2 (by omega))
      try simp only [OpK_eq,HKv,go_sem]
      rw [aWrapU,hwr]
      try simp only [OpK_eq,HKv,hsh,hxo,go_sem]
      refine (p73 (s ^^^ b) (Nat.lt_of_lt_of_le (Nat.xor_lt_two_pow hsl hbn) hp62)).go ?_
      have hpe:(pof (s ^^^ b) 62).map (fun x:Nat=>(x:Int))=nz (pof (s ^^^ b) 62):=rfl
      rw [hpe]
      try simp only [OpK_eq,HKv,e64,putC3,go_sem]
      exact htail (hH4.set _ _ _) (hMV4.step fun id _ _ _ h6=>List.getElem?_set_ne (Ne.symm h6)) m1 m2 m3 m4 hTm (by omega) (by omega) (pof_len5 (Nat.xor_lt_two_pow hsl hbn) hn5) _ (by simp) (by simp) (by simp) (by simp) (by simp)
     ·refine (p73 s (Nat.lt_of_lt_of_le hsl hp62)).go ?_
      have hpe:(pof s 62).map (fun x:Nat=>(x:Int))=nz (pof s 62):=rfl
      rw [hpe]
      try simp only [OpK_eq,HKv,e63,putC3,go_sem]
      exact htail (hH3.set _ _ _) (hMV3.step fun id _ _ _ h6=>List.getElem?_set_ne (Ne.symm h6)) m1 m2 m3 m4 hTm (by omega) (by omega) (pof_len5 hsl hn5) _ (by simp) (by simp) (by simp) (by simp) (by simp)
    ·try simp only [OpK_eq,HKv,e5,e6,subC3,c7,h6p,go_sem]
     rw [vT_alt]
     refine ⟨?_,?_⟩
     ·try simp only [OpK_eq,HKv,e5,e6,subC3,c7,h6p,go_sem]
      refine hB.go ?_
      try simp only [OpK_eq,HKv,e5,e6,subC3,c7,h6p,go_sem]
      refine hMo.go ?_
      try simp only [OpK_eq,HKv,e5,e6,subC3,c7,h6p,go_sem]
      refine p72 hl hH.src _ fun r3 τ3 c1 c2 c3 c4 _=>?_
      have hH3:=hH.step c3 c4
      have e53:=hH3.s5
      have e63:=hH3.s6
      have hMV3:MV τ3 x5 x6 A T:=hMV.step fun id i1 i2 _ _=>c4.2 id i1 (by omega)
      try simp only [OpK_eq,HKv,go_sem]
      refine ⟨fun hr3=>?_,fun hr3=>?_⟩
      ·try simp only [OpK_eq,HKv,e53,subC3,e1,e2,e3,List.length_map,go_sem]
       refine ⟨by omega,fun _=>?_⟩
       refine p72 hl hH3.src _ fun r4 τ4 d1 d2 d3 d4 _=>?_
       have hH4:=hH3.step d3 d4
       have e64:=hH4.s6
       have hMV4:MV τ4 x5 x6 A T:=hMV3.step fun id i1 i2 _ _=>d4.2 id i1 (by omega)
       obtain ⟨k,b,rfl,hsh,hwr,hbn,hxo⟩:=xor_bit hn5 hsl d1 (d2 (by omega))
       try simp only [OpK_eq,HKv,go_sem]
       rw [aWrapU,hwr]
       try simp only [OpK_eq,HKv,hsh,hxo,go_sem]
       refine (p73 (s ^^^ b) (Nat.lt_of_lt_of_le (Nat.xor_lt_two_pow hsl hbn) hp62)).go ?_
       have hpe:(pof (s ^^^ b) 62).map (fun x:Nat=>(x:Int))=nz (pof (s ^^^ b) 62):=rfl
       rw [hpe]
       try simp only [OpK_eq,HKv,e64,putC3,go_sem]
       exact htail (hH4.set _ _ _) (hMV4.step fun id _ _ _ h6=>List.getElem?_set_ne (Ne.symm h6)) m1 m2 m3 m4 hTm (by omega) (by omega) (pof_len5 (Nat.xor_lt_two_pow hsl hbn) hn5) _ (by simp) (by simp) (by simp) (by simp) (by simp)
      ·refine (p73 s (Nat.lt_of_lt_of_le hsl hp62)).go ?_
       have hpe:(pof s 62).map (fun x:Nat=>(x:Int))=nz (pof s 62):=rfl
       rw [hpe]
       try simp only [OpK_eq,HKv,e63,putC3,go_sem]
       exact htail (hH3.set _ _ _) (hMV3.step fun id _ _ _ h6=>List.getElem?_set_ne (Ne.symm h6)) m1 m2 m3 m4 hTm (by omega) (by omega) (pof_len5 hsl hn5) _ (by simp) (by simp) (by simp) (by simp) (by simp)
     ·try simp only [OpK_eq,HKv,e5,e6,subC3,c7,h6p,go_sem]
      refine hB.go ?_
      try simp only [OpK_eq,HKv,e5,e6,subC3,c7,h6p,go_sem]
      refine hMo.go ?_
      try simp only [OpK_eq,HKv,e5,e6,subC3,c7,h6p,go_sem]
      refine p72 hl hH.src _ fun r3 τ3 c1 c2 c3 c4 _=>?_
      have hH3:=hH.step c3 c4
      have e53:=hH3.s5
      have e63:=hH3.s6
      have hMV3:MV τ3 x5 x6 A T:=hMV.step fun id i1 i2 _ _=>c4.2 id i1 (by omega)
      try simp only [OpK_eq,HKv,go_sem]
      refine ⟨fun hr3=>?_,fun hr3=>?_⟩
      ·try simp only [OpK_eq,HKv,e53,subC3,e1,e2,e3,List.length_map,go_sem]
       refine ⟨by omega,fun _=>?_⟩
       refine p72 hl hH3.src _ fun r4 τ4 d1 d2 d3 d4 _=>?_
       have hH4:=hH3.step d3 d4
       have e64:=hH4.s6
       have hMV4:MV τ4 x5 x6 A T:=hMV3.step fun id i1 i2 _ _=>d4.2 id i1 (by omega)
       obtain ⟨k,b,rfl,hsh,hwr,hbn,hxo⟩:=xor_bit hn5 hsl d1 (d2 (by omega))
       try simp only [OpK_eq,HKv,go_sem]
       rw [aWrapU,hwr]
       try simp only [OpK_eq,HKv,hsh,hxo,go_sem]
       refine (p73 (s ^^^ b) (Nat.lt_of_lt_of_le (Nat.xor_lt_two_pow hsl hbn) hp62)).go ?_
       have hpe:(pof (s ^^^ b) 62).map (fun x:Nat=>(x:Int))=nz (pof (s ^^^ b) 62):=rfl
       rw [hpe]
       try simp only [OpK_eq,HKv,e64,putC3,go_sem]
       exact htail (hH4.set _ _ _) (hMV4.step fun id _ _ _ h6=>List.getElem?_set_ne (Ne.symm h6)) m1 m2 m3 m4 hTm (by omega) (by omega) (pof_len5 (Nat.xor_lt_two_pow hsl hbn) hn5) _ (by simp) (by simp) (by simp) (by simp) (by simp)
      ·refine (p73 s (Nat.lt_of_lt_of_le hsl hp62)).go ?_
       have hpe:(pof s 62).map (fun x:Nat=>(x:Int))=nz (pof s 62):=rfl
       rw [hpe]
       try simp only [OpK_eq,HKv,e63,putC3,go_sem]
       exact htail (hH3.set _ _ _) (hMV3.step fun id _ _ _ h6=>List.getElem?_set_ne (Ne.symm h6)) m1 m2 m3 m4 hTm (by omega) (by omega) (pof_len5 hsl hn5) _ (by simp) (by simp) (by simp) (by simp) (by simp)
theorem p6 {l:List Int} (hl:Byt l) {K:PV→Heap→Prop} (hK:∀ M q L M' q' L',AnyA M L→AnyA M' L'→K (.tup [acv M q L,acv M' q' L']) []):ACall Tryz.prog 6 [.list (u8s l)] [] K:=by
 refine e6 (by simp) fun _ _=>?_
 simp only [k6,argEnv,go_sem]
 refine (p42 hl (K:=fun v s=>∃ M q L M' q' L',AnyA M L∧AnyA M' L'∧v = .tup [acv M q L,acv M' q' L']∧s = []) fun M q L M' q' L' h h'=>⟨M,q,L,M',q',L',h,h',rfl,rfl⟩).go fun v s ⟨M,q,L,M',q',L',h,h',hv,hs⟩=>?_
 subst hv; subst hs
 try simp only [OpK_eq,HKv,subC3,putC3,go_sem]
 rw [vT_alt]
 refine ⟨?_,?_⟩
 ·try simp only [OpK_eq,HKv,subC3,putC3,go_sem]
  rw [vT_alt]
  refine ⟨?_,?_⟩
  ·try simp only [OpK_eq,HKv,subC3,putC3,go_sem]
   exact Kv.Fin.still (hK M q L M' q' L' h h')
  ·try simp only [OpK_eq,HKv,subC3,putC3,go_sem]
   exact Kv.Fin.still (hK M q L M' q' L' h h')
 ·try simp only [OpK_eq,HKv,subC3,putC3,go_sem]
  exact Kv.Fin.still (hK M q L M' q' L' h h')
end
end
section
section
set_option maxRecDepth 100000
def k3_b0:KC:=(.seq (.seq (.ops [mV 230 38,mV 231 35,oP 232 (.len false (.t 231)),oP 233 (.bin .lss (.t 230) (.t 232))])
 (.cond (.t 233) .skip (.exit 0)))
 (.seq (.block 1 (.seq (.ops [mV 237 35,mV 238 38,oP 239 (.idxS 6 (.t 237) (.t 238)),oP 240 (.load true 6 (.t 239)),oP 241 (.call (fC 22) [(.t 240)]),mV 236 241,oP 242 (.extr 0 (.t 236)),oP 243 (.extr 1 (.t 236)),oP 244 (.extr 2 (.t 236)),mV 39 242,mV 40 243,mV 41 244])
 (.seq (.seq (.ops [mV 245 41,oP 246 (.bin .neq (.t 245) (iC 0))])
 (.cond (.t 246) (.seq (.ops [oP 2 (.mv (.c (.bool false)))])
 .ret) .skip))
 (.ops [mV 247 37,mV 248 247,⟨(some 249),some (248,true),.mv (.t 40)⟩,⟨(some 250),some (248,true),.bin .eql (.t 249) (iC 1)⟩,oP 251 (.pick (.t 248) (.t 250) (.c (.bool false))),mV 37 251]))))
 (.ops [mV 234 38,oP 235 (.bin .add (.t 234) (iC 1)),mV 38 235])))
def k3:KC:=(.seq (.ops [oP 2 (.mv (.c (.bool false)))])
 (.seq (.seq (.ops [mV 56 0,oP 57 (.call (fC 5) [(.t 56)])])
 (.cond (.t 57) (.seq (.ops [oP 2 (.mv (.c (.bool true)))])
 .ret) .skip))
 (.seq (.ops [mV 59 0,oP 60 (.call (fC 6) [(.t 59)]),mV 58 60,oP 61 (.extr 0 (.t 58)),oP 62 (.extr 1 (.t 58)),oP 3 (.alloc [.nils,.int .i64 0,.nils]),oP 4 (.alloc [.nils,.int .i64 0,.nils]),⟨none,none,.store 3 (.t 3) (.t 61)⟩,⟨none,none,.store 3 (.t 4) (.t 62)⟩])
 (.seq (.ops [oP 64 (.load true 3 (.t 3)),oP 65 (.load true 3 (.t 4)),oP 66 (.call (fC 7) [(.t 64),(.t 65)]),mV 63 66,oP 67 (.extr 0 (.t 63)),oP 68 (.extr 1 (.t 63)),mV 5 67,mV 6 68])
 (.seq (.ops [oP 70 (.load true 3 (.t 3)),oP 71 (.load true 3 (.t 4)),oP 72 (.call (fC 8) [(.t 70),(.t 71)]),mV 69 72,oP 73 (.extr 0 (.t 69)),oP 74 (.extr 1 (.t 69)),mV 7 73,mV 8 74])
 (.seq (.ops [oP 76 (.load true 3 (.t 3)),oP 77 (.load true 3 (.t 4)),oP 78 (.call (fC 9) [(.t 76),(.t 77)]),mV 75 78,oP 79 (.extr 0 (.t 75)),oP 80 (.extr 1 (.t 75)),mV 9 79,mV 10 80])
 (.seq (.ops [oP 82 (.load true 3 (.t 3)),oP 83 (.load true 3 (.t 4)),oP 84 (.call (fC 10) [(.t 82),(.t 83)]),mV 81 84,oP 85 (.extr 0 (.t 81)),oP 86 (.extr 1 (.t 81)),mV 11 85,mV 12 86])
 (.seq (.seq (.ops [mV 87 6,mV 88 8,oP 89 (.bin .neq (.t 87) (.t 88)),mV 90 89,⟨(some 91),some (90,false),.mv (.t 5)⟩,⟨(some 92),some (90,false),.mv (.t 7)⟩,⟨(some 93),some (90,false),.call (fC 11) [(.t 91),(.t 92)]⟩,⟨(some 94),some (90,false),.not (.t 93)⟩,oP 95 (.pick (.t 90) (.c (.bool true)) (.t 94)),mV 96 95,⟨(some 97),some (96,false),.mv (.t 10)⟩,⟨(some 98),some (96,false),.mv (.t 12)⟩,⟨(some 99),some (96,false),.bin .neq (.t 97) (.t 98)⟩,oP 100 (.pick (.t 96) (.c (.bool true)) (.t 99)),mV 101 100,⟨(some 102),some (101,false),.mv (.t 9)⟩,⟨(some 103),some (101,false),.mv (.t 11)⟩,⟨(some 104),some (101,false),.beq true (.t 102) (.t 103)⟩,oP 105 (.pick (.t 101) (.c (.bool true)) (.t 104))])
 (.cond (.t 105) (.seq (.ops [oP 2 (.mv (.c (.bool false)))])
 .ret) .skip))
 (.seq (.seq (.ops [mV 106 10,oP 107 (.bin .eql (.t 106) (iC 0))])
 (.cond (.t 107) (.seq (.ops [oP 109 (.load true 3 (.t 3)),oP 110 (.call (fC 12) [(.t 109)]),mV 108 110,oP 111 (.extr 0 (.t 108)),oP 112 (.extr 1 (.t 108)),oP 13 (.alloc [.nils,.int .i64 0,.nils]),⟨none,none,.store 3 (.t 13) (.t 111)⟩,mV 14 112])
 (.seq (.ops [oP 114 (.load true 3 (.t 4)),oP 115 (.call (fC 12) [(.t 114)]),mV 113 115,oP 116 (.extr 0 (.t 113)),oP 117 (.extr 1 (.t 113)),oP 15 (.alloc [.nils,.int .i64 0,.nils]),⟨none,none,.store 3 (.t 15) (.t 116)⟩,mV 16 117])
 (.seq (.ops [mV 118 14,oP 119 (.bin .neq (.t 118) (iC 0)),mV 120 119,⟨(some 121),some (120,false),.mv (.t 16)⟩,⟨(some 122),some (120,false),.bin .neq (.t 121) (iC 0)⟩,oP 123 (.pick (.t 120) (.c (.bool true)) (.t 122)),mV 124 123,⟨(some 125),some (124,false),.mv (.t 9)⟩,⟨(some 126),some (124,false),.load true 3 (.t 13)⟩,⟨(some 127),some (124,false),.load true 3 (.t 15)⟩,⟨(some 128),some (124,false),.call (fC 13) [(.t 126),(.t 127)]⟩,⟨(some 129),some (124,false),.beq true (.t 125) (.t 128)⟩,oP 130 (.pick (.t 124) (.c (.bool true)) (.t 129)),mV 131 130,⟨(some 132),some (131,false),.mv (.t 9)⟩,⟨(some 133),some (131,false),.mv (.t 6)⟩,⟨(some 134),some (131,false),.bin .eql (.t 133) (iC 4)⟩,⟨(some 135),some (131,false),.beq true (.t 132) (.t 134)⟩,oP 136 (.pick (.t 131) (.c (.bool true)) (.t 135))])
 (.cond (.t 136) (.seq (.ops [oP 2 (.mv (.c (.bool false)))])
 .ret) .skip)))) .skip))
 (.seq (.seq (.ops [mV 137 6,oP 138 (.bin .eql (.t 137) (iC 0))])
 (.cond (.t 138) (.seq (.ops [oP 140 (.load true 3 (.t 3)),mV 141 5,oP 142 (.call (fC 14) [(.t 140),(.t 141)]),mV 139 142,oP 143 (.extr 0 (.t 139)),oP 144 (.extr 1 (.t 139)),mV 17 143,mV 18 144])
 (.seq (.ops [oP 146 (.load true 3 (.t 4)),mV 147 5,oP 148 (.call (fC 14) [(.t 146),(.t 147)]),mV 145 148,oP 149 (.extr 0 (.t 145)),oP 150 (.extr 1 (.t 145)),mV 19 149,mV 20 150])
 (.seq (.ops [mV 151 18,oP 152 (.bin .eql (.t 151) (iC 0)),mV 153 152,⟨(some 154),some (153,true),.mv (.t 20)⟩,⟨(some 155),some (153,true),.bin .neq (.t 154) (iC 0)⟩,⟨(some 156),some (153,true),.mv (.t 155)⟩,⟨(some 157),some (156,false),.mv (.t 17)⟩,⟨(some 158),some (156,false),.mv (.t 19)⟩,⟨(some 159),some (156,false),.beq false (.t 157) (.t 158)⟩,⟨(some 160),some (153,true),.pick (.t 156) (.c (.bool true)) (.t 159)⟩,oP 161 (.pick (.t 153) (.t 160) (.c (.bool false)))])
 (.cond (.t 161) (.seq (.ops [oP 2 (.mv (.c (.bool false)))])
 .ret) .skip)))) .skip))
 (.seq (.ops [mV 162 0,oP 163 (.call (fC 15) [(.t 162)]),oP 21 (.alloc [.nils,.int .i64 0,.nils]),⟨none,none,.store 3 (.t 21) (.t 163)⟩])
 (.seq (.ops [oP 165 (.load true 3 (.t 21)),oP 166 (.call (fC 16) [(.t 165)]),mV 164 166,oP 167 (.extr 0 (.t 164)),oP 168 (.extr 1 (.t 164)),mV 22 167,mV 23 168])
 (.seq (.ops [oP 170 (.load true 3 (.t 21)),oP 171 (.call (fC 17) [(.t 170)]),mV 169 171,oP 172 (.extr 0 (.t 169)),oP 173 (.extr 1 (.t 169)),mV 24 172,mV 25 173])
 (.seq (.seq (.ops [mV 174 23,mV 175 25,oP 176 (.bin .neq (.t 174) (.t 175)),mV 177 176,⟨(some 178),some (177,false),.mv (.t 22)⟩,⟨(some 179),some (177,false),.mv (.t 24)⟩,⟨(some 180),some (177,false),.call (fC 11) [(.t 178),(.t 179)]⟩,⟨(some 181),some (177,false),.not (.t 180)⟩,oP 182 (.pick (.t 177) (.c (.bool true)) (.t 181))])
 (.cond (.t 182) (.seq (.ops [oP 2 (.mv (.c (.bool false)))])
 .ret) .skip))
 (.seq (.seq (.ops [mV 183 23,oP 184 (.bin .eql (.t 183) (iC 0))])
 (.cond (.t 184) (.seq (.ops [oP 186 (.load true 3 (.t 21)),mV 187 22,oP 188 (.call (fC 14) [(.t 186),(.t 187)]),mV 185 188,oP 189 (.extr 0 (.t 185)),oP 190 (.extr 1 (.t 185)),mV 26 189,mV 27 190])
 (.seq (.ops [mV 191 27,oP 192 (.bin .neq (.t 191) (iC 0)),mV 193 192,⟨(some 194),some (193,false),.mv (.t 26)⟩,⟨(some 195),some (193,false),.not (.t 194)⟩,oP 196 (.pick (.t 193) (.c (.bool true)) (.t 195))])
 (.cond (.t 196) (.seq (.ops [oP 2 (.mv (.c (.bool false)))])
 .ret) .skip))) .skip))
 (.seq (.ops [mV 197 0,oP 198 (.call (fC 18) [(.t 197)]),oP 28 (.alloc [.nils,.int .i64 0,.nils]),⟨none,none,.store 3 (.t 28) (.t 198)⟩])
 (.seq (.ops [oP 200 (.load true 3 (.t 28)),oP 201 (.call (fC 19) [(.t 200)]),mV 199 201,oP 202 (.extr 0 (.t 199)),oP 203 (.extr 1 (.t 199)),mV 29 202,mV 30 203])
 (.seq (.ops [oP 205 (.load true 3 (.t 28)),oP 206 (.call (fC 20) [(.t 205)]),mV 204 206,oP 207 (.extr 0 (.t 204)),oP 208 (.extr 1 (.t 204)),mV 31 207,mV 32 208])
 (.seq (.seq (.ops [mV 209 30,mV 210 32,oP 211 (.bin .neq (.t 209) (.t 210)),mV 212 211,⟨(some 213),some (212,false),.mv (.t 29)⟩,⟨(some 214),some (212,false),.mv (.t 31)⟩,⟨(some 215),some (212,false),.beq true (.t 213) (.t 214)⟩,oP 216 (.pick (.t 212) (.c (.bool true)) (.t 215))])
 (.cond (.t 216) (.seq (.ops [oP 2 (.mv (.c (.bool false)))])
 .ret) .skip))
 (.seq (.seq (.ops [mV 217 30,oP 218 (.bin .eql (.t 217) (iC 0))])
 (.cond (.t 218) (.seq (.ops [oP 220 (.load true 3 (.t 28)),oP 221 (.call (fC 12) [(.t 220)]),mV 219 221,oP 222 (.extr 0 (.t 219)),oP 223 (.extr 1 (.t 219)),oP 33 (.alloc [.nils,.int .i64 0,.nils]),⟨none,none,.store 3 (.t 33) (.t 222)⟩,mV 34 223])
 (.seq (.ops [oP 225 (.fieldA 0 (.t 33)),oP 226 (.load false 1 (.t 225)),oP 227 (.call (fC 21) [(.t 226)]),mV 224 227,oP 228 (.extr 0 (.t 224)),oP 229 (.extr 1 (.t 224)),mV 35 228,mV 36 229])
 (.seq (.ops [oP 37 (.mv (.c (.bool true)))])
 (.seq (.seq (.ops [oP 38 (.mv (iC 0))])
 (.block 0 (.loop k3_b0)))
 (.seq (.ops [mV 252 34,oP 253 (.bin .neq (.t 252) (iC 0)),mV 254 253,⟨(some 255),some (254,false),.mv (.t 36)⟩,⟨(some 256),some (254,false),.bin .neq (.t 255) (iC 0)⟩,oP 257 (.pick (.t 254) (.c (.bool true)) (.t 256)),mV 258 257,⟨(some 259),some (258,false),.mv (.t 37)⟩,⟨(some 260),some (258,false),.mv (.t 29)⟩,⟨(some 261),some (258,false),.beq true (.t 259) (.t 260)⟩,oP 262 (.pick (.t 258) (.c (.bool true)) (.t 261))])
 (.cond (.t 262) (.seq (.ops [oP 2 (.mv (.c (.bool false)))])
 .ret) .skip)))))) .skip))
 (.seq (.ops [mV 264 0,oP 265 (.call (fC 23) [(.t 264)]),mV 263 265,oP 266 (.extr 0 (.t 263)),oP 267 (.extr 1 (.t 263)),oP 268 (.extr 2 (.t 263)),oP 42 (.alloc [.nils,.int .i64 0,.nils]),⟨none,none,.store 3 (.t 42) (.t 266)⟩,mV 43 267,mV 44 268])
 (.seq (.ops [oP 270 (.load true 3 (.t 42)),mV 271 43,mV 272 44,oP 273 (.call (fC 24) [(.t 270),(.t 271),(.t 272)]),mV 269 273,oP 274 (.extr 0 (.t 269)),oP 275 (.extr 1 (.t 269)),mV 45 274,mV 46 275])
 (.seq (.ops [oP 277 (.load true 3 (.t 42)),mV 278 43,mV 279 44,oP 280 (.call (fC 25) [(.t 277),(.t 278),(.t 279)]),mV 276 280,oP 281 (.extr 0 (.t 276)),oP 282 (.extr 1 (.t 276)),mV 47 281,mV 48 282])
 (.seq (.ops [mV 283 0,oP 284 (.call (fC 26) [(.t 283)]),oP 49 (.alloc [.nils,.int .i64 0,.nils]),⟨none,none,.store 3 (.t 49) (.t 284)⟩])
 (.seq (.ops [oP 286 (.load true 3 (.t 49)),oP 287 (.call (fC 27) [(.t 286)]),mV 285 287,oP 288 (.extr 0 (.t 285)),oP 289 (.extr 1 (.t 285)),mV 50 288,mV 51 289])
 (.seq (.ops [oP 291 (.load true 3 (.t 49)),oP 292 (.call (fC 28) [(.t 291)]),mV 290 292,oP 293 (.extr 0 (.t 290)),oP 294 (.extr 1 (.t 290)),mV 52 293,mV 53 294])
 (.seq (.seq (.ops [mV 295 46,mV 296 48,oP 297 (.bin .neq (.t 295) (.t 296)),mV 298 297,⟨(some 299),some (298,false),.mv (.t 45)⟩,⟨(some 300),some (298,false),.mv (.t 47)⟩,⟨(some 301),some (298,false),.call (fC 11) [(.t 299),(.t 300)]⟩,⟨(some 302),some (298,false),.not (.t 301)⟩,oP 303 (.pick (.t 298) (.c (.bool true)) (.t 302)),mV 304 303,⟨(some 305),some (304,false),.mv (.t 51)⟩,⟨(some 306),some (304,false),.mv (.t 53)⟩,⟨(some 307),some (304,false),.bin .neq (.t 305) (.t 306)⟩,oP 308 (.pick (.t 304) (.c (.bool true)) (.t 307)),mV 309 308,⟨(some 310),some (309,false),.mv (.t 50)⟩,⟨(some 311),some (309,false),.mv (.t 52)⟩,⟨(some 312),some (309,false),.beq true (.t 310) (.t 311)⟩,oP 313 (.pick (.t 309) (.c (.bool true)) (.t 312))])
 (.cond (.t 313) (.seq (.ops [oP 2 (.mv (.c (.bool false)))])
 .ret) .skip))
 (.seq (.seq (.ops [mV 314 51,oP 315 (.bin .eql (.t 314) (iC 0)),mV 316 315,⟨(some 317),some (316,true),.mv (.t 50)⟩,oP 318 (.pick (.t 316) (.t 317) (.c (.bool false)))])
 (.cond (.t 318) (.seq (.ops [oP 320 (.load true 3 (.t 49)),oP 321 (.call (fC 29) [(.t 320),(iC 12)]),mV 319 321,oP 322 (.extr 0 (.t 319)),oP 323 (.extr 1 (.t 319)),mV 54 322,mV 55 323])
 (.seq (.draw [mV 324 55,oP 325 (.bin .neq (.t 324) (iC 0)),mV 326 325,⟨(some 327),some (326,false),.mv (.t 54)⟩,⟨(some 328),some (326,false),.len false (.t 327)⟩,⟨(some 329),some (326,false),.bin .neq (.t 328) (iC 13)⟩,oP 330 (.pick (.t 326) (.c (.bool true)) (.t 329)),mV 331 330,⟨(some 332),some (331,false),.mv (.t 54)⟩,⟨(some 333),some (331,false),.idxS 1 (.t 332) (iC 5)⟩,⟨(some 334),some (331,false),.load false 1 (.t 333)⟩,⟨(some 335),some (331,false),.mv (.t 54)⟩,⟨(some 336),some (331,false),.idxS 1 (.t 335) (iC 7)⟩,⟨(some 337),some (331,false),.load false 1 (.t 336)⟩,⟨(some 338),some (331,false),.bin .add (.t 334) (.t 337)⟩,⟨(some 339),some (331,false),.mv (.t 54)⟩,⟨(some 340),some (331,false),.idxS 1 (.t 339) (iC 12)⟩,⟨(some 341),some (331,false),.load false 1 (.t 340)⟩,⟨(some 342),some (331,false),.bin .add (.t 338) (.t 341)⟩,⟨(some 343),some (331,false),.bin .neq (.t 342) (iC 0)⟩,oP 344 (.pick (.t 331) (.c (.bool true)) (.t 343))])
 (.cond (.t 344) (.seq (.ops [oP 2 (.mv (.c (.bool false)))])
 .ret) .skip))) .skip))
 (.seq (.ops [oP 2 (.mv (.c (.bool true)))])
 .ret)))))))))))))))))))))))))))))
theorem e3:Ent 3 345 [] [.t 2] k3:=ent Tryz.func3
end
section
attribute [local irreducible] ACall PCall KL
attribute [local go_sem] take6 List.drop_zero Int.cast_ofNat_Int OpK_eq HKv bne_self_eq_false decide_true Bool.not_true beq_self_eq_true Bool.not_false subC3 putC3
abbrev RestL (K:PV→Heap→Prop) (k:Nat) (env:Env) (σ:Heap):Prop:=vc (mkCfg Tryz.prog mixed [] 345 0) (drK k k3) (FinK 0 [.t 2] K) env σ
theorem draw_at {fid:FuncId} {xs:List PV} [StillL xs] (h:∀ {K:PV→Heap→Prop},(∀ M q L,AnyA M L→K (acv M q L) [])→ACall Tryz.prog fid xs [] K) {σ:Heap} {K:PV→Heap→Prop} (hK:∀ M q L,AnyA M L→K (acv M q L) σ):ACall Tryz.prog fid xs σ K:=by
 refine (h (K:=fun v s=>∃ M q L,AnyA M L∧v=acv M q L∧s = []) fun M q L a=>⟨M,q,L,a,rfl,rfl⟩).go fun v s ⟨M,q,L,a,hv,hs⟩=>?_
 subst hv; subst hs
 simpa [PV.ren,ren_aggs,ren_ints] using hK M q L a
theorem draw_at3 {fid:FuncId} {xs:List PV} [StillL xs] (h:∀ {K:PV→Heap→Prop},(∀ M q L a b,AnyA M L→K (.tup [acv M q L,.int .i64 a,.int .i64 b]) [])→ACall Tryz.prog fid xs [] K) {σ:Heap} {K:PV→Heap→Prop} (hK:∀ M q L a b,AnyA M L→K (.tup [acv M q L,.int .i64 a,.int .i64 b]) σ):ACall Tryz.prog fid xs σ K:=by
 refine (h (K:=fun v s=>∃ M q L a b,AnyA M L∧v = .tup [acv M q L,.int .i64 a,.int .i64 b]∧s = []) fun M q L a b h=>⟨M,q,L,a,b,h,rfl,rfl⟩).go fun v s ⟨M,q,L,x,y,a,hv,hs⟩=>?_
 subst hv; subst hs
 simpa [PV.ren,ren_aggs,ren_ints] using hK M q L x y a
section
variable {K:PV→Heap→Prop}
theorem restL20 (hK:K (.bool true) []) {l:List Int} (hl:Byt l) {env:Env} {σ:Heap} (u0:Kv.look env 0 = .list (u8s l)):RestL K 20 env σ:=by
 have hgb:∀ (s:Heap) (a:AObj),(s ++ [a])[s.length]? = some a:=fun s a=>by simp
 have hsb:∀ (s:Heap) (a b:AObj),(s ++ [a]).set s.length b=s ++ [b]:=fun s a b=>by simp [List.set_append_right]
 unfold RestL
 simp only [drK,tlK,k3]
 try simp only [u0,go_sem]
 refine draw_at3 (fun h=>p23 hl h) fun M q L x y hA=>?_
 obtain ⟨V,c,hV,i1,s1,m1⟩:=fp_loc q hA x y
 try simp only [hgb,hsb,go_sem]
 refine i1.go ?_
 try simp only [hgb,hsb,go_sem]
 refine s1.go ?_
 generalize σ ++ [AObj.box [PV.list (aggs M),PV.int .i64 q,PV.list (ints L)]] = τ
 generalize σ.length=x42
 try simp only [hgb,hsb,u0,go_sem]
 refine draw_at (fun h=>p26 hl h) fun M2 q2 L2 hA2=>?_
 obtain ⟨b,c2,i2,s2,h2⟩:=fi_loc q2 hA2
 try simp only [hgb,hsb,go_sem]
 refine i2.go ?_
 try simp only [hgb,hsb,go_sem]
 refine s2.go ?_
 try simp only [hgb,hsb,go_sem]
 refine m1.go ?_
 try simp only [hgb,hsb,go_sem]
 refine ⟨fun e=>⟨fun eb=>?_,fun eb=>?_⟩,fun e=>?_⟩
 ·obtain ⟨C,hC,h13,z5,z7,z12⟩:=h2 e eb
  have h13':(nz C).length=13:=by rw [nz_len,h13]
  refine hC.go ?_
  try simp only [h13',go_sem]
  have z5:(nz C).getD (Int.toNat 5) 0=0:=z5
  have z7:(nz C).getD (Int.toNat 7) 0=0:=z7
  have z12:(nz C).getD (Int.toNat 12) 0=0:=z12
  exact fun _ _=>⟨by omega,fun _=>⟨by omega,fun h=>absurd (by omega) h,fun _=>Kv.Fin.freeze .still hK⟩⟩
 ·exact Kv.Fin.freeze .still hK
 ·exact Kv.Fin.freeze .still hK
theorem restL15 {l:List Int} (hl:Byt l) {env:Env} {σ:Heap} (u0:Kv.look env 0 = .list (u8s l)) (hr:∀ (env:Env) (σ:Heap),Kv.look env 0 = .list (u8s l)→RestL K 20 env σ):RestL K 15 env σ:=by
 have hgb:∀ (s:Heap) (a:AObj),(s ++ [a])[s.length]? = some a:=fun s a=>by simp
 have hsb:∀ (s:Heap) (a b:AObj),(s ++ [a]).set s.length b=s ++ [b]:=fun s a b=>by simp [List.set_append_right]
 unfold RestL at hr ⊢
 rw [show drK 15 k3=upK 5 (drK 15 k3) (drK 20 k3) from rfl]
 generalize drK 20 k3=t at hr ⊢
 simp only [upK,hdK,drK,tlK,k3]
 try simp only [u0,go_sem]
 refine draw_at (fun h=>p18 hl h) fun M q L hA=>?_
 obtain ⟨b,c,i1,s1,h1⟩:=wg_loc q hA
 try simp only [hgb,hsb,go_sem]
 refine i1.go ?_
 try simp only [hgb,hsb,go_sem]
 refine s1.go ?_
 try simp only [hgb,hsb,go_sem]
 refine ⟨fun e=>?_,fun e=>hr _ _ (by simp [u0])⟩
 obtain ⟨A,p,B,k,S,iL,iE,hS,hSo,hb⟩:=h1 e
 refine iL.go ?_
 generalize σ ++ [AObj.box [PV.list (aggs M),PV.int .i64 q,PV.list (ints L)]] = τ
 try simp only [hgb,hsb,go_sem]
 refine iE.go ?_
 try simp only [hgb,hsb,go_sem]
 refine KL_ind k3_b0.eq_1 (fun x:Nat=>[(0,.list (u8s l)),(29,.bool b),(34,.int .i64 0),(35,.list (aggs (S.map mp))),(36,.int .i64 0),(37,.bool ((S.take x).all (per1 k))),(38,.int .i64 x)]) (fun _=>_) (fun x=>x≤S.length) (fun x=>S.length - x) [0,29,34,35,36,37,38] 0 (by simp [keep,u0]) rfl (Nat.zero_le _) fun x hx ih=>?_
 try simp only [List.length_map,aggs_length,go_sem]
 refine ⟨fun g1=>?_,fun g1=>?_⟩
 ·have hxl:x<S.length:=by omega
  have hgx:(S.map mp).getD x []=mp S[x]:=by simp [List.getD_eq_getElem?_getD,hxl]
  have hO:=hSo _ (List.getElem_mem hxl)
  have h6:=hO.mp_len
  have hnx:(S.take (x+1)).all (per1 k)=((S.take x).all (per1 k) && per1 k S[x]):=by
   rw [List.take_succ_eq_append_getElem hxl,List.all_append]; simp
  try simp only [List.length_map,aggs_length,hgx,h6,go_sem]
  refine ⟨by omega,fun _=>?_⟩
  refine p22G S[x] k hO fun a L hR hL=>?_
  rw [per1_eq hR] at hnx
  cases hall:(S.take x).all (per1 k) with
  | false =>
   rw [hall,Bool.false_and] at hnx
   try simp only [go_sem]
   exact ⟨by omega,ih (x+1) (by omega) (by omega) _ _ (by simp [keep,hnx]) rfl⟩
  | true =>
   rw [hall,Bool.true_and] at hnx
   try simp only [go_sem]
   exact ⟨by omega,ih (x+1) (by omega) (by omega) _ _ (by simp [keep,hnx]) rfl⟩
 ·obtain rfl:x=S.length:=by omega
  rw [List.take_length,← hb]
  try simp only [go_sem]
  exact hr _ _ (by simp)
theorem restL10 {l:List Int} (hl:Byt l) {env:Env} {σ:Heap} (u0:Kv.look env 0 = .list (u8s l)) (hr:∀ (env:Env) (σ:Heap),Kv.look env 0 = .list (u8s l)→RestL K 15 env σ):RestL K 10 env σ:=by
 have hgb:∀ (s:Heap) (a:AObj),(s ++ [a])[s.length]? = some a:=fun s a=>by simp
 have hsb:∀ (s:Heap) (a b:AObj),(s ++ [a]).set s.length b=s ++ [b]:=fun s a b=>by simp [List.set_append_right]
 unfold RestL at hr ⊢
 rw [show drK 10 k3=upK 5 (drK 10 k3) (drK 15 k3) from rfl]
 generalize drK 15 k3=t at hr ⊢
 simp only [upK,hdK,drK,tlK,k3]
 try simp only [u0,go_sem]
 refine draw_at (fun h=>p15 hl h) fun M q L hA=>?_
 obtain ⟨V,c,hV,i1,s1,m1,h1⟩:=fa_loc q hA
 try simp only [hgb,hsb,go_sem]
 refine i1.go ?_
 try simp only [hgb,hsb,go_sem]
 refine s1.go ?_
 try simp only [hgb,hsb,go_sem]
 refine m1.go ?_
 try simp only [hgb,hsb,go_sem]
 refine ⟨fun e=>?_,fun e=>hr _ _ (by simp [u0])⟩
 refine (h1 e).go ?_
 try simp only [hgb,hsb,go_sem]
 exact hr _ _ (by simp [u0])
end
end
end
section
section
attribute [local irreducible] ACall PCall KL
attribute [local go_sem] take6 List.drop_zero Int.cast_ofNat_Int OpK_eq HKv bne_self_eq_false decide_true Bool.not_true beq_self_eq_true Bool.not_false subC3 putC3
set_option maxRecDepth 100000 in
set_option maxHeartbeats 8000000 in
theorem p3 (l:List Int) (hl:l.length≤9223372036854775807) (hb:∀ z∈l,0≤z∧z≤255):Pure Tryz.prog 3 [.list (u8s l)] (.bool true):=by
 refine e3 (by simp) fun _ _=>?_
 have hK:(fun (v:PV) (σ:Heap)=>v = .bool true∧σ = []) (.bool true) []:=⟨rfl,rfl⟩
 have r10:=@restL10 (fun (v:PV) (σ:Heap)=>v = .bool true∧σ = [])
 have r15:=@restL15 (fun (v:PV) (σ:Heap)=>v = .bool true∧σ = [])
 have r20:=@restL20 (fun (v:PV) (σ:Heap)=>v = .bool true∧σ = []) hK
 have hend:∀ (env:Env) (σ:Heap),Byt l→Kv.look env 0 = .list (u8s l)→RestL (fun (v:PV) (σ:Heap)=>v = .bool true∧σ = []) 10 env σ:=fun env σ hB u0=>r10 hB u0 fun env σ u0=>r15 hB u0 fun env σ u0=>r20 hB u0
 clear r10 r15 r20
 unfold RestL at hend
 show vc (mkCfg Tryz.prog mixed [] 345 0) (upK 10 k3 (drK 10 k3)) (FinK 0 [.t 2] fun v σ=>v = .bool true∧σ = []) (argEnv 0 [.list (u8s l)]) []
 generalize drK 10 k3=t at hend ⊢
 simp only [upK,hdK,drK,tlK,k3]
 try simp only [argEnv,go_sem]
 refine (p5 l hl).go ?_
 try simp only [go_sem]
 refine ⟨fun h=>Kv.Fin.still ⟨rfl,rfl⟩,fun hbig=>?_⟩
 have hB:Byt l:=⟨by omega,hb⟩
 have hend:=fun env σ=>hend env σ hB
 refine p6 hB fun M q L M' q' L' h h'=>?_
 obtain ⟨V,c,e,c2,hV,i1,s1,m1,i2,s2,hc⟩:=fd_loc q q' h h'
 try simp only [go_sem]
 refine i1.go ?_
 try simp only [go_sem]
 refine s1.go ?_
 try simp only [go_sem]
 refine i2.go ?_
 try simp only [go_sem]
 refine s2.go ?_
 try simp only [go_sem]
 refine m1.go ?_
 try simp only [go_sem]
 rcases hc with ⟨n1,n2⟩ | ⟨fs,gs,n,m,a,b,la,lb,rfl,rfl,rfl,rfl,rfl,rfl,g1,g2,hlen,rfl,he1,he2,hc04,hw⟩
 ·refine ⟨fun h=>absurd h n2,fun _=>⟨fun h=>absurd h n1,fun _=>hend _ _ (by simp)⟩⟩
 ·have hac:=p13 g1.least g2.least
  rw [← he2] at hac
  refine ⟨fun _=>?_,fun h=>absurd rfl h⟩
  refine (p12_in g1).go ?_
  try simp only [go_sem]
  refine (p12_in g2).go ?_
  try simp only [go_sem]
  refine hac.go ?_
  try simp only [← he1,go_sem]
  refine ⟨fun h0=>?_,fun _=>hend _ _ (by simp)⟩
  obtain ⟨w,rfl,hwk,hwl,hne⟩:=hw h0
  refine (p14_in g1 w hwk (by omega)).go ?_
  try simp only [go_sem]
  refine (p14_in g2 w (fun k hk=>by rw [← hlen]; exact hwk k hk) (by omega)).go ?_
  generalize decide (rnw fs w a∈la)=d1 at hne ⊢
  generalize decide (rnw gs w b∈lb)=d2 at hne ⊢
  have hbe:(d1 == d2)=false:=by simpa using hne
  try simp only [hbe,go_sem]
  exact hend _ _ (by simp)
end
end
end Go.Proofs.YtcfmmmloeaggmaaGreat
