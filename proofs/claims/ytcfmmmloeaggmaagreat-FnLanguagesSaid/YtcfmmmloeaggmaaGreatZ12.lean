/- Several texts of this session as one, less what the claim does not need. -/
import Derived.Test.YtcfmmmloeaggmaaGreatCb
import Derived.Test.YtcfmmmloeaggmaaGreatZ8
import Derived.Test.YtcfmmmloeaggmaaGreatZ11
import Derived.Test.YtcfmmmloeaggmaaGreatZ9
import Derived.Test.YtcfmmmloeaggmaaGreatZ10
import Derived.Test.YtcfmmmloeaggmaaGreatZ7
import Derived.Test.YtcfmmmloeaggmaaGreatZ6
namespace Go.Proofs.YtcfmmmloeaggmaaGreat
open Go.Kv
set_option linter.unusedVariables false
set_option linter.unusedSimpArgs false
section
section
set_option maxRecDepth 100000
def k63_b0:KC:=(.seq (.seq (.ops [mV 26 8,mV 27 4,oP 28 (.len false (.t 27)),oP 29 (.bin .lss (.t 26) (.t 28)),mV 30 29,⟨(some 31),some (30,true),.mv (.t 7)⟩,⟨(some 32),some (30,true),.bin .lss (.t 31) (iC 0)⟩,oP 33 (.pick (.t 30) (.t 32) (.c (.bool false)))])
 (.cond (.t 33) .skip (.exit 2)))
 (.seq (.block 3 (.seq (.draw [oP 37 (.load true 3 (.t 1)),oP 38 (.load true 3 (.t 1)),mV 39 4,mV 40 8,oP 41 (.idxS 1 (.t 39) (.t 40)),oP 42 (.load false 1 (.t 41)),mV 43 3,mV 44 6,oP 45 (.idxS 1 (.t 43) (.t 44)),oP 46 (.load false 1 (.t 45)),oP 47 (.pcall (fC 45) [(.t 37),(.t 38),(.t 42),(.t 46)]),mV 36 47,oP 48 (.extr 0 (.t 36)),oP 49 (.extr 1 (.t 36)),mV 9 48,mV 10 49])
 (.seq (.ops [mV 50 10,oP 51 (.not (.t 50))])
 (.cond (.t 51) (.ops [mV 52 8,mV 7 52]) .skip))))
 (.ops [mV 34 8,oP 35 (.bin .add (.t 34) (iC 1)),mV 8 35])))
def k63_b1:KC:=(.seq (.seq (.ops [mV 20 6,mV 21 3,oP 22 (.len false (.t 21)),oP 23 (.bin .lss (.t 20) (.t 22))])
 (.cond (.t 23) .skip (.exit 0)))
 (.seq (.block 1 (.seq (.ops [oP 7 (.mv (iC (-1)))])
 (.seq (.seq (.ops [oP 8 (.mv (iC 0))])
 (.block 2 (.loop k63_b0)))
 (.seq (.seq (.ops [mV 53 7,oP 54 (.bin .lss (.t 53) (iC 0))])
 (.cond (.t 54) (.seq (.ops [mV 55 4,oP 56 (.len false (.t 55)),mV 7 56])
 (.ops [mV 57 4,mV 58 3,mV 59 6,oP 60 (.idxS 1 (.t 58) (.t 59)),oP 61 (.load false 1 (.t 60)),oP 62 (.bsl true 2 1 [(.t 61)]),oP 63 (.app (.t 57) (.t 62) 2 1),mV 4 63])) .skip))
 (.ops [mV 64 5,mV 65 3,mV 66 6,oP 67 (.idxS 1 (.t 65) (.t 66)),oP 68 (.load false 1 (.t 67)),mV 69 7,oP 70 (.idxS 1 (.t 64) (.t 68)),⟨none,none,.store 1 (.t 70) (.t 69)⟩])))))
 (.ops [mV 24 6,oP 25 (.bin .add (.t 24) (iC 1)),mV 6 25])))
def k63_b2:KC:=(.seq (.seq (.ops [mV 84 14,mV 85 4,oP 86 (.len false (.t 85)),oP 87 (.bin .lss (.t 84) (.t 86))])
 (.cond (.t 87) .skip (.exit 6)))
 (.seq (.block 7 (.draw [mV 90 14,mV 91 5,oP 92 (.fieldA 0 (.t 1)),oP 93 (.load false 1 (.t 92)),mV 94 12,mV 95 4,mV 96 14,oP 97 (.idxS 1 (.t 95) (.t 96)),oP 98 (.load false 1 (.t 97)),oP 99 (.idxS 6 (.t 93) (.t 94)),oP 100 (.fieldA 1 (.t 99)),oP 101 (.idxA 5 1 (.t 100) (.t 98)),oP 102 (.load false 1 (.t 101)),oP 103 (.idxS 1 (.t 91) (.t 102)),oP 104 (.load false 1 (.t 103)),oP 105 (.fieldA 1 (.t 13)),oP 106 (.idxA 5 1 (.t 105) (.t 90)),⟨none,none,.store 1 (.t 106) (.t 104)⟩]))
 (.ops [mV 88 14,oP 89 (.bin .add (.t 88) (iC 1)),mV 14 89])))
def k63_b3:KC:=(.seq (.seq (.ops [mV 74 12,oP 75 (.fieldA 0 (.t 1)),oP 76 (.load false 1 (.t 75)),oP 77 (.len false (.t 76)),oP 78 (.bin .lss (.t 74) (.t 77))])
 (.cond (.t 78) .skip (.exit 4)))
 (.seq (.block 5 (.seq (.ops [mV 81 4,oP 82 (.len false (.t 81)),oP 83 (.build [.int .i64 0,.int .i64 0,.int .i64 0,.int .i64 0,.int .i64 0,.int .i64 0] [(0,1,(.t 82))]),oP 13 (.alloc [.int .i64 0,.int .i64 0,.int .i64 0,.int .i64 0,.int .i64 0,.int .i64 0]),⟨none,none,.store 6 (.t 13) (.t 83)⟩])
 (.seq (.seq (.ops [oP 14 (.mv (iC 0))])
 (.block 6 (.loop k63_b2)))
 (.ops [oP 107 (.fieldA 0 (.t 11)),oP 108 (.load false 1 (.t 107)),oP 109 (.load true 6 (.t 13)),oP 110 (.bsl true 48 6 [(.t 109)]),oP 111 (.app (.t 108) (.t 110) 48 6),oP 112 (.fieldA 0 (.t 11)),⟨none,none,.store 1 (.t 112) (.t 111)⟩]))))
 (.ops [mV 79 12,oP 80 (.bin .add (.t 79) (iC 1)),mV 12 80])))
def k63_b4:KC:=(.seq (.seq (.ops [mV 113 15,mV 114 4,oP 115 (.len false (.t 114)),oP 116 (.bin .lss (.t 113) (.t 115))])
 (.cond (.t 116) .skip (.exit 8)))
 (.seq (.block 9 (.seq (.draw [oP 119 (.load true 3 (.t 1)),mV 120 4,mV 121 15,oP 122 (.idxS 1 (.t 120) (.t 121)),oP 123 (.load false 1 (.t 122)),oP 124 (.pcall (fC 116) [(.t 119),(.t 123)])])
 (.cond (.t 124) (.ops [oP 125 (.fieldA 2 (.t 11)),oP 126 (.load false 1 (.t 125)),mV 127 15,oP 128 (.bsl true 2 1 [(.t 127)]),oP 129 (.app (.t 126) (.t 128) 2 1),oP 130 (.fieldA 2 (.t 11)),⟨none,none,.store 1 (.t 130) (.t 129)⟩]) .skip)))
 (.ops [mV 117 15,oP 118 (.bin .add (.t 117) (iC 1)),mV 15 118])))
def k63:KC:=(.seq (.ops [oP 1 (.box true (.t 0)),oP 2 (.alloc [.nils,.int .i64 0,.nils])])
 (.seq (.ops [oP 16 (.load true 3 (.t 1)),oP 17 (.call (fC 135) [(.t 16)]),mV 3 17])
 (.seq (.tree (.alt (.op (oP 18 (.bsl false 2 1 [])) (.op (mV 4 18) (.op (oP 19 (.mks 2 1 (.int .i64 0) (iC 5) (iC 5))) (.op (mV 5 19) .fin)))) (.op (oP 19 (.mks 2 1 (.int .i64 0) (iC 5) (iC 5))) (.op (oP 18 (.bsl false 2 1 [])) (.op (mV 4 18) (.op (mV 5 19) .fin))))))
 (.seq (.seq (.ops [oP 6 (.mv (iC 0))])
 (.block 0 (.loop k63_b1)))
 (.seq (.ops [oP 71 (.bsl false 48 6 []),oP 72 (.bsl false 2 1 []),oP 73 (.build [.nils,.int .i64 0,.nils] [(0,1,(.t 71)),(2,1,(.t 72))]),oP 11 (.alloc [.nils,.int .i64 0,.nils]),⟨none,none,.store 3 (.t 11) (.t 73)⟩])
 (.seq (.seq (.ops [oP 12 (.mv (iC 0))])
 (.block 4 (.loop k63_b3)))
 (.seq (.seq (.ops [oP 15 (.mv (iC 0))])
 (.block 8 (.loop k63_b4)))
 (.seq (.ops [oP 131 (.load true 3 (.t 11)),⟨none,none,.store 3 (.t 2) (.t 131)⟩])
 .ret))))))))
theorem e63:Ent 63 132 [1,62,110,128] [.cell 2 true 3] k63:=ent Tryz.func63
end
section
attribute [local irreducible] ACall PCall KL
theorem nmB_some {same:Nat→Nat→Bool} {i c:Nat} (h:((nmB same i).1.findIdx? fun f=>same f i)=some c):nmB same (i+1)=((nmB same i).1,(nmB same i).2 ++ [c]):=by rw [nmB,h]
theorem nmB_none {same:Nat→Nat→Bool} {i:Nat} (h:((nmB same i).1.findIdx? fun f=>same f i)=none):nmB same (i+1)=((nmB same i).1 ++ [i],(nmB same i).2 ++ [(nmB same i).1.length]):=by rw [nmB,h]
section
variable {K:PV→Heap→Prop}
theorem ls_tail (fs:List (List Nat)) (n:Nat) (hf:∀ f∈fs,Ok f n) (hn5:n≤5) (h0:0<fs.length) (hfl:fs.length≤1000) (q:Nat) (hq:q<n) (la:List Nat) (hla:∀ x∈la,x<5) (hL:la.length≤1048576)
  (hK:K (.agg [.list (aggs ((lsM fs la q).map mp)),.int .i64 0,.list (ints (nz (lsL fs la q)))]) []) (σ:Heap) (i4 i5 v4:Nat) (A:List Int) (env:Env)
  (u1:Kv.look env 1 = .fptr [.list (aggs (fs.map mp)),.int .i64 q,.list (ints (nz la))] 0) (u2:Kv.look env 2 = .ptr 0 0) (u4:Kv.look env 4 = .ref i4 v4 0 (kF fs la q).length) (u5:Kv.look env 5 = .ref i5 0 0 5)
  (hl:σ.length=3) (s0:σ[0]? = some (.box [.nils,.int .i64 0,.nils])) (s4:σ[i4]? = some (.arr v4 2 1 (ints (nz ((kF fs la q).map fun c=>(ord fs q).getD c 0))))) (s5:σ[i5]? = some (.arr 0 2 1 (ints A))) (hA:A.length=5)
  (hAv:∀ t∈ord fs q,A.getD t 0=((kN fs la q).getD ((ord fs q).idxOf t) 0:Int)):vc (mkCfg Tryz.prog mixed [1,62,110,128] 132 0) (drK 4 k63) (FinK 0 [.cell 2 true 3] K) env σ:=by
 obtain ⟨o1,o2,o3,o4,o5,o6⟩:=ord_ok hf hn5 hq
 have hkF:=kF_le fs la q
 have hkp:=kF_pos (fs:=fs) (la:=la) (q:=q) o5
 simp only [drK,tlK,k63]
 have hput3:∀ a b c d e f,putC [a,b,c] 0 [d,e,f] = [d,e,f]:=fun a b c d e f=>putC3 a b c d e f
 have hput0:∀ a b c d,putC [a,b,c] 0 [d] = [d,b,c]:=fun a b c d=>by unfold putC; first | rfl | (split <;> rfl) | simp
 have hput2:∀ a b c d,putC [a,b,c] 2 [d] = [a,b,d]:=fun a b c d=>by unfold putC; first | rfl | (split <;> rfl) | simp
 have l4:=(List.getElem?_eq_some_iff.1 s4).1
 have l5:=(List.getElem?_eq_some_iff.1 s5).1
 have ht5:∀ a b c,(σ ++ [a] ++ [b] ++ [c])[5]? = some c:=fun a b c=>by
  rw [List.getElem?_append_right (by simp; omega)]; simp [hl]
 have hs5:∀ (a b c d:AObj),(σ ++ [a] ++ [b] ++ [c]).set 5 d = σ ++ [a] ++ [b] ++ [d]:=fun a b c d=>by
  rw [List.set_append_right _ _ (by simp; omega)]; simp [hl]
 have e0:∀ a b c,(σ ++ [a] ++ [b] ++ [c])[0]? = some (.box [.nils,.int .i64 0,.nils]):=fun a b c=>by
  rw [List.append_assoc,List.append_assoc,List.getElem?_append_left (by omega)]; exact s0
 have e4:∀ a b c,(σ ++ [a] ++ [b] ++ [c])[i4]? = σ[i4]?:=fun a b c=>by
  rw [List.append_assoc,List.append_assoc,List.getElem?_append_left l4]
 have e5:∀ a b c,(σ ++ [a] ++ [b] ++ [c])[i5]? = σ[i5]?:=fun a b c=>by
  rw [List.append_assoc,List.append_assoc,List.getElem?_append_left l5]
 have e34:∀ a b c,(σ ++ [a] ++ [b] ++ [c])[3]? = some a:=fun a b c=>by
  rw [List.append_assoc,List.append_assoc,List.getElem?_append_right (by omega)]; simp [hl]
 have e44:∀ a b c,(σ ++ [a] ++ [b] ++ [c])[4]? = some b:=fun a b c=>by
  rw [List.append_assoc,List.getElem?_append_right (by simp; omega)]; simp [hl]
 have e3l:∀ (a b c:AObj),(σ ++ [a] ++ [b] ++ [c]).length=6:=fun a b c=>by simp [hl]
 try simp only [OpK_eq,HKv,u1,u2,u4,u5,hl,ht5,hs5,hput3,go_sem]
 have hFl:(nz ((kF fs la q).map fun c=>(ord fs q).getD c 0)).length=(kF fs la q).length:=by rw [nz_len,List.length_map]
 refine KL_ind k63_b3.eq_1 (fun x:Nat × Heap=>[(1,.fptr [.list (aggs (fs.map mp)),.int .i64 q,.list (ints (nz la))] 0),(2,.ptr 0 0),(4,.ref i4 v4 0 (kF fs la q).length),(5,.ref i5 0 0 5),(11,.ptr 5 0),(12,.int .i64 x.1)]) (fun x=>x.2)
  (fun x=>x.1≤fs.length∧x.2[0]? = some (.box [.nils,.int .i64 0,.nils])∧x.2[i4]? = some (.arr v4 2 1 (ints (nz ((kF fs la q).map fun c=>(ord fs q).getD c 0))))∧x.2[i5]? = some (.arr 0 2 1 (ints A))∧x.2[3]? = some (.arr x.1 48 6 (aggs ((fs.take x.1).map fun f=>mp (lsR fs la q f))))∧x.2[4]? = some (.arr 0 2 1 [])∧x.2[5]? = some (.box [.ref 3 x.1 0 x.1,.int .i64 0,.ref 4 0 0 0])) (fun x=>fs.length - x.1) [1,2,4,5,11,12]
  (0,_) (by simp [keep,u1,u2,u4,u5]) rfl ⟨Nat.zero_le _,e0 _ _ _,(e4 _ _ _).trans s4,(e5 _ _ _).trans s5,e34 _ _ _,e44 _ _ _,ht5 _ _ _⟩ fun ⟨x,τ⟩ ⟨hx,t0,t4,t5,t3,t44,t55⟩ ih=>?_
 simp only at hx t0 t4 t5 t3 t44 t55
 have tl:=(List.getElem?_eq_some_iff.1 t55).1
 try simp only [OpK_eq,HKv,List.length_map,go_sem]
 refine ⟨fun g1=>?_,fun g1=>?_⟩
 ·have hxl:x<fs.length:=by omega
  have hfx:=hf _ (List.getElem_mem hxl)
  have h6:=hfx.mp_len
  have ht0:∀ (a:AObj),(τ ++ [a])[τ.length]? = some a:=fun a=>by simp
  have hs0:∀ (a z:AObj),(τ ++ [a]).set τ.length z = τ ++ [z]:=fun a z=>by
   rw [List.set_append_right _ _ (Nat.le_refl _)]; simp
  have hRl:(lsR fs la q fs[x]).length=(kF fs la q).length:=by simp [lsR]
  have hlt:∀ (Y:Heap) id,id<6→(τ ++ Y)[id]? = τ[id]?:=fun Y id hid=>List.getElem?_append_left (by omega)
  try simp only [OpK_eq,HKv,ht0,hs0,t4,hFl,go_sem]
  refine KL_ind k63_b2.eq_1 (fun c:Nat=>[(1,.fptr [.list (aggs (fs.map mp)),.int .i64 q,.list (ints (nz la))] 0),(2,.ptr 0 0),(4,.ref i4 v4 0 (kF fs la q).length),(5,.ref i5 0 0 5),(11,.ptr 5 0),(12,.int .i64 x),(13,.ptr τ.length 0),(14,.int .i64 c)]) (fun c=>τ ++ [.box (ints (mpN (kF fs la q).length ((lsR fs la q fs[x]).take c)))])
   (fun c=>c≤(kF fs la q).length) (fun c=>(kF fs la q).length - c) [1,2,4,5,11,12,13,14] 0 (by simp [keep]) rfl (Nat.zero_le _) fun c hc ihc=>?_
  have f4:∀ Y,(τ ++ Y)[i4]? = some (.arr v4 2 1 (ints (nz ((kF fs la q).map fun c=>(ord fs q).getD c 0)))):=fun Y=>(hlt Y i4 (by omega)).trans t4
  have f5:∀ Y,(τ ++ Y)[i5]? = some (.arr 0 2 1 (ints A)):=fun Y=>(hlt Y i5 (by omega)).trans t5
  have f3:∀ Y,(τ ++ Y)[3]? = some (.arr x 48 6 (aggs ((fs.take x).map fun f=>mp (lsR fs la q f)))):=fun Y=>(hlt Y 3 (by omega)).trans t3
  have f55:∀ Y,(τ ++ Y)[5]? = some (.box [.ref 3 x 0 x,.int .i64 0,.ref 4 0 0 0]):=fun Y=>(hlt Y 5 (by omega)).trans t55
  have h6R:(mpN ((kF fs la q).length:Int) ((lsR fs la q fs[x]).take c)).length=6:=mpN_length (by simp; omega)
  try simp only [OpK_eq,HKv,f4,go_sem]
  refine ⟨fun g3=>?_,fun g3=>?_⟩
  ·have hcl:c<(kF fs la q).length:=by omega
   obtain ⟨k1,k2,k3⟩:=kF_one (fs:=fs) (la:=la) (q:=q) hcl
   have hfg:(nz ((kF fs la q).map fun c=>(ord fs q).getD c 0)).getD c 0=((ord fs q).getD (kF fs la q)[c] 0:Int):=by
    simp [nz,List.getD_eq_getElem?_getD,hcl]
   have hto:fs[x].getD ((ord fs q).getD (kF fs la q)[c] 0) 0∈ord fs q:=o4 _ (List.getElem_mem hxl) _ (by
    rw [List.getD_eq_getElem?_getD,List.getElem?_eq_getElem k1]; exact List.getElem_mem k1)
   have hoo:(ord fs q).getD (kF fs la q)[c] 0<n:=o1 _ (by
    rw [List.getD_eq_getElem?_getD,List.getElem?_eq_getElem k1]; exact List.getElem_mem k1)
   have hRc:(lsR fs la q fs[x]).take (c+1)=(lsR fs la q fs[x]).take c ++ [(kN fs la q).getD ((ord fs q).idxOf (fs[x].getD ((ord fs q).getD (kF fs la q)[c] 0) 0)) 0]:=by
    rw [List.take_succ_eq_append_getElem (by omega)]
    simp [lsR]
   have hAt:=hAv _ hto
   have htn:=o1 _ hto
   have hgk:(fs.map mp).getD x []=mp fs[x]:=by simp [List.getD_eq_getElem?_getD,hxl]
   generalize (kF fs la q)[c]=kc at *
   generalize (ord fs q).getD kc 0=o at *
   have hot:(o:Int).toNat=o:=by omega
   have htt:((fs[x].getD o 0:Nat):Int).toNat=fs[x].getD o 0:=by omega
   have hfl':(nz ((kF fs la q).map fun c=>(ord fs q).getD c 0)).length=(kF fs la q).length:=hFl
   try simp only [OpK_eq,HKv,f4,f5,ht0,hs0,h6,hfg,hot,hgk,List.length_map,htt,hA,hAt,h6R,hFl,go_sem]
   refine ⟨⟨by omega,Nat.le_refl _⟩,hcl,fun _=>⟨by omega,fun _=>⟨by omega,by omega,fun _=>⟨by omega,by omega,fun _=>⟨by omega,by omega,by omega,ihc (c+1) (by omega) (by omega) _ _ (by simp [keep]) ?_⟩⟩⟩⟩⟩
   rw [hRc,mpN_pushI (by simp; omega) (by simp; omega)]
  ·have hce:c=(kF fs la q).length:=by omega
   subst hce
   have hRt:(lsR fs la q fs[x]).take (kF fs la q).length=lsR fs la q fs[x]:=List.take_of_length_le (Nat.le_of_eq hRl)
   have hRm:mpN ((kF fs la q).length:Int) (lsR fs la q fs[x])=mp (lsR fs la q fs[x]):=by rw [mp,hRl]
   rw [hRt,hRm] at *
   have h6m:(mp (lsR fs la q fs[x])).length=6:=mpN_length (by omega)
   have h6t:(mp (lsR fs la q fs[x])).take 6=mp (lsR fs la q fs[x]):=List.take_of_length_le (Nat.le_of_eq h6m)
   have hLx:((fs.take x).map fun f=>mp (lsR fs la q f)).length=x:=by simp; omega
   have hLt:((fs.take x).map fun f=>mp (lsR fs la q f)).take x=(fs.take x).map fun f=>mp (lsR fs la q f):=List.take_of_length_le (Nat.le_of_eq hLx)
   have g5:∀ o,((τ ++ [AObj.box (ints (mp (lsR fs la q fs[x])))]).set 3 o)[5]? = some (.box [.ref 3 x 0 x,.int .i64 0,.ref 4 0 0 0]):=fun o=>(List.getElem?_set_ne (by decide)).trans (f55 _)
   try simp only [OpK_eq,HKv,f55,f3,ht0,h6R,h6m,h6t,g5,hput0,hLx,hLt,go_sem]
   have hsx:(fs.take (x+1)).map (fun f=>mp (lsR fs la q f))=(fs.take x).map (fun f=>mp (lsR fs la q f)) ++ [mp (lsR fs la q fs[x])]:=by
    rw [List.take_succ_eq_append_getElem hxl,List.map_append]; rfl
   rw [← hsx]
   generalize hb:AObj.box (ints (mp (lsR fs la q fs[x])))=bx at *
   refine ⟨⟨by omega,by omega⟩,by omega,ih (x+1,((τ ++ [bx]).set 3 _).set 5 _) ⟨by show x+1≤fs.length; omega,?_,?_,?_,?_,?_,?_⟩ (by show fs.length - (x+1)<fs.length - x; omega) _ _ (by simp [keep]) rfl⟩
   ·exact (List.getElem?_set_ne (by decide)).trans ((List.getElem?_set_ne (by decide)).trans ((hlt _ 0 (by decide)).trans t0))
   ·exact (List.getElem?_set_ne (by omega)).trans ((List.getElem?_set_ne (by omega)).trans (f4 _))
   ·exact (List.getElem?_set_ne (by omega)).trans ((List.getElem?_set_ne (by omega)).trans (f5 _))
   ·exact (List.getElem?_set_ne (by decide)).trans (List.getElem?_set_self (by simp; omega))
   ·exact (List.getElem?_set_ne (by decide)).trans ((List.getElem?_set_ne (by decide)).trans ((hlt _ 4 (by decide)).trans t44))
   ·exact List.getElem?_set_self (by simp; omega)
 ·have hxe:x=fs.length:=by omega
  subst hxe
  rw [List.take_length] at t3
  have hMe:(fs.map fun f=>mp (lsR fs la q f))=(lsM fs la q).map mp:=by
   unfold lsM lsR
   rw [List.map_map]; rfl
  rw [hMe] at t3
  have hMl:fs.length=((lsM fs la q).map mp).length:=by rw [← hMe]; simp
  try simp only [OpK_eq,HKv,go_sem]
  refine KL_ind k63_b4.eq_1 (fun x:Nat × Nat × Heap=>[(1,.fptr [.list (aggs (fs.map mp)),.int .i64 q,.list (ints (nz la))] 0),(2,.ptr 0 0),(4,.ref i4 v4 0 (kF fs la q).length),(11,.ptr 5 0),(15,.int .i64 x.1)]) (fun x=>x.2.2)
   (fun x=>x.1≤(kF fs la q).length∧x.2.2[0]? = some (.box [.nils,.int .i64 0,.nils])∧x.2.2[i4]? = some (.arr v4 2 1 (ints (nz ((kF fs la q).map fun c=>(ord fs q).getD c 0))))∧x.2.2[3]? = some (.arr fs.length 48 6 (aggs ((lsM fs la q).map mp)))∧x.2.1=((List.range x.1).filter fun c=>decide ((ord fs q).getD ((kF fs la q).getD c 0) 0∈la)).length∧x.2.2[4]? = some (.arr x.2.1 2 1 (ints (nz ((List.range x.1).filter fun c=>decide ((ord fs q).getD ((kF fs la q).getD c 0) 0∈la)))))∧x.2.2[5]? = some (.box [.ref 3 fs.length 0 fs.length,.int .i64 0,.ref 4 x.2.1 0 x.2.1])) (fun x=>(kF fs la q).length - x.1) [1,2,4,11,15]
   (0,0,τ) (by simp [keep]) rfl ⟨Nat.zero_le _,t0,t4,t3,rfl,t44,t55⟩ fun ⟨c,m,ρ⟩ ⟨hc,r0,r4,r3,hm,r44,r55⟩ ihc=>?_
  simp only at hc r0 r4 r3 hm r44 r55
  have rl:=(List.getElem?_eq_some_iff.1 r55).1
  try simp only [OpK_eq,HKv,r4,hFl,go_sem]
  refine ⟨fun g3=>?_,fun g3=>?_⟩
  ·have hcl:c<(kF fs la q).length:=by omega
   obtain ⟨k1,k2,k3⟩:=kF_one (fs:=fs) (la:=la) (q:=q) hcl
   have hfg:(nz ((kF fs la q).map fun c=>(ord fs q).getD c 0)).getD c 0=((ord fs q).getD (kF fs la q)[c] 0:Int):=by
    simp [nz,List.getD_eq_getElem?_getD,hcl]
   have hoo:(ord fs q).getD (kF fs la q)[c] 0<n:=o1 _ (by
    rw [List.getD_eq_getElem?_getD,List.getElem?_eq_getElem k1]; exact List.getElem_mem k1)
   have hfl:(List.range (c+1)).filter (fun c=>decide ((ord fs q).getD ((kF fs la q).getD c 0) 0∈la))=(List.range c).filter (fun c=>decide ((ord fs q).getD ((kF fs la q).getD c 0) 0∈la)) ++ if decide ((ord fs q).getD (kF fs la q)[c] 0∈la)=true then [c] else []:=by
    have e:(kF fs la q).getD c 0=(kF fs la q)[c]:=by rw [List.getD_eq_getElem?_getD,List.getElem?_eq_getElem hcl]; rfl
    rw [List.range_succ,List.filter_append,List.filter_cons,e]
    simp only [List.filter_nil]
   have hNl:((List.range c).filter fun c=>decide ((ord fs q).getD ((kF fs la q).getD c 0) 0∈la)).length≤c:=by
    have:=List.length_filter_le (fun c=>decide ((ord fs q).getD ((kF fs la q).getD c 0) 0∈la)) (List.range c)
    simpa using this
   generalize (kF fs la q)[c]=kc at *
   generalize (ord fs q).getD kc 0=o at *
   generalize hFe:(List.range c).filter (fun c=>decide ((ord fs q).getD ((kF fs la q).getD c 0) 0∈la))=F at *
   subst hm
   try simp only [OpK_eq,HKv,r4,hFl,hfg,subC3,go_sem]
   refine ⟨⟨by omega,Nat.le_refl _⟩,hcl,fun _=>?_⟩
   refine (p116 (fs.map mp) q la hla hL o (by omega)).pgo ?_
   cases hd:decide (o∈la) with
   | false =>
    rw [hd,if_neg (by simp),List.append_nil] at hfl
    try simp only [OpK_eq,HKv,go_sem]
    refine ⟨by omega,ihc (c+1,F.length,ρ) ⟨by show c+1≤_; omega,r0,r4,r3,?_,?_,r55⟩ (by show _ - (c+1)<_ - c; omega) _ _ (by simp [keep]) rfl⟩
    ·show F.length=((List.range (c+1)).filter _).length
     rw [hfl]
    ·show ρ[4]? = some (.arr F.length 2 1 (ints (nz ((List.range (c+1)).filter _))))
     rw [hfl]; exact r44
   | true =>
    rw [hd,if_pos rfl] at hfl
    have hzl:(nz F).length=F.length:=nz_len F
    have hzt:(nz F).take F.length=nz F:=List.take_of_length_le (Nat.le_of_eq hzl)
    have g5:∀ o,(ρ.set 4 o)[5]? = some (.box [.ref 3 fs.length 0 fs.length,.int .i64 0,.ref 4 F.length 0 F.length]):=fun o=>(List.getElem?_set_ne (by decide)).trans r55
    try simp only [OpK_eq,HKv,r55,r44,g5,hput2,hzl,hzt,go_sem]
    have e:nz F ++ [(c:Int)]=nz (F ++ [c]):=by simp [nz]
    rw [e]
    refine ⟨⟨Nat.le_refl _,by omega⟩,by omega,ihc (c+1,F.length+1,(ρ.set 4 _).set 5 _) ⟨by show c+1≤_; omega,?_,?_,?_,?_,?_,?_⟩ (by show _ - (c+1)<_ - c; omega) _ _ (by simp [keep]) rfl⟩
    ·exact (List.getElem?_set_ne (by decide)).trans ((List.getElem?_set_ne (by decide)).trans r0)
    ·exact (List.getElem?_set_ne (by omega)).trans ((List.getElem?_set_ne (by omega)).trans r4)
    ·exact (List.getElem?_set_ne (by decide)).trans ((List.getElem?_set_ne (by decide)).trans r3)
    ·show F.length+1=((List.range (c+1)).filter _).length
     rw [hfl]; simp
    ·show _=some (AObj.arr (F.length+1) 2 1 (ints (nz ((List.range (c+1)).filter _))))
     rw [hfl]
     exact (List.getElem?_set_ne (by decide)).trans (List.getElem?_set_self (by omega))
    ·exact List.getElem?_set_self (by simp; omega)
  ·have hce:c=(kF fs la q).length:=by omega
   subst hce
   have hlL:(List.range (kF fs la q).length).filter (fun c=>decide ((ord fs q).getD ((kF fs la q).getD c 0) 0∈la))=lsL fs la q:=rfl
   rw [hlL] at hm r44
   have r0l:=(List.getElem?_eq_some_iff.1 r0).1
   have hself:∀ o,(ρ.set 0 o)[0]? = some o:=fun o=>List.getElem?_set_self r0l
   try simp only [OpK_eq,HKv,r55,r0,hself,subC3,hput3,go_sem]
   refine Kv.Fin.freeze (v':=.agg [.list (aggs ((lsM fs la q).map mp)),.int .i64 0,.list (ints (nz (lsL fs la q)))]) (.agg _ _ (by simp) (by simp [PV.ok]) fun i c d hc hd=>?_) hK
   rcases i with _ | _ | _ | i
   ·simp only [List.getElem?_cons_zero,Option.some.injEq] at hc hd; subst hc; subst hd
    have:=Imm.refa (σ:=ρ.set 0 (.box [.ref 3 fs.length 0 fs.length,.int .i64 0,.ref 4 m 0 m])) (id:=3) ((List.getElem?_set_ne (by decide)).trans r3)
    rw [← hMl] at this
    exact this
   ·simp only [List.getElem?_cons_succ,List.getElem?_cons_zero,Option.some.injEq] at hc hd; subst hc; subst hd
    exact .int _ _ _
   ·simp only [List.getElem?_cons_succ,List.getElem?_cons_zero,Option.some.injEq] at hc hd; subst hc; subst hd
    exact Imm.refn ((List.getElem?_set_ne (by decide)).trans r44) (by rw [nz_len,hm])
   ·simp at hc
theorem ls_mid (fs:List (List Nat)) (n:Nat) (hf:∀ f∈fs,Ok f n) (hn5:n≤5) (h0:0<fs.length) (hfl:fs.length≤1000) (q:Nat) (hq:q<n) (la:List Nat) (hla:∀ x∈la,x<5) (hL:la.length≤1048576)
  (hK:K (.agg [.list (aggs ((lsM fs la q).map mp)),.int .i64 0,.list (ints (nz (lsL fs la q)))]) []) (σ:Heap) (i4 i5:Nat) (env:Env)
  (u1:Kv.look env 1 = .fptr [.list (aggs (fs.map mp)),.int .i64 q,.list (ints (nz la))] 0) (u2:Kv.look env 2 = .ptr 0 0) (u3:Kv.look env 3 = .list (ints (nz (ord fs q)))) (u4:Kv.look env 4 = .ref i4 0 0 0) (u5:Kv.look env 5 = .ref i5 0 0 5)
  (hl:σ.length=3) (s0:σ[0]? = some (.box [.nils,.int .i64 0,.nils])) (s4:σ[i4]? = some (.arr 0 2 1 [])) (s5:σ[i5]? = some (.arr 0 2 1 (List.replicate 5 (.int .i64 0)))) (h45:i4≠i5) (h04:i4≠0) (h05:i5≠0):vc (mkCfg Tryz.prog mixed [1,62,110,128] 132 0) (drK 3 k63) (FinK 0 [.cell 2 true 3] K) env σ:=by
 obtain ⟨o1,o2,o3,o4,o5,o6⟩:=ord_ok hf hn5 hq
 have htail:=ls_tail fs n hf hn5 h0 hfl q hq la hla hL hK
 rw [show drK 3 k63=upK 1 (drK 3 k63) (drK 4 k63) from rfl]
 generalize drK 4 k63=t at htail ⊢
 simp only [upK,hdK,drK,tlK,k63]
 have hon:=nz_len (ord fs q)
 have hfst:=nm_first (fun i k=>smB fs la ((ord fs q).getD i 0) ((ord fs q).getD k 0))
 have hap:∀ i k,i<(ord fs q).length→k<(ord fs q).length→_:=fun i k hi hk=>p45 fs fs n n hf hf h0 rfl hfl hn5 hn5 la la hla hla hL hL q q ((ord fs q).getD i 0) ((ord fs q).getD k 0) (o1 _ (by rw [List.getD_eq_getElem?_getD,List.getElem?_eq_getElem hi]; exact List.getElem_mem hi)) (o1 _ (by rw [List.getD_eq_getElem?_getD,List.getElem?_eq_getElem hk]; exact List.getElem_mem hk))
 have hsm:∀ i k,i<(ord fs q).length→k<(ord fs q).length→smB fs la ((ord fs q).getD i 0) ((ord fs q).getD k 0)=(fwp fs fs la la ((ord fs q).getD i 0) ((ord fs q).getD k 0)).isNone:=fun i k hi hk=>fwp_smB hf (o1 _ (by rw [List.getD_eq_getElem?_getD,List.getElem?_eq_getElem hi]; exact List.getElem_mem hi)) (o1 _ (by rw [List.getD_eq_getElem?_getD,List.getElem?_eq_getElem hk]; exact List.getElem_mem hk)) hn5
 have hkF:kF fs la q=(nmB (fun i k=>smB fs la ((ord fs q).getD i 0) ((ord fs q).getD k 0)) (ord fs q).length).1:=rfl
 have hkN:kN fs la q=(nmB (fun i k=>smB fs la ((ord fs q).getD i 0) ((ord fs q).getD k 0)) (ord fs q).length).2:=rfl
 generalize hS:(fun i k=>smB fs la ((ord fs q).getD i 0) ((ord fs q).getD k 0))=sm at *
 have hsm2:∀ i k,i<(ord fs q).length→k<(ord fs q).length→sm i k=(fwp fs fs la la ((ord fs q).getD i 0) ((ord fs q).getD k 0)).isNone:=fun i k hi hk=>by rw [← hS]; exact hsm i k hi hk
 clear hsm
 have hs1:=fun i c=>nmB_some (same:=sm) (i:=i) (c:=c)
 have hs2:=fun i=>nmB_none (same:=sm) (i:=i)
 try simp only [OpK_eq,HKv,u1,u2,u3,u4,u5,go_sem]
 refine KL_ind k63_b1.eq_1 (fun x:Nat × List Int × Heap=>[(1,.fptr [.list (aggs (fs.map mp)),.int .i64 q,.list (ints (nz la))] 0),(2,.ptr 0 0),(3,.list (ints (nz (ord fs q)))),(4,.ref i4 (nmB sm x.1).1.length 0 (nmB sm x.1).1.length),(5,.ref i5 0 0 5),(6,.int .i64 x.1)]) (fun x=>x.2.2)
  (fun x=>x.1≤(ord fs q).length∧x.2.2.length=3∧x.2.2[0]? = some (.box [.nils,.int .i64 0,.nils])∧x.2.2[i4]? = some (.arr (nmB sm x.1).1.length 2 1 (ints (nz ((nmB sm x.1).1.map fun c=>(ord fs q).getD c 0))))∧x.2.2[i5]? = some (.arr 0 2 1 (ints x.2.1))∧x.2.1.length=5∧∀ j,j<x.1→x.2.1.getD ((ord fs q).getD j 0) 0=((nmB sm x.1).2.getD j 0:Int)) (fun x=>(ord fs q).length - x.1) [1,2,3,4,5,6]
  (0,List.replicate 5 0,σ) (by simp [keep,u1,u2,u3,u4,u5,nmB]) rfl ⟨Nat.zero_le _,hl,s0,s4,s5,by simp,fun j h=>by omega⟩ fun ⟨i,A,τ⟩ ⟨hi,tl,t0,t4,t5,hA,hAv⟩ ih=>?_
 simp only at hi tl t0 t4 t5 hA hAv
 have l4:=(List.getElem?_eq_some_iff.1 t4).1
 have l5:=(List.getElem?_eq_some_iff.1 t5).1
 have hfi:=hfst i
 have hs1:=hs1 i
 have hs2:=hs2 i
 generalize hN:nmB sm i=N at *
 obtain ⟨F,B⟩:=N
 simp only at t4 hAv hs1 hs2 ⊢
 have hFl:(nz (F.map fun c=>(ord fs q).getD c 0)).length=F.length:=by rw [nz_len,List.length_map]
 try simp only [OpK_eq,HKv,hon,go_sem]
 refine ⟨fun g1=>?_,fun g1=>?_⟩
 ·have hil:i<(ord fs q).length:=by omega
  have hFi:∀ c (h:c<F.length),F[c]<i:=fun c h=>(hfi.one c F[c] (by rw [hN]; exact List.getElem?_eq_getElem h)).1
  have hFle:F.length≤i:=by have:=hfi.le; rw [hN] at this; exact this
  have hBl:B.length=i:=by have:=hfi.len; rw [hN] at this; exact this
  have hBlt:∀ j,j<i→B.getD j 0<F.length:=fun j hj=>by have:=hfi.lt j hj; rw [hN] at this; exact this
  have hog:(nz (ord fs q)).getD i 0=((ord fs q).getD i 0:Int):=by simp [nz,List.getD_eq_getElem?_getD,hil]
  refine KL_ind k63_b0.eq_1 (fun x:Nat × Int=>[(1,.fptr [.list (aggs (fs.map mp)),.int .i64 q,.list (ints (nz la))] 0),(2,.ptr 0 0),(3,.list (ints (nz (ord fs q)))),(4,.ref i4 F.length 0 F.length),(5,.ref i5 0 0 5),(6,.int .i64 i),(7,.int .i64 x.2),(8,.int .i64 x.1)]) (fun _=>τ)
   (fun x=>x.1≤F.length∧((x.2 = -1∧∀ j (h:j<F.length),j<x.1→sm F[j] i=false)∨∃ j,x.2=(j:Nat)∧x.1=j+1∧(F.findIdx? fun f=>sm f i)=some j)) (fun x=>F.length - x.1) [1,2,3,4,5,6,7,8] (0,-1) (by simp [keep]) rfl ⟨Nat.zero_le _,.inl ⟨rfl,fun j _ h=>by omega⟩⟩ fun ⟨k,own⟩ ⟨hk,hor⟩ ihk=>?_
  simp only at hk hor
  have hoi:(ord fs q).getD i 0<n:=o1 _ (by rw [List.getD_eq_getElem?_getD,List.getElem?_eq_getElem hil]; exact List.getElem_mem hil)
  have hset:∀ v:Nat,∀ j,j<i+1→(A.set ((ord fs q).getD i 0) (v:Int)).getD ((ord fs q).getD j 0) 0=((B ++ [v]).getD j 0:Int):=fun v j hj=>by
   by_cases e:j=i
   ·subst e
    rw [List.getD_eq_getElem?_getD,List.getElem?_set_self (by omega),List.getD_eq_getElem?_getD,List.getElem?_append_right (by omega),hBl]
    simp
   ·have hji:j<i:=by omega
    have hne:(ord fs q).getD i 0≠(ord fs q).getD j 0:=fun h=>by
     rw [List.getD_eq_getElem?_getD,List.getD_eq_getElem?_getD,List.getElem?_eq_getElem hil,List.getElem?_eq_getElem (by omega)] at h
     have:=(List.nodup_iff_pairwise_ne.1 o2)
     exact List.pairwise_iff_getElem.1 this j i (by omega) hil hji h.symm
    rw [List.getD_eq_getElem?_getD,List.getElem?_set_ne hne,← List.getD_eq_getElem?_getD,hAv j hji,List.getD_eq_getElem?_getD,List.getD_eq_getElem?_getD,List.getElem?_append_left (by omega)]
  have hoit:(((ord fs q).getD i 0:Nat):Int).toNat=(ord fs q).getD i 0:=by omega
  rcases hor with ⟨rfl,hno⟩ | ⟨j,rfl,rfl,hfd⟩
  ·try simp only [OpK_eq,HKv,t4,hFl,go_sem]
   refine ⟨fun g2=>?_,fun g2=>?_⟩
   ·have hkF':k<F.length:=by omega
    have hfk:=hFi k hkF'
    have hfg:(nz (F.map fun c=>(ord fs q).getD c 0)).getD k 0=((ord fs q).getD F[k] 0:Int):=by
     simp [nz,List.getD_eq_getElem?_getD,hkF']
    have hapk:=hap F[k] i (by omega) hil
    have hsk:=hsm2 F[k] i (by omega) hil
    generalize fwp fs fs la la ((ord fs q).getD F[k] 0) ((ord fs q).getD i 0)=o at hapk hsk
    try simp only [OpK_eq,HKv,t4,hFl,hfg,hog,hon,subC3,go_sem]
    refine ⟨⟨by omega,Nat.le_refl _⟩,hkF',fun _=>⟨by omega,fun _=>?_⟩⟩
    cases o with
    | none =>
     simp only [apW] at hapk
     refine hapk.fgo ?_
     try simp only [OpK_eq,HKv,go_sem]
     refine ⟨by omega,ihk (k+1,(k:Int)) ⟨by show k+1≤F.length; omega,.inr ⟨k,rfl,rfl,?_⟩⟩ (by show F.length - (k+1)<F.length - k; omega) _ _ (by simp [keep]) rfl⟩
     rw [List.findIdx?_eq_some_iff_getElem]
     exact ⟨hkF',by rw [hsk]; rfl,fun j hj=>by rw [hno j (by omega) hj]; simp⟩
    | some w =>
     simp only [apW] at hapk
     refine hapk.fgo ?_
     try simp only [OpK_eq,HKv,go_sem]
     refine ⟨by omega,ihk (k+1,-1) ⟨by show k+1≤F.length; omega,.inl ⟨rfl,fun j hj hjk=>?_⟩⟩ (by show F.length - (k+1)<F.length - k; omega) _ _ (by simp [keep]) rfl⟩
     by_cases e:j=k
     ·subst e; rw [hsk]; rfl
     ·exact hno j hj (by have:j<k+1:=hjk; omega)
   ·have hfd:(F.findIdx? fun f=>sm f i)=none:=by
     rw [List.findIdx?_eq_none_iff]
     intro f hf'
     obtain ⟨j,hj,rfl⟩:=List.getElem_of_mem hf'
     exact hno j hj (by omega)
    have hsucc:=hs2 hfd
    have hzt:(nz (F.map fun c=>(ord fs q).getD c 0)).take F.length=nz (F.map fun c=>(ord fs q).getD c 0):=List.take_of_length_le (Nat.le_of_eq hFl)
    have e5:∀ o,(τ.set i4 o)[i5]? = some (.arr 0 2 1 (ints A)):=fun o=>(List.getElem?_set_ne h45).trans t5
    have hze:nz (F.map fun c=>(ord fs q).getD c 0) ++ [((ord fs q).getD i 0:Int)]=nz ((F ++ [i]).map fun c=>(ord fs q).getD c 0):=by simp [nz]
    try simp only [OpK_eq,HKv,hon,hog,hzt,e5,hoit,hA,hze,go_sem]
    refine ⟨by omega,fun _=>⟨⟨Nat.le_refl _,by omega⟩,by omega,fun _=>⟨by omega,by omega,fun _=>⟨by omega,ih (i+1,A.set ((ord fs q).getD i 0) (F.length:Nat),(τ.set i4 _).set i5 _) ⟨by show i+1≤_; omega,?_,?_,?_,?_,?_,?_⟩ (by show _ - (i+1)<_ - i; omega) _ _ ?_ rfl⟩⟩⟩⟩
    ·show ((τ.set i4 _).set i5 _).length=3
     rw [List.length_set,List.length_set,tl]
    ·exact (List.getElem?_set_ne h05).trans ((List.getElem?_set_ne h04).trans t0)
    ·show _=some (AObj.arr (nmB sm (i+1)).1.length 2 1 (ints (nz ((nmB sm (i+1)).1.map fun c=>(ord fs q).getD c 0))))
     rw [hsucc,List.length_append,List.length_singleton]
     exact (List.getElem?_set_ne (Ne.symm h45)).trans (List.getElem?_set_self l4)
    ·exact List.getElem?_set_self (by rw [List.length_set]; exact l5)
    ·show (A.set _ _).length=5
     rw [List.length_set,hA]
    ·show ∀ j,j<i+1→(A.set ((ord fs q).getD i 0) (F.length:Nat)).getD ((ord fs q).getD j 0) 0=((nmB sm (i+1)).2.getD j 0:Int)
     rw [hsucc]; exact hset F.length
    ·rw [hsucc]; simp [keep]
  ·have hj0:((j:Int)<0)=False:=eq_false (by omega)
   have hsucc:=hs1 j hfd
   try simp only [OpK_eq,HKv,t4,hFl,hj0,decide_false,hon,hog,hoit,t5,hA,go_sem]
   have hgo:∀ env,keep [1,2,3,4,5,6] env = [(1,.fptr [.list (aggs (fs.map mp)),.int .i64 q,.list (ints (nz la))] 0),(2,.ptr 0 0),(3,.list (ints (nz (ord fs q)))),(4,.ref i4 F.length 0 F.length),(5,.ref i5 0 0 5),(6,.int .i64 (i+1:Nat))] →
     KL (mkCfg Tryz.prog mixed [1,62,110,128] 132 0) k63_b1 (BlockK 0 (SK (mkCfg Tryz.prog mixed [1,62,110,128] 132 0) t (FinK 0 [KR.cell 2 true 3] K))) env (τ.set i5 (.arr 0 2 1 (ints (A.set ((ord fs q).getD i 0) (j:Nat))))):=fun env he =>
    ih (i+1,A.set ((ord fs q).getD i 0) (j:Nat),τ.set i5 _) ⟨by show i+1≤_; omega,by show (τ.set i5 _).length=3; rw [List.length_set,tl],(List.getElem?_set_ne h05).trans t0,by
     show _=some (AObj.arr (nmB sm (i+1)).1.length 2 1 (ints (nz ((nmB sm (i+1)).1.map fun c=>(ord fs q).getD c 0))))
     rw [hsucc]
     exact (List.getElem?_set_ne (Ne.symm h45)).trans t4,List.getElem?_set_self l5,by show (A.set _ _).length=5; rw [List.length_set,hA],by
     show ∀ j',j'<i+1→(A.set ((ord fs q).getD i 0) (j:Nat)).getD ((ord fs q).getD j' 0) 0=((nmB sm (i+1)).2.getD j' 0:Int)
     rw [hsucc]; exact hset j⟩ (by show _ - (i+1)<_ - i; omega) env _ (by rw [he,hsucc]) rfl
   refine ⟨fun _=>⟨by omega,fun _=>⟨by omega,by omega,fun _=>⟨by omega,hgo _ (by simp [keep])⟩⟩⟩,fun _=>⟨by omega,fun _=>⟨by omega,by omega,fun _=>⟨by omega,hgo _ (by simp [keep])⟩⟩⟩⟩
 ·have hie:i=(ord fs q).length:=by omega
  subst hie
  rw [hN] at hkF hkN
  simp only at hkF hkN
  rw [← hkF] at *
  rw [← hkN] at *
  try simp only [OpK_eq,HKv,go_sem]
  refine htail τ i4 i5 _ A _ (by simp) (by simp) (by simp) (by simp) tl t0 t4 t5 hA fun t ht=>?_
  have hti:=List.idxOf_lt_length_iff.2 ht
  have:=hAv _ hti
  rwa [show (ord fs q).getD ((ord fs q).idxOf t) 0=t by rw [List.getD_eq_getElem?_getD,List.getElem?_eq_getElem hti]; simp] at this
end
theorem p63 (fs:List (List Nat)) (n:Nat) (hf:∀ f∈fs,Ok f n) (hn5:n≤5) (h0:0<fs.length) (hfl:fs.length≤1000) (q:Nat) (hq:q<n) (la:List Nat) (hla:∀ x∈la,x<5) (hL:la.length≤1048576) :
  Pure Tryz.prog 63 [.agg [.list (aggs (fs.map mp)),.int .i64 q,.list (ints (nz la))]] (.agg [.list (aggs ((lsM fs la q).map mp)),.int .i64 0,.list (ints (nz (lsL fs la q)))]):=by
 have hmid:=ls_mid (K:=fun v s=>v = .agg [.list (aggs ((lsM fs la q).map mp)),.int .i64 0,.list (ints (nz (lsL fs la q)))]∧s = []) fs n hf hn5 h0 hfl q hq la hla hL ⟨rfl,rfl⟩
 refine e63 (by simp) fun _ _=>?_
 rw [show k63=upK 3 k63 (drK 3 k63) from rfl]
 generalize drK 3 k63=t at hmid ⊢
 simp only [upK,hdK,tlK,k63,argEnv]
 try simp only [OpK_eq,HKv,subC3,go_sem]
 refine (p135 fs n hf hn5 hfl q hq _).go ?_
 try simp only [OpK_eq,HKv,go_sem]
 repeat' (first
  | (rw [vT_alt]; refine And.intro ?_ ?_)
  | (with_reducible refine And.intro ?_ ?_)
  | exact hmid _ _ _ _ rfl rfl rfl rfl rfl rfl rfl rfl rfl (by decide) (by decide) (by decide)
  | omega
  | (simp only [OpK_eq,HKv,go_sem]))
end
end
section
section
attribute [local irreducible] ACall PCall KL
def negs (m:List Int):List Int:=m.map fun x=>-x
@[simp] theorem negs_length (m:List Int):(negs m).length=m.length:=by simp [negs]
end
end
section
section
attribute [local irreducible] ACall PCall KL
def htl (f:List Nat) (n x:Nat):List Int:=(List.range x).map fun p=>(hgt f n p:Int)
@[simp] theorem htl_length (f:List Nat) (n x:Nat):(htl f n x).length=x:=by simp [htl]
def bsl (f:List Nat) (n x:Nat):List Int:=(List.range x).map fun p=>(mino f (it f (hgt f n p) p):Int)
@[simp] theorem bsl_length (f:List Nat) (n x:Nat):(bsl f n x).length=x:=by simp [bsl]
theorem hgt_spec {f:List Nat} {n p:Nat} (hf:Ok f n) (hp:p<n):hgt f n p≤60∧cyc f n (it f (hgt f n p) p)=true:=by
 have hlt:hgt f n p<(List.range 61).length:=by
  rw [hgt,List.findIdx_lt_length]
  exact ⟨60,by simp,cyc_late hf hp (by have:=hf.le; omega)⟩
 refine ⟨by simp at hlt; omega,?_⟩
 have:=List.findIdx_getElem (w:=hlt)
 have e:(List.range 61)[hgt f n p]'hlt=hgt f n p:=List.getElem_range _
 unfold hgt at e ⊢
 rw [e] at this
 exact this
end
end
section
section
attribute [local irreducible] ACall PCall KL
def clen (f:List Nat) (p:Nat):Nat:=(List.range 60).findIdx (fun k=>decide (it f (k+1) p=p))+1
attribute [local irreducible] clen
def GrI (v:PV) (σ:Heap) (l:List Int):Prop:=(v = .nils∧σ = []∧l = [])∨∃ ver,v = .ref 0 ver 0 l.length∧σ = [.arr ver 2 1 (ints l)]
theorem GrI.push {v:PV} {σ:Heap} {l:List Int} (h:GrI v σ l) (hl:l.length≤1000) (x:Int) {K:PV→Heap→Prop} (hK:∀ v' σ',GrI v' σ' (l ++ [x])→K v' σ'):aApp 2 1 v (.list [.int .i64 x]) σ K:=by
 have hok:okL 1 [PV.int .i64 x]=True:=by simp [okL,PV.cs,PV.ok]
 rcases h with ⟨rfl,rfl,rfl⟩ | ⟨ver,rfl,rfl⟩
 ·simp only [aApp_nils,aNews_list,hok,true_and,AppN_def]
  refine ⟨by simp,hK _ _ (.inr ⟨0,?_,?_⟩)⟩
  ·simp
  ·simp [ints]
 ·have h0:([AObj.arr ver 2 1 (ints l)]:Heap)[0]? = some (.arr ver 2 1 (ints l)):=rfl
  simp only [aApp_ref,h0,AppR_arr,aNews_list,hok,true_and,AppM_def]
  refine ⟨⟨by simp [ints_length],by simp; omega⟩,hK _ _ (.inr ⟨ver+1,?_,?_⟩)⟩
  ·simp
  ·rw [List.take_of_length_le (by simp [ints_length])]; simp [ints]
attribute [local irreducible] bsl
end
end
section
section
attribute [local irreducible] ACall PCall KL
theorem cyc_of {f:List Nat} {n p d:Nat} (hf:Ok f n) (hp:p<n) (hd:1≤d) (h:it f d p=p):cyc f n p=true:=by
 have h1:=it_mul h n
 have h2:=cyc_late hf hp (k:=d * n) (by have:=Nat.le_mul_of_pos_left n hd; omega)
 rwa [h1] at h2
theorem hgt_le {f:List Nat} {n p k:Nat} (hf:Ok f n) (hp:p<n) (h:cyc f n (it f k p)=true):hgt f n p≤k:=by
 apply Classical.byContradiction
 intro hk
 have h60:=(hgt_spec hf hp).1
 have hlt:k<(List.range 61).findIdx fun k=>cyc f n (it f k p):=by unfold hgt at hk; omega
 have:=List.not_of_lt_findIdx hlt
 simp only [List.getElem_range] at this
 rw [h] at this; cases this
theorem cyc_back {f:List Nat} {n p:Nat} (h:cyc f n p=true) (k:Nat):∃ j,it f j (it f k p)=p:=by
 obtain ⟨d,h1,h2,h3⟩:=cyc_iff.1 h
 refine ⟨d * k - k,?_⟩
 have hj:k≤d * k:=Nat.le_mul_of_pos_left k h1
 rw [← it_add,show k+(d * k - k)=d * k by omega,it_mul h3]
structure Rnd (f:List Nat) (n a L:Nat):Prop where
 lt:a<L
 eq:itM f n L=itM f n a
 nd:∀ i j,i<j→j<L→itM f n i≠itM f n j
theorem Rnd.max {f:List Nat} {n a L:Nat} (hf:Ok f n) (h:Rnd f n a L):(∀ p,p<n→hgt f n p≤a)∧(a=0∨∃ p,p<n∧hgt f n p=a):=by
 have hlt:=h.lt
 have heq:∀ p,p<n→it f L p=it f a p:=fun p hp=>by
  have:=congrArg (fun l:List Nat=>l.getD p 0) h.eq
  simp only [itM_get hp] at this; exact this
 have hle:∀ p,p<n→hgt f n p≤a:=fun p hp=>by
  refine hgt_le hf hp (cyc_of hf (it_lt hf hp a) (d:=L - a) (by omega) ?_)
  rw [← it_add,show a+(L - a)=L by omega]; exact heq p hp
 refine ⟨hle,?_⟩
 apply Classical.byContradiction
 intro hno
 have ha:1≤a:=Nat.pos_of_ne_zero fun e=>hno (.inl e)
 have hall:∀ p,p<n→cyc f n (it f (a - 1) p)=true:=fun p hp=>by
  have h1:=hle p hp
  have h2:hgt f n p≠a:=fun e=>hno (.inr ⟨p,hp,e⟩)
  have h3:=(hgt_spec hf hp).2
  have h4:=cyc_step h3 (a - 1 - hgt f n p)
  rwa [← it_add,show hgt f n p+(a - 1 - hgt f n p)=a - 1 by omega] at h4
 refine h.nd (a - 1) (L - 1) (by omega) (by omega) ?_
 refine ext_getD (by simp [itM]) fun p hp=>?_
 simp only [itM,List.length_map,List.length_range] at hp
 rw [itM_get hp,itM_get hp]
 obtain ⟨s,hs⟩:=cyc_back (hall p hp) 1
 have e1:it f 1 (it f (a - 1) p)=it f a p:=by rw [← it_add,show a - 1+1=a by omega]
 rw [e1] at hs
 have e2:it f (L - a) (it f a p)=it f a p:=by rw [← it_add,show a+(L - a)=L by omega]; exact heq p hp
 calc it f (a - 1) p=it f s (it f a p):=hs.symm
  _=it f s (it f (L - a) (it f a p)):=by rw [e2]
  _=it f (L - a) (it f s (it f a p)):=by rw [← it_add,Nat.add_comm,it_add]
  _=it f (L - a) (it f (a - 1) p):=by rw [hs]
  _=it f (L - 1) p:=by rw [← it_add,show a - 1+(L - a)=L - 1 by omega]
theorem pow_few {f:List Nat} {n L:Nat} (hf:Ok f n) (h:∀ i j,i<j→j<L→itM f n i≠itM f n j):L≤3125:=by
 have h1:((List.range L).map fun k=>nbl n (itM f n k)).Nodup:=by
  rw [List.nodup_iff_pairwise_ne,List.pairwise_map,List.pairwise_iff_getElem]
  intro i j hi hj hij e
  simp only [List.length_range] at hi hj
  simp only [List.getElem_range] at e
  exact h i j hij hj (nbl_inj (itM_ok hf i) (itM_ok hf j) e)
 have h2:=nodup_len (n ^ n) _ h1 fun x hx=>by
  obtain ⟨k,_,rfl⟩:=List.mem_map.1 hx
  exact (dg_nbl (itM_ok hf k)).1
 rw [List.length_map,List.length_range] at h2
 have h3:n ^ n≤3125:=by
  have h1:=hf.pos
  have h5:=hf.le
  match n,h1,h5 with
  | 1,_,_=>decide
  | 2,_,_=>decide
  | 3,_,_=>decide
  | 4,_,_=>decide
  | 5,_,_=>decide
 omega
end
end
section
section
set_option maxRecDepth 100000
def k61_b0:KC:=(.block 1 (.seq (.draw [mV 11 4,mV 12 4,oP 13 (.len false (.t 12)),oP 14 (.bin .sub (.t 13) (iC 1)),oP 15 (.idxS 6 (.t 11) (.t 14)),oP 16 (.load true 6 (.t 15)),oP 17 (.load true 6 (.t 1)),oP 18 (.pcall (fC 124) [(.t 16),(.t 17)]),oP 5 (.alloc [.int .i64 0,.int .i64 0,.int .i64 0,.int .i64 0,.int .i64 0,.int .i64 0]),⟨none,none,.store 6 (.t 5) (.t 18)⟩])
 (.seq (.seq (.ops [mV 19 4,oP 20 (.load true 6 (.t 5)),oP 21 (.call (fC 131) [(.t 19),(.t 20)]),mV 6 21])
 (.seq (.ops [mV 22 6,oP 23 (.bin .geq (.t 22) (iC 0))])
 (.cond (.t 23) (.seq (.ops [mV 24 6,mV 25 4,oP 26 (.len false (.t 25)),mV 27 6,oP 28 (.bin .sub (.t 26) (.t 27)),mV 2 24,mV 3 28])
 .ret) .skip)))
 (.ops [mV 29 4,oP 30 (.load true 6 (.t 5)),oP 31 (.bsl true 48 6 [(.t 30)]),oP 32 (.app (.t 29) (.t 31) 48 6),mV 4 32]))))
def k61:KC:=(.seq (.ops [oP 1 (.box true (.t 0)),oP 2 (.mv (iC 0)),oP 3 (.mv (iC 0))])
 (.seq (.ops [oP 7 (.fieldA 0 (.t 1)),oP 8 (.load false 1 (.t 7)),oP 9 (.call (fC 123) [(.t 8)]),oP 10 (.bsl false 48 6 [(.t 9)]),mV 4 10])
 (.block 0 (.loop k61_b0))))
theorem e61:Ent 61 33 [1,31] [.t 2,.t 3] k61:=ent Tryz.func61
def k131_b0:KC:=(.seq (.ops [oP 9 (.bin .lss (.t 8) (.t 7))])
 (.seq (.cond (.t 9) .skip (.exit 0))
 (.seq (.block 1 (.seq (.ops [mV 10 8,mV 5 10])
 (.seq (.draw [oP 11 (.load true 6 (.t 3)),mV 12 0,mV 13 5,oP 14 (.idxS 6 (.t 12) (.t 13)),oP 15 (.load true 6 (.t 14)),oP 16 (.aeq false 6 (.t 11) (.t 15))])
 (.cond (.t 16) (.seq (.ops [mV 17 5,mV 4 17])
 .ret) .skip))))
 (.ops [oP 18 (.bin .add (.t 8) (iC 1)),mV 8 18]))))
def k131:KC:=(.seq (.ops [oP 3 (.box true (.t 1)),oP 4 (.mv (iC 0))])
 (.seq (.seq (.ops [mV 6 0,oP 7 (.len false (.t 6)),oP 8 (.mv (iC 0))])
 (.block 0 (.loop k131_b0)))
 (.seq (.ops [oP 4 (.mv (iC (-1)))])
 .ret)))
theorem e131:Ent 131 19 [3] [.t 4] k131:=ent Tryz.func131
def k22:KC:=(.seq (.ops [oP 1 (.box true (.t 0)),oP 2 (.mv (iC 0)),oP 3 (.mv (iC 0)),oP 4 (.mv (iC 0))])
 (.seq (.seq (.ops [oP 7 (.load true 6 (.t 1)),oP 8 (.call (fC 65) [(.t 7)]),oP 9 (.not (.t 8))])
 (.cond (.t 9) (.seq (.ops [oP 2 (.mv (iC 0)),oP 3 (.mv (iC 0)),oP 4 (.mv (iC 1))])
 .ret) .skip))
 (.seq (.ops [oP 11 (.load true 6 (.t 1)),oP 12 (.call (fC 61) [(.t 11)]),mV 10 12,oP 13 (.extr 0 (.t 10)),oP 14 (.extr 1 (.t 10)),mV 5 13,mV 6 14])
 (.seq (.ops [mV 15 5,mV 16 6,mV 2 15,mV 3 16,oP 4 (.mv (iC 0))])
 .ret))))
theorem e22:Ent 22 17 [1] [.t 2,.t 3,.t 4] k22:=ent Tryz.func22
end
section
attribute [local irreducible] ACall PCall KL
theorem range_okR {n:Nat} (h1:1≤n) (h5:n≤5):Ok (List.range n) n:=by
 refine ⟨?_,?_,?_,?_⟩ <;> first | exact h1 | exact h5 | simp
def ixM (Q:List (List Nat)) (g:List Nat):Int:=if g∈Q then (Q.idxOf g:Int) else -1
theorem ix_at {g:List Nat}:∀ {Q:List (List Nat)} {x:Nat} (h:x<Q.length),Q[x]=g→g ∉ Q.take x→Q.idxOf g=x
 | a :: Q,0,_,he,_=>by
  simp only [List.getElem_cons_zero] at he
  subst he; simp
 | a :: Q,x+1,h,he,hn=>by
  simp only [List.getElem_cons_succ] at he
  simp only [List.take_succ_cons,List.mem_cons,not_or] at hn
  have:=ix_at (by simpa using h) he hn.2
  rw [List.idxOf_cons,this]
  have hne:(a == g)=false:=by simpa using Ne.symm hn.1
  rw [hne]; rfl
theorem p131 (Q:List (List Nat)) (n:Nat) (hQ:∀ f∈Q,Ok f n) (hl:Q.length≤4000) (g:List Nat) (hg:Ok g n):Pure Tryz.prog 131 [.list (aggs (Q.map mp)),.agg (ints (mp g))] (.int .i64 (ixM Q g)):=by
 have h6g:=hg.mp_len
 refine e131 (by simp) fun _ _=>?_
 simp only [k131,argEnv,h6g,go_sem]
 try simp only [aggs_length,List.length_map,go_sem]
 have hg0:(List.map (fun k=>mp k) Q).length=Q.length:=List.length_map _
 refine KL_ind k131_b0.eq_1 (fun x:Nat=>[(0,.list (aggs (Q.map mp))),(3,.fptr (ints (mp g)) 0),(7,.int .i64 Q.length),(8,.int .i64 x)]) (fun _=>[]) (fun x=>x≤Q.length∧g ∉ Q.take x) (fun x=>Q.length - x) [0,3,7,8] 0 (by simp [keep]) rfl ⟨Nat.zero_le _,by simp⟩ fun x ⟨hx,hn⟩ ih=>?_
 try simp only [OpK_eq,HKv,aggs_length,List.length_map,h6g,go_sem]
 refine ⟨fun g1=>?_,fun g1=>?_⟩
 ·have hxl:x<Q.length:=by omega
  have hgx:(Q.map mp).getD x []=mp Q[x]:=by simp [List.getD_eq_getElem?_getD,hxl]
  have h6x:=(hQ _ (List.getElem_mem hxl)).mp_len
  have hcd:decide (mp g=mp Q[x])=decide (g=Q[x]):=decide_eq_decide.2 ⟨mp_inj,fun h=>by rw [h]⟩
  try simp only [OpK_eq,HKv,aggs_length,List.length_map,h6g,hgx,h6x,hcd,go_sem]
  refine ⟨by omega,fun _=>⟨fun h=>Kv.Fin.still ⟨?_,rfl⟩,fun h=>⟨by omega,ih (x+1) ⟨by omega,?_⟩ (by omega) _ _ (by simp [keep]) rfl⟩⟩⟩
  ·have e:=mp_inj h
   rw [ixM,if_pos (by rw [e]; exact List.getElem_mem hxl),ix_at hxl e.symm hn]
  ·rw [List.take_succ_eq_append_getElem hxl,List.mem_append,List.mem_singleton]
   rintro (h' | h')
   ·exact hn h'
   ·exact h (by rw [h'])
 ·obtain rfl:x=Q.length:=by omega
  rw [List.take_length] at hn
  refine Kv.Fin.still ⟨?_,rfl⟩
  rw [ixM,if_neg hn]
theorem p61 (f:List Nat) (n:Nat) (hf:Ok f n) {K:PV→Heap→Prop} (hK:∀ a L,Rnd f n a L→L≤3125→K (.tup [.int .i64 a,.int .i64 ((L:Int) - a)]) []):ACall Tryz.prog 61 [.agg (ints (mp f))] [] K:=by
 have h6f:=hf.mp_len
 have h1:=hf.pos
 have h5:=hf.le
 have h06:=(range_okR h1 h5).mp_len
 have hp0:(mp f).getD 0 0=(n:Int):=by rw [mp,hf.len]; rfl
 refine e61 (by simp) fun _ _=>?_
 simp only [k61,argEnv,h6f,hp0,go_sem]
 refine (p123 n h1 h5).go ?_
 try simp only [OpK_eq,HKv,h06,go_sem]
 refine KL_ind k61_b0.eq_1 (fun x:Nat × Nat × Heap=>[(1,.fptr (ints (mp f)) 0),(4,.ref 0 x.2.1 0 x.1)]) (fun x=>.arr x.2.1 48 6 (aggs ((List.range x.1).map fun k=>mp (itM f n k))) :: x.2.2) (fun x=>1≤x.1∧∀ i j,i<j→j<x.1→itM f n i≠itM f n j) (fun x=>3126 - x.1) [1,4] (1,0,[]) (by simp [keep]) (by try rw [show (List.range 1).map (fun k=>mp (itM f n k)) = [mp (List.range n)] by simp [itM_zero]]; rfl) ⟨Nat.le_refl _,fun i j h1 h2=>by omega⟩ fun ⟨L,ver,X⟩ ⟨hL,hnd⟩ ih=>?_
 simp only at hL hnd
 have hfew:=pow_few hf hnd
 have hgl:((List.range L).map fun k=>mp (itM f n k)).getD (L - 1) []=mp (itM f n (L - 1)):=by
  rw [List.getD_eq_getElem?_getD,List.getElem?_map,List.getElem?_range (by omega)]; rfl
 have hO:=itM_ok hf (L - 1)
 have hOL:=itM_ok hf L
 have h6O:=hO.mp_len
 have h6L:=hOL.mp_len
 have hnat:((L:Int) - 1).toNat=L - 1:=by omega
 have hal:((List.range L).map fun k=>mp (itM f n k)).length=L:=by simp
 have h00:∀ (a:AObj) (Y:Heap),(a :: Y)[0]? = some a:=fun a Y=>rfl
 try simp only [OpK_eq,HKv,h00,aggs_length,hal,hnat,hgl,h6O,h6f,go_sem]
 refine ⟨by omega,⟨by omega,by omega,Nat.le_refl _⟩,by omega,fun _=>?_⟩
 refine (p124 _ f n hO hf).pgo ?_
 have hmul:mul (itM f n (L - 1)) f=itM f n L:=by
  have:=itM_mul hf (L - 1) 1
  rwa [itM_one hf,Nat.sub_add_cancel hL] at this
 rw [hmul]
 have hil:(ints (mp (itM f n L))).length=6:=by rw [ints_length,h6L]
 have hgb:∀ (a:AObj) (Y:Heap) (z:AObj),(a :: (Y ++ [z]))[Y.length+1]? = some z:=fun a Y z=>by simp
 have hsb:∀ (a:AObj) (Y:Heap) (z z':AObj),(a :: (Y ++ [z])).set (Y.length+1) z'=a :: (Y ++ [z']):=fun a Y z z'=>by simp [List.set_append_right]
 try simp only [OpK_eq,HKv,h00,hil,List.length_cons,List.cons_append,hgb,hsb,h6L,go_sem]
 have hQm:((List.range L).map fun k=>mp (itM f n k))=((List.range L).map fun k=>itM f n k).map mp:=by rw [List.map_map]; rfl
 have hQO:∀ g∈(List.range L).map (fun k=>itM f n k),Ok g n:=fun g hg=>by
  obtain ⟨k,_,rfl⟩:=List.mem_map.1 hg
  exact itM_ok hf k
 have hix:=p131 ((List.range L).map fun k=>itM f n k) n hQO (by simp; omega) (itM f n L) hOL
 rw [← hQm] at hix
 refine hix.lend (.cons (Imm.refa' (h00 _ _) hal.symm) (.cons Imm.still (.nil _))) ?_
 try simp only [OpK_eq,HKv,h00,hil,List.length_cons,List.cons_append,hgb,hsb,h6L,aggs_length,hal,go_sem]
 by_cases hin:itM f n L∈(List.range L).map fun k=>itM f n k
 ·have hlt:=List.idxOf_lt_length_iff.2 hin
  have hge:=List.getElem_idxOf hlt
  rw [ixM,if_pos hin]
  generalize ((List.range L).map fun k=>itM f n k).idxOf (itM f n L)=a at hlt hge ⊢
  simp only [List.length_map,List.length_range] at hlt
  simp only [List.getElem_map,List.getElem_range] at hge
  refine ⟨fun _=>⟨by omega,Kv.Fin.still (hK a L ⟨hlt,hge.symm,hnd⟩ hfew)⟩,fun h=>absurd h (by omega)⟩
 ·rw [ixM,if_neg hin]
  refine ⟨fun h=>absurd h (by omega),fun _=>⟨⟨Nat.le_refl _,by omega⟩,ih (L+1,ver+1,X ++ [.box (ints (mp (itM f n L)))]) ⟨by show 1≤L+1; omega,fun i j h1 h2 e=>?_⟩ (by show 3126 - (L+1)<3126 - L; omega) _ _ (by simp [keep]) ?_⟩⟩
  ·by_cases hj:j=L
   ·subst hj
    exact hin (List.mem_map.2 ⟨i,List.mem_range.2 h1,e⟩)
   ·exact hnd i j h1 (by have:j<L+1:=h2; omega) e
  ·simp [aggs,List.range_succ]
   exact List.take_of_length_le (by simp)
theorem p22_in (f:List Nat) (n:Nat) (hf:Ok f n) {K:PV→Heap→Prop} (hK:∀ a L,Rnd f n a L→L≤3125→K (.tup [.int .i64 a,.int .i64 ((L:Int) - a),.int .i64 0]) []):ACall Tryz.prog 22 [.agg (ints (mp f))] [] K:=by
 have h6f:=hf.mp_len
 refine e22 (by simp) fun _ _=>?_
 simp only [k22,argEnv,h6f,go_sem]
 refine (p65 (mp f) h6f).go ?_
 rw [isM_mp hf]
 try simp only [OpK_eq,HKv,h6f,go_sem]
 refine p61 f n hf fun a L h1 h2=>?_
 try simp only [OpK_eq,HKv,h6f,go_sem]
 exact Kv.Fin.still (hK a L h1 h2)
theorem p22G (f:List Nat) (n:Nat) (hf:Ok f n) {σ:Heap} {K:PV→Heap→Prop} (hK:∀ a L,Rnd f n a L→L≤3125→K (.tup [.int .i64 a,.int .i64 ((L:Int) - a),.int .i64 0]) σ):ACall Tryz.prog 22 [.agg (ints (mp f))] σ K:=by
 refine ACall.go (p22_in f n hf (K:=fun v s=>∃ a L,Rnd f n a L∧L≤3125∧v = .tup [.int .i64 a,.int .i64 ((L:Int) - a),.int .i64 0]∧s = []) fun a L h1 h2=>⟨a,L,h1,h2,rfl,rfl⟩) fun v s ⟨a,L,h1,h2,hv,hs⟩=>?_
 subst hv; subst hs
 have:=hK a L h1 h2
 simpa [PV.ren] using this
end
end
section
section
set_option maxRecDepth 100000
def k62_b0:KC:=(.seq (.seq (.ops [mV 31 11,mV 32 7,oP 33 (.len false (.t 32)),oP 34 (.bin .lss (.t 31) (.t 33))])
 (.cond (.t 34) .skip (.exit 0)))
 (.seq (.block 1 (.ops [mV 37 10,mV 38 7,mV 39 11,oP 40 (.idxS 6 (.t 38) (.t 39)),oP 41 (.load true 6 (.t 40)),oP 42 (.call (fC 134) [(.t 37),(.t 41)]),mV 10 42]))
 (.ops [mV 35 11,oP 36 (.bin .add (.t 35) (iC 1)),mV 11 36])))
def k62:KC:=(.seq (.ops [oP 4 (.mv (.c (.nils))),oP 5 (.mv (iC 0))])
 (.seq (.seq (.ops [mV 12 0,mV 13 1,oP 14 (.call (fC 132) [(.t 12),(.t 13)]),mV 6 14])
 (.seq (.ops [mV 15 6,oP 16 (.bin .neq (.t 15) (iC 0))])
 (.cond (.t 16) (.seq (.ops [mV 17 6,oP 4 (.mv (.c (.nils))),mV 5 17])
 .ret) .skip)))
 (.seq (.ops [mV 19 0,mV 20 0,oP 21 (.idxS 6 (.t 20) (iC 0)),oP 22 (.fieldA 0 (.t 21)),oP 23 (.load false 1 (.t 22)),oP 24 (.call (fC 133) [(.t 19),(.t 23)]),mV 18 24,oP 25 (.extr 0 (.t 18)),oP 26 (.extr 1 (.t 18)),oP 27 (.extr 2 (.t 18)),mV 7 25,mV 8 26,mV 9 27])
 (.seq (.seq (.ops [mV 28 9,oP 29 (.not (.t 28))])
 (.cond (.t 29) (.seq (.ops [oP 4 (.mv (.c (.nils))),oP 5 (.mv (iC 3))])
 .ret) .skip))
 (.seq (.ops [oP 30 (.bsl false 48 6 []),mV 10 30])
 (.seq (.seq (.ops [oP 11 (.mv (iC 0))])
 (.block 0 (.loop k62_b0)))
 (.seq (.ops [mV 43 10,mV 4 43,oP 5 (.mv (iC 0))])
 .ret)))))))
theorem e62:Ent 62 44 [] [.t 4,.t 5] k62:=ent Tryz.func62
end
section
attribute [local irreducible] ACall PCall KL
theorem clB_none {fs:List (List Nat)} {n i:Nat} (h:clB fs n i=none):∀ d,clB fs n (i+d)=none
 | 0=>h
 | d+1=>by
  show clB fs n (i+d+1)=none
  rw [clB,clB_none h d]
theorem clB_stop {fs:List (List Nat)} {n i:Nat} {Q:List (List Nat)} (h:clB fs n i=some Q) (hi:Q.length≤i):∀ d,clB fs n (i+d)=some Q
 | 0=>h
 | d+1=>by
  show clB fs n (i+d+1)=some Q
  rw [clB,clB_stop h hi d]
  simp only
  rw [List.getElem?_eq_none (by omega)]
def clR (fs:List (List Nat)) (n:Nat):Option (List (List Nat)):=clB fs n 301
def elS (n:Nat) (Q:List (List Nat)):List (List Nat):=Q.foldl (putM n) []
theorem fold_putM {n:Nat}:∀ (Q S:List (List Nat)),SrM n S→(∀ f∈Q,Ok f n)→SrM n (Q.foldl (putM n) S)∧(∀ f,f∈Q.foldl (putM n) S↔f∈Q∨f∈S)∧(Q.foldl (putM n) S).length≤Q.length+S.length
 | [],S,h,_=>⟨h,fun f=>by simp,by simp⟩
 | a :: Q,S,h,hQ=>by
  have ha:=hQ a (by simp)
  obtain ⟨h1,h2,h3⟩:=fold_putM Q (putM n S a) (putM_srm h ha) fun f hf=>hQ f (by simp [hf])
  refine ⟨h1,fun f=>?_,?_⟩
  ·rw [List.foldl_cons,h2,putM_mem h ha,List.mem_cons]
   constructor
   ·rintro (h | h | h)
    ·exact .inl (.inr h)
    ·exact .inl (.inl h)
    ·exact .inr h
   ·rintro ((h | h) | h)
    ·exact .inr (.inl h)
    ·exact .inl h
    ·exact .inr (.inr h)
  ·have:=putM_len (n:=n) (S:=S) a
   rw [List.foldl_cons,List.length_cons]; omega
theorem p62_in (fs:List (List Nat)) (n:Nat) (h1:1≤n) (h5:n≤5) (hf:∀ f∈fs,Ok f n) (h0:0<fs.length) (hfl:fs.length≤6) (hl:lcode (fs.map mp) []=0) :
  Pure Tryz.prog 62 [.list (aggs (fs.map mp)),.nils] (match clR fs n with | none=>.tup [.nils,.int .i64 3] | some Q=>.tup [.list (aggs ((elS n Q).map mp)),.int .i64 0]):=by
 have hk:=hf _ (List.getElem_mem h0)
 have h6k:=hk.mp_len
 have hn:(mp fs[0]).getD 0 0=(n:Int):=by simp [mp,mpN,hk.len]
 refine e62 (by simp) fun _ _=>?_
 simp only [k62,argEnv,go_sem]
 refine (p132n (fs.map mp) (by simp; omega) (fun r hr=>by obtain ⟨f,hf',rfl⟩:=List.mem_map.1 hr; exact (hf f hf').mp_len)).go ?_
 rw [hl]
 try simp only [OpK_eq,HKv,map_getD h0,h6k,hn,List.length_map,go_sem]
 refine ⟨by omega,fun _=>?_⟩
 refine p133 fs n h1 h5 hf (by omega) (fun i Q W c1 c2 c3 c4=>?_) (fun i c0 c1=>?_)
 ·have hR:clR fs n=some Q:=by
   have:=clB_stop c1 (by omega) (301 - i)
   rwa [show i+(301 - i)=301 by omega] at this
  rw [hR]
  try simp only [OpK_eq,HKv,go_sem]
  refine KL_freeze (env0:=[(7,.list (aggs (Q.map mp))),(10,.ref 0 0 0 0),(11,.int .i64 0)]) (env':=[(7,.list (aggs (Q.map mp))),(10,.list (aggs (([]:List (List Nat)).map mp))),(11,.int .i64 0)]) [7,10,11] rfl (by simp [keep]) (.cons Imm.still (.cons (Imm.refa (l:=[]) rfl) (.cons Imm.still .nil))) ?_
  refine KL_ind k62_b0.eq_1 (fun y:Nat=>[(7,.list (aggs (Q.map mp))),(10,.list (aggs ((elS n (Q.take y)).map mp))),(11,.int .i64 y)]) (fun _=>[]) (fun y=>y≤Q.length) (fun y=>Q.length - y) [7,10,11] 0 (by simp [keep,elS]) rfl (Nat.zero_le _) fun y hy ih=>?_
  try simp only [OpK_eq,HKv,aggs_length,List.length_map,go_sem]
  refine ⟨fun g1=>?_,fun g1=>?_⟩
  ·have hyl:y<Q.length:=by omega
   have hgy:(Q.map mp).getD y []=mp Q[y]:=by simp [List.getD_eq_getElem?_getD,hyl]
   have hOy:=c3 _ (List.getElem_mem hyl)
   have h6y:=hOy.mp_len
   obtain ⟨s1,s2,s3⟩:=fold_putM (n:=n) (Q.take y) [] ⟨by simp,by simp⟩ fun f hf'=>c3 f (List.mem_of_mem_take hf')
   have hes:elS n (Q.take (y+1))=putM n (elS n (Q.take y)) Q[y]:=by
    unfold elS
    rw [List.take_succ_eq_append_getElem hyl,List.foldl_append]; rfl
   have s3':(elS n (Q.take y)).length≤Q.length:=by
    have:(elS n (Q.take y)).length≤(Q.take y).length+0:=s3
    rw [List.length_take] at this; omega
   try simp only [OpK_eq,HKv,aggs_length,List.length_map,hgy,h6y,go_sem]
   refine ⟨by omega,fun _=>?_⟩
   refine (p134 n (elS n (Q.take y)) s1 (by omega) Q[y] hOy).go ?_
   try simp only [OpK_eq,HKv,go_sem]
   exact ⟨by omega,ih (y+1) (by omega) (by omega) _ _ (by simp [keep,hes]) rfl⟩
  ·obtain rfl:y=Q.length:=by omega
   rw [List.take_length]
   try simp only [OpK_eq,HKv,go_sem]
   exact Kv.Fin.still ⟨rfl,rfl⟩
 ·have hR:clR fs n=none:=by
   have:=clB_none c1 (301 - i)
   rwa [show i+(301 - i)=301 by omega] at this
  rw [hR]
  try simp only [OpK_eq,HKv,go_sem]
  exact Kv.Fin.still ⟨rfl,rfl⟩
theorem elS_ok {n:Nat} {Q:List (List Nat)} (hQ:∀ f∈Q,Ok f n):SrM n (elS n Q)∧(∀ f,f∈elS n Q↔f∈Q)∧(elS n Q).length≤Q.length:=by
 obtain ⟨h1,h2,h3⟩:=fold_putM (n:=n) Q [] ⟨by simp,by simp⟩ hQ
 exact ⟨h1,fun f=>by rw [elS,h2]; simp,h3⟩
theorem clA_okQ {fs:List (List Nat)} {n:Nat} (hf:∀ f∈fs,Ok f n) {m:List Nat} (hm:Ok m n) {Q:List (List Nat)} (hQ:∀ f∈Q,Ok f n) (hl:Q.length≤300):∀ k R,k≤fs.length→clA fs m Q k=some R→(∀ f∈R,Ok f n)∧R.length≤300
 | 0,R,_,h=>by
  have:Q=R:=by simpa [clA] using h
  subst this; exact ⟨hQ,hl⟩
 | k+1,R,hk,h=>by
  unfold clA at h
  cases hc:clA fs m Q k with
  | none=>rw [hc] at h; cases h
  | some R' =>
   obtain ⟨h1,h2⟩:=clA_okQ hf hm hQ hl k R' (by omega) hc
   have hgf:fs.getD k []=fs[k]:=by simp [List.getD_eq_getElem?_getD,show k<fs.length by omega]
   rw [hc] at h
   simp only at h
   split at h
   ·cases h; exact ⟨h1,h2⟩
   ·split at h
    ·cases h
    ·cases h
     refine ⟨fun f hf'=>?_,by rw [List.length_append,List.length_singleton]; omega⟩
     rcases List.mem_append.1 hf' with hf' | hf'
     ·exact h1 f hf'
     ·simp only [List.mem_singleton] at hf'
      rw [hf',hgf]
      exact hm.mul (hf _ (List.getElem_mem _))
theorem clB_okQ {fs:List (List Nat)} {n:Nat} (h1:1≤n) (h5:n≤5) (hf:∀ f∈fs,Ok f n):∀ i Q,clB fs n i=some Q→(∀ f∈Q,Ok f n)∧Q.length≤300
 | 0,Q,h=>by
  have:[List.range n]=Q:=by simpa [clB] using h
  subst this
  refine ⟨fun f hf'=>?_,by simp⟩
  simp only [List.mem_singleton] at hf'; rw [hf']; exact range_ok h1 h5
 | i+1,Q,h=>by
  rw [clB] at h
  cases hc:clB fs n i with
  | none=>rw [hc] at h; cases h
  | some R =>
   obtain ⟨h2,h3⟩:=clB_okQ h1 h5 hf i R hc
   rw [hc] at h
   simp only at h
   cases hg:R[i]? with
   | none=>rw [hg] at h; cases h; exact ⟨h2,h3⟩
   | some m=>rw [hg] at h; exact clA_okQ hf (h2 m (List.mem_of_getElem? hg)) h2 h3 fs.length Q (Nat.le_refl _) h
end
end
section
section
set_option maxRecDepth 100000
def k179_b0:KC:=(.seq (.ops [oP 9 (.bin .lss (.t 8) (iC 5))])
 (.seq (.cond (.t 9) .skip (.exit 0))
 (.seq (.block 1 (.seq (.ops [oP 10 (.idxV 5 1 false (.t 7) (.t 8)),mV 5 10])
 (.ops [mV 11 3,oP 12 (.bin .mul (.t 11) (iC 5)),mV 13 5,oP 14 (.bin .add (.t 12) (.t 13)),mV 3 14])))
 (.ops [oP 15 (.bin .add (.t 8) (iC 1)),mV 8 15]))))
def k179:KC:=(.seq (.ops [oP 1 (.box true (.t 0)),oP 2 (.mv (iC 0))])
 (.seq (.ops [oP 3 (.mv (iC 0))])
 (.seq (.seq (.ops [oP 6 (.fieldA 1 (.t 1)),oP 7 (.load true 5 (.t 6)),oP 8 (.mv (iC 0))])
 (.block 0 (.loop k179_b0)))
 (.seq (.ops [mV 16 3,mV 2 16])
 .ret))))
theorem e179:Ent 179 17 [1] [.t 2] k179:=ent Tryz.func179
end
section
attribute [local irreducible] ACall PCall KL
def numK (f:List Nat):Nat→Nat
 | 0=>0
 | k+1=>numK f k * 5+f.getD k 0
theorem numK_lt {f:List Nat} (h:∀ x∈f,x<5):∀ k,numK f k<5 ^ k
 | 0=>by simp [numK]
 | k+1=>by
  have h1:=numK_lt h k
  have h2:f.getD k 0<5:=by
   rw [List.getD_eq_getElem?_getD]
   cases e:f[k]? with
   | none=>simp
   | some x=>exact h x (List.mem_of_getElem? e)
  rw [numK,Nat.pow_succ]; omega
theorem numK_inj {f g:List Nat} (hf:∀ x∈f,x<5) (hg:∀ x∈g,x<5):∀ k,numK f k=numK g k→∀ i,i<k→f.getD i 0=g.getD i 0
 | 0,_,i,hi=>by omega
 | k+1,h,i,hi=>by
  have h2:∀ {f:List Nat},(∀ x∈f,x<5)→f.getD k 0<5:=fun {f} hf=>by
   rw [List.getD_eq_getElem?_getD]
   cases e:f[k]? with
   | none=>simp
   | some x=>exact hf x (List.mem_of_getElem? e)
  have a:=h2 hf
  have b:=h2 hg
  simp only [numK] at h
  rcases Nat.lt_succ_iff_lt_or_eq.1 hi with c | rfl
  ·exact numK_inj hf hg k (by omega) i c
  ·omega
theorem num_inj {f g:List Nat} {n:Nat} (hf:Ok f n) (hg:Ok g n) (h:numK f 5=numK g 5):f=g:=by
 have h5:=hf.le
 have e:=numK_inj (fun x hx=>by have:=hf.lt x hx; omega) (fun x hx=>by have:=hg.lt x hx; omega) 5 h
 refine List.ext_getElem (by rw [hf.len,hg.len]) fun i h1 h2=>?_
 have:=e i (by have:=hf.len; omega)
 simpa [List.getD_eq_getElem?_getD,h1,h2] using this
theorem p179 (f:List Nat) (n:Nat) (hf:Ok f n):Pure Tryz.prog 179 [.agg (ints (mp f))] (.int .i64 (numK f 5)):=by
 have hlf:=hf.mp_len
 have h5:=hf.le
 refine e179 (by simp) fun _ _=>?_
 simp only [k179,argEnv,hlf,go_sem]
 refine KL_ind k179_b0.eq_1 (fun y:Nat=>[(3,.int .i64 (numK f y)),(7,.agg (ints (List.take 5 (List.drop 1 (mp f))))),(8,.int .i64 y)]) (fun _=>[]) (fun y=>y≤5) (fun y=>5 - y) [3,7,8] 0 (by simp [keep,numK]) rfl (Nat.zero_le _) fun y hy ih=>?_
 have hl5:(List.take 5 (List.drop 1 (mp f))).length=5:=by simp [hlf]
 try simp only [hl5,go_sem]
 refine ⟨fun g1=>?_,fun g1=>?_⟩
 ·have hN:=numK_lt (f:=f) (fun x hx=>by have:=hf.lt x hx; omega) y
  have hN':numK f y<3125:=Nat.lt_of_lt_of_le hN (by
   have:(5:Nat) ^ y≤5 ^ 5:=Nat.pow_le_pow_right (by decide) hy
   omega)
  have hg:(List.take 5 (List.drop 1 (mp f))).getD y 0=(f.getD y 0:Int):=by
   have:(List.take 5 (List.drop 1 (mp f))).getD y 0=(mp f).getD (y+1) 0:=by
    rw [List.take_of_length_le (by simp [hlf])]
    simp [List.getD_eq_getElem?_getD,Nat.add_comm]
   rw [this,mp,mpN_get]
  have hb:f.getD y 0<5:=by
   rw [List.getD_eq_getElem?_getD]
   cases e:f[y]? with
   | none=>simp
   | some x=>have:=hf.lt x (List.mem_of_getElem? e); simp; omega
  rw [hg]
  have g2:y<5:=by omega
  exact ⟨g1,g2,fun _=>⟨by omega,by omega,by omega,ih (y+1) (by omega) (by omega) _ _ (by simp [keep,numK]) rfl⟩⟩
 ·obtain rfl:y=5:=by omega
  try simp only [go_sem]
  exact Kv.Fin.still ⟨rfl,rfl⟩
end
end
section
section
attribute [local irreducible] ACall PCall KL
def moV (E W:PV) (P:List Int):List PV:=E :: W :: ints P
instance {E W:PV} {P:List Int} [h:Still E] [h':Still W]:StillL (moV E W P):=inferInstanceAs (StillL (E :: W :: ints P))
end
end
section
section
attribute [local irreducible] ACall PCall KL
def PlOk (n:Nat) (P:List Int) (S:List (List Nat)):Prop:=P.length=3125∧(∀ x∈P,0≤x∧x≤300)∧∀ f,Ok f n→P.getD (numK f 5) 0 - 1=plM n S f
end
end
section
section
set_option maxRecDepth 100000
def k58_b0:KC:=(.seq (.ops [oP 35 (.bin .lss (.t 34) (.t 33))])
 (.seq (.cond (.t 35) .skip (.exit 0))
 (.seq (.block 1 (.seq (.ops [oP 36 (.idxS 6 (.t 32) (.t 34)),oP 37 (.load true 6 (.t 36)),oP 12 (.alloc [.int .i64 0,.int .i64 0,.int .i64 0,.int .i64 0,.int .i64 0,.int .i64 0]),⟨none,none,.store 6 (.t 12) (.t 37)⟩])
 (.seq (.ops [mV 38 8,oP 39 (.load true 6 (.t 12)),oP 40 (.call (fC 130) [(.t 38),(.t 39)]),mV 13 40])
 (.seq (.seq (.ops [mV 41 13,oP 42 (.bin .lss (.t 41) (iC 0))])
 (.cond (.t 42) (.seq (.ops [oP 4 (.mv (.c (.nilptr))),oP 5 (.mv (.c (.nils))),oP 6 (.mv (iC 4))])
 .ret) .skip))
 (.ops [mV 43 10,mV 44 13,oP 45 (.bsl true 3 1 [(.t 44)]),oP 46 (.app (.t 43) (.t 45) 3 1),mV 10 46])))))
 (.ops [oP 47 (.bin .add (.t 34) (iC 1)),mV 34 47]))))
def k58:KC:=(.seq (.ops [oP 4 (.mv (.c (.nilptr))),oP 5 (.mv (.c (.nils))),oP 6 (.mv (iC 0))])
 (.seq (.seq (.ops [mV 14 0,mV 15 1,oP 16 (.call (fC 118) [(.t 14),(.t 15)]),mV 7 16])
 (.seq (.ops [mV 17 7,oP 18 (.bin .neq (.t 17) (iC 0))])
 (.cond (.t 18) (.seq (.ops [mV 19 7,oP 4 (.mv (.c (.nilptr))),oP 5 (.mv (.c (.nils))),mV 6 19])
 .ret) .skip)))
 (.seq (.ops [mV 21 0,mV 22 0,oP 23 (.idxS 6 (.t 22) (iC 0)),oP 24 (.fieldA 0 (.t 23)),oP 25 (.load false 1 (.t 24)),oP 26 (.call (fC 129) [(.t 21),(.t 25)]),mV 20 26,oP 27 (.extr 0 (.t 20)),oP 28 (.extr 1 (.t 20)),mV 8 27,mV 9 28])
 (.seq (.seq (.ops [mV 29 9,oP 30 (.bin .neq (.t 29) (iC 0))])
 (.cond (.t 30) (.seq (.ops [mV 31 9,oP 4 (.mv (.c (.nilptr))),oP 5 (.mv (.c (.nils))),mV 6 31])
 .ret) .skip))
 (.seq (.ops [oP 10 (.mv (.c (.nils)))])
 (.seq (.seq (.ops [mV 32 1,oP 33 (.len false (.t 32)),oP 34 (.mv (iC 0))])
 (.block 0 (.loop k58_b0)))
 (.seq (.ops [mV 48 8,mV 49 10,mV 4 48,mV 5 49,oP 6 (.mv (iC 0))])
 .ret)))))))
theorem e58:Ent 58 50 [45] [.t 4,.t 5,.t 6] k58:=ent Tryz.func58
end
section
attribute [local irreducible] ACall PCall KL
theorem p58_of (fs:List (List Nat)) (n:Nat) (hf:∀ f∈fs,Ok f n) (h0:0<fs.length) (hfl:fs.length≤6) (hl:lcode (fs.map mp) []=0) (m:PV) [Still m] (c:Int)
  (hM:Pure Tryz.prog 129 [.list (aggs (fs.map mp)),.int .i64 n] (.tup [m,.int .i64 c])) :
  Pure Tryz.prog 58 [.list (aggs (fs.map mp)),.nils] (if c=0 then .tup [m,.nils,.int .i64 0] else .tup [.nilptr,.nils,.int .i64 c]):=by
 have hk:=hf _ (List.getElem_mem h0)
 have h6k:=hk.mp_len
 have hn:(mp fs[0]).getD 0 0=(n:Int):=by simp [mp,mpN,hk.len]
 refine e58 (by simp) fun _ _=>?_
 simp only [k58,argEnv,go_sem]
 refine (p118 _ (fs.map mp) [] .nil (by simp; omega) (by simp) (fun r hr=>by obtain ⟨f,hf',rfl⟩:=List.mem_map.1 hr; exact (hf f hf').mp_len) (by simp)).go ?_
 rw [hl]
 try simp only [OpK_eq,HKv,map_getD h0,h6k,hn,List.length_map,go_sem]
 refine ⟨by omega,fun _=>?_⟩
 refine hM.go ?_
 try simp only [OpK_eq,HKv,go_sem]
 refine ⟨fun g1=>?_,fun g1=>?_⟩
 ·rw [if_neg (by omega)]
  exact Kv.Fin.still ⟨rfl,rfl⟩
 ·refine KL_ind k58_b0.eq_1 (fun y:Nat=>[(8,m),(10,.nils),(32,.nils),(33,.int .i64 0),(34,.int .i64 0)]) (fun _=>[]) (fun y=>True) (fun y=>0) [8,10,32,33,34] 0 (by simp [keep]) rfl trivial fun y _ ih=>?_
  try simp only [OpK_eq,HKv,go_sem]
  rw [if_pos (by omega)]
  exact Kv.Fin.still ⟨rfl,rfl⟩
def MonOk (fs:List (List Nat)) (n:Nat):Prop:=match clR fs n with
 | none=>Pure Tryz.prog 129 [.list (aggs (fs.map mp)),.int .i64 n] (.tup [.nilptr,.int .i64 3])
 | some Q=>∃ W P,Still W∧PlOk n P (elS n Q)∧Pure Tryz.prog 129 [.list (aggs (fs.map mp)),.int .i64 n] (.tup [.fptr (moV (.list (aggs ((elS n Q).map mp))) W P) 0,.int .i64 0])
end
end
end Go.Proofs.YtcfmmmloeaggmaaGreat
section

end
namespace Go.Proofs.YtcfmmmloeaggmaaGreat
open Go.Kv
set_option linter.unusedVariables false
set_option linter.unusedSimpArgs false
section
section
attribute [local irreducible] ACall PCall KL
theorem srm_uniq {n:Nat}:∀ {S T:List (List Nat)},SrM n S→SrM n T→(∀ f,f∈S↔f∈T)→S=T
 | [],[],_,_,_=>rfl
 | [],b :: T,_,_,h=>by have:=(h b).2 (by simp); simp at this
 | a :: S,[],_,_,h=>by have:=(h a).1 (by simp); simp at this
 | a :: S,b :: T,hS,hT,h=>by
  have pS:=List.pairwise_cons.1 hS.2
  have pT:=List.pairwise_cons.1 hT.2
  have e:a=b:=by
   rcases List.mem_cons.1 ((h a).1 (by simp)) with e | e
   ·exact e
   ·rcases List.mem_cons.1 ((h b).2 (by simp)) with e' | e'
    ·exact e'.symm
    ·have:=pT.1 _ e; have:=pS.1 _ e'; omega
  subst e
  rw [srm_uniq (S:=S) (T:=T) ⟨fun f hf=>hS.1 f (by simp [hf]),pS.2⟩ ⟨fun f hf=>hT.1 f (by simp [hf]),pT.2⟩ fun f=>?_]
  constructor
  ·intro hf
   rcases List.mem_cons.1 ((h f).1 (by simp [hf])) with e | e
   ·subst e; have:=pS.1 _ hf; omega
   ·exact e
  ·intro hf
   rcases List.mem_cons.1 ((h f).2 (by simp [hf])) with e | e
   ·subst e; have:=pT.1 _ hf; omega
   ·exact e
end
end
section
section
attribute [local irreducible] ACall PCall KL
def setP (S:List (List Nat)) (P:List Int):Nat→List Int
 | 0=>P
 | k+1=>(setP S P k).set (numK (S.getD k []) 5) (k+1)
theorem set_getD {l:List Int} {i j:Nat} {x:Int}:(l.set i x).getD j 0=if i=j∧i<l.length then x else l.getD j 0:=by
 rw [List.getD_eq_getElem?_getD,List.getD_eq_getElem?_getD,List.getElem?_set]
 by_cases h:i=j
 ·subst h
  by_cases h':i<l.length
  ·simp [h']
  ·simp [h',List.getElem?_eq_none (Nat.le_of_not_lt h')]
 ·simp [h]
theorem num_lt {f:List Nat} {n:Nat} (hf:Ok f n):numK f 5<3125 :=
 numK_lt (f:=f) (fun x hx=>by have:=hf.lt x hx; have:=hf.le; omega) 5
theorem setP_spec {n:Nat} {S:List (List Nat)} {P:List Int} (hS:SrM n S) (hP:P.length=3125):∀ k,k≤S.length→(setP S P k).length=3125∧∀ f,Ok f n→(∀ j,j<k→S.getD j []=f→(setP S P k).getD (numK f 5) 0=j+1)∧((∀ j,j<k→S.getD j []≠f)→(setP S P k).getD (numK f 5) 0=P.getD (numK f 5) 0)
 | 0,_=>⟨hP,fun f _=>⟨fun j hj=>by omega,fun _=>rfl⟩⟩
 | k+1,hk=>by
  obtain ⟨i1,i2⟩:=setP_spec hS hP k (by omega)
  have ge:∀ j (hj:j<S.length),S.getD j []=S[j]:=fun j hj=>by simp [List.getD_eq_getElem?_getD,hj]
  have ok:Ok (S.getD k []) n:=by rw [ge k hk]; exact hS.1 _ (List.getElem_mem _)
  have lk:=num_lt ok
  refine ⟨by rw [setP,List.length_set,i1],fun f hf=>⟨fun j hj e=>?_,fun h=>?_⟩⟩
  ·rw [setP,set_getD,i1]
   by_cases hjk:j=k
   ·subst hjk; rw [e,if_pos ⟨rfl,num_lt hf⟩]
   ·have hne:S.getD k []≠f:=fun e'=>by
     have:=List.pairwise_iff_getElem.1 hS.2 j k (by omega) (by omega) (by omega)
     rw [← ge j (by omega),← ge k (by omega),e,e'] at this; omega
    rw [if_neg fun c=>hne (num_inj ok hf c.1)]
    exact (i2 f hf).1 j (by omega) e
  ·rw [setP,set_getD,if_neg fun c=>h k (by omega) (num_inj ok hf c.1)]
   exact (i2 f hf).2 fun j hj=>h j (by omega)
theorem setP_bound {S:List (List Nat)} {P:List Int} (hb:∀ x∈P,0≤x∧x≤300):∀ k,k≤300→∀ x∈setP S P k,0≤x∧x≤300
 | 0,_,x,hx=>hb x hx
 | k+1,hk,x,hx=>by
  rw [setP] at hx
  rcases List.mem_or_eq_of_mem_set hx with h | h
  ·exact setP_bound hb k (by omega) x h
  ·omega
theorem setP_ok {n:Nat} {S:List (List Nat)} {P:List Int} (hS:SrM n S) (hl:S.length≤300) (hP:P.length=3125) (hb:∀ x∈P,0≤x∧x≤300) (h0:∀ f,Ok f n→f ∉ S→P.getD (numK f 5) 0=0):PlOk n (setP S P S.length) S:=by
 obtain ⟨i1,i2⟩:=setP_spec hS hP S.length (Nat.le_refl _)
 refine ⟨i1,setP_bound hb _ hl,fun f hf=>?_⟩
 unfold plM
 by_cases h:f∈S
 ·obtain ⟨h1,h2⟩:=(lo_mem hS hf).2 h
  rw [if_pos ⟨h1,h2⟩,(i2 f hf).1 _ h1 h2]; omega
 ·rw [if_neg fun c=>h ((lo_mem hS hf).1 c),(i2 f hf).2 fun j hj e=>h ?_,h0 f hf h]
  ·rfl
  ·rw [← e,List.getD_eq_getElem?_getD,List.getElem?_eq_getElem hj]; exact List.getElem_mem _
end
end
section
section
attribute [local irreducible] ACall PCall KL
def FdOk (n:Nat) (P:List Int) (Q:List (List Nat)):Prop:=P.length=3125∧(∀ x∈P,0≤x∧x≤300)∧∀ f,Ok f n→(∀ j:Nat,Q[j]? = some f→P.getD (numK f 5) 0=j+1)∧(f ∉ Q→P.getD (numK f 5) 0=0)
theorem FdOk.pos {n:Nat} {P:List Int} {Q:List (List Nat)} (h:FdOk n P Q) {f:List Nat} (hf:Ok f n):0<P.getD (numK f 5) 0↔f∈Q:=by
 constructor
 ·intro h1
  apply Classical.byContradiction
  intro h2
  have:=(h.2.2 f hf).2 h2; omega
 ·intro h1
  obtain ⟨j,hj,e⟩:=List.getElem_of_mem h1
  have:=(h.2.2 f hf).1 j (by rw [List.getElem?_eq_getElem hj,e]); omega
theorem FdOk.push {n:Nat} {P:List Int} {Q:List (List Nat)} (h:FdOk n P Q) {g:List Nat} (hg:Ok g n) (hn:g ∉ Q) (hl:Q.length<300):FdOk n (P.set (numK g 5) (Q.length+1)) (Q ++ [g]):=by
 refine ⟨by rw [List.length_set,h.1],fun x hx=>?_,fun f hf=>⟨fun j hj=>?_,fun hm=>?_⟩⟩
 ·rcases List.mem_or_eq_of_mem_set hx with h' | h'
  ·exact h.2.1 x h'
  ·omega
 ·rw [set_getD,h.1]
  by_cases e:f=g
  ·subst e
   rw [if_pos ⟨rfl,num_lt hf⟩]
   by_cases hjl:j<Q.length
   ·rw [List.getElem?_append_left hjl] at hj
    exact absurd (List.mem_of_getElem? hj) hn
   ·have:=(List.getElem?_eq_some_iff.1 hj).1
    simp at this
    omega
  ·rw [if_neg fun c=>e (num_inj hf hg c.1.symm)]
   by_cases hjl:j<Q.length
   ·rw [List.getElem?_append_left hjl] at hj
    exact (h.2.2 f hf).1 j hj
   ·rw [List.getElem?_append_right (by omega)] at hj
    have:=List.mem_of_getElem? hj
    simp at this
    exact absurd this e
 ·simp at hm
  rw [set_getD,if_neg fun c=>hm.2 (num_inj hf hg c.1.symm)]
  exact (h.2.2 f hf).2 hm.1
end
end
section
section
set_option maxRecDepth 100000
abbrev k129_t0s0:KT:=(.op (oP 73 (.app (.t 70) (.t 72) 2 1)) (.op (oP 74 (.bsl true 25 1 [(.t 73)])) (.op (oP 75 (.app (.t 65) (.t 74) 25 1)) (.op (mV 7 64) (.op (mV 8 75) .fin)))))
abbrev k129_t0s1:KT:=(.op (oP 70 (.call (fC 115) [(.t 69)])) k129_t0s0)
abbrev k129_t0s2:KT:=(.alt (.op (oP 70 (.call (fC 115) [(.t 69)])) (.op (oP 72 (.bsl true 2 1 [(.t 71)])) k129_t0s0)) (.op (oP 72 (.bsl true 2 1 [(.t 71)])) k129_t0s1))
abbrev k129_t0s3:KT:=(.op (oP 69 (.load false 1 (.t 68))) k129_t0s1)
abbrev k129_t0s4:KT:=(.alt (.op (oP 69 (.load false 1 (.t 68))) k129_t0s2) (.op (oP 72 (.bsl true 2 1 [(.t 71)])) k129_t0s3))
abbrev k129_t0s5:KT:=(.op (oP 68 (.idxS 1 (.t 66) (.t 67))) k129_t0s3)
abbrev k129_t0s6:KT:=(.op (oP 64 (.app (.t 61) (.t 63) 48 6)) k129_t0s1)
abbrev k129_t0s7:KT:=(.alt (.op (oP 64 (.app (.t 61) (.t 63) 48 6)) k129_t0s2) (.op (oP 72 (.bsl true 2 1 [(.t 71)])) k129_t0s6))
abbrev k129_t0s8:KT:=(.alt (.op (oP 64 (.app (.t 61) (.t 63) 48 6)) k129_t0s3) (.op (oP 69 (.load false 1 (.t 68))) k129_t0s6))
abbrev k129_t0s9:KT:=(.alt (.op (oP 64 (.app (.t 61) (.t 63) 48 6)) k129_t0s4) (.alt (.op (oP 69 (.load false 1 (.t 68))) k129_t0s7) (.op (oP 72 (.bsl true 2 1 [(.t 71)])) k129_t0s8)))
abbrev k129_t0s10:KT:=(.alt (.op (oP 64 (.app (.t 61) (.t 63) 48 6)) k129_t0s5) (.op (oP 68 (.idxS 1 (.t 66) (.t 67))) k129_t0s8))
abbrev k129_t0s11:KT:=(.op (oP 63 (.bsl true 48 6 [(.t 62)])) k129_t0s6)
abbrev k129_t0s12:KT:=(.alt (.op (oP 63 (.bsl true 48 6 [(.t 62)])) k129_t0s7) (.op (oP 72 (.bsl true 2 1 [(.t 71)])) k129_t0s11))
abbrev k129_t0s13:KT:=(.alt (.op (oP 63 (.bsl true 48 6 [(.t 62)])) k129_t0s8) (.op (oP 69 (.load false 1 (.t 68))) k129_t0s11))
abbrev k129_t0s14:KT:=(.alt (.op (oP 63 (.bsl true 48 6 [(.t 62)])) k129_t0s9) (.alt (.op (oP 69 (.load false 1 (.t 68))) k129_t0s12) (.op (oP 72 (.bsl true 2 1 [(.t 71)])) k129_t0s13)))
abbrev k129_t0s15:KT:=(.alt (.op (oP 63 (.bsl true 48 6 [(.t 62)])) k129_t0s10) (.op (oP 68 (.idxS 1 (.t 66) (.t 67))) k129_t0s13))
abbrev k129_t0s16:KT:=(.op (oP 62 (.load true 6 (.t 12))) k129_t0s11)
abbrev k129_t0s17:KT:=(.alt (.op (oP 62 (.load true 6 (.t 12))) k129_t0s13) (.op (oP 69 (.load false 1 (.t 68))) k129_t0s16))
def k129_t0:KT:=(.op (mV 61 7) (.op (mV 65 8) (.op (mV 66 8) (.op (mV 67 9) (.op (mV 71 10) (.alt (.op (oP 62 (.load true 6 (.t 12))) (.alt (.op (oP 63 (.bsl true 48 6 [(.t 62)])) (.alt (.op (oP 64 (.app (.t 61) (.t 63) 48 6)) (.alt (.op (oP 68 (.idxS 1 (.t 66) (.t 67))) k129_t0s4) (.op (oP 72 (.bsl true 2 1 [(.t 71)])) k129_t0s5))) (.alt (.op (oP 68 (.idxS 1 (.t 66) (.t 67))) k129_t0s9) (.op (oP 72 (.bsl true 2 1 [(.t 71)])) k129_t0s10)))) (.alt (.op (oP 68 (.idxS 1 (.t 66) (.t 67))) k129_t0s14) (.op (oP 72 (.bsl true 2 1 [(.t 71)])) k129_t0s15)))) (.alt (.op (oP 68 (.idxS 1 (.t 66) (.t 67))) (.alt (.op (oP 62 (.load true 6 (.t 12))) k129_t0s14) (.alt (.op (oP 69 (.load false 1 (.t 68))) (.alt (.op (oP 62 (.load true 6 (.t 12))) k129_t0s12) (.op (oP 72 (.bsl true 2 1 [(.t 71)])) k129_t0s16))) (.op (oP 72 (.bsl true 2 1 [(.t 71)])) k129_t0s17)))) (.op (oP 72 (.bsl true 2 1 [(.t 71)])) (.alt (.op (oP 62 (.load true 6 (.t 12))) k129_t0s15) (.op (oP 68 (.idxS 1 (.t 66) (.t 67))) k129_t0s17))))))))))
def k129_b0:KC:=(.seq (.ops [oP 40 (.bin .lss (.t 39) (.t 38))])
 (.seq (.cond (.t 40) .skip (.exit 2))
 (.seq (.block 3 (.seq (.ops [mV 41 39,oP 42 (.idxS 6 (.t 37) (.t 39)),oP 43 (.load true 6 (.t 42)),oP 11 (.alloc [.int .i64 0,.int .i64 0,.int .i64 0,.int .i64 0,.int .i64 0,.int .i64 0]),mV 10 41,⟨none,none,.store 6 (.t 11) (.t 43)⟩])
 (.seq (.draw [mV 44 7,mV 45 9,oP 46 (.idxS 6 (.t 44) (.t 45)),oP 47 (.load true 6 (.t 46)),oP 48 (.load true 6 (.t 11)),oP 49 (.pcall (fC 124) [(.t 47),(.t 48)]),oP 12 (.alloc [.int .i64 0,.int .i64 0,.int .i64 0,.int .i64 0,.int .i64 0,.int .i64 0]),⟨none,none,.store 6 (.t 12) (.t 49)⟩])
 (.seq (.seq (.draw [mV 50 6,oP 51 (.load true 6 (.t 12)),oP 53 (.nilck (.t 50)),oP 54 (.fieldA 2 (.t 53)),oP 52 (.pcall (fC 179) [(.t 51)]),oP 55 (.idxA 3125 1 (.t 54) (.t 52)),oP 56 (.load false 1 (.t 55)),oP 57 (.bin .gtr (.t 56) (iC 0))])
 (.cond (.t 57) (.exit 3) .skip))
 (.seq (.seq (.ops [mV 58 7,oP 59 (.len false (.t 58)),oP 60 (.bin .eql (.t 59) (iC 300))])
 (.cond (.t 60) (.seq (.ops [oP 4 (.mv (.c (.nilptr))),oP 5 (.mv (iC 3))])
 .ret) .skip))
 (.seq (.tree k129_t0)
 (.draw [mV 76 6,oP 77 (.load true 6 (.t 12)),mV 79 7,oP 80 (.len false (.t 79)),oP 81 (.nilck (.t 76)),oP 82 (.fieldA 2 (.t 81)),oP 78 (.pcall (fC 179) [(.t 77)]),oP 83 (.idxA 3125 1 (.t 82) (.t 78)),⟨none,none,.store 1 (.t 83) (.t 80)⟩])))))))
 (.ops [oP 84 (.bin .add (.t 39) (iC 1)),mV 39 84]))))
def k129_b1:KC:=(.seq (.seq (.ops [mV 31 9,mV 32 7,oP 33 (.len false (.t 32)),oP 34 (.bin .lss (.t 31) (.t 33))])
 (.cond (.t 34) .skip (.exit 0)))
 (.seq (.block 1 (.seq (.ops [mV 37 0,oP 38 (.len false (.t 37)),oP 39 (.mv (iC 0))])
 (.block 2 (.loop k129_b0))))
 (.ops [mV 35 9,oP 36 (.bin .add (.t 35) (iC 1)),mV 9 36])))
def k129_b2:KC:=(.seq (.ops [oP 101 (.bin .lss (.t 100) (.t 99))])
 (.seq (.cond (.t 101) .skip (.exit 4))
 (.seq (.block 5 (.seq (.ops [oP 102 (.idxS 6 (.t 98) (.t 100)),oP 103 (.load true 6 (.t 102)),oP 14 (.alloc [.int .i64 0,.int .i64 0,.int .i64 0,.int .i64 0,.int .i64 0,.int .i64 0]),⟨none,none,.store 6 (.t 14) (.t 103)⟩])
 (.draw [mV 104 6,mV 105 6,oP 106 (.nilck (.t 105)),oP 107 (.fieldA 1 (.t 106)),oP 108 (.load false 1 (.t 107)),mV 109 8,mV 110 6,oP 111 (.load true 6 (.t 14)),oP 113 (.nilck (.t 110)),oP 114 (.fieldA 2 (.t 113)),oP 112 (.pcall (fC 179) [(.t 111)]),oP 115 (.idxA 3125 1 (.t 114) (.t 112)),oP 116 (.load false 1 (.t 115)),oP 117 (.bin .sub (.t 116) (iC 1)),oP 118 (.idxS 1 (.t 109) (.t 117)),oP 119 (.load false 1 (.t 118)),oP 120 (.bsl true 25 1 [(.t 119)]),oP 121 (.app (.t 108) (.t 120) 25 1),oP 122 (.nilck (.t 104)),oP 123 (.fieldA 1 (.t 122)),⟨none,none,.store 1 (.t 123) (.t 121)⟩])))
 (.ops [oP 124 (.bin .add (.t 100) (iC 1)),mV 100 124]))))
def k129_b3:KC:=(.seq (.ops [oP 131 (.bin .lss (.t 130) (.t 129))])
 (.seq (.cond (.t 131) .skip (.exit 6))
 (.seq (.block 7 (.seq (.ops [mV 132 130,oP 133 (.idxS 6 (.t 128) (.t 130)),oP 134 (.load true 6 (.t 133)),oP 16 (.alloc [.int .i64 0,.int .i64 0,.int .i64 0,.int .i64 0,.int .i64 0,.int .i64 0]),mV 15 132,⟨none,none,.store 6 (.t 16) (.t 134)⟩])
 (.draw [mV 135 6,oP 136 (.load true 6 (.t 16)),mV 138 15,oP 139 (.bin .add (.t 138) (iC 1)),oP 140 (.nilck (.t 135)),oP 141 (.fieldA 2 (.t 140)),oP 137 (.pcall (fC 179) [(.t 136)]),oP 142 (.idxA 3125 1 (.t 141) (.t 137)),⟨none,none,.store 1 (.t 142) (.t 139)⟩])))
 (.ops [oP 143 (.bin .add (.t 130) (iC 1)),mV 130 143]))))
def k129:KC:=(.seq (.ops [oP 4 (.mv (.c (.nilptr))),oP 5 (.mv (iC 0))])
 (.seq (.ops [oP 17 (.build ([.nils,.nils] ++ List.replicate 3125 (.int .i64 0)) []),oP 18 (.box false (.t 17)),mV 6 18])
 (.seq (.ops [mV 19 1,oP 20 (.call (fC 123) [(.t 19)]),oP 21 (.bsl false 48 6 [(.t 20)]),mV 7 21])
 (.seq (.ops [oP 22 (.bsl false 25 1 [(.c (.nils))]),mV 8 22])
 (.seq (.draw [mV 23 6,mV 24 7,oP 25 (.idxS 6 (.t 24) (iC 0)),oP 26 (.load true 6 (.t 25)),oP 28 (.nilck (.t 23)),oP 29 (.fieldA 2 (.t 28)),oP 27 (.pcall (fC 179) [(.t 26)]),oP 30 (.idxA 3125 1 (.t 29) (.t 27)),⟨none,none,.store 1 (.t 30) (iC 1)⟩])
 (.seq (.seq (.ops [oP 9 (.mv (iC 0))])
 (.block 0 (.loop k129_b1)))
 (.seq (.ops [mV 85 6,mV 86 7,oP 87 (.call (fC 180) [(.t 86)]),oP 88 (.nilck (.t 85)),oP 89 (.fieldA 0 (.t 88)),⟨none,none,.store 1 (.t 89) (.t 87)⟩])
 (.seq (.ops [mV 90 6,oP 91 (.nilck (.t 90)),oP 92 (.fieldA 0 (.t 91)),oP 93 (.load false 1 (.t 92)),oP 94 (.call (fC 181) [(.t 93),(fC 182)])])
 (.seq (.seq (.ops [mV 95 6,oP 96 (.nilck (.t 95)),oP 97 (.fieldA 0 (.t 96)),oP 98 (.load false 1 (.t 97)),oP 99 (.len false (.t 98)),oP 100 (.mv (iC 0))])
 (.block 4 (.loop k129_b2)))
 (.seq (.seq (.ops [mV 125 6,oP 126 (.nilck (.t 125)),oP 127 (.fieldA 0 (.t 126)),oP 128 (.load false 1 (.t 127)),oP 129 (.len false (.t 128)),oP 130 (.mv (iC 0))])
 (.block 6 (.loop k129_b3)))
 (.seq (.ops [mV 144 6,mV 4 144,oP 5 (.mv (iC 0))])
 .ret)))))))))))
theorem e129:Ent 129 145 [63,72,74,120] [.t 4,.t 5] k129:=ent Tryz.func129
def k180:KC:=(.seq (.ops [oP 2 (.mv (.c (.nils)))])
 (.seq (.seq (.ops [mV 3 0,oP 4 (.isn false (.t 3))])
 (.cond (.t 4) (.seq (.ops [oP 2 (.mv (.c (.nils)))])
 .ret) .skip))
 (.seq (.ops [oP 5 (.bsl false 48 6 []),mV 6 0,oP 7 (.app (.t 5) (.t 6) 48 6),mV 2 7])
 .ret)))
theorem e180:Ent 180 8 [] [.t 2] k180:=ent Tryz.func180
end
end
end Go.Proofs.YtcfmmmloeaggmaaGreat
