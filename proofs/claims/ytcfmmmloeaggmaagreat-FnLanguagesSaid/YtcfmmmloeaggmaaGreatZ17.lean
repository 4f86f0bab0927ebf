/- Several texts of this session as one, less what the claim does not need. -/
import Derived.Test.YtcfmmmloeaggmaaGreatCb
import Derived.Test.YtcfmmmloeaggmaaGreatZ13
import Derived.Test.YtcfmmmloeaggmaaGreatZ16
import Derived.Test.YtcfmmmloeaggmaaGreatFC
import Derived.OpenShut
import Derived.DataElems
import Derived.Test.YtcfmmmloeaggmaaGreatZ10
import Derived.Test.YtcfmmmloeaggmaaGreatZ6
import Derived.Test.YtcfmmmloeaggmaaGreatZ5
import Derived.Test.YtcfmmmloeaggmaaGreatZ9
namespace Go.Proofs.YtcfmmmloeaggmaaGreat
open Go.Kv
set_option linter.unusedVariables false
set_option linter.unusedSimpArgs false
section
section
set_option maxRecDepth 100000
def k21:KC:=(.seq (.ops [oP 2 (.mv (.c (.nils))),oP 3 (.mv (iC 0))])
 (.seq (.ops [mV 8 0,oP 9 (.call (fC 58) [(.t 8),(.c (.nils))]),mV 7 9,oP 10 (.extr 0 (.t 7)),oP 11 (.extr 1 (.t 7)),oP 12 (.extr 2 (.t 7)),mV 4 10,mV 5 11,mV 6 12])
 (.seq (.seq (.ops [mV 13 6,oP 14 (.bin .neq (.t 13) (iC 0))])
 (.cond (.t 14) (.seq (.ops [mV 15 6,oP 2 (.mv (.c (.nils))),mV 3 15])
 .ret) .skip))
 (.seq (.ops [mV 16 4,oP 17 (.nilck (.t 16)),oP 18 (.fieldA 0 (.t 17)),oP 19 (.load false 1 (.t 18)),mV 2 19,oP 3 (.mv (iC 0))])
 .ret))))
theorem e21:Ent 21 20 [] [.t 2,.t 3] k21:=ent Tryz.func21
end
section
attribute [local irreducible] ACall PCall KL
set_option maxRecDepth 8000 in
theorem p21_in (fs:List (List Nat)) (n:Nat) (h1:1≤n) (h5:n≤5) (hf:∀ f∈fs,Ok f n) (h0:0<fs.length) (hfl:fs.length≤6) (hl:lcode (fs.map mp) []=0) :
  Pure Tryz.prog 21 [.list (aggs (fs.map mp))] (match clR fs n with | none=>.tup [.nils,.int .i64 3] | some Q=>.tup [.list (aggs ((elS n Q).map mp)),.int .i64 0]):=by
 have hM:=monOk fs n h1 h5 hf (Nat.le_trans hfl (by decide))
 unfold MonOk at hM
 cases hR:clR fs n with
 | none =>
  rw [hR] at hM
  simp only at hM
  have hE:=p58_of fs n hf h0 hfl hl _ _ hM
  rw [if_neg (by decide)] at hE
  show Pure Tryz.prog 21 [.list (aggs (fs.map mp))] (.tup [.nils,.int .i64 3])
  refine e21 (by simp) fun _ _=>?_
  simp only [k21,argEnv,go_sem]
  refine hE.go ?_
  try simp only [OpK_eq,HKv,go_sem]
  exact ⟨fun _=>Kv.Fin.still ⟨rfl,rfl⟩,fun h=>absurd h (by decide)⟩
 | some Q =>
  rw [hR] at hM
  simp only at hM
  obtain ⟨W,P,hW,hP,hM⟩:=hM
  have hE:=p58_of fs n hf h0 hfl hl _ _ hM
  rw [if_pos rfl] at hE
  show Pure Tryz.prog 21 [.list (aggs (fs.map mp))] (.tup [.list (aggs ((elS n Q).map mp)),.int .i64 0])
  have hml:(moV (.list (aggs ((elS n Q).map mp))) W P).length=3127:=by rw [moV,List.length_cons,List.length_cons,ints_length,hP.1]
  have hm0:(moV (.list (aggs ((elS n Q).map mp))) W P)[0]? = some (.list (aggs ((elS n Q).map mp))):=rfl
  refine e21 (by simp) fun _ _=>?_
  simp only [k21,argEnv,go_sem]
  refine hE.go ?_
  try simp only [OpK_eq,HKv,hml,hm0,go_sem]
  exact Kv.Fin.still ⟨rfl,rfl⟩
end
end
end Go.Proofs.YtcfmmmloeaggmaaGreat
section
namespace Go.Kv
open Go.ChangeShapes
set_option linter.unusedVariables false
set_option linter.unusedSimpArgs false
variable {H:Type} {enc:TypeId × Value→H} {P:Program} {W:World} {sp:Nat→Bool} {held:Bool}
end Go.Kv
end
section
namespace Go.Kv
open Go.ChangeShapes
set_option linter.unusedVariables false
set_option linter.unusedSimpArgs false
def u8s (l:List Int):List PV:=l.map (PV.int .u8)
@[simp] theorem u8s_length (l:List Int):(u8s l).length=l.length:=by simp [u8s]
attribute [go_sem] u8s_length
theorem u8s_get {l:List Int} {i:Nat} {x:PV} (h:(u8s l)[i]? = some x):∃ z,l[i]? = some z∧x = .int .u8 z:=by
 simp only [u8s,List.getElem?_map,Option.map_eq_some_iff] at h
 obtain ⟨y,hy,rfl⟩:=h
 exact ⟨y,hy,rfl⟩
instance (l:List Int):Still (.list (u8s l)):=Still.list fun x hx=>by
 obtain ⟨m,_,rfl⟩:=List.mem_map.1 hx
 refine ⟨⟨(Plain.int _ _).up,(Plain.int _ _).rn⟩,fun c hc=>?_⟩
 simp only [PV.cs,List.mem_singleton] at hc
 subst hc
 exact (Plain.int _ _).up
variable {H:Type} {enc:TypeId × Value→H} {P:Program} {W:World} {sp:Nat→Bool} {held:Bool}
theorem rel_bytes {t e:TypeId} {fuel:Nat} {cs:List Value} {x:DataW H × List MemPlace} (ht:P.underlying t=some (.slice e)) (he:P.underlying e=some (.int .u8)) (hc:P.cellsOf e=1)
  (h:DataW.trod enc P W 0 sp held fuel t cs=some x):∃ (v:Value) (l:List Int),cs = [v]∧Rel (allFrz W) [] (.list (u8s l)) v∧l.length≤maxLen∧∀ z∈l,0≤z∧z≤255:=by
 rcases DataW.trod_slice ht h with ⟨rfl,_⟩ | ⟨a,len,cap,elems,rest,n,_,rfl,_,_,hlc,hcm,hel,hget,_,_⟩
 ·exact ⟨_,[],rfl,.listn,by simp,by simp⟩
 ·obtain ⟨l,hll,hq⟩:=choose_list (0:Int) (fun i z=>(0≤z∧z≤255)∧W.cell? (a.add (i * 1+0))=some (.int .u8 z)) len (fun i hi=>by
   have hg:=hget i hi
   rw [List.getElem?_eq_getElem (by omega),hc,Option.bind_eq_some_iff] at hg
   obtain ⟨cs',hcs,htr⟩:=hg
   obtain ⟨z,hz,_,hw⟩:=DataW.trod_int he htr
   refine ⟨z,?_,?_⟩
   ·simp only [Lit.wf,Bool.and_eq_true,decide_eq_true_eq] at hw
    exact hw
   ·have:=(World.cells?_some hcs).2.2 0 (by omega)
    rw [hz] at this
    rw [Addr.add_add] at this
    exact this)
  refine ⟨_,l,rfl,?_,by omega,fun z hz=>?_⟩
  ·have:=list_rel (W:=W) (a:=a) (cap:=cap) (esz:=1) (xs:=u8s l) (by rw [u8s_length,hll]; exact hlc) (by omega) (fun x hx=>by
    simp only [u8s,List.mem_map] at hx
    obtain ⟨y,_,rfl⟩:=hx
    exact ⟨rfl,rfl⟩) (fun i x j c hx hcj=>by
    obtain ⟨y,hy,rfl⟩:=u8s_get hx
    have hj:j=0∧c = .int .u8 y:=by
     cases j with
     | zero=>simp [PV.cs] at hcj; exact ⟨rfl,hcj.symm⟩
     | succ j=>simp [PV.cs] at hcj
    obtain ⟨rfl,rfl⟩:=hj
    have hi:=(List.getElem?_eq_some_iff.1 hy).1
    have h2:=(hq i (by omega)).2
    rw [List.getD_eq_getElem?_getD,hy] at h2
    exact ⟨.int .u8 y,h2,.int _ _⟩)
   rw [u8s_length,hll] at this
   exact this
  ·obtain ⟨i,hi⟩:=List.getElem?_of_mem hz
   have hlt:=(List.getElem?_eq_some_iff.1 hi).1
   have:=(hq i (by omega)).1
   rw [List.getD_eq_getElem?_getD,hi] at this
   exact this
theorem arg_bytes {r:Reach} {b:Nat} {t e:TypeId} {v:Value} {d:DataW H} {ps:List MemPlace} (ht:P.underlying t=some (.slice e)) (he:P.underlying e=some (.int .u8)) (hc:P.cellsOf e=1)
  (hv:Value.okWide P W r b t v) (h:DataW.Trod enc P W 0 sp held t v d ps):∃ l:List Int,Rel (allFrz W) [] (.list (u8s l)) v∧l.length≤maxLen∧∀ z∈l,0≤z∧z≤255:=by
 obtain ⟨fuel,h⟩:=h
 rw [arg_slice ht hv] at h
 obtain ⟨u,l,hu,h1,h2,h3⟩:=rel_bytes ht he hc h
 cases hu
 exact ⟨l,h1,h2,h3⟩
end Go.Kv
end
namespace Go.Proofs.YtcfmmmloeaggmaaGreat
open Go.Kv
set_option linter.unusedVariables false
set_option linter.unusedSimpArgs false
section
section
set_option maxRecDepth 100000
def k5:KC:=(.seq (.ops [oP 2 (.mv (.c (.bool false)))])
 (.seq (.ops [mV 3 0,oP 4 (.len false (.t 3)),oP 5 (.bin .gtr (.t 4) (iC 4096)),mV 2 5])
 .ret))
theorem e5:Ent 5 6 [] [.t 2] k5:=ent Tryz.func5
def k53_b0:KC:=(.seq (.seq (.ops [mV 12 4,mV 13 0,oP 14 (.len false (.t 13)),oP 15 (.bin .lss (.t 12) (.t 14)),mV 16 15,⟨(some 17),some (16,true),.mv (.t 4)⟩,⟨(some 18),some (16,true),.bin .lss (.t 17) (iC 4096)⟩,oP 19 (.pick (.t 16) (.t 18) (.c (.bool false)))])
 (.cond (.t 19) .skip (.exit 0)))
 (.seq (.block 1 (.draw [mV 22 3,mV 23 3,oP 24 (.nilck (.t 23)),oP 25 (.fieldA 2 (.t 24)),oP 26 (.load false 1 (.t 25)),oP 27 (.bin .mul (.t 26) (.c (.int .u64 1099511628211))),mV 28 0,mV 29 4,oP 30 (.idxS 1 (.t 28) (.t 29)),oP 31 (.load false 1 (.t 30)),oP 32 (.conv .u64 (.t 31)),oP 33 (.bin .add (.t 27) (.t 32)),oP 34 (.bin .add (.t 33) (.c (.int .u64 181))),oP 35 (.nilck (.t 22)),oP 36 (.fieldA 2 (.t 35)),⟨none,none,.store 1 (.t 36) (.t 34)⟩]))
 (.ops [mV 20 4,oP 21 (.bin .add (.t 20) (iC 1)),mV 4 21])))
def k53:KC:=(.seq (.ops [oP 2 (.mv (.c (.nilptr)))])
 (.seq (.ops [mV 5 0,mV 6 0,oP 7 (.len false (.t 6)),oP 8 (.conv .u64 (.t 7)),oP 9 (.bin .add (.c (.int .u64 13591)) (.t 8)),oP 10 (.build [.nils,.int .i64 0,.int .u64 0] [(0,1,(.t 5)),(2,1,(.t 9))]),oP 11 (.box false (.t 10)),mV 3 11])
 (.seq (.seq (.ops [oP 4 (.mv (iC 0))])
 (.block 0 (.loop k53_b0)))
 (.seq (.ops [mV 37 3,mV 2 37])
 .ret))))
theorem e53:Ent 53 38 [] [.t 2] k53:=ent Tryz.func53
def k72:KC:=(.seq (.ops [oP 4 (.mv (iC 0))])
 (.seq (.seq (.ops [mV 6 1,oP 7 (.bin .lss (.t 6) (iC 1))])
 (.cond (.t 7) (.seq (.ops [oP 4 (.mv (iC 0))])
 .ret) .skip))
 (.seq (.ops [mV 8 0,mV 9 0,oP 10 (.nilck (.t 9)),oP 11 (.fieldA 2 (.t 10)),oP 12 (.load false 1 (.t 11)),oP 13 (.bin .mul (.t 12) (.c (.int .u64 6364136223846793005))),oP 14 (.bin .add (.t 13) (.c (.int .u64 1442695040888963407))),oP 15 (.nilck (.t 8)),oP 16 (.fieldA 2 (.t 15)),⟨none,none,.store 1 (.t 16) (.t 14)⟩])
 (.seq (.ops [mV 17 0,oP 18 (.nilck (.t 17)),oP 19 (.fieldA 2 (.t 18)),oP 20 (.load false 1 (.t 19)),oP 21 (.bin .shr (.t 20) (.c (.int .u64 33))),oP 22 (.bin .and (.t 21) (.c (.int .u64 16777215))),oP 23 (.conv .i64 (.t 22)),mV 5 23])
 (.seq (.seq (.draw [mV 24 0,oP 25 (.nilck (.t 24)),oP 26 (.fieldA 1 (.t 25)),oP 27 (.load false 1 (.t 26)),mV 28 0,oP 29 (.nilck (.t 28)),oP 30 (.fieldA 0 (.t 29)),oP 31 (.load false 1 (.t 30)),oP 32 (.len false (.t 31)),oP 33 (.bin .lss (.t 27) (.t 32))])
 (.cond (.t 33) (.seq (.draw [mV 34 5,mV 35 0,oP 36 (.nilck (.t 35)),oP 37 (.fieldA 0 (.t 36)),oP 38 (.load false 1 (.t 37)),mV 39 0,oP 40 (.nilck (.t 39)),oP 41 (.fieldA 1 (.t 40)),oP 42 (.load false 1 (.t 41)),oP 43 (.idxS 1 (.t 38) (.t 42)),oP 44 (.load false 1 (.t 43)),oP 45 (.conv .i64 (.t 44)),oP 46 (.bin .add (.t 34) (.t 45)),mV 5 46])
 (.ops [mV 47 0,mV 48 0,oP 49 (.nilck (.t 48)),oP 50 (.fieldA 1 (.t 49)),oP 51 (.load false 1 (.t 50)),oP 52 (.bin .add (.t 51) (iC 1)),oP 53 (.nilck (.t 47)),oP 54 (.fieldA 1 (.t 53)),⟨none,none,.store 1 (.t 54) (.t 52)⟩])) .skip))
 (.seq (.ops [mV 55 5,mV 56 1,oP 57 (.bin .rem (.t 55) (.t 56)),mV 4 57])
 .ret))))))
theorem e72:Ent 72 58 [] [.t 4] k72:=ent Tryz.func72
def k139:KC:=(.seq (.ops [oP 4 (.mv (iC 0))])
 (.seq (.ops [mV 5 1,mV 6 0,mV 7 1,oP 8 (.len false (.t 7)),oP 9 (.call (fC 72) [(.t 6),(.t 8)]),oP 10 (.idxS 1 (.t 5) (.t 9)),oP 11 (.load false 1 (.t 10)),mV 4 11])
 .ret))
theorem e139:Ent 139 12 [] [.t 4] k139:=ent Tryz.func139
end
section
attribute [local irreducible] ACall PCall KL
def srcO (l:List Int) (p:Nat) (h:Int):AObj:=.box [.list (u8s l),.int .i64 p,.int .u64 h]
def Src (σ:Heap) (b:Nat) (l:List Int):Prop:=∃ (p:Nat) (h:Int),σ[b]? = some (srcO l p h)∧p≤l.length
def Kept (σ σ':Heap) (b:Nat):Prop:=σ.length≤σ'.length∧∀ j,j < σ.length→j≠b→σ'[j]? = σ[j]?
def Byt (l:List Int):Prop:=l.length≤4096∧∀ z∈l,0≤z∧z≤255
theorem Kept.refl (σ:Heap) (b:Nat):Kept σ σ b:=⟨Nat.le_refl _,fun _ _ _=>rfl⟩
theorem Kept.trans {σ τ ρ:Heap} {b:Nat} (h:Kept σ τ b) (h':Kept τ ρ b):Kept σ ρ b :=
 ⟨Nat.le_trans h.1 h'.1,fun j hj hb=>(h'.2 j (Nat.lt_of_lt_of_le hj h.1) hb).trans (h.2 j hj hb)⟩
theorem Src.lt {σ:Heap} {b:Nat} {l:List Int} (h:Src σ b l):b < σ.length:=by
 obtain ⟨p,x,h,_⟩:=h
 exact (List.getElem?_eq_some_iff.1 h).1
theorem Kept.set {σ:Heap} {b:Nat} (o:AObj):Kept σ (σ.set b o) b:=⟨by simp,fun j _ hb=>List.getElem?_set_ne (Ne.symm hb)⟩
theorem Kept.app (σ τ:Heap) (b:Nat):Kept σ (σ ++ τ) b:=⟨by simp,fun j hj _=>List.getElem?_append_left hj⟩
theorem Src.app {σ:Heap} {b:Nat} {l:List Int} (h:Src σ b l) (τ:Heap):Src (σ ++ τ) b l:=by
 have:=h.lt
 obtain ⟨p,x,h,h2⟩:=h
 exact ⟨p,x,(List.getElem?_append_left this).trans h,h2⟩
theorem p5 (l:List Int) (hl:l.length≤9223372036854775807):Pure Tryz.prog 5 [.list (u8s l)] (.bool (decide (4096<(l.length:Int)))):=by
 refine e5 (by simp) fun _ _=>?_
 simp only [k5,argEnv,go_sem]
 exact Kv.Fin.still ⟨rfl,rfl⟩
theorem put3 (a b c d:PV):putC [a,b,c] 2 [d] = [a,b,d]:=by unfold putC; first | rfl | (split <;> rfl) | simp
theorem put31 (a b c d:PV):putC [a,b,c] 1 [d] = [a,d,c]:=by unfold putC; first | rfl | (split <;> rfl) | simp
def andV (a:Int):Nat:=(BitVec.ofInt 64 a &&& BitVec.ofInt 64 16777215).toNat
theorem andV_le (a:Int):andV a≤16777215:=by
 unfold andV
 rw [BitVec.toNat_and]
 exact Nat.le_trans Nat.and_le_right (by decide)
theorem wrapU64 {n:Nat} (h:n<18446744073709551616):IntKind.u64.wrap (n:Int)=n:=by
 have:IntKind.u64.wrap (n:Int)=(n:Int) % 18446744073709551616:=by simp [IntKind.wrap,IntKind.bits,IntKind.signed]
 rw [this]; omega
theorem aInt_and24 (a:Int) (K:PV→Prop):aInt .and .u64 a 16777215 K=K (.int .u64 (andV a)):=by
 have h:=andV_le a
 have:IntKind.u64.wrap ((BitVec.ofInt 64 a &&& BitVec.ofInt 64 16777215).toNat:Int)=((andV a:Nat):Int):=wrapU64 (by omega)
 show K (.int .u64 (IntKind.u64.wrap ((BitVec.ofInt 64 a &&& BitVec.ofInt 64 16777215).toNat:Int)))=_
 rw [this]
theorem aInt_shrU (a b:Int) (K:PV→Prop):aInt .shr .u64 a b K=((0≤b∧b≤(64:Nat))∧K (.int .u64 (a.fdiv (2 ^ b.toNat)))):=Eq.trans rfl rfl
theorem aWrapU (n:Int) (K:PV→Prop):aWrap .u64 n K=K (.int .u64 (IntKind.u64.wrap n)):=Eq.trans rfl rfl
theorem u8s_getD {l:List Int} {i:Nat} (h:i<l.length):(u8s l)[i]? = some (.int .u8 l[i]):=by simp [u8s,h]
theorem p72 {l:List Int} (hl:Byt l) {σ:Heap} {b:Nat} (hS:Src σ b l) (n:Int) {K:PV→Heap→Prop}
  (hK:∀ (r:Int) σ',0≤r→(1≤n→r<n)→Src σ' b l→Kept σ σ' b→σ'.length = σ.length→K (.int .i64 r) σ'):ACall Tryz.prog 72 [.ptr b 0,.int .i64 n] σ K:=by
 have hlt:=hS.lt
 obtain ⟨p,x,hb,hp⟩:=hS
 have hself:∀ o,(σ.set b o)[b]? = some o:=fun o=>List.getElem?_set_self hlt
 have hset:∀ o o',(σ.set b o).set b o' = σ.set b o':=fun o o'=>List.set_set ..
 unfold srcO at hb
 refine e72 (by simp) fun _ _=>?_
 simp only [k72,argEnv,go_sem]
 try simp only [OpK_eq,HKv,hb,hself,hset,put3,put31,aWrapU,aInt_and24,aInt_shrU,go_sem]
 generalize hV:andV _=V
 have hV1:V≤16777215:=by rw [← hV]; exact andV_le _
 clear hV
 generalize IntKind.u64.wrap _=x1
 refine ⟨fun h=>?_,fun h1=>?_⟩
 ·exact Kv.Fin.now (hK 0 σ (by omega) (fun h'=>by omega) ⟨p,x,hb,hp⟩ (Kept.refl _ _) rfl)
 refine ⟨by omega,fun h2=>⟨h2,fun y hy=>?_⟩,fun h2=>?_⟩
 ·have hpl:p<l.length:=by omega
  rw [u8s_getD hpl] at hy; cases hy
  have hbt:=hl.2 _ (List.getElem_mem hpl)
  have hcs:(PV.int .u8 l[p]).cs = [.int .u8 l[p]]:=rfl
  rw [hcs]
  refine ⟨rfl,by simp,fun c hc=>?_⟩
  simp only [List.getElem?_cons_zero,Option.some.injEq] at hc
  subst hc
  have hpl2:=hl.1
  try simp only [OpK_eq,HKv,hself,hset,put3,put31,go_sem]
  iterate 6 (try refine ⟨by omega,?_⟩)
  exact Kv.Fin.now (hK _ _ (Int.emod_nonneg _ (by omega)) (fun h'=>Int.emod_lt_of_pos _ (by omega)) ⟨p+1,x1,hself _,by omega⟩ (Kept.set _) (by simp))
 ·try simp only [OpK_eq,HKv,hself,hset,go_sem]
  iterate 6 (try refine ⟨by omega,?_⟩)
  exact Kv.Fin.now (hK _ _ (Int.emod_nonneg _ (by omega)) (fun h'=>Int.emod_lt_of_pos _ (by omega)) ⟨p,x1,hself _,hp⟩ (Kept.set _) (by simp))
theorem getD_memD {l:List Int} {i:Nat} (h:i<l.length):l.getD i 0∈l:=by
 rw [List.getD_eq_getElem?_getD,List.getElem?_eq_getElem h]; exact List.getElem_mem _
theorem p139 {l:List Int} (hl:Byt l) {σ:Heap} {b:Nat} (hS:Src σ b l) (L:List Int) (h0:1≤L.length∧L.length≤1000) {id ver:Nat} {e:TypeId} (hid:σ[id]? = some (.arr ver e 1 (ints L))) (hne:id≠b) (k:Nat) (hk:k=L.length) {K:PV→Heap→Prop}
  (hK:∀ (r:Int) σ',r∈L→Src σ' b l→Kept σ σ' b→σ'.length = σ.length→K (.int .i64 r) σ'):ACall Tryz.prog 139 [.ptr b 0,.ref id ver 0 k] σ K:=by
 subst hk
 refine e139 (by simp) fun _ _=>?_
 simp only [k139,argEnv,go_sem]
 try simp only [OpK_eq,HKv,hid,go_sem]
 refine p72 hl hS _ fun r σ' h1 h2 h3 h4 h5=>?_
 have hid2:=(h4.2 id (List.getElem?_eq_some_iff.1 hid).1 hne).trans hid
 have hrl:=h2 (by omega)
 try simp only [OpK_eq,HKv,hid2,go_sem]
 exact ⟨by omega,by omega,fun _=>Kv.Fin.now (hK _ σ' (getD_memD (by omega)) h3 h4 h5)⟩
theorem p53 {l:List Int} (hl:Byt l) {K:PV→Heap→Prop} (hK:∀ h,K (.ptr 0 0) [srcO l 0 h]):ACall Tryz.prog 53 [.list (u8s l)] [] K:=by
 have hll:=hl.1
 refine e53 (by simp) fun _ _=>?_
 simp only [k53,argEnv,aWrapU,go_sem]
 generalize IntKind.u64.wrap _=h0
 refine KL_ind k53_b0.eq_1 (fun y:Nat × Int × PV × PV=>[(0,.list (u8s l)),(3,.ptr 0 0),(4,.int .i64 y.1),(17,y.2.2.1),(18,y.2.2.2)]) (fun y=>[srcO l 0 y.2.1]) (fun y=>y.1≤l.length) (fun y=>l.length - y.1) [0,3,4,17,18] (0,h0,.undef,.undef) (by simp [keep]) (by rfl) (Nat.zero_le _) fun ⟨k,h,v1,v2⟩ hk ih=>?_
 simp only at hk
 have hb:∀ h,[srcO l 0 h][0]? = some (.box [.list (u8s l),.int .i64 (0:Nat),.int .u64 h]):=fun h=>rfl
 have hset:∀ o o':AObj,[o].set 0 o' = [o']:=fun o o'=>rfl
 try simp only [OpK_eq,HKv,hb,hset,put3,aWrapU,go_sem]
 refine ⟨fun h1=>⟨fun h2=>⟨h1,fun y hy=>?_⟩,fun h2=>Kv.Fin.now (hK h)⟩,fun h1=>Kv.Fin.now (hK h)⟩
 have hkl:k<l.length:=by omega
 rw [u8s_getD hkl] at hy; cases hy
 have hcs:(PV.int .u8 l[k]).cs = [.int .u8 l[k]]:=rfl
 rw [hcs]
 refine ⟨rfl,by simp,fun c hc=>?_⟩
 simp only [List.getElem?_cons_zero,Option.some.injEq] at hc
 subst hc
 try simp only [OpK_eq,HKv,hb,hset,put3,aWrapU,go_sem]
 iterate 4 (try refine ⟨by omega,?_⟩)
 exact ih (k+1,_,_,_) (by show k+1≤l.length; omega) (by show l.length - (k+1)<l.length - k; omega) _ _ (by simp [keep]; exact ⟨rfl,rfl⟩) rfl
end
end
section
section
set_option maxRecDepth 100000
abbrev k109_b0s0:KT:=(.op (oP 28 (.app (.t 24) (.t 27) 2 1)) (.op (mV 5 28) .fin))
abbrev k109_b0s1:KT:=(.op (oP 24 (.app (.t 21) (.t 23) 2 1)) k109_b0s0)
abbrev k109_b0s2:KT:=(.alt (.op (oP 24 (.app (.t 21) (.t 23) 2 1)) (.op (oP 27 (.sls 1 (.t 25) (some (.t 26)) none)) k109_b0s0)) (.op (oP 27 (.sls 1 (.t 25) (some (.t 26)) none)) k109_b0s1))
abbrev k109_b0s3:KT:=(.op (oP 23 (.bsl true 2 1 [(.t 22)])) k109_b0s1)
abbrev k109_b0s4:KT:=(.op (oP 21 (.call (fC 117) [(.t 20)])) k109_b0s1)
abbrev k109_b0s5:KT:=(.alt (.op (oP 21 (.call (fC 117) [(.t 20)])) k109_b0s2) (.op (oP 27 (.sls 1 (.t 25) (some (.t 26)) none)) k109_b0s4))
abbrev k109_b0s6:KT:=(.alt (.op (oP 21 (.call (fC 117) [(.t 20)])) k109_b0s3) (.op (oP 23 (.bsl true 2 1 [(.t 22)])) k109_b0s4))
abbrev k109_b0s7:KT:=(.op (oP 20 (.sls 1 (.t 18) none (some (.t 19)))) k109_b0s4)
def k109_b0:KC:=(.seq (.seq (.ops [mV 9 6,mV 10 1,oP 11 (.bin .lss (.t 9) (.t 10))])
 (.cond (.t 11) .skip (.exit 0)))
 (.seq (.block 1 (.seq (.ops [mV 14 0,mV 15 6,oP 16 (.bin .add (.t 15) (iC 1)),oP 17 (.call (fC 72) [(.t 14),(.t 16)]),mV 7 17])
 (.tree (.op (mV 18 5) (.op (mV 19 7) (.op (mV 22 6) (.op (mV 25 5) (.op (mV 26 7) (.alt (.op (oP 20 (.sls 1 (.t 18) none (some (.t 19)))) (.alt (.op (oP 21 (.call (fC 117) [(.t 20)])) (.alt (.op (oP 23 (.bsl true 2 1 [(.t 22)])) k109_b0s2) (.op (oP 27 (.sls 1 (.t 25) (some (.t 26)) none)) k109_b0s3))) (.alt (.op (oP 23 (.bsl true 2 1 [(.t 22)])) k109_b0s5) (.op (oP 27 (.sls 1 (.t 25) (some (.t 26)) none)) k109_b0s6)))) (.alt (.op (oP 23 (.bsl true 2 1 [(.t 22)])) (.alt (.op (oP 20 (.sls 1 (.t 18) none (some (.t 19)))) k109_b0s5) (.op (oP 27 (.sls 1 (.t 25) (some (.t 26)) none)) k109_b0s7))) (.op (oP 27 (.sls 1 (.t 25) (some (.t 26)) none)) (.alt (.op (oP 20 (.sls 1 (.t 18) none (some (.t 19)))) k109_b0s6) (.op (oP 23 (.bsl true 2 1 [(.t 22)])) k109_b0s7)))))))))))))
 (.ops [mV 12 6,oP 13 (.bin .add (.t 12) (iC 1)),mV 6 13])))
def k109:KC:=(.seq (.ops [oP 4 (.mv (.c (.nils)))])
 (.seq (.ops [oP 8 (.bsl false 2 1 []),mV 5 8])
 (.seq (.seq (.ops [oP 6 (.mv (iC 0))])
 (.block 0 (.loop k109_b0)))
 (.seq (.ops [mV 29 5,mV 4 29])
 .ret))))
theorem e109:Ent 109 30 [23] [.t 4] k109:=ent Tryz.func109
end
section
attribute [local irreducible] ACall PCall KL
theorem Src.keep {σ σ':Heap} {b:Nat} {l:List Int} (h:Src σ b l) (hk:σ'[b]? = σ[b]?):Src σ' b l:=by
 obtain ⟨p,x,h,h2⟩:=h
 exact ⟨p,x,hk.trans h,h2⟩
theorem p109S {l:List Int} (hl:Byt l) {σ:Heap} {b:Nat} (hS:Src σ b l) (n:Nat) (hn:n≤1000) {K:PV→Heap→Prop}
    (hK:∀ (L:List Int) id ver σ',L.length=n→((∀ x∈L,0≤x∧x<n)∧L.Nodup)→Src σ' b l→Kept σ σ' b→σ.length≤id→σ'[id]? = some (.arr ver 2 1 (ints L))→K (.ref id ver 0 n) σ'):ACall Tryz.prog 109 [.ptr b 0,.int .i64 n] σ K:=by
  have hlt:=hS.lt
  refine e109 (by simp) fun _ _=>?_
  simp only [k109,argEnv,go_sem]
  refine KL_ind k109_b0.eq_1 (fun y:Nat × List Int × Nat × Nat × Heap=>[(0,.ptr b 0),(1,.int .i64 n),(5,.ref y.2.2.1 y.2.2.2.1 0 y.1),(6,.int .i64 y.1)]) (fun y=>y.2.2.2.2) (fun y=>y.1≤n∧y.2.1.length=y.1∧((∀ x∈y.2.1,0≤x∧x<y.1)∧y.2.1.Nodup)∧Src y.2.2.2.2 b l∧Kept σ y.2.2.2.2 b∧σ.length≤y.2.2.1∧y.2.2.2.2[y.2.2.1]? = some (.arr y.2.2.2.1 2 1 (ints y.2.1))) (fun y=>n - y.1) [0,1,5,6] (0,[],σ.length,0,σ ++ [.arr 0 2 1 []]) (by simp [keep]) rfl ⟨Nat.zero_le _,rfl,⟨by simp,by simp⟩,hS.app _,Kept.app _ _ _,Nat.le_refl _,by simp; rfl⟩ fun ⟨k,L,id,ver,τ⟩ ⟨hk,hLl,⟨hLx,hLn⟩,hS1,hKp,hid1,hid⟩ ih=>?_
  simp only at hk hLl hLx hLn hS1 hKp hid1 hid
  try simp only [OpK_eq,HKv,go_sem]
  refine ⟨fun h1=>⟨by omega,?_⟩,fun h1=>?_⟩
  · refine p72 hl hS1 _ fun r τ' h2 h3 h4 h5 h6=>?_
    have h3:=h3 (by omega)
    have hne:id≠b:=by omega
    have hid2:=(h5.2 id (List.getElem?_eq_some_iff.1 hid).1 hne).trans hid
    have hlt2:=(List.getElem?_eq_some_iff.1 hid2).1
    have hap:∀ X,(τ' ++ X)[id]? = some (.arr ver 2 1 (ints L)):=fun X=>(List.getElem?_append_left hlt2).trans hid2
    try simp only [OpK_eq,HKv,hid2,hap,go_sem]
    have hr0:((k:Int)+1)=((k+1:Nat):Int):=by omega
    have hrk:r.toNat≤k:=by omega
    have hri:(r.toNat:Int)=r:=by omega
    have hLk:L.length=k:=hLl
    have htl:(L.take r.toNat).length=r.toNat:=by rw [List.length_take]; omega
    have himm:Imm τ' (.ref id ver 0 (r.toNat - 0)) (.list (ints (L.take r.toNat))):=by
      refine Imm.refp (pre:=[]) (l:=L.take r.toNat) (post:=L.drop r.toNat) (by rw [List.nil_append,List.take_append_drop]; exact hid2) (by rw [htl]; rfl) rfl
    have hs0:∀ (x y:AObj),(τ' ++ [x]).set τ'.length y = τ' ++ [y]:=fun x y=>by
      rw [List.set_append_right _ _ (Nat.le_refl _)]; simp
    have ht0:∀ (x:AObj),(τ' ++ [x])[τ'.length]? = some x:=fun x=>by simp
    have e1:List.take (r.toNat+1) (List.take r.toNat (List.take r.toNat L) ++ [(k:Int)])=L.take r.toNat ++ [(k:Int)]:=by
      rw [List.take_take,Nat.min_self,List.take_of_length_le (by rw [List.length_append,htl]; exact Nat.le_refl _)]
    have e2:List.take (k - r.toNat) (List.drop r.toNat L)=L.drop r.toNat:=List.take_of_length_le (by rw [List.length_drop]; omega)
    have e3:(L.take r.toNat ++ [(k:Int)]) ++ L.drop r.toNat=L.take r.toNat ++ (k:Int) :: L.drop r.toNat:=by simp
    have e4:r.toNat+1+(L.drop r.toNat).length=k+1:=by rw [List.length_drop]; omega
    have hx2:∀ x∈L.take r.toNat ++ (k:Int) :: L.drop r.toNat,0≤x∧x<(k+1:Nat):=fun x hx=>by
      rcases List.mem_append.1 hx with hx | hx
      · have:=hLx x (List.mem_of_mem_take hx); omega
      · rcases List.mem_cons.1 hx with rfl | hx
        · omega
        · have:=hLx x (List.mem_of_mem_drop hx); omega
    have hnd2:(L.take r.toNat ++ (k:Int) :: L.drop r.toNat).Nodup:=by
      refine List.perm_middle.nodup_iff.2 (List.nodup_cons.2 ⟨fun h=>?_,by rw [List.take_append_drop]; exact hLn⟩)
      rw [List.take_append_drop] at h
      have:=hLx _ h; omega
    repeat' (first
      | omega
      | (rw [vT_alt]; refine ⟨?_,?_⟩)
      | (refine ACall.lend (p117 (L.take r.toNat) (by rw [htl]; omega)) (.cons himm (.nil _)) fun v s hv=>?_
         obtain ⟨rfl,rfl⟩:=hv
         refine ⟨⟨free_ref _ _ _ _,Free.ints _ _ _ _⟩,?_⟩)
      | (with_reducible refine And.intro ?_ ?_)
      | (simp only [OpK_eq,HKv,hid2,hap,hs0,ht0,htl,ren_ref,ren_arr,ren_ints,Nat.zero_add,List.map_cons,List.map_nil,go_sem]))
    all_goals (try (first | (show _≤_; simp only [List.length_take,List.length_drop,List.length_append,List.length_singleton]; omega)))
    all_goals (rw [e1,e2,e3,e4])
    all_goals exact ih (k+1,L.take r.toNat ++ (k:Int) :: L.drop r.toNat,τ'.length,3,_) ⟨by show k+1≤n; omega,by show (L.take r.toNat ++ (k:Int) :: L.drop r.toNat).length=k+1; rw [List.length_append,List.length_cons,List.length_drop,htl]; omega,⟨hx2,hnd2⟩,h4.app _,(hKp.trans h5).trans (Kept.app _ _ _),by show σ.length≤τ'.length; have:=hKp.1; omega,ht0 _⟩ (by show n - (k+1)<n - k; omega) _ _ (by simp [keep]) rfl
  · obtain rfl:k=n:=by omega
    exact Kv.Fin.now (hK L id ver τ hLl ⟨hLx,hLn⟩ hS1 hKp hid1 hid)
theorem p109 {l:List Int} (hl:Byt l) {σ:Heap} {b:Nat} (hS:Src σ b l) (n:Nat) (hn:n≤5) {K:PV→Heap→Prop}
  (hK:∀ (L:List Int) id ver σ',L.length=n→(∀ x∈L,0≤x∧x<n)→Src σ' b l→Kept σ σ' b→σ.length≤id→σ'[id]? = some (.arr ver 2 1 (ints L))→K (.ref id ver 0 n) σ'):ACall Tryz.prog 109 [.ptr b 0,.int .i64 n] σ K :=
 p109S hl hS n (by omega) fun L id ver σ' h1 h2 h3 h4 h5 h6=>hK L id ver σ' h1 h2.1 h3 h4 h5 h6
end
end
section
section
set_option maxRecDepth 100000
def k189_b0:KC:=(.seq (.seq (.ops [mV 29 7,mV 30 1,oP 31 (.bin .lss (.t 29) (.t 30))])
 (.cond (.t 31) .skip (.exit 1)))
 (.seq (.block 2 (.seq (.ops [mV 34 0,oP 35 (.call (fC 72) [(.t 34),(iC 2)]),oP 36 (.bin .eql (.t 35) (iC 0))])
 (.cond (.t 36) (.ops [mV 37 7,mV 38 6,oP 39 (.fieldA 1 (.t 5)),oP 40 (.idxA 5 1 (.t 39) (.t 37)),⟨none,none,.store 1 (.t 40) (.t 38)⟩]) .skip)))
 (.ops [mV 32 7,oP 33 (.bin .add (.t 32) (iC 1)),mV 7 33])))
def k189_b1:KC:=(.seq (.seq (.ops [mV 54 10,mV 55 1,oP 56 (.bin .lss (.t 54) (.t 55))])
 (.cond (.t 56) .skip (.exit 3)))
 (.seq (.block 4 (.ops [mV 59 10,mV 60 0,mV 61 8,mV 62 9,oP 63 (.bsl false 2 1 [(.t 61),(.t 62)]),oP 64 (.call (fC 139) [(.t 60),(.t 63)]),oP 65 (.fieldA 1 (.t 5)),oP 66 (.idxA 5 1 (.t 65) (.t 59)),⟨none,none,.store 1 (.t 66) (.t 64)⟩]))
 (.ops [mV 57 10,oP 58 (.bin .add (.t 57) (iC 1)),mV 10 58])))
def k189_b2:KC:=(.seq (.seq (.ops [mV 68 11,mV 69 1,oP 70 (.bin .lss (.t 68) (.t 69))])
 (.cond (.t 70) .skip (.exit 5)))
 (.seq (.block 6 (.ops [mV 73 11,mV 74 0,mV 75 1,oP 76 (.call (fC 72) [(.t 74),(.t 75)]),oP 77 (.fieldA 1 (.t 5)),oP 78 (.idxA 5 1 (.t 77) (.t 73)),⟨none,none,.store 1 (.t 78) (.t 76)⟩]))
 (.ops [mV 71 11,oP 72 (.bin .add (.t 71) (iC 1)),mV 11 72])))
def k189:KC:=(.seq (.ops [oP 4 (.alloc [.int .i64 0,.int .i64 0,.int .i64 0,.int .i64 0,.int .i64 0,.int .i64 0])])
 (.seq (.ops [mV 12 1,oP 13 (.build [.int .i64 0,.int .i64 0,.int .i64 0,.int .i64 0,.int .i64 0,.int .i64 0] [(0,1,(.t 12))]),oP 5 (.alloc [.int .i64 0,.int .i64 0,.int .i64 0,.int .i64 0,.int .i64 0,.int .i64 0]),⟨none,none,.store 6 (.t 5) (.t 13)⟩])
 (.seq (.seq (.ops [mV 14 0,oP 15 (.call (fC 72) [(.t 14),(iC 6)])])
 (.block 0 (.seq (.ops [oP 17 (.bin .eql (.t 15) (iC 0)),mV 16 17])
 (.cond (.t 16) (.seq (.ops [mV 18 0,mV 19 1,oP 20 (.call (fC 109) [(.t 18),(.t 19)]),oP 21 (.call (fC 108) [(.t 20)]),⟨none,none,.store 6 (.t 4) (.t 21)⟩])
 .ret) (.seq (.ops [oP 23 (.bin .eql (.t 15) (iC 1)),mV 22 23])
 (.cond (.t 22) (.seq (.ops [mV 24 1,oP 25 (.call (fC 136) [(.t 24)]),⟨none,none,.store 6 (.t 5) (.t 25)⟩])
 (.seq (.ops [mV 26 0,mV 27 1,oP 28 (.call (fC 72) [(.t 26),(.t 27)]),mV 6 28])
 (.seq (.seq (.ops [oP 7 (.mv (iC 0))])
 (.block 1 (.loop k189_b0)))
 (.seq (.ops [mV 41 6,mV 42 6,oP 43 (.fieldA 1 (.t 5)),oP 44 (.idxA 5 1 (.t 43) (.t 41)),⟨none,none,.store 1 (.t 44) (.t 42)⟩])
 (.seq (.ops [oP 45 (.load true 6 (.t 5)),⟨none,none,.store 6 (.t 4) (.t 45)⟩])
 .ret))))) (.seq (.ops [oP 47 (.bin .eql (.t 15) (iC 2)),mV 46 47])
 (.cond (.t 46) (.seq (.ops [mV 48 0,mV 49 1,oP 50 (.call (fC 72) [(.t 48),(.t 49)]),mV 51 0,mV 52 1,oP 53 (.call (fC 72) [(.t 51),(.t 52)]),mV 8 50,mV 9 53])
 (.seq (.seq (.ops [oP 10 (.mv (iC 0))])
 (.block 3 (.loop k189_b1)))
 (.seq (.ops [oP 67 (.load true 6 (.t 5)),⟨none,none,.store 6 (.t 4) (.t 67)⟩])
 .ret))) .skip))))))))
 (.seq (.seq (.ops [oP 11 (.mv (iC 0))])
 (.block 5 (.loop k189_b2)))
 (.seq (.ops [oP 79 (.load true 6 (.t 5)),⟨none,none,.store 6 (.t 4) (.t 79)⟩])
 .ret)))))
theorem e189:Ent 189 80 [] [.cell 4 true 6] k189:=ent Tryz.func189
end
section
attribute [local irreducible] ACall PCall KL
structure DI (n:Nat) (σ τ:Heap) (b:Nat) (l m:List Int):Prop where
 src:Src τ b l
 kept:Kept σ τ b
 a:τ[σ.length]? = some (.box [PV.int .i64 0,PV.int .i64 0,PV.int .i64 0,PV.int .i64 0,PV.int .i64 0,PV.int .i64 0])
 c:τ[σ.length+1]? = some (.box (ints m))
 len:m.length=6
 pt:∃ f,Ok f n∧m=mp f
 lt:b < σ.length
theorem DI.step {n:Nat} {σ τ τ':Heap} {b:Nat} {l m:List Int} (h:DI n σ τ b l m) (hS:Src τ' b l) (hK:Kept τ τ' b):DI n σ τ' b l m :=
 have h1:=(List.getElem?_eq_some_iff.1 h.a).1
 have h2:=(List.getElem?_eq_some_iff.1 h.c).1
 have h3:=h.lt
 ⟨hS,h.kept.trans hK,(hK.2 _ h1 (by omega)).trans h.a,(hK.2 _ h2 (by omega)).trans h.c,h.len,h.pt,h.lt⟩
theorem DI.app {n:Nat} {σ τ:Heap} {b:Nat} {l m:List Int} (h:DI n σ τ b l m) (X:Heap):DI n σ (τ ++ X) b l m:=h.step (h.src.app X) (Kept.app _ _ _)
theorem DI.set {n:Nat} {σ τ:Heap} {b:Nat} {l m:List Int} (h:DI n σ τ b l m) {m':List Int} (h6:m'.length=6) (hp:∃ f,Ok f n∧m'=mp f):DI n σ (τ.set (σ.length+1) (.box (ints m'))) b l m' :=
 have h2:=(List.getElem?_eq_some_iff.1 h.c).1
 have h3:=h.lt
 ⟨h.src.keep (List.getElem?_set_ne (by omega)),⟨by rw [List.length_set]; exact h.kept.1,fun j hj hb=>(List.getElem?_set_ne (by omega)).trans (h.kept.2 j hj hb)⟩,(List.getElem?_set_ne (by omega)).trans h.a,List.getElem?_set_self h2,h6,hp,h.lt⟩
theorem DI.fin {n:Nat} {σ τ:Heap} {b:Nat} {l m:List Int} (h:DI n σ τ b l m) (o:AObj):Src (τ.set σ.length o) b l∧Kept σ (τ.set σ.length o) b :=
 have h3:=h.lt
 ⟨h.src.keep (List.getElem?_set_ne (by omega)),by rw [List.length_set]; exact h.kept.1,fun j hj hb=>(List.getElem?_set_ne (by omega)).trans (h.kept.2 j hj hb)⟩
theorem set_pt {n:Nat} {m:List Int} {k:Nat} {v:Int} (h:∃ f,Ok f n∧m=mp f) (hk:k<n) (hv:0≤v∧v<n):∃ f,Ok f n∧m.set (k+1) v=mp f:=by
 obtain ⟨f,hf,rfl⟩:=h
 have hvn:v.toNat<n:=by omega
 have hkl:k<f.length:=by rw [hf.len]; exact hk
 refine ⟨f.set k v.toNat,⟨by rw [List.length_set,hf.len],hf.pos,hf.le,fun x hx=>?_⟩,?_⟩
 ·rcases List.mem_or_eq_of_mem_set hx with h | h
  ·exact hf.lt x h
  ·omega
 ·have hv2:((v.toNat:Nat):Int)=v:=by omega
  have:=mpN_set (n:=(f.length:Int)) (l:=f) (i:=k) (v:=v.toNat) hkl
  rw [hv2] at this
  rw [mp,mp,List.length_set,this]
theorem ints_set1 (m:List Int) (o:Nat) (v:Int):(ints m).set o (.int .i64 v)=ints (m.set o v):=by simp [ints,List.map_set]
theorem p189S {l:List Int} (hl:Byt l) {σ:Heap} {b:Nat} (hS:Src σ b l) (n:Nat) (hn1:1≤n) (hn:n≤5) {K:PV→Heap→Prop}
  (hK:∀ (m:List Int) σ',m.length=6→(∃ f,Ok f n∧m=mp f)→Src σ' b l→Kept σ σ' b→K (.agg (ints m)) σ'):ACall Tryz.prog 189 [.ptr b 0,.int .i64 n] σ K:=by
 have hlt:=hS.lt
 have hg1:∀ a c:AObj,(σ ++ [a] ++ [c])[σ.length+1]? = some c:=fun a c=>by
  rw [List.getElem?_append_right (by simp)]; simp
 have hs1:∀ a c d:AObj,(σ ++ [a] ++ [c]).set (σ.length+1) d = σ ++ [a] ++ [d]:=fun a c d=>by
  rw [List.set_append_right _ _ (by simp)]; simp
 have hg0:∀ a c:AObj,(σ ++ [a] ++ [c])[σ.length]? = some a:=fun a c=>by
  rw [List.getElem?_append_left (by simp)]; simp
 refine e189 (by simp) fun _ _=>?_
 simp only [k189,argEnv,go_sem]
 try simp only [OpK_eq,HKv,hg1,hs1,go_sem]
 have hD0:∀ (a:AObj),DI n σ (σ ++ [AObj.box [PV.int .i64 0,PV.int .i64 0,PV.int .i64 0,PV.int .i64 0,PV.int .i64 0,PV.int .i64 0]] ++ [.box (ints [(n:Int),0,0,0,0,0])]) b l [(n:Int),0,0,0,0,0]:=fun _=>⟨(hS.app _).app _,(Kept.app _ _ _).trans (Kept.app _ _ _),hg0 _ _,hg1 _ _,rfl,⟨List.replicate n 0,⟨by simp,hn1,hn,fun x hx=>by rw [List.eq_of_mem_replicate hx]; omega⟩,by rw [mp,List.length_replicate,mpN_rep hn]⟩,hlt⟩
 have hD0:=hD0 .dead
 refine p72 hl hD0.src _ fun r τ h2 h3 h4 h5 h6=>?_
 have hD:=hD0.step h4 h5
 clear h4 h5 h6 hD0 hg1 hs1 hg0
 generalize hm0:[(n:Int),0,0,0,0,0]=m0 at hD
 clear hm0
 have hA:=hD.a
 have hC:=hD.c
 try simp only [OpK_eq,HKv,go_sem]
 have hself:∀ (ρ:Heap) (m:List Int) (o:AObj),DI n σ ρ b l m→(ρ.set σ.length o)[σ.length]? = some o:=fun ρ m o h=>List.getElem?_set_self (List.getElem?_eq_some_iff.1 h.a).1
 have hself5:∀ (ρ:Heap) (m:List Int) (o:AObj),DI n σ ρ b l m→(ρ.set (σ.length+1) o)[σ.length+1]? = some o:=fun ρ m o h=>List.getElem?_set_self (List.getElem?_eq_some_iff.1 h.c).1
 refine ⟨fun _=>?_,fun hr0=>⟨fun _=>?_,fun hr1=>⟨fun _=>?_,fun hr2=>?_⟩⟩⟩
 ·refine p109 hl hD.src n hn fun L id ver τ' q1 q2 q3 q4 q5 q6=>?_
  have hX:=hD.step q3 q4
  have eL:(L.map Int.toNat).map (fun x:Nat=>(x:Int))=L:=by
   rw [List.map_map]
   conv=>rhs; rw [← List.map_id L]
   exact List.map_congr_left fun x hx=>by have:=(q2 x hx).1; simp only [Function.comp_apply,id_eq]; omega
  have hM:=p108 (L.map Int.toNat) (by rw [List.length_map]; omega)
  rw [eL] at hM
  have h62:(mp (L.map Int.toNat)).length=6:=mpN_length (by rw [List.length_map]; omega)
  have hpt:∃ f,Ok f n∧mp (L.map Int.toNat)=mp f:=⟨_,⟨by rw [List.length_map,q1],hn1,hn,fun x hx=>by
   obtain ⟨y,hy,rfl⟩:=List.mem_map.1 hx
   have:=q2 y hy; omega⟩,rfl⟩
  try simp only [OpK_eq,HKv,go_sem]
  refine hM.use (Plain.aggi _) (.cons (Imm.refn q6 q1.symm) (.nil _)) ?_
  have hA2:=hX.a
  have hs2:=fun o=>hself _ _ o hX
  generalize mp (L.map Int.toNat)=m at *
  have hil:(ints m).length=6:=by rw [ints_length,h62]
  try simp only [OpK_eq,HKv,hA2,hs2,hil,h62,go_sem]
  exact Kv.Fin.now (hK _ _ h62 hpt (hX.fin _).1 (hX.fin _).2)
 ·refine (p136 n hn1 hn).go ?_
  have h6m:(mp (List.range n)).length=6:=mpN_length (by rw [List.length_range]; omega)
  have hpt:∃ f,Ok f n∧mp (List.range n)=mp f:=⟨_,⟨by simp,hn1,hn,fun x hx=>List.mem_range.1 hx⟩,rfl⟩
  generalize mp (List.range n)=m1 at *
  have hil1:(ints m1).length=6:=by rw [ints_length,h6m]
  have hil0:(ints m0).length=6:=by rw [ints_length,hD.len]
  try simp only [OpK_eq,HKv,hC,hil1,hil0,go_sem]
  have hD1:=hD.set h6m hpt
  refine p72 hl hD1.src _ fun r1 τ1 h2 h3 h4 h5 h6=>?_
  have h3:=h3 (by omega)
  have hD2:=hD1.step h4 h5
  have hr1b:0≤r1∧r1<n:=⟨h2,h3⟩
  clear h4 h5 h6 hD1 hA hC hD
  try simp only [OpK_eq,HKv,go_sem]
  refine KL_ind k189_b0.eq_1 (fun y:Nat × List Int × Heap=>[(0,.ptr b 0),(1,.int .i64 n),(4,.ptr σ.length 0),(5,.ptr (σ.length+1) 0),(6,.int .i64 r1),(7,.int .i64 y.1)]) (fun y=>y.2.2) (fun y=>y.1≤n∧DI n σ y.2.2 b l y.2.1) (fun y=>n - y.1) [0,1,4,5,6,7] (0,m1,τ1) (by simp [keep]) rfl ⟨Nat.zero_le _,hD2⟩ fun ⟨k,m,ρ⟩ ⟨hk,hX⟩ ih=>?_
  simp only at hk hX
  try simp only [OpK_eq,HKv,go_sem]
  refine ⟨fun g1=>?_,fun g1=>?_⟩
  ·refine p72 hl hX.src _ fun r2 ρ' h2 h3' h4 h5 h6=>?_
   have hY:=hX.step h4 h5
   have hC2:=hY.c
   have hil:(ints m).length=6:=by rw [ints_length,hY.len]
   try simp only [OpK_eq,HKv,hC2,hil,ints_set1,go_sem]
   refine ⟨fun _=>⟨by omega,by omega,by omega,ih (k+1,m.set (k+1) r1,_) ⟨by show k+1≤n; omega,hY.set (by rw [List.length_set]; exact hY.len) (set_pt hY.pt (by omega) hr1b)⟩ (by show n - (k+1)<n - k; omega) _ _ (by simp [keep]) rfl⟩,fun _=>⟨by omega,ih (k+1,m,_) ⟨by show k+1≤n; omega,hY⟩ (by show n - (k+1)<n - k; omega) _ _ (by simp [keep]) rfl⟩⟩
  ·obtain rfl:k=n:=by omega
   have hC2:=hX.c
   have h62:=hX.len
   have hil:(ints m).length=6:=by rw [ints_length,h62]
   have hZ:=hX.set (m':=m.set (r1.toNat+1) r1) (by rw [List.length_set]; exact h62) (set_pt hX.pt (by omega) hr1b)
   have hA3:=hZ.a
   have hC3:=hZ.c
   have h63:=hZ.len
   have hs2:=fun o=>hself _ _ o hZ
   have hil3:(ints (m.set (r1.toNat+1) r1)).length=6:=by rw [ints_length,h63]
   try simp only [OpK_eq,HKv,hC2,hil,ints_set1,hA3,hC3,hs2,hil3,h63,go_sem]
   refine ⟨by omega,by omega,Kv.Fin.now (hK _ _ h63 hZ.pt (hZ.fin _).1 (hZ.fin _).2)⟩
 ·refine p72 hl hD.src _ fun ra τ1 h2 h3 h4 h5 h6=>?_
  have hD1:=hD.step h4 h5
  clear h4 h5 h6 hA hC hD
  try simp only [OpK_eq,HKv,go_sem]
  refine p72 hl hD1.src _ fun rb τ2 h2' h3' h4 h5 h6=>?_
  have hD2:=hD1.step h4 h5
  have hra:0≤ra∧ra<n:=⟨h2,h3 (by omega)⟩
  have hrb:0≤rb∧rb<n:=⟨h2',h3' (by omega)⟩
  clear h4 h5 h6 hD1
  try simp only [OpK_eq,HKv,go_sem]
  refine KL_ind k189_b1.eq_1 (fun y:Nat × List Int × Heap=>[(0,.ptr b 0),(1,.int .i64 n),(4,.ptr σ.length 0),(5,.ptr (σ.length+1) 0),(8,.int .i64 ra),(9,.int .i64 rb),(10,.int .i64 y.1)]) (fun y=>y.2.2) (fun y=>y.1≤n∧DI n σ y.2.2 b l y.2.1) (fun y=>n - y.1) [0,1,4,5,8,9,10] (0,m0,τ2) (by simp [keep]) rfl ⟨Nat.zero_le _,hD2⟩ fun ⟨k,m,ρ⟩ ⟨hk,hX⟩ ih=>?_
  simp only at hk hX
  try simp only [OpK_eq,HKv,go_sem]
  refine ⟨fun g1=>?_,fun g1=>?_⟩
  ·have hX1:=hX.app [.arr 0 2 1 (ints [ra,rb])]
   refine p139 hl hX1.src [ra,rb] (by simp) (id:=ρ.length) (by simp; rfl) (by have:=hX.src.lt; omega) 2 rfl fun r2 ρ' h2 h4 h5 h6=>?_
   have hY:=hX1.step h4 h5
   have hC2:=hY.c
   have hil:(ints m).length=6:=by rw [ints_length,hY.len]
   try simp only [OpK_eq,HKv,hC2,hil,ints_set1,go_sem]
   have hr2b:0≤r2∧r2<n:=by
    simp only [List.mem_cons,List.not_mem_nil,or_false] at h2
    rcases h2 with rfl | rfl
    ·exact hra
    ·exact hrb
   exact ⟨by omega,by omega,by omega,ih (k+1,m.set (k+1) r2,_) ⟨by show k+1≤n; omega,hY.set (by rw [List.length_set]; exact hY.len) (set_pt hY.pt (by omega) hr2b)⟩ (by show n - (k+1)<n - k; omega) _ _ (by simp [keep]) rfl⟩
  ·obtain rfl:k=n:=by omega
   have hA2:=hX.a
   have hC2:=hX.c
   have h62:=hX.len
   have hs2:=fun o=>hself _ _ o hX
   have hil:(ints m).length=6:=by rw [ints_length,h62]
   try simp only [OpK_eq,HKv,hA2,hC2,hs2,hil,h62,go_sem]
   exact Kv.Fin.now (hK _ _ h62 hX.pt (hX.fin _).1 (hX.fin _).2)
 ·refine KL_ind k189_b2.eq_1 (fun y:Nat × List Int × Heap=>[(0,.ptr b 0),(1,.int .i64 n),(4,.ptr σ.length 0),(5,.ptr (σ.length+1) 0),(11,.int .i64 y.1)]) (fun y=>y.2.2) (fun y=>y.1≤n∧DI n σ y.2.2 b l y.2.1) (fun y=>n - y.1) [0,1,4,5,11] (0,m0,τ) (by simp [keep]) rfl ⟨Nat.zero_le _,hD⟩ fun ⟨k,m,ρ⟩ ⟨hk,hX⟩ ih=>?_
  simp only at hk hX
  try simp only [OpK_eq,HKv,go_sem]
  refine ⟨fun g1=>?_,fun g1=>?_⟩
  ·refine p72 hl hX.src _ fun r2 ρ' h2 h3 h4 h5 h6=>?_
   have hY:=hX.step h4 h5
   have hC2:=hY.c
   have hil:(ints m).length=6:=by rw [ints_length,hY.len]
   try simp only [OpK_eq,HKv,hC2,hil,ints_set1,go_sem]
   have hr2b:0≤r2∧r2<n:=⟨h2,h3 (by omega)⟩
   exact ⟨by omega,by omega,by omega,ih (k+1,m.set (k+1) r2,_) ⟨by show k+1≤n; omega,hY.set (by rw [List.length_set]; exact hY.len) (set_pt hY.pt (by omega) hr2b)⟩ (by show n - (k+1)<n - k; omega) _ _ (by simp [keep]) rfl⟩
  ·obtain rfl:k=n:=by omega
   have hA2:=hX.a
   have hC2:=hX.c
   have h62:=hX.len
   have hs2:=fun o=>hself _ _ o hX
   have hil:(ints m).length=6:=by rw [ints_length,h62]
   try simp only [OpK_eq,HKv,hA2,hC2,hs2,hil,h62,go_sem]
   exact Kv.Fin.now (hK _ _ h62 hX.pt (hX.fin _).1 (hX.fin _).2)
theorem p189 {l:List Int} (hl:Byt l) {σ:Heap} {b:Nat} (hS:Src σ b l) (n:Nat) (hn1:1≤n) (hn:n≤5) {K:PV→Heap→Prop}
  (hK:∀ (m:List Int) σ',m.length=6→(0≤m.getD 0 0∧m.getD 0 0≤5)→Src σ' b l→Kept σ σ' b→K (.agg (ints m)) σ'):ACall Tryz.prog 189 [.ptr b 0,.int .i64 n] σ K :=
 p189S hl hS n hn1 hn fun m σ' h1 h2 h3 h4=>hK m σ' h1 (by
  obtain ⟨f,hf,rfl⟩:=h2
  have:(mp f).getD 0 0=(f.length:Int):=rfl
  rw [this,hf.len]; omega) h3 h4
end
end
section
section
set_option maxRecDepth 100000
def k199:KC:=(.seq (.ops [oP 2 (.alloc [.int .i64 0,.int .i64 0,.int .i64 0,.int .i64 0,.int .i64 0,.int .i64 0])])
 (.seq (.ops [mV 3 0,mV 4 0,oP 5 (.bsl false 2 1 [(iC 1),(iC 2),(iC 3),(iC 3),(iC 4),(iC 4),(iC 5),(iC 5)]),oP 6 (.call (fC 139) [(.t 4),(.t 5)]),oP 7 (.call (fC 189) [(.t 3),(.t 6)]),⟨none,none,.store 6 (.t 2) (.t 7)⟩])
 .ret))
theorem e199:Ent 199 8 [] [.cell 2 true 6] k199:=ent Tryz.func199
abbrev k186s0:KT:=(.op (oP 26 (.idxA 5 1 (.t 25) (.t 19))) (.op ⟨none,none,.store 1 (.t 26) (.t 24)⟩ .fin))
abbrev k186s1:KT:=(.op (oP 24 (.call (fC 139) [(.t 20),(.t 23)])) k186s0)
abbrev k186s2:KT:=(.alt (.op (oP 24 (.call (fC 139) [(.t 20),(.t 23)])) (.op (oP 25 (.fieldA 1 (.t 3))) k186s0)) (.op (oP 25 (.fieldA 1 (.t 3))) k186s1))
abbrev k186s3:KT:=(.op (oP 23 (.bsl false 2 1 [(iC (-1)),(.t 22),(iC 1099511627776)])) k186s1)
abbrev k186s4:KT:=(.alt (.op (oP 23 (.bsl false 2 1 [(iC (-1)),(.t 22),(iC 1099511627776)])) k186s2) (.op (oP 25 (.fieldA 1 (.t 3))) k186s3))
abbrev k186s5:KT:=(.op (oP 22 (.load false 1 (.t 21))) k186s3)
abbrev k186s6:KT:=(.alt (.op (oP 22 (.load false 1 (.t 21))) k186s4) (.op (oP 25 (.fieldA 1 (.t 3))) k186s5))
abbrev k186s7:KT:=(.op (oP 19 (.call (fC 72) [(.t 18),(iC 5)])) k186s1)
abbrev k186s8:KT:=(.alt (.op (oP 19 (.call (fC 72) [(.t 18),(iC 5)])) k186s3) (.op (oP 23 (.bsl false 2 1 [(iC (-1)),(.t 22),(iC 1099511627776)])) k186s7))
abbrev k186s9:KT:=(.alt (.op (oP 19 (.call (fC 72) [(.t 18),(iC 5)])) k186s5) (.op (oP 22 (.load false 1 (.t 21))) k186s8))
def k186:KC:=(.seq (.ops [oP 3 (.box false (.t 1)),oP 4 (.alloc [.int .i64 0,.int .i64 0,.int .i64 0,.int .i64 0,.int .i64 0,.int .i64 0])])
 (.seq (.seq (.ops [mV 5 0,oP 6 (.call (fC 72) [(.t 5),(iC 40)])])
 (.block 0 (.seq (.ops [oP 8 (.bin .eql (.t 6) (iC 0)),mV 7 8])
 (.cond (.t 7) (.ops [mV 9 0,oP 10 (.fieldA 0 (.t 3)),oP 11 (.load false 1 (.t 10)),oP 12 (.bin .add (.t 11) (iC 1)),oP 13 (.bsl false 2 1 [(iC 0),(iC 6),(iC (-1)),(.t 12)]),oP 14 (.call (fC 139) [(.t 9),(.t 13)]),oP 15 (.fieldA 0 (.t 3)),⟨none,none,.store 1 (.t 15) (.t 14)⟩]) (.seq (.ops [oP 17 (.bin .eql (.t 6) (iC 1)),mV 16 17])
 (.cond (.t 16) (.tree (.op (mV 18 0) (.op (mV 20 0) (.alt (.op (oP 19 (.call (fC 72) [(.t 18),(iC 5)])) (.alt (.op (oP 21 (.fieldA 0 (.t 3))) k186s6) (.op (oP 25 (.fieldA 1 (.t 3))) (.op (oP 21 (.fieldA 0 (.t 3))) k186s5)))) (.alt (.op (oP 21 (.fieldA 0 (.t 3))) (.alt (.op (oP 19 (.call (fC 72) [(.t 18),(iC 5)])) k186s6) (.alt (.op (oP 22 (.load false 1 (.t 21))) (.alt (.op (oP 19 (.call (fC 72) [(.t 18),(iC 5)])) k186s4) (.alt (.op (oP 23 (.bsl false 2 1 [(iC (-1)),(.t 22),(iC 1099511627776)])) (.alt (.op (oP 19 (.call (fC 72) [(.t 18),(iC 5)])) k186s2) (.op (oP 25 (.fieldA 1 (.t 3))) k186s7))) (.op (oP 25 (.fieldA 1 (.t 3))) k186s8)))) (.op (oP 25 (.fieldA 1 (.t 3))) k186s9)))) (.op (oP 25 (.fieldA 1 (.t 3))) (.alt (.op (oP 19 (.call (fC 72) [(.t 18),(iC 5)])) (.op (oP 21 (.fieldA 0 (.t 3))) k186s5)) (.op (oP 21 (.fieldA 0 (.t 3))) k186s9)))))))) .skip))))))
 (.seq (.ops [oP 27 (.load true 6 (.t 3)),⟨none,none,.store 6 (.t 4) (.t 27)⟩])
 .ret)))
theorem e186:Ent 186 28 [] [.cell 4 true 6] k186:=ent Tryz.func186
def k185:KC:=(.seq (.ops [oP 2 (.alloc [.int .i64 0,.int .i64 0,.int .i64 0,.int .i64 0,.int .i64 0,.int .i64 0])])
 (.seq (.ops [mV 3 0,mV 4 0,oP 5 (.call (fC 199) [(.t 4)]),oP 6 (.call (fC 186) [(.t 3),(.t 5)]),⟨none,none,.store 6 (.t 2) (.t 6)⟩])
 .ret))
theorem e185:Ent 185 7 [] [.cell 2 true 6] k185:=ent Tryz.func185
end
section
attribute [local irreducible] ACall PCall KL
theorem p199S {l:List Int} (hl:Byt l) {σ:Heap} {b:Nat} (hS:Src σ b l) {K:PV→Heap→Prop}
  (hK:∀ (m:List Int) σ',m.length=6→(∃ f n,Ok f n∧m=mp f)→Src σ' b l→Kept σ σ' b→K (.agg (ints m)) σ'):ACall Tryz.prog 199 [.ptr b 0] σ K:=by
 have hlt:=hS.lt
 refine e199 (by simp) fun _ _=>?_
 simp only [k199,argEnv,go_sem]
 try simp only [OpK_eq,HKv,go_sem]
 generalize hz:AObj.box [PV.int .i64 0,PV.int .i64 0,PV.int .i64 0,PV.int .i64 0,PV.int .i64 0,PV.int .i64 0]=z
 refine p139 hl ((hS.app _).app _) [1,2,3,3,4,4,5,5] (by simp) (id:=σ.length+1) (ver:=0) (e:=2) (by rw [List.getElem?_append_right (by simp)]; simp [ints]) (by omega) 8 rfl fun r τ h2 h4 h5 h6=>?_
 have hr:∃ n:Nat,r=n∧1≤n∧n≤5:=by
  simp only [List.mem_cons,List.not_mem_nil,or_false] at h2
  exact ⟨r.toNat,by omega,by omega,by omega⟩
 obtain ⟨n,rfl,hn1,hn5⟩:=hr
 have hz1:τ[σ.length]? = some z:=by
  rw [h5.2 _ (by simp) (by omega),List.getElem?_append_left (by simp)]; simp
 have hk1:Kept σ τ b:=((Kept.app _ _ _).trans (Kept.app _ _ _)).trans h5
 clear h5 h6
 try simp only [OpK_eq,HKv,go_sem]
 refine p189S hl h4 n hn1 hn5 fun m ρ q1 q2' q3 q4=>?_
 have q2:∃ f n,Ok f n∧m=mp f:=by obtain ⟨f,h1,h2⟩:=q2'; exact ⟨f,n,h1,h2⟩
 have hzl:=(List.getElem?_eq_some_iff.1 hz1).1
 have hz2:ρ[σ.length]? = some z:=(q4.2 _ hzl (by omega)).trans hz1
 have hself:∀ o,(ρ.set σ.length o)[σ.length]? = some o:=fun o=>List.getElem?_set_self (List.getElem?_eq_some_iff.1 hz2).1
 have hil:(ints m).length=6:=by rw [ints_length,q1]
 subst hz
 try simp only [OpK_eq,HKv,hz2,hself,hil,go_sem]
 have hk2:=hk1.trans q4
 exact Kv.Fin.now (hK m _ q1 q2 (q3.keep (List.getElem?_set_ne (by omega))) ⟨by rw [List.length_set]; exact hk2.1,fun j hj hb=>(List.getElem?_set_ne (by omega)).trans (hk2.2 j hj hb)⟩)
theorem p199 {l:List Int} (hl:Byt l) {σ:Heap} {b:Nat} (hS:Src σ b l) {K:PV→Heap→Prop}
  (hK:∀ (m:List Int) σ',m.length=6→(0≤m.getD 0 0∧m.getD 0 0≤5)→Src σ' b l→Kept σ σ' b→K (.agg (ints m)) σ'):ACall Tryz.prog 199 [.ptr b 0] σ K :=
 p199S hl hS fun m σ' h1 h2 h3 h4=>hK m σ' h1 (by
  obtain ⟨f,n,hf,rfl⟩:=h2
  have:(mp f).getD 0 0=(f.length:Int):=rfl
  have:=hf.le
  have:=hf.len
  omega) h3 h4
structure BI (σ τ:Heap) (b:Nat) (l m:List Int):Prop where
 src:Src τ b l
 kept:Kept σ τ b
 a:τ[σ.length+1]? = some (.box [PV.int .i64 0,PV.int .i64 0,PV.int .i64 0,PV.int .i64 0,PV.int .i64 0,PV.int .i64 0])
 c:τ[σ.length]? = some (.box (ints m))
 len:m.length=6
 lt:b < σ.length
theorem BI.step {σ τ τ':Heap} {b:Nat} {l m:List Int} (h:BI σ τ b l m) (hS:Src τ' b l) (hK:Kept τ τ' b):BI σ τ' b l m :=
 have h1:=(List.getElem?_eq_some_iff.1 h.a).1
 have h2:=(List.getElem?_eq_some_iff.1 h.c).1
 have h3:=h.lt
 ⟨hS,h.kept.trans hK,(hK.2 _ h1 (by omega)).trans h.a,(hK.2 _ h2 (by omega)).trans h.c,h.len,h.lt⟩
theorem BI.app {σ τ:Heap} {b:Nat} {l m:List Int} (h:BI σ τ b l m) (X:Heap):BI σ (τ ++ X) b l m:=h.step (h.src.app X) (Kept.app _ _ _)
theorem BI.set {σ τ:Heap} {b:Nat} {l m:List Int} (h:BI σ τ b l m) {m':List Int} (h6:m'.length=6):BI σ (τ.set σ.length (.box (ints m'))) b l m' :=
 have h2:=(List.getElem?_eq_some_iff.1 h.c).1
 have h3:=h.lt
 ⟨h.src.keep (List.getElem?_set_ne (by omega)),⟨by rw [List.length_set]; exact h.kept.1,fun j hj hb=>(List.getElem?_set_ne (by omega)).trans (h.kept.2 j hj hb)⟩,(List.getElem?_set_ne (by omega)).trans h.a,List.getElem?_set_self h2,h6,h.lt⟩
theorem BI.fin {σ τ:Heap} {b:Nat} {l m:List Int} (h:BI σ τ b l m) (o:AObj):Src (τ.set (σ.length+1) o) b l∧Kept σ (τ.set (σ.length+1) o) b :=
 have h3:=h.lt
 ⟨h.src.keep (List.getElem?_set_ne (by omega)),by rw [List.length_set]; exact h.kept.1,fun j hj hb=>(List.getElem?_set_ne (by omega)).trans (h.kept.2 j hj hb)⟩
theorem BI.self {σ τ:Heap} {b:Nat} {l m:List Int} (h:BI σ τ b l m) (o:AObj):(τ.set (σ.length+1) o)[σ.length+1]? = some o:=List.getElem?_set_self (List.getElem?_eq_some_iff.1 h.a).1
structure BJ (σ τ:Heap) (b:Nat) (l m:List Int) (id:Nat) (L:List Int):Prop where
 bi:BI σ τ b l m
 arr:τ[id]? = some (.arr 0 2 1 (ints L))
 ne:id≠b
theorem BI.bj {σ τ:Heap} {b:Nat} {l m:List Int} (h:BI σ τ b l m) (L:List Int):BJ σ (τ ++ [.arr 0 2 1 (ints L)]) b l m τ.length L :=
 ⟨h.app _,by simp,by have:=h.src.lt; omega⟩
theorem BJ.step {σ τ τ':Heap} {b:Nat} {l m:List Int} {id:Nat} {L:List Int} (h:BJ σ τ b l m id L) (hS:Src τ' b l) (hK:Kept τ τ' b):BJ σ τ' b l m id L :=
 ⟨h.bi.step hS hK,(hK.2 _ (List.getElem?_eq_some_iff.1 h.arr).1 h.ne).trans h.arr,h.ne⟩
theorem nextI {l:List Int} (hl:Byt l) {σ ρ:Heap} {b:Nat} {m:List Int} (h:BI σ ρ b l m) (n:Int) {K:PV→Heap→Prop} (hK:∀ (r:Int) ρ',0≤r→(1≤n→r<n)→BI σ ρ' b l m→K (.int .i64 r) ρ'):ACall Tryz.prog 72 [.ptr b 0,.int .i64 n] ρ K :=
 p72 hl h.src n fun r ρ' h1 h2 h3 h4 _=>hK r ρ' h1 h2 (h.step h3 h4)
theorem nextJ {l:List Int} (hl:Byt l) {σ ρ:Heap} {b:Nat} {m:List Int} {id:Nat} {L:List Int} (h:BJ σ ρ b l m id L) (n:Int) {K:PV→Heap→Prop} (hK:∀ (r:Int) ρ',0≤r→(1≤n→r<n)→BJ σ ρ' b l m id L→K (.int .i64 r) ρ'):ACall Tryz.prog 72 [.ptr b 0,.int .i64 n] ρ K :=
 p72 hl h.bi.src n fun r ρ' h1 h2 h3 h4 _=>hK r ρ' h1 h2 (h.step h3 h4)
theorem pickJ {l:List Int} (hl:Byt l) {σ ρ:Heap} {b:Nat} {m:List Int} {id:Nat} {L:List Int} (h:BJ σ ρ b l m id L) (h0:1≤L.length∧L.length≤1000) (k:Nat) (hk:k=L.length) {K:PV→Heap→Prop} (hK:∀ (r:Int) ρ',r∈L→BI σ ρ' b l m→K (.int .i64 r) ρ'):ACall Tryz.prog 139 [.ptr b 0,.ref id 0 0 k] ρ K :=
 p139 hl h.bi.src L h0 h.arr h.ne k hk fun r ρ' h1 h2 h3 _=>hK r ρ' h1 (h.bi.step h2 h3)
theorem p186 {l:List Int} (hl:Byt l) {σ:Heap} {b:Nat} (hS:Src σ b l) (f:List Int) (h6:f.length=6) (hp:0≤f.getD 0 0∧f.getD 0 0≤5) {K:PV→Heap→Prop}
  (hK:∀ (m:List Int) σ',m.length=6→Src σ' b l→Kept σ σ' b→K (.agg (ints m)) σ'):ACall Tryz.prog 186 [.ptr b 0,.agg (ints f)] σ K:=by
 have hlt:=hS.lt
 have hil:(ints f).length=6:=by rw [ints_length,h6]
 refine e186 (by simp) fun _ _=>?_
 simp only [k186,argEnv,go_sem]
 try simp only [OpK_eq,HKv,hil,go_sem]
 have hB0:BI σ (σ ++ [AObj.box (ints f)] ++ [AObj.box [PV.int .i64 0,PV.int .i64 0,PV.int .i64 0,PV.int .i64 0,PV.int .i64 0,PV.int .i64 0]]) b l f:=by
  refine ⟨(hS.app _).app _,(Kept.app _ _ _).trans (Kept.app _ _ _),?_,?_,h6,hlt⟩
  ·rw [List.getElem?_append_right (by simp)]; simp
  ·rw [List.getElem?_append_left (by simp)]; simp
 refine nextI hl hB0 _ fun r τ h2 h3 hB=>?_
 clear hB0
 have hend:∀ (m:List Int) (ρ:Heap),BI σ ρ b l m→K (.agg (ints m)) (ρ.set (σ.length+1) (.box (ints m))):=fun m ρ h=>hK m _ h.len (h.fin _).1 (h.fin _).2
 have hC:=hB.c
 have hA:=hB.a
 have hs:=hB.self
 try simp only [OpK_eq,HKv,hC,hA,hs,hil,h6,go_sem]
 have fin:∀ (m:List Int) (ρ:Heap),BI σ ρ b l m→∀ o,(ρ.set σ.length o)[σ.length]? = some o:=fun m ρ h o=>List.getElem?_set_self (List.getElem?_eq_some_iff.1 h.c).1
 refine ⟨fun _=>?_,fun _=>⟨fun _=>?_,fun _=>?_⟩⟩
 ·refine ⟨by omega,?_⟩
  refine pickJ hl (hB.bj [0,6,-1,f.getD 0 0+1]) (by simp) 4 rfl fun r2 ρ h4 hB2=>?_
  have h7:(f.set 0 r2).length=6:=by rw [List.length_set]; exact h6
  have hB3:=hB2.set h7
  have hC2:=hB2.c
  have hC3:=hB3.c
  have hA3:=hB3.a
  have hs3:=hB3.self
  have hil3:(ints (f.set 0 r2)).length=6:=by rw [ints_length,h7]
  try simp only [OpK_eq,HKv,hC2,ints_set1,hil,hC3,hA3,hs3,hil3,h7,go_sem]
  exact Kv.Fin.now (hend _ _ hB3)
 ·have hcI:∀ ρ,BI σ ρ b l f→ρ[σ.length]? = some (.box (ints f)):=fun ρ h=>h.c
  clear hC hA hs
  have g1:∀ ρ k v,BI σ ρ b l f→(ρ.set σ.length (.box (ints (f.set k v))))[σ.length]? = some (.box (ints (f.set k v))):=fun ρ k v h=>fin f ρ h _
  have g2:∀ ρ k v,BI σ ρ b l f→(ρ.set σ.length (.box (ints (f.set k v))))[σ.length+1]? = some (.box [PV.int .i64 0,PV.int .i64 0,PV.int .i64 0,PV.int .i64 0,PV.int .i64 0,PV.int .i64 0]):=fun ρ k v h=>(h.set (m':=f.set k v) (by rw [List.length_set]; exact h6)).a
  have g3:∀ ρ k v o,BI σ ρ b l f→((ρ.set σ.length (.box (ints (f.set k v)))).set (σ.length+1) o)[σ.length+1]? = some o:=fun ρ k v o h=>(h.set (m':=f.set k v) (by rw [List.length_set]; exact h6)).self o
  have g5:∀ ρ k v,BI σ ρ b l f→K (.agg (ints (f.set k v))) ((ρ.set σ.length (.box (ints (f.set k v)))).set (σ.length+1) (.box (ints (f.set k v)))):=fun ρ k v h=>hend _ _ (h.set (by rw [List.length_set]; exact h6))
  have g6:∀ k v,List.take 6 (f.set k v)=f.set k v:=fun k v=>take6 (by rw [List.length_set,h6])
  have g7:∀ k v,subC (ints (f.set k v)) 0 6=ints (f.set k v):=fun k v=>sub6 (by rw [ints_length,List.length_set,h6])
  have g8:∀ k v,putC [PV.int .i64 0,PV.int .i64 0,PV.int .i64 0,PV.int .i64 0,PV.int .i64 0,PV.int .i64 0] 0 (ints (f.set k v))=ints (f.set k v):=fun k v=>put6 (by rw [ints_length,List.length_set,h6]) rfl
  have g9:∀ k v,(f.set k v).length=6:=fun k v=>by rw [List.length_set,h6]
  have g4:∀ k v,(ints (f.set k v)).length=6:=fun k v=>by rw [ints_length,List.length_set,h6]
  repeat' (first
   | omega
   | (rw [vT_alt]; refine ⟨?_,?_⟩)
   | (refine nextJ hl (σ:=σ) (m:=f) (L:=[-1,f.getD 0 0,1099511627776]) (by assumption) _ fun r2 ρ h4 h5 hB2=>?_)
   | (refine nextJ hl (σ:=σ) (m:=f) (L:=[-1,f.getD 0 0,1099511627776]) (BI.bj (by assumption) [-1,f.getD 0 0,1099511627776]) _ fun r2 ρ h4 h5 hB2=>?_)
   | (refine nextI hl (σ:=σ) (m:=f) (by assumption) _ fun r2 ρ h4 h5 hB2=>?_)
   | (refine pickJ hl (σ:=σ) (m:=f) (L:=[-1,f.getD 0 0,1099511627776]) (by assumption) (by simp) 3 rfl fun r3 ρ3 h4 hB3=>?_)
   | (refine pickJ hl (σ:=σ) (m:=f) (L:=[-1,f.getD 0 0,1099511627776]) (BI.bj (by assumption) [-1,f.getD 0 0,1099511627776]) (by simp) 3 rfl fun r3 ρ3 h4 hB3=>?_)
   | (with_reducible refine And.intro ?_ ?_)
   | (with_reducible intro _)
   | (simp (disch:=assumption) only [hcI,OpK_eq,HKv,hil,ints_set1,go_sem]))
  all_goals (simp (disch:=assumption) only [g1,g2,g3,g4,g6,g7,g8,g9,OpK_eq,HKv,hil,ints_set1,go_sem])
  all_goals exact Kv.Fin.now (g5 _ _ _ (by assumption))
 ·exact Kv.Fin.now (hend f τ hB)
theorem p185 {l:List Int} (hl:Byt l) {σ:Heap} {b:Nat} (hS:Src σ b l) {K:PV→Heap→Prop}
  (hK:∀ (m:List Int) σ',m.length=6→Src σ' b l→Kept σ σ' b→K (.agg (ints m)) σ'):ACall Tryz.prog 185 [.ptr b 0] σ K:=by
 have hlt:=hS.lt
 refine e185 (by simp) fun _ _=>?_
 simp only [k185,argEnv,go_sem]
 try simp only [OpK_eq,HKv,go_sem]
 generalize hz:AObj.box [PV.int .i64 0,PV.int .i64 0,PV.int .i64 0,PV.int .i64 0,PV.int .i64 0,PV.int .i64 0]=z
 refine p199 hl (hS.app _) fun m τ q1 q2 q3 q4=>?_
 have hk1:Kept σ τ b:=(Kept.app _ _ _).trans q4
 have hz1:τ[σ.length]? = some z:=by
  rw [q4.2 _ (by simp) (by omega)]; simp
 try simp only [OpK_eq,HKv,go_sem]
 refine p186 hl q3 m q1 q2 fun m2 ρ q5 q6 q7=>?_
 have hzl:=(List.getElem?_eq_some_iff.1 hz1).1
 have hz2:ρ[σ.length]? = some z:=(q7.2 _ hzl (by omega)).trans hz1
 have hself:∀ o,(ρ.set σ.length o)[σ.length]? = some o:=fun o=>List.getElem?_set_self (List.getElem?_eq_some_iff.1 hz2).1
 have hil:(ints m2).length=6:=by rw [ints_length,q5]
 subst hz
 try simp only [OpK_eq,HKv,hz2,hself,hil,go_sem]
 have hk2:=hk1.trans q7
 exact Kv.Fin.now (hK m2 _ q5 (q6.keep (List.getElem?_set_ne (by omega))) ⟨by rw [List.length_set]; exact hk2.1,fun j hj hb=>(List.getElem?_set_ne (by omega)).trans (hk2.2 j hj hb)⟩)
end
end
section
section
set_option maxRecDepth 100000
def k157_b0:KC:=(.seq (.seq (.ops [mV 30 8,mV 31 1,oP 32 (.bin .lss (.t 30) (.t 31))])
 (.cond (.t 32) .skip (.exit 2)))
 (.seq (.block 3 (.ops [mV 35 8,mV 36 8,oP 37 (.fieldA 1 (.t 7)),oP 38 (.idxA 5 1 (.t 37) (.t 36)),oP 39 (.load false 1 (.t 38)),mV 40 8,oP 41 (.mnmx false (.t 39) [(.t 40)]),oP 42 (.fieldA 1 (.t 7)),oP 43 (.idxA 5 1 (.t 42) (.t 35)),⟨none,none,.store 1 (.t 43) (.t 41)⟩]))
 (.ops [mV 33 8,oP 34 (.bin .add (.t 33) (iC 1)),mV 8 34])))
def k157_b1:KC:=(.seq (.seq (.ops [mV 16 6,oP 17 (.bin .gtr (.t 16) (iC 0))])
 (.cond (.t 17) .skip (.exit 0)))
 (.seq (.block 1 (.seq (.ops [mV 20 0,mV 21 1,oP 22 (.call (fC 189) [(.t 20),(.t 21)]),oP 7 (.alloc [.int .i64 0,.int .i64 0,.int .i64 0,.int .i64 0,.int .i64 0,.int .i64 0]),⟨none,none,.store 6 (.t 7) (.t 22)⟩])
 (.seq (.seq (.ops [mV 23 1,oP 24 (.bin .eql (.t 23) (iC 5)),mV 25 24,⟨(some 26),some (25,true),.mv (.t 0)⟩,⟨(some 27),some (25,true),.call (fC 72) [(.t 26),(iC 3)]⟩,⟨(some 28),some (25,true),.bin .gtr (.t 27) (iC 0)⟩,oP 29 (.pick (.t 25) (.t 28) (.c (.bool false)))])
 (.cond (.t 29) (.seq (.ops [oP 8 (.mv (iC 0))])
 (.block 2 (.loop k157_b0))) .skip))
 (.ops [mV 44 5,oP 45 (.load true 6 (.t 7)),oP 46 (.bsl true 48 6 [(.t 45)]),oP 47 (.app (.t 44) (.t 46) 48 6),mV 5 47]))))
 (.ops [mV 18 6,oP 19 (.bin .sub (.t 18) (iC 1)),mV 6 19])))
def k157:KC:=(.seq (.ops [oP 4 (.mv (.c (.nils)))])
 (.seq (.ops [oP 9 (.bsl false 48 6 []),mV 5 9])
 (.seq (.seq (.ops [mV 10 0,mV 11 0,oP 12 (.bsl false 2 1 [(iC 1),(iC 2),(iC 3),(iC 6)]),oP 13 (.call (fC 139) [(.t 11),(.t 12)]),oP 14 (.call (fC 72) [(.t 10),(.t 13)]),oP 15 (.bin .add (iC 1) (.t 14)),mV 6 15])
 (.block 0 (.loop k157_b1)))
 (.seq (.ops [mV 48 5,mV 4 48])
 .ret))))
theorem e157:Ent 157 49 [46] [.t 4] k157:=ent Tryz.func157
end
section
attribute [local irreducible] ACall PCall KL
def Mps (t:List (List Int)):Prop:=∀ r∈t,r.length=6∧0≤r.getD 0 0∧r.getD 0 0≤5
def Mp6 (t:List (List Int)):Prop:=∀ r∈t,r.length=6
theorem ok6 {m:List Int} (hm:m.length=6):okL 6 [PV.agg (ints m)]=True:=by
 have:=okL_aggs 6 [m]
 simp only [List.mem_singleton,forall_eq,hm] at this
 simpa [aggs] using this
theorem take_aggs (t:List (List Int)) (m:List Int):(aggs t).take t.length ++ [PV.agg (ints m)]=aggs (t ++ [m]):=by
 rw [List.take_of_length_le (by rw [aggs_length]; exact Nat.le_refl _)]; simp [aggs]
theorem Kept.set2 {σ τ:Heap} {b id:Nat} (h:Kept σ τ b) (hid:σ.length≤id) (o:AObj):Kept σ (τ.set id o) b :=
 ⟨by rw [List.length_set]; exact h.1,fun j hj hb=>(List.getElem?_set_ne (by omega)).trans (h.2 j hj hb)⟩
theorem Src.set2 {τ:Heap} {b id:Nat} {l:List Int} (h:Src τ b l) (hid:id≠b) (o:AObj):Src (τ.set id o) b l:=h.keep (List.getElem?_set_ne hid)
theorem set_pt5 {m:List Int} {k:Nat} {v:Int} (h:0≤m.getD 0 0∧m.getD 0 0≤5):0≤(m.set (k+1) v).getD 0 0∧(m.set (k+1) v).getD 0 0≤5:=by
 cases m with
 | nil=>exact h
 | cons a m=>exact h
theorem p157 {l:List Int} (hl:Byt l) {σ:Heap} {b:Nat} (hS:Src σ b l) (n:Nat) (hn1:1≤n) (hn:n≤5) {K:PV→Heap→Prop}
  (hK:∀ (t:List (List Int)) σ',1≤t.length→t.length≤6→Mps t→Src σ' b l→Kept σ σ' b→K (.list (aggs t)) σ'):ACall Tryz.prog 157 [.ptr b 0,.int .i64 n] σ K:=by
 have hlt:=hS.lt
 refine e157 (by simp) fun _ _=>?_
 simp only [k157,argEnv,go_sem]
 try simp only [OpK_eq,HKv,go_sem]
 refine p139 hl ((hS.app _).app _) [1,2,3,6] (by simp) (id:=σ.length+1) (ver:=0) (e:=2) (by rw [List.getElem?_append_right (by simp)]; simp [ints]) (by omega) 4 rfl fun r1 τ1 h2 h4 h5 h6=>?_
 have ho1:τ1[σ.length]? = some (.arr 0 48 6 []):=by
  rw [h5.2 _ (by simp) (by omega),List.getElem?_append_left (by simp)]; simp
 have hk1:Kept σ τ1 b:=((Kept.app _ _ _).trans (Kept.app _ _ _)).trans h5
 have hr1:1≤r1∧r1≤6:=by
  simp only [List.mem_cons,List.not_mem_nil,or_false] at h2
  omega
 clear h2 h5 h6
 try simp only [OpK_eq,HKv,go_sem]
 refine p72 hl h4 _ fun r2 τ2 h2 h3 h4' h5 h6=>?_
 have h3:=h3 (by omega)
 have ho2:τ2[σ.length]? = some (.arr 0 48 6 []):=(h5.2 _ (List.getElem?_eq_some_iff.1 ho1).1 (by omega)).trans ho1
 have hk2:=hk1.trans h5
 obtain ⟨c,hc,hc1⟩:∃ c:Nat,(1:Int)+r2=(c:Int)∧(1≤c∧c≤6):=⟨(1+r2).toNat,by omega,by omega⟩
 clear h5 h6 ho1 hk1 h4
 try simp only [OpK_eq,HKv,go_sem]
 rw [hc]
 refine ⟨by omega,?_⟩
 refine KL_ind k157_b1.eq_1 (fun y:Nat × List (List Int) × Nat × Heap × PV × PV × PV=>[(0,.ptr b 0),(1,.int .i64 n),(5,.ref σ.length y.2.2.1 0 y.2.1.length),(6,.int .i64 y.1),(26,y.2.2.2.2.1),(27,y.2.2.2.2.2.1),(28,y.2.2.2.2.2.2)]) (fun y=>y.2.2.2.1)
  (fun y=>y.2.1.length+y.1=c∧Mps y.2.1∧y.2.2.2.1[σ.length]? = some (.arr y.2.2.1 48 6 (aggs y.2.1))∧Src y.2.2.2.1 b l∧Kept σ y.2.2.2.1 b) (fun y=>y.1) [0,1,5,6,26,27,28] (c,[],0,τ2,.undef,.undef,.undef) (by simp [keep]) rfl ⟨by simp,fun r hr=>(by cases hr),ho2,h4',hk2⟩ fun ⟨j,t,ver,τ,v1,v2,v3⟩ ⟨hj,ht,ho,hS1,hK1⟩ ih=>?_
 simp only at hj ht ho hS1 hK1
 try simp only [OpK_eq,HKv,go_sem]
 refine ⟨fun g1=>?_,fun g1=>?_⟩
 ·refine p189 hl hS1 n hn1 hn fun m ρ q1 q2 q3 q4=>?_
  have hm:=q1
  have hil:(ints m).length=6:=by rw [ints_length,q1]
  have ho3:ρ[σ.length]? = some (.arr ver 48 6 (aggs t)):=(q4.2 _ (List.getElem?_eq_some_iff.1 ho).1 (by omega)).trans ho
  have hK3:=hK1.trans q4
  have hgb:∀ (s:Heap) (a:AObj),(s ++ [a])[s.length]? = some a:=fun s a=>by simp
  have hsb:∀ (s:Heap) (a b:AObj),(s ++ [a]).set s.length b=s ++ [b]:=fun s a b=>by simp [List.set_append_right]
  have hap:∀ X,(ρ ++ X)[σ.length]? = some (.arr ver 48 6 (aggs t)):=fun X=>(List.getElem?_append_left (List.getElem?_eq_some_iff.1 ho3).1).trans ho3
  have hnext:∀ (m:List Int) (ρ':Heap) w1 w2 w3,m.length=6→(0≤m.getD 0 0∧m.getD 0 0≤5)→Src ρ' b l→Kept σ ρ' b→ρ'[σ.length]? = some (.arr ver 48 6 (aggs t))→∀ env,keep [0,1,5,6,26,27,28] env = [(0,.ptr b 0),(1,.int .i64 n),(5,.ref σ.length (ver+1) 0 (t.length+1)),(6,.int .i64 ((j:Int) - 1)),(26,w1),(27,w2),(28,w3)]→KL (mkCfg Tryz.prog mixed [46] 49 σ.length) k157_b1 _ env (ρ'.set σ.length (.arr (ver+1) 48 6 (aggs (t ++ [m])))):=fun m ρ' w1 w2 w3 a1 a2 a3 a4 a5 env a6 =>
   ih (j - 1,t ++ [m],ver+1,_,w1,w2,w3) ⟨by show (t ++ [m]).length+(j - 1)=c; rw [List.length_append,List.length_singleton]; omega,fun r hr=>by
    rcases List.mem_append.1 hr with hr | hr
    ·exact ht r hr
    ·simp only [List.mem_singleton] at hr; subst hr; exact ⟨a1,a2⟩,List.getElem?_set_self (List.getElem?_eq_some_iff.1 a5).1,a3.set2 (by omega) _,a4.set2 (Nat.le_refl _) _⟩ (by show j - 1<j; omega) env _ (by
     rw [a6,List.length_append,List.length_singleton]
     have:((j - 1:Nat):Int)=(j:Int) - 1:=by omega
     show _ = [(0,PV.ptr b 0),(1,PV.int .i64 n),(5,PV.ref σ.length (ver+1) 0 (t.length+1)),(6,PV.int .i64 ((j - 1:Nat):Int)),(26,w1),(27,w2),(28,w3)]
     rw [this]) rfl
  clear ih
  have hok:=ok6 q1
  try simp only [OpK_eq,HKv,hgb,hsb,hil,q1,hap,hok,take_aggs,aggs_length,go_sem]
  refine ⟨fun h5n=>?_,fun h5n=>?_⟩
  ·have hql:σ.length < ρ.length:=(List.getElem?_eq_some_iff.1 ho3).1
   refine p72 hl (q3.app _) _ fun r3 ρ2 p2 p3 p4 p5 p6=>?_
   have hqb:ρ2[ρ.length]? = some (.box (ints m)):=by rw [p5.2 _ (by simp) (by omega)]; simp
   have hob:ρ2[σ.length]? = some (.arr ver 48 6 (aggs t)):=(p5.2 _ (by simp; omega) (by omega)).trans (hap _)
   have hK4:=(hK3.trans (Kept.app ρ _ b)).trans p5
   generalize hq:ρ.length=q at *
   clear hap hgb hsb p5 p6 ho3 hK3 q3 q4 hK1 hS1 ho ho2 h4' hk2 hq
   try simp only [OpK_eq,HKv,hil,q1,hqb,hob,hok,take_aggs,aggs_length,go_sem]
   refine ⟨fun g2=>?_,fun g2=>?_⟩
   ·refine KL_ind k157_b0.eq_1 (fun y:Nat × List Int × Heap=>[(0,.ptr b 0),(1,.int .i64 n),(5,.ref σ.length ver 0 t.length),(6,.int .i64 j),(7,.ptr q 0),(8,.int .i64 y.1),(26,.ptr b 0),(27,.int .i64 r3),(28,.bool (decide (0<r3)))]) (fun y=>y.2.2) (fun y=>y.1≤n∧y.2.1.length=6∧(0≤y.2.1.getD 0 0∧y.2.1.getD 0 0≤5)∧y.2.2[q]? = some (.box (ints y.2.1))∧y.2.2[σ.length]? = some (.arr ver 48 6 (aggs t))∧Src y.2.2 b l∧Kept σ y.2.2 b) (fun y=>n - y.1) [0,1,5,6,7,8,26,27,28] (0,m,ρ2) (by simp [keep]) rfl ⟨Nat.zero_le _,q1,q2,hqb,hob,p4,hK4⟩ fun ⟨k,m2,ρ3⟩ ⟨hk,s1,s2,s3,s4,s5,s6⟩ ihk=>?_
    simp only at hk s1 s2 s3 s4 s5 s6
    have hil2:(ints m2).length=6:=by rw [ints_length,s1]
    have hok2:=ok6 s1
    try simp only [OpK_eq,HKv,s3,s4,hil2,s1,hok2,take_aggs,aggs_length,ints_set1,go_sem]
    refine ⟨fun g3=>?_,fun g3=>?_⟩
    ·have hql3:=(List.getElem?_eq_some_iff.1 s3).1
     exact ⟨by omega,by omega,fun _=>⟨by omega,by omega,by omega,ihk (k+1,m2.set (k+1) _,_) ⟨by show k+1≤n; omega,by rw [List.length_set]; exact s1,set_pt5 s2,List.getElem?_set_self hql3,(List.getElem?_set_ne (by omega)).trans s4,s5.set2 (by omega) _,s6.set2 (by omega) _⟩ (by show n - (k+1)<n - k; omega) _ _ (by simp [keep]) rfl⟩⟩
    ·exact ⟨⟨by omega,by omega⟩,by omega,hnext m2 _ _ _ _ s1 s2 s5 s6 s4 _ (by simp [keep]; exact ⟨rfl,rfl,rfl⟩)⟩
   ·exact ⟨⟨by omega,by omega⟩,by omega,hnext m _ _ _ _ q1 q2 p4 hK4 hob _ (by simp [keep]; exact ⟨rfl,rfl,rfl⟩)⟩
  ·exact ⟨⟨by omega,by omega⟩,by omega,hnext m _ _ _ _ q1 q2 (q3.app _) (hK3.trans (Kept.app _ _ _)) (hap _) _ (by simp [keep]; exact ⟨rfl,rfl,rfl⟩)⟩
 ·obtain rfl:j=0:=by omega
  exact Kv.Fin.giveAt ho (.inl (Imm.refa (solo_get ho))) (hK t _ (by omega) (by omega) ht (hS1.set2 (by omega) _) (hK1.set2 (Nat.le_refl _) _))
end
end
section
section
attribute [local irreducible] ACall PCall KL
def Mpo (n:Nat) (t:List (List Int)):Prop:=∀ r∈t,∃ f,Ok f n∧r=mp f
theorem mpo_all {n:Nat}:∀ {t:List (List Int)},Mpo n t→∃ fs:List (List Nat),t=fs.map mp∧∀ f∈fs,Ok f n
 | [],_=>⟨[],rfl,by simp⟩
 | r :: t,h=>by
  obtain ⟨f,hf,rfl⟩:=h r (by simp)
  obtain ⟨fs,rfl,hfs⟩:=mpo_all (t:=t) fun x hx=>h x (by simp [hx])
  exact ⟨f :: fs,rfl,fun g hg=>by rcases List.mem_cons.1 hg with rfl | hg; exact hf; exact hfs g hg⟩
theorem mpo_min {n k:Nat} {m:List Int} (h:∃ f,Ok f n∧m=mp f) (hk:k<n):∃ f,Ok f n∧m.set (k+1) (min (m.getD (k+1) 0) (k:Int))=mp f:=by
 obtain ⟨f,hf,rfl⟩:=h
 rw [mp_get]
 exact set_pt ⟨f,hf,rfl⟩ hk ⟨by omega,by have:=hf.get hk; omega⟩
theorem p157S {l:List Int} (hl:Byt l) {σ:Heap} {b:Nat} (hS:Src σ b l) (n:Nat) (hn1:1≤n) (hn:n≤5) {K:PV→Heap→Prop}
  (hK:∀ (fs:List (List Nat)) σ',1≤fs.length→fs.length≤6→(∀ f∈fs,Ok f n)→Src σ' b l→Kept σ σ' b→K (.list (aggs (fs.map mp))) σ'):ACall Tryz.prog 157 [.ptr b 0,.int .i64 n] σ K:=by
 have hlt:=hS.lt
 refine e157 (by simp) fun _ _=>?_
 simp only [k157,argEnv,go_sem]
 try simp only [OpK_eq,HKv,go_sem]
 refine p139 hl ((hS.app _).app _) [1,2,3,6] (by simp) (id:=σ.length+1) (ver:=0) (e:=2) (by rw [List.getElem?_append_right (by simp)]; simp [ints]) (by omega) 4 rfl fun r1 τ1 h2 h4 h5 h6=>?_
 have ho1:τ1[σ.length]? = some (.arr 0 48 6 []):=by
  rw [h5.2 _ (by simp) (by omega),List.getElem?_append_left (by simp)]; simp
 have hk1:Kept σ τ1 b:=((Kept.app _ _ _).trans (Kept.app _ _ _)).trans h5
 have hr1:1≤r1∧r1≤6:=by
  simp only [List.mem_cons,List.not_mem_nil,or_false] at h2
  omega
 clear h2 h5 h6
 try simp only [OpK_eq,HKv,go_sem]
 refine p72 hl h4 _ fun r2 τ2 h2 h3 h4' h5 h6=>?_
 have h3:=h3 (by omega)
 have ho2:τ2[σ.length]? = some (.arr 0 48 6 []):=(h5.2 _ (List.getElem?_eq_some_iff.1 ho1).1 (by omega)).trans ho1
 have hk2:=hk1.trans h5
 obtain ⟨c,hc,hc1⟩:∃ c:Nat,(1:Int)+r2=(c:Int)∧(1≤c∧c≤6):=⟨(1+r2).toNat,by omega,by omega⟩
 clear h5 h6 ho1 hk1 h4
 try simp only [OpK_eq,HKv,go_sem]
 rw [hc]
 refine ⟨by omega,?_⟩
 refine KL_ind k157_b1.eq_1 (fun y:Nat × List (List Int) × Nat × Heap × PV × PV × PV=>[(0,.ptr b 0),(1,.int .i64 n),(5,.ref σ.length y.2.2.1 0 y.2.1.length),(6,.int .i64 y.1),(26,y.2.2.2.2.1),(27,y.2.2.2.2.2.1),(28,y.2.2.2.2.2.2)]) (fun y=>y.2.2.2.1)
  (fun y=>y.2.1.length+y.1=c∧Mpo n y.2.1∧y.2.2.2.1[σ.length]? = some (.arr y.2.2.1 48 6 (aggs y.2.1))∧Src y.2.2.2.1 b l∧Kept σ y.2.2.2.1 b) (fun y=>y.1) [0,1,5,6,26,27,28] (c,[],0,τ2,.undef,.undef,.undef) (by simp [keep]) rfl ⟨by simp,fun r hr=>(by cases hr),ho2,h4',hk2⟩ fun ⟨j,t,ver,τ,v1,v2,v3⟩ ⟨hj,ht,ho,hS1,hK1⟩ ih=>?_
 simp only at hj ht ho hS1 hK1
 try simp only [OpK_eq,HKv,go_sem]
 refine ⟨fun g1=>?_,fun g1=>?_⟩
 ·refine p189S hl hS1 n hn1 hn fun m ρ q1 q2 q3 q4=>?_
  have hm:=q1
  have hil:(ints m).length=6:=by rw [ints_length,q1]
  have ho3:ρ[σ.length]? = some (.arr ver 48 6 (aggs t)):=(q4.2 _ (List.getElem?_eq_some_iff.1 ho).1 (by omega)).trans ho
  have hK3:=hK1.trans q4
  have hgb:∀ (s:Heap) (a:AObj),(s ++ [a])[s.length]? = some a:=fun s a=>by simp
  have hsb:∀ (s:Heap) (a b:AObj),(s ++ [a]).set s.length b=s ++ [b]:=fun s a b=>by simp [List.set_append_right]
  have hap:∀ X,(ρ ++ X)[σ.length]? = some (.arr ver 48 6 (aggs t)):=fun X=>(List.getElem?_append_left (List.getElem?_eq_some_iff.1 ho3).1).trans ho3
  have hnext:∀ (m:List Int) (ρ':Heap) w1 w2 w3,m.length=6→(∃ f,Ok f n∧m=mp f)→Src ρ' b l→Kept σ ρ' b→ρ'[σ.length]? = some (.arr ver 48 6 (aggs t))→∀ env,keep [0,1,5,6,26,27,28] env = [(0,.ptr b 0),(1,.int .i64 n),(5,.ref σ.length (ver+1) 0 (t.length+1)),(6,.int .i64 ((j:Int) - 1)),(26,w1),(27,w2),(28,w3)]→KL (mkCfg Tryz.prog mixed [46] 49 σ.length) k157_b1 _ env (ρ'.set σ.length (.arr (ver+1) 48 6 (aggs (t ++ [m])))):=fun m ρ' w1 w2 w3 a1 a2 a3 a4 a5 env a6 =>
   ih (j - 1,t ++ [m],ver+1,_,w1,w2,w3) ⟨by show (t ++ [m]).length+(j - 1)=c; rw [List.length_append,List.length_singleton]; omega,fun r hr=>by
    rcases List.mem_append.1 hr with hr | hr
    ·exact ht r hr
    ·simp only [List.mem_singleton] at hr; subst hr; exact a2,List.getElem?_set_self (List.getElem?_eq_some_iff.1 a5).1,a3.set2 (by omega) _,a4.set2 (Nat.le_refl _) _⟩ (by show j - 1<j; omega) env _ (by
     rw [a6,List.length_append,List.length_singleton]
     have:((j - 1:Nat):Int)=(j:Int) - 1:=by omega
     show _ = [(0,PV.ptr b 0),(1,PV.int .i64 n),(5,PV.ref σ.length (ver+1) 0 (t.length+1)),(6,PV.int .i64 ((j - 1:Nat):Int)),(26,w1),(27,w2),(28,w3)]
     rw [this]) rfl
  clear ih
  have hok:=ok6 q1
  try simp only [OpK_eq,HKv,hgb,hsb,hil,q1,hap,hok,take_aggs,aggs_length,go_sem]
  refine ⟨fun h5n=>?_,fun h5n=>?_⟩
  ·have hql:σ.length < ρ.length:=(List.getElem?_eq_some_iff.1 ho3).1
   refine p72 hl (q3.app _) _ fun r3 ρ2 p2 p3 p4 p5 p6=>?_
   have hqb:ρ2[ρ.length]? = some (.box (ints m)):=by rw [p5.2 _ (by simp) (by omega)]; simp
   have hob:ρ2[σ.length]? = some (.arr ver 48 6 (aggs t)):=(p5.2 _ (by simp; omega) (by omega)).trans (hap _)
   have hK4:=(hK3.trans (Kept.app ρ _ b)).trans p5
   generalize hq:ρ.length=q at *
   clear hap hgb hsb p5 p6 ho3 hK3 q3 q4 hK1 hS1 ho ho2 h4' hk2 hq
   try simp only [OpK_eq,HKv,hil,q1,hqb,hob,hok,take_aggs,aggs_length,go_sem]
   refine ⟨fun g2=>?_,fun g2=>?_⟩
   ·refine KL_ind k157_b0.eq_1 (fun y:Nat × List Int × Heap=>[(0,.ptr b 0),(1,.int .i64 n),(5,.ref σ.length ver 0 t.length),(6,.int .i64 j),(7,.ptr q 0),(8,.int .i64 y.1),(26,.ptr b 0),(27,.int .i64 r3),(28,.bool (decide (0<r3)))]) (fun y=>y.2.2) (fun y=>y.1≤n∧y.2.1.length=6∧(∃ f,Ok f n∧y.2.1=mp f)∧y.2.2[q]? = some (.box (ints y.2.1))∧y.2.2[σ.length]? = some (.arr ver 48 6 (aggs t))∧Src y.2.2 b l∧Kept σ y.2.2 b) (fun y=>n - y.1) [0,1,5,6,7,8,26,27,28] (0,m,ρ2) (by simp [keep]) rfl ⟨Nat.zero_le _,q1,q2,hqb,hob,p4,hK4⟩ fun ⟨k,m2,ρ3⟩ ⟨hk,s1,s2,s3,s4,s5,s6⟩ ihk=>?_
    simp only at hk s1 s2 s3 s4 s5 s6
    have hil2:(ints m2).length=6:=by rw [ints_length,s1]
    have hok2:=ok6 s1
    try simp only [OpK_eq,HKv,s3,s4,hil2,s1,hok2,take_aggs,aggs_length,ints_set1,go_sem]
    refine ⟨fun g3=>?_,fun g3=>?_⟩
    ·have hql3:=(List.getElem?_eq_some_iff.1 s3).1
     exact ⟨by omega,by omega,fun _=>⟨by omega,by omega,by omega,ihk (k+1,m2.set (k+1) _,_) ⟨by show k+1≤n; omega,by rw [List.length_set]; exact s1,mpo_min s2 (by omega),List.getElem?_set_self hql3,(List.getElem?_set_ne (by omega)).trans s4,s5.set2 (by omega) _,s6.set2 (by omega) _⟩ (by show n - (k+1)<n - k; omega) _ _ (by simp [keep]) rfl⟩⟩
    ·exact ⟨⟨by omega,by omega⟩,by omega,hnext m2 _ _ _ _ s1 s2 s5 s6 s4 _ (by simp [keep]; exact ⟨rfl,rfl,rfl⟩)⟩
   ·exact ⟨⟨by omega,by omega⟩,by omega,hnext m _ _ _ _ q1 q2 p4 hK4 hob _ (by simp [keep]; exact ⟨rfl,rfl,rfl⟩)⟩
  ·exact ⟨⟨by omega,by omega⟩,by omega,hnext m _ _ _ _ q1 q2 (q3.app _) (hK3.trans (Kept.app _ _ _)) (hap _) _ (by simp [keep]; exact ⟨rfl,rfl,rfl⟩)⟩
 ·obtain rfl:j=0:=by omega
  exact Kv.Fin.giveAt ho (.inl (Imm.refa (solo_get ho))) (by
   obtain ⟨fs,rfl,hfs⟩:=mpo_all ht
   rw [List.length_map] at hj
   exact hK fs _ (by omega) (by omega) hfs (hS1.set2 (by omega) _) (hK1.set2 (Nat.le_refl _) _))
end
end
end Go.Proofs.YtcfmmmloeaggmaaGreat
