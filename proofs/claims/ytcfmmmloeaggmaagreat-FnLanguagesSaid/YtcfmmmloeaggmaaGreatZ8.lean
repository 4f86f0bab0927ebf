/- Several texts of this session as one, less what the claim does not need. -/
import Derived.Test.YtcfmmmloeaggmaaGreatCb
import Derived.Test.YtcfmmmloeaggmaaGreatZ7
import Derived.RangeFuncBox
import Derived.RangeFuncLeaves
import Derived.Shelf.Abstract
import Derived.WalkKit
import Derived.OwnWalkIn
import Derived.TacticsInMore
import Derived.LoopNIn
import Derived.LoopIn
import Derived.Maps.AppendAt
import Derived.Test.YtcfmmmloeaggmaaGreatProg
import Derived.Test.YtcfmmmloeaggmaaGreatFC
import Derived.Test.YtcfmmmloeaggmaaGreatZ5
import Derived.Test.YtcfmmmloeaggmaaGreatZ6
namespace Go.Proofs.YtcfmmmloeaggmaaGreat
open Go.Kv
set_option linter.unusedVariables false
set_option linter.unusedSimpArgs false
section
section
set_option maxRecDepth 100000
def k119_b0:KC:=(.seq (.ops [oP 10 (.bin .lss (.t 9) (.t 8))])
 (.seq (.cond (.t 10) .skip (.exit 0))
 (.seq (.block 1 (.seq (.ops [mV 11 9,oP 12 (.idxS 1 (.t 7) (.t 9)),oP 13 (.load false 1 (.t 12)),mV 5 11,mV 6 13])
 (.seq (.ops [mV 14 6,mV 15 1,oP 16 (.bin .sub (.t 15) (iC 1)),oP 17 (.call (fC 80) [(.t 14),(iC 0),(.t 16)]),oP 18 (.not (.t 17)),mV 19 18,⟨(some 20),some (19,false),.mv (.t 5)⟩,⟨(some 21),some (19,false),.bin .gtr (.t 20) (iC 0)⟩,⟨(some 22),some (19,false),.mv (.t 21)⟩,⟨(some 23),some (22,true),.mv (.t 0)⟩,⟨(some 24),some (22,true),.mv (.t 5)⟩,⟨(some 25),some (22,true),.bin .sub (.t 24) (iC 1)⟩,⟨(some 26),some (22,true),.idxS 1 (.t 23) (.t 25)⟩,⟨(some 27),some (22,true),.load false 1 (.t 26)⟩,⟨(some 28),some (22,true),.mv (.t 6)⟩,⟨(some 29),some (22,true),.bin .geq (.t 27) (.t 28)⟩,⟨(some 30),some (19,false),.pick (.t 22) (.t 29) (.c (.bool false))⟩,oP 31 (.pick (.t 19) (.c (.bool true)) (.t 30))])
 (.cond (.t 31) (.seq (.ops [oP 4 (.mv (.c (.bool false)))])
 .ret) .skip))))
 (.ops [oP 32 (.bin .add (.t 9) (iC 1)),mV 9 32]))))
def k119:KC:=(.seq (.ops [oP 4 (.mv (.c (.bool false)))])
 (.seq (.seq (.ops [mV 7 0,oP 8 (.len false (.t 7)),oP 9 (.mv (iC 0))])
 (.block 0 (.loop k119_b0)))
 (.seq (.ops [oP 4 (.mv (.c (.bool true)))])
 .ret)))
theorem e119:Ent 119 33 [] [.t 4] k119:=ent Tryz.func119
def k111_b0:KC:=(.seq (.seq (.ops [mV 7 6,oP 8 (.fieldA 0 (.t 2)),oP 9 (.load false 1 (.t 8)),oP 10 (.bin .lss (.t 7) (.t 9))])
 (.cond (.t 10) .skip (.exit 0)))
 (.seq (.block 1 (.seq (.ops [mV 13 1,mV 14 6,oP 15 (.conv .u64 (.t 14)),oP 16 (.bin .shr (.t 13) (.t 15)),oP 17 (.bin .and (.t 16) (iC 1)),oP 18 (.bin .eql (.t 17) (iC 1))])
 (.cond (.t 18) (.ops [mV 19 5,mV 20 6,oP 21 (.fieldA 1 (.t 2)),oP 22 (.idxA 5 1 (.t 21) (.t 20)),oP 23 (.load false 1 (.t 22)),oP 24 (.conv .u64 (.t 23)),oP 25 (.bin .shl (iC 1) (.t 24)),oP 26 (.bin .or (.t 19) (.t 25)),mV 5 26]) .skip)))
 (.ops [mV 11 6,oP 12 (.bin .add (.t 11) (iC 1)),mV 6 12])))
def k111:KC:=(.seq (.ops [oP 2 (.box true (.t 0)),oP 4 (.mv (iC 0))])
 (.seq (.ops [oP 5 (.mv (iC 0))])
 (.seq (.seq (.ops [oP 6 (.mv (iC 0))])
 (.block 0 (.loop k111_b0)))
 (.seq (.ops [mV 27 5,mV 4 27])
 .ret))))
theorem e111:Ent 111 28 [2] [.t 4] k111:=ent Tryz.func111
def k112_b0:KC:=(.seq (.seq (.ops [mV 5 4,mV 6 0,oP 7 (.len false (.t 6)),oP 8 (.bin .lss (.t 5) (.t 7))])
 (.cond (.t 8) .skip (.exit 0)))
 (.seq (.block 1 (.ops [mV 11 3,mV 12 0,mV 13 4,oP 14 (.idxS 1 (.t 12) (.t 13)),oP 15 (.load false 1 (.t 14)),oP 16 (.conv .u64 (.t 15)),oP 17 (.bin .shl (iC 1) (.t 16)),oP 18 (.bin .or (.t 11) (.t 17)),mV 3 18]))
 (.ops [mV 9 4,oP 10 (.bin .add (.t 9) (iC 1)),mV 4 10])))
def k112:KC:=(.seq (.ops [oP 2 (.mv (iC 0))])
 (.seq (.ops [oP 3 (.mv (iC 0))])
 (.seq (.seq (.ops [oP 4 (.mv (iC 0))])
 (.block 0 (.loop k112_b0)))
 (.seq (.ops [mV 19 3,mV 2 19])
 .ret))))
theorem e112:Ent 112 20 [] [.t 2] k112:=ent Tryz.func112
end
section
attribute [local irreducible] ACall PCall KL
def stp (l:List Int) (n:Int) (i:Nat):Bool:=decide (0≤l.getD i 0∧l.getD i 0≤n - 1) && (decide (i=0) || decide (l.getD (i - 1) 0<l.getD i 0))
def stB (l:List Int) (n:Int):Bool:=(List.range l.length).all (stp l n)
theorem range_all_succ (p:Nat→Bool) (x:Nat):(List.range (x+1)).all p=((List.range x).all p && p x):=by
 rw [List.range_succ,List.all_append]; simp
theorem range_all_false {p:Nat→Bool} {x n:Nat} (h:x<n) (hp:p x=false):(List.range n).all p=false:=by
 rw [List.all_eq_false]
 exact ⟨x,by simpa using h,by simp [hp]⟩
theorem p119 (l:List Int) (n:Int) (hl:l.length≤1048576) (hn:1≤n∧n≤5):Pure Tryz.prog 119 [.list (ints l),.int .i64 n] (.bool (stB l n)):=by
 refine e119 (by simp) fun _ _=>?_
 simp only [k119,argEnv,go_sem]
 refine KL_ind k119_b0.eq_1 (fun x:Nat=>[(0,.list (ints l)),(1,.int .i64 n),(7,.list (ints l)),(8,.int .i64 l.length),(9,.int .i64 x)]) (fun _=>[]) (fun x=>x≤l.length∧(List.range x).all (stp l n)=true) (fun x=>l.length - x) [0,1,7,8,9] 0 (by rfl) rfl ⟨Nat.zero_le _,rfl⟩ fun x ⟨hx,hall⟩ ih=>?_
 have hx1:((x:Int) - 1).toNat=x - 1:=by omega
 have hra:=range_all_succ (stp l n) x
 rw [hall,Bool.true_and] at hra
 try simp only [OpK_eq,go_sem]
 refine ⟨fun h1=>?_,fun h1=>?_⟩
 ·have hxl:x<l.length:=by omega
  refine ⟨h1,fun _=>⟨by omega,?_⟩⟩
  refine (p80 _ _ _).go ?_
  have hst:stp l n x=(decide (0≤l.getD x 0∧l.getD x 0≤n - 1) && (decide (x=0) || decide (l.getD (x - 1) 0<l.getD x 0))):=rfl
  generalize decide (0≤l.getD x 0∧l.getD x 0≤n - 1)=b1 at *
  cases b1 with
  | false =>
   try simp only [OpK_eq,hx1,go_sem]
   exact Kv.Fin.still ⟨by rw [stB,range_all_false hxl (by rw [hst]; rfl)],rfl⟩
  | true =>
   rw [Bool.true_and] at hst
   try simp only [OpK_eq,hx1,go_sem]
   refine ⟨fun h2=>⟨by omega,by omega,fun _=>⟨fun h3=>?_,fun h3=>⟨by omega,?_⟩⟩⟩,fun h2=>⟨by omega,?_⟩⟩
   ·refine Kv.Fin.still ⟨by rw [stB,range_all_false hxl]; rw [hst,decide_eq_false (by omega:¬ x=0),decide_eq_false (by omega)]; rfl,rfl⟩
   ·refine ih (x+1) ⟨by omega,?_⟩ (by omega) _ _ (by rfl) rfl
    rw [hra,hst,decide_eq_true (by omega:l.getD (x - 1) 0<l.getD x 0),Bool.or_true]
   ·refine ih (x+1) ⟨by omega,?_⟩ (by omega) _ _ (by rfl) rfl
    rw [hra,hst,decide_eq_true (by omega:x=0),Bool.true_or]
 ·obtain rfl:x=l.length:=by omega
  exact Kv.Fin.still ⟨by rw [stB,hall],rfl⟩
theorem sb_ext {l m:List Nat} (h:∀ x,x∈l↔x∈m):sb l=sb m:=by
 apply Nat.eq_of_testBit_eq
 intro i
 rw [sb_test,sb_test]
 simp only [h i]
theorem p112 (l:List Nat) (hl:∀ x∈l,x<5) (hn:l.length≤1048576):Pure Tryz.prog 112 [.list (ints (l.map fun x:Nat=>(x:Int)))] (.int .i64 (sb l)):=by
 refine e112 (by simp) fun _ _=>?_
 simp only [k112,argEnv,List.length_map,go_sem]
 refine KL_ind k112_b0.eq_1 (fun x:Nat=>[(0,.list (ints (l.map fun x:Nat=>(x:Int)))),(3,.int .i64 (sb (l.take x))),(4,.int .i64 x)]) (fun _=>[]) (fun x=>x≤l.length) (fun x=>l.length - x) [0,3,4] 0 (by rfl) rfl (Nat.zero_le _) fun x hx ih=>?_
 have hb:sb (l.take x)<2 ^ 62:=Nat.lt_trans (sb_lt (n:=5) fun y hy=>hl y (List.mem_of_mem_take hy)) (by decide)
 have hp:l.getD x 0<5:=by
  rw [List.getD_eq_getElem?_getD]
  by_cases h:x<l.length
  ·rw [List.getElem?_eq_getElem h]; exact hl _ (List.getElem_mem h)
  ·rw [List.getElem?_eq_none (by omega)]; decide
 have hb2:2 ^ l.getD x 0<2 ^ 62:=Nat.pow_lt_pow_right (by omega) (by omega)
 have hp61:l.getD x 0≤61:=by omega
 have hnat:(l.map fun x:Nat=>(x:Int)).getD x 0=(l.getD x 0:Int):=by
  simp only [List.getD_eq_getElem?_getD,List.getElem?_map]; cases l[x]? <;> rfl
 try simp only [List.length_map,hnat,aConv_u64 hp61,aBin_shl1 hp61,aBin_or hb hb2,go_sem]
 refine ⟨fun h1=>?_,fun h1=>?_⟩
 ·repeat' (first | refine And.intro ?_ ?_ | intro _)
  all_goals (try omega)
  refine ih (x+1) (by omega) (by omega) _ _ ?_ rfl
  have hxl:x<l.length:=by omega
  rw [List.take_succ_eq_append_getElem hxl,sb_snoc,List.getD_eq_getElem?_getD,List.getElem?_eq_getElem hxl]
  rfl
 ·obtain rfl:x=l.length:=by omega
  rw [List.take_length]
  exact Kv.Fin.still ⟨rfl,rfl⟩
def mvd (f:List Nat) (l:List Nat) (x:Nat):List Nat:=((List.range x).filter fun p=>decide (p∈l)).map fun p=>f.getD p 0
theorem mvd_succ (f l:List Nat) (x:Nat):mvd f l (x+1)=mvd f l x ++ if x∈l then [f.getD x 0] else []:=by
 unfold mvd
 rw [List.range_succ,List.filter_append,List.map_append]
 congr 1
 by_cases h:x∈l <;> simp [h]
theorem mvd_all {f l:List Nat} {n:Nat} (hl:∀ x∈l,x<n):sb (mvd f l n)=sb (l.map fun p=>f.getD p 0):=sb_ext fun y=>by
 simp only [mvd,List.mem_map,List.mem_filter,List.mem_range,decide_eq_true_eq]
 exact ⟨fun ⟨p,⟨_,h⟩,e⟩=>⟨p,h,e⟩,fun ⟨p,h,e⟩=>⟨p,⟨hl p h,h⟩,e⟩⟩
theorem p111 (f:List Nat) (n:Nat) (hf:Ok f n) (l:List Nat) (hl:∀ x∈l,x<n):Pure Tryz.prog 111 [.agg (ints (mp f)),.int .i64 (sb l)] (.int .i64 (sb (l.map fun p=>f.getD p 0))):=by
 have hlf:=hf.mp_len
 have h5:=hf.le
 rw [← mvd_all hl]
 have hbl:sb l<2 ^ 62:=Nat.lt_trans (sb_lt (n:=5) fun y hy=>by have:=hl y hy; omega) (by decide)
 refine e111 (by simp) fun _ _=>?_
 simp only [k111,argEnv,hlf,go_sem]
 refine KL_ind k111_b0.eq_1 (fun x:Nat=>[(1,.int .i64 (sb l)),(2,.fptr (ints (mp f)) 0),(5,.int .i64 (sb (mvd f l x))),(6,.int .i64 x)]) (fun _=>[]) (fun x=>x≤n) (fun x=>n - x) [1,2,5,6] 0 (by rfl) rfl (Nat.zero_le _) fun x hx ih=>?_
 have hp:=hf.get' x
 have hb:sb (mvd f l x)<2 ^ 62:=Nat.lt_trans (sb_lt (n:=5) fun y hy=>by
  obtain ⟨p,_,rfl⟩:=List.mem_map.1 hy
  have:=hf.get' p; omega) (by decide)
 have hb2:2 ^ f.getD x 0<2 ^ 62:=Nat.pow_lt_pow_right (by omega) (by omega)
 have hp61:f.getD x 0≤61:=by omega
 have hx61:x≤61:=by omega
 have hs:=mvd_succ f l x
 try simp only [OpK_eq,hlf,hf.len,aConv_u64 hp61,aConv_u64 hx61,aBin_shl1 hp61,aBin_or hb hb2,aBin_shr (show x≤63 by omega),aBin_and1 (shr_le hbl),go_sem]
 refine ⟨fun h1=>⟨fun h2=>⟨by omega,by omega,fun _=>⟨by omega,?_⟩⟩,fun h2=>⟨by omega,?_⟩⟩,fun h1=>?_⟩
 ·rw [bit_one,sb_test,decide_eq_true_iff] at h2
  rw [if_pos h2] at hs
  refine ih (x+1) (by omega) (by omega) _ _ ?_ rfl
  rw [hs,sb_snoc]; rfl
 ·rw [bit_one,sb_test,decide_eq_true_iff] at h2
  rw [if_neg h2,List.append_nil] at hs
  refine ih (x+1) (by omega) (by omega) _ _ ?_ rfl
  rw [hs]; rfl
 ·obtain rfl:x=n:=by omega
  exact Kv.Fin.still ⟨rfl,rfl⟩
theorem nodup_len:∀ (n:Nat) (l:List Nat),l.Nodup→(∀ x∈l,x<n)→l.length≤n
 | 0,l,_,h=>by
  cases l with
  | nil=>simp
  | cons a l=>exact absurd (h a (by simp)) (by omega)
 | n+1,l,hn,h=>by
  have h1:=nodup_len n (l.filter fun x=>decide (x≠n)) (hn.filter _) fun x hx=>by
   simp only [List.mem_filter,decide_eq_true_eq] at hx
   have:=h x hx.1
   omega
  have h2:l.length≤(l.filter fun x=>decide (x≠n)).length+1:=by
   clear h h1
   induction l with
   | nil=>simp
   | cons a l ih =>
    rw [List.nodup_cons] at hn
    by_cases e:a=n
    ·subst e
     have:l.filter (fun x=>decide (x≠a))=l:=List.filter_eq_self.2 fun x hx=>by
      simp only [decide_eq_true_eq]; rintro rfl; exact hn.1 hx
     rw [List.filter_cons_of_neg (by simp),this]; simp
    ·rw [List.filter_cons_of_pos (by simpa using e)]
     have:=ih hn.2
     simp only [List.length_cons]; omega
  omega
def asc (n:Nat) (p:List Int):Prop:=∃ l:List Nat,p=l.map (fun x:Nat=>(x:Int))∧l≠[]∧(∀ x∈l,x<n)∧l.Pairwise (· < ·)
theorem asc_len {n:Nat} {p:List Int} (h:asc n p):1≤p.length∧p.length≤n:=by
 obtain ⟨l,rfl,h0,hl,hp⟩:=h
 rw [List.length_map]
 have:l.Nodup:=hp.imp fun h=>by omega
 have h2:=nodup_len n l this hl
 refine ⟨?_,h2⟩
 cases l with
 | nil=>exact absurd rfl h0
 | cons=>simp
noncomputable def img (f:List Nat) (p:List Int):List Int:=imgs f (p.map Int.toNat)
def bits (p:List Int):Nat:=sb (p.map Int.toNat)
theorem stB_asc {l:List Int} {n:Nat} (h:stB l n=true) (h0:l≠[]):asc n l:=by
 have hall:∀ i,i<l.length→stp l n i=true:=fun i hi=>by
  unfold stB at h
  exact List.all_eq_true.1 h i (by simpa using hi)
 have hb:∀ i,(hi:i<l.length)→0≤l[i]∧l[i]≤(n:Int) - 1∧(0<i→∀ h':i - 1<l.length,l[i - 1]<l[i]):=fun i hi=>by
  have:=hall i hi
  simp only [stp,Bool.and_eq_true,Bool.or_eq_true,decide_eq_true_eq] at this
  obtain ⟨h1,h2⟩:=this
  have e:l.getD i 0=l[i]:=by simp [List.getD_eq_getElem?_getD,hi]
  rw [e] at h1 h2
  refine ⟨h1.1,h1.2,fun hp h'=>?_⟩
  rcases h2 with h2 | h2
  ·omega
  ·have e2:l.getD (i - 1) 0=l[i - 1]:=by simp [List.getD_eq_getElem?_getD,h']
   rwa [e2] at h2
 refine ⟨l.map Int.toNat,?_,by simpa using h0,fun x hx=>?_,?_⟩
 ·rw [List.map_map]
  conv=>lhs; rw [← List.map_id l]
  refine List.map_congr_left fun x hx=>?_
  obtain ⟨i,hi,rfl⟩:=List.getElem_of_mem hx
  have:=hb i hi
  simp only [id_eq,Function.comp_def]; omega
 ·obtain ⟨y,hy,rfl⟩:=List.mem_map.1 hx
  obtain ⟨i,hi,rfl⟩:=List.getElem_of_mem hy
  have:=hb i hi
  omega
 ·rw [List.pairwise_map]
  have key:∀ d i,(hi:i+1+d<l.length)→l[i]'(by omega)<l[i+1+d]:=fun d=>by
   induction d with
   | zero =>
    intro i hi
    have:=(hb (i+1) hi).2.2 (by omega) (by omega)
    simpa using this
   | succ d ih =>
    intro i hi
    have h1:=ih i (by omega)
    have h2:=(hb (i+1+(d+1)) hi).2.2 (by omega) (by omega)
    have e:i+1+(d+1) - 1=i+1+d:=by omega
    simp only [e] at h2
    omega
  rw [List.pairwise_iff_getElem]
  intro i j hi hj hij
  have h1:=key (j - i - 1) i (by omega)
  have e:i+1+(j - i - 1)=j:=by omega
  simp only [e] at h1
  have:=(hb i hi).1
  omega
end
end
section
section
attribute [local irreducible] ACall PCall KL
def ixs (K:Nat):List (List Nat):=(List.range K).map fun k=>[k]
def ld2 (fs gs:List (List Nat)) (z:List Nat) (p:List Int):List Int:=[(((fs.getD (z.getD 0 0) []).getD (p.getD 0 0).toNat 0:Nat):Int),(((gs.getD (z.getD 0 0) []).getD (p.getD 1 0).toNat 0:Nat):Int)]
abbrev pq (fs gs:List (List Nat)) (p q i:Nat):List Met:=bl (ixs fs.length) (ld2 fs gs) [(p:Int),(q:Int)] i
theorem ixs_len (K:Nat):(ixs K).length=K:=by simp [ixs]
theorem ixs_get {K k:Nat} (h:k<K):(ixs K).getD k [] = [k]:=by simp [ixs,List.getD_eq_getElem?_getD,h]
theorem ld2_val (fs gs:List (List Nat)) (k u v:Nat):ld2 fs gs [k] [(u:Int),(v:Int)] = [(((fs.getD k []).getD u 0:Nat):Int),(((gs.getD k []).getD v 0:Nat):Int)]:=by simp [ld2]
def Pm (fs gs:List (List Nat)) (p q:Nat) (x:Met):Prop:=∃ w:List Nat,(∀ k∈w,k<fs.length)∧x.2=w.map (fun k:Nat=>(k:Int))∧x.1 = [((rnw fs w p:Nat):Int),((rnw gs w q:Nat):Int)]
theorem Pm.step {fs gs:List (List Nat)} {p q:Nat} {m:Met} (h:Pm fs gs p q m) {k:Nat} (hk:k<fs.length):Pm fs gs p q (ld2 fs gs ((ixs fs.length).getD k []) m.1,m.2 ++ [(k:Int)]):=by
 obtain ⟨w,h1,h2,h3⟩:=h
 refine ⟨w ++ [k],fun c hc=>?_,by simp [h2],?_⟩
 ·rcases List.mem_append.1 hc with hc | hc
  ·exact h1 c hc
  ·rw [List.mem_singleton] at hc; subst hc; exact hk
 ·rw [ixs_get hk]
  show ld2 fs gs [k] m.1=_
  rw [h3,ld2_val,rnw_snoc,rnw_snoc]
theorem adv_pq {fs gs:List (List Nat)} {p q:Nat} {Q:List Met} {m:Met} (hQ:∀ x∈Q,Pm fs gs p q x) (hd:(Q.map Prod.fst).Nodup) (hm:Pm fs gs p q m):∀ k,k≤fs.length →
  (∀ x∈advN (ixs fs.length) (ld2 fs gs) Q m k,Pm fs gs p q x)∧((advN (ixs fs.length) (ld2 fs gs) Q m k).map Prod.fst).Nodup∧(∀ j,j<k→∃ x∈advN (ixs fs.length) (ld2 fs gs) Q m k,x.1=ld2 fs gs [j] m.1)∧(∀ x∈Q,x∈advN (ixs fs.length) (ld2 fs gs) Q m k)
 | 0,_=>⟨hQ,hd,fun j h=>by omega,fun x hx=>hx⟩
 | k+1,hk=>by
  obtain ⟨h1,h2,h3,h4⟩:=adv_pq hQ hd hm k (by omega)
  have hs:=hm.step (k:=k) (by omega)
  have hgk:=ixs_get (K:=fs.length) (k:=k) (by omega)
  rw [advN_succ]
  rw [hgk] at hs ⊢
  cases hany:(advN (ixs fs.length) (ld2 fs gs) Q m k).any (fun x=>decide (x.1=ld2 fs gs [k] m.1)) with
  | true =>
   rw [if_pos rfl]
   refine ⟨h1,h2,fun j hj=>?_,h4⟩
   by_cases e:j=k
   ·subst e
    obtain ⟨x,hx,e⟩:=List.any_eq_true.1 hany
    exact ⟨x,hx,of_decide_eq_true e⟩
   ·exact h3 j (by omega)
  | false =>
   rw [if_neg (by simp)]
   refine ⟨fun x hx=>?_,?_,fun j hj=>?_,fun x hx=>List.mem_append.2 (.inl (h4 x hx))⟩
   ·rcases List.mem_append.1 hx with hx | hx
    ·exact h1 x hx
    ·simp only [List.mem_singleton] at hx; subst hx
     exact hs
   ·rw [List.map_append,List.nodup_append]
    refine ⟨h2,by simp,fun y hy z hz=>?_⟩
    simp only [List.map_cons,List.map_nil,List.mem_singleton] at hz
    subst hz
    obtain ⟨x,hx,rfl⟩:=List.mem_map.1 hy
    rw [List.any_eq_false] at hany
    have:=hany x hx
    simpa using this
   ·by_cases e:j=k
    ·subst e; exact ⟨_,List.mem_append.2 (.inr (List.mem_singleton.2 rfl)),rfl⟩
    ·obtain ⟨x,hx,e⟩:=h3 j (by omega)
     exact ⟨x,List.mem_append.2 (.inl hx),e⟩
structure PqI (fs gs:List (List Nat)) (p q:Nat) (Q:List Met) (i:Nat):Prop where
 all:∀ x∈Q,Pm fs gs p q x
 nd:(Q.map Prod.fst).Nodup
 here:∃ x∈Q,x.1 = [(p:Int),(q:Int)]
 clo:∀ j,(h:j<Q.length)→j<i→∀ k,k<fs.length→∃ x∈Q,x.1=ld2 fs gs [k] Q[j].1
theorem pq_none {fs gs:List (List Nat)} {p q i:Nat} (hi:¬ i<(pq fs gs p q i).length):pq fs gs p q (i+1)=pq fs gs p q i:=by
 show bl _ _ _ (i+1)=_
 rw [bl]
 have:(bl (ixs fs.length) (ld2 fs gs) [(p:Int),(q:Int)] i)[i]? = none:=List.getElem?_eq_none (Nat.le_of_not_lt hi)
 rw [this]
theorem pq_succ {fs gs:List (List Nat)} {p q i:Nat} (h:i<(pq fs gs p q i).length):pq fs gs p q (i+1)=advN (ixs fs.length) (ld2 fs gs) (pq fs gs p q i) (pq fs gs p q i)[i] fs.length:=by
 have:=bl_succ (fs:=ixs fs.length) (bf:=ld2 fs gs) (p:=[(p:Int),(q:Int)]) h
 rw [ixs_len] at this
 exact this
theorem pq_inv {fs gs:List (List Nat)} {p q:Nat}:∀ i,i≤(pq fs gs p q i).length→PqI fs gs p q (pq fs gs p q i) i
 | 0,_=>by
  have e:pq fs gs p q 0 = [(([(p:Int),(q:Int)],[]):Met)]:=rfl
  rw [e]
  refine ⟨fun x hx=>?_,by simp,⟨_,List.mem_singleton.2 rfl,rfl⟩,fun j _ h=>by omega⟩
  simp only [List.mem_singleton] at hx; subst hx
  exact ⟨[],by simp,rfl,rfl⟩
 | i+1,hi1=>by
  by_cases hi:i<(pq fs gs p q i).length
  ·obtain ⟨h1,h2,h3,h4⟩:=pq_inv (fs:=fs) (gs:=gs) (p:=p) (q:=q) i (by omega)
   obtain ⟨g1,g2,g3,g4⟩:=adv_pq h1 h2 (h1 _ (List.getElem_mem hi)) fs.length (Nat.le_refl _)
   obtain ⟨r,hr⟩:=advN_preE (ixs fs.length) (ld2 fs gs) (pq fs gs p q i) (pq fs gs p q i)[i] fs.length
   have e:=pq_succ hi
   rw [← e] at g1 g2 g3 g4 hr
   obtain ⟨x0,hx0,e0⟩:=h3
   refine ⟨g1,g2,⟨x0,g4 x0 hx0,e0⟩,fun j hj hji k hk=>?_⟩
   have hj':j<(pq fs gs p q i).length:=by omega
   have ej:(pq fs gs p q (i+1))[j]=(pq fs gs p q i)[j]:=by
    have:(pq fs gs p q (i+1))[j]? = (pq fs gs p q i)[j]?:=by rw [hr,List.getElem?_append_left hj']
    rw [List.getElem?_eq_getElem hj,List.getElem?_eq_getElem hj'] at this
    exact Option.some.inj this
   rw [ej]
   by_cases e2:j=i
   ·subst e2; exact g3 k hk
   ·obtain ⟨x,hx,e3⟩:=h4 j hj' (by omega) k hk
    exact ⟨x,g4 x hx,e3⟩
  ·have e:=pq_none hi
   rw [e] at hi1
   omega
theorem pq_all {fs gs:List (List Nat)} {p q:Nat}:∀ i,(∀ x∈pq fs gs p q i,Pm fs gs p q x)∧((pq fs gs p q i).map Prod.fst).Nodup
 | 0=>⟨(pq_inv 0 (Nat.zero_le _)).all,(pq_inv 0 (Nat.zero_le _)).nd⟩
 | i+1=>by
  by_cases hi:i<(pq fs gs p q i).length
  ·have h:=pq_all (fs:=fs) (gs:=gs) (p:=p) (q:=q) i
   rw [pq_succ hi]
   obtain ⟨g1,g2,_⟩:=adv_pq h.1 h.2 (h.1 _ (List.getElem_mem hi)) fs.length (Nat.le_refl _)
   exact ⟨g1,g2⟩
  ·rw [pq_none hi]; exact pq_all i
theorem rnw_lt {fs:List (List Nat)} {n p:Nat} (hf:∀ f∈fs,Ok f n) (hp:p<n):∀ w:List Nat,(∀ k∈w,k<fs.length)→rnw fs w p<n:=fun w=>by
 induction w generalizing p with
 | nil=>exact fun _=>hp
 | cons k w ih =>
  intro h
  have hk:=h k (by simp)
  refine ih (p:=(fs.getD k []).getD p 0) ?_ fun c hc=>h c (by simp [hc])
  have:fs.getD k []=fs[k]:=by simp [List.getD_eq_getElem?_getD,hk]
  rw [this]
  exact (hf _ (List.getElem_mem hk)).get hp
def two (n m:Nat) (p:List Int):Prop:=∃ u v:Nat,u<n∧v<m∧p = [(u:Int),(v:Int)]
theorem Pm.two {fs gs:List (List Nat)} {n m p q:Nat} (hf:∀ f∈fs,Ok f n) (hg:∀ g∈gs,Ok g m) (hl:fs.length=gs.length) (hp:p<n) (hq:q<m) {x:Met} (h:Pm fs gs p q x):two n m x.1:=by
 obtain ⟨w,h1,_,h3⟩:=h
 exact ⟨_,_,rnw_lt hf hp w h1,rnw_lt hg hq w (fun k hk=>by rw [← hl]; exact h1 k hk),h3⟩
theorem pair_lt {u v n m:Nat} (hu:u<n) (hv:v<m):u * m+v<n * m:=by
 have:(u+1) * m≤n * m:=Nat.mul_le_mul_right _ hu
 rw [Nat.succ_mul] at this; omega
theorem pair_inj {u v x y m:Nat} (hv:v<m) (hy:y<m) (h:u * m+v=x * m+y):u=x∧v=y:=by
 have hm:0<m:=by omega
 have h1:(u * m+v) / m=u:=by rw [Nat.mul_comm,Nat.mul_add_div hm,Nat.div_eq_of_lt hv]; rfl
 have h2:(x * m+y) / m=x:=by rw [Nat.mul_comm,Nat.mul_add_div hm,Nat.div_eq_of_lt hy]; rfl
 have:u=x:=by rw [← h1,← h2,h]
 subst this; omega
def pcode (m:Nat) (p:List Int):Nat:=(p.getD 0 0).toNat * m+(p.getD 1 0).toNat
theorem pcode_val (m u v:Nat):pcode m [(u:Int),(v:Int)]=u * m+v:=by simp [pcode]
theorem pcode_inj {n m:Nat} {p r:List Int} (hp:two n m p) (hr:two n m r) (h:pcode m p=pcode m r):p=r:=by
 obtain ⟨u,v,_,hv,rfl⟩:=hp
 obtain ⟨x,y,_,hy,rfl⟩:=hr
 rw [pcode_val,pcode_val] at h
 obtain ⟨rfl,rfl⟩:=pair_inj hv hy h
 rfl
theorem pcode_lt {n m:Nat} {p:List Int} (hp:two n m p):pcode m p<n * m:=by
 obtain ⟨u,v,hu,hv,rfl⟩:=hp
 rw [pcode_val]; exact pair_lt hu hv
theorem pq_len {fs gs:List (List Nat)} {n m p q:Nat} (hf:∀ f∈fs,Ok f n) (hg:∀ g∈gs,Ok g m) (hl:fs.length=gs.length) (hp:p<n) (hq:q<m) (hn:n≤5) (hm:m≤5) (i:Nat):(pq fs gs p q i).length≤25:=by
 obtain ⟨h1,h2⟩:=pq_all (fs:=fs) (gs:=gs) (p:=p) (q:=q) i
 have h3:=nodup_len (n * m) ((pq fs gs p q i).map fun x=>pcode m x.1) ?_ ?_
 ·have:n * m≤5 * 5:=Nat.mul_le_mul hn hm
  rw [List.length_map] at h3
  omega
 ·have e:(pq fs gs p q i).map (fun x=>pcode m x.1)=((pq fs gs p q i).map Prod.fst).map (pcode m):=by rw [List.map_map]; rfl
  rw [e,List.Nodup,List.pairwise_map]
  refine List.Pairwise.imp_of_mem ?_ h2
  intro a b ha hb hab h
  obtain ⟨x,hx,rfl⟩:=List.mem_map.1 ha
  obtain ⟨y,hy,rfl⟩:=List.mem_map.1 hb
  exact hab (pcode_inj ((h1 x hx).two hf hg hl hp hq) ((h1 y hy).two hf hg hl hp hq) h)
 ·intro x hx
  obtain ⟨y,hy,rfl⟩:=List.mem_map.1 hx
  exact pcode_lt ((h1 y hy).two hf hg hl hp hq)
def dfr (la lb:List Nat) (p:List Int):Bool:=decide ((p.getD 0 0).toNat∈la) != decide ((p.getD 1 0).toNat∈lb)
theorem dfr_val (la lb:List Nat) (u v:Nat):dfr la lb [(u:Int),(v:Int)]=true↔¬ (u∈la↔v∈lb):=by
 simp only [dfr,List.getD_cons_zero,List.getD_cons_succ,Int.toNat_natCast,bne_iff_ne,ne_eq,decide_eq_decide]
theorem pq_same {fs gs:List (List Nat)} {la lb:List Nat} {p q i:Nat} (hi:i=(pq fs gs p q i).length) (h:∀ x∈pq fs gs p q i,dfr la lb x.1=false) (w:List Nat) (hw:∀ k∈w,k<fs.length):rnw fs w p∈la↔rnw gs w q∈lb:=by
 have hI:=pq_inv (fs:=fs) (gs:=gs) (p:=p) (q:=q) i (by omega)
 have key:∃ x∈pq fs gs p q i,x.1 = [((rnw fs w p:Nat):Int),((rnw gs w q:Nat):Int)]:=by
  have:∀ (r:List Nat),(∀ k∈r,k<fs.length)→∃ x∈pq fs gs p q i,x.1 = [((rnw fs r.reverse p:Nat):Int),((rnw gs r.reverse q:Nat):Int)]:=fun r=>by
   induction r with
   | nil=>exact fun _=>hI.here
   | cons k r ih =>
    intro hr
    obtain ⟨x,hx,e⟩:=ih fun c hc=>hr c (by simp [hc])
    obtain ⟨j,hj,rfl⟩:=List.getElem_of_mem hx
    obtain ⟨y,hy,e2⟩:=hI.clo j hj (by omega) k (hr k (by simp))
    refine ⟨y,hy,?_⟩
    rw [e2,e,ld2_val,List.reverse_cons,rnw_snoc,rnw_snoc]
  have:=this w.reverse fun k hk=>hw k (List.mem_reverse.1 hk)
  rwa [List.reverse_reverse] at this
 obtain ⟨x,hx,e⟩:=key
 have:=h x hx
 rw [e] at this
 refine Classical.byContradiction fun hn=>?_
 rw [(dfr_val la lb _ _).2 hn] at this
 cases this
theorem pq_dfr {fs gs:List (List Nat)} {la lb:List Nat} {p q i:Nat} {x:Met} (hx:x∈pq fs gs p q i) (h:dfr la lb x.1=true):∃ w:List Nat,(∀ k∈w,k<fs.length)∧x.2=w.map (fun k:Nat=>(k:Int))∧¬ (rnw fs w p∈la↔rnw gs w q∈lb):=by
 obtain ⟨w,h1,h2,h3⟩:=(pq_all i).1 x hx
 refine ⟨w,h1,h2,?_⟩
 rw [h3] at h
 exact (dfr_val la lb _ _).1 h
theorem pq_pre {fs gs:List (List Nat)} {p q:Nat} {i j:Nat} (hij:i≤j):∃ r,pq fs gs p q j=pq fs gs p q i ++ r:=by
  induction j with
  | zero => obtain rfl : i = 0 := by omega
            exact ⟨[],by simp⟩
  | succ j ih =>
    by_cases e:i=j+1
    · subst e; exact ⟨[],by simp⟩
    · obtain ⟨r,hr⟩:=ih (by omega)
      by_cases hj:j<(pq fs gs p q j).length
      · obtain ⟨r2,hr2⟩:=advN_preE (ixs fs.length) (ld2 fs gs) (pq fs gs p q j) (pq fs gs p q j)[j] fs.length
        exact ⟨r ++ r2,by rw [pq_succ hj,hr2,hr,List.append_assoc]⟩
      · exact ⟨r,by rw [pq_none hj,hr]⟩
theorem pq_no {fs gs:List (List Nat)} {la lb:List Nat} {p q i:Nat} (hi:i=(pq fs gs p q i).length) (h:∀ j (h:j<(pq fs gs p q j).length),j<i→dfr la lb (pq fs gs p q j)[j].1=false) (w:List Nat) (hw:∀ k∈w,k<fs.length):rnw fs w p∈la↔rnw gs w q∈lb:=by
 refine pq_same hi (fun x hx=>?_) w hw
 obtain ⟨j,hj,rfl⟩:=List.getElem_of_mem hx
 have hji:j<i:=by omega
 have hjl:j<(pq fs gs p q j).length:=by
  refine Classical.byContradiction fun hn=>?_
  have hst:∀ d,pq fs gs p q (j+d)=pq fs gs p q j:=fun d=>by
   induction d with
   | zero=>rfl
   | succ d ih=>rw [← Nat.add_assoc,pq_none (by rw [ih]; omega),ih]
  have:=hst (i - j)
  rw [show j+(i - j)=i by omega] at this
  rw [this] at hj; omega
 obtain ⟨r,hr⟩:=pq_pre (fs:=fs) (gs:=gs) (p:=p) (q:=q) (Nat.le_of_lt hji)
 have e:(pq fs gs p q i)[j]=(pq fs gs p q j)[j]:=by
  have:(pq fs gs p q i)[j]? = (pq fs gs p q j)[j]?:=by rw [hr,List.getElem?_append_left hjl]
  rw [List.getElem?_eq_getElem hj,List.getElem?_eq_getElem hjl] at this
  exact Option.some.inj this
 rw [e]; exact h j hjl hji
theorem adv_lead {fs:List (List Nat)} {Q:List Met} {m:Met} {u v:Nat} (hm:m.1 = [(u:Int),(v:Int)]):∀ k,k≤fs.length→advN fs ldp Q m k=advN (ixs fs.length) (ld2 fs fs) Q m k
 | 0,_=>rfl
 | k+1,hk=>by
  have e:ldp (fs.getD k []) [(u:Int),(v:Int)] = [(((fs.getD k []).getD u 0:Nat):Int),(((fs.getD k []).getD v 0:Nat):Int)]:=by
   simp only [ldp,List.map_cons,List.map_nil,Int.toNat_natCast]
  rw [advN_succ,advN_succ,adv_lead hm k (by omega),ixs_get (show k<fs.length by omega),hm,ld2_val,e]
theorem bq_pq (fs:List (List Nat)) (p q:Nat):∀ i,(bq fs ldp (fun (_:Unit) _=>()) ([([(p:Int),(q:Int)],[])],()) i).1=pq fs fs p q i
 | 0=>rfl
 | i+1=>by
  have ih:=bq_pq fs p q i
  by_cases hi:i<(pq fs fs p q i).length
  ·have h2:=hi
   rw [← ih] at h2
   rw [bq_succ h2,pq_succ hi]
   have hm:=(pq_all (fs:=fs) (gs:=fs) (p:=p) (q:=q) i).1 _ (List.getElem_mem hi)
   obtain ⟨w,_,_,h3⟩:=hm
   simp only [ih]
   exact adv_lead h3 fs.length (Nat.le_refl _)
  ·rw [pq_none hi,bq]
   have:(bq fs ldp (fun (_:Unit) _=>()) ([([(p:Int),(q:Int)],[])],()) i).1[i]? = none:=List.getElem?_eq_none (by rw [ih]; omega)
   rw [this]; exact ih
open Classical in
def FH (fs gs:List (List Nat)) (la lb:List Nat) (p q i:Nat):Prop:=i<(pq fs gs p q i).length∧dfr la lb ((pq fs gs p q i).getD i ([],[])).1=true∧∀ j,j<i→j<(pq fs gs p q j).length→dfr la lb ((pq fs gs p q j).getD j ([],[])).1=false
open Classical in
noncomputable def fwp (fs gs:List (List Nat)) (la lb:List Nat) (p q:Nat):Option (List Int):=if h:∃ i,FH fs gs la lb p q i then some ((pq fs gs p q (Classical.choose h)).getD (Classical.choose h) ([],[])).2 else none
theorem pq_stay {fs gs:List (List Nat)} {p q j:Nat} (hn:¬ j<(pq fs gs p q j).length):∀ d,pq fs gs p q (j+d)=pq fs gs p q j
 | 0=>rfl
 | d+1=>by
  have ih:=pq_stay hn d
  rw [← Nat.add_assoc,pq_none (by rw [ih]; omega),ih]
theorem fwp_some {fs gs:List (List Nat)} {la lb:List Nat} {p q i:Nat} (h:FH fs gs la lb p q i):fwp fs gs la lb p q=some ((pq fs gs p q i).getD i ([],[])).2:=by
 have hex:∃ i,FH fs gs la lb p q i:=⟨i,h⟩
 unfold fwp
 rw [dif_pos hex]
 have hs:=Classical.choose_spec hex
 generalize Classical.choose hex=k at hs
 have:k=i:=by
  rcases Nat.lt_trichotomy k i with hlt | e | hlt
  ·have:=h.2.2 k hlt hs.1
   rw [hs.2.1] at this; cases this
  ·exact e
  ·have:=hs.2.2 i hlt h.1
   rw [h.2.1] at this; cases this
 rw [this]
theorem fwp_none {fs gs:List (List Nat)} {la lb:List Nat} {p q i:Nat} (hi:i=(pq fs gs p q i).length) (h:∀ j,j<i→j<(pq fs gs p q j).length→dfr la lb ((pq fs gs p q j).getD j ([],[])).1=false):fwp fs gs la lb p q=none:=by
 unfold fwp
 rw [dif_neg]
 rintro ⟨k,h1,h2,_⟩
 by_cases hk:k<i
 ·rw [h k hk h1] at h2; cases h2
 ·have:=pq_stay (fs:=fs) (gs:=gs) (p:=p) (q:=q) (j:=i) (by omega) (k - i)
  rw [show i+(k - i)=k by omega] at this
  rw [this] at h1; omega
theorem pq_getD {fs gs:List (List Nat)} {p q i:Nat} (h:i<(pq fs gs p q i).length):(pq fs gs p q i).getD i ([],[])=(pq fs gs p q i)[i]:=by
 rw [List.getD_eq_getElem?_getD,List.getElem?_eq_getElem h]; rfl
theorem fwp_iff {fs gs:List (List Nat)} {la lb:List Nat} {n m p q:Nat} (hf:∀ f∈fs,Ok f n) (hg:∀ g∈gs,Ok g m) (hl:fs.length=gs.length) (hp:p<n) (hq:q<m) (hn:n≤5) (hm:m≤5):fwp fs gs la lb p q=none↔∀ w:List Nat,(∀ k∈w,k<fs.length)→(rnw fs w p∈la↔rnw gs w q∈lb):=by
 constructor
 ·intro h
  have hno:¬ ∃ i,FH fs gs la lb p q i:=by
   intro hex
   unfold fwp at h
   rw [dif_pos hex] at h; cases h
  -- the end, and no hit before
  have key:∀ i,(i≤(pq fs gs p q i).length∧∀ j,j<i→dfr la lb ((pq fs gs p q j).getD j ([],[])).1=false)∨∃ k,k≤i∧k=(pq fs gs p q k).length∧∀ j,j<k→dfr la lb ((pq fs gs p q j).getD j ([],[])).1=false:=fun i=>by
   induction i with
   | zero=>exact .inl ⟨Nat.zero_le _,fun j hj=>by omega⟩
   | succ i ih =>
    rcases ih with ⟨h1,h2⟩ | ⟨k,h1,h2,h3⟩
    ·by_cases e:i=(pq fs gs p q i).length
     ·exact .inr ⟨i,by omega,e,h2⟩
     ·have hi:i<(pq fs gs p q i).length:=by omega
      have hd:dfr la lb ((pq fs gs p q i).getD i ([],[])).1=false:=by
       cases hc:dfr la lb ((pq fs gs p q i).getD i ([],[])).1 with
       | false=>rfl
       | true=>exact absurd ⟨i,hi,hc,fun j hj _=>h2 j hj⟩ hno
      refine .inl ⟨?_,fun j hj=>?_⟩
      ·rw [pq_succ hi]
       have:=advN_mono (ixs fs.length) (ld2 fs gs) (pq fs gs p q i) (pq fs gs p q i)[i] (Nat.zero_le fs.length)
       have e:advN (ixs fs.length) (ld2 fs gs) (pq fs gs p q i) (pq fs gs p q i)[i] 0=pq fs gs p q i:=rfl
       rw [e] at this
       by_cases e2:i+1≤(pq fs gs p q i).length
       ·omega
       ·omega
      ·by_cases e:j=i
       ·subst e; exact hd
       ·exact h2 j (by omega)
    ·exact .inr ⟨k,by omega,h2,h3⟩
  have h25:=pq_len hf hg hl hp hq hn hm 26
  rcases key 26 with ⟨h1,_⟩ | ⟨k,_,h2,h3⟩
  ·omega
  ·exact pq_no h2 fun j hj hjk=>by
    have:=h3 j hjk
    rwa [pq_getD hj] at this
 ·intro h
  unfold fwp
  rw [dif_neg]
  rintro ⟨k,h1,h2,_⟩
  rw [pq_getD h1] at h2
  obtain ⟨w,hw,_,hn'⟩:=pq_dfr (List.getElem_mem h1) h2
  exact hn' (h w hw)
theorem fwp_smB {fs:List (List Nat)} {la:List Nat} {n p q:Nat} (hf:∀ f∈fs,Ok f n) (hp:p<n) (hq:q<n) (hn:n≤5):smB fs la p q=(fwp fs fs la la p q).isNone:=by
 have h:=fwp_iff (la:=la) (lb:=la) hf hf rfl hp hq hn hn
 rw [← smB_iff] at h
 rw [Bool.eq_iff_iff,← h,Option.isNone_iff_eq_none]
end
end
end Go.Proofs.YtcfmmmloeaggmaaGreat
section
namespace Go.Proofs.YtcfmmmloeaggmaaGreat
open Go.RowKit Go.Shelf
set_option linter.unusedVariables false
set_option linter.unusedSimpArgs false
attribute [local go_sem] Oper.semAt_some
def IntsAt (n₀:Nat) (W:World) (sv:Value) (zs:List Int):Prop :=
 (zs = []∧∃ a cap,sv = .slice a 0 cap)∨∃ b off cap,sv = .slice (some ⟨b,off,none⟩) zs.length cap∧b<n₀∧∀ j,j<zs.length→W.cell? ⟨b,off+j,none⟩=some (.int .i64 (zs[j]?.getD 0))
theorem IntsAt.below {n₀:Nat} {A B:World} (h:Below n₀ A B) {sv:Value} {zs:List Int}:IntsAt n₀ A sv zs→IntsAt n₀ B sv zs
 | .inl e=>.inl e
 | .inr ⟨b,off,cap,e,hb,hc⟩=>.inr ⟨b,off,cap,e,hb,fun j hj=>(h.cell (p:=⟨b,off+j,none⟩) hb).trans (hc j hj)⟩
end Go.Proofs.YtcfmmmloeaggmaaGreat
end
section

end
namespace Go.Proofs.YtcfmmmloeaggmaaGreat
open Go.Kv
set_option linter.unusedVariables false
set_option linter.unusedSimpArgs false
section
section
section
attribute [local irreducible] ACall PCall KL
inductive Rea (fs:List (List Nat)) (q:Nat):Nat→Prop
 | here:Rea fs q q
 | step (f:List Nat) (x:Nat) (hf:f∈fs) (h:Rea fs q x):Rea fs q (f.getD x 0)
theorem sb_app (l m:List Nat):sb l ||| sb m=sb (l ++ m):=by
 apply Nat.eq_of_testBit_eq
 intro i
 rw [Nat.testBit_or,sb_test,sb_test,sb_test]
 simp
end
end
section
section
attribute [local irreducible] ACall PCall KL
theorem adv_one {fs:List (List Nat)} {n q:Nat} (hf:∀ f∈fs,Ok f n) {Q:List Met} {m:Met} (hQ:∀ x∈Q,∃ y,Rea fs q y∧y<n∧x.1 = [(y:Int)]) (hd:(Q.map Prod.fst).Nodup) (hm:∃ y,Rea fs q y∧y<n∧m.1 = [(y:Int)]):∀ k,k≤fs.length →
  (∀ x∈advN fs ldp Q m k,∃ y,Rea fs q y∧y<n∧x.1 = [(y:Int)])∧((advN fs ldp Q m k).map Prod.fst).Nodup∧(∀ j,j<k→∃ x∈advN fs ldp Q m k,x.1=ldp (fs.getD j []) m.1)∧(∀ x∈Q,x∈advN fs ldp Q m k)
 | 0,_=>⟨hQ,hd,fun j h=>by omega,fun x hx=>hx⟩
 | k+1,hk=>by
  obtain ⟨h1,h2,h3,h4⟩:=adv_one hf hQ hd hm k (by omega)
  have hgf:fs.getD k []=fs[k]:=by simp [List.getD_eq_getElem?_getD,show k<fs.length by omega]
  have hfk:fs[k]∈fs:=List.getElem_mem _
  rw [advN_succ]
  cases hany:(advN fs ldp Q m k).any (fun x=>decide (x.1=ldp (fs.getD k []) m.1)) with
  | true =>
   rw [if_pos rfl]
   refine ⟨h1,h2,fun j hj=>?_,h4⟩
   by_cases e:j=k
   ·subst e
    obtain ⟨x,hx,e⟩:=List.any_eq_true.1 hany
    exact ⟨x,hx,of_decide_eq_true e⟩
   ·exact h3 j (by omega)
  | false =>
   rw [if_neg (by simp)]
   refine ⟨fun x hx=>?_,?_,fun j hj=>?_,fun x hx=>List.mem_append.2 (.inl (h4 x hx))⟩
   ·rcases List.mem_append.1 hx with hx | hx
    ·exact h1 x hx
    ·simp only [List.mem_singleton] at hx; subst hx
     obtain ⟨y,hy,hyn,e⟩:=hm
     refine ⟨fs[k].getD y 0,.step _ y hfk hy,(hf _ hfk).get' y,?_⟩
     show ldp (fs.getD k []) m.1=_
     rw [hgf,e]; simp [ldp]
   ·rw [List.map_append,List.nodup_append]
    refine ⟨h2,by simp,fun y hy z hz=>?_⟩
    simp only [List.map_cons,List.map_nil,List.mem_singleton] at hz
    subst hz
    obtain ⟨x,hx,rfl⟩:=List.mem_map.1 hy
    rw [List.any_eq_false] at hany
    have:=hany x hx
    simpa using this
   ·by_cases e:j=k
    ·subst e; exact ⟨_,List.mem_append.2 (.inr (List.mem_singleton.2 rfl)),rfl⟩
    ·obtain ⟨x,hx,e⟩:=h3 j (by omega)
     exact ⟨x,List.mem_append.2 (.inl hx),e⟩
theorem bl_one {fs:List (List Nat)} {n q:Nat} (hf:∀ f∈fs,Ok f n) (hq:q<n):∀ i,i≤(bl fs ldp [(q:Int)] i).length →
  (∀ x∈bl fs ldp [(q:Int)] i,∃ y,Rea fs q y∧y<n∧x.1 = [(y:Int)])∧((bl fs ldp [(q:Int)] i).map Prod.fst).Nodup∧(∃ x∈bl fs ldp [(q:Int)] i,x.1 = [(q:Int)]) ∧
  (∀ j,(h:j<(bl fs ldp [(q:Int)] i).length)→j<i→∀ k,k<fs.length→∃ x∈bl fs ldp [(q:Int)] i,x.1=ldp (fs.getD k []) (bl fs ldp [(q:Int)] i)[j].1)
 | 0,_=>by
  have e:bl fs ldp [(q:Int)] 0 = [(([(q:Int)],[]):Met)]:=rfl
  rw [e]
  refine ⟨fun x hx=>?_,by simp,⟨_,List.mem_singleton.2 rfl,rfl⟩,fun j _ h=>by omega⟩
  simp only [List.mem_singleton] at hx; subst hx
  exact ⟨q,.here,hq,rfl⟩
 | i+1,hi1=>by
  by_cases hi:i<(bl fs ldp [(q:Int)] i).length
  ·obtain ⟨h1,h2,h3,h4⟩:=bl_one hf hq i (by omega)
   obtain ⟨g1,g2,g3,g4⟩:=adv_one hf h1 h2 (h1 _ (List.getElem_mem hi)) fs.length (Nat.le_refl _)
   obtain ⟨r,hr⟩:=advN_preE fs ldp (bl fs ldp [(q:Int)] i) (bl fs ldp [(q:Int)] i)[i] fs.length
   have e:=bl_succ (fs:=fs) (bf:=ldp) (p:=[(q:Int)]) hi
   rw [← e] at g1 g2 g3 g4 hr
   obtain ⟨x0,hx0,e0⟩:=h3
   refine ⟨g1,g2,⟨x0,g4 x0 hx0,e0⟩,fun j hj hji k hk=>?_⟩
   have hj':j<(bl fs ldp [(q:Int)] i).length:=by omega
   have ej:(bl fs ldp [(q:Int)] (i+1))[j]=(bl fs ldp [(q:Int)] i)[j]:=by
    have:(bl fs ldp [(q:Int)] (i+1))[j]? = (bl fs ldp [(q:Int)] i)[j]?:=by rw [hr,List.getElem?_append_left hj']
    rw [List.getElem?_eq_getElem hj,List.getElem?_eq_getElem hj'] at this
    exact Option.some.inj this
   rw [ej]
   by_cases e2:j=i
   ·subst e2; exact g3 k hk
   ·obtain ⟨x,hx,e3⟩:=h4 j hj' (by omega) k hk
    exact ⟨x,g4 x hx,e3⟩
  ·have e:bl fs ldp [(q:Int)] (i+1)=bl fs ldp [(q:Int)] i:=by
    rw [bl]
    have:(bl fs ldp [(q:Int)] i)[i]? = none:=List.getElem?_eq_none (Nat.le_of_not_lt hi)
    rw [this]
   rw [e] at hi1
   omega
theorem bl_all {fs:List (List Nat)} {n q:Nat} (hf:∀ f∈fs,Ok f n) (hq:q<n) {i:Nat} (hi:i=(bl fs ldp [(q:Int)] i).length) (y:Nat):Rea fs q y↔∃ x∈bl fs ldp [(q:Int)] i,x.1 = [(y:Int)]:=by
 obtain ⟨h1,_,h3,h4⟩:=bl_one hf hq i (by omega)
 constructor
 ·intro hy
  induction hy with
  | here=>exact h3
  | step f x hf' _ ih =>
   obtain ⟨z,hz,e⟩:=ih
   obtain ⟨j,hj,rfl⟩:=List.getElem_of_mem hz
   obtain ⟨k,hk,rfl⟩:=List.getElem_of_mem hf'
   obtain ⟨u,hu,e2⟩:=h4 j hj (by omega) k hk
   refine ⟨u,hu,?_⟩
   rw [e2,e]
   simp [ldp,List.getD_eq_getElem?_getD,hk]
 ·rintro ⟨x,hx,e⟩
  obtain ⟨z,hz,_,e2⟩:=h1 x hx
  rw [e] at e2
  simp only [List.cons.injEq,and_true] at e2
  have:y=z:=by omega
  rw [this]; exact hz
theorem rch_mem {fs:List (List Nat)} {n q:Nat} (hf:∀ f∈fs,Ok f n) (hq:q<n) {i:Nat} (hi:i=(bl fs ldp [(q:Int)] i).length) (x:Int):x∈rch fs q i↔∃ y,x=(y:Nat)∧Rea fs q y:=by
 obtain ⟨h1,_,_,_⟩:=bl_one hf hq i (by omega)
 unfold rch
 rw [List.take_of_length_le (by omega),List.mem_flatMap]
 constructor
 ·rintro ⟨m,hm,hx⟩
  obtain ⟨y,hy,_,e⟩:=h1 m hm
  rw [e] at hx
  simp only [List.mem_singleton] at hx
  exact ⟨y,hx,hy⟩
 ·rintro ⟨y,rfl,hy⟩
  obtain ⟨m,hm,e⟩:=(bl_all hf hq hi y).1 hy
  exact ⟨m,hm,by rw [e]; simp⟩
end
end
section
section
set_option maxRecDepth 100000
def k73_b0:KC:=(.seq (.seq (.ops [mV 6 4,oP 7 (.bin .lss (.t 6) (iC 62))])
 (.cond (.t 7) .skip (.exit 0)))
 (.seq (.block 1 (.seq (.ops [mV 10 0,mV 11 4,oP 12 (.conv .u64 (.t 11)),oP 13 (.bin .shr (.t 10) (.t 12)),oP 14 (.bin .and (.t 13) (iC 1)),oP 15 (.bin .eql (.t 14) (iC 1))])
 (.cond (.t 15) (.ops [mV 16 3,mV 17 4,oP 18 (.bsl true 2 1 [(.t 17)]),oP 19 (.app (.t 16) (.t 18) 2 1),mV 3 19]) .skip)))
 (.ops [mV 8 4,oP 9 (.bin .add (.t 8) (iC 1)),mV 4 9])))
def k73:KC:=(.seq (.ops [oP 2 (.mv (.c (.nils)))])
 (.seq (.ops [oP 5 (.bsl false 2 1 []),mV 3 5])
 (.seq (.seq (.ops [oP 4 (.mv (iC 0))])
 (.block 0 (.loop k73_b0)))
 (.seq (.ops [mV 20 3,mV 2 20])
 .ret))))
theorem e73:Ent 73 21 [18] [.t 2] k73:=ent Tryz.func73
end
section
attribute [local irreducible] ACall PCall KL
def pof (s x:Nat):List Nat:=(List.range x).filter fun i=>s.testBit i
theorem pof_succ (s x:Nat):pof s (x+1)=pof s x ++ if s.testBit x=true then [x] else []:=by
 unfold pof
 rw [List.range_succ,List.filter_append]
 congr 1
 by_cases h:s.testBit x=true <;> simp [h]
theorem pof_le (s x:Nat):(pof s x).length≤x:=by
 have:=List.length_filter_le (fun i=>s.testBit i) (List.range x)
 simpa [pof] using this
theorem p73 (s:Nat) (hs:s<2 ^ 62):Pure Tryz.prog 73 [.int .i64 s] (.list (ints ((pof s 62).map fun x:Nat=>(x:Int)))):=by
 refine e73 (by simp) fun _ _=>?_
 simp only [k73,argEnv,go_sem]
 refine KL_ind k73_b0.eq_1 (fun x:Nat=>[(0,.int .i64 s),(3,.ref 0 (pof s x).length 0 (pof s x).length),(4,.int .i64 x)]) (fun x=>[.arr (pof s x).length 2 1 (ints ((pof s x).map fun x:Nat=>(x:Int)))]) (fun x=>x≤62) (fun x=>62 - x) [0,3,4] 0 (by rfl) (by rfl) (Nat.zero_le _) fun x hx ih=>?_
 have hps:=pof_succ s x
 have hpl:=pof_le s x
 have hx61:x≤61∨x=62:=by omega
 rcases hx61 with hx61 | rfl
 ·try simp only [OpK_eq,aConv_u64 hx61,aBin_shr (show x≤63 by omega),aBin_and1 (shr_le hs),List.length_map,go_sem]
  refine ⟨fun h1=>⟨fun h2=>?_,fun h2=>?_⟩,fun h1=>absurd h1 (by omega)⟩
  ·rw [bit_one] at h2
   rw [if_pos h2] at hps
   refine ⟨⟨Nat.le_refl _,by omega⟩,by omega,ih (x+1) (by omega) (by omega) _ _ (by simp [keep,hps]) ?_⟩
   rw [hps,List.take_of_length_le (by simp)]
   simp
  ·rw [bit_one] at h2
   rw [if_neg h2,List.append_nil] at hps
   refine ⟨by omega,ih (x+1) (by omega) (by omega) _ _ (by simp [keep,hps]) ?_⟩
   rw [hps]
 ·try simp only [OpK_eq,go_sem]
  exact Kv.Fin.freeze (Imm.refn rfl (by simp)) ⟨rfl,rfl⟩
end
end
section
section
attribute [local irreducible] ACall PCall KL
theorem bl_len {fs:List (List Nat)} {n q:Nat} (hf:∀ f∈fs,Ok f n) (hq:q<n):∀ i,(bl fs ldp [(q:Int)] i).length≤n:=fun i=>by
 have key:∀ i,i≤(bl fs ldp [(q:Int)] i).length→(bl fs ldp [(q:Int)] i).length≤n:=fun i hi=>by
  obtain ⟨h1,h2,_,_⟩:=bl_one hf hq i hi
  have h3:=nodup_len n ((bl fs ldp [(q:Int)] i).map fun x=>(x.1.getD 0 0).toNat) ?_ ?_
  ·simpa using h3
  ·have e:(bl fs ldp [(q:Int)] i).map Prod.fst=((bl fs ldp [(q:Int)] i).map fun x=>(x.1.getD 0 0).toNat).map fun y:Nat=>[(y:Int)]:=by
    rw [List.map_map]
    refine List.map_congr_left fun x hx=>?_
    obtain ⟨y,_,_,e⟩:=h1 x hx
    simp [e]
   rw [e,List.nodup_iff_pairwise_ne,List.pairwise_map] at h2
   exact h2.imp fun h e=>h (by rw [e])
  ·intro x hx
   obtain ⟨m,hm,rfl⟩:=List.mem_map.1 hx
   obtain ⟨y,_,hy,e⟩:=h1 m hm
   simpa [e] using hy
 induction i with
 | zero=>exact key 0 (Nat.zero_le _)
 | succ i ih =>
  by_cases hi:i<(bl fs ldp [(q:Int)] i).length
  ·refine key (i+1) ?_
   rw [bl_succ hi]
   obtain ⟨r,hr⟩:=advN_preE fs ldp (bl fs ldp [(q:Int)] i) (bl fs ldp [(q:Int)] i)[i] fs.length
   rw [hr,List.length_append]; omega
  ·have e:bl fs ldp [(q:Int)] (i+1)=bl fs ldp [(q:Int)] i:=by
    rw [bl]
    have:(bl fs ldp [(q:Int)] i)[i]? = none:=List.getElem?_eq_none (Nat.le_of_not_lt hi)
    rw [this]
   rw [e]; exact ih
open Classical in
noncomputable def orb (fs:List (List Nat)) (q:Nat):List Nat:=(List.range 5).filter fun x=>decide (Rea fs q x)
theorem reaLt {fs:List (List Nat)} {n q y:Nat} (hf:∀ f∈fs,Ok f n) (hq:q<n) (h:Rea fs q y):y<n:=by
 cases h with
 | here=>exact hq
 | step f x hf' _=>exact (hf f hf').get' x
open Classical in
theorem orb_mem {fs:List (List Nat)} {n q:Nat} (hf:∀ f∈fs,Ok f n) (hn:n≤5) (hq:q<n) (x:Nat):x∈orb fs q↔Rea fs q x:=by
 unfold orb
 rw [List.mem_filter,List.mem_range,decide_eq_true_iff]
 exact ⟨fun h=>h.2,fun h=>⟨by have:=reaLt hf hq h; omega,h⟩⟩
open Classical in
theorem orb_asc (fs:List (List Nat)) (q:Nat):(orb fs q).Pairwise (· < ·):=List.Pairwise.filter _ List.pairwise_lt_range
open Classical in
theorem orb_len (fs:List (List Nat)) (q:Nat):(orb fs q).length≤5:=by
 have:=List.length_filter_le (fun x=>decide (Rea fs q x)) (List.range 5)
 simpa [orb] using this
theorem orb_nodup (fs:List (List Nat)) (q:Nat):(orb fs q).Nodup:=(orb_asc fs q).imp fun h=>by omega
def nz (l:List Nat):List Int:=l.map fun x:Nat=>(x:Int)
theorem nz_len (l:List Nat):(nz l).length=l.length:=List.length_map _
theorem nz_nodup {l:List Nat} (h:l.Nodup):(nz l).Nodup:=by
 rw [List.nodup_iff_pairwise_ne] at h ⊢
 rw [nz,List.pairwise_map]
 exact h.imp fun h e=>h (by omega)
theorem flatMap_nodup:∀ L:List Met,(∀ x∈L,∃ y:Nat,x.1 = [(y:Int)])→(L.map Prod.fst).Nodup→(L.flatMap Prod.fst).Nodup
 | [],_,_=>by simp
 | x :: L,h,hn=>by
  rw [List.map_cons,List.nodup_cons] at hn
  obtain ⟨y,hy⟩:=h x (by simp)
  rw [List.flatMap_cons,hy,List.singleton_append,List.nodup_cons]
  refine ⟨fun hm=>?_,flatMap_nodup L (fun z hz=>h z (List.mem_cons_of_mem _ hz)) hn.2⟩
  obtain ⟨z,hz,hm⟩:=List.mem_flatMap.1 hm
  obtain ⟨u,hu⟩:=h z (List.mem_cons_of_mem _ hz)
  rw [hu,List.mem_singleton] at hm
  exact hn.1 (List.mem_map.2 ⟨z,hz,by rw [hu,hy,hm]⟩)
theorem rch_perm {fs:List (List Nat)} {n q:Nat} (hf:∀ f∈fs,Ok f n) (hn:n≤5) (hq:q<n) {i:Nat} (hi:i=(bl fs ldp [(q:Int)] i).length):(rch fs q i).Perm (nz (orb fs q)):=by
 refine (List.perm_ext_iff_of_nodup ?_ (nz_nodup (orb_nodup fs q))).2 fun x=>?_
 ·obtain ⟨h1,h2,_,_⟩:=bl_one hf hq i (by omega)
  unfold rch
  rw [List.take_of_length_le (by omega)]
  exact flatMap_nodup _ (fun x hx=>by obtain ⟨y,_,_,e⟩:=h1 x hx; exact ⟨y,e⟩) h2
 ·rw [rch_mem hf hq hi,nz,List.mem_map]
  exact ⟨fun ⟨y,e,h⟩=>⟨y,(orb_mem hf hn hq y).2 h,e.symm⟩,fun ⟨y,h,e⟩=>⟨y,e.symm,(orb_mem hf hn hq y).1 h⟩⟩
end
end
end
section
section
attribute [local irreducible] ACall PCall KL
theorem bl_none {fs:List (List Nat)} {bf:List Nat→List Int→List Int} {p:List Int} {i:Nat} (hi:¬ i<(bl fs bf p i).length):∀ d,bl fs bf p (i+d)=bl fs bf p i
 | 0=>rfl
 | d+1=>by
  have ih:=bl_none hi d
  rw [← Nat.add_assoc,bl]
  have:(bl fs bf p (i+d))[i+d]? = none:=List.getElem?_eq_none (by rw [ih]; omega)
  rw [this]; exact ih
def ord (fs:List (List Nat)) (q:Nat):List Nat:=(bl fs ldp [(q:Int)] 5).map fun x=>(x.1.getD 0 0).toNat
theorem ord_at {fs:List (List Nat)} {n q:Nat} (hf:∀ f∈fs,Ok f n) (hn:n≤5) (hq:q<n) {i:Nat} (hi:i=(bl fs ldp [(q:Int)] i).length):bl fs ldp [(q:Int)] 5=bl fs ldp [(q:Int)] i:=by
 have h:=bl_len hf hq i
 have:=bl_none (fs:=fs) (bf:=ldp) (p:=[(q:Int)]) (i:=i) (by omega) (5 - i)
 rwa [show i+(5 - i)=5 by omega] at this
theorem bl_fin {fs:List (List Nat)} {n q:Nat} (hf:∀ f∈fs,Ok f n) (hn:n≤5) (hq:q<n):∃ i,i=(bl fs ldp [(q:Int)] i).length∧i≤5:=by
 refine Classical.byContradiction fun hno=>?_
 have:∀ i,i≤6→i≤(bl fs ldp [(q:Int)] i).length:=fun i=>by
  induction i with
  | zero=>exact fun _=>Nat.zero_le _
  | succ i ih =>
   intro h6
   have h1:=ih (by omega)
   have h2:i≠(bl fs ldp [(q:Int)] i).length:=fun e=>hno ⟨i,e,by omega⟩
   have hi:i<(bl fs ldp [(q:Int)] i).length:=by omega
   have h3:=advN_mono fs ldp (bl fs ldp [(q:Int)] i) (bl fs ldp [(q:Int)] i)[i] (Nat.zero_le fs.length)
   rw [← bl_succ hi] at h3
   have e:advN fs ldp (bl fs ldp [(q:Int)] i) (bl fs ldp [(q:Int)] i)[i] 0=bl fs ldp [(q:Int)] i:=rfl
   rw [e] at h3
   omega
 have h6:=this 6 (Nat.le_refl _)
 have:=bl_len hf hq 6
 omega
theorem rch_ord {fs:List (List Nat)} {n q:Nat} (hf:∀ f∈fs,Ok f n) (hn:n≤5) (hq:q<n) {i:Nat} (hi:i=(bl fs ldp [(q:Int)] i).length):rch fs q i=nz (ord fs q):=by
 unfold rch ord
 rw [ord_at hf hn hq hi,List.take_of_length_le (by omega)]
 obtain ⟨h1,_⟩:=bl_one hf hq i (by omega)
 generalize bl fs ldp [(q:Int)] i=L at h1
 clear hi
 induction L with
 | nil=>rfl
 | cons x L ih =>
  obtain ⟨y,_,_,e⟩:=h1 x (by simp)
  rw [List.flatMap_cons,ih fun z hz=>h1 z (by simp [hz]),e]
  simp [nz,e]
structure OrdOk (fs:List (List Nat)) (n q:Nat) (l:List Nat):Prop where
 lt:∀ x∈l,x<n
 nd:l.Nodup
 here:q∈l
 clo:∀ f∈fs,∀ x∈l,f.getD x 0∈l
 len:1≤l.length∧l.length≤5
theorem ord_ok {fs:List (List Nat)} {n q:Nat} (hf:∀ f∈fs,Ok f n) (hn:n≤5) (hq:q<n):OrdOk fs n q (ord fs q):=by
 obtain ⟨i,hi,hi5⟩:=bl_fin hf hn hq
 have hmem:∀ x:Nat,x∈ord fs q↔Rea fs q x:=fun x=>by
  have h1:=rch_mem hf hq hi (x:Int)
  rw [rch_ord hf hn hq hi,nz,List.mem_map] at h1
  constructor
  ·intro h
   obtain ⟨y,e,hy⟩:=h1.1 ⟨x,h,rfl⟩
   have:x=y:=by omega
   rw [this]; exact hy
  ·intro h
   obtain ⟨y,hy,e⟩:=h1.2 ⟨x,rfl,h⟩
   have:y=x:=by omega
   rw [← this]; exact hy
 have hp:=rch_perm hf hn hq hi
 rw [rch_ord hf hn hq hi] at hp
 have hnd:(ord fs q).Nodup:=by
  have:=hp.nodup_iff.2 (nz_nodup (orb_nodup fs q))
  rw [nz,List.Nodup,List.pairwise_map] at this
  exact this.imp fun h e=>h (by rw [e])
 have hlen:(ord fs q).length≤5:=by
  have:=hp.length_eq
  rw [nz_len,nz_len] at this
  have:=orb_len fs q
  omega
 have hq':=(hmem q).2 .here
 refine ⟨fun x hx=>reaLt hf hq ((hmem x).1 hx),hnd,hq',fun f hff x hx=>(hmem _).2 (.step f x hff ((hmem x).1 hx)),?_,hlen⟩
 cases h:ord fs q with
 | nil=>rw [h] at hq'; cases hq'
 | cons a l=>simp
end
end
section
section
set_option maxRecDepth 100000
def k77:KC:=(.seq (.ops [oP 4 (.mv (.c (.bool false)))])
 (.seq (.ops [mV 5 0,mV 6 1,oP 7 (.call (fC 84) [(.t 5),(.t 6)]),oP 8 (.bin .geq (.t 7) (iC 0)),mV 4 8])
 .ret))
theorem e77:Ent 77 9 [] [.t 4] k77:=ent Tryz.func77
end
section
attribute [local irreducible] ACall PCall KL
theorem p77 (l:List Int) (k:Int) (hl:l.length≤1048576):Pure Tryz.prog 77 [.list (ints l),.int .i64 k] (.bool (decide (k∈l))):=by
 refine e77 (by simp) fun _ _=>?_
 simp only [k77,argEnv,go_sem]
 refine (p84 l k hl).go ?_
 try simp only [OpK_eq,HKv,go_sem]
 refine Kv.Fin.still ⟨?_,rfl⟩
 congr 1
 cases hany:l.any (fun y=>decide (k=y)) with
 | false =>
  rw [idx_none hany,decide_eq_false (by omega),decide_eq_false]
  intro h
  rw [List.any_eq_false] at hany
  exact hany k h (by simp)
 | true =>
  obtain ⟨i0,hi0,hno,hyes⟩:=any_split hany
  rw [idx_some hi0 hno hyes,decide_eq_true (by omega),decide_eq_true]
  have:k=l[i0]:=by simpa using hyes
  rw [this]; exact List.getElem_mem _
end
end
section
section
set_option maxRecDepth 100000
def k69:KC:=(.seq (.ops [oP 4 (.mv (.c (.bool false)))])
 (.seq (.ops [mV 5 1,mV 6 0,oP 7 (.idxS 6 (.t 6) (iC 0)),oP 8 (.fieldA 0 (.t 7)),oP 9 (.load false 1 (.t 8)),oP 10 (.bin .sub (.t 9) (iC 1)),oP 11 (.call (fC 80) [(.t 5),(iC 0),(.t 10)]),mV 4 11])
 .ret))
theorem e69:Ent 69 12 [] [.t 4] k69:=ent Tryz.func69
def k46:KC:=(.seq (.ops [oP 1 (.box true (.t 0)),oP 2 (.mv (.c (.bool false)))])
 (.seq (.draw [oP 3 (.fieldA 0 (.t 1)),oP 4 (.load false 1 (.t 3)),oP 5 (.pcall (fC 118) [(.t 4),(.c (.nils))]),oP 6 (.bin .eql (.t 5) (iC 0)),mV 7 6,⟨(some 8),some (7,true),.fieldA 0 (.t 1)⟩,⟨(some 9),some (7,true),.load false 1 (.t 8)⟩,⟨(some 10),some (7,true),.fieldA 1 (.t 1)⟩,⟨(some 11),some (7,true),.load false 1 (.t 10)⟩,⟨(some 12),some (7,true),.pcall (fC 69) [(.t 9),(.t 11)]⟩,oP 13 (.pick (.t 7) (.t 12) (.c (.bool false))),mV 14 13,⟨(some 15),some (14,true),.fieldA 2 (.t 1)⟩,⟨(some 16),some (14,true),.load false 1 (.t 15)⟩,⟨(some 17),some (14,true),.fieldA 0 (.t 1)⟩,⟨(some 18),some (14,true),.load false 1 (.t 17)⟩,⟨(some 19),some (14,true),.idxS 6 (.t 18) (iC 0)⟩,⟨(some 20),some (14,true),.fieldA 0 (.t 19)⟩,⟨(some 21),some (14,true),.load false 1 (.t 20)⟩,⟨(some 22),some (14,true),.pcall (fC 119) [(.t 16),(.t 21)]⟩,oP 23 (.pick (.t 14) (.t 22) (.c (.bool false))),mV 2 23])
 .ret))
theorem e46:Ent 46 24 [1] [.t 2] k46:=ent Tryz.func46
def k50:KC:=(.seq (.ops [oP 4 (.mv (.c (.bool false)))])
 (.seq (.ops [mV 5 0,oP 6 (.nilck (.t 5)),oP 7 (.fieldA 2 (.t 6)),oP 8 (.load false 1 (.t 7)),mV 9 1,oP 10 (.call (fC 77) [(.t 8),(.t 9)]),mV 4 10])
 .ret))
theorem e50:Ent 50 11 [] [.t 4] k50:=ent Tryz.func50
def k128_b0:KC:=(.seq (.seq (.ops [mV 6 5,mV 7 0,oP 8 (.len false (.t 7)),oP 9 (.bin .lss (.t 6) (.t 8))])
 (.cond (.t 9) .skip (.exit 0)))
 (.seq (.block 1 (.seq (.draw [mV 12 0,mV 13 5,oP 14 (.idxS 1 (.t 12) (.t 13)),oP 15 (.load false 1 (.t 14)),mV 16 1,oP 17 (.bin .sub (.t 16) (iC 1)),oP 18 (.pcall (fC 71) [(.t 15),(iC 0),(.t 17)]),oP 19 (.not (.t 18)),mV 20 19,⟨(some 21),some (20,false),.mv (.t 5)⟩,⟨(some 22),some (20,false),.bin .gtr (.t 21) (iC 0)⟩,⟨(some 23),some (20,false),.mv (.t 22)⟩,⟨(some 24),some (23,true),.mv (.t 0)⟩,⟨(some 25),some (23,true),.mv (.t 5)⟩,⟨(some 26),some (23,true),.idxS 1 (.t 24) (.t 25)⟩,⟨(some 27),some (23,true),.load false 1 (.t 26)⟩,⟨(some 28),some (23,true),.mv (.t 0)⟩,⟨(some 29),some (23,true),.mv (.t 5)⟩,⟨(some 30),some (23,true),.bin .sub (.t 29) (iC 1)⟩,⟨(some 31),some (23,true),.idxS 1 (.t 28) (.t 30)⟩,⟨(some 32),some (23,true),.load false 1 (.t 31)⟩,⟨(some 33),some (23,true),.bin .leq (.t 27) (.t 32)⟩,⟨(some 34),some (20,false),.pick (.t 23) (.t 33) (.c (.bool false))⟩,oP 35 (.pick (.t 20) (.c (.bool true)) (.t 34))])
 (.cond (.t 35) (.seq (.ops [oP 4 (.mv (.c (.bool false)))])
 .ret) .skip)))
 (.ops [mV 10 5,oP 11 (.bin .add (.t 10) (iC 1)),mV 5 11])))
def k128:KC:=(.seq (.ops [oP 4 (.mv (.c (.bool false)))])
 (.seq (.seq (.ops [oP 5 (.mv (iC 0))])
 (.block 0 (.loop k128_b0)))
 (.seq (.ops [oP 4 (.mv (.c (.bool true)))])
 .ret)))
theorem e128:Ent 128 36 [] [.t 4] k128:=ent Tryz.func128
def k57:KC:=(.seq (.ops [oP 1 (.box true (.t 0)),oP 2 (.mv (.c (.bool false)))])
 (.seq (.draw [oP 3 (.fieldA 0 (.t 1)),oP 4 (.load false 1 (.t 3)),oP 5 (.pcall (fC 127) [(.t 4)]),mV 6 5,⟨(some 7),some (6,true),.fieldA 1 (.t 1)⟩,⟨(some 8),some (6,true),.load false 1 (.t 7)⟩,⟨(some 9),some (6,true),.fieldA 0 (.t 1)⟩,⟨(some 10),some (6,true),.load false 1 (.t 9)⟩,⟨(some 11),some (6,true),.idxS 6 (.t 10) (iC 0)⟩,⟨(some 12),some (6,true),.fieldA 0 (.t 11)⟩,⟨(some 13),some (6,true),.load false 1 (.t 12)⟩,⟨(some 14),some (6,true),.bin .sub (.t 13) (iC 1)⟩,⟨(some 15),some (6,true),.pcall (fC 71) [(.t 8),(iC 0),(.t 14)]⟩,oP 16 (.pick (.t 6) (.t 15) (.c (.bool false))),mV 17 16,⟨(some 18),some (17,true),.fieldA 2 (.t 1)⟩,⟨(some 19),some (17,true),.load false 1 (.t 18)⟩,⟨(some 20),some (17,true),.fieldA 0 (.t 1)⟩,⟨(some 21),some (17,true),.load false 1 (.t 20)⟩,⟨(some 22),some (17,true),.idxS 6 (.t 21) (iC 0)⟩,⟨(some 23),some (17,true),.fieldA 0 (.t 22)⟩,⟨(some 24),some (17,true),.load false 1 (.t 23)⟩,⟨(some 25),some (17,true),.pcall (fC 128) [(.t 19),(.t 24)]⟩,oP 26 (.pick (.t 17) (.t 25) (.c (.bool false))),mV 2 26])
 .ret))
theorem e57:Ent 57 27 [1] [.t 2] k57:=ent Tryz.func57
def k116:KC:=(.seq (.ops [oP 2 (.box true (.t 0)),oP 4 (.mv (.c (.bool false)))])
 (.seq (.ops [oP 5 (.fieldA 2 (.t 2)),oP 6 (.load false 1 (.t 5)),oP 7 (.call (fC 112) [(.t 6)]),mV 8 1,oP 9 (.conv .u64 (.t 8)),oP 10 (.bin .shr (.t 7) (.t 9)),oP 11 (.bin .and (.t 10) (iC 1)),oP 12 (.bin .eql (.t 11) (iC 1)),mV 4 12])
 .ret))
theorem e116:Ent 116 13 [2] [.t 4] k116:=ent Tryz.func116
end
section
attribute [local irreducible] ACall PCall KL
theorem subC3 (a b c:PV):subC [a,b,c] 0 3 = [a,b,c]:=by unfold subC; first | rfl | (split <;> rfl) | simp
theorem putC3 (a b c x y z:PV):putC [a,b,c] 0 [x,y,z] = [x,y,z]:=by unfold putC; first | rfl | (split <;> rfl) | simp
theorem mpD0 {fs:List (List Nat)} {n:Nat} (hf:∀ f∈fs,Ok f n) (h0:0<fs.length):(fs.map mp).getD 0 []=mp fs[0]∧(mp fs[0]).getD 0 0=(n:Int)∧(mp fs[0]).length=6:=by
 have hk:=hf _ (List.getElem_mem h0)
 exact ⟨by simp [List.getD_eq_getElem?_getD,h0],by rw [mp,hk.len]; rfl,hk.mp_len⟩
theorem p69 (fs:List (List Nat)) (n:Nat) (hf:∀ f∈fs,Ok f n) (h0:0<fs.length) (q:Int):Pure Tryz.prog 69 [.list (aggs (fs.map mp)),.int .i64 q] (.bool (decide (0≤q∧q≤(n:Int) - 1))):=by
 obtain ⟨e1,e2,e3⟩:=mpD0 hf h0
 have hn5:=(hf _ (List.getElem_mem h0)).le
 have hn1:=(hf _ (List.getElem_mem h0)).pos
 refine e69 (by simp) fun _ _=>?_
 simp only [k69,argEnv,e1,e2,e3,go_sem]
 try simp only [OpK_eq,e1,e2,e3,List.length_map,go_sem]
 refine ⟨by omega,fun _=>⟨by omega,?_⟩⟩
 refine (p80 _ _ _).go ?_
 try simp only [go_sem]
 exact Kv.Fin.still ⟨rfl,rfl⟩
theorem p46_no (M:List (List Int)) (q:Int) (L:List Int) (ha:M.length≤1048576) (h6:∀ r∈M,r.length=6) (hc:lcode M []≠0):Pure Tryz.prog 46 [.agg [.list (aggs M),.int .i64 q,.list (ints L)]] (.bool false):=by
 refine e46 (by simp) fun _ _=>?_
 simp only [k46,argEnv,go_sem]
 try simp only [OpK_eq,HKv,subC3,go_sem]
 refine (p118 _ M [] .nil ha (by simp) h6 (by simp)).pgo ?_
 try simp only [OpK_eq,HKv,go_sem]
 refine ⟨fun h=>absurd h hc,fun _=>Kv.Fin.still ⟨rfl,rfl⟩⟩
theorem p46 (fs:List (List Nat)) (n:Nat) (hf:∀ f∈fs,Ok f n) (h0:0<fs.length) (hfl:fs.length≤6) (hl:lcode (fs.map mp) []=0) (q:Int) (L:List Int) (hL:L.length≤1048576):Pure Tryz.prog 46 [.agg [.list (aggs (fs.map mp)),.int .i64 q,.list (ints L)]] (.bool (decide (0≤q∧q≤(n:Int) - 1) && stB L n)):=by
 obtain ⟨e1,e2,e3⟩:=mpD0 hf h0
 have hn5:=(hf _ (List.getElem_mem h0)).le
 have hn1:=(hf _ (List.getElem_mem h0)).pos
 have h6:∀ r∈fs.map mp,r.length=6:=fun r hr=>by obtain ⟨f,hf',rfl⟩:=List.mem_map.1 hr; exact (hf f hf').mp_len
 refine e46 (by simp) fun _ _=>?_
 simp only [k46,argEnv,go_sem]
 try simp only [OpK_eq,HKv,subC3,go_sem]
 refine (p118 _ (fs.map mp) [] .nil (by simp; omega) (by simp) h6 (by simp)).pgo ?_
 rw [hl]
 try simp only [OpK_eq,HKv,go_sem]
 refine (p69 fs n hf h0 q).pgo ?_
 cases hd:decide (0≤q∧q≤(n:Int) - 1) with
 | false =>
  try simp only [OpK_eq,HKv,go_sem]
  exact Kv.Fin.still ⟨rfl,rfl⟩
 | true =>
  try simp only [OpK_eq,HKv,e1,e2,e3,List.length_map,go_sem]
  refine ⟨by omega,fun _=>?_⟩
  refine (p119 L n hL (by omega)).pgo ?_
  try simp only [OpK_eq,HKv,go_sem]
  exact Kv.Fin.still ⟨by simp,rfl⟩
theorem p128 (l:List Int) (n:Int) (hl:l.length≤1048576) (hn:1≤n∧n≤5):Pure Tryz.prog 128 [.list (ints l),.int .i64 n] (.bool (stB l n)):=by
 refine e128 (by simp) fun _ _=>?_
 simp only [k128,argEnv,go_sem]
 refine KL_ind k128_b0.eq_1 (fun x:Nat=>[(0,.list (ints l)),(1,.int .i64 n),(5,.int .i64 x)]) (fun _=>[]) (fun x=>x≤l.length∧(List.range x).all (stp l n)=true) (fun x=>l.length - x) [0,1,5] 0 (by rfl) rfl ⟨Nat.zero_le _,rfl⟩ fun x ⟨hx,hall⟩ ih=>?_
 have hx1:((x:Int) - 1).toNat=x - 1:=by omega
 have hra:=range_all_succ (stp l n) x
 rw [hall,Bool.true_and] at hra
 have hst:stp l n x=(decide (0≤l.getD x 0∧l.getD x 0≤n - 1) && (decide (x=0) || decide (l.getD (x - 1) 0<l.getD x 0))):=rfl
 try simp only [OpK_eq,HKv,go_sem]
 refine ⟨fun h1=>?_,fun h1=>?_⟩
 ·have hxl:x<l.length:=by omega
  refine ⟨h1,fun _=>⟨by omega,?_⟩⟩
  refine (p71 _ _ _).pgo ?_
  generalize decide (0≤l.getD x 0∧l.getD x 0≤n - 1)=b1 at *
  cases b1 with
  | false =>
   rw [Bool.false_and] at hst
   have hf:stB l n=false:=range_all_false hxl hst
   rw [hf]
   try simp only [OpK_eq,HKv,go_sem]
   exact Kv.Fin.still ⟨rfl,rfl⟩
  | true =>
   rw [Bool.true_and] at hst
   try simp only [OpK_eq,HKv,hx1,go_sem]
   refine ⟨fun h2=>⟨by omega,fun _=>⟨by omega,by omega,fun _=>⟨fun h3=>?_,fun h3=>⟨by omega,?_⟩⟩⟩⟩,fun h2=>⟨by omega,?_⟩⟩
   ·refine Kv.Fin.still ⟨by rw [stB,range_all_false hxl]; rw [hst,decide_eq_false (by omega:¬ x=0),decide_eq_false (by omega)]; rfl,rfl⟩
   ·refine ih (x+1) ⟨by omega,?_⟩ (by omega) _ _ (by rfl) rfl
    rw [hra,hst,decide_eq_true (by omega:l.getD (x - 1) 0<l.getD x 0),Bool.or_true]
   ·refine ih (x+1) ⟨by omega,?_⟩ (by omega) _ _ (by rfl) rfl
    rw [hra,hst,decide_eq_true (by omega:x=0),Bool.true_or]
 ·obtain rfl:x=l.length:=by omega
  exact Kv.Fin.still ⟨by rw [show stB l n=true from hall],rfl⟩
theorem same_lcode (M:List (List Int)):same M=decide (lcode M []=0):=by
 rw [lcode_eq]
 cases hs:same M with
 | false =>
  by_cases h1:M.all isM=false
  ·rw [if_pos h1]; rfl
  ·rw [if_neg h1]; simp
 | true =>
  have h1:M.all isM=true:=by
   rw [List.all_eq_true]
   intro r hr
   unfold same at hs
   rw [Bool.and_eq_true,List.all_eq_true] at hs
   have:=hs.2 r hr
   rw [Bool.and_eq_true] at this
   exact this.1
  rw [h1]; simp
theorem p57_no (M:List (List Int)) (q:Int) (L:List Int) (ha:M.length≤1048576) (h6:∀ r∈M,r.length=6) (hc:lcode M []≠0):Pure Tryz.prog 57 [.agg [.list (aggs M),.int .i64 q,.list (ints L)]] (.bool false):=by
 refine e57 (by simp) fun _ _=>?_
 simp only [k57,argEnv,go_sem]
 try simp only [OpK_eq,HKv,subC3,go_sem]
 refine (p127 M ha h6).pgo ?_
 rw [same_lcode,decide_eq_false hc]
 try simp only [OpK_eq,HKv,go_sem]
 exact Kv.Fin.still ⟨rfl,rfl⟩
theorem p57 (fs:List (List Nat)) (n:Nat) (hf:∀ f∈fs,Ok f n) (h0:0<fs.length) (hfl:fs.length≤6) (hl:lcode (fs.map mp) []=0) (q:Int) (L:List Int) (hL:L.length≤1048576):Pure Tryz.prog 57 [.agg [.list (aggs (fs.map mp)),.int .i64 q,.list (ints L)]] (.bool (decide (0≤q∧q≤(n:Int) - 1) && stB L n)):=by
 obtain ⟨e1,e2,e3⟩:=mpD0 hf h0
 have hn5:=(hf _ (List.getElem_mem h0)).le
 have hn1:=(hf _ (List.getElem_mem h0)).pos
 have h6:∀ r∈fs.map mp,r.length=6:=fun r hr=>by obtain ⟨f,hf',rfl⟩:=List.mem_map.1 hr; exact (hf f hf').mp_len
 refine e57 (by simp) fun _ _=>?_
 simp only [k57,argEnv,go_sem]
 try simp only [OpK_eq,HKv,subC3,go_sem]
 refine (p127 (fs.map mp) (by simp; omega) h6).pgo ?_
 rw [same_lcode,decide_eq_true hl]
 try simp only [OpK_eq,HKv,e1,e2,e3,List.length_map,go_sem]
 refine ⟨by omega,fun _=>⟨by omega,?_⟩⟩
 refine (p71 _ _ _).pgo ?_
 cases hd:decide (0≤q∧q≤(n:Int) - 1) with
 | false =>
  try simp only [OpK_eq,HKv,go_sem]
  exact Kv.Fin.still ⟨rfl,rfl⟩
 | true =>
  try simp only [OpK_eq,HKv,e1,e2,e3,List.length_map,go_sem]
  refine ⟨by omega,fun _=>?_⟩
  refine (p128 L n hL (by omega)).pgo ?_
  try simp only [OpK_eq,HKv,go_sem]
  exact Kv.Fin.still ⟨by simp,rfl⟩
theorem p50 (m q:PV) [Still m] [Still q] (la:List Nat) (hL:la.length≤1048576) (p:Nat):Pure Tryz.prog 50 [.fptr [m,q,.list (ints (nz la))] 0,.int .i64 p] (.bool (decide (p∈la))):=by
 refine e50 (by simp) fun _ _=>?_
 simp only [k50,argEnv,go_sem]
 try simp only [OpK_eq,HKv,go_sem]
 refine (p77 (nz la) p (by rw [nz_len]; omega)).go ?_
 try simp only [OpK_eq,HKv,go_sem]
 refine Kv.Fin.still ⟨?_,rfl⟩
 congr 1
 refine decide_eq_decide.2 ?_
 rw [nz,List.mem_map]
 exact ⟨fun ⟨y,hy,e⟩=>by
  obtain rfl:y=p:=by omega
  exact hy,fun h=>⟨p,h,rfl⟩⟩
theorem p116 (M:List (List Int)) (q:Int) (la:List Nat) (hla:∀ x∈la,x<5) (hL:la.length≤1048576) (p:Nat) (hp:p<5):Pure Tryz.prog 116 [.agg [.list (aggs M),.int .i64 q,.list (ints (nz la))],.int .i64 p] (.bool (decide (p∈la))):=by
 have hb:sb la<2 ^ 62:=Nat.lt_trans (sb_lt hla) (by decide)
 refine e116 (by simp) fun _ _=>?_
 simp only [k116,argEnv,go_sem]
 try simp only [OpK_eq,HKv,subC3,go_sem]
 have hB:=p112 la hla hL
 change Pure _ _ [.list (ints (nz la))] _ at hB
 refine hB.go ?_
 try simp only [OpK_eq,HKv,aConv_u64 (show p≤61 by omega),aBin_shr (show p≤63 by omega),aBin_and1 (shr_le hb),go_sem]
 refine Kv.Fin.still ⟨?_,rfl⟩
 congr 1
 refine decide_eq_decide.2 ?_
 rw [bit_one,sb_test,decide_eq_true_iff]
end
end
section
section
set_option maxRecDepth 100000
def k135_b0:KC:=(.seq (.seq (.ops [mV 21 6,oP 22 (.fieldA 0 (.t 1)),oP 23 (.load false 1 (.t 22)),oP 24 (.len false (.t 23)),oP 25 (.bin .lss (.t 21) (.t 24))])
 (.cond (.t 25) .skip (.exit 2)))
 (.seq (.block 3 (.seq (.draw [oP 28 (.fieldA 0 (.t 1)),oP 29 (.load false 1 (.t 28)),mV 30 6,mV 31 3,mV 32 5,oP 33 (.idxS 1 (.t 31) (.t 32)),oP 34 (.load false 1 (.t 33)),oP 35 (.idxS 6 (.t 29) (.t 30)),oP 36 (.fieldA 1 (.t 35)),oP 37 (.idxA 5 1 (.t 36) (.t 34)),oP 38 (.load false 1 (.t 37)),mV 7 38])
 (.seq (.ops [mV 39 4,mV 40 7,oP 41 (.conv .u64 (.t 40)),oP 42 (.bin .shr (.t 39) (.t 41)),oP 43 (.bin .and (.t 42) (iC 1)),oP 44 (.bin .eql (.t 43) (iC 0))])
 (.cond (.t 44) (.seq (.ops [mV 45 4,mV 46 7,oP 47 (.conv .u64 (.t 46)),oP 48 (.bin .shl (iC 1) (.t 47)),oP 49 (.bin .or (.t 45) (.t 48)),mV 4 49])
 (.ops [mV 50 3,mV 51 7,oP 52 (.bsl true 2 1 [(.t 51)]),oP 53 (.app (.t 50) (.t 52) 2 1),mV 3 53])) .skip))))
 (.ops [mV 26 6,oP 27 (.bin .add (.t 26) (iC 1)),mV 6 27])))
def k135_b1:KC:=(.seq (.seq (.ops [mV 15 5,mV 16 3,oP 17 (.len false (.t 16)),oP 18 (.bin .lss (.t 15) (.t 17))])
 (.cond (.t 18) .skip (.exit 0)))
 (.seq (.block 1 (.seq (.ops [oP 6 (.mv (iC 0))])
 (.block 2 (.loop k135_b0))))
 (.ops [mV 19 5,oP 20 (.bin .add (.t 19) (iC 1)),mV 5 20])))
def k135:KC:=(.seq (.ops [oP 1 (.box true (.t 0)),oP 2 (.mv (.c (.nils)))])
 (.seq (.tree (.op (oP 8 (.fieldA 1 (.t 1))) (.op (oP 9 (.load false 1 (.t 8))) (.op (oP 11 (.fieldA 1 (.t 1))) (.op (oP 12 (.load false 1 (.t 11))) (.op (oP 13 (.conv .u64 (.t 12))) (.op (oP 14 (.bin .shl (iC 1) (.t 13))) (.op (oP 10 (.bsl false 2 1 [(.t 9)])) (.op (mV 3 10) (.op (mV 4 14) .fin))))))))))
 (.seq (.seq (.ops [oP 5 (.mv (iC 0))])
 (.block 0 (.loop k135_b1)))
 (.seq (.ops [mV 54 3,mV 2 54])
 .ret))))
theorem e135:Ent 135 55 [1,52] [.t 2] k135:=ent Tryz.func135
end
section
attribute [local irreducible] ACall PCall KL
def pl (L:List Met):List Nat:=L.map fun x=>(x.1.getD 0 0).toNat
theorem pl_len (L:List Met):(pl L).length=L.length:=List.length_map _
theorem pl_snoc (L:List Met) (x:Met):pl (L ++ [x])=pl L ++ [(x.1.getD 0 0).toNat]:=by simp [pl]
theorem p135 (fs:List (List Nat)) (n:Nat) (hf:∀ f∈fs,Ok f n) (hn5:n≤5) (hfl:fs.length≤1000) (q:Nat) (hq:q<n) (W:List Int) :
  Pure Tryz.prog 135 [.agg [.list (aggs (fs.map mp)),.int .i64 q,.list (ints W)]] (.list (ints (nz (ord fs q)))):=by
 have hq61:q≤61:=by omega
 have hb1:(2 ^ q:Nat)=sb [q]:=by simp [sb]
 have hbl:=bl_len hf hq
 have hone:=bl_one hf hq
 have hord:=@ord_at fs n q hf hn5 hq
 have hS0:bl fs ldp [(q:Int)] 0 = [(([(q:Int)],[]):Met)]:=rfl
 have hSs:∀ i (h:i<(bl fs ldp [(q:Int)] i).length),bl fs ldp [(q:Int)] (i+1)=advN fs ldp (bl fs ldp [(q:Int)] i) (bl fs ldp [(q:Int)] i)[i] fs.length:=fun i h=>bl_succ h
 have hordd:ord fs q=pl (bl fs ldp [(q:Int)] 5):=rfl
 generalize bl fs ldp [(q:Int)]=S at *
 have hsb:∀ m:List Nat,(∀ y∈m,y<n)→sb m<2 ^ 62:=fun m hm=>Nat.lt_trans (sb_lt (n:=5) fun y hy=>by have:=hm y hy; omega) (by decide)
 refine e135 (by simp) fun _ _=>?_
 simp only [k135,argEnv,aConv_u64 hq61,aBin_shl1 hq61,go_sem]
 try simp only [OpK_eq,HKv,subC3,aConv_u64 hq61,aBin_shl1 hq61,List.cons_append,List.nil_append,go_sem]
 rw [hb1]
 refine KL_ind k135_b1.eq_1 (fun x:Nat=>[(1,.fptr [.list (aggs (fs.map mp)),.int .i64 q,.list (ints W)] 0),(3,.ref 0 ((S x).length - 1) 0 (S x).length),(4,.int .i64 (sb (pl (S x)))),(5,.int .i64 x)]) (fun x=>[.arr ((S x).length - 1) 2 1 (ints (nz (pl (S x))))]) (fun x=>x≤(S x).length) (fun x=>6 - x) [1,3,4,5] 0 (by simp [keep,hS0,pl]) (by rw [hS0]; simp [pl,nz,ints]) (Nat.zero_le _) fun i hi ih=>?_
 have hli:=hbl i
 obtain ⟨hall,hnd,_,_⟩:=hone i hi
 have hpln:(nz (pl (S i))).length=(S i).length:=by rw [nz_len,pl_len]
 try simp only [OpK_eq,HKv,hpln,go_sem]
 refine ⟨fun h2=>?_,fun h2=>?_⟩
 ·have hil:i<(S i).length:=by omega
  have hSi:=hSs i hil
  have ham:=hall _ (List.getElem_mem hil)
  generalize hm:(S i)[i]=m at *
  obtain ⟨y,hy,hyn,hmy⟩:=ham
  have hadv:=fun k hk=>adv_one hf hall hnd ⟨y,hy,hyn,hmy⟩ k hk
  have hadvB:∀ k,k≤fs.length→(advN fs ldp (S i) m k).length≤5:=fun k hk=>by
   have e1:=advN_mono fs ldp (S i) m hk
   have e2:=hbl (i+1)
   rw [hSi] at e2
   omega
  refine KL_ind k135_b0.eq_1 (fun k:Nat=>[(1,.fptr [.list (aggs (fs.map mp)),.int .i64 q,.list (ints W)] 0),(3,.ref 0 ((advN fs ldp (S i) m k).length - 1) 0 (advN fs ldp (S i) m k).length),(4,.int .i64 (sb (pl (advN fs ldp (S i) m k)))),(5,.int .i64 i),(6,.int .i64 k)]) (fun k=>[.arr ((advN fs ldp (S i) m k).length - 1) 2 1 (ints (nz (pl (advN fs ldp (S i) m k))))]) (fun k=>k≤fs.length) (fun k=>fs.length - k) [1,3,4,5,6] 0 (by rfl) rfl (Nat.zero_le _) fun k hk ihk=>?_
  obtain ⟨gall,gnd,_,_⟩:=hadv k hk
  have hlenB:=hadvB k hk
  have hsucc:=advN_succ fs ldp (S i) m k
  obtain ⟨r,hpre⟩:=advN_preE fs ldp (S i) m k
  generalize hL:advN fs ldp (S i) m k=L at *
  have hiL:i<L.length:=by rw [hpre,List.length_append]; omega
  have hLi:L[i]=m:=by
   have:L[i]? = some m:=by rw [hpre,List.getElem?_append_left hil,List.getElem?_eq_getElem hil,hm]
   rw [List.getElem?_eq_getElem hiL] at this
   exact Option.some.inj this
  have hgs:(nz (pl L)).getD i 0=(y:Int):=by simp [nz,pl,List.getD_eq_getElem?_getD,hiL,hLi,hmy]
  have hpL:(nz (pl L)).length=L.length:=by rw [nz_len,pl_len]
  have hpn:∀ z∈pl L,z<n:=fun z hz=>by
   obtain ⟨x,hx,rfl⟩:=List.mem_map.1 hz
   obtain ⟨u,_,hu,e⟩:=gall x hx
   simpa [e] using hu
  try simp only [OpK_eq,HKv,List.length_map,go_sem]
  refine ⟨fun h3=>?_,fun h3=>?_⟩
  ·have hkl:k<fs.length:=by omega
   have hfk:=hf _ (List.getElem_mem hkl)
   have h6k:=hfk.mp_len
   have hgk:(fs.map mp).getD k []=mp fs[k]:=by simp [List.getD_eq_getElem?_getD,hkl]
   have hgf:fs.getD k []=fs[k]:=by simp [List.getD_eq_getElem?_getD,hkl]
   rw [hgk]
   have hz:=hfk.get' y
   have hld:ldp (fs.getD k []) m.1 = [((fs[k].getD y 0:Nat):Int)]:=by rw [hgf,hmy]; simp [ldp]
   have hany:(L.any fun x=>decide (x.1=ldp (fs.getD k []) m.1))=decide (fs[k].getD y 0∈pl L):=by
    rw [hld,Bool.eq_iff_iff,List.any_eq_true,decide_eq_true_iff,pl,List.mem_map]
    constructor
    ·rintro ⟨x,hx,e⟩
     exact ⟨x,hx,by rw [of_decide_eq_true e]; simp⟩
    ·rintro ⟨x,hx,e⟩
     obtain ⟨u,_,_,e2⟩:=gall x hx
     refine ⟨x,hx,decide_eq_true ?_⟩
     rw [e2] at e ⊢
     have e:u=fs[k].getD y 0:=by simpa using e
     rw [e]
   rw [hany,hld] at hsucc
   have hyt:(y:Int).toNat=y:=by omega
   have hz61:fs[k].getD y 0≤61:=by omega
   have hzp:2 ^ (fs[k].getD y 0)<2 ^ 62:=Nat.pow_lt_pow_right (by decide) (by omega)
   have hsL:=hsb _ hpn
   have hor:=fun K=>aBin_or (K:=K) hsL hzp
   have hbit:(((sb (pl L) >>> (fs[k].getD y 0) &&& 1:Nat):Int)=0)↔fs[k].getD y 0 ∉ pl L:=by
    have h1:=bit_one (s:=sb (pl L)) (q:=fs[k].getD y 0)
    rw [sb_test,decide_eq_true_iff] at h1
    have h2:sb (pl L) >>> (fs[k].getD y 0) &&& 1<2:=by rw [Nat.and_one_is_mod]; omega
    constructor
    ·intro h hm
     have:=h1.mpr hm
     omega
    ·intro h
     have:¬ ((sb (pl L) >>> (fs[k].getD y 0) &&& 1:Nat):Int)=1:=fun e=>h (h1.mp e)
     omega
   have hsb2:sb (pl L) ||| 2 ^ (fs[k].getD y 0)=sb (pl L ++ [fs[k].getD y 0]):=by
    rw [← sb_app]; congr 1; simp [sb]
   have hz62:fs[k].getD y 0<9223372036854775808:=by omega
   have hz63:fs[k].getD y 0≤63:=by omega
   try simp only [OpK_eq,HKv,h6k,hpL,hgs,hyt,aConv_u64 hz61,aWrap_u64 hz62,aBin_shr hz63,aBin_and1 (shr_le hsL),aBin_shl1 hz61,hor,go_sem]
   refine ⟨⟨by omega,Nat.le_refl _⟩,hiL,fun _=>⟨by omega,fun _=>⟨by omega,by omega,fun _=>?_⟩⟩⟩
   try simp only [OpK_eq,HKv,aConv_u64 hz61,aWrap_u64 hz62,aBin_shr hz63,aBin_and1 (shr_le hsL),aBin_shl1 hz61,hor,hsb2,hpL,go_sem]
   have hLp:1≤L.length:=by omega
   refine ⟨fun h=>⟨⟨Nat.le_refl _,by omega⟩,by omega,?_⟩,fun h=>⟨by omega,?_⟩⟩
   ·have hnm:=hbit.mp h
    rw [decide_eq_false hnm,if_neg (by simp)] at hsucc
    refine ihk (k+1) (by omega) (by omega) _ _ ?_ ?_
    ·rw [hsucc]; simp [keep,pl_snoc]; omega
    ·rw [hsucc,List.take_of_length_le (by omega),pl_snoc,List.length_append,List.length_singleton,Nat.add_sub_cancel,Nat.sub_add_cancel hLp]
     simp [nz]
   ·have hmm:fs[k].getD y 0∈pl L:=Classical.byContradiction fun hn=>h (hbit.mpr hn)
    rw [decide_eq_true hmm,if_pos rfl] at hsucc
    exact ihk (k+1) (by omega) (by omega) _ _ (by rw [hsucc]; simp [keep]) (by rw [hsucc])
  ·have hke:k=fs.length:=by omega
   subst hke
   try simp only [OpK_eq,HKv,go_sem]
   refine ⟨by omega,ih (i+1) ?_ (by omega) _ _ ?_ ?_⟩
   ·rw [hSi,hL]; omega
   ·simp [keep,hSi,hL]
   ·rw [hSi,hL]
 ·have hie:i=(S i).length:=by omega
  rw [hordd,hord hie]
  exact Kv.Fin.freeze (Imm.refn rfl hpln.symm) ⟨rfl,rfl⟩
end
end
section
section
attribute [local irreducible] ACall PCall KL
structure NmF (same:Nat→Nat→Bool) (i:Nat):Prop where
 one:∀ (c f:Nat),(nmB same i).1[c]? = some f→f<i∧(nmB same i).2.getD f 0=c∧∀ j,j<f→(nmB same i).2.getD j 0≠c
 lt:∀ j,j<i→(nmB same i).2.getD j 0<(nmB same i).1.length
 len:(nmB same i).2.length=i
 le:(nmB same i).1.length≤i
theorem nm_first (same:Nat→Nat→Bool):∀ i,NmF same i
 | 0=>⟨fun c f h=>by simp [nmB] at h,fun j h=>by omega,rfl,Nat.le_refl _⟩
 | i+1=>by
  obtain ⟨h1,h2,h3,h4⟩:=nm_first same i
  have hl:∀ (c j:Nat),j<i→((nmB same i).2 ++ [c]).getD j 0=(nmB same i).2.getD j 0:=fun c j hj=>by
   rw [List.getD_eq_getElem?_getD,List.getD_eq_getElem?_getD,List.getElem?_append_left (by omega)]
  have hr:∀ c:Nat,((nmB same i).2 ++ [c]).getD i 0=c:=fun c=>by
   rw [List.getD_eq_getElem?_getD,List.getElem?_append_right (by omega),h3]; simp
  cases hf:(nmB same i).1.findIdx? fun f=>same f i with
  | some c =>
   have eB:nmB same (i+1)=((nmB same i).1,(nmB same i).2 ++ [c]):=by rw [nmB,hf]
   obtain ⟨c1,_,_⟩:=List.findIdx?_eq_some_iff_getElem.1 hf
   refine ⟨?_,?_,?_,?_⟩ <;> rw [eB]
   ·intro d f h
    obtain ⟨g1,g2,g3⟩:=h1 d f h
    exact ⟨by omega,by rw [← g2]; exact hl c f g1,fun j hj=>by
     have:=g3 j hj
     rw [← hl c j (by omega)] at this; exact this⟩
   ·intro j hj
    by_cases e:j=i
    ·subst e; show ((nmB same j).2 ++ [c]).getD j 0<_; rw [hr]; exact c1
    ·show ((nmB same i).2 ++ [c]).getD j 0<_; rw [hl c j (by omega)]; exact h2 j (by omega)
   ·simp [h3]
   ·show (nmB same i).1.length≤i+1; omega
  | none =>
   have eB:nmB same (i+1)=((nmB same i).1 ++ [i],(nmB same i).2 ++ [(nmB same i).1.length]):=by rw [nmB,hf]
   refine ⟨?_,?_,?_,?_⟩ <;> rw [eB]
   ·intro d f h
    have h:((nmB same i).1 ++ [i])[d]? = some f:=h
    show f<i+1∧((nmB same i).2 ++ [(nmB same i).1.length]).getD f 0=d∧∀ j,j<f→((nmB same i).2 ++ [(nmB same i).1.length]).getD j 0≠d
    by_cases hd:d<(nmB same i).1.length
    ·rw [List.getElem?_append_left hd] at h
     obtain ⟨g1,g2,g3⟩:=h1 d f h
     exact ⟨by omega,by rw [hl _ f g1]; exact g2,fun j hj=>by rw [hl _ j (by omega)]; exact g3 j hj⟩
    ·have hlt:=(List.getElem?_eq_some_iff.1 h).1
     rw [List.length_append,List.length_singleton] at hlt
     obtain rfl:d=(nmB same i).1.length:=by omega
     rw [List.getElem?_append_right (Nat.le_refl _),Nat.sub_self] at h
     simp only [List.getElem?_cons_zero,Option.some.injEq] at h
     subst h
     exact ⟨by omega,hr _,fun j hj=>by rw [hl _ j hj]; have:=h2 j hj; omega⟩
   ·intro j hj
    show ((nmB same i).2 ++ [(nmB same i).1.length]).getD j 0<((nmB same i).1 ++ [i]).length
    rw [List.length_append,List.length_singleton]
    by_cases e:j=i
    ·subst e; rw [hr]; omega
    ·rw [hl _ j (by omega)]; have:=h2 j (by omega); omega
   ·simp [h3]
   ·rw [List.length_append,List.length_singleton]; omega
noncomputable def kF (fs:List (List Nat)) (la:List Nat) (q:Nat):List Nat:=(clsB fs la (ord fs q)).1
noncomputable def kN (fs:List (List Nat)) (la:List Nat) (q:Nat):List Nat:=(clsB fs la (ord fs q)).2
theorem kcl_first (fs:List (List Nat)) (la:List Nat) (q:Nat):NmF (fun i k=>smB fs la ((ord fs q).getD i 0) ((ord fs q).getD k 0)) (ord fs q).length:=nm_first _ _
theorem kN_len (fs:List (List Nat)) (la:List Nat) (q:Nat):(kN fs la q).length=(ord fs q).length:=(kcl_first fs la q).len
theorem kF_le (fs:List (List Nat)) (la:List Nat) (q:Nat):(kF fs la q).length≤(ord fs q).length:=(kcl_first fs la q).le
theorem kF_one {fs:List (List Nat)} {la:List Nat} {q c:Nat} (h:c<(kF fs la q).length):(kF fs la q)[c]<(ord fs q).length∧(kN fs la q).getD (kF fs la q)[c] 0=c∧∀ j,j<(kF fs la q)[c]→(kN fs la q).getD j 0≠c:=(kcl_first fs la q).one c _ (List.getElem?_eq_getElem h)
theorem kN_lt {fs:List (List Nat)} {la:List Nat} {q j:Nat} (h:j<(ord fs q).length):(kN fs la q).getD j 0<(kF fs la q).length:=(kcl_first fs la q).lt j h
theorem kF_pos {fs:List (List Nat)} {la:List Nat} {q:Nat} (h:1≤(ord fs q).length):1≤(kF fs la q).length:=by
 have:=kN_lt (fs:=fs) (la:=la) (q:=q) (j:=0) (by omega); omega
noncomputable def lsM (fs:List (List Nat)) (la:List Nat) (q:Nat):List (List Nat):=fs.map fun f=>(kF fs la q).map fun i=>(kN fs la q).getD ((ord fs q).idxOf (f.getD ((ord fs q).getD i 0) 0)) 0
theorem lsM_ok {fs:List (List Nat)} {n q:Nat} (la:List Nat) (hf:∀ f∈fs,Ok f n) (hn:n≤5) (hq:q<n):∀ g∈lsM fs la q,Ok g (kF fs la q).length:=fun g hg=>by
 obtain ⟨f,hff,rfl⟩:=List.mem_map.1 hg
 obtain ⟨_,_,_,o4,o5,o6⟩:=ord_ok hf hn hq
 have h1:=kF_pos (la:=la) o5
 have h2:=kF_le fs la q
 refine ⟨by simp,h1,by omega,fun x hx=>?_⟩
 obtain ⟨i,hi,rfl⟩:=List.mem_map.1 hx
 refine kN_lt (List.idxOf_lt_length_iff.2 (o4 f hff _ ?_))
 obtain ⟨c,hc,rfl⟩:=List.getElem_of_mem hi
 have:=(kF_one hc).1
 rw [List.getD_eq_getElem?_getD,List.getElem?_eq_getElem this]
 exact List.getElem_mem this
theorem idx_nz {l:List Nat} {k:Nat}:idx (fun y=>decide ((k:Int)=y)) (nz l)=if k∈l then (l.idxOf k:Int) else -1:=by
 by_cases h:k∈l
 ·rw [if_pos h]
  have hlt:=List.idxOf_lt_length_iff.2 h
  refine idx_some (x:=l.idxOf k) (by rw [nz_len]; exact hlt) ?_ ?_
  ·rw [List.any_eq_false]
   intro y hy
   rw [nz,← List.map_take] at hy
   obtain ⟨z,hz,rfl⟩:=List.mem_map.1 hy
   simp only [decide_eq_true_eq]
   intro e
   have:k=z:=by omega
   subst this
   obtain ⟨j,hj,e2⟩:=List.getElem_of_mem hz
   rw [List.length_take] at hj
   rw [List.getElem_take] at e2
   have:=List.not_of_lt_findIdx (p:=(· == k)) (xs:=l) (i:=j) (by
    show j<l.idxOf k; omega)
   simp [e2] at this
  ·simp only [nz,List.getElem_map,decide_eq_true_eq]
   rw [List.getElem_idxOf]
 ·rw [if_neg h]
  refine idx_none ?_
  rw [List.any_eq_false]
  intro y hy
  obtain ⟨z,hz,rfl⟩:=List.mem_map.1 hy
  simp only [decide_eq_true_eq]
  intro e
  have:k=z:=by omega
  subst this
  exact h hz
theorem kN_idx {fs:List (List Nat)} {la:List Nat} {q c:Nat} (h:c<(kF fs la q).length):c∈kN fs la q∧(kN fs la q).idxOf c=(kF fs la q)[c]:=by
 obtain ⟨h1,h2,h3⟩:=kF_one h
 have hl:=kN_len fs la q
 have hlt:(kF fs la q)[c]<(kN fs la q).length:=by omega
 have e:(kN fs la q)[(kF fs la q)[c]]=c:=by
  rw [List.getD_eq_getElem?_getD,List.getElem?_eq_getElem hlt] at h2; exact h2
 have hm:c∈kN fs la q:=by
  have:=List.getElem_mem hlt
  rwa [e] at this
 refine ⟨hm,?_⟩
 have hil:=List.idxOf_lt_length_iff.2 hm
 have hie:=List.getElem_idxOf hil
 rcases Nat.lt_trichotomy ((kN fs la q).idxOf c) (kF fs la q)[c] with h4 | h4 | h4
 ·have:=h3 _ h4
  rw [List.getD_eq_getElem?_getD,List.getElem?_eq_getElem hil] at this
  exact absurd hie this
 ·exact h4
 ·have:=List.not_of_lt_findIdx (p:=(· == c)) (xs:=kN fs la q) (i:=(kF fs la q)[c]) h4
  simp [e] at this
theorem kN_max {fs:List (List Nat)} {la:List Nat} {q:Nat} (h:1≤(ord fs q).length):mxl (nz (kN fs la q))+1=(kF fs la q).length:=by
 have h1:=kF_pos (la:=la) h
 have hle:mxl (nz (kN fs la q))≤((kF fs la q).length:Int) - 1:=mxl_le (fun k hk=>by
  obtain ⟨z,hz,rfl⟩:=List.mem_map.1 hk
  obtain ⟨j,hj,e⟩:=List.getElem_of_mem hz
  have:=kN_lt (fs:=fs) (la:=la) (q:=q) (j:=j) (by rw [← kN_len fs la q]; exact hj)
  rw [List.getD_eq_getElem?_getD,List.getElem?_eq_getElem hj] at this
  simp only [Option.getD_some] at this
  omega) (by omega)
 have hm:=(kN_idx (fs:=fs) (la:=la) (q:=q) (c:=(kF fs la q).length - 1) (by omega)).1
 have hge:=(foldl_max_ge (nz (kN fs la q)) (-1)).2 (((kF fs la q).length - 1:Nat):Int) (List.mem_map.2 ⟨_,hm,rfl⟩)
 have e:mxl (nz (kN fs la q))=(nz (kN fs la q)).foldl max (-1):=rfl
 rw [← e] at hge
 omega
end
end
end Go.Proofs.YtcfmmmloeaggmaaGreat
