/- Several texts of this session as one, less what the claim does not need. -/
import Derived.Test.YtcfmmmloeaggmaaGreatCb
import Derived.Test.YtcfmmmloeaggmaaGreatZ7
import Derived.Test.YtcfmmmloeaggmaaGreatZ6
import Derived.Test.YtcfmmmloeaggmaaGreatZ5
namespace Go.Proofs.YtcfmmmloeaggmaaGreat
open Go.Kv
set_option linter.unusedVariables false
set_option linter.unusedSimpArgs false
section
section
set_option maxRecDepth 100000
def k154_b0:KC:=(.seq (.seq (.ops [mV 7 6,mV 8 0,oP 9 (.len false (.t 8)),oP 10 (.bin .lss (.t 7) (.t 9))])
 (.cond (.t 10) .skip (.exit 0)))
 (.seq (.block 1 (.seq (.ops [mV 13 0,mV 14 6,oP 15 (.idxS 1 (.t 13) (.t 14)),oP 16 (.load false 1 (.t 15)),mV 17 2,oP 18 (.bin .eql (.t 16) (.t 17))])
 (.cond (.t 18) (.ops [mV 19 0,mV 20 6,mV 21 1,oP 22 (.idxS 1 (.t 19) (.t 20)),⟨none,none,.store 1 (.t 22) (.t 21)⟩]) .skip)))
 (.ops [mV 11 6,oP 12 (.bin .add (.t 11) (iC 1)),mV 6 12])))
def k154:KC:=(.seq (.ops [oP 6 (.mv (iC 0))])
 (.block 0 (.loop k154_b0)))
theorem e154:Ent 154 23 [] [] k154:=ent Tryz.func154
def k155_b0:KC:=(.seq (.seq (.ops [mV 15 7,mV 16 5,oP 17 (.bin .lss (.t 15) (.t 16)),mV 18 17,⟨(some 19),some (18,true),.mv (.t 6)⟩,⟨(some 20),some (18,true),.bin .lss (.t 19) (iC 0)⟩,oP 21 (.pick (.t 18) (.t 20) (.c (.bool false)))])
 (.cond (.t 21) .skip (.exit 2)))
 (.seq (.block 3 (.seq (.draw [mV 24 0,mV 25 7,oP 26 (.idxS 1 (.t 24) (.t 25)),oP 27 (.load false 1 (.t 26)),mV 28 0,mV 29 5,oP 30 (.idxS 1 (.t 28) (.t 29)),oP 31 (.load false 1 (.t 30)),oP 32 (.bin .eql (.t 27) (.t 31))])
 (.cond (.t 32) (.ops [mV 33 3,mV 34 7,oP 35 (.idxS 1 (.t 33) (.t 34)),oP 36 (.load false 1 (.t 35)),mV 6 36]) .skip)))
 (.ops [mV 22 7,oP 23 (.bin .add (.t 22) (iC 1)),mV 7 23])))
def k155_b1:KC:=(.seq (.seq (.ops [mV 9 5,mV 10 0,oP 11 (.len false (.t 10)),oP 12 (.bin .lss (.t 9) (.t 11))])
 (.cond (.t 12) .skip (.exit 0)))
 (.seq (.block 1 (.seq (.ops [oP 6 (.mv (iC (-1)))])
 (.seq (.seq (.ops [oP 7 (.mv (iC 0))])
 (.block 2 (.loop k155_b0)))
 (.seq (.seq (.ops [mV 37 6,oP 38 (.bin .lss (.t 37) (iC 0))])
 (.cond (.t 38) (.seq (.ops [mV 39 4,mV 6 39])
 (.ops [mV 40 4,oP 41 (.bin .add (.t 40) (iC 1)),mV 4 41])) .skip))
 (.ops [mV 42 3,mV 43 6,oP 44 (.bsl true 2 1 [(.t 43)]),oP 45 (.app (.t 42) (.t 44) 2 1),mV 3 45])))))
 (.ops [mV 13 5,oP 14 (.bin .add (.t 13) (iC 1)),mV 5 14])))
def k155:KC:=(.seq (.ops [oP 2 (.mv (.c (.nils)))])
 (.seq (.ops [oP 8 (.bsl false 2 1 []),mV 3 8,oP 4 (.mv (iC 0))])
 (.seq (.seq (.ops [oP 5 (.mv (iC 0))])
 (.block 0 (.loop k155_b1)))
 (.seq (.ops [mV 46 3,mV 2 46])
 .ret))))
theorem e155:Ent 155 47 [44] [.t 2] k155:=ent Tryz.func155
def k100_b0:KC:=(.seq (.seq (.ops [mV 6 4,mV 7 0,oP 8 (.bin .lss (.t 6) (.t 7))])
 (.cond (.t 8) .skip (.exit 0)))
 (.seq (.block 1 (.ops [mV 11 3,mV 12 4,oP 13 (.bsl true 2 1 [(.t 12)]),oP 14 (.app (.t 11) (.t 13) 2 1),mV 3 14]))
 (.ops [mV 9 4,oP 10 (.bin .add (.t 9) (iC 1)),mV 4 10])))
def k100:KC:=(.seq (.ops [oP 2 (.mv (.c (.nils)))])
 (.seq (.ops [oP 5 (.bsl false 2 1 []),mV 3 5])
 (.seq (.seq (.ops [oP 4 (.mv (iC 0))])
 (.block 0 (.loop k100_b0)))
 (.seq (.ops [mV 15 3,mV 2 15])
 .ret))))
theorem e100:Ent 100 16 [13] [.t 2] k100:=ent Tryz.func100
def k86_b0:KC:=(.seq (.seq (.ops [mV 6 5,mV 7 0,oP 8 (.len false (.t 7)),oP 9 (.bin .lss (.t 6) (.t 8))])
 (.cond (.t 9) .skip (.exit 0)))
 (.seq (.block 1 (.seq (.draw [mV 12 0,mV 13 5,oP 14 (.idxS 1 (.t 12) (.t 13)),oP 15 (.load false 1 (.t 14)),mV 16 1,mV 17 5,oP 18 (.idxS 1 (.t 16) (.t 17)),oP 19 (.load false 1 (.t 18)),oP 20 (.bin .neq (.t 15) (.t 19))])
 (.cond (.t 20) (.seq (.ops [oP 4 (.mv (.c (.bool false)))])
 .ret) .skip)))
 (.ops [mV 10 5,oP 11 (.bin .add (.t 10) (iC 1)),mV 5 11])))
def k86:KC:=(.seq (.ops [oP 4 (.mv (.c (.bool false)))])
 (.seq (.seq (.ops [oP 5 (.mv (iC 0))])
 (.block 0 (.loop k86_b0)))
 (.seq (.ops [oP 4 (.mv (.c (.bool true)))])
 .ret)))
theorem e86:Ent 86 21 [] [.t 4] k86:=ent Tryz.func86
def k87_b0:KC:=(.seq (.seq (.ops [mV 34 10,mV 35 0,oP 36 (.len false (.t 35)),oP 37 (.bin .lss (.t 34) (.t 36))])
 (.cond (.t 37) .skip (.exit 6)))
 (.seq (.block 7 (.seq (.seq (.draw [mV 40 1,mV 41 0,mV 42 8,oP 43 (.idxS 1 (.t 41) (.t 42)),oP 44 (.load false 1 (.t 43)),mV 45 10,oP 46 (.idxS 1 (.t 44) (.t 45)),oP 47 (.load false 1 (.t 46)),oP 48 (.idxS 1 (.t 40) (.t 47)),oP 49 (.load false 1 (.t 48)),mV 50 1,mV 51 0,mV 52 9,oP 53 (.idxS 1 (.t 51) (.t 52)),oP 54 (.load false 1 (.t 53)),mV 55 10,oP 56 (.idxS 1 (.t 54) (.t 55)),oP 57 (.load false 1 (.t 56)),oP 58 (.idxS 1 (.t 50) (.t 57)),oP 59 (.load false 1 (.t 58)),oP 60 (.bin .neq (.t 49) (.t 59))])
 (.cond (.t 60) (.seq (.draw [mV 61 1,mV 62 1,mV 63 0,mV 64 8,oP 65 (.idxS 1 (.t 63) (.t 64)),oP 66 (.load false 1 (.t 65)),mV 67 10,oP 68 (.idxS 1 (.t 66) (.t 67)),oP 69 (.load false 1 (.t 68)),oP 70 (.idxS 1 (.t 62) (.t 69)),oP 71 (.load false 1 (.t 70)),mV 72 1,mV 73 0,mV 74 9,oP 75 (.idxS 1 (.t 73) (.t 74)),oP 76 (.load false 1 (.t 75)),mV 77 10,oP 78 (.idxS 1 (.t 76) (.t 77)),oP 79 (.load false 1 (.t 78)),oP 80 (.idxS 1 (.t 72) (.t 79)),oP 81 (.load false 1 (.t 80)),oP 82 (.call (fC 154) [(.t 61),(.t 71),(.t 81)])])
 (.ops [oP 7 (.mv (.c (.bool true)))])) .skip))
 (.seq (.draw [mV 83 2,mV 84 83,⟨(some 85),some (84,true),.mv (.t 1)⟩,⟨(some 86),some (84,true),.mv (.t 0)⟩,⟨(some 87),some (84,true),.mv (.t 10)⟩,⟨(some 88),some (84,true),.idxS 1 (.t 86) (.t 87)⟩,⟨(some 89),some (84,true),.load false 1 (.t 88)⟩,⟨(some 90),some (84,true),.mv (.t 8)⟩,⟨(some 91),some (84,true),.idxS 1 (.t 89) (.t 90)⟩,⟨(some 92),some (84,true),.load false 1 (.t 91)⟩,⟨(some 93),some (84,true),.idxS 1 (.t 85) (.t 92)⟩,⟨(some 94),some (84,true),.load false 1 (.t 93)⟩,⟨(some 95),some (84,true),.mv (.t 1)⟩,⟨(some 96),some (84,true),.mv (.t 0)⟩,⟨(some 97),some (84,true),.mv (.t 10)⟩,⟨(some 98),some (84,true),.idxS 1 (.t 96) (.t 97)⟩,⟨(some 99),some (84,true),.load false 1 (.t 98)⟩,⟨(some 100),some (84,true),.mv (.t 9)⟩,⟨(some 101),some (84,true),.idxS 1 (.t 99) (.t 100)⟩,⟨(some 102),some (84,true),.load false 1 (.t 101)⟩,⟨(some 103),some (84,true),.idxS 1 (.t 95) (.t 102)⟩,⟨(some 104),some (84,true),.load false 1 (.t 103)⟩,⟨(some 105),some (84,true),.bin .neq (.t 94) (.t 104)⟩,oP 106 (.pick (.t 84) (.t 105) (.c (.bool false)))])
 (.cond (.t 106) (.seq (.draw [mV 107 1,mV 108 1,mV 109 0,mV 110 10,oP 111 (.idxS 1 (.t 109) (.t 110)),oP 112 (.load false 1 (.t 111)),mV 113 8,oP 114 (.idxS 1 (.t 112) (.t 113)),oP 115 (.load false 1 (.t 114)),oP 116 (.idxS 1 (.t 108) (.t 115)),oP 117 (.load false 1 (.t 116)),mV 118 1,mV 119 0,mV 120 10,oP 121 (.idxS 1 (.t 119) (.t 120)),oP 122 (.load false 1 (.t 121)),mV 123 9,oP 124 (.idxS 1 (.t 122) (.t 123)),oP 125 (.load false 1 (.t 124)),oP 126 (.idxS 1 (.t 118) (.t 125)),oP 127 (.load false 1 (.t 126)),oP 128 (.call (fC 154) [(.t 107),(.t 117),(.t 127)])])
 (.ops [oP 7 (.mv (.c (.bool true)))])) .skip))))
 (.ops [mV 38 10,oP 39 (.bin .add (.t 38) (iC 1)),mV 10 39])))
def k87_b1:KC:=(.seq (.seq (.ops [mV 20 9,mV 21 8,oP 22 (.bin .lss (.t 20) (.t 21))])
 (.cond (.t 22) .skip (.exit 4)))
 (.seq (.block 5 (.seq (.seq (.draw [mV 25 1,mV 26 8,oP 27 (.idxS 1 (.t 25) (.t 26)),oP 28 (.load false 1 (.t 27)),mV 29 1,mV 30 9,oP 31 (.idxS 1 (.t 29) (.t 30)),oP 32 (.load false 1 (.t 31)),oP 33 (.bin .neq (.t 28) (.t 32))])
 (.cond (.t 33) (.exit 5) .skip))
 (.seq (.ops [oP 10 (.mv (iC 0))])
 (.block 6 (.loop k87_b0)))))
 (.ops [mV 23 9,oP 24 (.bin .add (.t 23) (iC 1)),mV 9 24])))
def k87_b2:KC:=(.seq (.seq (.ops [mV 14 8,mV 15 0,oP 16 (.len false (.t 15)),oP 17 (.bin .lss (.t 14) (.t 16))])
 (.cond (.t 17) .skip (.exit 2)))
 (.seq (.block 3 (.seq (.ops [oP 9 (.mv (iC 0))])
 (.block 4 (.loop k87_b1))))
 (.ops [mV 18 8,oP 19 (.bin .add (.t 18) (iC 1)),mV 8 19])))
def k87_b3:KC:=(.seq (.seq (.ops [mV 13 7])
 (.cond (.t 13) .skip (.exit 0)))
 (.block 1 (.seq (.ops [oP 7 (.mv (.c (.bool false)))])
 (.seq (.ops [oP 8 (.mv (iC 0))])
 (.block 2 (.loop k87_b2))))))
def k87:KC:=(.seq (.ops [oP 6 (.mv (.c (.nils)))])
 (.seq (.ops [mV 11 1,oP 12 (.call (fC 117) [(.t 11)]),mV 1 12])
 (.seq (.seq (.ops [oP 7 (.mv (.c (.bool true)))])
 (.block 0 (.loop k87_b3)))
 (.seq (.ops [mV 129 1,oP 130 (.call (fC 155) [(.t 129)]),mV 6 130])
 .ret))))
theorem e87 {args:List PV} {σ:Heap} {K:PV→Heap→Prop} (hl:args.length≤131) (h:Wf σ→(∀ a∈args,PV.upto σ.length a)→vc (mkCfgR Tryz.prog mixed [] 131 σ.length) k87 (FinK σ.length [.t 6] K) (argEnv 0 args) σ):ACall Tryz.prog 87 args σ K :=
 ACall_enter (C:=mkCfgR Tryz.prog mixed [] 131 σ.length) (c:=Tryz.f87.body.getD .skip) Tryz.func87 (by kernel_rfl) (by kernel_rfl) (by kernel_rfl) rfl hl (by kernel_rfl) (by kernel_rfl) h
end
section
attribute [local irreducible] ACall PCall KL
attribute [local go_sem] OpK_eq HKv
theorem ints_setU (m:List Int) (o:Nat) (v:Int):(ints m).set o (.int .i64 v)=ints (m.set o v):=by simp [ints,List.map_set]
theorem jn_step (r:List Int) (p q:Int) {i:Nat} (h:i<r.length):(jnC (r.take i) p q ++ r.drop i).getD i 0=r[i]∧(r[i]=q→(jnC (r.take i) p q ++ r.drop i).set i p=jnC (r.take (i+1)) p q ++ r.drop (i+1))∧(r[i]≠q→jnC (r.take i) p q ++ r.drop i=jnC (r.take (i+1)) p q ++ r.drop (i+1)):=by
 have hl:(jnC (r.take i) p q).length=i:=by rw [jnC_len,List.length_take]; omega
 have e1:r.drop i=r[i] :: r.drop (i+1):=List.drop_eq_getElem_cons h
 have e2:jnC (r.take (i+1)) p q=jnC (r.take i) p q ++ [if r[i]=q then p else r[i]]:=by
  rw [List.take_succ_eq_append_getElem h]; simp only [jnC,List.map_append,List.map_cons,List.map_nil]
 refine ⟨?_,fun e=>?_,fun e=>?_⟩
 ·rw [List.getD_eq_getElem?_getD,List.getElem?_append_right (by omega),hl,Nat.sub_self,e1]; rfl
 ·rw [e2,if_pos e,List.set_append_right _ _ (by omega),hl,Nat.sub_self,e1,List.set_cons_zero,List.append_assoc]; rfl
 ·rw [e2,if_neg e,e1,List.append_assoc]; rfl
theorem p154 {σ:Heap} {id ver:Nat} (r:List Int) (hid:σ[id]? = some (.arr ver 2 1 (ints r))) (hl:r.length≤1000) (p q:Int) {n:Nat} (hn:n=r.length) {K:PV→Heap→Prop} (hK:K (.tup []) (σ.set id (.arr ver 2 1 (ints (jnC r p q))))):ACall Tryz.prog 154 [.ref id ver 0 n,.int .i64 p,.int .i64 q] σ K:=by
 subst hn
 have hlt:=(List.getElem?_eq_some_iff.1 hid).1
 have hself:∀ o,(σ.set id o)[id]? = some o:=fun o=>List.getElem?_set_self hlt
 have hset:∀ o o',(σ.set id o).set id o' = σ.set id o':=fun o o'=>List.set_set ..
 have h0:σ = σ.set id (.arr ver 2 1 (ints (jnC (r.take 0) p q ++ r.drop 0))):=by
  have:jnC (r.take 0) p q ++ r.drop 0=r:=by simp [jnC]
  rw [this,← (List.getElem?_eq_some_iff.1 hid).2]; exact (List.set_getElem_self _).symm
 refine e154 (by simp) fun _ _=>?_
 simp only [k154,argEnv,go_sem]
 refine KL_ind k154_b0.eq_1 (fun x:Nat=>[(0,.ref id ver 0 r.length),(1,.int .i64 p),(2,.int .i64 q),(6,.int .i64 x)]) (fun x=>σ.set id (.arr ver 2 1 (ints (jnC (r.take x) p q ++ r.drop x)))) (fun x=>x≤r.length) (fun x=>r.length - x) [0,1,2,6] 0 (by simp [keep]) h0 (Nat.zero_le _) fun x hx ih=>?_
 have hll:(jnC (r.take x) p q ++ r.drop x).length=r.length:=by rw [List.length_append,jnC_len,List.length_take,List.length_drop]; omega
 try simp only [hself,hset,ints_setU,ints_length,hll,go_sem]
 refine ⟨fun g1=>?_,fun g1=>?_⟩
 ·have hxl:x<r.length:=by omega
  obtain ⟨j1,j2,j3⟩:=jn_step r p q hxl
  rw [j1]
  refine ⟨by omega,hxl,fun _=>⟨fun g2=>?_,fun g2=>?_⟩⟩
  ·rw [j2 g2]
   exact ⟨⟨by omega,Nat.le_refl _⟩,hxl,fun _=>⟨by omega,ih (x+1) (by omega) (by omega) _ _ (by simp [keep]) rfl⟩⟩
  ·exact ⟨by omega,ih (x+1) (by omega) (by omega) _ _ (by simp [keep]) (by rw [j3 g2])⟩
 ·obtain rfl:x=r.length:=by omega
  rw [List.take_length,List.drop_length,List.append_nil]
  exact Kv.Fin.now hK
theorem p155 (r:List Int) (hl:r.length≤1000):Pure Tryz.prog 155 [.list (ints r)] (.list (ints (nz (nmC r)))):=by
 unfold nmC
 refine e155 (by simp) fun _ _=>?_
 simp only [k155,argEnv,go_sem]
 refine KL_ind k155_b1.eq_1 (fun x:Nat=>[(0,.list (ints r)),(3,.ref 0 x 0 x),(4,.int .i64 (nmA (fun i k=>decide (r.getD i 0=r.getD k 0)) x).2),(5,.int .i64 x)]) (fun x=>[.arr x 2 1 (ints (nz (nmA (fun i k=>decide (r.getD i 0=r.getD k 0)) x).1))]) (fun x=>x≤r.length) (fun x=>r.length - x) [0,3,4,5] 0 (by simp [keep,nmA]) (by simp [nmA,ints,nz]) (Nat.zero_le _) fun x hx ih=>?_
 obtain ⟨f1,f2⟩:=nmA_facts (fun i k=>decide (r.getD i 0=r.getD k 0)) x
 have hs1:=fun k=>nmA_some (same:=fun i k=>decide (r.getD i 0=r.getD k 0)) (x:=x) (k:=k)
 have hs2:=nmA_none (same:=fun i k=>decide (r.getD i 0=r.getD k 0)) (x:=x)
 have hle:=nmA_lt (fun i k=>decide (r.getD i 0=r.getD k 0)) x
 generalize hN:nmA (fun i k=>decide (r.getD i 0=r.getD k 0)) x=N at *
 obtain ⟨a,nx⟩:=N
 simp only at f1 f2 hle hs1 hs2 ⊢
 try simp only [go_sem]
 refine ⟨fun g1=>?_,fun g1=>?_⟩
 ·have hxl:x<r.length:=by omega
  refine KL_ind k155_b0.eq_1 (fun y:Nat × Int=>[(0,.list (ints r)),(3,.ref 0 x 0 x),(4,.int .i64 nx),(5,.int .i64 x),(6,.int .i64 y.2),(7,.int .i64 y.1)]) (fun _=>[.arr x 2 1 (ints (nz a))]) (fun y=>y.1≤x∧((y.2 = -1∧∀ j,j<y.1→¬ r.getD j 0=r.getD x 0)∨∃ j,y.2=(a.getD j 0:Int)∧(List.range x).find? (fun k=>decide (r.getD k 0=r.getD x 0))=some j)) (fun y=>x - y.1) [0,3,4,5,6,7] (0,-1) (by simp [keep]) rfl ⟨Nat.zero_le _,.inl ⟨rfl,fun j hj=>by omega⟩⟩ fun ⟨k,own⟩ ⟨hk,ho⟩ ihk=>?_
  simp only at hk ho
  have haD:∀ j,(nz a).getD j 0=(a.getD j 0:Int):=fun j=>nzD a j
  have hal:(nz a).length=x:=by rw [nz_len]; exact f1
  rcases ho with ⟨rfl,hno⟩ | ⟨j,rfl,hj⟩
  ·have hm1:decide ((-1:Int)<0)=true:=by decide
   have htk:List.take x (nz a)=nz a:=List.take_of_length_le (by omega)
   try simp only [hm1,haD,hal,go_sem]
   refine ⟨fun g2=>⟨by omega,fun _=>⟨by omega,fun _=>⟨fun g3=>⟨⟨by omega,Nat.le_refl _⟩,by omega,fun _=>⟨by omega,ihk (k+1,(a.getD k 0:Int)) ⟨by show k+1≤x; omega,.inr ⟨k,rfl,?_⟩⟩ (by show x - (k+1)<x - k; omega) _ _ (by simp [keep]) rfl⟩⟩,fun g3=>⟨by omega,ihk (k+1,-1) ⟨by show k+1≤x; omega,.inl ⟨rfl,fun j hj=>?_⟩⟩ (by show x - (k+1)<x - k; omega) _ _ (by simp [keep]) rfl⟩⟩⟩⟩,fun g2=>?_⟩
   ·rw [List.find?_range_eq_some]
    exact ⟨decide_eq_true g3,List.mem_range.2 (by omega),fun j hj=>by simpa using hno j hj⟩
   ·by_cases e:j=k
    ·subst e; exact g3
    ·exact hno j (by have:j<k+1:=hj; omega)
   ·obtain rfl:k=x:=by omega
    have e:=hs2 (List.find?_eq_none.2 fun j hj=>by simpa using hno j (List.mem_range.1 hj))
    refine ⟨by omega,⟨Nat.le_refl _,by omega⟩,by omega,ih (k+1) (by omega) (by omega) _ _ (by rw [e]; simp [keep]) ?_⟩
    rw [e,htk]
    simp [nz]
  ·have hm1:decide ((a.getD j 0:Int)<0)=false:=decide_eq_false (by omega)
   have htk:List.take x (nz a)=nz a:=List.take_of_length_le (by omega)
   have e:=hs1 j hj
   try simp only [hm1,haD,hal,go_sem]
   refine ⟨fun _=>⟨⟨Nat.le_refl _,by omega⟩,by omega,ih (x+1) (by omega) (by omega) _ _ (by rw [e]; simp [keep]) ?_⟩,fun _=>⟨⟨Nat.le_refl _,by omega⟩,by omega,ih (x+1) (by omega) (by omega) _ _ (by rw [e]; simp [keep]) ?_⟩⟩
   ·rw [e,htk]; simp [nz]
   ·rw [e,htk]; simp [nz]
 ·obtain rfl:x=r.length:=by omega
  rw [hN]
  exact Kv.Fin.freeze (Imm.refn rfl (by rw [nz_len]; exact f1.symm)) ⟨rfl,rfl⟩
theorem p100 (m:Nat) (hm:m≤1000):ACall Tryz.prog 100 [.int .i64 m] [] fun v s=>v = .ref 0 m 0 m∧s = [.arr m 2 1 (ints (nz (List.range m)))]:=by
 refine e100 (by simp) fun _ _=>?_
 simp only [k100,argEnv,go_sem]
 refine KL_ind k100_b0.eq_1 (fun x:Nat=>[(0,.int .i64 m),(3,.ref 0 x 0 x),(4,.int .i64 x)]) (fun x=>[.arr x 2 1 (ints (nz (List.range x)))]) (fun x=>x≤m) (fun x=>m - x) [0,3,4] 0 (by simp [keep]) rfl (Nat.zero_le _) fun x hx ih=>?_
 have hrl:(nz (List.range x)).length=x:=by simp [nz]
 try simp only [hrl,go_sem]
 refine ⟨fun g1=>?_,fun g1=>?_⟩
 ·refine ⟨⟨Nat.le_refl _,by omega⟩,by omega,ih (x+1) (by omega) (by omega) _ _ (by simp [keep]) ?_⟩
  rw [List.take_of_length_le (by omega),List.range_succ]
  simp [nz]
 ·obtain rfl:x=m:=by omega
  exact Kv.Fin.now ⟨rfl,rfl⟩
theorem p86 (a b:List Int) (hab:a.length=b.length) (hl:a.length≤1000):Pure Tryz.prog 86 [.list (ints a),.list (ints b)] (.bool (decide (a=b))):=by
 refine e86 (by simp) fun _ _=>?_
 simp only [k86,argEnv,go_sem]
 refine KL_ind k86_b0.eq_1 (fun x:Nat=>[(0,.list (ints a)),(1,.list (ints b)),(5,.int .i64 x)]) (fun _=>[]) (fun x=>x≤a.length∧∀ j,j<x→a.getD j 0=b.getD j 0) (fun x=>a.length - x) [0,1,5] 0 (by simp [keep]) rfl ⟨Nat.zero_le _,fun j hj=>by omega⟩ fun x ⟨hx,hj⟩ ih=>?_
 try simp only [go_sem]
 refine ⟨fun h1=>⟨by omega,fun _=>⟨by omega,fun _=>⟨fun h2=>?_,fun h2=>⟨by omega,ih (x+1) ⟨by omega,fun j hj2=>?_⟩ (by omega) _ _ (by simp [keep]) rfl⟩⟩⟩⟩,fun h1=>?_⟩
 ·exact Kv.Fin.still ⟨by rw [decide_eq_false fun e=>h2 (by rw [e])],rfl⟩
 ·by_cases e:j=x
  ·subst e; omega
  ·exact hj j (by omega)
 ·obtain rfl:x=a.length:=by omega
  have:a=b:=List.ext_getElem hab fun i h1 h2=>by
   have:=hj i h1
   rwa [List.getD_eq_getElem?_getD,List.getD_eq_getElem?_getD,List.getElem?_eq_getElem h1,List.getElem?_eq_getElem h2] at this
  exact Kv.Fin.still ⟨by rw [decide_eq_true this],rfl⟩
end
end
section
section
attribute [local irreducible] ACall PCall KL
attribute [local go_sem] OpK_eq HKv
def CkC (T:List (List Int)) (both:Bool) (r:List Int) (a b c:Nat):Prop:=eqC r a b→eqC r (tgC T a c) (tgC T b c)∧(both=true→eqC r (tgC T c a) (tgC T c b))
theorem clo_ck {T:List (List Int)} {N:Nat} {both:Bool} {r:List Int} (h:∀ a b c,a<N→b<a→c<N→CkC T both r a b c):CloC T N both r:=fun a b c ha hb hc he=>by
 rcases Nat.lt_trichotomy a b with hlt | rfl | hlt
 ·obtain ⟨g1,g2⟩:=h b a c hb hlt hc (Eq.symm he)
  exact ⟨Eq.symm g1,fun hh=>Eq.symm (g2 hh)⟩
 ·exact ⟨rfl,fun _=>rfl⟩
 ·exact h a b c ha hlt hc he
structure CrI (T:List (List Int)) (N:Nat) (P:List Int→Prop) (r1 r:List Int) (more:Bool):Prop where
 len:r.length=N
 low:∀ s,P s→fnC N r s
 up1:fnC N r1 r
 nom:more=false→r=r1
 yes:more=true→mC N r<mC N r1
theorem CrI.join {T:List (List Int)} {N:Nat} {P:List Int→Prop} {r1 r:List Int} {more:Bool} (h:CrI T N P r1 r more) {x y:Nat} (hx:x<N) (hy:y<N) (hne:¬ r.getD x 0=r.getD y 0) (hs:∀ s,P s→eqC s x y):CrI T N P r1 (jnC r (r.getD x 0) (r.getD y 0)) true:=by
 obtain ⟨hl,h2,h3,h4,h5⟩:=h
 subst hl
 have hup:=jnC_up (r:=r) (r.getD x 0) (r.getD y 0)
 refine ⟨jnC_len _ _ _,fun s hp=>jnC_min (h2 s hp) hx hy (hs s hp),fun i j hi hj he=>hup i j hi hj (h3 i j hi hj he),(fun e=>by cases e),fun _=>?_⟩
 have hlt:=mC_lt hup hx hy hne (jnC_eq hx hy)
 cases more with
 | false=>rw [← h4 rfl]; exact hlt
 | true=>exact Nat.lt_trans hlt (h5 rfl)
set_option maxRecDepth 100000 in
set_option maxHeartbeats 4000000 in
theorem p87 (T:List (List Int)) (N:Nat) (hT:TblC T N) (hN:N≤300) (r0:List Int) (hr:r0.length=N) (both:Bool):Pure Tryz.prog 87 [.list (rows T),.list (ints r0),.bool both] (.list (ints (nz (lfC N (PC T N both (eqC r0)))))):=by
 have hTl:=hT.len
 have hfin:∀ r,LeaC N (PC T N both (eqC r0)) r→lfC N (PC T N both (eqC r0))=nmC r:=fun r h=>lfC_eq h
 generalize lfC N (PC T N both (eqC r0))=V at hfin ⊢
 refine e87 (by simp) fun _ _=>?_
 simp only [k87,argEnv,go_sem]
 refine (p117 r0 (by omega)).go fun v s ⟨hv,hs⟩=>?_
 subst hv; subst hs
 try simp only [ren_ref,ren_arr,ren_ints,go_sem]
 refine KL_ind k87_b3.eq_1 (fun y:List Int × Bool=>[(0,.list (rows T)),(1,.ref 0 1 0 N),(2,.bool both),(7,.bool y.2)]) (fun y=>[.arr 1 2 1 (ints y.1)]) (fun y=>y.1.length=N∧fnC N r0 y.1∧(∀ s,PC T N both (eqC r0) s→fnC N y.1 s)∧(y.2=false→CloC T N both y.1)) (fun y=>2 * mC N y.1+(if y.2=true then 1 else 0)) [0,1,2,7] (r0,true) (by simp [keep,hr]) rfl ⟨hr,fun i j _ _ h=>h,fun s hs i j hi hj he=>hs.2 i j hi hj he,fun h=>by cases h⟩ fun ⟨r1,more1⟩ ⟨i1,i2,i3,i4⟩ ih3=>?_
 simp only at i1 i2 i3 i4
 cases more1 with
 | false =>
  try simp only [go_sem]
  have hL:LeaC N (PC T N both (eqC r0)) r1:=⟨i1,⟨i4 rfl,i2⟩,i3⟩
  rw [hfin r1 hL]
  refine (p155 r1 (by omega)).give (id:=0) rfl (.cons (Imm.refn (solo_get rfl) i1.symm) (.nil _)) ?_
  try simp only [go_sem]
  exact Kv.Fin.freeze .still ⟨rfl,rfl⟩
 | true =>
  try simp only [go_sem]
  refine KL_ind k87_b2.eq_1 (fun y:List Int × Bool × Nat=>[(0,.list (rows T)),(1,.ref 0 1 0 N),(2,.bool both),(7,.bool y.2.1),(8,.int .i64 y.2.2)]) (fun y=>[.arr 1 2 1 (ints y.1)]) (fun y=>CrI T N (PC T N both (eqC r0)) r1 y.1 y.2.1∧y.2.2≤N∧(y.2.1=false→∀ a' b' c',a'<y.2.2→b'<a'→c'<N→CkC T both r1 a' b' c')) (fun y=>N - y.2.2) [0,1,2,7,8] (r1,false,0) (by simp [keep]) rfl ⟨⟨i1,i3,fun i j _ _ h=>h,fun _=>rfl,fun e=>by cases e⟩,Nat.zero_le _,fun _ a' b' c' h=>absurd h (Nat.not_lt_zero _)⟩ fun ⟨r,more,a⟩ ⟨hI,ha,hck⟩ ih2=>?_
  simp only at hI ha hck
  try simp only [hTl,go_sem]
  refine ⟨fun g1=>?_,fun g1=>?_⟩
  ·have haN:a<N:=by omega
   refine KL_ind k87_b1.eq_1 (fun y:List Int × Bool × Nat=>[(0,.list (rows T)),(1,.ref 0 1 0 N),(2,.bool both),(7,.bool y.2.1),(8,.int .i64 a),(9,.int .i64 y.2.2)]) (fun y=>[.arr 1 2 1 (ints y.1)]) (fun y=>CrI T N (PC T N both (eqC r0)) r1 y.1 y.2.1∧y.2.2≤a∧(y.2.1=false→(∀ a' b' c',a'<a→b'<a'→c'<N→CkC T both r1 a' b' c')∧∀ b' c',b'<y.2.2→c'<N→CkC T both r1 a b' c')) (fun y=>a - y.2.2) [0,1,2,7,8,9] (r,more,0) (by simp [keep]) rfl ⟨hI,Nat.zero_le _,fun h=>⟨hck h,fun b' c' h=>absurd h (Nat.not_lt_zero _)⟩⟩ fun ⟨r,more,b⟩ ⟨hI,hb,hck⟩ ih1=>?_
   simp only at hI hb hck
   have hlen:=hI.len
   try simp only [hlen,ints_length,go_sem]
   refine ⟨fun g2=>?_,fun g2=>?_⟩
   ·have hbN:b<N:=by omega
    refine ⟨⟨by omega,Nat.le_refl _⟩,haN,fun _=>⟨⟨by omega,Nat.le_refl _⟩,hbN,fun _=>⟨fun g3=>⟨by omega,ih1 (r,more,b+1) ⟨hI,by show b+1≤a; omega,fun h=>⟨(hck h).1,fun b' c' hb' hc'=>?_⟩⟩ (by show a - (b+1)<a - b; omega) _ _ (by simp [keep]) rfl⟩,fun g3=>?_⟩⟩⟩
    ·by_cases e:b'=b
     ·subst e
      intro he
      rw [← hI.nom h] at he
      exact absurd he g3
     ·exact (hck h).2 b' c' (by have:b'<b+1:=hb'; omega) hc'
    ·refine KL_ind k87_b0.eq_1 (fun y:List Int × Bool × Nat=>[(0,.list (rows T)),(1,.ref 0 1 0 N),(2,.bool both),(7,.bool y.2.1),(8,.int .i64 a),(9,.int .i64 b),(10,.int .i64 y.2.2)]) (fun y=>[.arr 1 2 1 (ints y.1)]) (fun y=>CrI T N (PC T N both (eqC r0)) r1 y.1 y.2.1∧y.2.2≤N∧eqC y.1 a b∧(y.2.1=false→((∀ a' b' c',a'<a→b'<a'→c'<N→CkC T both r1 a' b' c')∧∀ b' c',b'<b→c'<N→CkC T both r1 a b' c')∧∀ c',c'<y.2.2→CkC T both r1 a b c')) (fun y=>N - y.2.2) [0,1,2,7,8,9,10] (r,more,0) (by simp [keep]) rfl ⟨hI,Nat.zero_le _,g3,fun h=>⟨hck h,fun c' h=>absurd h (Nat.not_lt_zero _)⟩⟩ fun ⟨r,more,c⟩ ⟨hI,hc,hab,hck⟩ ih0=>?_
     simp only at hI hc hab hck
     have hlen:=hI.len
     try simp only [hTl,go_sem]
     refine ⟨fun g4=>?_,fun g4=>?_⟩
     ·have hcN:c<N:=by omega
      obtain ⟨x1,e1⟩:=hT.tg haN hcN
      obtain ⟨x2,e2⟩:=hT.tg hbN hcN
      obtain ⟨x3,e3⟩:=hT.tg hcN haN
      obtain ⟨x4,e4⟩:=hT.tg hcN hbN
      have w1:=hT.row a haN
      have w2:=hT.row b hbN
      have w3:=hT.row c hcN
      have d1:(a:Int)<(N:Int):=by omega
      have d2:(b:Int)<(N:Int):=by omega
      have d3:(c:Int)<(N:Int):=by omega
      have y1:(tgC T a c:Int)<(N:Int):=by omega
      have y2:(tgC T b c:Int)<(N:Int):=by omega
      have y3:(tgC T c a:Int)<(N:Int):=by omega
      have y4:(tgC T c b:Int)<(N:Int):=by omega
      try simp only [hTl,e1,e2,e3,e4,w1,w2,w3,ints_length,haN,hbN,hcN,d1,d2,d3,x1,x2,x3,x4,y1,y2,y3,y4,Nat.le_refl,true_and,and_true,true_implies,hlen,go_sem]
      refine ⟨fun g5=>?_,fun g5=>?_⟩
      ·refine p154 r rfl (by rw [hlen]; omega) _ _ hlen.symm ?_
       have hI1:=hI.join x1 x2 g5 fun s hs=>(hs.1 a b c haN hbN hcN (hI.low s hs a b haN hbN hab)).1
       have hab1:eqC (jnC r (r.getD (tgC T a c) 0) (r.getD (tgC T b c) 0)) a b:=jnC_up _ _ a b (by rw [hlen]; exact haN) (by rw [hlen]; exact hbN) hab
       have hlen1:=hI1.len
       generalize jnC r (r.getD (tgC T a c) 0) (r.getD (tgC T b c) 0)=r' at hI1 hab1 hlen1 ⊢
       rcases Bool.eq_false_or_eq_true both with hbt | hbt
       ·try simp only [hTl,e1,e2,e3,e4,w1,w2,w3,ints_length,haN,hbN,hcN,d1,d2,d3,x1,x2,x3,x4,y1,y2,y3,y4,Nat.le_refl,true_and,and_true,true_implies,hlen1,hbt,go_sem]
        refine ⟨fun g6=>?_,fun g6=>?_⟩
        ·refine p154 r' rfl (by rw [hlen1]; omega) _ _ hlen1.symm ?_
         try simp only [go_sem]
         have hI2:=hI1.join x3 x4 g6 fun s hs=>(hs.1 a b c haN hbN hcN (hI1.low s hs a b haN hbN hab1)).2 hbt
         exact ⟨by omega,ih0 (jnC r' (r'.getD (tgC T c a) 0) (r'.getD (tgC T c b) 0),true,c+1) ⟨hI2,by show c+1≤N; omega,jnC_up _ _ a b (by rw [hlen1]; exact haN) (by rw [hlen1]; exact hbN) hab1,fun h=>by cases h⟩ (by show N - (c+1)<N - c; omega) _ _ (by simp [keep,hbt]) rfl⟩
        ·refine ⟨by omega,ih0 (r',true,c+1) ⟨hI1,by show c+1≤N; omega,hab1,fun h=>by cases h⟩ (by show N - (c+1)<N - c; omega) _ _ (by simp [keep,hbt]) rfl⟩
       ·try simp only [hTl,e1,e2,e3,e4,w1,w2,w3,ints_length,haN,hbN,hcN,d1,d2,d3,x1,x2,x3,x4,y1,y2,y3,y4,Nat.le_refl,true_and,and_true,true_implies,hlen1,hbt,go_sem]
        refine ⟨by omega,ih0 (r',true,c+1) ⟨hI1,by show c+1≤N; omega,hab1,fun h=>by cases h⟩ (by show N - (c+1)<N - c; omega) _ _ (by simp [keep,hbt]) rfl⟩
      ·rcases Bool.eq_false_or_eq_true both with hbt | hbt
       ·try simp only [hTl,e1,e2,e3,e4,w1,w2,w3,ints_length,haN,hbN,hcN,d1,d2,d3,x1,x2,x3,x4,y1,y2,y3,y4,Nat.le_refl,true_and,and_true,true_implies,hlen,hbt,go_sem]
        refine ⟨fun g6=>?_,fun g6=>?_⟩
        ·refine p154 r rfl (by rw [hlen]; omega) _ _ hlen.symm ?_
         try simp only [go_sem]
         have hI2:=hI.join x3 x4 g6 fun s hs=>(hs.1 a b c haN hbN hcN (hI.low s hs a b haN hbN hab)).2 hbt
         exact ⟨by omega,ih0 (jnC r (r.getD (tgC T c a) 0) (r.getD (tgC T c b) 0),true,c+1) ⟨hI2,by show c+1≤N; omega,jnC_up _ _ a b (by rw [hlen]; exact haN) (by rw [hlen]; exact hbN) hab,fun h=>by cases h⟩ (by show N - (c+1)<N - c; omega) _ _ (by simp [keep,hbt]) rfl⟩
        ·refine ⟨by omega,ih0 (r,more,c+1) ⟨hI,by show c+1≤N; omega,hab,fun h=>⟨(hck h).1,fun c' hc'=>?_⟩⟩ (by show N - (c+1)<N - c; omega) _ _ (by simp [keep,hbt]) rfl⟩
         by_cases ec:c'=c
         ·subst ec
          intro he
          rw [← hI.nom h] at he ⊢
          exact ⟨g5,fun _=>g6⟩
         ·exact (hck h).2 c' (by have:c'<c+1:=hc'; omega)
       ·try simp only [hTl,e1,e2,e3,e4,w1,w2,w3,ints_length,haN,hbN,hcN,d1,d2,d3,x1,x2,x3,x4,y1,y2,y3,y4,Nat.le_refl,true_and,and_true,true_implies,hlen,hbt,go_sem]
        refine ⟨by omega,ih0 (r,more,c+1) ⟨hI,by show c+1≤N; omega,hab,fun h=>⟨(hck h).1,fun c' hc'=>?_⟩⟩ (by show N - (c+1)<N - c; omega) _ _ (by simp [keep,hbt]) rfl⟩
        by_cases ec:c'=c
        ·subst ec
         intro he
         rw [← hI.nom h] at he ⊢
         exact ⟨g5,fun e=>by rw [hbt] at e; cases e⟩
        ·exact (hck h).2 c' (by have:c'<c+1:=hc'; omega)
     ·have hcN:c=N:=by omega
      refine ⟨by omega,ih1 (r,more,b+1) ⟨hI,by show b+1≤a; omega,fun h=>⟨(hck h).1.1,fun b' c' hb' hc'=>?_⟩⟩ (by show a - (b+1)<a - b; omega) _ _ (by simp [keep]) rfl⟩
      by_cases e:b'=b
      ·subst e; exact (hck h).2 c' (by omega)
      ·exact (hck h).1.2 b' c' (by have:b'<b+1:=hb'; omega) hc'
   ·have hba:b=a:=by omega
    refine ⟨by omega,ih2 (r,more,a+1) ⟨hI,by show a+1≤N; omega,fun h a' b' c' h1 h2 h3=>?_⟩ (by show N - (a+1)<N - a; omega) _ _ (by simp [keep]) rfl⟩
    by_cases e:a'=a
    ·subst e; exact (hck h).2 b' c' (by omega) h3
    ·exact (hck h).1 a' b' c' (by have:a'<a+1:=h1; omega) h2 h3
  ·obtain rfl:a=N:=by omega
   refine ih3 (r,more) ⟨hI.len,fun i j hi hj he=>hI.up1 i j hi hj (i2 i j hi hj he),hI.low,fun h=>?_⟩ ?_ _ _ (by simp [keep]) rfl
   ·have h:more=false:=h
    rw [show (r,more).1=r1 from hI.nom h]
    exact clo_ck (hck h)
   ·show 2 * mC a r+(if more=true then 1 else 0)<2 * mC a r1+(if true=true then 1 else 0)
    cases more with
    | false=>rw [hI.nom rfl]; simp
    | true=>have:=hI.yes rfl; simp; omega
end
end
section
section
attribute [local irreducible] ACall PCall KL
structure CnC (N:Nat) (x:List Int):Prop where
 len:x.length=N
 ok:clOk x 0=true
 lt:∀ v∈x,0≤v∧v<N
theorem nz_memC {l:List Nat} {v:Int} (h:v∈nz l):∃ k∈l,v=(k:Int):=by
 obtain ⟨k,hk,rfl⟩:=List.mem_map.1 h
 exact ⟨k,hk,rfl⟩
theorem nmC_cn {N:Nat} {r:List Int} (h:r.length=N):CnC N (nz (nmC r)) :=
 ⟨by rw [nz_len,nmC_len,h],nmC_clOk r,fun v hv=>by
  obtain ⟨k,hk,rfl⟩:=nz_memC hv
  have:=nmC_le r k hk
  omega⟩
theorem CnC.nm {N:Nat} {x:List Int} (h:CnC N x):nz (nmC x)=x:=canon h.ok
theorem CnC.mxl {N:Nat} {x:List Int} (h:CnC N x):mxl x<(N:Int)∨N=0:=by
 rcases Nat.eq_zero_or_pos N with h0 | h0
 ·exact .inr h0
 ·refine .inl ?_
  have:=mxl_le (P:=x) (b:=(N:Int) - 1) (fun k hk=>by have:=h.lt k hk; omega) (by omega)
  omega
theorem CnC.uniq {N:Nat} {x y:List Int} (hx:CnC N x) (hy:CnC N y) (h1:fnC N x y) (h2:fnC N y x):x=y:=by
 rw [← hx.nm,← hy.nm,nmC_uniq (r:=x) (s:=y) (hx.len.trans hy.len.symm) (by rw [hx.len]; exact h1) (by rw [hx.len]; exact h2)]
theorem CnC.b {N:Nat} {x:List Int} (h:CnC N x) (hN:N≤300):x.length≤1048576∧Go.Proofs.YtcfmmmloeaggmaaGreat.mxl x≤1048576:=by
 have:=h.len
 rcases h.mxl with h1 | h1
 ·omega
 ·subst h1
  have:x = []:=List.eq_nil_of_length_eq_zero h.len
  subst this
  exact ⟨by simp,by decide⟩
open Classical in
theorem lea_ex {T:List (List Int)} {N:Nat} (hT:TblC T N) (both:Bool) (R:Nat→Nat→Prop):∃ r,LeaC N (PC T N both R) r:=by
 let E:Nat→Nat→Prop:=fun i j=>∀ s,PC T N both R s→eqC s i j
 have hrefl:∀ i,E i i:=fun i s _=>rfl
 have hsymm:∀ i j,E i j→E j i:=fun i j h s hs=>Eq.symm (h s hs)
 have htrans:∀ i j k,E i j→E j k→E i k:=fun i j k h1 h2 s hs=>Eq.trans (h1 s hs) (h2 s hs)
 let rep:Nat→Nat:=fun i=>((List.range N).find? fun j=>decide (E j i)).getD 0
 have hrep:∀ i,i<N→E (rep i) i:=fun i hi=>by
  show E (((List.range N).find? fun j=>decide (E j i)).getD 0) i
  cases hf:(List.range N).find? fun j=>decide (E j i) with
  | some j=>exact of_decide_eq_true (List.find?_some (p:=fun j=>decide (E j i)) hf)
  | none=>exact absurd (decide_eq_true (hrefl i)) (by simpa using List.find?_eq_none.1 hf i (List.mem_range.2 hi))
 have heq:∀ i k,E i k→rep i=rep k:=fun i k h=>by
  show ((List.range N).find? fun j=>decide (E j i)).getD 0=((List.range N).find? fun j=>decide (E j k)).getD 0
  have:(List.range N).find? (fun j=>decide (E j i))=(List.range N).find? fun j=>decide (E j k) :=
   find_congrC fun j _=>decide_eq_decide.2 ⟨fun g=>htrans _ _ _ g h,fun g=>htrans _ _ _ g (hsymm _ _ h)⟩
  rw [this]
 have hget:∀ i,i<N→((List.range N).map fun i=>(rep i:Int)).getD i 0=(rep i:Int):=fun i hi=>by
  rw [List.getD_eq_getElem?_getD,List.getElem?_map,List.getElem?_range hi]; rfl
 have hiff:∀ i j,i<N→j<N→(eqC ((List.range N).map fun i=>(rep i:Int)) i j↔E i j):=fun i j hi hj=>by
  unfold eqC
  rw [hget i hi,hget j hj]
  constructor
  ·intro h
   have h:rep i=rep j:=by omega
   have h1:=hrep i hi
   have h2:=hrep j hj
   rw [h] at h1
   exact htrans _ _ _ (hsymm _ _ h1) h2
  ·intro h
   rw [heq i j h]
 refine ⟨(List.range N).map fun i=>(rep i:Int),by simp,⟨fun a b c ha hb hc he=>?_,fun i j hi hj hr=>(hiff i j hi hj).2 fun s hs=>hs.2 i j hi hj hr⟩,fun s hs i j hi hj he=>(hiff i j hi hj).1 he s hs⟩
 have hE:=(hiff a b ha hb).1 he
 refine ⟨(hiff _ _ (hT.tg ha hc).1 (hT.tg hb hc).1).2 fun s hs=>(hs.1 a b c ha hb hc (hE s hs)).1,fun hh=>(hiff _ _ (hT.tg hc ha).1 (hT.tg hc hb).1).2 fun s hs=>(hs.1 a b c ha hb hc (hE s hs)).2 hh⟩
theorem lfC_lea {T:List (List Int)} {N:Nat} (hT:TblC T N) (both:Bool) (R:Nat→Nat→Prop):LeaC N (PC T N both R) (nz (lfC N (PC T N both R)))∧CnC N (nz (lfC N (PC T N both R))):=by
 obtain ⟨r,hr⟩:=lea_ex hT both R
 rw [lfC_eq hr]
 exact ⟨hr.nm hT,nmC_cn hr.len⟩
noncomputable def cgP (T:List (List Int)) (N b a:Nat):List Int:=nz (lfC N (PC T N true fun i j=>i=b∧j=a))
noncomputable def jgC (T:List (List Int)) (N:Nat) (a p:List Int):List Int:=nz (lfC N (PC T N true fun i j=>eqC a i j∨eqC p i j))
def trvC (N:Nat):List Int:=nz (List.range N)
noncomputable def genC (T:List (List Int)) (N:Nat):List (List Int):=(List.range N).flatMap fun a=>(List.range a).map fun b=>cgP T N b a
noncomputable def onesC (T:List (List Int)) (N:Nat):List (List Int):=srtG (genC T N)
theorem genC_mem {T:List (List Int)} {N:Nat} {x:List Int}:x∈genC T N↔∃ a b,b<a∧a<N∧x=cgP T N b a:=by
 unfold genC
 simp only [List.mem_flatMap,List.mem_range,List.mem_map]
 constructor
 ·rintro ⟨a,ha,b,hb,rfl⟩; exact ⟨a,b,hb,ha,rfl⟩
 ·rintro ⟨a,b,hb,ha,rfl⟩; exact ⟨a,ha,b,hb,rfl⟩
theorem onesC_mem {T:List (List Int)} {N:Nat} {x:List Int}:x∈onesC T N↔∃ a b,b<a∧a<N∧x=cgP T N b a:=by
 unfold onesC
 rw [(srtG_ok _).2,genC_mem]
theorem onesC_cn {T:List (List Int)} {N:Nat} (hT:TblC T N):∀ x∈onesC T N,CnC N x∧CloC T N true x:=fun x hx=>by
 obtain ⟨a,b,_,_,rfl⟩:=onesC_mem.1 hx
 have:=lfC_lea hT true fun i j=>i=b∧j=a
 exact ⟨this.2,this.1.own.1⟩
theorem jgC_cn {T:List (List Int)} {N:Nat} (hT:TblC T N) (a p:List Int):CnC N (jgC T N a p)∧CloC T N true (jgC T N a p):=by
 have:=lfC_lea hT true fun i j=>eqC a i j∨eqC p i j
 exact ⟨this.2,this.1.own.1⟩
theorem trv_get {N i:Nat} (hi:i<N):(trvC N).getD i 0=(i:Int):=by
 unfold trvC
 rw [nzD,List.getD_eq_getElem?_getD,List.getElem?_range hi]; rfl
theorem trv_eq {N i j:Nat} (hi:i<N) (hj:j<N):eqC (trvC N) i j↔i=j:=by
 unfold eqC
 rw [trv_get hi,trv_get hj]; omega
theorem trv_clOk:∀ (N k:Nat),clOk (nz ((List.range N).map (· + k))) k=true
 | 0,_=>rfl
 | N+1,k=>by
  have e:(List.range (N+1)).map (· + k)=k :: (List.range N).map (· + (k+1)):=by
   rw [List.range_succ_eq_map,List.map_cons,List.map_map]
   congr 1
   ·omega
   ·exact List.map_congr_left fun x _=>by simp only [Function.comp_apply]; omega
  rw [e]
  show (decide (0≤(k:Int)∧(k:Int)≤k) && clOk (nz ((List.range N).map (· + (k+1)))) (if (k:Int)=k then (k:Int)+1 else k))=true
  rw [decide_eq_true (by omega),if_pos rfl]
  have:=trv_clOk N (k+1)
  simpa using this
theorem trv_cn (N:Nat):CnC N (trvC N):=by
 refine ⟨by simp [trvC,nz],?_,fun v hv=>?_⟩
 ·have:=trv_clOk N 0
  simpa [trvC] using this
 ·obtain ⟨k,hk,rfl⟩:=nz_memC hv
  have:=List.mem_range.1 hk; omega
theorem jg_trv {T:List (List Int)} {N:Nat} (hT:TblC T N) {p:List Int} (hp:CnC N p) (hc:CloC T N true p):jgC T N (trvC N) p=p:=by
 have hL:LeaC N (PC T N true fun i j=>eqC (trvC N) i j∨eqC p i j) p:=by
  refine ⟨hp.len,⟨hc,fun i j hi hj h=>?_⟩,fun s hs i j hi hj he=>hs.2 i j hi hj (.inr he)⟩
  rcases h with h | h
  ·rw [trv_eq hi hj] at h; subst h; exact rfl
  ·exact h
 unfold jgC
 rw [lfC_eq hL,hp.nm]
theorem cgP_ne {T:List (List Int)} {N:Nat} (hT:TblC T N) {a b:Nat} (hb:b<a) (ha:a<N):cgP T N b a≠trvC N:=fun e=>by
 have:=(lfC_lea hT true fun i j=>i=b∧j=a).1.own.2 b a (by omega) ha ⟨rfl,rfl⟩
 have h2:eqC (cgP T N b a) b a:=this
 rw [e,trv_eq (by omega) ha] at h2
 omega
theorem all_ones {T:List (List Int)} {N:Nat} (hT:TblC T N) {S:List (List Int)} (h:AllG (jgC T N) (trvC N) (onesC T N) S):(∀ x∈onesC T N,x∈S)∧(onesC T N).length+1≤S.length:=by
 have h1:∀ x∈onesC T N,x∈S:=fun x hx=>by
  have hcn:=onesC_cn hT x hx
  rw [h.mem,← jg_trv hT hcn.1 hcn.2]
  exact .step _ _ .base hx
 refine ⟨h1,?_⟩
 have hnd:(trvC N :: onesC T N).Nodup:=by
  rw [List.nodup_cons]
  refine ⟨fun hm=>?_,(srtG_ok _).1.nodup⟩
  obtain ⟨a,b,hb,ha,e⟩:=onesC_mem.1 hm
  exact cgP_ne hT hb ha e.symm
 have:=nodup_subV (trvC N :: onesC T N) S hnd fun x hx=>by
  rcases List.mem_cons.1 hx with rfl | hx
  ·exact (h.mem _).2 .base
  ·exact h1 x hx
 simpa using this
open Classical in
noncomputable def fnB (a b:List Int):Bool:=decide (fnC a.length a b)
theorem fnB_iff {a b:List Int}:fnB a b=true↔fnC a.length a b:=by
 unfold fnB; exact ⟨fun h=>@of_decide_eq_true _ (Classical.propDecidable _) h,fun h=>@decide_eq_true _ (Classical.propDecidable _) h⟩
theorem fnB_false {a b:List Int} (h:¬ fnC a.length a b):fnB a b=false:=by
 cases hc:fnB a b with
 | false=>rfl
 | true=>exact absurd (fnB_iff.1 hc) h
noncomputable def lstC (L:List (List Int)):List (List Int):=L.filter fun a=>!(L.any fun b=>!decide (a=b) && fnB b a)
theorem lstC_has {N:Nat} {L:List (List Int)} (hL:∀ x∈L,CnC N x) (h0:L≠[]):lstC L≠[]:=by
 -- one that is coarser than none of the others: it has the most differing pairs
 have hmax:∃ a∈L,∀ b∈L,mC N b≤mC N a:=by
  clear hL
  induction L with
  | nil=>exact absurd rfl h0
  | cons x l ih =>
   by_cases hl:l = []
   ·subst hl
    exact ⟨x,by simp,fun b hb=>by simp at hb; subst hb; exact Nat.le_refl _⟩
   ·obtain ⟨a,ha,hm⟩:=ih hl
    by_cases hx:mC N x≤mC N a
    ·exact ⟨a,by simp [ha],fun b hb=>by
      rcases List.mem_cons.1 hb with rfl | hb
      ·exact hx
      ·exact hm b hb⟩
    ·exact ⟨x,by simp,fun b hb=>by
      rcases List.mem_cons.1 hb with rfl | hb
      ·exact Nat.le_refl _
      ·have:=hm b hb; omega⟩
 obtain ⟨a,ha,hm⟩:=hmax
 refine List.ne_nil_of_mem (a:=a) (List.mem_filter.2 ⟨ha,?_⟩)
 rw [Bool.not_eq_true',List.any_eq_false]
 intro b hb hab
 simp only [Bool.and_eq_true,Bool.not_eq_true',decide_eq_false_iff_not] at hab
 obtain ⟨hne,hfn⟩:=hab
 have hfn:=fnB_iff.1 hfn
 rw [(hL b hb).len] at hfn
 -- b is finer and not equal: it has more
 have hno:¬ fnC N a b:=fun h=>hne ((hL a ha).uniq (hL b hb) h hfn)
 obtain ⟨i,j,hi,hj,h1,h2⟩:∃ i j,i<N∧j<N∧eqC a i j∧¬ eqC b i j:=by
  refine Classical.byContradiction fun hc=>hno fun i j hi hj he=>Classical.byContradiction fun hb=>hc ⟨i,j,hi,hj,he,hb⟩
 have:=mC_lt hfn hi hj h2 h1
 have:=hm b hb
 omega
end
end
section
section
set_option maxRecDepth 100000
def k169_b0:KC:=(.seq (.seq (.ops [mV 18 7,mV 19 0,oP 20 (.len false (.t 19)),oP 21 (.bin .lss (.t 18) (.t 20))])
 (.cond (.t 21) .skip (.exit 0)))
 (.seq (.block 1 (.seq (.draw [mV 24 0,mV 25 7,oP 26 (.idxS 1 (.t 24) (.t 25)),oP 27 (.load false 1 (.t 26)),mV 28 1,mV 29 7,oP 30 (.idxS 1 (.t 28) (.t 29)),oP 31 (.load false 1 (.t 30)),oP 32 (.bin .neq (.t 27) (.t 31))])
 (.cond (.t 32) (.seq (.draw [mV 33 0,mV 34 7,oP 35 (.idxS 1 (.t 33) (.t 34)),oP 36 (.load false 1 (.t 35)),mV 37 1,mV 38 7,oP 39 (.idxS 1 (.t 37) (.t 38)),oP 40 (.load false 1 (.t 39)),oP 41 (.bin .lss (.t 36) (.t 40)),mV 4 41])
 .ret) .skip)))
 (.ops [mV 22 7,oP 23 (.bin .add (.t 22) (iC 1)),mV 7 23])))
def k169:KC:=(.seq (.ops [oP 4 (.mv (.c (.bool false)))])
 (.seq (.seq (.ops [mV 8 0,oP 9 (.call (fC 88) [(.t 8)]),mV 10 1,oP 11 (.call (fC 88) [(.t 10)]),mV 5 9,mV 6 11])
 (.seq (.ops [mV 12 5,mV 13 6,oP 14 (.bin .neq (.t 12) (.t 13))])
 (.cond (.t 14) (.seq (.ops [mV 15 5,mV 16 6,oP 17 (.bin .gtr (.t 15) (.t 16)),mV 4 17])
 .ret) .skip)))
 (.seq (.seq (.ops [oP 7 (.mv (iC 0))])
 (.block 0 (.loop k169_b0)))
 (.seq (.ops [oP 4 (.mv (.c (.bool false)))])
 .ret))))
theorem e169:Ent 169 42 [] [.t 4] k169:=ent Tryz.func169
def k102_b0:KC:=(.seq (.seq (.ops [mV 10 6,oP 11 (.bin .gtr (.t 10) (iC 0)),mV 12 11,⟨(some 13),some (12,true),.mv (.t 1)⟩,⟨(some 14),some (12,true),.mv (.t 0)⟩,⟨(some 15),some (12,true),.mv (.t 6)⟩,⟨(some 16),some (12,true),.bin .sub (.t 15) (iC 1)⟩,⟨(some 17),some (12,true),.idxS 1 (.t 14) (.t 16)⟩,⟨(some 18),some (12,true),.load false 1 (.t 17)⟩,⟨(some 19),some (12,true),.call (fC 169) [(.t 13),(.t 18)]⟩,oP 20 (.pick (.t 12) (.t 19) (.c (.bool false)))])
 (.cond (.t 20) .skip (.exit 0)))
 (.block 1 (.ops [mV 21 6,oP 22 (.bin .sub (.t 21) (iC 1)),mV 6 22])))
def k102:KC:=(.seq (.ops [oP 4 (.mv (.c (.nils))),oP 5 (.mv (.c (.bool false)))])
 (.seq (.ops [mV 8 0,oP 9 (.len false (.t 8)),mV 6 9])
 (.seq (.block 0 (.loop k102_b0))
 (.seq (.seq (.ops [mV 23 6,oP 24 (.bin .gtr (.t 23) (iC 0)),mV 25 24,⟨(some 26),some (25,true),.mv (.t 0)⟩,⟨(some 27),some (25,true),.mv (.t 6)⟩,⟨(some 28),some (25,true),.bin .sub (.t 27) (iC 1)⟩,⟨(some 29),some (25,true),.idxS 1 (.t 26) (.t 28)⟩,⟨(some 30),some (25,true),.load false 1 (.t 29)⟩,⟨(some 31),some (25,true),.mv (.t 1)⟩,⟨(some 32),some (25,true),.call (fC 86) [(.t 30),(.t 31)]⟩,oP 33 (.pick (.t 25) (.t 32) (.c (.bool false)))])
 (.cond (.t 33) (.seq (.ops [mV 34 0,mV 4 34,oP 5 (.mv (.c (.bool false)))])
 .ret) .skip))
 (.seq (.ops [mV 35 1,oP 36 (.bsl false 25 1 [(.t 35)]),mV 37 0,mV 38 6,oP 39 (.sls 1 (.t 37) (some (.t 38)) none),oP 40 (.app (.t 36) (.t 39) 25 1),mV 7 40])
 (.seq (.ops [oP 41 (.bsl false 25 1 []),mV 42 0,mV 43 6,oP 44 (.sls 1 (.t 42) none (some (.t 43))),oP 45 (.app (.t 41) (.t 44) 25 1),mV 46 7,oP 47 (.app (.t 45) (.t 46) 25 1),mV 4 47,oP 5 (.mv (.c (.bool true)))])
 .ret))))))
theorem e102:Ent 102 48 [] [.t 4,.t 5] k102:=ent Tryz.func102
def k105_b0:KC:=(.seq (.seq (.ops [mV 13 6,mV 14 5,oP 15 (.bin .lss (.t 13) (.t 14))])
 (.cond (.t 15) .skip (.exit 2)))
 (.seq (.block 3 (.seq (.draw [mV 18 0,mV 19 5,oP 20 (.idxS 1 (.t 18) (.t 19)),oP 21 (.load false 1 (.t 20)),mV 22 0,mV 23 6,oP 24 (.idxS 1 (.t 22) (.t 23)),oP 25 (.load false 1 (.t 24)),oP 26 (.bin .eql (.t 21) (.t 25)),mV 27 26,⟨(some 28),some (27,true),.mv (.t 1)⟩,⟨(some 29),some (27,true),.mv (.t 5)⟩,⟨(some 30),some (27,true),.idxS 1 (.t 28) (.t 29)⟩,⟨(some 31),some (27,true),.load false 1 (.t 30)⟩,⟨(some 32),some (27,true),.mv (.t 1)⟩,⟨(some 33),some (27,true),.mv (.t 6)⟩,⟨(some 34),some (27,true),.idxS 1 (.t 32) (.t 33)⟩,⟨(some 35),some (27,true),.load false 1 (.t 34)⟩,⟨(some 36),some (27,true),.bin .neq (.t 31) (.t 35)⟩,oP 37 (.pick (.t 27) (.t 36) (.c (.bool false)))])
 (.cond (.t 37) (.seq (.ops [oP 4 (.mv (.c (.bool false)))])
 .ret) .skip)))
 (.ops [mV 16 6,oP 17 (.bin .add (.t 16) (iC 1)),mV 6 17])))
def k105_b1:KC:=(.seq (.seq (.ops [mV 7 5,mV 8 0,oP 9 (.len false (.t 8)),oP 10 (.bin .lss (.t 7) (.t 9))])
 (.cond (.t 10) .skip (.exit 0)))
 (.seq (.block 1 (.seq (.ops [oP 6 (.mv (iC 0))])
 (.block 2 (.loop k105_b0))))
 (.ops [mV 11 5,oP 12 (.bin .add (.t 11) (iC 1)),mV 5 12])))
def k105:KC:=(.seq (.ops [oP 4 (.mv (.c (.bool false)))])
 (.seq (.seq (.ops [oP 5 (.mv (iC 0))])
 (.block 0 (.loop k105_b1)))
 (.seq (.ops [oP 4 (.mv (.c (.bool true)))])
 .ret)))
theorem e105:Ent 105 38 [] [.t 4] k105:=ent Tryz.func105
end
section
attribute [local irreducible] ACall PCall KL
attribute [local go_sem] OpK_eq HKv
theorem p169 {N:Nat} (hN:N≤300) (a b:List Int) (ha:CnC N a) (hb:CnC N b):Pure Tryz.prog 169 [.list (ints a),.list (ints b)] (.bool (decide (cgc a b<0))):=by
 obtain ⟨a1,a2⟩:=ha.b hN
 obtain ⟨b1,b2⟩:=hb.b hN
 have hla:=ha.len
 have hlb:=hb.len
 have hda:decide (cgc a b<0)=if mxl a=mxl b then decide (slc a b<0) else decide (mxl b<mxl a):=by
  by_cases h:mxl a=mxl b
  ·have e:cI (mxl b+1) (mxl a+1)=0:=by
    unfold cI; rw [if_neg (show ¬ mxl b+1<mxl a+1 by omega),if_neg (show ¬ mxl a+1<mxl b+1 by omega)]
   rw [if_pos h]; unfold cgc; rw [e,orV_zero]
  ·rw [if_neg h]
   by_cases h1:mxl b<mxl a
   ·have e:cI (mxl b+1) (mxl a+1) = -1:=by
     unfold cI; rw [if_pos (show mxl b+1<mxl a+1 by omega)]
    unfold cgc; rw [e,orV_ne (by decide),decide_eq_true h1]; rfl
   ·have e:cI (mxl b+1) (mxl a+1)=1:=by
     unfold cI; rw [if_neg (show ¬ mxl b+1<mxl a+1 by omega),if_pos (show mxl a+1<mxl b+1 by omega)]
    unfold cgc; rw [e,orV_ne (by decide),decide_eq_false h1]; rfl
 rw [hda]
 refine e169 (by simp) fun _ _=>?_
 simp only [k169,argEnv,go_sem]
 refine (p88 a a1 a2).go ?_
 try simp only [go_sem]
 refine (p88 b b1 b2).go ?_
 generalize hma:mxl a=ma at *
 generalize hmb:mxl b=mb at *
 try simp only [go_sem]
 refine ⟨fun g=>Kv.Fin.still ⟨?_,rfl⟩,fun g=>?_⟩
 ·rw [if_neg (by omega)]
  congr 1
  exact decide_eq_decide.2 (by omega)
 ·rw [if_pos (by omega)]
  refine KL_ind k169_b0.eq_1 (fun x:Nat=>[(0,.list (ints a)),(1,.list (ints b)),(7,.int .i64 x)]) (fun _=>[]) (fun x=>x≤a.length∧slc (a.drop x) (b.drop x)=slc a b) (fun x=>a.length - x) [0,1,7] 0 (by simp [keep]) rfl ⟨Nat.zero_le _,rfl⟩ fun x ⟨hx,hs⟩ ih=>?_
  try simp only [go_sem]
  refine ⟨fun h2=>?_,fun h2=>?_⟩
  ·have hd:=slc_drop (xs:=a) (ys:=b) (k:=x) (by omega) (by omega)
   rw [hs,← List.getD_eq_getElem?_getD,← List.getD_eq_getElem?_getD] at hd
   refine ⟨by omega,fun _=>⟨by omega,fun _=>⟨fun h3=>⟨by omega,fun _=>⟨by omega,fun _=>?_⟩⟩,fun h3=>⟨by omega,?_⟩⟩⟩⟩
   ·refine Kv.Fin.still ⟨?_,rfl⟩
    rw [hd]
    congr 1
    refine decide_eq_decide.2 ?_
    (repeat' split) <;> omega
   ·refine ih (x+1) ⟨by omega,?_⟩ (by omega) _ _ (by simp [keep]) rfl
    rw [hd,if_neg (by omega),if_neg (by omega)]
  ·obtain rfl:x=a.length:=by omega
   refine Kv.Fin.still ⟨?_,rfl⟩
   rw [← hs,slc_end,if_neg (by omega)]; rfl
theorem p105 (a b:List Int) (hab:b.length=a.length) (hl:a.length≤1000):Pure Tryz.prog 105 [.list (ints a),.list (ints b)] (.bool (fnB a b)):=by
 have hfin:∀ x,x=a.length→(∀ i k,i<x→k<i→eqC a i k→eqC b i k)→fnB a b=true:=fun x hx h=>fnB_iff.2 fun i j hi hj he=>by
  rcases Nat.lt_trichotomy i j with hlt | rfl | hlt
  ·exact Eq.symm (h j i (by omega) hlt (Eq.symm he))
  ·exact rfl
  ·exact h i j (by omega) hlt he
 have hbad:∀ i k,i<a.length→k<i→eqC a i k→¬ eqC b i k→fnB a b=false:=fun i k hi hk h1 h2=>fnB_false fun h=>h2 (h i k hi (by omega) h1)
 generalize fnB a b=V at hfin hbad ⊢
 refine e105 (by simp) fun _ _=>?_
 simp only [k105,argEnv,go_sem]
 refine KL_ind k105_b1.eq_1 (fun x:Nat=>[(0,.list (ints a)),(1,.list (ints b)),(5,.int .i64 x)]) (fun _=>[]) (fun x=>x≤a.length∧∀ i k,i<x→k<i→eqC a i k→eqC b i k) (fun x=>a.length - x) [0,1,5] 0 (by simp [keep]) rfl ⟨Nat.zero_le _,fun i k h=>absurd h (Nat.not_lt_zero _)⟩ fun x ⟨hx,hs⟩ ih=>?_
 try simp only [go_sem]
 refine ⟨fun g1=>?_,fun g1=>?_⟩
 ·refine KL_ind k105_b0.eq_1 (fun y:Nat=>[(0,.list (ints a)),(1,.list (ints b)),(5,.int .i64 x),(6,.int .i64 y)]) (fun _=>[]) (fun y=>y≤x∧∀ k,k<y→eqC a x k→eqC b x k) (fun y=>x - y) [0,1,5,6] 0 (by simp [keep]) rfl ⟨Nat.zero_le _,fun k h=>absurd h (Nat.not_lt_zero _)⟩ fun y ⟨hy,hk⟩ ihk=>?_
  try simp only [go_sem]
  refine ⟨fun g2=>?_,fun g2=>?_⟩
  ·have hst:∀ (h:a.getD x 0=a.getD y 0→b.getD x 0=b.getD y 0),∀ k,k<y+1→eqC a x k→eqC b x k:=fun h k hk' he=>by
    by_cases e:k=y
    ·subst e; exact h he
    ·exact hk k (by omega) he
   refine ⟨by omega,fun _=>⟨by omega,fun _=>⟨fun g3=>⟨by omega,fun _=>⟨by omega,fun _=>⟨fun g4=>?_,fun g4=>⟨by omega,ihk (y+1) ⟨by omega,hst fun _=>g4⟩ (by omega) _ _ (by simp [keep]) rfl⟩⟩⟩⟩,fun g3=>⟨by omega,ihk (y+1) ⟨by omega,hst fun h=>absurd h g3⟩ (by omega) _ _ (by simp [keep]) rfl⟩⟩⟩⟩
   exact Kv.Fin.still ⟨by rw [hbad x y (by omega) (by omega) g3 g4],rfl⟩
  ·have hyx:y=x:=by omega
   refine ⟨by omega,ih (x+1) ⟨by omega,fun i k hi hk' he=>?_⟩ (by omega) _ _ (by simp [keep]) rfl⟩
   by_cases e:i=x
   ·subst e; exact hk k (by omega) he
   ·exact hs i k (by omega) hk' he
 ·have hxl:x=a.length:=by omega
  exact Kv.Fin.still ⟨by rw [hfin x hxl hs],rfl⟩
theorem rows_takeC (S:List (List Int)) (k:Nat):(rows S).take k=rows (S.take k):=by simp [rows,List.map_take]
theorem rows_dropC (S:List (List Int)) (k:Nat):(rows S).drop k=rows (S.drop k):=by simp [rows,List.map_drop]
theorem rows_lenC (S:List (List Int)):(rows S).length=S.length:=by simp [rows]
theorem put_norm (A D:List (List Int)) (own:List Int):List.take 1 [PV.list (ints own)] ++ rows D=rows (own :: D)∧List.take (1+D.length) (rows (own :: D))=rows (own :: D)∧List.take A.length (List.take 0 [] ++ rows A)=rows A∧rows A ++ rows (own :: D)=rows (A ++ own :: D)∧(rows (own :: D)).length=D.length+1:=by
 have l1:(rows (own :: D)).length=D.length+1:=by rw [rows_lenC]; rfl
 refine ⟨rfl,List.take_of_length_le (by omega),?_,by simp [rows],l1⟩
 rw [show List.take 0 ([]:List PV) ++ rows A=rows A from rfl,List.take_of_length_le (by rw [rows_lenC]; exact Nat.le_refl _)]
theorem p102 {N:Nat} (hN:N≤300) (S:List (List Int)) (own:List Int) (hS:∀ x∈S,CnC N x) (ho:CnC N own) (hl:S.length≤100000):Pure Tryz.prog 102 [.list (rows S),.list (ints own)] (.tup [.list (rows (putG S own)),.bool (!decide (hasG S own))]):=by
 have hat:=atG_le S own S.length
 have hput:∀ k,¬ (0<k∧S.getD (k - 1) []=own)→atG S own S.length=k→putG S own=S.take k ++ own :: S.drop k∧decide (hasG S own)=false:=fun k h1 h2=>by
  have:¬ hasG S own:=by unfold hasG; rw [h2]; exact h1
  refine ⟨?_,decide_eq_false this⟩
  unfold putG; rw [if_neg this,h2]
 have hput2:∀ k,(0<k∧S.getD (k - 1) []=own)→atG S own S.length=k→putG S own=S∧decide (hasG S own)=true:=fun k h1 h2=>by
  have:hasG S own:=by unfold hasG; rw [h2]; exact h1
  refine ⟨?_,decide_eq_true this⟩
  unfold putG; rw [if_pos this]
 have hlt:=fun (b:List Int) (hb:CnC N b)=>p169 hN own b ho hb
 have heq:=fun (b:List Int) (hb:CnC N b)=>p86 b own (hb.len.trans ho.len.symm) (by rw [hb.len]; omega)
 have hol:=ho.len
 refine e102 (by simp) fun _ _=>?_
 simp only [k102,argEnv,go_sem]
 refine KL_ind k102_b0.eq_1 (fun k:Nat=>[(0,.list (rows S)),(1,.list (ints own)),(6,.int .i64 k)]) (fun _=>[]) (fun k=>k≤S.length∧atG S own k=atG S own S.length) (fun k=>k) [0,1,6] S.length (by simp [keep]) rfl ⟨Nat.le_refl _,rfl⟩ fun k ⟨hk,hke⟩ ih=>?_
 try simp only [go_sem]
 refine ⟨fun h1=>?_,fun h1=>?_⟩
 ·have hk1:((k:Int) - 1).toNat=k - 1:=by omega
  have hSk:CnC N (S.getD (k - 1) []):=hS _ (getD_mem (by omega) [])
  refine ⟨by omega,⟨by omega,by omega⟩,fun h2=>?_⟩
  rw [hk1]
  refine (hlt _ hSk).go ?_
  by_cases hb:cgc own (S.getD (k - 1) [])<0
  ·rw [decide_eq_true hb]
   try simp only [go_sem]
   refine ⟨by omega,ih (k - 1) ⟨by omega,?_⟩ (by omega) _ _ (by simp [keep]; omega) rfl⟩
   have:atG S own k=atG S own (k - 1):=by
    obtain ⟨m,rfl⟩:∃ m,k=m+1:=⟨k - 1,by omega⟩
    rw [atG,if_pos (by simpa using hb)]; rfl
   rw [← this]; exact hke
  ·rw [decide_eq_false hb]
   have hkk:atG S own S.length=k:=by
    rw [← hke]
    obtain ⟨m,rfl⟩:∃ m,k=m+1:=⟨k - 1,by omega⟩
    rw [atG,if_neg (by simpa using hb)]
   try simp only [hk1,go_sem]
   refine ⟨fun _=>⟨by omega,⟨by omega,by omega⟩,fun _=>?_⟩,fun h=>absurd h (by omega)⟩
   refine (heq _ hSk).go ?_
   by_cases he:S.getD (k - 1) []=own
   ·obtain ⟨e1,e2⟩:=hput2 k ⟨by omega,he⟩ hkk
    rw [decide_eq_true he]
    try simp only [go_sem]
    exact Kv.Fin.still ⟨by rw [e1,e2]; rfl,rfl⟩
   ·obtain ⟨e1,e2⟩:=hput k (fun h=>he h.2) hkk
    rw [decide_eq_false he]
    have t1:List.take (S.length - k) (List.drop k S)=List.drop k S:=List.take_of_length_le (by rw [List.length_drop]; exact Nat.le_refl _)
    have t2:List.take (k - 0) S=S.take k:=by rw [Nat.sub_zero]
    obtain ⟨z1,z2,z3,z4,z5⟩:=put_norm (S.take k) (S.drop k) own
    have l1:(S.drop k).length=S.length - k:=List.length_drop
    have l2:(S.take k).length=k:=by rw [List.length_take]; omega
    try simp only [rows_takeC,rows_dropC,rows_lenC,go_sem]
    rw [t1,t2,z1,z2,z3,z4,z5]
    refine ⟨by omega,by omega,by omega,by omega,by simp,⟨by omega,by omega⟩,?_⟩
    rw [e1,e2]
    exact Kv.Fin.freeze (Imm.tupL (.cons (Imm.refr rfl (by simp)) (.cons (.bool _ _) (.nil _)))) ⟨rfl,rfl⟩
 ·obtain rfl:k=0:=by omega
  have hkk:atG S own S.length=0:=by rw [← hke]; rfl
  obtain ⟨e1,e2⟩:=hput 0 (fun h=>absurd h.1 (by omega)) hkk
  have t1:List.take (S.length - 0) S=S:=List.take_of_length_le (by omega)
  have t2:List.take (0 - 0) S=S.take 0:=rfl
  have t3:S.drop 0=S:=rfl
  obtain ⟨z1,z2,z3,z4,z5⟩:=put_norm (S.take 0) S own
  have l2:(S.take 0).length=0:=rfl
  try simp only [rows_takeC,rows_dropC,rows_lenC,go_sem]
  rw [t1,t2,z1,z2,z3,z4,z5]
  refine ⟨by omega,by omega,by omega,by simp,⟨by omega,by omega⟩,?_⟩
  rw [e1,e2,t3]
  exact Kv.Fin.freeze (Imm.tupL (.cons (Imm.refr rfl (by simp)) (.cons (.bool _ _) (.nil _)))) ⟨rfl,rfl⟩
end
end
section
section
set_option maxRecDepth 100000
def k101_b0:KC:=(.seq (.seq (.ops [mV 18 9,mV 19 8,oP 20 (.bin .lss (.t 18) (.t 19))])
 (.cond (.t 20) .skip (.exit 2)))
 (.seq (.block 3 (.seq (.draw [mV 23 2,mV 24 8,oP 25 (.idxS 1 (.t 23) (.t 24)),oP 26 (.load false 1 (.t 25)),mV 27 2,mV 28 9,oP 29 (.idxS 1 (.t 27) (.t 28)),oP 30 (.load false 1 (.t 29)),oP 31 (.bin .eql (.t 26) (.t 30)),mV 32 31,⟨(some 33),some (32,true),.mv (.t 7)⟩,⟨(some 34),some (32,true),.mv (.t 8)⟩,⟨(some 35),some (32,true),.idxS 1 (.t 33) (.t 34)⟩,⟨(some 36),some (32,true),.load false 1 (.t 35)⟩,⟨(some 37),some (32,true),.mv (.t 7)⟩,⟨(some 38),some (32,true),.mv (.t 9)⟩,⟨(some 39),some (32,true),.idxS 1 (.t 37) (.t 38)⟩,⟨(some 40),some (32,true),.load false 1 (.t 39)⟩,⟨(some 41),some (32,true),.bin .neq (.t 36) (.t 40)⟩,oP 42 (.pick (.t 32) (.t 41) (.c (.bool false)))])
 (.cond (.t 42) (.draw [mV 43 7,mV 44 7,mV 45 9,oP 46 (.idxS 1 (.t 44) (.t 45)),oP 47 (.load false 1 (.t 46)),mV 48 7,mV 49 8,oP 50 (.idxS 1 (.t 48) (.t 49)),oP 51 (.load false 1 (.t 50)),oP 52 (.call (fC 154) [(.t 43),(.t 47),(.t 51)])]) .skip)))
 (.ops [mV 21 9,oP 22 (.bin .add (.t 21) (iC 1)),mV 9 22])))
def k101_b1:KC:=(.seq (.seq (.ops [mV 12 8,mV 13 2,oP 14 (.len false (.t 13)),oP 15 (.bin .lss (.t 12) (.t 14))])
 (.cond (.t 15) .skip (.exit 0)))
 (.seq (.block 1 (.seq (.ops [oP 9 (.mv (iC 0))])
 (.block 2 (.loop k101_b0))))
 (.ops [mV 16 8,oP 17 (.bin .add (.t 16) (iC 1)),mV 8 17])))
def k101:KC:=(.seq (.ops [oP 6 (.mv (.c (.nils)))])
 (.seq (.ops [mV 10 1,oP 11 (.call (fC 117) [(.t 10)]),mV 7 11])
 (.seq (.seq (.ops [oP 8 (.mv (iC 0))])
 (.block 0 (.loop k101_b1)))
 (.seq (.ops [mV 53 0,mV 54 7,oP 55 (.call (fC 87) [(.t 53),(.t 54),(.c (.bool true))]),mV 6 55])
 .ret))))
theorem e101 {args:List PV} {σ:Heap} {K:PV→Heap→Prop} (hl:args.length≤56) (h:Wf σ→(∀ a∈args,PV.upto σ.length a)→vc (mkCfgR Tryz.prog mixed [] 56 σ.length) k101 (FinK σ.length [.t 6] K) (argEnv 0 args) σ):ACall Tryz.prog 101 args σ K :=
 ACall_enter (C:=mkCfgR Tryz.prog mixed [] 56 σ.length) (c:=Tryz.f101.body.getD .skip) Tryz.func101 (by kernel_rfl) (by kernel_rfl) (by kernel_rfl) rfl hl (by kernel_rfl) (by kernel_rfl) h
def k99_b0:KC:=(.seq (.seq (.ops [mV 14 5,mV 15 4,oP 16 (.bin .lss (.t 14) (.t 15))])
 (.cond (.t 16) .skip (.exit 2)))
 (.seq (.block 3 (.seq (.ops [mV 19 0,oP 20 (.len false (.t 19)),oP 21 (.call (fC 100) [(.t 20)]),mV 6 21])
 (.seq (.ops [mV 22 6,mV 23 5,mV 24 4,oP 25 (.call (fC 154) [(.t 22),(.t 23),(.t 24)])])
 (.ops [mV 27 3,mV 28 0,mV 29 6,oP 30 (.call (fC 87) [(.t 28),(.t 29),(.c (.bool true))]),oP 31 (.call (fC 102) [(.t 27),(.t 30)]),mV 26 31,oP 32 (.extr 0 (.t 26)),oP 33 (.extr 1 (.t 26)),mV 3 32]))))
 (.ops [mV 17 5,oP 18 (.bin .add (.t 17) (iC 1)),mV 5 18])))
def k99_b1:KC:=(.seq (.seq (.ops [mV 8 4,mV 9 0,oP 10 (.len false (.t 9)),oP 11 (.bin .lss (.t 8) (.t 10))])
 (.cond (.t 11) .skip (.exit 0)))
 (.seq (.block 1 (.seq (.ops [oP 5 (.mv (iC 0))])
 (.block 2 (.loop k99_b0))))
 (.ops [mV 12 4,oP 13 (.bin .add (.t 12) (iC 1)),mV 4 13])))
def k99:KC:=(.seq (.ops [oP 2 (.mv (.c (.nils)))])
 (.seq (.ops [oP 7 (.bsl true 25 1 []),mV 3 7])
 (.seq (.seq (.ops [oP 4 (.mv (iC 0))])
 (.block 0 (.loop k99_b1)))
 (.seq (.ops [mV 34 3,mV 2 34])
 .ret))))
theorem e99:Ent 99 35 [7] [.t 2] k99:=ent Tryz.func99
end
section
attribute [local irreducible] ACall PCall KL
attribute [local go_sem] OpK_eq HKv
theorem p101 (T:List (List Int)) (N:Nat) (hT:TblC T N) (hN:N≤300) (a b:List Int) (ha:a.length=N) (hb:b.length=N):Pure Tryz.prog 101 [.list (rows T),.list (ints a),.list (ints b)] (.list (ints (jgC T N a b))):=by
 have hfin:∀ r,r.length=N→fnC N a r→(∀ s,fnC N a s→fnC N b s→fnC N r s)→fnC N b r→nz (lfC N (PC T N true (eqC r)))=jgC T N a b:=fun r hr h1 h2 h3=>by
  unfold jgC
  rw [lfC_congr fun s=>?_]
  constructor
  ·rintro ⟨g1,g2⟩
   refine ⟨g1,fun i j hi hj h=>g2 i j hi hj ?_⟩
   rcases h with h | h
   ·exact h1 i j hi hj h
   ·exact h3 i j hi hj h
  ·rintro ⟨g1,g2⟩
   exact ⟨g1,fun i j hi hj h=>h2 s (fun i j hi hj h=>g2 i j hi hj (.inl h)) (fun i j hi hj h=>g2 i j hi hj (.inr h)) i j hi hj h⟩
 generalize jgC T N a b=V at hfin ⊢
 refine e101 (by simp) fun _ _=>?_
 simp only [k101,argEnv,go_sem]
 refine (p117 a (by omega)).go fun v s ⟨hv,hs⟩=>?_
 subst hv; subst hs
 try simp only [ren_ref,ren_arr,ren_ints,go_sem]
 refine KL_ind k101_b1.eq_1 (fun y:List Int × Nat=>[(0,.list (rows T)),(2,.list (ints b)),(7,.ref 0 1 0 N),(8,.int .i64 y.2)]) (fun y=>[.arr 1 2 1 (ints y.1)]) (fun y=>y.1.length=N∧fnC N a y.1∧(∀ s,fnC N a s→fnC N b s→fnC N y.1 s)∧y.2≤N∧∀ i k,i<y.2→k<i→eqC b i k→eqC y.1 i k) (fun y=>N - y.2) [0,2,7,8] (a,0) (by simp [keep,ha]) rfl ⟨ha,fun i j _ _ h=>h,fun s h _=>h,Nat.zero_le _,fun i k h=>absurd h (Nat.not_lt_zero _)⟩ fun ⟨r,i⟩ ⟨i1,i2,i3,i4,i5⟩ ih=>?_
 simp only at i1 i2 i3 i4 i5
 try simp only [go_sem]
 refine ⟨fun g1=>?_,fun g1=>?_⟩
 ·have hiN:i<N:=by omega
  refine KL_ind k101_b0.eq_1 (fun y:List Int × Nat=>[(0,.list (rows T)),(2,.list (ints b)),(7,.ref 0 1 0 N),(8,.int .i64 i),(9,.int .i64 y.2)]) (fun y=>[.arr 1 2 1 (ints y.1)]) (fun y=>y.1.length=N∧fnC N a y.1∧(∀ s,fnC N a s→fnC N b s→fnC N y.1 s)∧y.2≤i∧(∀ i' k',i'<i→k'<i'→eqC b i' k'→eqC y.1 i' k')∧∀ k',k'<y.2→eqC b i k'→eqC y.1 i k') (fun y=>i - y.2) [0,2,7,8,9] (r,0) (by simp [keep]) rfl ⟨i1,i2,i3,Nat.zero_le _,i5,fun k h=>absurd h (Nat.not_lt_zero _)⟩ fun ⟨r,k⟩ ⟨j1,j2,j3,j4,j5,j6⟩ ihk=>?_
  simp only at j1 j2 j3 j4 j5 j6
  try simp only [j1,ints_length,go_sem]
  refine ⟨fun g2=>?_,fun g2=>?_⟩
  ·have hkN:k<N:=by omega
   have hst:∀ r':List Int,fnC N r r'→(eqC b i k→eqC r' i k)→∀ k',k'<k+1→eqC b i k'→eqC r' i k':=fun r' hr he k' hk' h=>by
    by_cases e:k'=k
    ·subst e; exact he h
    ·exact hr i k' hiN (by omega) (j6 k' (by omega) h)
   refine ⟨by omega,fun _=>⟨by omega,fun _=>⟨fun g3=>?_,fun g3=>?_⟩⟩⟩
   ·have g3':eqC b i k:=g3
    have n1:(i:Int)<(N:Int):=by omega
    have n2:(k:Int)<(N:Int):=by omega
    refine ⟨⟨by omega,Nat.le_refl _⟩,hiN,fun _=>⟨⟨by omega,Nat.le_refl _⟩,hkN,fun _=>⟨fun g4=>?_,fun g4=>?_⟩⟩⟩
    ·refine ⟨⟨by omega,Nat.le_refl _⟩,hkN,fun _=>⟨⟨by omega,Nat.le_refl _⟩,hiN,fun _=>?_⟩⟩
     refine p154 r rfl (by omega) _ _ j1.symm ?_
     try simp only [go_sem]
     have hup:=jnC_up (r:=r) (r.getD k 0) (r.getD i 0)
     rw [j1] at hup
     refine ⟨by omega,ihk (jnC r (r.getD k 0) (r.getD i 0),k+1) ⟨by rw [jnC_len]; exact j1,fun x y hx hy h=>hup x y hx hy (j2 x y hx hy h),fun s hs1 hs2=>?_,by show k+1≤i; omega,fun i' k' h1 h2 h=>hup i' k' (by omega) (by omega) (j5 i' k' h1 h2 h),hst _ hup fun _=>?_⟩ (by show i - (k+1)<i - k; omega) _ _ (by simp [keep]) rfl⟩
     ·have:=jnC_min (r:=r) (s:=s) (by rw [j1]; exact j3 s hs1 hs2) (x:=k) (y:=i) (by omega) (by omega) (Eq.symm (hs2 i k hiN hkN g3'))
      rwa [j1] at this
     ·exact Eq.symm (jnC_eq (by omega) (by omega))
    ·exact ⟨by omega,ihk (r,k+1) ⟨j1,j2,j3,by show k+1≤i; omega,j5,hst r (fun _ _ _ _ h=>h) fun _=>g4⟩ (by show i - (k+1)<i - k; omega) _ _ (by simp [keep]) rfl⟩
   ·exact ⟨by omega,ihk (r,k+1) ⟨j1,j2,j3,by show k+1≤i; omega,j5,hst r (fun _ _ _ _ h=>h) fun h=>absurd h g3⟩ (by show i - (k+1)<i - k; omega) _ _ (by simp [keep]) rfl⟩
  ·refine ⟨by omega,ih (r,i+1) ⟨j1,j2,j3,by show i+1≤N; omega,fun i' k' h1 h2 h=>?_⟩ (by show N - (i+1)<N - i; omega) _ _ (by simp [keep]) rfl⟩
   by_cases e:i'=i
   ·subst e; exact j6 k' (by omega) h
   ·exact j5 i' k' (by have:i'<i+1:=h1; omega) h2 h
 ·have hiN:i=N:=by omega
  have hbr:fnC N b r:=fun x y hx hy h=>by
   rcases Nat.lt_trichotomy x y with hlt | rfl | hlt
   ·exact Eq.symm (i5 y x (by omega) hlt (Eq.symm h))
   ·exact rfl
   ·exact i5 x y (by omega) hlt h
  refine (p87 T N hT hN r i1 true).give (id:=0) rfl (.cons Imm.still (.cons (Imm.refn (solo_get rfl) i1.symm) (.cons (.bool _ _) (.nil _)))) ?_
  rw [hfin r i1 i2 i3 hbr]
  try simp only [go_sem]
  exact Kv.Fin.freeze .still ⟨rfl,rfl⟩
noncomputable def genA (T:List (List Int)) (N a:Nat):List (List Int):=(List.range a).flatMap fun a=>(List.range a).map fun b=>cgP T N b a
theorem genA_succ (T:List (List Int)) (N a:Nat):genA T N (a+1)=genA T N a ++ (List.range a).map fun b=>cgP T N b a:=by
 unfold genA; rw [List.range_succ,List.flatMap_append]; simp
theorem genA_len (T:List (List Int)) (N:Nat):∀ a,(genA T N a).length≤a * a
 | 0=>by simp [genA]
 | a+1=>by
  have:=genA_len T N a
  rw [genA_succ,List.length_append,List.length_map,List.length_range,Nat.succ_mul,Nat.mul_succ]; omega
theorem srtG_le (L:List (List Int)):(srtG L).length≤L.length:=by
 have key:∀ (L S:List (List Int)),(L.foldl putG S).length≤S.length+L.length:=fun L=>by
  induction L with
  | nil=>exact fun S=>Nat.le_refl _
  | cons a L ih =>
   intro S
   have h1:=ih (putG S a)
   have h2:=putG_len (S:=S) a
   show (L.foldl putG (putG S a)).length≤_
   rw [List.length_cons]
   split at h2 <;> omega
 have:=key L []
 simpa [srtG] using this
theorem cg_root {T:List (List Int)} {N a b:Nat} (hb:b<N) (ha:a<N):nz (lfC N (PC T N true (eqC (jnC (trvC N) (b:Int) (a:Int)))))=cgP T N b a:=by
 have hl:(trvC N).length=N:=(trv_cn N).len
 have e1:=trv_get (N:=N) hb
 have e2:=trv_get (N:=N) ha
 unfold cgP
 rw [lfC_congr fun s=>?_]
 constructor
 ·rintro ⟨g1,g2⟩
  refine ⟨g1,fun i j hi hj h=>?_⟩
  obtain ⟨rfl,rfl⟩:=h
  refine g2 i j hi hj ?_
  have:=jnC_eq (r:=trvC N) (x:=i) (y:=j) (by omega) (by omega)
  rwa [e1,e2] at this
 ·rintro ⟨g1,g2⟩
  refine ⟨g1,fun i j hi hj h=>?_⟩
  have:=jnC_min (r:=trvC N) (s:=s) (fun i j hi hj h=>by
   rw [hl] at hi hj
   rw [trv_eq hi hj] at h; subst h; exact rfl) (x:=b) (y:=a) (by omega) (by omega) (g2 b a hb ha ⟨rfl,rfl⟩)
  rw [e1,e2,hl] at this
  exact this i j hi hj h
theorem p99 (T:List (List Int)) (N:Nat) (hT:TblC T N) (hN:N≤300):Pure Tryz.prog 99 [.list (rows T)] (.list (rows (onesC T N))):=by
 have hTl:=hT.len
 have hcn:∀ a b,CnC N (cgP T N b a):=fun a b=>(lfC_lea hT true fun i j=>i=b∧j=a).2
 have hcs:∀ a b,∀ x∈srtG (genA T N a ++ (List.range b).map fun b=>cgP T N b a),CnC N x:=fun a b x hx=>by
  have hx:=((srtG_ok _).2 x).1 hx
  rcases List.mem_append.1 hx with hx | hx
  ·unfold genA at hx
   simp only [List.mem_flatMap,List.mem_map] at hx
   obtain ⟨a',_,b',_,rfl⟩:=hx
   exact hcn _ _
  ·obtain ⟨b',_,rfl⟩:=List.mem_map.1 hx
   exact hcn _ _
 have hle:∀ a b,a<N→b≤a→(srtG (genA T N a ++ (List.range b).map fun b=>cgP T N b a)).length≤100000:=fun a b ha hb=>by
  have h1:=srtG_le (genA T N a ++ (List.range b).map fun b=>cgP T N b a)
  have h2:=genA_len T N a
  have h3:a * a≤300 * 300:=Nat.mul_le_mul (by omega) (by omega)
  rw [List.length_append,List.length_map,List.length_range] at h1
  omega
 have hs0:∀ a,genA T N a ++ (List.range 0).map (fun b=>cgP T N b a)=genA T N a:=fun a=>by simp
 have hsn:∀ a b,srtG (genA T N a ++ (List.range (b+1)).map fun b=>cgP T N b a)=putG (srtG (genA T N a ++ (List.range b).map fun b=>cgP T N b a)) (cgP T N b a):=fun a b=>by
  rw [List.range_succ,List.map_append,← List.append_assoc]; exact srtG_snoc _ _
 unfold onesC
 rw [show genC T N=genA T N N from rfl]
 refine e99 (by simp) fun _ _=>?_
 simp only [k99,argEnv,go_sem]
 refine KL_ind k99_b1.eq_1 (fun y:Nat × Heap=>[(0,.list (rows T)),(3,.list (rows (srtG (genA T N y.1)))),(4,.int .i64 y.1)]) (fun y=>y.2) (fun y=>y.1≤N) (fun y=>N - y.1) [0,3,4] (0,[]) (by simp [keep,genA,srtG]; rfl) rfl (Nat.zero_le _) fun ⟨a,X⟩ ha ih=>?_
 simp only at ha
 try simp only [hTl,go_sem]
 refine ⟨fun g1=>?_,fun g1=>?_⟩
 ·have haN:a<N:=by omega
  refine KL_ind k99_b0.eq_1 (fun y:Nat × Heap=>[(0,.list (rows T)),(3,.list (rows (srtG (genA T N a ++ (List.range y.1).map fun b=>cgP T N b a)))),(4,.int .i64 a),(5,.int .i64 y.1)]) (fun y=>y.2) (fun y=>y.1≤a) (fun y=>a - y.1) [0,3,4,5] (0,X) (by simp [keep]) rfl (Nat.zero_le _) fun ⟨b,X⟩ hb ihb=>?_
  simp only at hb
  try simp only [hTl,go_sem]
  refine ⟨fun g2=>?_,fun g2=>?_⟩
  ·have hbN:b<N:=by omega
   refine (p100 N (by omega)).go fun v s ⟨hv,hs⟩=>?_
   subst hv; subst hs
   have e0:nz (List.range N)=trvC N:=rfl
   rw [e0]
   have hid:(X ++ [AObj.arr N 2 1 (ints (trvC N))])[X.length]? = some (AObj.arr N 2 1 (ints (trvC N))):=by simp
   have hlen:=(trv_cn N).len
   try simp only [ren_ref,ren_arr,ren_ints,sh_def,Nat.zero_add,go_sem]
   refine p154 (trvC N) hid (by omega) _ _ hlen.symm ?_
   try simp only [go_sem]
   have hid2:(X ++ [AObj.arr N 2 1 (ints (jnC (trvC N) (b:Int) (a:Int)))])[X.length]? = some (AObj.arr N 2 1 (ints (jnC (trvC N) (b:Int) (a:Int)))):=by simp
   have hjl:(jnC (trvC N) (b:Int) (a:Int)).length=N:=by rw [jnC_len]; exact hlen
   refine (p87 T N hT hN _ hjl true).give (id:=X.length) hid2 (.cons Imm.still (.cons (Imm.refn (solo_get hid2) hjl.symm) (.cons (.bool _ _) (.nil _)))) ?_
   rw [cg_root hbN haN]
   have hP:=p102 hN (srtG (genA T N a ++ (List.range b).map fun b=>cgP T N b a)) (cgP T N b a) (hcs a b) (hcn a b) (hle a b haN hb)
   rw [← hsn] at hP
   try simp only [go_sem]
   refine hP.go ?_
   try simp only [go_sem]
   exact ⟨by omega,ihb (b+1,_) (by show b+1≤a; omega) (by show a - (b+1)<a - b; omega) _ _ (by simp [keep,List.range_succ]) rfl⟩
  ·have hba:b=a:=by omega
   subst hba
   exact ⟨by omega,ih (b+1,X) (by show b+1≤N; omega) (by show N - (b+1)<N - b; omega) _ _ (by simp [keep,genA_succ]) rfl⟩
 ·have haN:a=N:=by omega
  subst haN
  exact Kv.Fin.freeze .still ⟨rfl,rfl⟩
end
end
section
section
variable {e:TypeId} {σ:Heap} {lo hi:Nat} {v:PV} {l:List (List Int)}
theorem OwnA.append (h:OwnA e σ 0 σ.length v l) (τ:Heap):OwnA e (σ ++ τ) 0 (σ ++ τ).length v l:=by
 cases h with
 | nil=>exact .nil
 | own id ver l post h h6 h1=>exact .own id ver l post ((List.getElem?_append_left h1.2).trans h) h6 ⟨h1.1,by rw [List.length_append]; omega⟩
theorem Free.set {σ:Heap} (h:Free σ) (i:Nat) {o:AObj} (ho:AObj.free o):Free (σ.set i o):=fun p hp=>by
 rcases List.mem_or_eq_of_mem_set hp with hp | rfl
 ·exact h p hp
 ·exact ho
end
end
section
section
attribute [local irreducible] ACall PCall KL
def ords (n:Nat):Nat→List Nat→List (List Nat)
 | 0,p=>[p]
 | d+1,p=>((List.range n).map fun q=>if q∈p then [] else ords n d (p ++ [q])).flatten
theorem ords_mem (n:Nat):∀ (d:Nat) (p:List Nat),(∀ x∈p,x<n)→∀ f∈ords n d p,f.length=p.length+d∧∀ x∈f,x<n
 | 0,p,hp,f,hf=>by
  simp only [ords,List.mem_singleton] at hf
  subst hf; exact ⟨rfl,hp⟩
 | d+1,p,hp,f,hf=>by
  simp only [ords,List.mem_flatten,List.mem_map,List.mem_range] at hf
  obtain ⟨l,⟨q,hq,rfl⟩,hf⟩:=hf
  split at hf
  ·simp at hf
  ·obtain ⟨h1,h2⟩:=ords_mem n d (p ++ [q]) (fun x hx=>by
    rcases List.mem_append.1 hx with hx | hx
    ·exact hp x hx
    ·simp at hx; omega) f hf
   exact ⟨by simp at h1; omega,h2⟩
def wds (n:Nat):Nat→List (List Nat)
 | 0=>[[]]
 | d+1=>((List.range n).map fun q=>(wds n d).map (q :: ·)).flatten
theorem dg_mod (n:Nat) (hn:1≤n):∀ (d k q:Nat),dg n d (q * n ^ d+k)=dg n d k
 | 0,k,q=>rfl
 | d+1,k,q=>by
  have hp:0<n ^ d:=Nat.pow_pos hn
  have e:q * n ^ (d+1)+k=(q * n) * n ^ d+k:=by rw [Nat.pow_succ,Nat.mul_assoc,Nat.mul_comm n]
  simp only [dg]
  rw [e,dg_mod n hn d k (q * n)]
  congr 1
  rw [Nat.add_comm,Nat.add_mul_div_right _ _ hp,Nat.add_mul_mod_self_right]
theorem range_mul (a b:Nat):List.range (a * b)=((List.range a).map fun q=>(List.range b).map fun k=>q * b+k).flatten:=by
 induction a with
 | zero=>simp
 | succ a ih =>
  rw [Nat.succ_mul,List.range_add,ih,List.range_succ,List.map_append,List.flatten_append]
  simp
theorem wds_dg (n:Nat) (hn:1≤n):∀ d,(List.range (n ^ d)).map (dg n d)=wds n d
 | 0=>rfl
 | d+1=>by
  have hp:0<n ^ d:=Nat.pow_pos hn
  rw [Nat.pow_succ,Nat.mul_comm,range_mul,wds,← wds_dg n hn d,List.map_flatten,List.map_map]
  congr 1
  refine List.map_congr_left fun q hq=>?_
  rw [List.mem_range] at hq
  simp only [Function.comp_def,List.map_map]
  refine List.map_congr_left fun k hk=>?_
  rw [List.mem_range] at hk
  show dg n (d+1) (q * n ^ d+k)=q :: dg n d k
  simp only [dg]
  rw [dg_mod n hn d k q,Nat.add_comm,Nat.add_mul_div_right _ _ hp,Nat.div_eq_of_lt hk,Nat.zero_add,Nat.mod_eq_of_lt hq]
def prm (n:Nat):List (List Nat):=(allM n).filter fun f=>decide f.Nodup
theorem Imm.refa' {σ:Heap} {id ver k:Nat} {e:TypeId} {n:Nat} {l:List (List Int)} (h:σ[id]? = some (.arr ver e n (aggs l))) (hk:k=l.length):Imm σ (.ref id ver 0 k) (.list (aggs l)):=hk ▸ Imm.refa h
theorem wds_mem (n:Nat):∀ f:List Nat,(∀ x∈f,x<n)→f∈wds n f.length
 | [],_=>by simp [wds]
 | a :: f,h=>by
  simp only [List.length_cons,wds,List.mem_flatten,List.mem_map,List.mem_range]
  exact ⟨_,⟨a,h a (by simp),rfl⟩,List.mem_map.2 ⟨f,wds_mem n f fun x hx=>h x (by simp [hx]),rfl⟩⟩
theorem allM_mem {n:Nat} (hn:1≤n) {f:List Nat} (hl:f.length=n) (h:∀ x∈f,x<n):f∈allM n:=by
 have:=wds_mem n f h
 rw [hl,← wds_dg n hn n] at this
 exact this
end
end
end Go.Proofs.YtcfmmmloeaggmaaGreat
section

end
namespace Go.Proofs.YtcfmmmloeaggmaaGreat
open Go.Kv
set_option linter.unusedVariables false
set_option linter.unusedSimpArgs false
section
section
attribute [local irreducible] ACall PCall KL
def kept (f:List Nat) (n x:Nat):Nat:=(((prm n).take x).filter fun g=>decide (mul f g=mul g f)).length
end
end
section
section
set_option maxRecDepth 100000
def k184_b0:KC:=(.seq (.seq (.ops [mV 16 5,oP 17 (.fieldA 0 (.t 2)),oP 18 (.load false 1 (.t 17)),oP 19 (.bin .lss (.t 16) (.t 18))])
 (.cond (.t 19) .skip (.exit 0)))
 (.seq (.block 1 (.seq (.draw [mV 22 5,oP 23 (.fieldA 1 (.t 2)),oP 24 (.idxA 5 1 (.t 23) (.t 22)),oP 25 (.load false 1 (.t 24)),mV 26 5,oP 27 (.fieldA 1 (.t 3)),oP 28 (.idxA 5 1 (.t 27) (.t 26)),oP 29 (.load false 1 (.t 28)),oP 30 (.bin .neq (.t 25) (.t 29))])
 (.cond (.t 30) (.seq (.draw [mV 31 5,oP 32 (.fieldA 1 (.t 2)),oP 33 (.idxA 5 1 (.t 32) (.t 31)),oP 34 (.load false 1 (.t 33)),mV 35 5,oP 36 (.fieldA 1 (.t 3)),oP 37 (.idxA 5 1 (.t 36) (.t 35)),oP 38 (.load false 1 (.t 37)),oP 39 (.bin .lss (.t 34) (.t 38)),mV 4 39])
 .ret) .skip)))
 (.ops [mV 20 5,oP 21 (.bin .add (.t 20) (iC 1)),mV 5 21])))
def k184:KC:=(.seq (.ops [oP 2 (.box true (.t 0)),oP 3 (.box true (.t 1)),oP 4 (.mv (.c (.bool false)))])
 (.seq (.seq (.ops [oP 6 (.fieldA 0 (.t 2)),oP 7 (.load false 1 (.t 6)),oP 8 (.fieldA 0 (.t 3)),oP 9 (.load false 1 (.t 8)),oP 10 (.bin .neq (.t 7) (.t 9))])
 (.cond (.t 10) (.seq (.ops [oP 11 (.fieldA 0 (.t 2)),oP 12 (.load false 1 (.t 11)),oP 13 (.fieldA 0 (.t 3)),oP 14 (.load false 1 (.t 13)),oP 15 (.bin .lss (.t 12) (.t 14)),mV 4 15])
 .ret) .skip))
 (.seq (.seq (.ops [oP 5 (.mv (iC 0))])
 (.block 0 (.loop k184_b0)))
 (.seq (.ops [oP 4 (.mv (.c (.bool false)))])
 .ret))))
theorem e184:Ent 184 40 [2,3] [.t 4] k184:=ent Tryz.func184
end
section
attribute [local irreducible] ACall PCall KL
def inv (p:List Nat):List Nat:=(List.range p.length).map fun y=>p.idxOf y
def invS (p:List Nat) (b:Nat→Nat) (i:Nat):List Nat:=(List.range p.length).map fun y=>if y∈p.take i then p.idxOf y else b y
@[simp] theorem invS_length (p:List Nat) (b:Nat→Nat) (i:Nat):(invS p b i).length=p.length:=by simp [invS]
def rnm (f p:List Nat):List Nat:=mul (mul (inv p) f) p
def cmpL:List Int→List Int→Int
 | a :: xs,b :: ys=>if a<b then -1 else if b<a then 1 else cmpL xs ys
 | _,_=>0
theorem cmpL_same:∀ l,cmpL l l=0
 | []=>rfl
 | a :: l=>by simp [cmpL,cmpL_same l]
theorem cmpL_app:∀ (xs ys zs:List Int),xs.length=ys.length→cmpL (xs ++ zs) (ys ++ zs)=cmpL xs ys
 | [],[],zs,_=>by simp [cmpL,cmpL_same]
 | a :: xs,b :: ys,zs,h=>by
  simp only [List.cons_append,cmpL]
  rw [cmpL_app xs ys zs (by simpa using h)]
 | [],_ :: _,_,h=>by simp at h
 | _ :: _,[],_,h=>by simp at h
theorem cmpL_drop {xs ys:List Int} {i:Nat} (h1:i<xs.length) (h2:i<ys.length):cmpL (xs.drop i) (ys.drop i)=if xs.getD i 0<ys.getD i 0 then -1 else if ys.getD i 0<xs.getD i 0 then 1 else cmpL (xs.drop (i+1)) (ys.drop (i+1)):=by
 rw [List.drop_eq_getElem_cons h1,List.drop_eq_getElem_cons h2,cmpL]
 simp [List.getD_eq_getElem?_getD,h1,h2]
def ltM (f g:List Nat):Bool:=decide (cmpL (f.map fun x:Nat=>(x:Int)) (g.map fun x:Nat=>(x:Int))<0)
theorem p184 (f g:List Nat) (n:Nat) (hf:Ok f n) (hg:Ok g n):Pure Tryz.prog 184 [.agg (ints (mp f)),.agg (ints (mp g))] (.bool (ltM f g)):=by
 have hlf:=hf.mp_len
 have hlg:=hg.mp_len
 have h5:=hf.le
 have hml:(f.map fun x:Nat=>(x:Int)).length=n:=by simp [hf.len]
 have hmg:(g.map fun x:Nat=>(x:Int)).length=n:=by simp [hg.len]
 have hgf:∀ x,x<n→(f.map fun x:Nat=>(x:Int)).getD x 0=(f.getD x 0:Int):=fun x _=>natD f x
 have hgg:∀ x,x<n→(g.map fun x:Nat=>(x:Int)).getD x 0=(g.getD x 0:Int):=fun x _=>natD g x
 refine e184 (by simp) fun _ _=>?_
 simp only [k184,argEnv,hlf,hlg,hf.len,hg.len,go_sem]
 refine KL_ind k184_b0.eq_1 (fun x:Nat=>[(2,.fptr (ints (mp f)) 0),(3,.fptr (ints (mp g)) 0),(5,.int .i64 x)]) (fun _=>[]) (fun x=>x≤n∧cmpL (f.map fun x:Nat=>(x:Int)) (g.map fun x:Nat=>(x:Int))=cmpL ((f.map fun x:Nat=>(x:Int)).drop x) ((g.map fun x:Nat=>(x:Int)).drop x)) (fun x=>n - x) [2,3,5] 0 (by simp [keep]) rfl ⟨Nat.zero_le _,by simp⟩ fun x ⟨hx,hc⟩ ih=>?_
 try simp only [hlf,hlg,hf.len,hg.len,go_sem]
 refine ⟨fun h1=>?_,fun h1=>?_⟩
 ·have hxn:x<n:=by omega
  have hd:=cmpL_drop (xs:=f.map fun x:Nat=>(x:Int)) (ys:=g.map fun x:Nat=>(x:Int)) (i:=x) (by omega) (by omega)
  rw [hgf x hxn,hgg x hxn] at hd
  refine ⟨by omega,by omega,fun _=>⟨by omega,by omega,fun _=>⟨fun h2=>⟨by omega,by omega,fun _=>⟨by omega,by omega,fun _=>Kv.Fin.still ⟨?_,rfl⟩⟩⟩,fun h2=>⟨by omega,ih (x+1) ⟨by omega,?_⟩ (by omega) _ _ (by simp [keep]) rfl⟩⟩⟩⟩
  ·unfold ltM
   rw [hc,hd]
   by_cases h3:(f.getD x 0:Int)<g.getD x 0
   ·rw [if_pos h3]; simp only [h3]; rfl
   ·rw [if_neg h3,if_pos (by omega)]; simp only [h3]; rfl
  ·rw [hc,hd,if_neg (by omega),if_neg (by omega)]
 ·obtain rfl:x=n:=by omega
  have e:cmpL (f.map fun x:Nat=>(x:Int)) (g.map fun x:Nat=>(x:Int))=0:=by
   rw [hc,List.drop_of_length_le (by omega),List.drop_of_length_le (by omega)]; rfl
  refine Kv.Fin.still ⟨?_,rfl⟩
  unfold ltM; rw [e]; rfl
end
end
section
section
attribute [local irreducible] ACall PCall KL
def lsf (f:List Nat) (L:List (List Nat)):List Nat:=L.foldl (fun b p=>if ltM (rnm f p) b=true then rnm f p else b) f
end
end
section
section
attribute [local irreducible] ACall PCall KL
def nbl (n:Nat):List Nat→Nat
 | []=>0
 | a :: r=>a * n ^ r.length+nbl n r
theorem nbl_lt {n:Nat}:∀ {l:List Nat},(∀ x∈l,x<n)→nbl n l<n ^ l.length
 | [],_=>by simp [nbl]
 | a :: r,h=>by
  have h1:=nbl_lt (l:=r) fun x hx=>h x (by simp [hx])
  have h2:=h a (by simp)
  simp only [nbl,List.length_cons,Nat.pow_succ]
  have h3:(a+1) * n ^ r.length≤n * n ^ r.length:=Nat.mul_le_mul_right _ h2
  rw [Nat.succ_mul] at h3
  rw [Nat.mul_comm (n ^ r.length) n]
  omega
theorem cmp_nbl {n:Nat}:∀ (f g:List Nat),f.length=g.length→(∀ x∈f,x<n)→(∀ x∈g,x<n)→(cmpL (f.map fun x:Nat=>(x:Int)) (g.map fun x:Nat=>(x:Int))<0↔nbl n f<nbl n g)
 | [],[],_,_,_=>by simp [cmpL]
 | [],_ :: _,h,_,_=>by simp at h
 | _ :: _,[],h,_,_=>by simp at h
 | a :: r,b :: s,h,hf,hg=>by
  have hl:r.length=s.length:=by simpa using h
  have ih:=cmp_nbl r s hl (fun x hx=>hf x (by simp [hx])) (fun x hx=>hg x (by simp [hx]))
  have h1:=nbl_lt (l:=r) fun x hx=>hf x (by simp [hx])
  have h2:=nbl_lt (l:=s) fun x hx=>hg x (by simp [hx])
  simp only [List.map_cons,cmpL,nbl]
  rw [hl] at h1 ⊢
  by_cases e1:a<b
  ·have h3:(a+1) * n ^ s.length≤b * n ^ s.length:=Nat.mul_le_mul_right _ e1
   rw [Nat.succ_mul] at h3
   rw [if_pos (by omega)]
   constructor
   ·intro _; omega
   ·intro _; omega
  ·by_cases e2:b<a
   ·have h3:(b+1) * n ^ s.length≤a * n ^ s.length:=Nat.mul_le_mul_right _ e2
    rw [Nat.succ_mul] at h3
    rw [if_neg (by omega),if_pos (by omega)]
    constructor
    ·intro h; omega
    ·intro _; omega
   ·obtain rfl:a=b:=by omega
    rw [if_neg (by omega),if_neg (by omega),ih]
    omega
theorem ltM_nbl {f g:List Nat} {n:Nat} (hf:Ok f n) (hg:Ok g n):ltM f g=true↔nbl n f<nbl n g:=by
 unfold ltM
 rw [decide_eq_true_iff]
 exact cmp_nbl f g (by rw [hf.len,hg.len]) hf.lt hg.lt
theorem nbl_dg {n:Nat} (hn:1≤n):∀ j k,nbl n (dg n j k)=k % n ^ j
 | 0,k=>by simp [dg,nbl,Nat.mod_one]
 | j+1,k=>by
  simp only [dg,nbl,dg_length,nbl_dg hn j k]
  rw [Nat.pow_succ,Nat.mod_mul,Nat.mul_comm,Nat.add_comm]
theorem nbl_at {n k:Nat} (hn:1≤n) (hk:k<n ^ n):nbl n (dg n n k)=k:=by rw [nbl_dg hn,Nat.mod_eq_of_lt hk]
theorem dg_nbl {n:Nat} {f:List Nat} (hf:Ok f n):nbl n f<n ^ n∧dg n n (nbl n f)=f:=by
 have h:=allM_mem hf.pos hf.len hf.lt
 simp only [allM,List.mem_map,List.mem_range] at h
 obtain ⟨k,hk,rfl⟩:=h
 rw [nbl_at hf.pos hk]
 exact ⟨hk,rfl⟩
theorem nbl_inj {n:Nat} {f g:List Nat} (hf:Ok f n) (hg:Ok g n) (h:nbl n f=nbl n g):f=g:=by
 rw [← (dg_nbl hf).2,h,(dg_nbl hg).2]
def rep (n k:Nat):Bool:=decide (lsf (dg n n k) (prm n)=dg n n k)
end
end
end Go.Proofs.YtcfmmmloeaggmaaGreat
