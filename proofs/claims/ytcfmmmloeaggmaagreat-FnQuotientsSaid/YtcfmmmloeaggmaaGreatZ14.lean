/- Several texts of this session as one, less what the claim does not need. -/
import Derived.Test.YtcfmmmloeaggmaaGreatCb
import Derived.Test.YtcfmmmloeaggmaaGreatZ11
import Derived.Test.YtcfmmmloeaggmaaGreatZ13
import Derived.Test.YtcfmmmloeaggmaaGreatZ6
import Derived.Test.YtcfmmmloeaggmaaGreatZ9
import Derived.Test.YtcfmmmloeaggmaaGreatZ7
namespace Go.Proofs.YtcfmmmloeaggmaaGreat
open Go.Kv
set_option linter.unusedVariables false
set_option linter.unusedSimpArgs false
section
section
set_option maxRecDepth 100000
def k91_b0:KC:=(.seq (.ops [oP 13 (.bin .lss (.t 12) (.t 11))])
 (.seq (.cond (.t 13) .skip (.exit 2))
 (.seq (.block 3 (.seq (.ops [mV 14 12,mV 5 14])
 (.ops [mV 15 3,mV 16 0,mV 17 5,mV 18 4,oP 19 (.bsl true 2 1 [(.t 17),(.t 18)]),oP 20 (.bsl true 25 1 [(.t 19)]),oP 21 (.call (fC 160) [(.t 16),(.t 20),(.c (.bool true))]),oP 22 (.bsl true 25 1 [(.t 21)]),oP 23 (.app (.t 15) (.t 22) 25 1),mV 3 23])))
 (.ops [oP 24 (.bin .add (.t 12) (iC 1)),mV 12 24]))))
def k91_b1:KC:=(.seq (.ops [oP 9 (.bin .lss (.t 8) (.t 7))])
 (.seq (.cond (.t 9) .skip (.exit 0))
 (.seq (.block 1 (.seq (.ops [mV 10 8,mV 4 10])
 (.seq (.ops [mV 11 4,oP 12 (.mv (iC 0))])
 (.block 2 (.loop k91_b0)))))
 (.ops [oP 25 (.bin .add (.t 8) (iC 1)),mV 8 25]))))
def k91:KC:=(.seq (.ops [oP 2 (.mv (.c (.nils)))])
 (.seq (.ops [oP 3 (.mv (.c (.nils)))])
 (.seq (.seq (.ops [mV 6 0,oP 7 (.len false (.t 6)),oP 8 (.mv (iC 0))])
 (.block 0 (.loop k91_b1)))
 (.seq (.ops [mV 26 3,oP 27 (.call (fC 97) [(.t 26)]),mV 2 27])
 .ret))))
theorem e91:Ent 91 28 [19,20,22] [.t 2] k91:=ent Tryz.func91
def k37:KC:=(.seq (.ops [oP 2 (.mv (.c (.nils))),oP 3 (.mv (iC 0))])
 (.seq (.ops [mV 7 0,oP 8 (.call (fC 90) [(.t 7)]),mV 6 8,oP 9 (.extr 0 (.t 6)),oP 10 (.extr 1 (.t 6)),mV 4 9,mV 5 10])
 (.seq (.seq (.ops [mV 11 5,oP 12 (.bin .neq (.t 11) (iC 0))])
 (.cond (.t 12) (.seq (.ops [mV 13 5,oP 2 (.mv (.c (.nils))),mV 3 13])
 .ret) .skip))
 (.seq (.ops [mV 14 4,oP 15 (.call (fC 91) [(.t 14)]),mV 2 15,oP 3 (.mv (iC 0))])
 .ret))))
theorem e37:Ent 37 16 [] [.t 2,.t 3] k37:=ent Tryz.func37
def k93_b0:KC:=(.seq (.ops [oP 23 (.bin .lss (.t 22) (.t 21))])
 (.seq (.cond (.t 23) .skip (.exit 2))
 (.seq (.block 3 (.seq (.ops [mV 24 22,oP 25 (.idxS 1 (.t 20) (.t 22)),oP 26 (.load false 1 (.t 25)),mV 10 24,mV 11 26])
 (.ops [mV 27 7,mV 28 10,mV 29 9,mV 30 11,oP 31 (.call (fC 84) [(.t 29),(.t 30)]),oP 32 (.bsl true 2 1 [(.t 28),(.t 31)]),oP 33 (.bsl true 25 1 [(.t 32)]),oP 34 (.app (.t 27) (.t 33) 25 1),mV 7 34])))
 (.ops [oP 35 (.bin .add (.t 22) (iC 1)),mV 22 35]))))
def k93_b1:KC:=(.seq (.ops [oP 17 (.bin .lss (.t 16) (.t 15))])
 (.seq (.cond (.t 17) .skip (.exit 0))
 (.seq (.block 1 (.seq (.ops [oP 18 (.idxS 1 (.t 14) (.t 16)),oP 19 (.load false 1 (.t 18)),mV 9 19])
 (.seq (.ops [mV 20 9,oP 21 (.len false (.t 20)),oP 22 (.mv (iC 0))])
 (.block 2 (.loop k93_b0)))))
 (.ops [oP 36 (.bin .add (.t 16) (iC 1)),mV 16 36]))))
def k93:KC:=(.seq (.ops [oP 6 (.mv (.c (.nils)))])
 (.seq (.ops [oP 7 (.mv (.c (.nils)))])
 (.seq (.seq (.ops [mV 12 1,mV 13 2,oP 14 (.bsl true 25 1 [(.t 12),(.t 13)]),oP 15 (.len false (.t 14)),oP 16 (.mv (iC 0))])
 (.block 0 (.loop k93_b1)))
 (.seq (.ops [mV 37 0,mV 38 7,oP 39 (.call (fC 160) [(.t 37),(.t 38),(.c (.bool true))]),mV 6 39])
 .ret))))
theorem e93:Ent 93 40 [14,32,33] [.t 6] k93:=ent Tryz.func93
def k104_b0:KC:=(.seq (.ops [oP 10 (.bin .lss (.t 9) (.t 8))])
 (.seq (.cond (.t 10) .skip (.exit 0))
 (.seq (.block 1 (.seq (.ops [mV 11 9,oP 12 (.idxS 1 (.t 7) (.t 9)),oP 13 (.load false 1 (.t 12)),mV 5 11,mV 6 13])
 (.seq (.draw [mV 14 1,mV 15 0,mV 16 6,mV 20 1,mV 21 5,oP 22 (.idxS 1 (.t 20) (.t 21)),oP 23 (.load false 1 (.t 22)),oP 17 (.pcall (fC 84) [(.t 15),(.t 16)]),oP 18 (.idxS 1 (.t 14) (.t 17)),oP 19 (.load false 1 (.t 18)),oP 24 (.bin .neq (.t 19) (.t 23))])
 (.cond (.t 24) (.seq (.ops [oP 4 (.mv (.c (.bool false)))])
 .ret) .skip))))
 (.ops [oP 25 (.bin .add (.t 9) (iC 1)),mV 9 25]))))
def k104:KC:=(.seq (.ops [oP 4 (.mv (.c (.bool false)))])
 (.seq (.seq (.ops [mV 7 0,oP 8 (.len false (.t 7)),oP 9 (.mv (iC 0))])
 (.block 0 (.loop k104_b0)))
 (.seq (.ops [oP 4 (.mv (.c (.bool true)))])
 .ret)))
theorem e104:Ent 104 26 [] [.t 4] k104:=ent Tryz.func104
end
section
attribute [local irreducible] ACall PCall KL
attribute [local go_sem] OpK_eq HKv
theorem cg_one {T:List (List Int)} {N a b:Nat}:nz (lfC N (PC T N true (pairC [[(b:Int),(a:Int)]])))=cgP T N b a:=by
 unfold cgP
 rw [lfC_congr fun s=>?_]
 have e:∀ i j:Nat,pairC [[(b:Int),(a:Int)]] i j↔i=b∧j=a:=fun i j=>by
  unfold pairC
  simp only [List.mem_singleton,List.cons.injEq,and_true]
  omega
 unfold PC
 simp only [e]
theorem p91A (T:List (List Int)) (N:Nat) (hT:TblC T N) (hN:1≤N∧N≤30):Pure Tryz.prog 91 [.list (rows T)] (if N=1 then .nils else .list (rows (onesC T N))):=by
 have hTl:=hT.len
 have hcn:∀ a b,CnC N (cgP T N b a):=fun a b=>(lfC_lea hT true fun i j=>i=b∧j=a).2
 have hmade:∀ a b,b<a→a<N→Pure Tryz.prog 160 [.list (rows T),.list [.list [.int .i64 (b:Int),.int .i64 (a:Int)]],.bool true] (.list (ints (cgP T N b a))):=fun a b hb ha=>by
  have:=p160 T N hT (by omega) [[(b:Int),(a:Int)]] (fun x hx=>⟨b,a,by omega,ha,by simpa using hx⟩) (by simp) true
  rw [cg_one] at this
  exact this
 unfold onesC
 rw [show genC T N=genA T N N from rfl]
 refine e91 (by simp) fun _ _=>?_
 simp only [k91,argEnv,hTl,go_sem]
 refine KL_ind k91_b1.eq_1 (fun a:Nat=>[(0,.list (rows T)),(3,nref 0 (genA T N a).length),(7,.int .i64 N),(8,.int .i64 a)]) (fun a=>nhp [.arr ((genA T N a).length - 1) 25 1 (rows (genA T N a))] (genA T N a).length) (fun a=>a≤N) (fun a=>N - a) [0,3,7,8] 0 (by simp [keep,genA,nref]) (by simp [genA,nhp]) (Nat.zero_le _) fun a ha ih=>?_
 try simp only [go_sem]
 refine ⟨fun g1=>?_,fun g1=>?_⟩
 ·have haN:a<N:=by omega
  refine KL_ind k91_b0.eq_1 (fun b:Nat=>[(0,.list (rows T)),(3,nref 0 (genA T N a ++ (List.range b).map fun b=>cgP T N b a).length),(4,.int .i64 a),(7,.int .i64 N),(8,.int .i64 a),(11,.int .i64 a),(12,.int .i64 b)]) (fun b=>nhp [.arr ((genA T N a ++ (List.range b).map fun b=>cgP T N b a).length - 1) 25 1 (rows (genA T N a ++ (List.range b).map fun b=>cgP T N b a))] (genA T N a ++ (List.range b).map fun b=>cgP T N b a).length) (fun b=>b≤a) (fun b=>a - b) [0,3,4,7,8,11,12] 0 (by simp [keep]) (by simp) (Nat.zero_le _) fun b hb ihb=>?_
  have hsn:genA T N a ++ (List.range (b+1)).map (fun b=>cgP T N b a)=(genA T N a ++ (List.range b).map fun b=>cgP T N b a) ++ [cgP T N b a]:=by
   rw [List.range_succ,List.map_append,← List.append_assoc]; rfl
  have hzl:(genA T N a ++ (List.range b).map fun b=>cgP T N b a).length≤N * N+N:=by
   have h2:=genA_len T N a
   have h3:a * a≤N * N:=Nat.mul_le_mul (by omega) (by omega)
   rw [List.length_append,List.length_map,List.length_range]; omega
  have hNN:N * N≤30 * 30:=Nat.mul_le_mul hN.2 hN.2
  have hend:b=a→genA T N a ++ (List.range b).map (fun b=>cgP T N b a)=genA T N (a+1):=fun e=>by
   subst e; rw [genA_succ]
  generalize genA T N a ++ (List.range b).map (fun b=>cgP T N b a)=Z at *
  try simp only [go_sem]
  refine ⟨fun g2=>?_,fun g2=>?_⟩
  ·have hbN:b<a:=by omega
   have hst:StillL [PV.list (rows T),.list [.list [.int .i64 (b:Int),.int .i64 (a:Int)]],.bool true]:=inferInstanceAs (StillL [.list (rows T),.list (rows [[(b:Int),(a:Int)]]),.bool true])
   refine (hmade a b hbN haN).go ?_
   have ihb:=ihb (b+1) (by omega) (by omega)
   rw [hsn] at ihb
   cases Z with
   | nil =>
    try simp only [go_sem]
    exact ⟨by omega,ihb _ _ (by simp [keep,nref]) rfl⟩
   | cons z Z =>
    rw [List.length_cons] at hzl
    have htk:List.take (Z.length+1) (z :: Z)=z :: Z:=List.take_of_length_le (by simp)
    try simp only [List.length_cons,htk,go_sem]
    exact ⟨⟨by omega,Nat.le_refl _,by omega⟩,by omega,ihb _ _ (by simp [keep,nref]) (by simp [nhp])⟩
  ·have hba:b=a:=by omega
   rw [hend hba]
   exact ⟨by omega,ih (a+1) (by omega) (by omega) _ _ (by simp [keep]) rfl⟩
 ·have haN:a=N:=by omega
  subst haN
  have hAc:∀ x∈genA T a a,CnC a x:=fun x hx=>by
   obtain ⟨a',b',_,_,rfl⟩:=genC_mem.1 (show x∈genC T a from hx)
   exact hcn _ _
  have hAl:=genA_len T a a
  have hNN:a * a≤30 * 30:=Nat.mul_le_mul hN.2 hN.2
  by_cases h1:a=1
  ·rw [if_pos h1]
   have e:genA T a a = []:=by subst h1; rfl
   rw [e]
   try simp only [go_sem]
   refine p97n.go ?_
   try simp only [go_sem]
   exact Kv.Fin.still ⟨rfl,rfl⟩
  ·rw [if_neg h1]
   have hpos:0<(genA T a a).length:=List.length_pos_of_mem (show cgP T a 0 1∈genC T a from genC_mem.2 ⟨1,0,by omega,by omega,rfl⟩)
   generalize genA T a a=Z at *
   rw [nref_pos hpos,nhp_pos hpos]
   refine p97 (N:=a) (by omega) Z hAc rfl hpos (by omega) rfl ?_
   try simp only [go_sem]
   exact Kv.Fin.freeze .still ⟨rfl,rfl⟩
theorem p37_bad {t:List (List Int)} {c:Int} (h:GxC t c):Pure Tryz.prog 37 [.list (aggs t)] (.tup [.nils,.int .i64 c]):=by
 refine e37 (by simp) fun _ _=>?_
 simp only [k37,argEnv,go_sem]
 refine h.ip.go ?_
 try simp only [go_sem]
 exact ⟨fun _=>Kv.Fin.still ⟨rfl,rfl⟩,fun e=>absurd e h.ne⟩
theorem GvC.pos {t T:List (List Int)} {N:Nat} (h:GvC t T N):1≤N:=by
 obtain ⟨n,S,hM,e⟩:=h.mon
 have h1:0<S.length:=List.length_pos_of_mem hM.one
 have h2:=h.tbl.len
 rw [e,tabM_len] at h2
 omega
noncomputable def oneV (T:List (List Int)) (N:Nat):PV:=if N=1 then .nils else .list (rows (onesC T N))
theorem p37_in {t T:List (List Int)} {N:Nat} (h:GvC t T N):Pure Tryz.prog 37 [.list (aggs t)] (.tup [oneV T N,.int .i64 0]):=by
 have hB:=p91A T N h.tbl ⟨h.pos,h.n30⟩
 unfold oneV
 by_cases e:N=1
 ·rw [if_pos e] at hB ⊢
  refine e37 (by simp) fun _ _=>?_
  simp only [k37,argEnv,go_sem]
  refine h.ip.go ?_
  try simp only [go_sem]
  refine hB.go ?_
  try simp only [go_sem]
  exact Kv.Fin.still ⟨rfl,rfl⟩
 ·rw [if_neg e] at hB ⊢
  refine e37 (by simp) fun _ _=>?_
  simp only [k37,argEnv,go_sem]
  refine h.ip.go ?_
  try simp only [go_sem]
  refine hB.go ?_
  try simp only [go_sem]
  exact Kv.Fin.still ⟨rfl,rfl⟩
theorem p104 (a b:List Int) {N:Nat} (ha:CnC N a) (hb:CnC N b) (hl:N≤1000):Pure Tryz.prog 104 [.list (ints a),.list (ints b)] (.bool (fnB a b)):=by
 have hal:=ha.len
 have hbl:=hb.len
 have hfin:∀ x,x=a.length→(∀ i,i<x→∀ q:Nat,idx (fun y=>decide (a.getD i 0=y)) a=q→b.getD q 0=b.getD i 0)→fnB a b=true:=fun x hx h=>fnB_iff.2 fun i j hi hj he=>by
  obtain ⟨q,hq,hql,hqe⟩:=idx_of hi
  have h1:=h i (by omega) q hq
  have h2:=h j (by omega) q (by rw [← show a.getD i 0=a.getD j 0 from he]; exact hq)
  exact h1.symm.trans h2
 have hbad:∀ i q,i<a.length→q<a.length→a.getD q 0=a.getD i 0→¬ b.getD q 0=b.getD i 0→fnB a b=false:=fun i q hi hq h1 h2=>fnB_false fun h=>h2 (h q i hq hi h1)
 generalize fnB a b=V at hfin hbad ⊢
 refine e104 (by simp) fun _ _=>?_
 simp only [k104,argEnv,hal,go_sem]
 refine KL_ind k104_b0.eq_1 (fun x:Nat=>[(0,.list (ints a)),(1,.list (ints b)),(7,.list (ints a)),(8,.int .i64 N),(9,.int .i64 x)]) (fun _=>[]) (fun x=>x≤N∧∀ i,i<x→∀ q:Nat,idx (fun y=>decide (a.getD i 0=y)) a=q→b.getD q 0=b.getD i 0) (fun x=>N - x) [0,1,7,8,9] 0 (by simp [keep]) rfl ⟨Nat.zero_le _,fun i h=>absurd h (Nat.not_lt_zero _)⟩ fun x ⟨hx,hs⟩ ih=>?_
 try simp only [hal,hbl,go_sem]
 refine ⟨fun g1=>?_,fun g1=>?_⟩
 ·have hxl:x<a.length:=by omega
  obtain ⟨q,hq,hql,hqe⟩:=idx_of hxl
  refine ⟨by omega,fun _=>⟨by omega,fun _=>(p84 a _ (by omega)).pgo ?_⟩⟩
  rw [hq]
  try simp only [hbl,go_sem]
  refine ⟨by omega,fun _=>⟨fun g3=>?_,fun g3=>⟨by omega,ih (x+1) ⟨by omega,fun i hi q' hq'=>?_⟩ (by omega) _ _ (by simp [keep]) rfl⟩⟩⟩
  ·exact Kv.Fin.still ⟨by rw [hbad x q hxl hql hqe g3],rfl⟩
  ·by_cases e:i=x
   ·subst e
    rw [hq] at hq'
    obtain rfl:q=q':=by omega
    exact g3
   ·exact hs i (by omega) q' hq'
 ·have hxl:x=a.length:=by omega
  exact Kv.Fin.still ⟨by rw [hfin x hxl hs],rfl⟩
def prsC (a:List Int):List (List Int):=(List.range a.length).map fun i:Nat=>[(i:Int),idx (fun y=>decide (a.getD i 0=y)) a]
theorem prs_mem {a:List Int} {N:Nat} (hl:a.length=N) {x:List Int} (h:x∈prsC a):∃ i j:Nat,i<N∧j<N∧x = [(i:Int),(j:Int)]∧a.getD j 0=a.getD i 0:=by
 unfold prsC at h
 obtain ⟨i,hi,rfl⟩:=List.mem_map.1 h
 have hi:=List.mem_range.1 hi
 obtain ⟨q,hq,hql,hqe⟩:=idx_of hi
 exact ⟨i,q,by omega,by omega,by rw [hq],hqe⟩
theorem prs_has {a:List Int} {i q:Nat} (hi:i<a.length) (hq:idx (fun y=>decide (a.getD i 0=y)) a=q):[(i:Int),(q:Int)]∈prsC a:=by
 unfold prsC
 exact List.mem_map.2 ⟨i,List.mem_range.2 hi,by rw [hq]⟩
theorem jg_prs {T:List (List Int)} {N:Nat} {a b:List Int} (ha:a.length=N) (hb:b.length=N):nz (lfC N (PC T N true (pairC (prsC a ++ prsC b))))=jgC T N a b:=by
 unfold jgC
 rw [lfC_congr fun s=>?_]
 have key:∀ c:List Int,c.length=N→(∀ x∈prsC c,x∈prsC a ++ prsC b)→(∀ i j,i<N→j<N→pairC (prsC a ++ prsC b) i j→eqC s i j)→∀ i j,i<N→j<N→eqC c i j→eqC s i j:=fun c hc hin g i j hi hj h=>by
  obtain ⟨q,hq,hql,hqe⟩:=idx_of (show i<c.length by omega)
  have h1:=hin _ (prs_has (show i<c.length by omega) hq)
  have h2:=hin _ (prs_has (show j<c.length by omega) (by rw [← show c.getD i 0=c.getD j 0 from h]; exact hq))
  exact (g i q hi (by omega) h1).trans (g j q hj (by omega) h2).symm
 constructor
 ·rintro ⟨g1,g2⟩
  refine ⟨g1,fun i j hi hj h=>?_⟩
  rcases h with h | h
  ·exact key a ha (fun x hx=>List.mem_append.2 (.inl hx)) g2 i j hi hj h
  ·exact key b hb (fun x hx=>List.mem_append.2 (.inr hx)) g2 i j hi hj h
 ·rintro ⟨g1,g2⟩
  refine ⟨g1,fun i j hi hj h=>?_⟩
  unfold pairC at h
  rcases List.mem_append.1 h with h | h
  ·obtain ⟨i',j',_,_,e,he⟩:=prs_mem ha h
   simp only [List.cons.injEq,and_true] at e
   obtain rfl:i=i':=by omega
   obtain rfl:j=j':=by omega
   exact g2 i j hi hj (.inl (Eq.symm he))
  ·obtain ⟨i',j',_,_,e,he⟩:=prs_mem hb h
   simp only [List.cons.injEq,and_true] at e
   obtain rfl:i=i':=by omega
   obtain rfl:j=j':=by omega
   exact g2 i j hi hj (.inr (Eq.symm he))
theorem prs_take {a:List Int} {x q:Nat} (hx:x<a.length) (hq:idx (fun y=>decide (a.getD x 0=y)) a=q):(prsC a).take (x+1)=(prsC a).take x ++ [[(x:Int),(q:Int)]]:=by
 rw [List.take_succ_eq_append_getElem (by simpa [prsC] using hx)]
 have:(prsC a)[x]'(by simpa [prsC] using hx) = [(x:Int),(q:Int)]:=by simp only [prsC,List.getElem_map,List.getElem_range,hq]
 rw [this]
theorem prs_len (a:List Int):(prsC a).length=a.length:=by simp [prsC]
theorem p93 (T:List (List Int)) (N:Nat) (hT:TblC T N) (hN:1≤N∧N≤300) (a b:List Int) (ha:a.length=N) (hb:b.length=N):Pure Tryz.prog 93 [.list (rows T),.list (ints a),.list (ints b)] (.list (ints (jgC T N a b))):=by
 have hM:=p160 T N hT hN (prsC a ++ prsC b) (fun x hx=>by
  rcases List.mem_append.1 hx with h | h
  ·obtain ⟨i,j,h1,h2,h3,_⟩:=prs_mem ha h
   exact ⟨i,j,h1,h2,h3⟩
  ·obtain ⟨i,j,h1,h2,h3,_⟩:=prs_mem hb h
   exact ⟨i,j,h1,h2,h3⟩) (by rw [List.length_append,prs_len,prs_len]; omega) true
 rw [jg_prs ha hb] at hM
 refine e93 (by simp) fun _ _=>?_
 simp only [k93,argEnv,go_sem]
 refine KL_ind k93_b1.eq_1 (fun x:Nat=>[(0,.list (rows T)),(7,nref 0 (([a,b].take x).flatMap prsC).length),(14,.list (rows [a,b])),(15,.int .i64 2),(16,.int .i64 x)]) (fun x=>nhp [.arr ((([a,b].take x).flatMap prsC).length - 1) 25 1 (rows (([a,b].take x).flatMap prsC))] (([a,b].take x).flatMap prsC).length) (fun x=>x≤2) (fun x=>2 - x) [0,7,14,15,16] 0 (by simp [keep,rows,nref]) (by simp [nhp]) (by omega) fun x hx ih=>?_
 try simp only [go_sem]
 refine ⟨fun g1=>?_,fun g1=>?_⟩
 ·have hx2:x<2:=by omega
  have hcl:([a,b].getD x []).length=N:=by
   rcases x with _ | _ | x
   ·exact ha
   ·exact hb
   ·omega
  have hzl:(([a,b].take x).flatMap prsC).length≤300:=by
   rcases x with _ | _ | x
   ·simp
   ·simp [prs_len]; omega
   ·omega
  have hst:(([a,b].take (x+1)).flatMap prsC)=([a,b].take x).flatMap prsC ++ prsC ([a,b].getD x []):=by
   rcases x with _ | _ | x
   ·simp
   ·simp
   ·omega
  refine ⟨by omega,fun _=>?_⟩
  generalize ([a,b].take x).flatMap prsC=Z at *
  generalize [a,b].getD x []=c at *
  refine KL_ind k93_b0.eq_1 (fun i:Nat=>[(0,.list (rows T)),(7,nref 0 (Z ++ (prsC c).take i).length),(9,.list (ints c)),(14,.list (rows [a,b])),(15,.int .i64 2),(16,.int .i64 x),(20,.list (ints c)),(21,.int .i64 N),(22,.int .i64 i)]) (fun i=>nhp [.arr ((Z ++ (prsC c).take i).length - 1) 25 1 (rows (Z ++ (prsC c).take i))] (Z ++ (prsC c).take i).length) (fun i=>i≤N) (fun i=>N - i) [0,7,9,14,15,16,20,21,22] 0 (by simp [keep,hcl]) (by simp) (Nat.zero_le _) fun i hi ihi=>?_
  have hyl:(Z ++ (prsC c).take i).length≤600:=by rw [List.length_append,List.length_take,prs_len]; omega
  have hend:i=N→Z ++ (prsC c).take i=Z ++ prsC c:=fun e=>by rw [List.take_of_length_le (by rw [prs_len]; omega)]
  have hsn:∀ q:Nat,i<N→idx (fun y=>decide (c.getD i 0=y)) c=q→Z ++ (prsC c).take (i+1)=(Z ++ (prsC c).take i) ++ [[(i:Int),(q:Int)]]:=fun q h hq=>by
   rw [prs_take (by omega) hq,List.append_assoc]
  generalize Z ++ (prsC c).take i=Y at *
  try simp only [hcl,go_sem]
  refine ⟨fun g2=>?_,fun g2=>?_⟩
  ·have hiN:i<N:=by omega
   obtain ⟨q,hq,hql,hqe⟩:=idx_of (show i<c.length by omega)
   have ihi:=ihi (i+1) (by omega) (by omega)
   rw [hsn q hiN hq] at ihi
   refine ⟨by omega,fun _=>(p84 c _ (by omega)).go ?_⟩
   rw [hq]
   cases Y with
   | nil =>
    try simp only [go_sem]
    exact ⟨by omega,ihi _ _ (by simp [keep,nref]) rfl⟩
   | cons z Y =>
    rw [List.length_cons] at hyl
    have htk:List.take (Y.length+1) (z :: Y)=z :: Y:=List.take_of_length_le (by simp)
    try simp only [List.length_cons,htk,go_sem]
    exact ⟨⟨by omega,Nat.le_refl _,by omega⟩,by omega,ihi _ _ (by simp [keep,nref]) (by simp [nhp,rows,ints])⟩
  ·have hiN:i=N:=by omega
   refine ⟨by omega,ih (x+1) (by omega) (by omega) _ _ (by rw [hst,hend hiN]; simp [keep]) (by rw [hst,hend hiN])⟩
 ·obtain rfl:x=2:=by omega
  have e:([a,b].take 2).flatMap prsC=prsC a ++ prsC b:=by simp
  have hpos:0<(prsC a ++ prsC b).length:=by rw [List.length_append,prs_len]; omega
  rw [e]
  generalize prsC a ++ prsC b=Z at *
  rw [nref_pos hpos,nhp_pos hpos]
  refine hM.give (id:=0) rfl (.cons Imm.still (.cons (Imm.refr (solo_get rfl) rfl) (.cons (.bool _ _) (.nil _)))) ?_
  try simp only [go_sem]
  exact Kv.Fin.freeze .still ⟨rfl,rfl⟩
end
end
section
section
set_option maxRecDepth 100000
def k39_b0:KC:=(.seq (.ops [oP 23 (.bin .lss (.t 22) (.t 21))])
 (.seq (.cond (.t 23) .skip (.exit 0))
 (.seq (.block 1 (.seq (.ops [oP 24 (.idxS 1 (.t 20) (.t 22)),oP 25 (.load false 1 (.t 24)),oP 9 (.alloc [.nils]),⟨none,none,.store 1 (.t 9) (.t 25)⟩])
 (.seq (.ops [mV 26 6,oP 27 (.mkfn (.func 103) [] [(.t 9)]),oP 28 (.call (fC 94) [(.t 26),(.t 27)]),oP 29 (.not (.t 28))])
 (.cond (.t 29) (.ops [mV 30 7,oP 31 (.load false 1 (.t 9)),oP 32 (.bsl true 25 1 [(.t 31)]),oP 33 (.app (.t 30) (.t 32) 25 1),mV 7 33]) .skip))))
 (.ops [oP 34 (.bin .add (.t 22) (iC 1)),mV 22 34]))))
def k39:KC:=(.seq (.ops [oP 2 (.mv (.c (.nils))),oP 3 (.mv (iC 0))])
 (.seq (.ops [mV 11 0,oP 12 (.call (fC 90) [(.t 11)]),mV 10 12,oP 13 (.extr 0 (.t 10)),oP 14 (.extr 1 (.t 10)),mV 4 13,mV 5 14])
 (.seq (.seq (.ops [mV 15 5,oP 16 (.bin .neq (.t 15) (iC 0))])
 (.cond (.t 16) (.seq (.ops [mV 17 5,oP 2 (.mv (.c (.nils))),mV 3 17])
 .ret) .skip))
 (.seq (.ops [mV 18 4,oP 19 (.call (fC 91) [(.t 18)]),mV 6 19])
 (.seq (.ops [oP 7 (.mv (.c (.nils)))])
 (.seq (.seq (.ops [mV 20 6,oP 21 (.len false (.t 20)),oP 22 (.mv (iC 0))])
 (.block 0 (.loop k39_b0)))
 (.seq (.ops [mV 35 7,mV 2 35,oP 3 (.mv (iC 0))])
 .ret)))))))
theorem e39:Ent 39 36 [32] [.t 2,.t 3] k39:=ent Tryz.func39
def k103:KC:=(.seq (.ops [oP 3 (.mv (.c (.bool false)))])
 (.seq (.ops [oP 4 (.load false 1 (.t 1)),mV 5 0,oP 6 (.call (fC 96) [(.t 4),(.t 5)]),oP 7 (.not (.t 6)),mV 8 7,⟨(some 9),some (8,true),.mv (.t 0)⟩,⟨(some 10),some (8,true),.load false 1 (.t 1)⟩,⟨(some 11),some (8,true),.call (fC 104) [(.t 9),(.t 10)]⟩,oP 12 (.pick (.t 8) (.t 11) (.c (.bool false))),mV 3 12])
 .ret))
theorem e103:Ent 103 13 [] [.t 3] k103:=ent Tryz.func103
end
section
attribute [local irreducible] ACall PCall KL
attribute [local go_sem] OpK_eq HKv
theorem Imm.ptrd {σ:Heap} {id:Nat} {c d:PV} (h:σ[id]? = some (.box [c])) (hok:d.ok=true) (hc:Imm σ c d):Imm σ (.ptr id 0) (.fptr [d] 0) :=
 .ptr id 0 [c] [d] h rfl (by simp [hok]) fun j a b ha hb=>by
  cases j with
  | zero=>cases ha; cases hb; exact hc
  | succ j=>cases ha
theorem p103 (x own:List Int) {N:Nat} (hx:CnC N x) (ho:CnC N own) (hl:N≤1000):Pure Tryz.prog 103 [.list (ints x),.fptr [.list (ints own)] 0] (.bool (!decide (own=x) && fnB x own)):=by
 have hE:=p96 own x (by rw [hx.len]; omega) (by rw [ho.len]; omega)
 have hF:=p104 x own hx ho hl
 refine e103 (by simp) fun _ _=>?_
 simp only [k103,argEnv,go_sem]
 refine hE.go ?_
 by_cases e:own=x
 ·rw [decide_eq_true e]
  try simp only [go_sem]
  exact Kv.Fin.still ⟨rfl,rfl⟩
 ·rw [decide_eq_false e]
  try simp only [go_sem]
  refine hF.go ?_
  try simp only [go_sem]
  exact Kv.Fin.still ⟨rfl,rfl⟩
theorem p39_bad {t:List (List Int)} {c:Int} (h:GxC t c):Pure Tryz.prog 39 [.list (aggs t)] (.tup [.nils,.int .i64 c]):=by
 refine e39 (by simp) fun _ _=>?_
 simp only [k39,argEnv,go_sem]
 refine h.ip.go ?_
 try simp only [go_sem]
 exact ⟨fun _=>Kv.Fin.still ⟨rfl,rfl⟩,fun e=>absurd e h.ne⟩
noncomputable def leastV (T:List (List Int)) (N:Nat):PV:=if N=1 then .nils else .list (rows (lstC (onesC T N)))
theorem onesC_ne {T:List (List Int)} {N:Nat} (h:2≤N):onesC T N≠[]:=fun e=>by
 have:cgP T N 0 1∈onesC T N:=onesC_mem.2 ⟨1,0,by omega,by omega,rfl⟩
 rw [e] at this; simp at this
theorem p39_in {t T:List (List Int)} {N:Nat} (h:GvC t T N):Pure Tryz.prog 39 [.list (aggs t)] (.tup [leastV T N,.int .i64 0]):=by
 have hB:=p91A T N h.tbl ⟨h.pos,h.n30⟩
 have h30:=h.n30
 have hpos:=h.pos
 have hcn:=fun x hx=>(onesC_cn h.tbl x hx).1
 have hol:=onesC_len (T:=T) h30
 unfold leastV
 by_cases e:N=1
 ·rw [if_pos e] at hB ⊢
  refine e39 (by simp) fun _ _=>?_
  simp only [k39,argEnv,go_sem]
  refine h.ip.go ?_
  try simp only [go_sem]
  refine hB.go ?_
  try simp only [go_sem]
  refine KL_ind k39_b0.eq_1 (fun _:Unit=>[(6,.nils),(7,.nils),(20,.nils),(21,.int .i64 0),(22,.int .i64 0)]) (fun _=>[]) (fun _=>True) (fun _=>0) [6,7,20,21,22] () (by simp [keep]) rfl trivial fun _ _ ih=>?_
  try simp only [go_sem]
  exact Kv.Fin.still ⟨rfl,rfl⟩
 ·rw [if_neg e] at hB ⊢
  have hne:=lstC_has hcn (onesC_ne (T:=T) (show 2≤N by omega))
  refine e39 (by simp) fun _ _=>?_
  simp only [k39,argEnv,go_sem]
  refine h.ip.go ?_
  try simp only [go_sem]
  refine hB.go ?_
  generalize onesC T N=L at *
  try simp only [go_sem]
  unfold lstC at hne ⊢
  generalize hp:(fun a:List Int=>!(L.any fun b=>!decide (a=b) && fnB b a))=p at *
  refine KL_indD k39_b0.eq_1 (fun x:Nat=>[(6,.list (rows L)),(7,nref 1 ((L.take x).filter p).length),(20,.list (rows L)),(21,.int .i64 L.length),(22,.int .i64 x)]) (fun x=>nhp [.box [.list (ints (((L.take x).filter p).headD []))],.arr (((L.take x).filter p).length - 1) 25 1 (rows ((L.take x).filter p))] ((L.take x).filter p).length) (fun x=>x≤L.length) (fun x=>L.length - x) [6,7,20,21,22] 0 (by simp [keep,nref]) ⟨[],rfl⟩ (Nat.zero_le _) (fun x hx=>?_) fun x hx ih=>?_
  ·generalize (L.take x).filter p=Z
   refine ⟨Nat.zero_le _,?_,?_⟩
   ·cases Z with
    | nil=>exact Env.undr_upto (by simp [Env.undr,PV.undr,undrX_rows,nref])
    | cons z Z=>exact Env.undr_upto (by simp [Env.undr,PV.undr,undrX_rows,nref,nhp])
   ·cases Z with
    | nil=>exact Hb.nil _
    | cons z Z=>exact .cons (by simp [AObj.undr,PV.undrL,PV.undr,undrX_ints]) (.cons (by simp [AObj.undr,undrX_rows]) (.nil _))
  ·have hfs:=fun h:x<L.length=>filter_takeC (p:=p) h
   have hfl:=List.length_filter_le p (L.take x)
   rw [List.length_take] at hfl
   have hend:x=L.length→(L.take x).filter p=L.filter p:=fun e=>by rw [e,List.take_length]
   have hC:=fun h:x<L.length=>p94 L (by omega) 103 [.fptr [.list (ints L[x])] 0] (StillL.up inferInstance) (fun b=>!decide (L[x]=b) && fnB b L[x]) fun b hb=>p103 b L[x] (hcn b hb) (hcn _ (List.getElem_mem h)) (by omega)
   have hpx:∀ h:x<L.length,p L[x] = !(L.any fun b=>!decide (L[x]=b) && fnB b L[x]):=fun h=>by rw [← hp]
   have hgx:∀ h:x<L.length,L.getD x []=L[x]:=fun h=>by simp [List.getD_eq_getElem?_getD,h]
   generalize (L.take x).filter p=Z at *
   cases Z with
   | nil =>
    try simp only [go_sem]
    refine ⟨fun g1=>?_,fun g1=>?_⟩
    ·have hxl:x<L.length:=by omega
     have hC:=hC hxl
     have hfs:=hfs hxl
     have hpx:=hpx hxl
     rw [hgx hxl]
     generalize L[x]=own at *
     refine ⟨by omega,fun _=>hC.lend (.cons .still (.cons (Imm.fnc _ (.cons (Imm.ptrd rfl rfl Imm.still) (.nil _))) (.nil _))) ?_⟩
     generalize (L.any fun b=>!decide (own=b) && fnB b own)=B at *
     rw [hpx] at hfs
     cases B with
     | true =>
      try simp only [go_sem]
      exact ⟨by omega,ih (x+1) (by omega) (by omega) _ _ (by rw [hfs]; simp [keep,nref]) ⟨[_],by rw [hfs]; rfl⟩⟩
     | false =>
      try simp only [go_sem]
      exact ⟨by omega,ih (x+1) (by omega) (by omega) _ _ (by rw [hfs]; simp [keep,nref]) ⟨[],by rw [hfs]; rfl⟩⟩
    ·exact absurd (hend (by omega)).symm hne
   | cons z Z =>
    rw [List.length_cons] at hfl
    try simp only [List.length_cons,go_sem]
    refine ⟨fun g1=>?_,fun g1=>?_⟩
    ·have hxl:x<L.length:=by omega
     have hC:=hC hxl
     have hfs:=hfs hxl
     have hpx:=hpx hxl
     rw [hgx hxl]
     generalize L[x]=own at *
     refine ⟨by omega,fun _=>hC.lend (.cons .still (.cons (Imm.fnc _ (.cons (Imm.ptrd rfl rfl Imm.still) (.nil _))) (.nil _))) ?_⟩
     generalize (L.any fun b=>!decide (own=b) && fnB b own)=B at *
     rw [hpx] at hfs
     have htk:List.take (Z.length+1) (z :: Z)=z :: Z:=List.take_of_length_le (by simp)
     cases B with
     | true =>
      try simp only [go_sem]
      exact ⟨by omega,ih (x+1) (by omega) (by omega) _ _ (by rw [hfs]; simp [keep,nref]) ⟨[_],by rw [hfs]; rfl⟩⟩
     | false =>
      try simp only [htk,go_sem]
      exact ⟨⟨by omega,Nat.le_refl _,by omega⟩,by omega,ih (x+1) (by omega) (by omega) _ _ (by rw [hfs]; simp [keep,nref]) ⟨[_],by rw [hfs]; simp [nhp,rows,ints]; rfl⟩⟩
    ·rw [← hend (by omega)]
     exact Kv.Fin.freeze (Imm.tupL (.cons (Imm.refr rfl (by simp)) (.cons (.int _ _ _) (.nil _)))) ⟨rfl,rfl⟩
end
end
section
section
set_option maxRecDepth 100000
def k35_b0:KC:=(.seq (.ops [oP 40 (.bin .lss (.t 39) (.t 38))])
 (.seq (.cond (.t 40) .skip (.exit 3))
 (.seq (.block 4 (.seq (.ops [oP 41 (.idxS 1 (.t 37) (.t 39)),oP 42 (.load false 1 (.t 41)),mV 10 42])
 (.seq (.ops [mV 43 4,mV 44 7,mV 45 8,oP 46 (.idxS 1 (.t 44) (.t 45)),oP 47 (.load false 1 (.t 46)),mV 48 10,oP 49 (.call (fC 93) [(.t 43),(.t 47),(.t 48)]),oP 11 (.alloc [.nils]),⟨none,none,.store 1 (.t 11) (.t 49)⟩])
 (.seq (.seq (.ops [mV 50 7,oP 51 (.mkfn (.func 95) [] [(.t 11)]),oP 52 (.call (fC 94) [(.t 50),(.t 51)]),oP 53 (.not (.t 52))])
 (.cond (.t 53) (.ops [mV 54 7,oP 55 (.load false 1 (.t 11)),oP 56 (.bsl true 25 1 [(.t 55)]),oP 57 (.app (.t 54) (.t 56) 25 1),mV 7 57]) .skip))
 (.seq (.ops [mV 58 7,oP 59 (.len false (.t 58)),oP 60 (.bin .gtr (.t 59) (iC 300))])
 (.cond (.t 60) (.seq (.ops [oP 2 (.mv (.c (.nils))),oP 3 (.mv (iC 3))])
 .ret) .skip))))))
 (.ops [oP 61 (.bin .add (.t 39) (iC 1)),mV 39 61]))))
def k35_b1:KC:=(.seq (.seq (.ops [mV 31 8,mV 32 7,oP 33 (.len false (.t 32)),oP 34 (.bin .lss (.t 31) (.t 33))])
 (.cond (.t 34) .skip (.exit 1)))
 (.seq (.block 2 (.seq (.ops [mV 37 6,oP 38 (.len false (.t 37)),oP 39 (.mv (iC 0))])
 (.block 3 (.loop k35_b0))))
 (.ops [mV 35 8,oP 36 (.bin .add (.t 35) (iC 1)),mV 8 36])))
def k35:KC:=(.seq (.ops [oP 2 (.mv (.c (.nils))),oP 3 (.mv (iC 0))])
 (.seq (.ops [mV 13 0,oP 14 (.call (fC 90) [(.t 13)]),mV 12 14,oP 15 (.extr 0 (.t 12)),oP 16 (.extr 1 (.t 12)),mV 4 15,mV 5 16])
 (.seq (.block 0 (.seq (.ops [mV 18 5,oP 19 (.bin .neq (.t 18) (iC 0)),mV 17 19])
 (.cond (.t 17) (.seq (.ops [mV 20 5,oP 2 (.mv (.c (.nils))),mV 3 20])
 .ret) (.seq (.ops [mV 22 4,oP 23 (.len false (.t 22)),oP 24 (.bin .gtr (.t 23) (iC 12)),mV 21 24])
 (.cond (.t 21) (.seq (.ops [oP 2 (.mv (.c (.nils))),oP 3 (.mv (iC 3))])
 .ret) .skip)))))
 (.seq (.ops [mV 25 4,oP 26 (.call (fC 91) [(.t 25)]),mV 6 26])
 (.seq (.ops [mV 27 4,oP 28 (.len false (.t 27)),oP 29 (.call (fC 92) [(.t 28)]),oP 30 (.bsl false 25 1 [(.t 29)]),mV 7 30])
 (.seq (.seq (.ops [oP 8 (.mv (iC 0))])
 (.block 1 (.loop k35_b1)))
 (.seq (.ops [mV 62 7,oP 63 (.call (fC 97) [(.t 62)]),mV 2 63,oP 3 (.mv (iC 0))])
 .ret)))))))
theorem e35:Ent 35 64 [56] [.t 2,.t 3] k35:=ent Tryz.func35
def k95:KC:=(.seq (.ops [oP 3 (.mv (.c (.bool false)))])
 (.seq (.ops [mV 4 0,oP 5 (.load false 1 (.t 1)),oP 6 (.call (fC 96) [(.t 4),(.t 5)]),mV 3 6])
 .ret))
theorem e95:Ent 95 7 [] [.t 3] k95:=ent Tryz.func95
end
section
attribute [local irreducible] ACall PCall KL
attribute [local go_sem] OpK_eq HKv
theorem p95 (x own:List Int) {N:Nat} (hx:CnC N x) (ho:CnC N own) (hl:N≤1000):Pure Tryz.prog 95 [.list (ints x),.fptr [.list (ints own)] 0] (.bool (decide (x=own))):=by
 have hE:=p96 x own (by rw [ho.len]; omega) (by rw [hx.len]; omega)
 refine e95 (by simp) fun _ _=>?_
 simp only [k95,argEnv,go_sem]
 refine hE.go ?_
 try simp only [go_sem]
 exact Kv.Fin.still ⟨rfl,rfl⟩
theorem p35_bad {t:List (List Int)} {c:Int} (h:GxC t c):Pure Tryz.prog 35 [.list (aggs t)] (.tup [.nils,.int .i64 c]):=by
 refine e35 (by simp) fun _ _=>?_
 simp only [k35,argEnv,go_sem]
 refine h.ip.go ?_
 try simp only [go_sem]
 exact ⟨fun _=>Kv.Fin.still ⟨rfl,rfl⟩,fun e=>absurd e h.ne⟩
structure AoC (J:List Int→List Int→List Int) (z:List Int) (L O:List (List Int)) (i:Nat):Prop where
 nd:O.Nodup
 cj:∀ x∈O,Cj J z L x
 few:O.length≤300
 zin:z∈O
 ile:i≤O.length
 done:∀ k,k<i→∀ p∈L,J (O.getD k []) p∈O
theorem AoC.all {J:List Int→List Int→List Int} {z:List Int} {L O:List (List Int)} (h:AoC J z L O O.length):AllG J z L (srtG O):=by
 obtain ⟨h1,h2⟩:=srtG_ok O
 refine ⟨h1,fun x=>?_,Nat.le_trans (srtG_le O) h.few⟩
 rw [h2]
 refine ⟨h.cj x,fun hx=>cj_all h.zin (fun a ha p hp=>?_) x hx⟩
 obtain ⟨k,hk,rfl⟩:=List.getElem_of_mem ha
 have:=h.done k hk p hp
 rwa [show O.getD k []=O[k] by simp [List.getD_eq_getElem?_getD,hk]] at this
theorem p92F (n:Nat) (hn:1≤n∧n≤1000):Pure Tryz.prog 92 [.int .i64 n] (.list (ints (trvC n))) :=
 ACall.ret (p92 n (by omega)) fun v s ⟨hv,hs⟩=>by
  subst hv; subst hs
  have e:pts n=trvC n:=by
   unfold pts trvC nz mk
   rfl
  rw [← e]
  exact Kv.Fin.freeze (Imm.refn rfl rfl) ⟨rfl,rfl⟩
theorem p35_in {t T:List (List Int)} {N:Nat} (h:GvC t T N):Pure Tryz.prog 35 [.list (aggs t)] (allV T N):=by
 have hip:=h.ip
 have hT:=h.tbl
 have hTl:=hT.len
 have hpos:=h.pos
 unfold allV
 by_cases hN:N≤12
 ·rw [if_pos hN]
  have hJ:=fun a b ha hb=>p93 T N hT (by omega) a b ha hb
  have hjc:=jgC_cn hT
  have hocn:=onesC_cn hT
  have hol:=onesC_len (T:=T) (show N≤30 by omega)
  obtain ⟨W,hone,hW⟩:∃ W,Pure Tryz.prog 91 [.list (rows T)] W∧((W = .nils∧onesC T N = [])∨W = .list (rows (onesC T N))):=by
   have:=p91A T N hT (by omega)
   by_cases e:N=1
   ·rw [if_pos e] at this
    exact ⟨_,this,.inl ⟨rfl,by subst e; rfl⟩⟩
   ·rw [if_neg e] at this
    exact ⟨_,this,.inr rfl⟩
  have hSt:Still W:=by rcases hW with ⟨rfl,_⟩ | rfl <;> infer_instance
  have hWu:∀ n,PV.undr n W=true:=fun n=>by rcases hW with ⟨rfl,_⟩ | rfl <;> simp [PV.undr,undrX_rows]
  have hz:=trv_cn N
  have hap:=p92F N (by omega)
  generalize trvC N=z at *
  generalize jgC T N=J at *
  generalize onesC T N=L at *
  have hsome:=fun S=>@allG_some J z L S
  have hnone:=fun S=>@allG_none J z L S
  generalize allG J z L=V at *
  have hcj:∀ x,Cj J z L x→CnC N x:=fun x hx=>by
   cases hx with
   | base=>exact hz
   | step a p ha hp=>exact (hjc a p).1
  refine e35 (by simp) fun _ _=>?_
  simp only [k35,argEnv,go_sem]
  refine hip.go ?_
  try simp only [hTl,go_sem]
  refine ⟨fun h=>absurd h (by omega),fun _=>hone.go ?_⟩
  try simp only [hTl,go_sem]
  refine hap.go ?_
  try simp only [go_sem]
  refine KL_indD k35_b1.eq_1 (fun y:List (List Int) × Nat × Nat=>[(4,.list (rows T)),(6,W),(7,.ref 0 y.2.1 0 y.1.length),(8,.int .i64 y.2.2)]) (fun y=>[.arr y.2.1 25 1 (rows y.1)]) (fun y=>AoC J z L y.1 y.2.2∧y.2.1+1=y.1.length) (fun y=>301 - y.2.2) [4,6,7,8] ([z],0,0) (by simp [keep]) ⟨[],rfl⟩ ⟨⟨by simp,fun x hx=>by simp at hx; subst hx; exact .base,by simp,by simp,Nat.zero_le _,fun k h=>absurd h (Nat.not_lt_zero _)⟩,rfl⟩ (fun y hy=>?_) fun ⟨O,ver,i⟩ ⟨hA,hv⟩ ih=>?_
  ·refine ⟨Nat.zero_le _,Env.undr_upto ?_,.cons (by simp [AObj.undr,undrX_rows]) (.nil _)⟩
   simp [Env.undr,PV.undr,undrX_rows,hWu]
  simp only at hA hv
  have hfew:=hA.few
  have hile:=hA.ile
  try simp only [rows_lenC,go_sem]
  refine ⟨fun g1=>?_,fun g1=>?_⟩
  ·have hil:i<O.length:=by omega
   rcases hW with ⟨rfl,hL0⟩ | rfl
   ·try simp only [go_sem]
    refine KL_ind k35_b0.eq_1 (fun _:Unit=>[(4,.list (rows T)),(6,.nils),(7,.ref 0 ver 0 O.length),(8,.int .i64 i),(37,.nils),(38,.int .i64 0),(39,.int .i64 0)]) (fun _=>[.arr ver 25 1 (rows O)]) (fun _=>True) (fun _=>0) [4,6,7,8,37,38,39] () (by simp [keep]) rfl trivial fun _ _ ihk=>?_
    try simp only [go_sem]
    exact ⟨by omega,ih (O,ver,i+1) ⟨⟨hA.nd,hA.cj,hA.few,hA.zin,hil,fun k _ p hp=>by rw [hL0] at hp; simp at hp⟩,hv⟩ (by show 301 - (i+1)<301 - i; omega) _ _ (by simp [keep]) ⟨[],rfl⟩⟩
   ·try simp only [rows_lenC,go_sem]
    refine KL_indD k35_b0.eq_1 (fun y:List (List Int) × Nat × Nat=>[(4,.list (rows T)),(6,.list (rows L)),(7,.ref 0 y.2.1 0 y.1.length),(8,.int .i64 i),(37,.list (rows L)),(38,.int .i64 L.length),(39,.int .i64 y.2.2)]) (fun y=>[.arr y.2.1 25 1 (rows y.1)]) (fun y=>AoC J z L y.1 i∧y.2.1+1=y.1.length∧y.2.2≤L.length∧i<y.1.length∧∀ m,m<y.2.2→J (y.1.getD i []) (L.getD m [])∈y.1) (fun y=>L.length - y.2.2) [4,6,7,8,37,38,39] (O,ver,0) (by simp [keep]) ⟨[],rfl⟩ ⟨hA,hv,Nat.zero_le _,hil,fun m h=>absurd h (Nat.not_lt_zero _)⟩ (fun y hy=>?_) fun ⟨O,ver,k⟩ ⟨hA,hv,hk,hil,hdn⟩ ihk=>?_
    ·refine ⟨Nat.zero_le _,Env.undr_upto ?_,.cons (by simp [AObj.undr,undrX_rows]) (.nil _)⟩
     simp [Env.undr,PV.undr,undrX_rows]
    simp only at hA hv hk hil hdn
    have hfew:=hA.few
    try simp only [rows_lenC,go_sem]
    refine ⟨fun g2=>?_,fun g2=>?_⟩
    ·have hkl:k<L.length:=by omega
     have hgk:L.getD k []=L[k]:=by simp [List.getD_eq_getElem?_getD,hkl]
     have hpm:=List.getElem_mem hkl
     have hom:O.getD i []∈O:=getD_mem hil []
     have hown:=hcj _ (hA.cj _ hom)
     have hjm:Cj J z L (J (O.getD i []) L[k]):=.step _ _ (hA.cj _ hom) hpm
     have hJc:=hJ (O.getD i []) L[k] hown.len (hocn _ hpm).1.len
     have hst:∀ O':List (List Int),(∀ x∈O,x∈O')→O'.getD i []=O.getD i []→J (O.getD i []) L[k]∈O'→∀ m,m<k+1→J (O'.getD i []) (L.getD m [])∈O':=fun O' h1 h2 h3 m hm=>by
      rw [h2]
      by_cases e:m=k
      ·subst e; rw [hgk]; exact h3
      ·exact h1 _ (hdn m (by omega))
     have hjcn:=hcj _ hjm
     rw [hgk]
     generalize J (O.getD i []) L[k]=j at *
     have hC:=p94 O (by omega) 95 [.fptr [.list (ints j)] 0] (StillL.up inferInstance) (fun x=>decide (x=j)) fun x hx=>p95 x j (hcj x (hA.cj x hx)) hjcn (by omega)
     refine ⟨by omega,fun _=>⟨⟨by omega,Nat.le_refl _⟩,hil,fun _=>hJc.go ?_⟩⟩
     try simp only [go_sem]
     refine hC.lend (.cons (Imm.refr rfl rfl) (.cons (Imm.fnc _ (.cons (Imm.ptrd rfl rfl Imm.still) (.nil _))) (.nil _))) ?_
     by_cases hin:j∈O
     ·rw [show (O.any fun x=>decide (x=j))=true from List.any_eq_true.2 ⟨j,hin,decide_eq_true rfl⟩]
      try simp only [go_sem]
      exact ⟨fun h=>absurd h (by omega),fun _=>⟨by omega,ihk (O,ver,k+1) ⟨hA,hv,hkl,hil,hst O (fun x h=>h) rfl hin⟩ (by show L.length - (k+1)<L.length - k; omega) _ _ (by simp [keep]) ⟨[_],rfl⟩⟩⟩
     ·rw [show (O.any fun x=>decide (x=j))=false from List.any_eq_false.2 fun x hx=>by simp only [decide_eq_true_eq]; intro e; subst e; exact hin hx]
      have htk:List.take O.length (rows O)=rows O:=List.take_of_length_le (by rw [rows_lenC]; exact Nat.le_refl _)
      have hl1:(O ++ [j]).length=O.length+1:=by simp
      have hnd:(O ++ [j]).Nodup:=List.nodup_append.2 ⟨hA.nd,by simp,fun x hx y hy e=>by
       rw [List.mem_singleton] at hy; subst hy; subst e; exact hin hx⟩
      have hcj':∀ x∈O ++ [j],Cj J z L x:=fun x hx=>by
       rcases List.mem_append.1 hx with hx | hx
       ·exact hA.cj x hx
       ·rw [List.mem_singleton] at hx; subst hx; exact hjm
      have hgO:∀ m,m<O.length→(O ++ [j]).getD m []=O.getD m []:=fun m hm=>by
       rw [List.getD_eq_getElem?_getD,List.getElem?_append_left hm,List.getD_eq_getElem?_getD]
      try simp only [htk,rows_lenC,go_sem]
      refine ⟨⟨Nat.le_refl _,by omega⟩,fun h=>?_,fun h=>⟨by omega,ihk (O ++ [j],ver+1,k+1) ⟨⟨hnd,hcj',by rw [hl1]; omega,List.mem_append.2 (.inl hA.zin),by rw [hl1]; omega,fun m hm p hp=>?_⟩,by show ver+1+1=_; rw [hl1]; omega,hkl,by rw [hl1]; omega,hst (O ++ [j]) (fun x h=>List.mem_append.2 (.inl h)) (hgO i hil) (by simp)⟩ (by show L.length - (k+1)<L.length - k; omega) _ _ (by simp [keep]) ⟨[_],rfl⟩⟩⟩
      ·have hV:=hnone (O ++ [j]) hnd hcj' (by omega)
       subst hV
       exact Kv.Fin.still ⟨rfl,rfl⟩
      ·rw [hgO m (by omega)]
       exact List.mem_append.2 (.inl (hA.done m hm p hp))
    ·have hkl:k=L.length:=by omega
     refine ⟨by omega,ih (O,ver,i+1) ⟨⟨hA.nd,hA.cj,hA.few,hA.zin,hil,fun m hm p hp=>?_⟩,hv⟩ (by show 301 - (i+1)<301 - i; omega) _ _ (by simp [keep]) ⟨_,rfl⟩⟩
     have hm:m<i+1:=hm
     by_cases e:m=i
     ·subst e
      obtain ⟨q,hq,rfl⟩:=List.getElem_of_mem hp
      have:=hdn q (by omega)
      rwa [show L.getD q []=L[q] by simp [List.getD_eq_getElem?_getD,hq]] at this
     ·exact hA.done m (by omega) p hp
  ·have hil:i=O.length:=by omega
   subst hil
   have hV:=hsome _ hA.all
   subst hV
   refine p97 (N:=N) (by omega) O (fun x hx=>hcj x (hA.cj x hx)) rfl (by omega) (by omega) rfl ?_
   try simp only [go_sem]
   exact Kv.Fin.freeze .still ⟨rfl,rfl⟩
 ·rw [if_neg hN]
  refine e35 (by simp) fun _ _=>?_
  simp only [k35,argEnv,go_sem]
  refine hip.go ?_
  try simp only [hTl,go_sem]
  exact ⟨fun _=>Kv.Fin.still ⟨rfl,rfl⟩,fun h=>absurd h (by omega)⟩
end
end
section
section
set_option maxRecDepth 100000
def k82:KC:=(.seq (.ops [oP 4 (.mv (.c (.nils))),oP 5 (.mv (iC 0))])
 (.seq (.ops [mV 9 0,oP 10 (.call (fC 90) [(.t 9)]),mV 8 10,oP 11 (.extr 0 (.t 8)),oP 12 (.extr 1 (.t 8)),oP 6 (.alloc [.nils]),⟨none,none,.store 1 (.t 6) (.t 11)⟩,mV 7 12])
 (.seq (.block 0 (.seq (.ops [mV 14 7,oP 15 (.bin .neq (.t 14) (iC 0)),mV 13 15])
 (.cond (.t 13) (.seq (.ops [mV 16 7,oP 4 (.mv (.c (.nils))),mV 5 16])
 .ret) (.seq (.ops [mV 18 1,oP 19 (.mkfn (.func 148) [] [(.t 6)]),oP 20 (.call (fC 94) [(.t 18),(.t 19)]),mV 17 20])
 (.cond (.t 17) (.seq (.ops [oP 4 (.mv (.c (.nils))),oP 5 (.mv (iC 2))])
 .ret) (.seq (.ops [mV 22 1,oP 23 (.mkfn (.func 150) [] [(.t 6)]),oP 24 (.call (fC 94) [(.t 22),(.t 23)]),mV 21 24])
 (.cond (.t 21) (.seq (.ops [oP 4 (.mv (.c (.nils))),oP 5 (.mv (iC 5))])
 .ret) .skip)))))))
 (.seq (.ops [oP 25 (.load false 1 (.t 6)),mV 4 25,oP 5 (.mv (iC 0))])
 .ret))))
theorem e82:Ent 82 26 [] [.t 4,.t 5] k82:=ent Tryz.func82
def k148:KC:=(.seq (.ops [oP 3 (.mv (.c (.bool false)))])
 (.seq (.ops [mV 4 0,oP 5 (.load false 1 (.t 1)),oP 6 (.len false (.t 5)),oP 7 (.call (fC 149) [(.t 4),(.t 6)]),oP 8 (.not (.t 7)),mV 3 8])
 .ret))
theorem e148:Ent 148 9 [] [.t 3] k148:=ent Tryz.func148
def k150:KC:=(.seq (.ops [oP 3 (.mv (.c (.bool false)))])
 (.seq (.ops [oP 8 (.load false 1 (.t 1)),mV 9 0,oP 10 (.call (fC 151) [(.t 8),(.t 9),(.c (.bool true))]),mV 7 10,oP 11 (.extr 0 (.t 7)),oP 12 (.extr 1 (.t 7)),oP 13 (.extr 2 (.t 7)),mV 4 11,mV 5 12,mV 6 13])
 (.seq (.ops [mV 14 6,oP 15 (.not (.t 14)),mV 3 15])
 .ret)))
theorem e150:Ent 150 16 [] [.t 3] k150:=ent Tryz.func150
def k31_b0:KC:=(.seq (.ops [oP 31 (.bin .lss (.t 30) (.t 29))])
 (.seq (.cond (.t 31) .skip (.exit 2))
 (.seq (.block 3 (.seq (.ops [mV 32 30,mV 12 32])
 (.draw [mV 33 11,mV 34 1,mV 35 6,mV 36 1,mV 37 10,mV 41 1,mV 42 12,oP 38 (.pcall (fC 84) [(.t 36),(.t 37)]),oP 39 (.idxS 1 (.t 35) (.t 38)),oP 40 (.load false 1 (.t 39)),oP 43 (.pcall (fC 84) [(.t 41),(.t 42)]),oP 44 (.idxS 1 (.t 40) (.t 43)),oP 45 (.load false 1 (.t 44)),oP 46 (.idxS 1 (.t 34) (.t 45)),oP 47 (.load false 1 (.t 46)),oP 48 (.bsl true 2 1 [(.t 47)]),oP 49 (.app (.t 33) (.t 48) 2 1),mV 11 49])))
 (.ops [oP 50 (.bin .add (.t 30) (iC 1)),mV 30 50]))))
def k31_b1:KC:=(.seq (.ops [oP 27 (.bin .lss (.t 26) (.t 25))])
 (.seq (.cond (.t 27) .skip (.exit 0))
 (.seq (.block 1 (.seq (.ops [mV 28 26,mV 10 28])
 (.seq (.ops [oP 11 (.mv (.c (.nils)))])
 (.seq (.seq (.ops [mV 29 8,oP 30 (.mv (iC 0))])
 (.block 2 (.loop k31_b0)))
 (.ops [mV 51 9,mV 52 11,oP 53 (.bsl true 25 1 [(.t 52)]),oP 54 (.app (.t 51) (.t 53) 25 1),mV 9 54])))))
 (.ops [oP 55 (.bin .add (.t 26) (iC 1)),mV 26 55]))))
def k31:KC:=(.seq (.ops [oP 4 (.mv (.c (.nils))),oP 5 (.mv (iC 0))])
 (.seq (.ops [mV 14 0,mV 15 1,oP 16 (.bsl true 25 1 [(.t 15)]),oP 17 (.call (fC 82) [(.t 14),(.t 16)]),mV 13 17,oP 18 (.extr 0 (.t 13)),oP 19 (.extr 1 (.t 13)),mV 6 18,mV 7 19])
 (.seq (.seq (.ops [mV 20 7,oP 21 (.bin .neq (.t 20) (iC 0))])
 (.cond (.t 21) (.seq (.ops [mV 22 7,oP 4 (.mv (.c (.nils))),mV 5 22])
 .ret) .skip))
 (.seq (.ops [mV 23 1,oP 24 (.call (fC 83) [(.t 23)]),mV 8 24])
 (.seq (.ops [oP 9 (.mv (.c (.nils)))])
 (.seq (.seq (.ops [mV 25 8,oP 26 (.mv (iC 0))])
 (.block 0 (.loop k31_b1)))
 (.seq (.ops [mV 56 9,mV 4 56,oP 5 (.mv (iC 0))])
 .ret)))))))
theorem e31:Ent 31 57 [16,48,53] [.t 4,.t 5] k31:=ent Tryz.func31
end
section
attribute [local irreducible] ACall PCall KL
attribute [local go_sem] OpK_eq HKv
theorem p148 (cl:List Int) (T:List (List Int)) (hl:cl.length≤1000):Pure Tryz.prog 148 [.list (ints cl),.fptr [.list (rows T)] 0] (.bool (!(clOk cl 0 && decide ((cl.length:Int)=T.length)))):=by
 have h:=p149 cl T.length (by omega)
 refine e148 (by simp) fun _ _=>?_
 simp only [k148,argEnv,go_sem]
 refine h.go ?_
 try simp only [go_sem]
 exact Kv.Fin.still ⟨rfl,rfl⟩
open Classical in
noncomputable def cloB (T:List (List Int)) (N:Nat) (cl:List Int):Bool:=decide (CloC T N true cl)
theorem cloB_true {T:List (List Int)} {N:Nat} {cl:List Int} (h:CloC T N true cl):cloB T N cl=true:=by
 unfold cloB; exact @decide_eq_true _ (Classical.propDecidable _) h
theorem cloB_false {T:List (List Int)} {N:Nat} {cl:List Int} (h:¬ CloC T N true cl):cloB T N cl=false:=by
 unfold cloB; exact @decide_eq_false _ (Classical.propDecidable _) h
theorem cloB_of {T:List (List Int)} {N:Nat} {cl:List Int} (h:cloB T N cl=true):CloC T N true cl:=by
 unfold cloB at h; exact @of_decide_eq_true _ (Classical.propDecidable _) h
theorem p150 (cl:List Int) (T:List (List Int)) (N:Nat) (hT:TblC T N) (hN:N≤300) (hl:cl.length=N):Pure Tryz.prog 150 [.list (ints cl),.fptr [.list (rows T)] 0] (.bool (!cloB T N cl)):=by
 have h:=p151 T N hT hN cl hl true (K:=fun v s=>s = []∧∃ x y:Int,v = .tup [.int .i64 x,.int .i64 y,.bool (cloB T N cl)]) (fun h=>⟨rfl,0,0,by rw [cloB_true h]⟩) (fun x y hx hy hne hs=>⟨rfl,x,y,by
  rw [cloB_false fun hc=>hne (hs cl hc fun i j _ _ h=>h)]⟩)
 generalize cloB T N cl=B at *
 refine e150 (by simp) fun _ _=>?_
 simp only [k150,argEnv,go_sem]
 refine h.go fun v s ⟨hs,x,y,hv⟩=>?_
 subst hv; subst hs
 try simp only [go_sem]
 exact Kv.Fin.still ⟨rfl,rfl⟩
theorem p82_bad {t:List (List Int)} {c:Int} (h:GxC t c) (cl:List Int):Pure Tryz.prog 82 [.list (aggs t),.list (rows [cl])] (.tup [.nils,.int .i64 c]):=by
 refine e82 (by simp) fun _ _=>?_
 simp only [k82,argEnv,go_sem]
 refine h.ip.go ?_
 try simp only [go_sem]
 exact ⟨fun _=>Kv.Fin.still ⟨rfl,rfl⟩,fun e=>absurd e h.ne⟩
theorem p82_in {t T:List (List Int)} {N:Nat} (h:GvC t T N) (cl:List Int) (hl:cl.length≤1000):Pure Tryz.prog 82 [.list (aggs t),.list (rows [cl])] (if (clOk cl 0 && decide ((cl.length:Int)=N))=true then (if cloB T N cl=true then .tup [.list (rows T),.int .i64 0] else .tup [.nils,.int .i64 5]) else .tup [.nils,.int .i64 2]):=by
 have hTl:=h.tbl.len
 have h30:=h.n30
 have hC1:=p94 [cl] (by simp) 148 [.fptr [.list (rows T)] 0] (StillL.up inferInstance) (fun c=>!(clOk c 0 && decide ((c.length:Int)=T.length))) fun x hx=>by
  rw [List.mem_singleton] at hx; subst hx; exact p148 x T hl
 have hC2:=fun e:cl.length=N=>p94 [cl] (by simp) 150 [.fptr [.list (rows T)] 0] (StillL.up inferInstance) (fun c=>!cloB T N c) fun x hx=>by
  rw [List.mem_singleton] at hx; subst hx; exact p150 x T N h.tbl (by omega) e
 simp only [List.any_cons,List.any_nil,Bool.or_false,hTl] at hC1 hC2
 refine e82 (by simp) fun _ _=>?_
 simp only [k82,argEnv,go_sem]
 refine h.ip.go ?_
 try simp only [go_sem]
 refine hC1.lend (.cons Imm.still (.cons (Imm.fnc _ (.cons (Imm.ptrd rfl rfl Imm.still) (.nil _))) (.nil _))) ?_
 cases hc:(clOk cl 0 && decide ((cl.length:Int)=N)) with
 | false =>
  try simp only [go_sem]
  exact Kv.Fin.still ⟨rfl,rfl⟩
 | true =>
  try simp only [go_sem]
  refine (hC2 (cn_of hc).len).lend (.cons Imm.still (.cons (Imm.fnc _ (.cons (Imm.ptrd rfl rfl Imm.still) (.nil _))) (.nil _))) ?_
  cases hb:cloB T N cl with
  | false =>
   try simp only [go_sem]
   exact Kv.Fin.still ⟨rfl,rfl⟩
  | true =>
   try simp only [go_sem]
   exact Kv.Fin.still ⟨rfl,rfl⟩
noncomputable def quoV (T:List (List Int)) (N:Nat) (cl:List Int):PV:=if (clOk cl 0 && decide ((cl.length:Int)=N))=true then (if cloB T N cl=true then .tup [.list (rows (quoC T cl)),.int .i64 0] else .tup [.nils,.int .i64 5]) else .tup [.nils,.int .i64 2]
theorem p31_bad {t:List (List Int)} {c:Int} (h:GxC t c) (cl:List Int):Pure Tryz.prog 31 [.list (aggs t),.list (ints cl)] (.tup [.nils,.int .i64 c]):=by
 have hC:=p82_bad h cl
 refine e31 (by simp) fun _ _=>?_
 simp only [k31,argEnv,go_sem]
 refine hC.go ?_
 try simp only [go_sem]
 exact ⟨fun _=>Kv.Fin.still ⟨rfl,rfl⟩,fun e=>absurd e h.ne⟩
def rowQ (T:List (List Int)) (cl:List Int) (a y:Nat):List Int:=(List.range y).map fun b=>cl.getD (tgC T (rpC cl a) (rpC cl b)) 0
theorem rowQ_succ (T:List (List Int)) (cl:List Int) (a y:Nat):rowQ T cl a (y+1)=rowQ T cl a y ++ [cl.getD (tgC T (rpC cl a) (rpC cl y)) 0]:=by
 unfold rowQ; rw [List.range_succ,List.map_append]; rfl
theorem rowQ_len (T:List (List Int)) (cl:List Int) (a y:Nat):(rowQ T cl a y).length=y:=by simp [rowQ]
def tabQ (T:List (List Int)) (cl:List Int) (M x:Nat):List (List Int):=(List.range x).map fun a=>rowQ T cl a M
theorem tabQ_succ (T:List (List Int)) (cl:List Int) (M x:Nat):tabQ T cl M (x+1)=tabQ T cl M x ++ [rowQ T cl x M]:=by
 unfold tabQ; rw [List.range_succ,List.map_append]; rfl
theorem tabQ_len (T:List (List Int)) (cl:List Int) (M x:Nat):(tabQ T cl M x).length=x:=by simp [tabQ]
theorem p31_in {t T:List (List Int)} {N:Nat} (h:GvC t T N) (cl:List Int) (hl:cl.length≤1000):Pure Tryz.prog 31 [.list (aggs t),.list (ints cl)] (quoV T N cl):=by
 have hC:=p82_in h cl hl
 have hT:=h.tbl
 have hTl:=hT.len
 have h30:=h.n30
 have h0:=h.pos
 unfold quoV
 cases hc:(clOk cl 0 && decide ((cl.length:Int)=N)) with
 | false =>
  rw [hc,if_neg (by decide)] at hC
  simp only [Bool.false_eq_true,if_false]
  refine e31 (by simp) fun _ _=>?_
  simp only [k31,argEnv,go_sem]
  refine hC.go ?_
  try simp only [go_sem]
  exact ⟨fun _=>Kv.Fin.still ⟨rfl,rfl⟩,fun e=>absurd e (by decide)⟩
 | true =>
  rw [hc,if_pos rfl] at hC
  cases hb:cloB T N cl with
  | false =>
   rw [hb,if_neg (by decide)] at hC
   simp only [if_true,Bool.false_eq_true,if_false]
   refine e31 (by simp) fun _ _=>?_
   simp only [k31,argEnv,go_sem]
   refine hC.go ?_
   try simp only [go_sem]
   exact ⟨fun _=>Kv.Fin.still ⟨rfl,rfl⟩,fun e=>absurd e (by decide)⟩
  | true =>
   rw [hb,if_pos rfl] at hC
   have hcn:=cn_of hc
   have hcl:=hcn.len
   obtain ⟨m0,m1,m2,m3⟩:=MC_ok hcn h0
   have hM:=p83 cl (by omega) (by omega) (fun k hk=>(hcn.lt k hk).1) (by omega)
   rw [m3] at hM
   have hrp:=fun a (ha:a<MC cl)=>rp_ok hcn h0 ha
   have hq:rows (quoC T cl)=rows (tabQ T cl (MC cl) (MC cl)):=rfl
   simp only [if_true]
   rw [hq]
   refine e31 (by simp) fun _ _=>?_
   simp only [k31,argEnv,go_sem]
   refine hC.go ?_
   try simp only [go_sem]
   refine hM.go ?_
   generalize MC cl=M at *
   try simp only [go_sem]
   refine KL_ind k31_b1.eq_1 (fun y:Nat × PV × Heap=>[(1,.list (ints cl)),(6,.list (rows T)),(8,.int .i64 M),(9,y.2.1),(25,.int .i64 M),(26,.int .i64 y.1)]) (fun y=>y.2.2) (fun y=>y.1≤M∧TabN 25 2 y.2.2 y.2.1 (tabQ T cl M y.1)∧Free y.2.2) (fun y=>M - y.1) [1,6,8,9,25,26] (0,.nils,[]) (by simp [keep]) rfl ⟨Nat.zero_le _,.nil,.nil⟩ fun ⟨x,v,σ⟩ ⟨hx,hTb,hF⟩ ih=>?_
   simp only at hx hTb hF
   try simp only [go_sem]
   refine ⟨fun g1=>?_,fun g1=>?_⟩
   ·have hxl:x<M:=by omega
    obtain ⟨a1,a2,a3⟩:=hrp x hxl
    refine KL_ind k31_b0.eq_1 (fun y:Nat=>[(1,.list (ints cl)),(6,.list (rows T)),(8,.int .i64 M),(9,v),(10,.int .i64 x),(11,nref σ.length y),(25,.int .i64 M),(26,.int .i64 x),(29,.int .i64 M),(30,.int .i64 y)]) (fun y=>σ ++ nhp [.arr (y - 1) 2 1 (ints (rowQ T cl x y))] y) (fun y=>y≤M) (fun y=>M - y) [1,6,8,9,10,11,25,26,29,30] 0 (by simp [keep]; try rfl) (by simp [nhp]) (Nat.zero_le _) fun y hy ihy=>?_
    have hnew:=hp_new (rfl:σ.length = σ.length)
    have hset:=hp_setn (rfl:σ.length = σ.length)
    have hps:=rowQ_succ T cl x y
    have hll:=rowQ_len T cl x y
    try simp only [List.append_nil,go_sem]
    refine ⟨fun g2=>?_,fun g2=>?_⟩
    ·have hyl:y<M:=by omega
     obtain ⟨b1,b2,b3⟩:=hrp y hyl
     refine (p84 cl x (by omega)).pgo ?_
     rw [a1]
     try simp only [List.append_nil,hTl,go_sem]
     obtain ⟨t1,t2⟩:=hT.tg a2 b2
     have w1:=hT.row _ a2
     refine ⟨by omega,fun _=>(p84 cl y (by omega)).pgo ?_⟩
     rw [b1]
     rcases y with _ | y
     ·try simp only [List.append_nil,w1,t2,hcl,go_sem]
      exact ⟨by omega,fun _=>⟨by omega,fun _=>⟨by omega,ihy 1 (by omega) (by omega) _ _ (by rfl) (by rfl)⟩⟩⟩
     ·have hnw:∀ o,(σ ++ [o])[σ.length]? = some o:=hnew
      have htk:List.take (y+1) (rowQ T cl x (y+1))=rowQ T cl x (y+1):=List.take_of_length_le (by omega)
      try simp only [hnew,hset,hll,w1,t2,hcl,htk,go_sem]
      refine ⟨by omega,fun _=>⟨by omega,fun _=>⟨⟨by omega,Nat.le_refl _,by omega⟩,by omega,ihy (y+1+1) (by omega) (by omega) _ _ (by rfl) ?_⟩⟩⟩
      rw [hps]
      rfl
    ·obtain rfl:y=M:=by omega
     rw [nref_pos (by omega),nhp_pos (by omega)]
     try simp only [OpK_eq,go_sem]
     refine hTb.pushRow hF (rowQ T cl x y) (rowQ_len T cl x y).symm (by rw [tabQ_len]; omega) fun v' σ' hT' hf'=>?_
     try simp only [OpK_eq,go_sem]
     exact ⟨by omega,ih (x+1,v',σ') ⟨by show x+1≤y; omega,by show TabN _ _ σ' v' (tabQ T cl y (x+1)); rw [tabQ_succ]; exact hT',hf'⟩ (by show y - (x+1)<y - x; omega) _ _ (by simp [keep]) rfl⟩
   ·obtain rfl:x=M:=by omega
    exact Kv.Fin.freeze (Imm.tupL (.cons hTb.imm (.cons (.int _ _ _) (.nil _)))) ⟨rfl,rfl⟩
end
end
section
section
set_option maxRecDepth 100000
def k85_b0:KC:=(.seq (.seq (.ops [mV 17 8,mV 18 1,oP 19 (.len false (.t 18)),oP 20 (.bin .lss (.t 17) (.t 19))])
 (.cond (.t 20) .skip (.exit 0)))
 (.seq (.block 1 (.seq (.ops [mV 23 1,mV 24 8,oP 25 (.idxS 1 (.t 23) (.t 24)),oP 26 (.load false 1 (.t 25)),mV 27 6,oP 28 (.len false (.t 27)),oP 29 (.call (fC 153) [(.t 26),(.t 28)]),oP 30 (.not (.t 29))])
 (.cond (.t 30) (.seq (.ops [oP 4 (.mv (.c (.nils))),oP 5 (.mv (iC 2))])
 .ret) .skip)))
 (.ops [mV 21 8,oP 22 (.bin .add (.t 21) (iC 1)),mV 8 22])))
def k85:KC:=(.seq (.ops [oP 4 (.mv (.c (.nils))),oP 5 (.mv (iC 0))])
 (.seq (.ops [mV 10 0,oP 11 (.call (fC 98) [(.t 10),(iC 30)]),mV 9 11,oP 12 (.extr 0 (.t 9)),oP 13 (.extr 1 (.t 9)),mV 6 12,mV 7 13])
 (.seq (.seq (.ops [mV 14 7,oP 15 (.bin .neq (.t 14) (iC 0))])
 (.cond (.t 15) (.seq (.ops [mV 16 7,oP 4 (.mv (.c (.nils))),mV 5 16])
 .ret) .skip))
 (.seq (.seq (.ops [oP 8 (.mv (iC 0))])
 (.block 0 (.loop k85_b0)))
 (.seq (.ops [mV 31 6,mV 4 31,oP 5 (.mv (iC 0))])
 .ret)))))
theorem e85:Ent 85 32 [] [.t 4,.t 5] k85:=ent Tryz.func85
def k32_b0:KC:=(.seq (.seq (.ops [mV 37 10,mV 38 8,oP 39 (.bin .lss (.t 37) (.t 38))])
 (.cond (.t 39) .skip (.exit 0)))
 (.seq (.block 1 (.ops [mV 42 9,mV 43 8,oP 44 (.mks 2 1 (.int .i64 0) (.t 43) (.t 43)),oP 45 (.bsl true 25 1 [(.t 44)]),oP 46 (.app (.t 42) (.t 45) 25 1),mV 9 46]))
 (.ops [mV 40 10,oP 41 (.bin .add (.t 40) (iC 1)),mV 10 41])))
def k32_b1:KC:=(.seq (.seq (.ops [mV 53 12,mV 54 6,oP 55 (.len false (.t 54)),oP 56 (.bin .lss (.t 53) (.t 55))])
 (.cond (.t 56) .skip (.exit 4)))
 (.seq (.block 5 (.seq (.ops [mV 59 9,mV 60 1,mV 61 11,oP 62 (.idxS 1 (.t 60) (.t 61)),oP 63 (.load false 1 (.t 62)),oP 64 (.idxS 1 (.t 59) (.t 63)),oP 65 (.load false 1 (.t 64)),mV 13 65])
 (.draw [mV 66 13,mV 67 1,mV 68 12,oP 69 (.idxS 1 (.t 67) (.t 68)),oP 70 (.load false 1 (.t 69)),mV 71 1,mV 72 6,mV 73 11,oP 74 (.idxS 1 (.t 72) (.t 73)),oP 75 (.load false 1 (.t 74)),mV 76 12,oP 77 (.idxS 1 (.t 75) (.t 76)),oP 78 (.load false 1 (.t 77)),oP 79 (.idxS 1 (.t 71) (.t 78)),oP 80 (.load false 1 (.t 79)),oP 81 (.idxS 1 (.t 66) (.t 70)),⟨none,none,.store 1 (.t 81) (.t 80)⟩])))
 (.ops [mV 57 12,oP 58 (.bin .add (.t 57) (iC 1)),mV 12 58])))
def k32_b2:KC:=(.seq (.seq (.ops [mV 47 11,mV 48 6,oP 49 (.len false (.t 48)),oP 50 (.bin .lss (.t 47) (.t 49))])
 (.cond (.t 50) .skip (.exit 2)))
 (.seq (.block 3 (.seq (.ops [oP 12 (.mv (iC 0))])
 (.block 4 (.loop k32_b1))))
 (.ops [mV 51 11,oP 52 (.bin .add (.t 51) (iC 1)),mV 11 52])))
def k32:KC:=(.seq (.ops [oP 4 (.mv (.c (.nils))),oP 5 (.mv (iC 0))])
 (.seq (.ops [mV 15 0,mV 16 1,oP 17 (.bsl true 25 1 [(.t 16)]),oP 18 (.call (fC 85) [(.t 15),(.t 17)]),mV 14 18,oP 19 (.extr 0 (.t 14)),oP 20 (.extr 1 (.t 14)),mV 6 19,mV 7 20])
 (.seq (.seq (.ops [mV 21 7,oP 22 (.bin .eql (.t 21) (iC 0)),mV 23 22,⟨(some 24),some (23,true),.mv (.t 6)⟩,⟨(some 25),some (23,true),.mv (.t 1)⟩,⟨(some 26),some (23,true),.call (fC 87) [(.t 24),(.t 25),(.c (.bool true))]⟩,⟨(some 27),some (23,true),.mv (.t 1)⟩,⟨(some 28),some (23,true),.call (fC 86) [(.t 26),(.t 27)]⟩,⟨(some 29),some (23,true),.not (.t 28)⟩,oP 30 (.pick (.t 23) (.t 29) (.c (.bool false)))])
 (.cond (.t 30) (.ops [oP 7 (.mv (iC 5))]) .skip))
 (.seq (.seq (.ops [mV 31 7,oP 32 (.bin .neq (.t 31) (iC 0))])
 (.cond (.t 32) (.seq (.ops [mV 33 7,oP 4 (.mv (.c (.nils))),mV 5 33])
 .ret) .skip))
 (.seq (.ops [mV 34 1,oP 35 (.call (fC 88) [(.t 34)]),oP 36 (.bsl false 25 1 []),mV 8 35,mV 9 36])
 (.seq (.seq (.ops [oP 10 (.mv (iC 0))])
 (.block 0 (.loop k32_b0)))
 (.seq (.seq (.ops [oP 11 (.mv (iC 0))])
 (.block 2 (.loop k32_b2)))
 (.seq (.ops [mV 82 9,mV 4 82,oP 5 (.mv (iC 0))])
 .ret))))))))
theorem e32:Ent 32 83 [17,45] [.t 4,.t 5] k32:=ent Tryz.func32
end
section
attribute [local irreducible] ACall PCall KL
attribute [local go_sem] OpK_eq HKv
theorem p85_bad {t:List (List Int)} {c:Int} (h:GxC t c) (cl:List Int):Pure Tryz.prog 85 [.list (aggs t),.list (rows [cl])] (.tup [.nils,.int .i64 c]):=by
 refine e85 (by simp) fun _ _=>?_
 simp only [k85,argEnv,go_sem]
 refine h.s30.go ?_
 try simp only [go_sem]
 exact ⟨fun _=>Kv.Fin.still ⟨rfl,rfl⟩,fun e=>absurd e h.ne⟩
theorem p85_in {t T:List (List Int)} {N:Nat} (h:GvC t T N) (cl:List Int) (hl:cl.length≤1000):Pure Tryz.prog 85 [.list (aggs t),.list (rows [cl])] (if (clOk cl 0 && decide ((cl.length:Int)=N))=true then .tup [.list (rows T),.int .i64 0] else .tup [.nils,.int .i64 2]):=by
 have hTl:=h.tbl.len
 have hI:=p153 cl N (by omega)
 have hv1:(clOk cl 0 && decide ((cl.length:Int)=N))=true→(if (clOk cl 0 && decide ((cl.length:Int)=N))=true then PV.tup [.list (rows T),.int .i64 0] else .tup [.nils,.int .i64 2])=PV.tup [.list (rows T),.int .i64 0]:=fun h=>if_pos h
 have hv2:¬ (clOk cl 0 && decide ((cl.length:Int)=N))=true→(if (clOk cl 0 && decide ((cl.length:Int)=N))=true then PV.tup [.list (rows T),.int .i64 0] else .tup [.nils,.int .i64 2])=PV.tup [.nils,.int .i64 2]:=fun h=>if_neg h
 generalize (if (clOk cl 0 && decide ((cl.length:Int)=N))=true then PV.tup [.list (rows T),.int .i64 0] else .tup [.nils,.int .i64 2])=V at hv1 hv2 ⊢
 refine e85 (by simp) fun _ _=>?_
 simp only [k85,argEnv,go_sem]
 refine h.s30.go ?_
 try simp only [go_sem]
 refine KL_ind k85_b0.eq_1 (fun x:Nat=>[(1,.list (rows [cl])),(6,.list (rows T)),(8,.int .i64 x)]) (fun _=>[]) (fun x=>x≤1∧(x=1→(clOk cl 0 && decide ((cl.length:Int)=N))=true)) (fun x=>1 - x) [1,6,8] 0 (by simp [keep]) rfl ⟨Nat.zero_le _,fun h=>absurd h (by decide)⟩ fun x ⟨hx,hc⟩ ih=>?_
 rcases x with _ | x
 ·try simp only [hTl,go_sem]
  refine hI.go ?_
  cases hb:(clOk cl 0 && decide ((cl.length:Int)=N)) with
  | false =>
   try simp only [go_sem]
   exact Kv.Fin.still ⟨(hv2 (by rw [hb]; decide)).symm,rfl⟩
  | true =>
   try simp only [go_sem]
   exact ⟨by omega,ih 1 ⟨Nat.le_refl _,fun _=>hb⟩ (by decide) _ _ (by simp [keep]) rfl⟩
 ·obtain rfl:x=0:=by omega
  try simp only [go_sem]
  exact Kv.Fin.still ⟨(hv1 (hc rfl)).symm,rfl⟩
theorem p32_bad {t:List (List Int)} {c:Int} (h:GxC t c) (cl:List Int):Pure Tryz.prog 32 [.list (aggs t),.list (ints cl)] (.tup [.nils,.int .i64 c]):=by
 have hC:=p85_bad h cl
 have hne:=h.ne
 refine e32 (by simp) fun _ _=>?_
 simp only [k32,argEnv,go_sem]
 refine hC.go ?_
 try simp only [go_sem]
 exact ⟨fun e=>absurd e hne,fun _=>⟨fun _=>Kv.Fin.still ⟨rfl,rfl⟩,fun e=>absurd e hne⟩⟩
def heapQ (M:Nat) (Q:List (List Int)):Heap:=.arr Q.length 25 1 ((List.range Q.length).map fun i=>.ref (i+1) 0 0 M) :: Q.map fun r=>.arr 0 2 1 (ints r)
theorem heapQ_out {M:Nat} {Q:List (List Int)} (h:Q.length=M):(heapQ M Q)[0]? = some (.arr M 25 1 ((List.range M).map fun i=>.ref (i+1) 0 0 M)):=by subst h; rfl
theorem heapQ_row {M:Nat} {Q:List (List Int)} (h:Q.length=M) {a:Nat} (ha:a<M):(heapQ M Q)[a+1]? = some (.arr 0 2 1 (ints (Q.getD a []))):=by
 unfold heapQ
 rw [List.getElem?_cons_succ,List.getElem?_map,List.getElem?_eq_getElem (by omega),List.getD_eq_getElem?_getD,List.getElem?_eq_getElem (by omega)]
 rfl
theorem heapQ_set {M:Nat} {Q:List (List Int)} (a:Nat) (r:List Int):(heapQ M Q).set (a+1) (.arr 0 2 1 (ints r))=heapQ M (Q.set a r):=by
 unfold heapQ
 rw [List.set_cons_succ,List.map_set,List.length_set]
theorem heapQ_len (M:Nat) (Q:List (List Int)):(heapQ M Q).length=Q.length+1:=by simp [heapQ]
structure TqI (cl:List Int) (G Q:List (List Int)) (M:Nat) (D:Nat→Nat→Prop):Prop where
 len:Q.length=M
 row:∀ a,a<M→(Q.getD a []).length=M
 ok:∀ i j,D i j→(Q.getD (cl.getD i 0).toNat []).getD (cl.getD j 0).toNat 0=tat G (cl.getD i 0).toNat (cl.getD j 0).toNat
theorem TqI.put {cl:List Int} {G Q:List (List Int)} {M:Nat} {D:Nat→Nat→Prop} (h:TqI cl G Q M D) {i j:Nat} (hi:(cl.getD i 0).toNat<M) (hj:(cl.getD j 0).toNat<M):TqI cl G (Q.set (cl.getD i 0).toNat ((Q.getD (cl.getD i 0).toNat []).set (cl.getD j 0).toNat (tat G (cl.getD i 0).toNat (cl.getD j 0).toNat))) M (fun x y=>D x y∨(x=i∧y=j)):=by
 have hl:=h.len
 have hg:∀ a (r:List Int),(Q.set (cl.getD i 0).toNat r).getD a []=if a=(cl.getD i 0).toNat then r else Q.getD a []:=fun a r=>by
  rw [List.getD_eq_getElem?_getD,List.getElem?_set]
  by_cases e:(cl.getD i 0).toNat=a
  ·subst e; rw [if_pos rfl,if_pos (by omega),if_pos rfl]; rfl
  ·rw [if_neg e,if_neg (Ne.symm e),List.getD_eq_getElem?_getD]
 refine ⟨by rw [List.length_set]; exact hl,fun a ha=>?_,fun x y hd=>?_⟩
 ·rw [hg]
  split
  ·rw [List.length_set]; exact h.row _ hi
  ·exact h.row a ha
 ·rw [hg]
  by_cases e1:(cl.getD x 0).toNat=(cl.getD i 0).toNat
  ·rw [if_pos e1,List.getD_eq_getElem?_getD,List.getElem?_set]
   by_cases e2:(cl.getD j 0).toNat=(cl.getD y 0).toNat
   ·rw [if_pos e2,if_pos (by rw [h.row _ hi]; exact hj),e1,e2]; rfl
   ·rw [if_neg e2,← List.getD_eq_getElem?_getD,← e1]
    rcases hd with hd | ⟨rfl,rfl⟩
    ·exact h.ok x y hd
    ·exact absurd rfl e2
  ·rw [if_neg e1]
   rcases hd with hd | ⟨rfl,rfl⟩
   ·exact h.ok x y hd
   ·exact absurd rfl e1
theorem ext_tab {Q G:List (List Int)} {M:Nat} (h1:Q.length=M) (h2:G.length=M) (r1:∀ a,a<M→(Q.getD a []).length=M) (r2:∀ a,a<M→(G.getD a []).length=M) (h:∀ a b,a<M→b<M→(Q.getD a []).getD b 0=(G.getD a []).getD b 0):Q=G:=by
 refine List.ext_getElem (h1.trans h2.symm) fun a g1 g2=>?_
 have e1:Q.getD a []=Q[a]:=by simp [List.getD_eq_getElem?_getD,g1]
 have e2:G.getD a []=G[a]:=by simp [List.getD_eq_getElem?_getD,g2]
 have l1:=r1 a (by omega)
 have l2:=r2 a (by omega)
 rw [e1] at l1
 rw [e2] at l2
 refine List.ext_getElem (l1.trans l2.symm) fun b k1 k2=>?_
 have:=h a b (by omega) (by omega)
 rw [e1,e2,List.getD_eq_getElem?_getD,List.getD_eq_getElem?_getD,List.getElem?_eq_getElem k1,List.getElem?_eq_getElem k2] at this
 exact this
theorem heapQ_imm {M:Nat} {Q:List (List Int)} (h1:Q.length=M) (h2:∀ a,a<M→(Q.getD a []).length=M):Imm (heapQ M Q) (.ref 0 M 0 M) (.list (rows Q)):=by
 have key:∀ (i:Nat) (x d:PV),((List.range M).map fun i=>PV.ref (i+1) 0 0 M)[0+i]? = some x→(rows Q)[i]? = some d→i<M∧x = .ref (i+1) 0 0 M∧d = .list (ints (Q.getD i [])):=fun i x d hx hd=>by
  have hi:i<M:=by
   have:=(List.getElem?_eq_some_iff.1 hd).1
   rw [rows_lenC] at this; omega
  rw [Nat.zero_add,List.getElem?_map,List.getElem?_range hi] at hx
  obtain ⟨y,hy,rfl⟩:=rows_get hd
  refine ⟨hi,(Option.some.inj hx).symm,?_⟩
  rw [List.getD_eq_getElem?_getD,hy]; rfl
 refine .ref 0 M 0 M 25 1 _ _ (heapQ_out h1) (by simp) (by rw [rows_length,h1]) (fun i x d hx hd=>?_) (fun i x d j c c' hx hd hc hc'=>?_)
 ·obtain ⟨_,rfl,rfl⟩:=key i x d hx hd
  exact ⟨rfl,rfl⟩
 ·obtain ⟨hi,rfl,rfl⟩:=key i x d hx hd
  have e1:=List.mem_of_getElem? hc
  have e2:=List.mem_of_getElem? hc'
  simp only [PV.cs,List.mem_singleton] at e1 e2
  subst e1; subst e2
  exact Imm.refn (heapQ_row h1 hi) (h2 i hi).symm
theorem p32_in {t T:List (List Int)} {N:Nat} (h:GvC t T N) (cl:List Int) (hl:cl.length≤1000):Pure Tryz.prog 32 [.list (aggs t),.list (ints cl)] (quoV T N cl):=by
 have hC:=p85_in h cl hl
 have hT:=h.tbl
 have hTl:=hT.len
 have h30:=h.n30
 have h0:=h.pos
 unfold quoV
 cases hc:(clOk cl 0 && decide ((cl.length:Int)=N)) with
 | false =>
  rw [hc,if_neg (by decide)] at hC
  simp only [Bool.false_eq_true,if_false]
  refine e32 (by simp) fun _ _=>?_
  simp only [k32,argEnv,go_sem]
  refine hC.go ?_
  try simp only [go_sem]
  exact ⟨fun e=>absurd e (by decide),fun _=>⟨fun _=>Kv.Fin.still ⟨rfl,rfl⟩,fun e=>absurd e (by decide)⟩⟩
 | true =>
  rw [hc,if_pos rfl] at hC
  have hcn:=cn_of hc
  have hcl:=hcn.len
  have hClo:=p87 T N hT (by omega) cl hcl true
  have hle:=(lfC_lea hT true (eqC cl)).2.len
  have hself:=lf_self hT hcn
  have hEq:=p86 (nz (lfC N (PC T N true (eqC cl)))) cl (hle.trans hcl.symm) (by omega)
  generalize nz (lfC N (PC T N true (eqC cl)))=Y at *
  cases hb:cloB T N cl with
  | false =>
   have hY:¬ Y=cl:=fun e=>by rw [cloB_true (hself.1 e)] at hb; cases hb
   rw [decide_eq_false hY] at hEq
   simp only [if_true,Bool.false_eq_true,if_false]
   refine e32 (by simp) fun _ _=>?_
   simp only [k32,argEnv,go_sem]
   refine hC.go ?_
   try simp only [go_sem]
   refine hClo.go ?_
   try simp only [go_sem]
   refine hEq.go ?_
   try simp only [go_sem]
   exact ⟨fun _=>Kv.Fin.still ⟨rfl,rfl⟩,fun e=>absurd e (by decide)⟩
  | true =>
   have hY:Y=cl:=hself.2 (cloB_of hb)
   rw [decide_eq_true hY] at hEq
   obtain ⟨m0,m1,m2,m3⟩:=MC_ok hcn h0
   have hM:=p88 cl (by omega) (by omega)
   rw [m3] at hM
   have hof:=fun i j (hi:i<N) (hj:j<N)=>quo_of hT hcn h0 (cloB_of hb) hi hj
   have hlt:=fun i (hi:i<N)=>cl_lt hcn hi
   simp only [if_true]
   refine e32 (by simp) fun _ _=>?_
   simp only [k32,argEnv,go_sem]
   refine hC.go ?_
   try simp only [go_sem]
   refine hClo.go ?_
   try simp only [go_sem]
   refine hEq.go ?_
   try simp only [go_sem]
   refine hM.go ?_
   have hql:=quo_len T cl
   have hrp:=fun a (ha:a<MC cl)=>rp_ok hcn h0 ha
   have hqr:=fun a (ha:a<MC cl)=>congrArg List.length (quo_row T (cl:=cl) ha)
   simp only [List.length_map,List.length_range] at hqr
   generalize quoC T cl=G at *
   generalize MC cl=M at *
   try simp only [go_sem]
   refine KL_ind k32_b0.eq_1 (fun x:Nat=>[(1,.list (ints cl)),(6,.list (rows T)),(8,.int .i64 M),(9,.ref 0 x 0 x),(10,.int .i64 x)]) (fun x=>heapQ M (List.replicate x (List.replicate M 0))) (fun x=>x≤M) (fun x=>M - x) [1,6,8,9,10] 0 (by simp [keep]) (by simp [heapQ]) (Nat.zero_le _) fun x hx ih=>?_
   have hh:heapQ M (List.replicate x (List.replicate M 0)) = [.arr x 25 1 ((List.range x).map fun i=>.ref (i+1) 0 0 M)] ++ List.replicate x (.arr 0 2 1 (ints (List.replicate M 0))):=by simp [heapQ]
   rw [hh]
   try simp only [go_sem]
   refine ⟨fun g1=>?_,fun g1=>?_⟩
   ·refine ⟨⟨Int.le_refl _,by omega⟩,⟨by simp,by omega⟩,by omega,ih (x+1) (by omega) (by omega) _ _ (by simp [keep]) ?_⟩
    have htk:List.take x ((List.range x).map fun i=>PV.ref (i+1) 0 0 M)=(List.range x).map fun i=>.ref (i+1) 0 0 M:=List.take_of_length_le (by simp)
    rw [htk]
    simp [heapQ,List.range_succ,List.replicate_succ']
   ·obtain rfl:x=M:=by omega
    have hh2:=hh
    rw [List.singleton_append] at hh2
    rw [← hh2]
    clear hh hh2 ih
    have hrep:∀ a,a<x→(List.replicate x (List.replicate x (0:Int))).getD a []=List.replicate x 0:=fun a ha=>by simp [List.getD_eq_getElem?_getD,ha]
    refine KL_ind k32_b2.eq_1 (fun y:List (List Int) × Nat=>[(1,.list (ints cl)),(6,.list (rows T)),(9,.ref 0 x 0 x),(11,.int .i64 y.2)]) (fun y=>heapQ x y.1) (fun y=>TqI cl G y.1 x (fun i j=>i<y.2∧j<N)∧y.2≤N) (fun y=>N - y.2) [1,6,9,11] (List.replicate x (List.replicate x 0),0) (by simp [keep]) rfl ⟨⟨by simp,fun a ha=>by rw [hrep a ha]; simp,fun i j hd=>absurd hd.1 (Nat.not_lt_zero _)⟩,Nat.zero_le _⟩ fun ⟨Q,i⟩ ⟨hQ,hi⟩ ih=>?_
    simp only at hQ hi
    try simp only [hTl,go_sem]
    refine ⟨fun g1=>?_,fun g1=>?_⟩
    ·have hiN:i<N:=by omega
     obtain ⟨c1,c2⟩:=hlt i hiN
     refine KL_ind k32_b1.eq_1 (fun y:List (List Int) × Nat=>[(1,.list (ints cl)),(6,.list (rows T)),(9,.ref 0 x 0 x),(11,.int .i64 i),(12,.int .i64 y.2)]) (fun y=>heapQ x y.1) (fun y=>TqI cl G y.1 x (fun i' j=>(i'<i∧j<N)∨(i'=i∧j<y.2))∧y.2≤N) (fun y=>N - y.2) [1,6,9,11,12] (Q,0) (by simp [keep]) rfl ⟨⟨hQ.len,hQ.row,fun i' j hd=>hQ.ok i' j (hd.elim id fun h=>absurd h.2 (Nat.not_lt_zero _))⟩,Nat.zero_le _⟩ fun ⟨Q,j⟩ ⟨hQ,hj⟩ ihj=>?_
     simp only at hQ hj
     have ho:=heapQ_out hQ.len
     have hr:=heapQ_row hQ.len c2
     have hrl:=hQ.row _ c2
     try simp only [hTl,hcl,go_sem]
     refine ⟨fun g2=>?_,fun g2=>?_⟩
     ·have hjN:j<N:=by omega
      obtain ⟨d1,d2⟩:=hlt j hjN
      have hput:=hQ.put c2 d2
      rw [hof i j hiN hjN] at hput
      obtain ⟨t1,t2⟩:=hT.tg hiN hjN
      have w1:=hT.row _ hiN
      have hset:=heapQ_set (M:=x) (Q:=Q) (cl.getD i 0).toNat
      have hlen:=heapQ_len x Q
      have ho2:=ho
      generalize hci:(cl.getD i 0).toNat=ci at *
      generalize hcj:(cl.getD j 0).toNat=cj at *
      refine ⟨by omega,fun _=>?_⟩
      rw [c1]
      try simp only [hTl,hcl,ho,go_sem]
      refine ⟨⟨by omega,by simp⟩,by simpa using c2,fun v hv=>?_⟩
      have hv:v = .ref (ci+1) 0 0 x:=by
       rw [List.getElem?_map,List.getElem?_range c2] at hv
       exact (Option.some.inj hv).symm
      subst hv
      refine ⟨by simp [PV.cs],fun c hc=>?_⟩
      have hc:c = .ref (ci+1) 0 0 x:=by
       simp only [PV.cs,List.getElem?_cons_zero,Option.some.injEq] at hc
       exact hc.symm
      subst hc
      rw [w1,t2,Int.toNat_natCast,d1]
      refine ⟨by omega,fun _=>⟨by omega,fun _=>⟨by omega,fun _=>⟨⟨by omega,by omega⟩,fun _=>?_⟩⟩⟩⟩
      try simp only [hr,hrl,go_sem]
      refine ⟨⟨by omega,Nat.le_refl _⟩,d2,fun _=>⟨by omega,ihj (Q.set ci ((Q.getD ci []).set cj (cl.getD (tgC T i j) 0)),j+1) ⟨⟨hput.len,hput.row,fun i' j' hd=>hput.ok i' j' ?_⟩,hjN⟩ (by show N - (j+1)<N - j; omega) _ _ (by simp [keep]) ?_⟩⟩
      ·have hd:(i'<i∧j'<N)∨(i'=i∧j'<j+1):=hd
       omega
      ·exact hset _
     ·have hjN:j=N:=by omega
      refine ⟨by omega,ih (Q,i+1) ⟨⟨hQ.len,hQ.row,fun i' j' hd=>hQ.ok i' j' ?_⟩,hiN⟩ (by show N - (i+1)<N - i; omega) _ _ (by simp [keep]) rfl⟩
      have hd:i'<i+1∧j'<N:=hd
      omega
    ·have hiN:i=N:=by omega
     have hQG:Q=G:=ext_tab hQ.len hql hQ.row hqr fun a b ha hb=>by
      obtain ⟨_,a1,a2⟩:=hrp a ha
      obtain ⟨_,b1,b2⟩:=hrp b hb
      have:=hQ.ok _ _ ⟨by rw [hiN]; exact a1,b1⟩
      rwa [a2,b2,Int.toNat_natCast,Int.toNat_natCast] at this
     subst hQG
     exact Kv.Fin.freeze (Imm.tupL (.cons (heapQ_imm hQ.len hQ.row) (.cons (.int _ _ _) (.nil _)))) ⟨rfl,rfl⟩
end
end
section
section
set_option maxRecDepth 100000
def k11_b0:KC:=(.seq (.seq (.ops [mV 11 5,mV 12 0,oP 13 (.len false (.t 12)),oP 14 (.bin .lss (.t 11) (.t 13))])
 (.cond (.t 14) .skip (.exit 0)))
 (.seq (.block 1 (.seq (.draw [mV 17 0,mV 18 5,oP 19 (.idxS 1 (.t 17) (.t 18)),oP 20 (.load false 1 (.t 19)),mV 21 1,mV 22 5,oP 23 (.idxS 1 (.t 21) (.t 22)),oP 24 (.load false 1 (.t 23)),oP 25 (.bin .neq (.t 20) (.t 24))])
 (.cond (.t 25) (.seq (.ops [oP 4 (.mv (.c (.bool false)))])
 .ret) .skip)))
 (.ops [mV 15 5,oP 16 (.bin .add (.t 15) (iC 1)),mV 5 16])))
def k11:KC:=(.seq (.ops [oP 4 (.mv (.c (.bool false)))])
 (.seq (.seq (.ops [mV 6 0,oP 7 (.len false (.t 6)),mV 8 1,oP 9 (.len false (.t 8)),oP 10 (.bin .neq (.t 7) (.t 9))])
 (.cond (.t 10) (.seq (.ops [oP 4 (.mv (.c (.bool false)))])
 .ret) .skip))
 (.seq (.seq (.ops [oP 5 (.mv (iC 0))])
 (.block 0 (.loop k11_b0)))
 (.seq (.ops [oP 4 (.mv (.c (.bool true)))])
 .ret))))
theorem e11:Ent 11 26 [] [.t 4] k11:=ent Tryz.func11
end
section
attribute [local irreducible] ACall PCall KL
theorem p11 (a:List Int) (ha:a.length≤1000):Pure Tryz.prog 11 [.list (ints a),.list (ints a)] (.bool true):=by
 refine e11 (by simp) fun _ _=>?_
 simp only [k11,argEnv,go_sem]
 try simp only [OpK_eq,HKv,bne_self_eq_false,go_sem]
 refine KL_ind k11_b0.eq_1 (fun x:Nat=>[(0,.list (ints a)),(1,.list (ints a)),(5,.int .i64 x)]) (fun _=>[]) (fun x=>x≤a.length) (fun x=>a.length - x) [0,1,5] 0 (by simp [keep]) rfl (Nat.zero_le _) fun x hx ih=>?_
 try simp only [OpK_eq,HKv,go_sem]
 refine ⟨fun h1=>?_,fun h1=>Kv.Fin.still ⟨rfl,rfl⟩⟩
 exact ⟨by omega,fun _=>⟨by omega,fun _=>⟨by omega,ih (x+1) (by omega) (by omega) _ _ (by simp [keep]) rfl⟩⟩⟩
end
end
section
section
set_option maxRecDepth 100000
def k33_b0:KC:=(.seq (.seq (.ops [mV 11 5,mV 12 0,oP 13 (.len false (.t 12)),oP 14 (.bin .lss (.t 11) (.t 13))])
 (.cond (.t 14) .skip (.exit 0)))
 (.seq (.block 1 (.seq (.draw [mV 17 0,mV 18 5,oP 19 (.idxS 1 (.t 17) (.t 18)),oP 20 (.load false 1 (.t 19)),mV 21 1,mV 22 5,oP 23 (.idxS 1 (.t 21) (.t 22)),oP 24 (.load false 1 (.t 23)),oP 25 (.pcall (fC 11) [(.t 20),(.t 24)]),oP 26 (.not (.t 25))])
 (.cond (.t 26) (.seq (.ops [oP 4 (.mv (.c (.bool false)))])
 .ret) .skip)))
 (.ops [mV 15 5,oP 16 (.bin .add (.t 15) (iC 1)),mV 5 16])))
def k33:KC:=(.seq (.ops [oP 4 (.mv (.c (.bool false)))])
 (.seq (.seq (.ops [mV 6 0,oP 7 (.len false (.t 6)),mV 8 1,oP 9 (.len false (.t 8)),oP 10 (.bin .neq (.t 7) (.t 9))])
 (.cond (.t 10) (.seq (.ops [oP 4 (.mv (.c (.bool false)))])
 .ret) .skip))
 (.seq (.seq (.ops [oP 5 (.mv (iC 0))])
 (.block 0 (.loop k33_b0)))
 (.seq (.ops [oP 4 (.mv (.c (.bool true)))])
 .ret))))
theorem e33:Ent 33 27 [] [.t 4] k33:=ent Tryz.func33
end
section
attribute [local irreducible] ACall PCall KL
theorem getD_memZ {α:Type} {l:List (List α)} {i:Nat} (h:i<l.length):l.getD i []∈l:=by
 rw [List.getD_eq_getElem?_getD,List.getElem?_eq_getElem h]; exact List.getElem_mem _
theorem p33 (a:List (List Int)) (ha:a.length≤1000) (h6:∀ r∈a,r.length≤1000):Pure Tryz.prog 33 [.list (rows a),.list (rows a)] (.bool true):=by
 refine e33 (by simp) fun _ _=>?_
 simp only [k33,argEnv,go_sem]
 try simp only [OpK_eq,HKv,bne_self_eq_false,go_sem]
 refine KL_ind k33_b0.eq_1 (fun x:Nat=>[(0,.list (rows a)),(1,.list (rows a)),(5,.int .i64 x)]) (fun _=>[]) (fun x=>x≤a.length) (fun x=>a.length - x) [0,1,5] 0 (by simp [keep]) rfl (Nat.zero_le _) fun x hx ih=>?_
 try simp only [OpK_eq,HKv,go_sem]
 refine ⟨fun h1=>?_,fun h1=>Kv.Fin.still ⟨rfl,rfl⟩⟩
 refine ⟨by omega,fun _=>⟨by omega,fun hxl=>?_⟩⟩
 refine (p11 (a.getD x []) (h6 _ (getD_memZ hxl))).pgo ?_
 try simp only [OpK_eq,HKv,go_sem]
 exact ⟨by omega,ih (x+1) (by omega) (by omega) _ _ (by simp [keep]) rfl⟩
theorem p33nn:Pure Tryz.prog 33 [.nils,.nils] (.bool true):=by
 refine e33 (by simp) fun _ _=>?_
 simp only [k33,argEnv,go_sem]
 try simp only [OpK_eq,HKv,bne_self_eq_false,go_sem]
 refine KL_ind k33_b0.eq_1 (fun x:Unit=>[(0,.nils),(1,.nils),(5,.int .i64 0)]) (fun _=>[]) (fun x=>True) (fun x=>0) [0,1,5] () (by simp [keep]) rfl trivial fun x hx ih=>?_
 try simp only [OpK_eq,HKv,go_sem]
 exact Kv.Fin.still ⟨rfl,rfl⟩
end
end
section
section
attribute [local irreducible] ACall PCall KL
theorem p11G (a b:List Int) (ha:a.length≤1000) (hb:b.length≤1000):Pure Tryz.prog 11 [.list (ints a),.list (ints b)] (.bool (decide (a=b))):=by
 refine e11 (by simp) fun _ _=>?_
 simp only [k11,argEnv,go_sem]
 try simp only [OpK_eq,HKv,go_sem]
 refine ⟨fun h=>Kv.Fin.still ⟨by rw [decide_eq_false fun e=>h (by rw [e])],rfl⟩,fun h=>?_⟩
 have hab:a.length=b.length:=by omega
 refine KL_ind k11_b0.eq_1 (fun x:Nat=>[(0,.list (ints a)),(1,.list (ints b)),(5,.int .i64 x)]) (fun _=>[]) (fun x=>x≤a.length∧∀ j,j<x→a.getD j 0=b.getD j 0) (fun x=>a.length - x) [0,1,5] 0 (by simp [keep]) rfl ⟨Nat.zero_le _,fun j hj=>by omega⟩ fun x ⟨hx,hj⟩ ih=>?_
 try simp only [OpK_eq,HKv,go_sem]
 refine ⟨fun h1=>⟨by omega,fun _=>⟨by omega,fun _=>⟨fun h2=>?_,fun h2=>⟨by omega,ih (x+1) ⟨by omega,fun j hj2=>?_⟩ (by omega) _ _ (by simp [keep]) rfl⟩⟩⟩⟩,fun h1=>?_⟩
 ·exact Kv.Fin.still ⟨by rw [decide_eq_false fun e=>h2 (by rw [e])],rfl⟩
 ·by_cases e:j=x
  ·subst e; omega
  ·exact hj j (by omega)
 ·obtain rfl:x=a.length:=by omega
  have:a=b:=List.ext_getElem hab fun i h1 h2=>by
   have:=hj i h1
   rwa [List.getD_eq_getElem?_getD,List.getD_eq_getElem?_getD,List.getElem?_eq_getElem h1,List.getElem?_eq_getElem h2] at this
  exact Kv.Fin.still ⟨by rw [decide_eq_true this],rfl⟩
end
end
end Go.Proofs.YtcfmmmloeaggmaaGreat
