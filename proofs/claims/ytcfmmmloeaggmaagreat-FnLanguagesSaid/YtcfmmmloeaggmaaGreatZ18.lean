/- Several texts of this session as one, less what the claim does not need. -/
import Derived.Test.YtcfmmmloeaggmaaGreatCb
import Derived.Test.YtcfmmmloeaggmaaGreatZ17
import Derived.Test.YtcfmmmloeaggmaaGreatZ16
import Derived.Test.YtcfmmmloeaggmaaGreatZ13
import Derived.Test.YtcfmmmloeaggmaaGreatZ5
import Derived.Test.YtcfmmmloeaggmaaGreatZ8
import Derived.Test.YtcfmmmloeaggmaaGreatZ6
import Derived.Test.YtcfmmmloeaggmaaGreatZ14
import Derived.Test.YtcfmmmloeaggmaaGreatZ10
namespace Go.Proofs.YtcfmmmloeaggmaaGreat
open Go.Kv
set_option linter.unusedVariables false
set_option linter.unusedSimpArgs false
section
section
set_option maxRecDepth 100000
def k138_b0:KC:=(.seq (.seq (.ops [mV 27 7,mV 28 3,oP 29 (.bin .lss (.t 27) (.t 28))])
 (.cond (.t 29) .skip (.exit 0)))
 (.seq (.block 1 (.draw [mV 32 4,mV 33 7,oP 34 (.idxS 1 (.t 32) (.t 33)),oP 35 (.load false 1 (.t 34)),mV 36 4,mV 37 7,oP 38 (.bin .add (.t 37) (iC 1)),mV 39 3,oP 40 (.bin .rem (.t 38) (.t 39)),oP 41 (.idxS 1 (.t 36) (.t 40)),oP 42 (.load false 1 (.t 41)),oP 43 (.fieldA 1 (.t 5)),oP 44 (.idxA 5 1 (.t 43) (.t 35)),⟨none,none,.store 1 (.t 44) (.t 42)⟩]))
 (.ops [mV 30 7,oP 31 (.bin .add (.t 30) (iC 1)),mV 7 31])))
def k138_b1:KC:=(.seq (.seq (.ops [mV 48 8,oP 49 (.bin .gtr (.t 48) (iC 0))])
 (.cond (.t 49) .skip (.exit 2)))
 (.seq (.block 3 (.ops [mV 52 0,mV 53 3,oP 54 (.call (fC 72) [(.t 52),(.t 53)]),mV 55 0,mV 56 3,oP 57 (.call (fC 72) [(.t 55),(.t 56)]),oP 58 (.fieldA 1 (.t 6)),oP 59 (.idxA 5 1 (.t 58) (.t 54)),⟨none,none,.store 1 (.t 59) (.t 57)⟩]))
 (.ops [mV 50 8,oP 51 (.bin .sub (.t 50) (iC 1)),mV 8 51])))
def k138:KC:=(.seq (.ops [oP 2 (.mv (.c (.nils)))])
 (.seq (.ops [mV 9 0,oP 10 (.bsl false 2 1 [(iC 2),(iC 3),(iC 4),(iC 5)]),oP 11 (.call (fC 139) [(.t 9),(.t 10)]),mV 3 11])
 (.seq (.seq (.ops [mV 12 0,oP 13 (.call (fC 72) [(.t 12),(iC 3)]),oP 14 (.bin .gtr (.t 13) (iC 0))])
 (.cond (.t 14) (.seq (.ops [mV 15 0,mV 16 0,oP 17 (.bsl false 2 1 [(iC 1),(iC 2),(iC 3),(iC 4),(iC 5)]),oP 18 (.call (fC 139) [(.t 16),(.t 17)]),oP 19 (.call (fC 157) [(.t 15),(.t 18)]),mV 2 19])
 .ret) .skip))
 (.seq (.ops [mV 20 0,mV 21 3,oP 22 (.call (fC 109) [(.t 20),(.t 21)]),mV 4 22])
 (.seq (.ops [mV 23 3,oP 24 (.build [.int .i64 0,.int .i64 0,.int .i64 0,.int .i64 0,.int .i64 0,.int .i64 0] [(0,1,(.t 23))]),mV 25 3,oP 26 (.call (fC 136) [(.t 25)]),oP 5 (.alloc [.int .i64 0,.int .i64 0,.int .i64 0,.int .i64 0,.int .i64 0,.int .i64 0]),oP 6 (.alloc [.int .i64 0,.int .i64 0,.int .i64 0,.int .i64 0,.int .i64 0,.int .i64 0]),⟨none,none,.store 6 (.t 5) (.t 24)⟩,⟨none,none,.store 6 (.t 6) (.t 26)⟩])
 (.seq (.seq (.ops [oP 7 (.mv (iC 0))])
 (.block 0 (.loop k138_b0)))
 (.seq (.seq (.ops [mV 45 0,oP 46 (.call (fC 72) [(.t 45),(iC 2)]),oP 47 (.bin .add (iC 1) (.t 46)),mV 8 47])
 (.block 2 (.loop k138_b1)))
 (.seq (.seq (.ops [mV 60 0,oP 61 (.call (fC 72) [(.t 60),(iC 2)]),oP 62 (.bin .eql (.t 61) (iC 0))])
 (.cond (.t 62) (.seq (.ops [oP 63 (.load true 6 (.t 5)),oP 64 (.load true 6 (.t 6)),oP 65 (.bsl false 48 6 [(.t 63),(.t 64)]),mV 2 65])
 .ret) .skip))
 (.seq (.ops [oP 66 (.load true 6 (.t 6)),oP 67 (.load true 6 (.t 5)),oP 68 (.bsl false 48 6 [(.t 66),(.t 67)]),mV 2 68])
 .ret)))))))))
theorem e138:Ent 138 69 [] [.t 2] k138:=ent Tryz.func138
end
section
attribute [local irreducible] ACall PCall KL
structure D5 (σ τ:Heap) (b:Nat) (l:List Int) (id ver:Nat) (L:List Int) (x5 x6:Nat) (m5 m6:List Int) (n:Nat):Prop where
 src:Src τ b l
 kept:Kept σ τ b
 lt:b < σ.length
 ho:τ[id]? = some (.arr ver 2 1 (ints L))
 h5:τ[x5]? = some (.box (ints m5))
 h6:τ[x6]? = some (.box (ints m6))
 p5:∃ f,Ok f n∧m5=mp f
 p6:∃ f,Ok f n∧m6=mp f
 d:x5≠x6∧σ.length≤x5∧σ.length≤x6∧σ.length≤id
 d5:id≠x5
 d6:id≠x6
theorem D5.step {σ τ τ':Heap} {b:Nat} {l:List Int} {id ver:Nat} {L:List Int} {x5 x6:Nat} {m5 m6:List Int} {n:Nat} (h:D5 σ τ b l id ver L x5 x6 m5 m6 n) (hS:Src τ' b l) (hK:Kept τ τ' b):D5 σ τ' b l id ver L x5 x6 m5 m6 n:=by
 have h0:=h.lt
 obtain ⟨d1,d2,d3,d4⟩:=h.d
 have g1:=(List.getElem?_eq_some_iff.1 h.ho).1
 have g2:=(List.getElem?_eq_some_iff.1 h.h5).1
 have g3:=(List.getElem?_eq_some_iff.1 h.h6).1
 exact ⟨hS,h.kept.trans hK,h.lt,(hK.2 _ g1 (by omega)).trans h.ho,(hK.2 _ g2 (by omega)).trans h.h5,(hK.2 _ g3 (by omega)).trans h.h6,h.p5,h.p6,h.d,h.d5,h.d6⟩
theorem D5.set5 {σ τ:Heap} {b:Nat} {l:List Int} {id ver:Nat} {L:List Int} {x5 x6:Nat} {m5 m6:List Int} {n:Nat} (h:D5 σ τ b l id ver L x5 x6 m5 m6 n) {m:List Int} (hm:∃ f,Ok f n∧m=mp f):D5 σ (τ.set x5 (.box (ints m))) b l id ver L x5 x6 m m6 n:=by
 have h0:=h.lt
 obtain ⟨d1,d2,d3,d4⟩:=h.d
 exact ⟨h.src.set2 (by omega) _,h.kept.set2 d2 _,h.lt,(List.getElem?_set_ne (Ne.symm h.d5)).trans h.ho,List.getElem?_set_self (List.getElem?_eq_some_iff.1 h.h5).1,(List.getElem?_set_ne d1).trans h.h6,hm,h.p6,h.d,h.d5,h.d6⟩
theorem D5.set6 {σ τ:Heap} {b:Nat} {l:List Int} {id ver:Nat} {L:List Int} {x5 x6:Nat} {m5 m6:List Int} {n:Nat} (h:D5 σ τ b l id ver L x5 x6 m5 m6 n) {m:List Int} (hm:∃ f,Ok f n∧m=mp f):D5 σ (τ.set x6 (.box (ints m))) b l id ver L x5 x6 m5 m n:=by
 have h0:=h.lt
 obtain ⟨d1,d2,d3,d4⟩:=h.d
 exact ⟨h.src.set2 (by omega) _,h.kept.set2 d3 _,h.lt,(List.getElem?_set_ne (Ne.symm h.d6)).trans h.ho,(List.getElem?_set_ne (Ne.symm d1)).trans h.h5,List.getElem?_set_self (List.getElem?_eq_some_iff.1 h.h6).1,h.p5,hm,h.d,h.d5,h.d6⟩
theorem p138 {l:List Int} (hl:Byt l) {σ:Heap} {b:Nat} (hS:Src σ b l) {K:PV→Heap→Prop}
  (hK:∀ (fs:List (List Nat)) n σ',1≤n→n≤5→1≤fs.length→fs.length≤6→(∀ f∈fs,Ok f n)→Src σ' b l→Kept σ σ' b→K (.list (aggs (fs.map mp))) σ'):ACall Tryz.prog 138 [.ptr b 0] σ K:=by
 have hlt:=hS.lt
 refine e138 (by simp) fun _ _=>?_
 simp only [k138,argEnv,go_sem]
 try simp only [OpK_eq,HKv,go_sem]
 refine p139 hl (hS.app _) [2,3,4,5] (by simp) (id:=σ.length) (ver:=0) (e:=2) (by simp [ints]) (by omega) 4 rfl fun r τ h2 h4 h5 h6=>?_
 have hr:∃ n:Nat,r=n∧1≤n∧n≤5:=by
  simp only [List.mem_cons,List.not_mem_nil,or_false] at h2
  exact ⟨r.toNat,by omega,by omega,by omega⟩
 obtain ⟨n,rfl,hn1,hn5⟩:=hr
 have hk1:Kept σ τ b:=(Kept.app _ _ _).trans h5
 clear h2 h5 h6
 try simp only [OpK_eq,HKv,go_sem]
 refine p72 hl h4 _ fun r2 τ2 h2 h3 h4' h5 h6=>?_
 have hk2:=hk1.trans h5
 clear h2 h3 h5 h6 h4 hk1
 try simp only [OpK_eq,HKv,go_sem]
 refine ⟨fun g1=>?_,fun g1=>?_⟩
 ·refine p139 hl (h4'.app _) [1,2,3,4,5] (by simp) (id:=τ2.length) (ver:=0) (e:=2) (by simp [ints]) (by have:=h4'.lt; omega) 5 rfl fun r τ3 q2 q4 q5 q6=>?_
  have hr:∃ n:Nat,r=n∧1≤n∧n≤5:=by
   simp only [List.mem_cons,List.not_mem_nil,or_false] at q2
   exact ⟨r.toNat,by omega,by omega,by omega⟩
  obtain ⟨n,rfl,hn1,hn5⟩:=hr
  have hk3:Kept σ τ3 b:=(hk2.trans (Kept.app _ _ _)).trans q5
  try simp only [OpK_eq,HKv,go_sem]
  refine p157S hl q4 n hn1 hn5 fun fs ρ a1 a2 a3 a4 a5=>?_
  try simp only [OpK_eq,HKv,go_sem]
  exact Kv.Fin.now (hK fs n _ hn1 hn5 a1 a2 a3 a4 (hk3.trans a5))
 ·refine p109S hl h4' n (by omega) fun L id ver τ3 q1 q2 q3 q4 q5 q6=>?_
  have hk3:Kept σ τ3 b:=hk2.trans q4
  have hle2:=hk2.1
  try simp only [OpK_eq,HKv,go_sem]
  refine (p136 n hn1 hn5).go ?_
  have hI6:(mp (List.range n)).length=6:=(Ok.idn hn1 hn5).mp_len
  have hg1:∀ a c:AObj,(τ3 ++ [a] ++ [c])[τ3.length+1]? = some c:=fun a c=>by
   rw [List.getElem?_append_right (by simp)]; simp
  have hs1:∀ a c d:AObj,(τ3 ++ [a] ++ [c]).set (τ3.length+1) d = τ3 ++ [a] ++ [d]:=fun a c d=>by
   rw [List.set_append_right _ _ (by simp)]; simp
  have hg0:∀ a c:AObj,(τ3 ++ [a] ++ [c])[τ3.length]? = some a:=fun a c=>by
   rw [List.getElem?_append_left (by simp)]; simp
  have hs0:∀ a c d:AObj,(τ3 ++ [a] ++ [c]).set τ3.length d = τ3 ++ [d] ++ [c]:=fun a c d=>by
   rw [List.set_append_left _ _ (by simp),List.set_append_right _ _ (Nat.le_refl _)]; simp
  have hil:(ints (mp (List.range n))).length=6:=by rw [ints_length,hI6]
  have hput:putC [PV.int .i64 0,.int .i64 0,.int .i64 0,.int .i64 0,.int .i64 0,.int .i64 0] 0 (ints (mp (List.range n)))=ints (mp (List.range n)):=put6 hil rfl
  try simp only [OpK_eq,HKv,hg0,hs0,hg1,hs1,hI6,hil,hput,go_sem]
  have hidl:=(List.getElem?_eq_some_iff.1 q6).1
  have hbl:=q3.lt
  have hle3:=hk3.1
  have hok0:Ok (List.replicate n 0) n:=⟨by simp,hn1,hn5,fun x hx=>by rw [List.eq_of_mem_replicate hx]; omega⟩
  have hz:[PV.int .i64 n,.int .i64 0,.int .i64 0,.int .i64 0,.int .i64 0,.int .i64 0]=ints (mp (List.replicate n 0)):=by
   rw [mp,List.length_replicate,mpN_rep hn5]; rfl
  rw [hz]
  have hD:D5 σ (τ3 ++ [AObj.box (ints (mp (List.replicate n 0)))] ++ [AObj.box (ints (mp (List.range n)))]) b l id ver L τ3.length (τ3.length+1) (mp (List.replicate n 0)) (mp (List.range n)) n :=
   ⟨(q3.app _).app _,(hk3.trans (Kept.app _ _ _)).trans (Kept.app _ _ _),hlt,by rw [List.getElem?_append_left (by simp; omega),List.getElem?_append_left hidl]; exact q6,hg0 _ _,hg1 _ _,⟨_,hok0,rfl⟩,⟨_,Ok.idn hn1 hn5,rfl⟩,⟨by omega,by omega,by omega,by omega⟩,by omega,by omega⟩
  generalize τ3 ++ [AObj.box (ints (mp (List.replicate n 0)))] ++ [AObj.box (ints (mp (List.range n)))] = π at *
  generalize mp (List.replicate n 0)=m5 at *
  generalize mp (List.range n)=m6 at *
  generalize τ3.length=x5 at *
  generalize x5+1=x6 at *
  clear hg0 hg1 hs0 hs1 hz q3 q4 q6 hk3 hput hil hI6
  have hlast:∀ (τ:Heap) (m5 m6:List Int),D5 σ τ b l id ver L x5 x6 m5 m6 n→∀ f g:List Nat,Ok f n→Ok g n→Kv.Fin σ.length K (.ref τ.length 0 0 2) (τ ++ [.arr 0 48 6 [.agg (ints (mp f)),.agg (ints (mp g))]]):=fun τ m5 m6 h f g hf hg=>by
   have hid:(τ ++ [AObj.arr 0 48 6 [.agg (ints (mp f)),.agg (ints (mp g))]])[τ.length]? = some (.arr 0 48 6 (aggs [mp f,mp g])):=by simp [aggs]
   have hbl:=h.src.lt
   have hkl:=h.kept.1
   exact Kv.Fin.giveAt hid (.inl (Imm.refa (solo_get hid))) (hK [f,g] n _ hn1 hn5 (by simp) (by simp) (fun x hx=>by
    simp only [List.mem_cons,List.not_mem_nil,or_false] at hx
    rcases hx with rfl | rfl <;> assumption) ((h.src.app _).set2 (by omega) _) ((h.kept.trans (Kept.app _ _ _)).set2 (by omega) _))
  refine KL_ind k138_b0.eq_1 (fun y:Nat × List Int × Heap=>[(0,.ptr b 0),(3,.int .i64 n),(4,.ref id ver 0 n),(5,.ptr x5 0),(6,.ptr x6 0),(7,.int .i64 y.1)]) (fun y=>y.2.2) (fun y=>y.1≤n∧D5 σ y.2.2 b l id ver L x5 x6 y.2.1 m6 n) (fun y=>n - y.1) [0,3,4,5,6,7] (0,m5,π) (by simp [keep]) rfl ⟨Nat.zero_le _,hD⟩ fun ⟨k,m5,τ⟩ ⟨hk,hD⟩ ih=>?_
  simp only at hk hD
  have e1:=hD.ho
  have e2:=hD.h5
  obtain ⟨f5,hf5,rfl⟩:=hD.p5
  have e6:=hf5.mp_len
  have hil:(ints (mp f5)).length=6:=by rw [ints_length,e6]
  try simp only [OpK_eq,HKv,e1,e2,hil,e6,ints_set1,go_sem]
  refine ⟨fun g2=>?_,fun g2=>?_⟩
  ·have hr1:0≤((k:Int)+1) % (n:Int):=Int.emod_nonneg _ (by omega)
   have hr2:((k:Int)+1) % (n:Int)<n:=Int.emod_lt_of_pos _ (by omega)
   generalize ((k:Int)+1) % (n:Int)=r at *
   have m1:=q2.1 _ (getD_memD (l:=L) (i:=k) (by omega))
   have m2:=q2.1 _ (getD_memD (l:=L) (i:=r.toNat) (by omega))
   exact ⟨⟨by omega,by omega⟩,by omega,fun _=>⟨by omega,⟨by omega,by omega⟩,⟨by omega,by omega,by omega⟩,by omega,fun _=>⟨by omega,by omega,by omega,ih (k+1,_,_) ⟨by show k+1≤n; omega,hD.set5 (set_pt ⟨f5,hf5,rfl⟩ (by omega) m2)⟩ (by show n - (k+1)<n - k; omega) _ _ (by simp [keep]) rfl⟩⟩⟩
  ·refine p72 hl hD.src _ fun r5 τ5 a2 a3 a4 a5 a6=>?_
   have a3:=a3 (by omega)
   have hD5:=hD.step a4 a5
   obtain ⟨c,hc,hc1⟩:∃ c:Nat,(1:Int)+r5=(c:Int)∧c≤2:=⟨(1+r5).toNat,by omega,by omega⟩
   generalize mp f5=m5 at *
   clear hD a4 a5 a6 e1 e2
   try simp only [OpK_eq,HKv,go_sem]
   rw [hc]
   refine ⟨by omega,?_⟩
   refine KL_ind k138_b1.eq_1 (fun y:Nat × List Int × Heap=>[(0,.ptr b 0),(3,.int .i64 n),(5,.ptr x5 0),(6,.ptr x6 0),(8,.int .i64 y.1)]) (fun y=>y.2.2) (fun y=>y.1≤2∧D5 σ y.2.2 b l id ver L x5 x6 m5 y.2.1 n) (fun y=>y.1) [0,3,5,6,8] (c,m6,τ5) (by simp [keep]) rfl ⟨hc1,hD5⟩ fun ⟨k,m6,τ⟩ ⟨hk,hD⟩ ih=>?_
   simp only at hk hD
   clear hD5
   try simp only [OpK_eq,HKv,go_sem]
   refine ⟨fun g3=>?_,fun g3=>?_⟩
   ·refine p72 hl hD.src _ fun r6 τ6 b2 b3 b4 b5 b6=>?_
    have b3:=b3 (by omega)
    have hD:=hD.step b4 b5
    try simp only [OpK_eq,HKv,go_sem]
    refine p72 hl hD.src _ fun r7 τ7 c2 c3 c4 c5 c6=>?_
    have c3:=c3 (by omega)
    have hD:=hD.step c4 c5
    have e2:=hD.h6
    obtain ⟨f6,hf6,rfl⟩:=hD.p6
    have e6:=hf6.mp_len
    have hil:(ints (mp f6)).length=6:=by rw [ints_length,e6]
    try simp only [OpK_eq,HKv,e2,hil,e6,ints_set1,go_sem]
    have hsp:=set_pt (v:=r7) (k:=r6.toNat) ⟨f6,hf6,rfl⟩ (by omega) ⟨c2,c3⟩
    have hk1:((k:Int) - 1)=((k - 1:Nat):Int):=by omega
    exact ⟨⟨by omega,by omega⟩,by omega,by omega,ih (k - 1,_,_) ⟨by show k - 1≤2; omega,hD.set6 hsp⟩ (by show k - 1<k; omega) _ _ (by simp [keep,hk1]) rfl⟩
   ·refine p72 hl hD.src _ fun r6 τ6 b2 b3 b4 b5 b6=>?_
    have hD:=hD.step b4 b5
    have e1:=hD.h5
    have e2:=hD.h6
    obtain ⟨f5,hf5,rfl⟩:=hD.p5
    obtain ⟨f6,hf6,rfl⟩:=hD.p6
    have e5:=hf5.mp_len
    have e6:=hf6.mp_len
    have hs5:subC (ints (mp f5)) 0 6=ints (mp f5):=by
     rw [subC_ints]; congr 1; rw [List.drop_zero,List.take_of_length_le (by omega)]
    have hs6:subC (ints (mp f6)) 0 6=ints (mp f6):=by
     rw [subC_ints]; congr 1; rw [List.drop_zero,List.take_of_length_le (by omega)]
    have hok:=ok6 e5
    have hok':=ok6 e6
    try simp only [OpK_eq,HKv,e1,e2,e5,e6,hs5,hs6,ints_length,go_sem]
    exact ⟨fun _=>hlast _ _ _ hD f5 f6 hf5 hf6,fun _=>hlast _ _ _ hD f6 f5 hf6 hf5⟩
end
end
section
section
set_option maxRecDepth 100000
def k188:KC:=(.seq (.ops [oP 2 (.mv (.c (.nils)))])
 (.seq (.ops [mV 3 0,mV 4 0,oP 5 (.bsl false 2 1 [(iC 1),(iC 2),(iC 2),(iC 3),(iC 3),(iC 3),(iC 4),(iC 4),(iC 5)]),oP 6 (.call (fC 139) [(.t 4),(.t 5)]),oP 7 (.call (fC 157) [(.t 3),(.t 6)]),mV 2 7])
 .ret))
theorem e188:Ent 188 8 [] [.t 2] k188:=ent Tryz.func188
def k140_b0:KC:=(.seq (.seq (.ops [mV 23 5,oP 24 (.len false (.t 23)),oP 25 (.bin .leq (.t 24) (iC 6))])
 (.cond (.t 25) .skip (.exit 1)))
 (.block 2 (.ops [mV 26 5,mV 27 1,oP 28 (.idxS 6 (.t 27) (iC 0)),oP 29 (.load true 6 (.t 28)),oP 30 (.bsl true 48 6 [(.t 29)]),oP 31 (.app (.t 26) (.t 30) 48 6),mV 5 31])))
abbrev k140s0:KT:=(.op (oP 44 (.call (fC 186) [(.t 40),(.t 43)])) (.op (oP 45 (.idxS 6 (.t 35) (.t 39))) (.op ⟨none,none,.store 6 (.t 45) (.t 44)⟩ .fin)))
abbrev k140s1:KT:=(.op (oP 43 (.load true 6 (.t 42))) k140s0)
abbrev k140s2:KT:=(.op (oP 39 (.call (fC 72) [(.t 36),(.t 38)])) k140s0)
abbrev k140s3:KT:=(.alt (.op (oP 39 (.call (fC 72) [(.t 36),(.t 38)])) k140s1) (.op (oP 43 (.load true 6 (.t 42))) k140s2))
def k140:KC:=(.seq (.ops [oP 4 (.mv (.c (.nils)))])
 (.seq (.ops [oP 6 (.bsl false 48 6 []),mV 7 1,oP 8 (.app (.t 6) (.t 7) 48 6),mV 5 8])
 (.seq (.seq (.ops [mV 9 0,oP 10 (.call (fC 72) [(.t 9),(iC 40)])])
 (.block 0 (.seq (.ops [oP 12 (.bin .eql (.t 10) (iC 0)),mV 11 12])
 (.cond (.t 11) (.seq (.ops [oP 13 (.bsl false 48 6 []),mV 4 13])
 .ret) (.seq (.ops [oP 15 (.bin .eql (.t 10) (iC 1)),mV 14 15])
 (.cond (.t 14) (.seq (.ops [mV 16 5,mV 17 0,oP 18 (.call (fC 185) [(.t 17)]),oP 19 (.bsl true 48 6 [(.t 18)]),oP 20 (.app (.t 16) (.t 19) 48 6),mV 4 20])
 .ret) (.seq (.ops [oP 22 (.bin .eql (.t 10) (iC 2)),mV 21 22])
 (.cond (.t 21) (.seq (.block 1 (.loop k140_b0))
 (.seq (.ops [mV 32 5,mV 4 32])
 .ret)) (.seq (.ops [oP 34 (.bin .eql (.t 10) (iC 3)),mV 33 34])
 (.cond (.t 33) (.seq (.tree (.op (mV 35 5) (.op (mV 36 0) (.op (mV 37 5) (.op (mV 40 0) (.op (mV 41 1) (.alt (.op (oP 38 (.len false (.t 37))) (.alt (.op (oP 39 (.call (fC 72) [(.t 36),(.t 38)])) (.op (oP 42 (.idxS 6 (.t 41) (iC 0))) k140s1)) (.op (oP 42 (.idxS 6 (.t 41) (iC 0))) k140s3))) (.op (oP 42 (.idxS 6 (.t 41) (iC 0))) (.alt (.op (oP 38 (.len false (.t 37))) k140s3) (.op (oP 43 (.load true 6 (.t 42))) (.op (oP 38 (.len false (.t 37))) k140s2)))))))))))
 (.seq (.ops [mV 46 5,mV 4 46])
 .ret)) .skip))))))))))
 (.seq (.ops [mV 47 1,mV 4 47])
 .ret))))
theorem e140:Ent 140 48 [19,30,1000000] [.t 4] k140:=ent Tryz.func140
end
section
attribute [local irreducible] ACall PCall KL
theorem p188 {l:List Int} (hl:Byt l) {σ:Heap} {b:Nat} (hS:Src σ b l) {K:PV→Heap→Prop}
  (hK:∀ (t:List (List Int)) σ',1≤t.length→t.length≤6→Mps t→Src σ' b l→Kept σ σ' b→K (.list (aggs t)) σ'):ACall Tryz.prog 188 [.ptr b 0] σ K:=by
 have hlt:=hS.lt
 refine e188 (by simp) fun _ _=>?_
 simp only [k188,argEnv,go_sem]
 try simp only [OpK_eq,HKv,go_sem]
 refine p139 hl (hS.app _) [1,2,2,3,3,3,4,4,5] (by simp) (id:=σ.length) (ver:=0) (e:=2) (by simp [ints]) (by omega) 9 rfl fun r τ h2 h4 h5 h6=>?_
 have hr:∃ n:Nat,r=n∧1≤n∧n≤5:=by
  simp only [List.mem_cons,List.not_mem_nil,or_false] at h2
  exact ⟨r.toNat,by omega,by omega,by omega⟩
 obtain ⟨n,rfl,hn1,hn5⟩:=hr
 have hk1:Kept σ τ b:=(Kept.app _ _ _).trans h5
 try simp only [OpK_eq,HKv,go_sem]
 refine p157 hl h4 n hn1 hn5 fun t ρ q1 q2 q3 q4 q5=>?_
 try simp only [OpK_eq,HKv,go_sem]
 exact Kv.Fin.now (hK t _ q1 q2 q3 q4 (hk1.trans q5))
structure LT (σ τ:Heap) (b:Nat) (l:List Int) (t:List (List Int)):Prop where
 src:Src τ b l
 kept:Kept σ τ b
 arr:τ[σ.length]? = some (.arr 1 48 6 (aggs t))
 lt:b < σ.length
theorem LT.step {σ τ τ':Heap} {b:Nat} {l:List Int} {t:List (List Int)} (h:LT σ τ b l t) (hS:Src τ' b l) (hK:Kept τ τ' b):LT σ τ' b l t :=
 have h3:=h.lt
 ⟨hS,h.kept.trans hK,(hK.2 _ (List.getElem?_eq_some_iff.1 h.arr).1 (by omega)).trans h.arr,h.lt⟩
theorem nextL {l:List Int} (hl:Byt l) {σ ρ:Heap} {b:Nat} {t:List (List Int)} (h:LT σ ρ b l t) (n:Int) {K:PV→Heap→Prop} (hK:∀ (r:Int) ρ',0≤r→(1≤n→r<n)→LT σ ρ' b l t→K (.int .i64 r) ρ'):ACall Tryz.prog 72 [.ptr b 0,.int .i64 n] ρ K :=
 p72 hl h.src n fun r ρ' h1 h2 h3 h4 _=>hK r ρ' h1 h2 (h.step h3 h4)
theorem badL {l:List Int} (hl:Byt l) {σ ρ:Heap} {b:Nat} {t:List (List Int)} (h:LT σ ρ b l t) {f:List Int} (h6:f.length=6) (hp:0≤f.getD 0 0∧f.getD 0 0≤5) {K:PV→Heap→Prop} (hK:∀ (m:List Int) ρ',m.length=6→LT σ ρ' b l t→K (.agg (ints m)) ρ'):ACall Tryz.prog 186 [.ptr b 0,.agg (ints f)] ρ K :=
 p186 hl h.src f h6 hp fun m ρ' h1 h2 h3=>hK m ρ' h1 (h.step h2 h3)
theorem p140 {l:List Int} (hl:Byt l) {σ:Heap} {b:Nat} (hS:Src σ b l) (t:List (List Int)) (h1:1≤t.length) (h6:t.length≤6) (ht:Mps t) {K:PV→Heap→Prop}
  (hK:∀ (t':List (List Int)) σ',t'.length≤7→Mp6 t'→Src σ' b l→Kept σ σ' b→K (.list (aggs t')) σ'):ACall Tryz.prog 140 [.ptr b 0,.list (aggs t)] σ K:=by
 have hlt:=hS.lt
 have ht6:∀ r∈t,r.length=6:=fun r hr=>(ht r hr).1
 have hgb:∀ (s:Heap) (a:AObj),(s ++ [a])[s.length]? = some a:=fun s a=>by simp
 have hsb:∀ (s:Heap) (a b:AObj),(s ++ [a]).set s.length b=s ++ [b]:=fun s a b=>by simp [List.set_append_right]
 refine e140 (by simp) fun _ _=>?_
 simp only [k140,argEnv,go_sem]
 try simp only [OpK_eq,HKv,hgb,hsb,go_sem]
 refine ⟨by rw [okL_aggs]; exact ht6,by omega,?_⟩
 refine p72 hl (hS.app _) _ fun r τ h2 h3 h4 h5 h7=>?_
 have h3:=h3 (by omega)
 have ho:τ[σ.length]? = some (.arr 1 48 6 (aggs t)):=by
  rw [h5.2 _ (by simp) (by omega)]; simp
 have hk1:Kept σ τ b:=(Kept.app _ _ _).trans h5
 have hol:=(List.getElem?_eq_some_iff.1 ho).1
 clear h5 h7
 try simp only [OpK_eq,HKv,go_sem]
 refine ⟨fun _=>?_,fun _=>⟨fun _=>?_,fun _=>⟨fun _=>?_,fun _=>⟨fun _=>?_,fun _=>?_⟩⟩⟩⟩
 ·have hid:(τ ++ [AObj.arr 0 48 6 []])[τ.length]? = some (.arr 0 48 6 (aggs [])):=by simp [aggs]
  exact Kv.Fin.giveAt hid (.inl (Imm.refa (solo_get hid))) (hK [] _ (by simp) (fun r hr=>by cases hr) ((h4.app _).set2 (by omega) _) ((hk1.trans (Kept.app _ _ _)).set2 (by omega) _))
 ·refine p185 hl h4 fun m ρ q1 q2 q3=>?_
  have ho2:ρ[σ.length]? = some (.arr 1 48 6 (aggs t)):=(q3.2 _ hol (by omega)).trans ho
  have hol2:=(List.getElem?_eq_some_iff.1 ho2).1
  have hok:=ok6 q1
  try simp only [OpK_eq,HKv,ho2,hok,take_aggs,aggs_length,go_sem]
  refine ⟨⟨by omega,by omega⟩,?_⟩
  have hid:(ρ.set σ.length (.arr 2 48 6 (aggs (t ++ [m]))))[σ.length]? = some (.arr 2 48 6 (aggs (t ++ [m]))):=List.getElem?_set_self hol2
  have hl7:t.length+1=(t ++ [m]).length:=by simp
  rw [hl7]
  exact Kv.Fin.giveAt hid (.inl (Imm.refa (solo_get hid))) (hK (t ++ [m]) _ (by simp; omega) (fun r hr=>by
   rcases List.mem_append.1 hr with hr | hr
   ·exact ht6 r hr
   ·simp only [List.mem_singleton] at hr; rw [hr]; exact q1) ((q2.set2 (by omega) _).set2 (by omega) _) (((hk1.trans q3).set2 (by omega) _).set2 (by omega) _))
 ·refine KL_ind k140_b0.eq_1 (fun y:List (List Int) × Nat × Heap=>[(1,.list (aggs t)),(5,.ref σ.length y.2.1 0 y.1.length)]) (fun y=>y.2.2) (fun y=>y.1.length≤7∧Mp6 y.1∧y.2.2[σ.length]? = some (.arr y.2.1 48 6 (aggs y.1))∧Src y.2.2 b l∧Kept σ y.2.2 b) (fun y=>7 - y.1.length) [1,5] (t,1,τ) (by simp [keep]) rfl ⟨by show t.length≤7; omega,ht6,ho,h4,hk1⟩ fun ⟨t2,ver,ρ⟩ ⟨s1,s2,s3,s4,s5⟩ ih=>?_
  simp only at s1 s2 s3 s4 s5
  have h0:t[0]? = some (t.getD 0 []):=by
   rw [List.getD_eq_getElem?_getD,List.getElem?_eq_getElem (by omega)]; rfl
  have h06:(t.getD 0 []).length=6:=ht6 _ (List.mem_of_getElem? h0)
  have hok:=ok6 h06
  have hol3:=(List.getElem?_eq_some_iff.1 s3).1
  try simp only [OpK_eq,HKv,s3,hok,take_aggs,aggs_length,h06,go_sem]
  refine ⟨fun g1=>?_,fun g1=>?_⟩
  ·refine ⟨by omega,fun _=>⟨⟨by omega,by omega⟩,ih (t2 ++ [t.getD 0 []],ver+1,_) ⟨by show (t2 ++ [t.getD 0 []]).length≤7; simp; omega,fun r hr=>?_,List.getElem?_set_self hol3,s4.set2 (by omega) _,s5.set2 (Nat.le_refl _) _⟩ (by show 7 - (t2 ++ [t.getD 0 []]).length<7 - t2.length; simp; omega) _ _ (by simp [keep]) rfl⟩⟩
   rcases List.mem_append.1 hr with hr | hr
   ·exact s2 r hr
   ·simp only [List.mem_singleton] at hr; rw [hr]; exact h06
  ·exact Kv.Fin.giveAt s3 (.inl (Imm.refa (solo_get s3))) (hK t2 _ s1 s2 (s4.set2 (by omega) _) (s5.set2 (by omega) _))
 ·have hL:LT σ τ b l t:=⟨h4,hk1,ho,hlt⟩
  have hc:∀ ρ,LT σ ρ b l t→ρ[σ.length]? = some (.arr 1 48 6 (aggs t)):=fun ρ h=>h.arr
  have h0:t[0]? = some (t.getD 0 []):=by
   rw [List.getD_eq_getElem?_getD,List.getElem?_eq_getElem (by omega)]; rfl
  have h06:=ht _ (List.mem_of_getElem? h0)
  have h066:=h06.1
  have hil0:(ints (t.getD 0 [])).length=6:=by rw [ints_length,h066]
  have hs6:subC (ints (t.getD 0 [])) 0 6=ints (t.getD 0 []):=sub6 hil0
  have ht66:List.take 6 (t.getD 0 [])=t.getD 0 []:=take6 h066
  have hg6:∀ i:Nat,i<t.length→(t.getD i []).length=6:=fun i hi=>by
   rw [List.getD_eq_getElem?_getD,List.getElem?_eq_getElem hi]
   exact ht6 _ (List.getElem_mem hi)
  have hlen:∀ i:Nat,i<t.length→6≤(t.getD i []).length:=fun i hi=>by rw [hg6 i hi]; exact Nat.le_refl _
  have hfin:∀ (i:Nat) (m:List Int) ρ,i<t.length→m.length=6→LT σ ρ b l t→Kv.Fin σ.length K (.ref σ.length 1 0 t.length) (ρ.set σ.length (.arr 1 48 6 ((aggs t).set i (.agg (putC (ints (t.getD i [])) 0 (ints m)))))):=fun i m ρ hi hm hLT=>by
   have e1:putC (ints (t.getD i [])) 0 (ints m)=ints m:=put6 (by rw [ints_length,hm]) (by rw [ints_length,hg6 i hi])
   have e2:(aggs t).set i (.agg (ints m))=aggs (t.set i m):=by simp [aggs,List.map_set]
   have e3:t.length=(t.set i m).length:=by simp
   rw [e1,e2,e3]
   have hid:(ρ.set σ.length (AObj.arr 1 48 6 (aggs (t.set i m))))[σ.length]? = some (.arr 1 48 6 (aggs (t.set i m))):=List.getElem?_set_self (List.getElem?_eq_some_iff.1 hLT.arr).1
   exact Kv.Fin.giveAt hid (.inl (Imm.refa (solo_get hid))) (hK (t.set i m) _ (by simp; omega) (fun r hr=>by
    rcases List.mem_or_eq_of_mem_set hr with hr | rfl
    ·exact ht6 r hr
    ·exact hm) ((hLT.src.set2 (by omega) _).set2 (by omega) _) ((hLT.kept.set2 (Nat.le_refl _) _).set2 (Nat.le_refl _) _))
  clear ho hol
  repeat' (first
   | omega
   | (rw [vT_alt]; refine ⟨?_,?_⟩)
   | (refine nextL hl (σ:=σ) (t:=t) (by assumption) _ fun r2 ρ h4 h5 hB2=>?_)
   | (refine badL hl (σ:=σ) (t:=t) (by assumption) h066 h06.2 fun m ρ h7 hB3=>?_)
   | (with_reducible refine And.intro ?_ ?_)
   | (with_reducible intro _)
   | (simp (disch:=assumption) only [hc,OpK_eq,HKv,hil0,hs6,ht66,h066,aggs_length,go_sem]))
  all_goals (first | exact hlen _ (by omega) | exact hfin _ _ _ (by omega) (by assumption) (by assumption))
 ·exact Kv.Fin.now (hK t _ (by omega) ht6 h4 hk1)
end
end
section
section
set_option maxRecDepth 100000
def k67:KC:=(.seq (.ops [oP 4 (.mv (iC 0))])
 (.seq (.seq (.ops [mV 5 0,oP 6 (.call (fC 72) [(.t 5),(iC 14)]),oP 7 (.bin .eql (.t 6) (iC 0))])
 (.cond (.t 7) (.seq (.ops [mV 8 0,mV 9 1,oP 10 (.bin .add (.t 9) (iC 1)),oP 11 (.bsl false 2 1 [(iC (-1)),(.t 10),(iC 1099511627776),(iC (-4611686018427387904))]),oP 12 (.call (fC 139) [(.t 8),(.t 11)]),mV 4 12])
 .ret) .skip))
 (.seq (.ops [mV 13 0,mV 14 1,oP 15 (.bin .add (.t 14) (iC 1)),oP 16 (.call (fC 72) [(.t 13),(.t 15)]),mV 4 16])
 .ret)))
theorem e67:Ent 67 17 [] [.t 4] k67:=ent Tryz.func67
end
section
attribute [local irreducible] ACall PCall KL
theorem p67 {l:List Int} (hl:Byt l) {σ:Heap} {b:Nat} (hS:Src σ b l) (most:Int) (hm:0≤most∧most≤1000) {K:PV→Heap→Prop}
  (hK:∀ (r:Int) σ',-4611686018427387904≤r→r≤1099511627776→Src σ' b l→Kept σ σ' b→K (.int .i64 r) σ'):ACall Tryz.prog 67 [.ptr b 0,.int .i64 most] σ K:=by
 refine e67 (by simp) fun _ _=>?_
 simp only [k67,argEnv,go_sem]
 refine p72 hl hS _ fun r1 τ n1 n2 n3 n4 n5=>?_
 have hlt:=n3.lt
 try simp only [OpK_eq,HKv,go_sem]
 refine ⟨fun _=>⟨by omega,?_⟩,fun _=>⟨by omega,?_⟩⟩
 ·refine p139 hl (n3.app _) [-1,most+1,1099511627776,-4611686018427387904] (by simp) (id:=τ.length) (ver:=0) (e:=2) (by simp [ints]) (by omega) 4 rfl fun r2 ρ w1 w2 w3 w4=>?_
  try simp only [OpK_eq,HKv,go_sem]
  have hr:-4611686018427387904≤r2∧r2≤1099511627776:=by
   simp only [List.mem_cons,List.not_mem_nil,or_false] at w1
   omega
  exact Kv.Fin.now (hK r2 ρ hr.1 hr.2 w2 (n4.trans ((Kept.app _ _ _).trans w3)))
 ·refine p72 hl n3 _ fun r2 ρ w1 w2 w3 w4 w5=>?_
  have:=w2 (by omega)
  try simp only [OpK_eq,HKv,go_sem]
  exact Kv.Fin.now (hK r2 ρ (by omega) (by omega) w3 (n4.trans w4))
theorem p53G {l:List Int} (hl:Byt l) {σ:Heap} {K:PV→Heap→Prop} (hK:∀ h,K (.ptr σ.length 0) (σ ++ [srcO l 0 h])):ACall Tryz.prog 53 [.list (u8s l)] σ K:=by
 refine ACall.go (p53 hl (K:=fun v s=>∃ h,v = .ptr 0 0∧s = [srcO l 0 h]) fun h=>⟨h,rfl,rfl⟩) fun v s ⟨h,hv,hs⟩=>?_
 subst hv; subst hs
 have:=hK h
 have e:(u8s l).map (PV.ren (Kv.sh σ.length))=u8s l:=by simp [u8s,PV.ren,Function.comp_def]
 simpa [srcO,Kv.sh,AObj.ren,PV.ren,e] using this
end
end
end Go.Proofs.YtcfmmmloeaggmaaGreat
section

end
section

end
section

end
namespace Go.Proofs.YtcfmmmloeaggmaaGreat
open Go.Kv
set_option linter.unusedVariables false
set_option linter.unusedSimpArgs false
section
section
attribute [local irreducible] ACall PCall KL
theorem pof_ext {s n:Nat} (h:s<2 ^ n):∀ k,pof s (n+k)=pof s n
 | 0=>rfl
 | k+1=>by
  have hb:s.testBit (n+k)=false:=Nat.testBit_lt_two_pow (Nat.lt_of_lt_of_le h (Nat.pow_le_pow_right (by omega) (by omega)))
  rw [show n+(k+1)=n+k+1 by omega,pof_succ,hb,pof_ext h k]; simp
theorem pof_asc (s n:Nat):(pof s n).Pairwise (· < ·):=List.Pairwise.filter _ List.pairwise_lt_range
end
end
section
section
set_option maxRecDepth 100000
def k66:KC:=(.seq (.ops [oP 2 (.alloc [.nils,.int .i64 0,.nils])])
 (.seq (.ops [mV 5 0,oP 6 (.call (fC 138) [(.t 5)]),mV 3 6])
 (.seq (.ops [mV 7 3,oP 8 (.idxS 6 (.t 7) (iC 0)),oP 9 (.fieldA 0 (.t 8)),oP 10 (.load false 1 (.t 9)),mV 4 10])
 (.seq (.ops [mV 11 3,mV 12 0,mV 13 4,oP 14 (.call (fC 72) [(.t 12),(.t 13)]),mV 15 0,mV 16 4,oP 17 (.conv .u64 (.t 16)),oP 18 (.bin .shl (iC 1) (.t 17)),oP 19 (.call (fC 72) [(.t 15),(.t 18)]),oP 20 (.call (fC 73) [(.t 19)]),oP 21 (.build [.nils,.int .i64 0,.nils] [(0,1,(.t 11)),(1,1,(.t 14)),(2,1,(.t 20))]),⟨none,none,.store 3 (.t 2) (.t 21)⟩])
 .ret))))
theorem e66:Ent 66 22 [] [.cell 2 true 3] k66:=ent Tryz.func66
def k68:KC:=(.seq (.ops [oP 3 (.box false (.t 1)),oP 4 (.alloc [.nils,.int .i64 0,.nils])])
 (.seq (.seq (.ops [mV 5 0,oP 6 (.call (fC 72) [(.t 5),(iC 40)])])
 (.block 0 (.seq (.ops [oP 8 (.bin .eql (.t 6) (iC 0)),mV 7 8])
 (.cond (.t 7) (.ops [mV 9 0,oP 10 (.fieldA 0 (.t 3)),oP 11 (.load false 1 (.t 10)),oP 12 (.call (fC 140) [(.t 9),(.t 11)]),oP 13 (.fieldA 0 (.t 3)),⟨none,none,.store 1 (.t 13) (.t 12)⟩]) (.seq (.ops [oP 15 (.bin .eql (.t 6) (iC 1)),mV 14 15])
 (.cond (.t 14) (.ops [mV 16 0,oP 17 (.bsl false 2 1 [(iC (-1)),(iC 5)]),oP 18 (.call (fC 139) [(.t 16),(.t 17)]),oP 19 (.fieldA 1 (.t 3)),⟨none,none,.store 1 (.t 19) (.t 18)⟩]) (.seq (.ops [oP 21 (.bin .eql (.t 6) (iC 2)),mV 20 21])
 (.cond (.t 20) (.ops [oP 22 (.fieldA 2 (.t 3)),oP 23 (.load false 1 (.t 22)),oP 24 (.call (fC 117) [(.t 23)]),mV 25 0,oP 26 (.bsl false 2 1 [(iC 0),(iC (-1)),(iC 5)]),oP 27 (.call (fC 139) [(.t 25),(.t 26)]),oP 28 (.bsl true 2 1 [(.t 27)]),oP 29 (.app (.t 24) (.t 28) 2 1),oP 30 (.fieldA 2 (.t 3)),⟨none,none,.store 1 (.t 30) (.t 29)⟩]) (.seq (.ops [oP 32 (.bin .eql (.t 6) (iC 3)),mV 31 32])
 (.cond (.t 31) (.ops [oP 33 (.bsl false 48 6 []),oP 34 (.fieldA 0 (.t 3)),⟨none,none,.store 1 (.t 34) (.t 33)⟩]) .skip))))))))))
 (.seq (.ops [oP 35 (.load true 3 (.t 3)),⟨none,none,.store 3 (.t 4) (.t 35)⟩])
 .ret)))
theorem e68:Ent 68 36 [28] [.cell 4 true 3] k68:=ent Tryz.func68
def k52:KC:=(.seq (.ops [oP 2 (.alloc [.nils,.int .i64 0,.nils])])
 (.seq (.ops [mV 3 0,mV 4 0,oP 5 (.call (fC 66) [(.t 4)]),oP 6 (.call (fC 68) [(.t 3),(.t 5)]),⟨none,none,.store 3 (.t 2) (.t 6)⟩])
 .ret))
theorem e52:Ent 52 7 [] [.cell 2 true 3] k52:=ent Tryz.func52
def k15:KC:=(.seq (.ops [oP 2 (.alloc [.nils,.int .i64 0,.nils])])
 (.seq (.ops [mV 3 0,oP 4 (.call (fC 53) [(.t 3)]),oP 5 (.call (fC 52) [(.t 4)]),⟨none,none,.store 3 (.t 2) (.t 5)⟩])
 .ret))
theorem e15:Ent 15 6 [] [.cell 2 true 3] k15:=ent Tryz.func15
def k18:KC:=(.seq (.ops [oP 2 (.alloc [.nils,.int .i64 0,.nils])])
 (.seq (.ops [mV 3 0,oP 4 (.call (fC 53) [(.t 3)]),oP 5 (.call (fC 52) [(.t 4)]),⟨none,none,.store 3 (.t 2) (.t 5)⟩])
 .ret))
theorem e18:Ent 18 6 [] [.cell 2 true 3] k18:=ent Tryz.func18
def k23:KC:=(.seq (.ops [oP 2 (.alloc [.nils,.int .i64 0,.nils]),oP 3 (.mv (iC 0)),oP 4 (.mv (iC 0))])
 (.seq (.ops [mV 9 0,oP 10 (.call (fC 53) [(.t 9)]),mV 5 10])
 (.seq (.ops [mV 11 5,oP 12 (.call (fC 66) [(.t 11)]),oP 6 (.alloc [.nils,.int .i64 0,.nils]),⟨none,none,.store 3 (.t 6) (.t 12)⟩])
 (.seq (.ops [mV 13 5,oP 14 (.fieldA 0 (.t 6)),oP 15 (.load false 1 (.t 14)),oP 16 (.idxS 6 (.t 15) (iC 0)),oP 17 (.fieldA 0 (.t 16)),oP 18 (.load false 1 (.t 17)),oP 19 (.bin .sub (.t 18) (iC 1)),oP 20 (.call (fC 67) [(.t 13),(.t 19)]),mV 7 20])
 (.seq (.ops [mV 21 5,oP 22 (.fieldA 0 (.t 6)),oP 23 (.load false 1 (.t 22)),oP 24 (.idxS 6 (.t 23) (iC 0)),oP 25 (.fieldA 0 (.t 24)),oP 26 (.load false 1 (.t 25)),oP 27 (.bin .sub (.t 26) (iC 1)),oP 28 (.call (fC 67) [(.t 21),(.t 27)]),mV 8 28])
 (.seq (.ops [mV 29 5,oP 30 (.load true 3 (.t 6)),oP 31 (.call (fC 68) [(.t 29),(.t 30)]),mV 32 7,mV 33 8,⟨none,none,.store 3 (.t 2) (.t 31)⟩,mV 3 32,mV 4 33])
 .ret))))))
theorem e23:Ent 23 34 [] [.cell 2 true 3,.t 3,.t 4] k23:=ent Tryz.func23
end
section
attribute [local irreducible] ACall PCall KL
theorem stB_asc' {la:List Nat} {n:Nat} (h:la.Pairwise (· < ·)) (hlt:∀ x∈la,x<n):stB (nz la) n=true:=by
 unfold stB
 rw [List.all_eq_true]
 intro i hi
 rw [List.mem_range,nz_len] at hi
 have e:∀ j (hj:j<la.length),(nz la).getD j 0=(la[j]:Int):=fun j hj=>by
  simp [nz,List.getD_eq_getElem?_getD,hj]
 unfold stp
 rw [e i hi,Bool.and_eq_true,Bool.or_eq_true,decide_eq_true_iff,decide_eq_true_iff,decide_eq_true_iff]
 have:=hlt _ (List.getElem_mem hi)
 refine ⟨⟨by omega,by omega⟩,?_⟩
 by_cases h0:i=0
 ·exact .inl h0
 ·refine .inr ?_
  rw [e (i - 1) (by omega)]
  have:=List.pairwise_iff_getElem.1 h (i - 1) i (by omega) hi (by omega)
  omega
theorem pof_mem {s n x:Nat} (h:x∈pof s n):x<n:=List.mem_range.1 (List.mem_filter.1 h).1
theorem good_of {fs:List (List Nat)} {n q s:Nat} (hf:∀ f∈fs,Ok f n) (h1:1≤fs.length) (h6:fs.length≤6) (hn5:n≤5) (hq:q<n) (hs:s<2 ^ n):GoodA fs n q (pof s 62):=by
 have e:pof s 62=pof s n:=by
  have:=pof_ext hs (62 - n)
  rwa [show n+(62 - n)=62 by omega] at this
 rw [e]
 have hl:=pof_le s n
 exact ⟨hf,h1,h6,hn5,hq,stB_asc' (pof_asc s n) (fun x hx=>pof_mem hx),fun x hx=>pof_mem hx,by omega⟩
theorem p66 {l:List Int} (hl:Byt l) {σ:Heap} {b:Nat} (hS:Src σ b l) {K:PV→Heap→Prop}
  (hK:∀ (fs:List (List Nat)) n q la σ',GoodA fs n q la→Src σ' b l→Kept σ σ' b→K (gav fs q la) σ'):ACall Tryz.prog 66 [.ptr b 0] σ K:=by
 have hlt:=hS.lt
 refine e66 (by simp) fun _ _=>?_
 simp only [k66,argEnv,go_sem]
 try simp only [OpK_eq,HKv,go_sem]
 generalize hz:AObj.box [PV.nils,PV.int .i64 0,PV.nils]=z
 refine p138 hl (hS.app _) fun fs n τ n1 n5 f1 f6 hf q1 q2=>?_
 have hz1:τ[σ.length]? = some z:=by rw [q2.2 _ (by simp) (by omega)]; simp
 have hk1:Kept σ τ b:=(Kept.app _ _ _).trans q2
 have h0:0<fs.length:=by omega
 obtain ⟨e1,e2,e3⟩:=mpD0 hf h0
 try simp only [OpK_eq,HKv,e1,e2,e3,List.length_map,go_sem]
 refine ⟨by omega,fun _=>?_⟩
 refine p72 hl q1 _ fun r1 τ1 a1 a2 a3 a4 a5=>?_
 have a2:=a2 (by omega)
 have hz2:=(a4.2 _ (List.getElem?_eq_some_iff.1 hz1).1 (by omega)).trans hz1
 have hk2:=hk1.trans a4
 have hsh:∀ {K:PV→Prop},aBin .shl (.int .i64 1) (.int .u64 (n:Int)) K=K (.int .i64 ((2 ^ n:Nat):Int)):=fun {K}=>aBin_shl1 (by omega)
 have hwr:IntKind.u64.wrap (n:Int)=n:=wrapU64 (by omega)
 try simp only [OpK_eq,HKv,aWrapU,hwr,hsh,go_sem]
 have hp32:2 ^ n≤32:=by
  have:2 ^ n≤2 ^ 5:=Nat.pow_le_pow_right (by omega) n5
  simpa using this
 have hp1:1≤2 ^ n:=Nat.one_le_two_pow
 refine p72 hl a3 _ fun r2 τ2 b1 b2 b3 b4 b5=>?_
 have b2:=b2 (by omega)
 have hz3:=(b4.2 _ (List.getElem?_eq_some_iff.1 hz2).1 (by omega)).trans hz2
 have hk3:=hk2.trans b4
 obtain ⟨q,rfl⟩:∃ q:Nat,r1=q:=⟨r1.toNat,by omega⟩
 obtain ⟨s,rfl⟩:∃ s:Nat,r2=s:=⟨r2.toNat,by omega⟩
 try simp only [OpK_eq,HKv,go_sem]
 refine (p73 s (Nat.lt_of_lt_of_le (by omega:s<32) (by decide))).go ?_
 have hs1:∀ o,(τ2.set σ.length o)[σ.length]? = some o:=fun o=>List.getElem?_set_self (List.getElem?_eq_some_iff.1 hz3).1
 subst hz
 try simp only [OpK_eq,HKv,hz3,hs1,putC3,subC3,go_sem]
 exact Kv.Fin.now (hK fs n q (pof s 62) _ (good_of hf f1 f6 n5 (by omega) (by omega)) (b3.set2 (by omega) _) (hk3.set2 (Nat.le_refl _) _))
structure AnyA (M:List (List Int)) (L:List Int):Prop where
 m:M.length≤1048576
 r:∀ x∈M,x.length=6
 l:L.length≤1048576
theorem GoodA.any {fs:List (List Nat)} {n q:Nat} {la:List Nat} (h:GoodA fs n q la):AnyA (fs.map mp) (nz la):=⟨by have:=h.fl; simp; omega,fun x hx=>by
 obtain ⟨f,hf,rfl⟩:=List.mem_map.1 hx
 exact (h.ok f hf).mp_len,by rw [nz_len]; exact h.ll⟩
theorem GoodA.la5 {fs:List (List Nat)} {n q:Nat} {la:List Nat} (h:GoodA fs n q la):la.length≤5:=by
 by_cases h0:la = []
 ·subst h0; simp
 ·have ha:=stB_asc h.st (fun e=>h0 (by simpa [nz] using e))
  have:=(asc_len ha).2
  rw [nz_len] at this
  have:=h.n5
  omega
theorem put3a (a b c x:PV):putC [a,b,c] 0 [x] = [x,b,c]:=by unfold putC; first | rfl | (split <;> rfl) | simp
theorem put3b (a b c x:PV):putC [a,b,c] 1 [x] = [a,x,c]:=by unfold putC; first | rfl | (split <;> rfl) | simp
theorem put3c (a b c x:PV):putC [a,b,c] 2 [x] = [a,b,x]:=by unfold putC; first | rfl | (split <;> rfl) | simp
structure BX (σ τ:Heap) (b:Nat) (l:List Int) (A B C:PV):Prop where
 src:Src τ b l
 kept:Kept σ τ b
 x:τ[σ.length]? = some (.box [A,B,C])
 z:τ[σ.length+1]? = some (.box [.nils,.int .i64 0,.nils])
 lt:b < σ.length
theorem BX.step {σ τ τ':Heap} {b:Nat} {l:List Int} {A B C:PV} (h:BX σ τ b l A B C) (hS:Src τ' b l) (hK:Kept τ τ' b):BX σ τ' b l A B C:=by
 have h0:=h.lt
 exact ⟨hS,h.kept.trans hK,(hK.2 _ (List.getElem?_eq_some_iff.1 h.x).1 (by omega)).trans h.x,(hK.2 _ (List.getElem?_eq_some_iff.1 h.z).1 (by omega)).trans h.z,h0⟩
theorem BX.set {σ τ:Heap} {b:Nat} {l:List Int} {A B C:PV} (h:BX σ τ b l A B C) (A' B' C':PV):BX σ (τ.set σ.length (.box [A',B',C'])) b l A' B' C':=by
 have h0:=h.lt
 exact ⟨h.src.set2 (by omega) _,h.kept.set2 (Nat.le_refl _) _,List.getElem?_set_self (List.getElem?_eq_some_iff.1 h.x).1,(List.getElem?_set_ne (by omega)).trans h.z,h0⟩
theorem BX.app {σ τ:Heap} {b:Nat} {l:List Int} {A B C:PV} (h:BX σ τ b l A B C) (X:Heap):BX σ (τ ++ X) b l A B C:=h.step (h.src.app X) (Kept.app _ _ _)
theorem BX.fin {σ τ:Heap} {b:Nat} {l:List Int} {A B C:PV} (h:BX σ τ b l A B C) (o:AObj):Src (τ.set (σ.length+1) o) b l∧Kept σ (τ.set (σ.length+1) o) b:=by
 have h0:=h.lt
 exact ⟨h.src.set2 (by omega) _,h.kept.set2 (by omega) _⟩
theorem BX.zs {σ τ:Heap} {b:Nat} {l:List Int} {A B C:PV} (h:BX σ τ b l A B C) (o:AObj):(τ.set (σ.length+1) o)[σ.length+1]? = some o:=List.getElem?_set_self (List.getElem?_eq_some_iff.1 h.z).1
theorem Imm.acc {σ:Heap} {A C A' C':PV} {q:Int} (h1:Imm σ A A') (h2:Imm σ C C') (hA:A'.ok=true) (hC:C'.ok=true):Imm σ (.agg [A,.int .i64 q,C]) (.agg [A',.int .i64 q,C']):=by
 have hi:PV.ok (.int .i64 q)=true:=rfl
 refine .agg _ _ rfl (by simp only [List.all_cons,List.all_nil,hA,hC,hi,Bool.and_true]) fun i c d hc hd=>?_
 rcases i with _ | _ | _ | i
 ·simp at hc hd; subst hc; subst hd; exact h1
 ·simp at hc hd; subst hc; subst hd; exact .int _ _ _
 ·simp at hc hd; subst hc; subst hd; exact h2
 ·simp at hc
theorem p68 {l:List Int} (hl:Byt l) {σ:Heap} {b:Nat} (hS:Src σ b l) {M:List (List Int)} {q:Int} {L:List Int} (hM:Mps M) (h1:1≤M.length) (h6:M.length≤6) (hL:L.length≤5) {K:PV→Heap→Prop}
  (hK:∀ (M:List (List Int)) (q:Int) (L:List Int) σ',AnyA M L→Src σ' b l→Kept σ σ' b→K (acv M q L) σ'):ACall Tryz.prog 68 [.ptr b 0,acv M q L] σ K:=by
 have hlt:=hS.lt
 have hany:AnyA M L:=⟨by omega,fun r hr=>(hM r hr).1,by omega⟩
 refine e68 (by simp) fun _ _=>?_
 simp only [k68,argEnv,go_sem]
 try simp only [OpK_eq,HKv,subC3,go_sem]
 have hX:BX σ (σ ++ [AObj.box [PV.list (aggs M),PV.int .i64 q,PV.list (ints L)]] ++ [AObj.box [PV.nils,PV.int .i64 0,PV.nils]]) b l (.list (aggs M)) (.int .i64 q) (.list (ints L)) :=
  ⟨(hS.app _).app _,(Kept.app _ _ _).trans (Kept.app _ _ _),by rw [List.getElem?_append_left (by simp)]; simp,by rw [List.getElem?_append_right (by simp)]; simp,hlt⟩
 generalize σ ++ [AObj.box [PV.list (aggs M),PV.int .i64 q,PV.list (ints L)]] ++ [AObj.box [PV.nils,PV.int .i64 0,PV.nils]] = τ at *
 refine p72 hl hX.src _ fun r ρ a1 a2 a3 a4 a5=>?_
 have hX:=hX.step a3 a4
 have hx:=hX.x
 have hz:=hX.z
 have hzs:=fun {A B C:PV} {τ:Heap} (h:BX σ τ b l A B C) o=>h.zs o
 try simp only [OpK_eq,HKv,subC3,putC3,go_sem]
 refine ⟨fun _=>?_,fun _=>⟨fun _=>?_,fun _=>⟨fun _=>?_,fun _=>⟨fun _=>?_,fun _=>?_⟩⟩⟩⟩
 ·try simp only [OpK_eq,HKv,hx,subC3,go_sem]
  refine p140 hl hX.src M h1 h6 hM fun M' ρ' b1 b2 b3 b4=>?_
  have hX:=hX.step b3 b4
  have hx:=hX.x
  have hX2:=hX.set (.list (aggs M')) (.int .i64 q) (.list (ints L))
  have hx2:=hX2.x
  have hz2:=hX2.z
  have hzs:=hX2.zs
  try simp only [OpK_eq,HKv,hx,put3a,hx2,subC3,hz2,putC3,hzs,go_sem]
  exact Kv.Fin.now (hK M' q L _ ⟨by omega,b2,hany.l⟩ (hX2.fin _).1 (hX2.fin _).2)
 ·try simp only [OpK_eq,HKv,go_sem]
  have hXa:=hX.app [AObj.arr 0 2 1 [.int .i64 (-1),.int .i64 5]]
  refine p139 hl hXa.src [-1,5] (by simp) (id:=ρ.length) (ver:=0) (e:=2) (by simp [ints]) (by have:=a3.lt; omega) 2 rfl fun r' ρ' b1 b2 b3 b4=>?_
  have hX:=hXa.step b2 b3
  have hx:=hX.x
  have hX2:=hX.set (.list (aggs M)) (.int .i64 r') (.list (ints L))
  have hx2:=hX2.x
  have hz2:=hX2.z
  have hzs:=hX2.zs
  try simp only [OpK_eq,HKv,hx,put3b,hx2,subC3,hz2,putC3,hzs,go_sem]
  exact Kv.Fin.now (hK M r' L _ hany (hX2.fin _).1 (hX2.fin _).2)
 ·try simp only [OpK_eq,HKv,hx,subC3,go_sem]
  have hρσ:σ.length+2≤ρ.length:=by have:=(List.getElem?_eq_some_iff.1 hz).1; omega
  refine (p117 L (by omega)).go fun v s ⟨hv,hs⟩=>?_
  subst hv; subst hs
  try simp only [OpK_eq,HKv,ren_ref,go_sem]
  have hXa:=(hX.app [AObj.arr 1 2 1 (ints L)]).app [AObj.arr 0 2 1 [.int .i64 0,.int .i64 (-1),.int .i64 5]]
  have hbl:=a3.lt
  have hal:(ρ ++ [AObj.arr 1 2 1 (ints L)] ++ [AObj.arr 0 2 1 [.int .i64 0,.int .i64 (-1),.int .i64 5]])[ρ.length]? = some (AObj.arr 1 2 1 (ints L)):=by
   rw [List.getElem?_append_left (by simp)]; simp
  refine p139 hl hXa.src [0,-1,5] (by simp) (id:=ρ.length+1) (ver:=0) (e:=2) (by rw [List.getElem?_append_right (by simp)]; simp [ints]) (by omega) 3 rfl fun r' ρ' b1 b2 b3 b4=>?_
  have hX:=hXa.step b2 b3
  have hal2:=(b3.2 ρ.length (by simp) (by omega)).trans hal
  have hall:=(List.getElem?_eq_some_iff.1 hal2).1
  have hok:okL 1 [PV.int .i64 r']=True:=by simp [okL,PV.cs,PV.ok]
  have hap:(ints L).take L.length ++ [.int .i64 r']=ints (L ++ [r']):=by
   rw [List.take_of_length_le (by rw [ints_length]; exact Nat.le_refl _)]; simp [ints]
  have hX1:BX σ (ρ'.set ρ.length (.arr 2 2 1 (ints (L ++ [r'])))) b l (.list (aggs M)) (.int .i64 q) (.list (ints L)) :=
   ⟨hX.src.set2 (by omega) _,hX.kept.set2 (by omega) _,(List.getElem?_set_ne (by omega)).trans hX.x,(List.getElem?_set_ne (by omega)).trans hX.z,hlt⟩
  have hx:=hX1.x
  have hX2:=hX1.set (.list (aggs M)) (.int .i64 q) (.ref ρ.length 2 0 (L.length+1))
  have hx2:=hX2.x
  have hz2:=hX2.z
  have hzs:=hX2.zs
  have hρ':(ρ'.set ρ.length (.arr 2 2 1 (ints (L ++ [r']))))[ρ.length]? = some (.arr 2 2 1 (ints (L ++ [r']))):=List.getElem?_set_self hall
  try simp only [OpK_eq,HKv,hal2,hap,go_sem]
  refine ⟨⟨Nat.le_refl _,by omega⟩,?_⟩
  try simp only [OpK_eq,HKv,hx,put3c,hx2,subC3,hz2,putC3,hzs,go_sem]
  have hid:(((ρ'.set ρ.length (.arr 2 2 1 (ints (L ++ [r'])))).set σ.length (AObj.box [PV.list (aggs M),PV.int .i64 q,.ref ρ.length 2 0 (L.length+1)])).set (σ.length+1) (AObj.box [PV.list (aggs M),PV.int .i64 q,.ref ρ.length 2 0 (L.length+1)]))[ρ.length]? = some (.arr 2 2 1 (ints (L ++ [r']))):=by
   rw [List.getElem?_set_ne (by omega),List.getElem?_set_ne (by omega)]; exact hρ'
  have hF:=hX2.fin (AObj.box [PV.list (aggs M),PV.int .i64 q,.ref ρ.length 2 0 (L.length+1)])
  exact Kv.Fin.giveAt hid (.inl (Imm.acc Imm.still (Imm.refn (solo_get hid) (by simp)) rfl rfl)) (hK M q (L ++ [r']) _ ⟨hany.m,hany.r,by simp; omega⟩ (hF.1.set2 (by omega) _) (hF.2.set2 (by omega) _))
 ·try simp only [OpK_eq,HKv,go_sem]
  have hXa:=hX.app [AObj.arr 0 48 6 []]
  have hx:=hXa.x
  have hX2:=hXa.set (.ref ρ.length 0 0 0) (.int .i64 q) (.list (ints L))
  have hx2:=hX2.x
  have hz2:=hX2.z
  have hzs:=hX2.zs
  have hρσ:σ.length+2≤ρ.length:=by have:=(List.getElem?_eq_some_iff.1 hz).1; omega
  try simp only [OpK_eq,HKv,hx,put3a,hx2,subC3,hz2,putC3,hzs,go_sem]
  have hid:(((ρ ++ [AObj.arr 0 48 6 []]).set σ.length (AObj.box [PV.ref ρ.length 0 0 0,PV.int .i64 q,PV.list (ints L)])).set (σ.length+1) (AObj.box [PV.ref ρ.length 0 0 0,PV.int .i64 q,PV.list (ints L)]))[ρ.length]? = some (.arr 0 48 6 (aggs [])):=by
   rw [List.getElem?_set_ne (by omega),List.getElem?_set_ne (by omega)]; simp [aggs]
  have hF:=hX2.fin (AObj.box [PV.ref ρ.length 0 0 0,PV.int .i64 q,PV.list (ints L)])
  have hbl:=a3.lt
  exact Kv.Fin.giveAt hid (.inl (Imm.acc (Imm.refa (solo_get hid)) (Imm.still) rfl rfl)) (hK [] q L _ ⟨by simp,by simp,hany.l⟩ (hF.1.set2 (by omega) _) (hF.2.set2 (by omega) _))
 ·have hzs:=hX.zs
  try simp only [OpK_eq,HKv,hx,subC3,hz,putC3,hzs,go_sem]
  exact Kv.Fin.now (hK M q L _ hany (hX.fin _).1 (hX.fin _).2)
theorem GoodA.mps {fs:List (List Nat)} {n q:Nat} {la:List Nat} (h:GoodA fs n q la):Mps (fs.map mp)∧1≤(fs.map mp).length∧(fs.map mp).length≤6∧(nz la).length≤5:=by
 have h0:=h.h0
 have hfl:=h.fl
 have hn5:=h.n5
 refine ⟨fun r hr=>?_,by simp; omega,by simp; omega,by rw [nz_len]; exact h.la5⟩
 obtain ⟨f,hff,rfl⟩:=List.mem_map.1 hr
 refine ⟨(h.ok f hff).mp_len,?_⟩
 rw [mp_get0,(h.ok f hff).len]
 omega
theorem p52 {l:List Int} (hl:Byt l) {σ:Heap} {b:Nat} (hS:Src σ b l) {K:PV→Heap→Prop}
  (hK:∀ (M:List (List Int)) (q:Int) (L:List Int) σ',AnyA M L→Src σ' b l→Kept σ σ' b→K (acv M q L) σ'):ACall Tryz.prog 52 [.ptr b 0] σ K:=by
 have hlt:=hS.lt
 refine e52 (by simp) fun _ _=>?_
 simp only [k52,argEnv,go_sem]
 try simp only [OpK_eq,HKv,go_sem]
 refine p66 hl (hS.app _) fun fs n q la τ g1 g2 g3=>?_
 obtain ⟨m1,m2,m3,m4⟩:=g1.mps
 try simp only [OpK_eq,HKv,go_sem]
 refine p68 hl g2 m1 m2 m3 m4 fun M q L ρ h1 h2 h3=>?_
 have hk:=(Kept.app _ _ _).trans (g3.trans h3)
 have hz:ρ[σ.length]? = some (.box [PV.nils,PV.int .i64 0,PV.nils]):=by
  rw [(g3.trans h3).2 _ (by simp) (by omega)]; simp
 have hs:∀ o,(ρ.set σ.length o)[σ.length]? = some o:=fun o=>List.getElem?_set_self (List.getElem?_eq_some_iff.1 hz).1
 try simp only [OpK_eq,HKv,hz,putC3,hs,subC3,go_sem]
 exact Kv.Fin.now (hK M q L _ h1 (h2.set2 (by omega) _) (hk.set2 (Nat.le_refl _) _))
theorem p15 {l:List Int} (hl:Byt l) {K:PV→Heap→Prop} (hK:∀ M q L,AnyA M L→K (acv M q L) []):ACall Tryz.prog 15 [.list (u8s l)] [] K:=by
 refine e15 (by simp) fun _ _=>?_
 simp only [k15,argEnv,go_sem]
 refine p53G hl fun h=>?_
 have hS0:Src ([AObj.box [PV.nils,PV.int .i64 0,PV.nils]] ++ [srcO l 0 h]) 1 l:=⟨0,h,rfl,Nat.zero_le _⟩
 try simp only [OpK_eq,HKv,go_sem]
 refine p52 hl hS0 fun M q L τ q1 q2 q3=>?_
 have hz:τ[0]? = some (.box [PV.nils,PV.int .i64 0,PV.nils]):=q3.2 0 (by simp) (by omega)
 have hs:∀ o,(τ.set 0 o)[0]? = some o:=fun o=>List.getElem?_set_self (List.getElem?_eq_some_iff.1 hz).1
 try simp only [OpK_eq,HKv,hz,putC3,hs,subC3,go_sem]
 exact Kv.Fin.still (hK M q L q1)
theorem p18 {l:List Int} (hl:Byt l) {K:PV→Heap→Prop} (hK:∀ M q L,AnyA M L→K (acv M q L) []):ACall Tryz.prog 18 [.list (u8s l)] [] K:=by
 refine e18 (by simp) fun _ _=>?_
 simp only [k18,argEnv,go_sem]
 refine p53G hl fun h=>?_
 have hS0:Src ([AObj.box [PV.nils,PV.int .i64 0,PV.nils]] ++ [srcO l 0 h]) 1 l:=⟨0,h,rfl,Nat.zero_le _⟩
 try simp only [OpK_eq,HKv,go_sem]
 refine p52 hl hS0 fun M q L τ q1 q2 q3=>?_
 have hz:τ[0]? = some (.box [PV.nils,PV.int .i64 0,PV.nils]):=q3.2 0 (by simp) (by omega)
 have hs:∀ o,(τ.set 0 o)[0]? = some o:=fun o=>List.getElem?_set_self (List.getElem?_eq_some_iff.1 hz).1
 try simp only [OpK_eq,HKv,hz,putC3,hs,subC3,go_sem]
 exact Kv.Fin.still (hK M q L q1)
theorem p23 {l:List Int} (hl:Byt l) {K:PV→Heap→Prop} (hK:∀ M q L a b,AnyA M L→K (.tup [acv M q L,.int .i64 a,.int .i64 b]) []):ACall Tryz.prog 23 [.list (u8s l)] [] K:=by
 refine e23 (by simp) fun _ _=>?_
 simp only [k23,argEnv,go_sem]
 refine p53G hl fun h=>?_
 have hS0:Src ([AObj.box [PV.nils,PV.int .i64 0,PV.nils]] ++ [srcO l 0 h]) 1 l:=⟨0,h,rfl,Nat.zero_le _⟩
 try simp only [OpK_eq,HKv,go_sem]
 refine p66 hl hS0 fun fs n q la τ g1 g2 g3=>?_
 have hz:τ[0]? = some (.box [PV.nils,PV.int .i64 0,PV.nils]):=g3.2 0 (by simp) (by omega)
 have hzl:=(List.getElem?_eq_some_iff.1 hz).1
 have h1l:=g2.lt
 obtain ⟨m1,m2,m3,m4⟩:=g1.mps
 obtain ⟨e1,e2,e3⟩:=mpD0 g1.ok g1.h0
 have hn5:=g1.n5
 have hqn:=g1.qn
 have h0:=g1.h0
 have hgb:∀ (s:Heap) (a:AObj),(s ++ [a])[s.length]? = some a:=fun s a=>by simp
 have hsb:∀ (s:Heap) (a b:AObj),(s ++ [a]).set s.length b=s ++ [b]:=fun s a b=>by simp [List.set_append_right]
 try simp only [OpK_eq,HKv,hgb,hsb,putC3,subC3,e1,e2,e3,List.length_map,go_sem]
 refine ⟨by omega,fun _=>⟨by omega,?_⟩⟩
 refine p67 hl (g2.app _) _ (by omega) fun r1 τ1 _ _ a1 a2=>?_
 have hb1:τ1[τ.length]? = some (.box [.list (aggs (fs.map mp)),.int .i64 q,.list (ints (nz la))]):=(a2.2 _ (by simp) (by omega)).trans (hgb _ _)
 try simp only [OpK_eq,HKv,hb1,putC3,subC3,e1,e2,e3,List.length_map,go_sem]
 refine ⟨by omega,fun _=>⟨by omega,?_⟩⟩
 refine p67 hl a1 _ (by omega) fun r2 τ2 _ _ b1 b2=>?_
 have hb2:=(b2.2 _ (List.getElem?_eq_some_iff.1 hb1).1 (by omega)).trans hb1
 try simp only [OpK_eq,HKv,hb2,putC3,subC3,go_sem]
 refine p68 hl b1 m1 m2 m3 m4 fun M q L τ3 q1 q2 q3=>?_
 have hk:=((Kept.app τ _ 1).trans (a2.trans b2)).trans q3
 have hz2:τ3[0]? = some (.box [PV.nils,PV.int .i64 0,PV.nils]):=(hk.2 0 hzl (by omega)).trans hz
 have hs:∀ o,(τ3.set 0 o)[0]? = some o:=fun o=>List.getElem?_set_self (List.getElem?_eq_some_iff.1 hz2).1
 try simp only [OpK_eq,HKv,hz2,putC3,hs,subC3,go_sem]
 exact Kv.Fin.still (hK M q L r1 r2 q1)
end
end
section
section
set_option maxRecDepth 100000
def k11_b0:KC:=(.seq (.seq (.ops [mV 11 5,mV 12 0,oP 13 (.len false (.t 12)),oP 14 (.bin .lss (.t 11) (.t 13))])
 (.cond (.t 14) .skip (.exit 0)))
 (.seq (.block 1 (.seq (.draw [mV 17 0,mV 18 5,oP 19 (.idxS 1 (.t 17) (.t 18)),oP 20 (.load false 1 (.t 19)),mV 21 1,mV 22 5,oP 23 (.idxS 1 (.t 21) (.t 22)),oP 24 (.load false 1 (.t 23)),oP 25 (.bin .neq (.t 20) (.t 24))])
 (.cond (.t 25) (.seq (.ops [oP 4 (.mv (.c (.bool false)))])
 .ret) .skip)))
 (.ops [mV 15 5,oP 16 (.bin .add (.t 15) (iC 1)),mV 5 16])))
def k11:KC:=(.seq (.ops [oP 4 (.mv (.c (.bool false)))])
 (.seq (.seq (.ops [mV 6 0,oP 7 (.len false (.t 6)),mV 8 1,oP 9 (.len false (.t 8)),oP 10 (.bin .neq (.t 7) (.t 9))])
 (.cond (.t 10) (.seq (.ops [oP 4 (.mv (.c (.bool false)))])
 .ret) .skip))
 (.seq (.seq (.ops [oP 5 (.mv (iC 0))])
 (.block 0 (.loop k11_b0)))
 (.seq (.ops [oP 4 (.mv (.c (.bool true)))])
 .ret))))
theorem e11:Ent 11 26 [] [.t 4] k11:=ent Tryz.func11
end
section
attribute [local irreducible] ACall PCall KL
theorem p11 (a:List Int) (ha:a.length≤1000):Pure Tryz.prog 11 [.list (ints a),.list (ints a)] (.bool true):=by
 refine e11 (by simp) fun _ _=>?_
 simp only [k11,argEnv,go_sem]
 try simp only [OpK_eq,HKv,bne_self_eq_false,go_sem]
 refine KL_ind k11_b0.eq_1 (fun x:Nat=>[(0,.list (ints a)),(1,.list (ints a)),(5,.int .i64 x)]) (fun _=>[]) (fun x=>x≤a.length) (fun x=>a.length - x) [0,1,5] 0 (by simp [keep]) rfl (Nat.zero_le _) fun x hx ih=>?_
 try simp only [OpK_eq,HKv,go_sem]
 refine ⟨fun h1=>?_,fun h1=>Kv.Fin.still ⟨rfl,rfl⟩⟩
 exact ⟨by omega,fun _=>⟨by omega,fun _=>⟨by omega,ih (x+1) (by omega) (by omega) _ _ (by simp [keep]) rfl⟩⟩⟩
theorem p11n:Pure Tryz.prog 11 [.nils,.nils] (.bool true):=by
 refine e11 (by simp) fun _ _=>?_
 simp only [k11,argEnv,go_sem]
 try simp only [OpK_eq,HKv,bne_self_eq_false,go_sem]
 refine KL_ind k11_b0.eq_1 (fun x:Unit=>[(0,.nils),(1,.nils),(5,.int .i64 0)]) (fun _=>[]) (fun x=>True) (fun x=>0) [0,1,5] () (by simp [keep]) rfl trivial fun x hx ih=>?_
 try simp only [OpK_eq,HKv,go_sem]
 exact Kv.Fin.still ⟨rfl,rfl⟩
end
end
section
section
attribute [local irreducible] ACall PCall KL
theorem getD_memZ {α:Type} {l:List (List α)} {i:Nat} (h:i<l.length):l.getD i []∈l:=by
 rw [List.getD_eq_getElem?_getD,List.getElem?_eq_getElem h]; exact List.getElem_mem _
end
end
section
section
attribute [local irreducible] ACall PCall KL
theorem p11G (a b:List Int) (ha:a.length≤1000) (hb:b.length≤1000):Pure Tryz.prog 11 [.list (ints a),.list (ints b)] (.bool (decide (a=b))):=by
 refine e11 (by simp) fun _ _=>?_
 simp only [k11,argEnv,go_sem]
 try simp only [OpK_eq,HKv,go_sem]
 refine ⟨fun h=>Kv.Fin.still ⟨by rw [decide_eq_false fun e=>h (by rw [e])],rfl⟩,fun h=>?_⟩
 have hab:a.length=b.length:=by omega
 refine KL_ind k11_b0.eq_1 (fun x:Nat=>[(0,.list (ints a)),(1,.list (ints b)),(5,.int .i64 x)]) (fun _=>[]) (fun x=>x≤a.length∧∀ j,j<x→a.getD j 0=b.getD j 0) (fun x=>a.length - x) [0,1,5] 0 (by simp [keep]) rfl ⟨Nat.zero_le _,fun j hj=>by omega⟩ fun x ⟨hx,hj⟩ ih=>?_
 try simp only [OpK_eq,HKv,go_sem]
 refine ⟨fun h1=>⟨by omega,fun _=>⟨by omega,fun _=>⟨fun h2=>?_,fun h2=>⟨by omega,ih (x+1) ⟨by omega,fun j hj2=>?_⟩ (by omega) _ _ (by simp [keep]) rfl⟩⟩⟩⟩,fun h1=>?_⟩
 ·exact Kv.Fin.still ⟨by rw [decide_eq_false fun e=>h2 (by rw [e])],rfl⟩
 ·by_cases e:j=x
  ·subst e; omega
  ·exact hj j (by omega)
 ·obtain rfl:x=a.length:=by omega
  have:a=b:=List.ext_getElem hab fun i h1 h2=>by
   have:=hj i h1
   rwa [List.getD_eq_getElem?_getD,List.getD_eq_getElem?_getD,List.getElem?_eq_getElem h1,List.getElem?_eq_getElem h2] at this
  exact Kv.Fin.still ⟨by rw [decide_eq_true this],rfl⟩
end
end
section
section
set_option maxRecDepth 100000
def k48_b0:KC:=(.seq (.seq (.ops [mV 11 5,mV 12 0,oP 13 (.len false (.t 12)),oP 14 (.bin .lss (.t 11) (.t 13))])
 (.cond (.t 14) .skip (.exit 0)))
 (.seq (.block 1 (.seq (.draw [mV 17 0,mV 18 5,oP 19 (.idxS 6 (.t 17) (.t 18)),oP 20 (.load true 6 (.t 19)),mV 21 1,mV 22 5,oP 23 (.idxS 6 (.t 21) (.t 22)),oP 24 (.load true 6 (.t 23)),oP 25 (.aeq true 6 (.t 20) (.t 24))])
 (.cond (.t 25) (.seq (.ops [oP 4 (.mv (.c (.bool false)))])
 .ret) .skip)))
 (.ops [mV 15 5,oP 16 (.bin .add (.t 15) (iC 1)),mV 5 16])))
def k48:KC:=(.seq (.ops [oP 4 (.mv (.c (.bool false)))])
 (.seq (.seq (.ops [mV 6 0,oP 7 (.len false (.t 6)),mV 8 1,oP 9 (.len false (.t 8)),oP 10 (.bin .neq (.t 7) (.t 9))])
 (.cond (.t 10) (.seq (.ops [oP 4 (.mv (.c (.bool false)))])
 .ret) .skip))
 (.seq (.seq (.ops [oP 5 (.mv (iC 0))])
 (.block 0 (.loop k48_b0)))
 (.seq (.ops [oP 4 (.mv (.c (.bool true)))])
 .ret))))
theorem e48:Ent 48 26 [] [.t 4] k48:=ent Tryz.func48
def k13:KC:=(.seq (.ops [oP 2 (.box true (.t 0)),oP 3 (.box true (.t 1)),oP 4 (.mv (.c (.bool false)))])
 (.seq (.ops [oP 5 (.fieldA 0 (.t 2)),oP 6 (.load false 1 (.t 5)),oP 7 (.fieldA 0 (.t 3)),oP 8 (.load false 1 (.t 7)),oP 9 (.call (fC 48) [(.t 6),(.t 8)]),mV 10 9,⟨(some 11),some (10,true),.fieldA 1 (.t 2)⟩,⟨(some 12),some (10,true),.load false 1 (.t 11)⟩,⟨(some 13),some (10,true),.fieldA 1 (.t 3)⟩,⟨(some 14),some (10,true),.load false 1 (.t 13)⟩,⟨(some 15),some (10,true),.bin .eql (.t 12) (.t 14)⟩,oP 16 (.pick (.t 10) (.t 15) (.c (.bool false))),mV 17 16,⟨(some 18),some (17,true),.fieldA 2 (.t 2)⟩,⟨(some 19),some (17,true),.load false 1 (.t 18)⟩,⟨(some 20),some (17,true),.fieldA 2 (.t 3)⟩,⟨(some 21),some (17,true),.load false 1 (.t 20)⟩,⟨(some 22),some (17,true),.call (fC 11) [(.t 19),(.t 21)]⟩,oP 23 (.pick (.t 17) (.t 22) (.c (.bool false))),mV 4 23])
 .ret))
theorem e13:Ent 13 24 [2,3] [.t 4] k13:=ent Tryz.func13
end
section
attribute [local irreducible] ACall PCall KL
theorem p48 (a b:List (List Int)) (ha:a.length≤1000) (hb:b.length≤1000) (a6:∀ r∈a,r.length=6) (b6:∀ r∈b,r.length=6):Pure Tryz.prog 48 [.list (aggs a),.list (aggs b)] (.bool (decide (a=b))):=by
 refine e48 (by simp) fun _ _=>?_
 simp only [k48,argEnv,go_sem]
 try simp only [OpK_eq,HKv,aggs_length,go_sem]
 refine ⟨fun h=>Kv.Fin.still ⟨by rw [decide_eq_false fun e=>h (by rw [e])],rfl⟩,fun h=>?_⟩
 have hab:a.length=b.length:=by omega
 refine KL_ind k48_b0.eq_1 (fun x:Nat=>[(0,.list (aggs a)),(1,.list (aggs b)),(5,.int .i64 x)]) (fun _=>[]) (fun x=>x≤a.length∧∀ j,j<x→a.getD j []=b.getD j []) (fun x=>a.length - x) [0,1,5] 0 (by simp [keep]) rfl ⟨Nat.zero_le _,fun j hj=>by omega⟩ fun x ⟨hx,hj⟩ ih=>?_
 try simp only [OpK_eq,HKv,aggs_length,go_sem]
 refine ⟨fun h1=>?_,fun h1=>?_⟩
 ·have hxa:x<a.length:=by omega
  have ga:=a6 _ (getD_memZ hxa)
  have gb:=b6 _ (getD_memZ (show x<b.length by omega))
  try simp only [OpK_eq,HKv,aggs_length,ga,gb,go_sem]
  refine ⟨by omega,fun _=>⟨by omega,fun _=>⟨fun h2=>?_,fun h2=>?_⟩⟩⟩
  ·exact Kv.Fin.still ⟨by rw [decide_eq_false fun e=>h2 (by rw [e])],rfl⟩
  ·exact ⟨by omega,ih (x+1) ⟨by omega,fun j hj2=>by
    by_cases e:j=x
    ·subst e; exact h2
    ·exact hj j (by omega)⟩ (by omega) _ _ (by simp [keep]) rfl⟩
 ·obtain rfl:x=a.length:=by omega
  have:a=b:=List.ext_getElem hab fun i h1 h2=>by
   have:=hj i h1
   rwa [List.getD_eq_getElem?_getD,List.getD_eq_getElem?_getD,List.getElem?_eq_getElem h1,List.getElem?_eq_getElem h2] at this
  exact Kv.Fin.still ⟨by rw [decide_eq_true this],rfl⟩
theorem nz_injQ {a b:List Nat} (h:nz a=nz b):a=b:=by
 have:=congrArg (List.map Int.toNat) h
 simpa [nz,List.map_map,Function.comp_def] using this
theorem maps_injQ {a b:List (List Nat)} (h:a.map mp=b.map mp):a=b:=by
 have:=congrArg (List.map um) h
 rwa [map_um,map_um] at this
theorem p13 {fs gs:List (List Nat)} {n m p q:Nat} {la lb:List Nat} (h1:GoodA fs n p la) (h2:GoodA gs m q lb):Pure Tryz.prog 13 [gav fs p la,gav gs q lb] (.bool (decide (fs=gs∧p=q∧la=lb))):=by
 obtain ⟨_,_,a3,a4⟩:=h1.mps
 obtain ⟨_,_,b3,b4⟩:=h2.mps
 have hM:=p48 (fs.map mp) (gs.map mp) (by omega) (by omega) h1.any.r h2.any.r
 have hL:=p11G (nz la) (nz lb) (by omega) (by omega)
 by_cases e1:fs=gs
 ·subst e1
  rw [decide_eq_true rfl] at hM
  by_cases e2:p=q
  ·subst e2
   have e:decide (nz la=nz lb)=decide (fs=fs∧p=p∧la=lb):=decide_eq_decide.2 ⟨fun h=>⟨rfl,rfl,nz_injQ h⟩,fun h=>by rw [h.2.2]⟩
   rw [e] at hL
   refine e13 (by simp) fun _ _=>?_
   simp only [k13,argEnv,go_sem]
   try simp only [OpK_eq,HKv,subC3,go_sem]
   refine hM.go ?_
   try simp only [OpK_eq,HKv,subC3,decide_true,go_sem]
   refine hL.go ?_
   try simp only [OpK_eq,HKv,subC3,go_sem]
   exact Kv.Fin.still ⟨rfl,rfl⟩
  ·have hd:decide ((p:Int)=(q:Int))=false:=decide_eq_false (by omega)
   refine e13 (by simp) fun _ _=>?_
   simp only [k13,argEnv,go_sem]
   try simp only [OpK_eq,HKv,subC3,go_sem]
   refine hM.go ?_
   try simp only [OpK_eq,HKv,subC3,hd,go_sem]
   exact Kv.Fin.still ⟨by rw [decide_eq_false fun h=>e2 h.1],rfl⟩
 ·rw [decide_eq_false fun h=>e1 (maps_injQ h)] at hM
  refine e13 (by simp) fun _ _=>?_
  simp only [k13,argEnv,go_sem]
  try simp only [OpK_eq,HKv,subC3,go_sem]
  refine hM.go ?_
  try simp only [OpK_eq,HKv,subC3,go_sem]
  exact Kv.Fin.still ⟨by rw [decide_eq_false fun h=>e1 h.1],rfl⟩
def FDl (M M':List (List Int)) (q q':Int) (L L':List Int):Prop:=∃ (V:PV) (c:Int) (e:Bool) (c2:Int),Still V∧Pure Tryz.prog 7 [acv M q L,acv M' q' L'] (.tup [V,.int .i64 c])∧Pure Tryz.prog 8 [acv M q L,acv M' q' L'] (.tup [V,.int .i64 c])∧Pure Tryz.prog 11 [V,V] (.bool true) ∧
  Pure Tryz.prog 9 [acv M q L,acv M' q' L'] (.tup [.bool e,.int .i64 c2])∧Pure Tryz.prog 10 [acv M q L,acv M' q' L'] (.tup [.bool e,.int .i64 c2]) ∧
  ((c≠0∧c2≠0)∨∃ fs gs n m,∃ a b:Nat,∃ la lb,M=fs.map mp∧q=(a:Int)∧L=nz la∧M'=gs.map mp∧q'=(b:Int)∧L'=nz lb∧GoodA fs n a la∧GoodA gs m b lb∧fs.length=gs.length∧c2=0∧e=decide (c=4)∧e=decide (lsM fs la a=lsM gs lb b∧0=0∧lsL fs la a=lsL gs lb b)∧(c=0∨c=4) ∧
   (c=0→∃ w:List Nat,V = .list (ints (nz w))∧(∀ k∈w,k<fs.length)∧w.length≤25∧decide (rnw fs w a∈la)≠decide (rnw gs w b∈lb)))
theorem fd_loc {M M':List (List Int)} (q q':Int) {L L':List Int} (h:AnyA M L) (h':AnyA M' L'):FDl M M' q q' L L':=by
 have hbad:∀ {b1 b2:Bool},Pure Tryz.prog 46 [acv M q L] (.bool b1)→Pure Tryz.prog 57 [acv M q L] (.bool b1)→Pure Tryz.prog 46 [acv M' q' L'] (.bool b2)→Pure Tryz.prog 57 [acv M' q' L'] (.bool b2)→twoC b1 b2 M.length M'.length≠0→twoC b1 b2 M.length M'.length≠4→FDl M M' q q' L L':=fun {b1 b2} i1 s1 i2 s2 hc h4=>by
  unfold FDl
  have hd:=p43_bad M M' q q' L L' i1 i2 hc
  have ht:=p44 M M' q q' L L' s1 s2
  have hA:=p9 M M' q q' L L' hd
  rw [decide_eq_false h4,if_neg h4] at hA
  exact ⟨.nils,_,false,_,inferInstance,p7 M M' q q' L L' hd,p8_bad M M' q q' L L' hc ht,p11n,hA,p10_bad M M' q q' L L' hc ht,.inl ⟨hc,hc⟩⟩
 rcases acc_cases M q L h.m h.r h.l with ⟨i1,s1⟩ | ⟨fs,n,a,la,rfl,rfl,rfl,g1⟩
 ·rcases acc_cases M' q' L' h'.m h'.r h'.l with ⟨i2,s2⟩ | ⟨gs,m,b,lb,rfl,rfl,rfl,g2⟩
  ·exact hbad i1 s1 i2 s2 (by simp [twoC]) (by simp [twoC])
  ·exact hbad i1 s1 g2.i g2.s (by simp [twoC]) (by simp [twoC])
 ·rcases acc_cases M' q' L' h'.m h'.r h'.l with ⟨i2,s2⟩ | ⟨gs,m,b,lb,rfl,rfl,rfl,g2⟩
  ·exact hbad g1.i g1.s i2 s2 (by simp [twoC]) (by simp [twoC])
  ·by_cases hl:fs.length=gs.length
   ·have hd:=p43_in g1 g2 hl
    have hS:=p8_in g1 g2 hl
    have hE:=p10_in g1 g2 hl
    have hiff:=least_iff la lb g1.ok g2.ok hl g1.qn g2.qn g1.n5 g2.n5
    have hword:=@fwp_word fs gs la lb n m a b g1.ok g2.ok hl g1.qn g2.qn g1.n5 g2.n5
    unfold FDl
    cases ho:fwp fs gs la lb a b with
    | none =>
     rw [ho] at hd hS hE
     have hA:=p9 _ _ _ _ _ _ hd
     have h3:=hiff.1 ho
     exact ⟨.nils,4,true,0,inferInstance,p7 _ _ _ _ _ _ hd,hS,p11n,hA,hE,.inr ⟨fs,gs,n,m,a,b,la,lb,rfl,rfl,rfl,rfl,rfl,rfl,g1,g2,hl,rfl,rfl,(decide_eq_true ⟨h3.1,rfl,h3.2⟩).symm,.inr rfl,fun e=>absurd e (by decide)⟩⟩
    | some w0 =>
     obtain ⟨w,rfl,hw,hwl,hne⟩:=hword ho
     rw [ho] at hd hS hE
     have hA:=p9 _ _ _ _ _ _ hd
     have h3:¬ (lsM fs la a=lsM gs lb b∧0=0∧lsL fs la a=lsL gs lb b):=fun h=>by
      rw [hiff.2 ⟨h.1,h.2.2⟩] at ho; cases ho
     exact ⟨_,0,false,0,inferInstance,p7 _ _ _ _ _ _ hd,hS,p11 _ (by rw [nz_len]; omega),hA,hE,.inr ⟨fs,gs,n,m,a,b,la,lb,rfl,rfl,rfl,rfl,rfl,rfl,g1,g2,hl,rfl,rfl,(decide_eq_false h3).symm,.inl rfl,fun _=>⟨w,rfl,hw,hwl,fun e=>hne (decide_eq_decide.1 e)⟩⟩⟩
   ·exact hbad g1.i g1.s g2.i g2.s (by simp [twoC,hl]) (by simp [twoC,hl])
theorem fa_loc {M:List (List Int)} (q:Int) {L:List Int} (h:AnyA M L):∃ (V:PV) (c:Int),Still V∧Pure Tryz.prog 16 [acv M q L] (.tup [V,.int .i64 c])∧Pure Tryz.prog 17 [acv M q L] (.tup [V,.int .i64 c])∧Pure Tryz.prog 11 [V,V] (.bool true)∧(c=0→Pure Tryz.prog 14 [acv M q L,V] (.tup [.bool true,.int .i64 0])):=by
 rcases acc_cases M q L h.m h.r h.l with ⟨i1,s1⟩ | ⟨fs,n,a,la,rfl,rfl,rfl,g1⟩
 ·exact ⟨.nils,1,inferInstance,p16_bad M q L i1,p17_bad M q L s1,p11n,fun e=>absurd e (by decide)⟩
 ·have hi:=p16_in g1
  have hs:=p17_in g1
  have hword:=@fwp_word fs fs la [] n n a a g1.ok g1.ok rfl g1.qn g1.qn g1.n5 g1.n5
  cases ho:fwp fs fs la [] a a with
  | none =>
   rw [ho] at hi hs
   exact ⟨.nils,4,inferInstance,hi,hs,p11n,fun e=>absurd e (by decide)⟩
  | some w0 =>
   obtain ⟨w,rfl,hw,hwl,hne⟩:=hword ho
   rw [ho] at hi hs
   refine ⟨_,0,inferInstance,hi,hs,p11 _ (by rw [nz_len]; omega),fun _=>?_⟩
   have hA:=p14_in g1 w hw (by omega)
   have:rnw fs w a∈la:=Classical.byContradiction fun hc=>hne ⟨fun h=>absurd h hc,fun h=>absurd h (by simp)⟩
   rwa [decide_eq_true this] at hA
theorem wg_loc {M:List (List Int)} (q:Int) {L:List Int} (h:AnyA M L):∃ (b:Bool) (c:Int),Pure Tryz.prog 19 [acv M q L] (.tup [.bool b,.int .i64 c])∧Pure Tryz.prog 20 [acv M q L] (.tup [.bool b,.int .i64 c]) ∧
  (c=0→∃ (A:List (List Nat)) (p:Nat) (B:List Nat) (k:Nat) (S:List (List Nat)),Pure Tryz.prog 12 [acv M q L] (.tup [gav A p B,.int .i64 0])∧Pure Tryz.prog 21 [.list (aggs (A.map mp))] (.tup [.list (aggs (S.map mp)),.int .i64 0])∧S.length≤300∧(∀ f∈S,Ok f k)∧b=S.all (per1 k)):=by
 rcases acc_cases M q L h.m h.r h.l with ⟨i1,s1⟩ | ⟨fs,n,a,la,rfl,rfl,rfl,g1⟩
 ·exact ⟨false,1,p19_bad _ (fun M' q' L' e=>i1) _ q _ rfl inferInstance inferInstance,p20_bad _ (fun M' q' L' e=>s1) _ q _ rfl inferInstance inferInstance,fun e=>absurd e (by decide)⟩
 ·have hi:=p19_in fs n g1.ok g1.n5 g1.h0 g1.fl a g1.qn la g1.st g1.ll
  have hs:=p20_in fs n g1.ok g1.n5 g1.h0 g1.fl a g1.qn la g1.l5 g1.st g1.ll
  have hO:=lsM_ok la g1.ok g1.n5 g1.qn
  have hml0:(lsM fs la a).length=fs.length:=by simp [lsM]
  have o5:=(ord_ok g1.ok g1.n5 g1.qn).len
  have hk1:=kF_pos (fs:=fs) (la:=la) (q:=a) o5.1
  have hk5:=kF_le fs la a
  have hfl:=g1.fl
  have h0:=g1.h0
  have hlc:=lc_ok hO (by omega) (by omega)
  have hE:=p21_in (lsM fs la a) _ hk1 (by omega) hO (by omega) (by omega) hlc
  have hL:=p12_in g1
  unfold wgV at hi hs
  cases hR:clR (lsM fs la a) (kF fs la a).length with
  | none =>
   rw [hR] at hi hs
   exact ⟨false,3,hi,hs,fun e=>absurd e (by decide)⟩
  | some Q =>
   rw [hR] at hi hs hE
   obtain ⟨c3,c4⟩:=clR_okQ hk1 (by omega) hO hR
   obtain ⟨s1,s2,s3⟩:=elS_ok c3
   exact ⟨_,0,hi,hs,fun _=>⟨_,_,_,_,_,hL,hE,by omega,s1.1,rfl⟩⟩
theorem fp_loc {M:List (List Int)} (q:Int) {L:List Int} (h:AnyA M L) (x y:Int):∃ (V:PV) (c:Int),Still V∧Pure Tryz.prog 24 [acv M q L,.int .i64 x,.int .i64 y] (.tup [V,.int .i64 c])∧Pure Tryz.prog 25 [acv M q L,.int .i64 x,.int .i64 y] (.tup [V,.int .i64 c])∧Pure Tryz.prog 11 [V,V] (.bool true):=by
 rcases acc_cases M q L h.m h.r h.l with ⟨i1,s1⟩ | ⟨fs,n,a,la,rfl,rfl,rfl,g1⟩
 ·exact ⟨.nils,1,inferInstance,p24_bad M q L x y i1,p25_bad M q L x y s1,p11n⟩
 ·have hi:=p24_in g1 x y
  have hs:=p25_in g1 x y
  unfold faV at hi hs
  by_cases hxy:(0≤x∧x≤(n:Int) - 1)∧(0≤y∧y≤(n:Int) - 1)
  ·rw [if_pos hxy] at hi hs
   have hword:=@fwp_word fs fs la la n n x.toNat y.toNat g1.ok g1.ok rfl (by omega) (by omega) g1.n5 g1.n5
   cases ho:fwp fs fs la la x.toNat y.toNat with
   | none =>
    rw [ho] at hi hs
    exact ⟨.nils,4,inferInstance,hi,hs,p11n⟩
   | some w0 =>
    obtain ⟨w,rfl,hw,hwl,_⟩:=hword ho
    rw [ho] at hi hs
    exact ⟨_,0,inferInstance,hi,hs,p11 _ (by rw [nz_len]; omega)⟩
  ·rw [if_neg hxy] at hi hs
   exact ⟨.nils,2,inferInstance,hi,hs,p11n⟩
theorem fi_loc {M:List (List Int)} (q:Int) {L:List Int} (h:AnyA M L):∃ (b:Bool) (c:Int),Pure Tryz.prog 27 [acv M q L] (.tup [.bool b,.int .i64 c])∧Pure Tryz.prog 28 [acv M q L] (.tup [.bool b,.int .i64 c]) ∧
  (c=0→b=true→∃ C:List Nat,Pure Tryz.prog 29 [acv M q L,.int .i64 12] (.tup [.list (ints (nz C)),.int .i64 0])∧C.length=13∧(nz C).getD 5 0=0∧(nz C).getD 7 0=0∧(nz C).getD 12 0=0):=by
 rcases acc_cases M q L h.m h.r h.l with ⟨i1,s1⟩ | ⟨fs,n,a,la,rfl,rfl,rfl,g1⟩
 ·exact ⟨false,1,p27_bad M q L i1,p28_bad M q L s1,fun e=>absurd e (by decide)⟩
 ·refine ⟨_,0,p27_in g1,p28_in g1,fun _ hb=>?_⟩
  have hC:=p29_in g1 12 (by omega)
  have hn5:=g1.n5
  have hno:¬ ∃ w,Acw fs la a w∧n≤w.length∧w.length<2 * n:=fun hex=>by
   rw [finB_false hex] at hb; cases hb
  have hz:=fin_none (la:=la) g1.ok hn5 g1.qn hno
  have hg:∀ k,n≤k→k<13→(nz (cnaI fs la a 13)).getD k 0=0:=fun k hk h13=>by
   unfold cnaI nz
   rw [List.getD_eq_getElem?_getD,List.getElem?_map,List.getElem?_map,List.getElem?_range h13]
   simp [hz k hk]
  exact ⟨_,hC,by simp [cnaI],hg 5 (by omega) (by omega),hg 7 (by omega) (by omega),hg 12 (by omega) (by omega)⟩
end
end
end Go.Proofs.YtcfmmmloeaggmaaGreat
