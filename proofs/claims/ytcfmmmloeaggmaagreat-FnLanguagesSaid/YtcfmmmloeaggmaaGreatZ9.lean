/- Several texts of this session as one, less what the claim does not need. -/
import Derived.Test.YtcfmmmloeaggmaaGreatCb
import Derived.Test.YtcfmmmloeaggmaaGreatZ7
import Derived.Test.YtcfmmmloeaggmaaGreatZ6
import Derived.Test.YtcfmmmloeaggmaaGreatZ8
namespace Go.Proofs.YtcfmmmloeaggmaaGreat
open Go.Kv
set_option linter.unusedVariables false
set_option linter.unusedSimpArgs false
section
section
set_option maxRecDepth 100000
def k54:KC:=(.seq (.ops [oP 7 (.box true (.t 3)),oP 8 (.mv (.c (.nils))),oP 9 (.mv (iC 0))])
 (.seq (.ops [oP 10 (.alloc [.nils])])
 (.seq (.ops [oP 11 (.alloc [.bool false]),⟨none,none,.store 1 (.t 11) (.c (.bool false))⟩])
 (.seq (.ops [mV 12 0,mV 13 1,mV 14 2,oP 15 (.mkfn (.func 126) [] [(.t 7),(.t 10),(.t 11)]),oP 16 (.call (fC 125) [(.t 12),(.t 13),(.t 14),(.t 15)])])
 (.seq (.seq (.ops [oP 17 (.load false 1 (.t 11)),oP 18 (.not (.t 17))])
 (.cond (.t 18) (.seq (.ops [oP 8 (.mv (.c (.nils))),oP 9 (.mv (iC 4))])
 .ret) .skip))
 (.seq (.ops [oP 19 (.load false 1 (.t 10)),mV 8 19,oP 9 (.mv (iC 0))])
 .ret))))))
theorem e54:Ent 54 20 [7] [.t 8,.t 9] k54:=ent Tryz.func54
def k126:KC:=(.seq (.ops [oP 4 (.box true (.t 0)),oP 5 (.mv (.c (.bool false)))])
 (.seq (.seq (.ops [oP 6 (.load false 1 (.t 1)),oP 7 (.fieldA 0 (.t 4)),oP 8 (.load false 1 (.t 7)),oP 9 (.call (.t 6) [(.t 8)])])
 (.cond (.t 9) (.ops [oP 10 (.fieldA 1 (.t 4)),oP 11 (.load false 1 (.t 10)),⟨none,none,.store 1 (.t 2) (.t 11)⟩,⟨none,none,.store 1 (.t 3) (.c (.bool true))⟩]) .skip))
 (.seq (.ops [oP 12 (.load false 1 (.t 3)),oP 13 (.not (.t 12)),mV 5 13])
 .ret)))
theorem e126:Ent 126 14 [4] [.t 5] k126:=ent Tryz.func126
end
section
attribute [local irreducible] ACall PCall KL
theorem p126 (σ:Heap) (p:List Int) (w:PV) (l:List Int) (isid:FuncId) (iscaps:List PV) [hc:StillL iscaps] (b:Bool) (his:Pure Tryz.prog isid (.list (ints p) :: iscaps) (.bool b)) (h0:σ[0]? = some (.box [.nils])) (h1:σ[1]? = some (.box [.bool false])) (hw:Wd σ (fun id=>id=0∨id=1) w l) (K:PV→Heap→Prop)
  (hK1:b=false→K (.bool true) σ) (hK2:b=true→∀ σ',σ'[0]? = some (.box [w])→σ'[1]? = some (.box [.bool true])→Wd σ' (fun _=>False) w l→K (.bool false) σ') :
  ACall Tryz.prog 126 (.agg [.list (ints p),w] :: [.fptr [.fn (.func isid) [] iscaps] 0,.ptr 0 0,.ptr 1 0]) σ K:=by
 have hlt0:=(List.getElem?_eq_some_iff.1 h0).1
 have hlt1:=(List.getElem?_eq_some_iff.1 h1).1
 have hwok:[PV.list (ints p),w].all PV.ok=true:=by rcases hw with ⟨rfl,_⟩ | ⟨_,_,rfl,_⟩ <;> simp [PV.ok]
 have hwcs:=hw.cs
 have h01:∀ o,(σ.set 0 o)[1]? = some (.box [.bool false]):=fun o=>(List.getElem?_set_ne (by decide)).trans h1
 refine e126 (by simp) fun _ _=>?_
 simp only [k126,argEnv,go_sem]
 try simp only [OpK_eq,hwok,go_sem]
 refine ⟨hwcs.2,?_⟩
 refine his.go ?_
 have hls:∀ o,(σ.set 0 o).length = σ.length:=fun o=>List.length_set ..
 cases b with
 | false =>
  try simp only [OpK_eq,h1,go_sem]
  exact Kv.Fin.now (hK1 rfl)
 | true =>
  have hput:putC [PV.nils] 0 [w] = [w]:=by unfold putC; first | rfl | (split <;> rfl) | simp
  have hputb:putC [PV.bool false] 0 [.bool true] = [.bool true]:=by unfold putC; first | rfl | (split <;> rfl) | simp
  have hs0:∀ o o',((σ.set 0 o).set 1 o')[1]? = some o':=fun o o'=>List.getElem?_set_self (by rw [hls]; exact hlt1)
  have hs1:∀ o o',((σ.set 0 o).set 1 o')[0]? = some o:=fun o o'=>by
   rw [List.getElem?_set_ne (by decide)]; exact List.getElem?_set_self hlt0
  have hK:=fun ρ=>hK2 rfl ρ
  clear hK1 hK2
  have hW2:Wd ((σ.set 0 (.box [w])).set 1 (.box [.bool true])) (fun _=>False) w l:=hw.keep fun id _ hA=>by
   simp only [not_or] at hA
   exact ⟨by rw [List.getElem?_set_ne (Ne.symm hA.2),List.getElem?_set_ne (Ne.symm hA.1)],fun h=>h⟩
  try simp only [OpK_eq,h0,h01,hs0,hwcs.1,hwcs.2,hput,hputb,HKv,go_sem]
  exact Kv.Fin.now (hK _ (hs1 _ _) (hs0 _ _) hW2)
theorem p54 (fs:List (List Nat)) (n:Nat) (hf:∀ f∈fs,Ok f n) (hfl:fs.length≤1000) (bid:FuncId) (bf:List Nat→List Int→List Int) (okp:List Int→Prop)
  (hokl:∀ p,okp p→p.length≤1000) (hokb:∀ f∈fs,∀ p,okp p→okp (bf f p))
  (hby:∀ f∈fs,∀ p,okp p→Pure Tryz.prog bid [.agg (ints (mp f)),.list (ints p)] (.list (ints (bf f p))))
  (isid:FuncId) (iscaps:List PV) [hc:StillL iscaps] (isF:List Int→Bool) (his:∀ p,okp p→Pure Tryz.prog isid (.list (ints p) :: iscaps) (.bool (isF p)))
  (from0:List Int) (hok0:okp from0) (N:Nat) (hN:N≤1000) (hB:∀ i,(bq fs bf (fun _ _=>()) ([(from0,[])],()) i).1.length≤N) (K:PV→Heap→Prop)
  (hK1:∀ i (h:i<(bq fs bf (fun _ _=>()) ([(from0,[])],()) i).1.length),isF (bq fs bf (fun _ _=>()) ([(from0,[])],()) i).1[i].1=true→(∀ j (h:j<(bq fs bf (fun _ _=>()) ([(from0,[])],()) j).1.length),j<i→isF (bq fs bf (fun _ _=>()) ([(from0,[])],()) j).1[j].1=false) →
   ∀ x s,OwnI 2 s 0 s.length x (bq fs bf (fun _ _=>()) ([(from0,[])],()) i).1[i].2→Free s→K (.tup [x,.int .i64 0]) s)
  (hK2:∀ i,i=(bq fs bf (fun _ _=>()) ([(from0,[])],()) i).1.length→(∀ j (h:j<(bq fs bf (fun _ _=>()) ([(from0,[])],()) j).1.length),j<i→isF (bq fs bf (fun _ _=>()) ([(from0,[])],()) j).1[j].1=false)→K (.tup [.nils,.int .i64 4]) []) :
  ACall Tryz.prog 54 [.list (aggs (fs.map mp)),.list (ints from0),.fn (.func bid) [] [],.fn (.func isid) [] iscaps] [] K:=by
 refine e54 (by simp) fun _ _=>?_
 simp only [k54,argEnv,go_sem]
 try simp only [OpK_eq,go_sem]
 refine p125 (α:=Unit) fs n hf hfl bid 126 [.fptr [.fn (.func isid) [] iscaps] 0,.ptr 0 0,.ptr 1 0] bf okp hokl hokb hby
  (fun _ σ=>σ[0]? = some (.box [.nils])∧σ[1]? = some (.box [.bool false])) (fun _ id=>id=0∨id=1) (fun _ _=>()) (fun _ p=>!isF p)
  (fun _ p l σ'=>∃ w,σ'[0]? = some (.box [w])∧σ'[1]? = some (.box [.bool true])∧Wd σ' (fun _=>False) w l)
  (fun a σ id h hu=>?_) (fun a σ σ' h hk hl=>?_) (fun a σ p w l hp hI hw K' k1 k2=>?_) () from0 hok0 N hN hB _ ⟨rfl,rfl⟩ _ (fun i hi hgf hgo σ' hD=>?_) (fun i hi hgo σ' hI=>?_)
 ·have h1:=(List.getElem?_eq_some_iff.1 h.1).1
  have h2:=(List.getElem?_eq_some_iff.1 h.2).1
  rcases hu with rfl | rfl
  ·exact h1
  ·exact h2
 ·have k0:=hk 0 (.inl rfl)
  have k1:=hk 1 (.inr rfl)
  exact ⟨k0.trans h.1,k1.trans h.2⟩
 ·refine p126 σ p w l isid iscaps (isF p) (his p hp) hI.1 hI.2 hw K' (fun hb=>?_) (fun hb σ' q1 q2 q3=>?_)
  ·exact k1 (by rw [hb]; rfl) σ hI (Nat.le_refl _) fun id _ hu=>⟨rfl,hu⟩
  ·exact k2 (by rw [hb]; rfl) σ' ⟨w,q1,q2,q3⟩
 ·obtain ⟨w,q1,q2,q3⟩:=hD
  have hK:=hK1 i hi (by simpa using hgf) (fun j h hj=>by simpa using hgo j h hj)
  clear hK1 hK2
  try simp only [OpK_eq,q1,q2,HKv,go_sem]
  rcases q3 with ⟨rfl,hl⟩ | ⟨id,ver,rfl,ho,_⟩
  ·rw [hl] at hK
   exact Kv.Fin.still (hK _ _ .nil .nil)
  ·refine Kv.Fin.oneT ho (by simp only [flat_ints]; exact Plain.ints _) 0 (hK _ _ (.own 0 ver [] _ [] (by simp) ⟨Nat.zero_le _,by simp⟩) (Free.ints _ _ _ _))
 ·have hK:=hK2 i hi (fun j h hj=>by simpa using hgo j h hj)
  clear hK1 hK2
  try simp only [OpK_eq,hI.2,HKv,go_sem]
  exact Kv.Fin.still hK
end
end
section
section
set_option maxRecDepth 100000
def k70:KC:=(.seq (.ops [oP 3 (.box true (.t 0)),oP 6 (.mv (.c (.nils))),oP 7 (.mv (iC 0))])
 (.seq (.ops [oP 8 (.load false 1 (.t 3)),oP 9 (.nilck (.t 8)),oP 10 (.fieldA 0 (.t 9)),oP 11 (.load false 1 (.t 10)),mV 12 1,mV 13 2,oP 14 (.bsl false 2 1 [(.t 12),(.t 13)]),oP 15 (.mkfn (.func 141) [] [(.t 3)]),oP 16 (.call (fC 54) [(.t 11),(.t 14),(fC 55),(.t 15)]),oP 17 (.extr 0 (.t 16)),oP 18 (.extr 1 (.t 16)),mV 6 17,mV 7 18])
 .ret))
theorem e70:Ent 70 19 [3] [.t 6,.t 7] k70:=ent Tryz.func70
def k141:KC:=(.seq (.ops [oP 3 (.mv (.c (.bool false)))])
 (.seq (.draw [oP 4 (.load false 1 (.t 1)),mV 5 0,oP 6 (.idxS 1 (.t 5) (iC 0)),oP 7 (.load false 1 (.t 6)),oP 9 (.load false 1 (.t 1)),mV 10 0,oP 11 (.idxS 1 (.t 10) (iC 1)),oP 12 (.load false 1 (.t 11)),oP 8 (.pcall (fC 50) [(.t 4),(.t 7)]),oP 13 (.pcall (fC 50) [(.t 9),(.t 12)]),oP 14 (.beq true (.t 8) (.t 13)),mV 3 14])
 .ret))
theorem e141:Ent 141 15 [] [.t 3] k141:=ent Tryz.func141
def k121:KC:=(.seq (.ops [oP 6 (.mv (.c (.bool false)))])
 (.seq (.draw [oP 10 (.load false 1 (.t 2)),oP 11 (.load false 1 (.t 3)),mV 12 0,oP 13 (.idxS 1 (.t 11) (.t 12)),oP 14 (.load false 1 (.t 13)),oP 15 (.load false 1 (.t 3)),mV 16 1,oP 17 (.idxS 1 (.t 15) (.t 16)),oP 18 (.load false 1 (.t 17)),oP 19 (.pcall (fC 70) [(.t 10),(.t 14),(.t 18)]),mV 9 19,oP 20 (.extr 0 (.t 9)),oP 21 (.extr 1 (.t 9)),mV 7 20,mV 8 21])
 (.seq (.ops [mV 22 8,oP 23 (.bin .eql (.t 22) (iC 4)),mV 6 23])
 .ret)))
theorem e121:Ent 121 24 [] [.t 6] k121:=ent Tryz.func121
end
section
attribute [local irreducible] ACall PCall KL
theorem p55g (f:List Nat) (n:Nat) (hf:Ok f n) (l:List Nat) (hl:∀ x∈l,x<n) (h1:l.length≤1000):Pure Tryz.prog 55 [.agg (ints (mp f)),.list (ints (nz l))] (.list (ints (nz (l.map fun x=>f.getD x 0)))):=by
 have hlf:=hf.mp_len
 have h5:=hf.le
 have hnl:=nz_len l
 refine e55 (by simp) fun _ _=>?_
 simp only [k55,argEnv,hlf,go_sem]
 refine KL_ind k55_b0.eq_1 (fun x:Nat=>[(2,.fptr (ints (mp f)) 0),(5,nref 0 x),(8,.list (ints (nz l))),(9,.int .i64 l.length),(10,.int .i64 x)]) (fun x=>nhp [.arr (x - 1) 2 1 (ints (nz ((l.map fun x=>f.getD x 0).take x)))] x) (fun x=>x≤l.length) (fun x=>l.length - x) [2,5,8,9,10] 0 (by simp [keep,hnl,nref]) (by rfl) (Nat.zero_le _) fun x hx ih=>?_
 try simp only [hlf,hnl,go_sem]
 refine ⟨fun h1=>?_,fun h1=>?_⟩
 ·have hxl:x<l.length:=by omega
  have hxn:=hl _ (List.getElem_mem hxl)
  have hq0:(nz l).getD x 0=(l[x]:Int):=by simp [nz,List.getD_eq_getElem?_getD,hxl]
  have hqt:(l[x]:Int).toNat=l[x]:=by omega
  rw [hq0,hqt]
  have e1:nz ((l.map fun x=>f.getD x 0).take (x+1))=nz ((l.map fun x=>f.getD x 0).take x) ++ [(f.getD l[x] 0:Int)]:=by
   rw [List.take_succ_eq_append_getElem (by simpa using hxl)]
   simp [nz]
  have hll:(nz ((l.map fun x=>f.getD x 0).take x)).length=x:=by rw [nz_len,List.length_take,List.length_map]; omega
  rcases x with _ | x
  ·try simp only [go_sem]
   refine ⟨by omega,fun _=>⟨by omega,by omega,fun _=>⟨by omega,ih 1 (by omega) (by omega) _ _ (by simp [keep,nref]) ?_⟩⟩⟩
   rw [show (0:Nat)+1=1 from rfl] at e1
   rw [nhp_pos (by omega),e1]; rfl
  ·try simp only [hll,go_sem]
   refine ⟨by omega,fun _=>⟨by omega,by omega,fun _=>⟨⟨by omega,Nat.le_refl _,by omega⟩,by omega,ih (x+1+1) (by omega) (by omega) _ _ (by simp [keep,nref]) ?_⟩⟩⟩
   rw [nhp_pos (by omega),e1,List.take_of_length_le (by omega)]
   rfl
 ·obtain rfl:x=l.length:=by omega
  rw [List.take_of_length_le (l:=l.map _) (by simp)]
  rcases hc:l.length with _ | y
  ·obtain rfl:=List.eq_nil_of_length_eq_zero hc
   exact Kv.Fin.freeze .nils ⟨rfl,rfl⟩
  ·rw [nref_succ,nhp_succ]
   exact Kv.Fin.freeze (Imm.refn rfl (by simp [nz,hc])) ⟨rfl,rfl⟩
theorem p141 (m q:PV) [Still m] [Still q] (la:List Nat) (hL:la.length≤1048576) (n:Nat) (p:List Int) (hp:two n n p):Pure Tryz.prog 141 [.list (ints p),.fptr [.fptr [m,q,.list (ints (nz la))] 0] 0] (.bool (dfr la la p)):=by
 obtain ⟨u,v,hu,hv,rfl⟩:=hp
 have h0:([(u:Int),(v:Int)]).getD 0 0=(u:Int):=rfl
 have h1:([(u:Int),(v:Int)]).getD 1 0=(v:Int):=rfl
 have hd:dfr la la [(u:Int),(v:Int)]=(decide (u∈la) != decide (v∈la)):=by simp [dfr]
 rw [hd]
 refine e141 (by simp) fun _ _=>?_
 simp only [k141,argEnv,go_sem]
 try simp only [OpK_eq,HKv,h0,h1,go_sem]
 refine (p50 m q la hL u).pgo ?_
 try simp only [OpK_eq,HKv,h0,h1,go_sem]
 refine (p50 m q la hL v).pgo ?_
 try simp only [OpK_eq,HKv,h0,h1,go_sem]
 exact Kv.Fin.still ⟨rfl,rfl⟩
def apV (o:Option (List Int)):PV:=match o with
 | some w=>.tup [.list (ints w),.int .i64 0]
 | none=>.tup [.nils,.int .i64 4]
theorem p70 (fs:List (List Nat)) (n:Nat) (hf:∀ f∈fs,Ok f n) (h5:n≤5) (hfl:fs.length≤1000) (q0:PV) [Still q0] (la:List Nat) (hL:la.length≤1048576) (p q:Nat) (hp:p<n) (hq:q<n) :
  Pure Tryz.prog 70 [.fptr [.list (aggs (fs.map mp)),q0,.list (ints (nz la))] 0,.int .i64 p,.int .i64 q] (apV (fwp fs fs la la p q)):=by
 have hpq:two n n [(p:Int),(q:Int)]:=⟨p,q,hp,hq,rfl⟩
 have hbq:∀ i,(bq fs ldp (fun (_:Unit) _=>()) ([([(p:Int),(q:Int)],[])],()) i).1=pq fs fs p q i:=bq_pq fs p q
 have hFW:=p54 fs n hf hfl 55 ldp (two n n) (fun p hp=>by obtain ⟨u,v,_,_,rfl⟩:=hp; simp) (fun f hff p hp=>by
   obtain ⟨u,v,hu,hv,rfl⟩:=hp
   exact ⟨f.getD u 0,f.getD v 0,(hf f hff).get' u,(hf f hff).get' v,by simp [ldp]⟩) (fun f hff p hp=>by
   obtain ⟨u,v,hu,hv,rfl⟩:=hp
   have:=p55g f n (hf f hff) [u,v] (fun x hx=>by simp only [List.mem_cons,List.not_mem_nil,or_false] at hx; rcases hx with rfl | rfl <;> assumption) (by simp)
   simpa [nz,ldp] using this)
  141 [.fptr [.fptr [.list (aggs (fs.map mp)),q0,.list (ints (nz la))] 0] 0] (dfr la la) (fun p hp=>p141 _ q0 la hL n p hp) [(p:Int),(q:Int)] hpq 25 (by omega) (fun i=>by rw [hbq]; exact pq_len hf hf rfl hp hq h5 h5 i)
  (fun v s=>∃ x r,v = .tup [x,.int .i64 r]∧((∃ w,fwp fs fs la la p q=some w∧r=0∧OwnI 2 s 0 s.length x w)∨(fwp fs fs la la p q=none∧r=4∧x = .nils)))
  (fun i hi hit hno x s hx hs=>?_) (fun i hi hno=>?_)
 rotate_left
 ·have hFH:FH fs fs la la p q i:=by
   have hlen:(pq fs fs p q i).length=(bq fs ldp (fun (_:Unit) _=>()) ([([(p:Int),(q:Int)],[])],()) i).1.length:=by rw [hbq]
   refine ⟨by omega,?_,fun j hj hjl=>?_⟩
   ·rw [← hbq,List.getD_eq_getElem?_getD,List.getElem?_eq_getElem hi]; exact hit
   ·rw [← hbq] at hjl ⊢
    rw [List.getD_eq_getElem?_getD,List.getElem?_eq_getElem hjl]; exact hno j hjl hj
  refine ⟨x,0,rfl,.inl ⟨_,fwp_some hFH,rfl,?_⟩⟩
  rw [← hbq,List.getD_eq_getElem?_getD,List.getElem?_eq_getElem hi]; exact hx
 ·rw [hbq] at hi
  exact ⟨.nils,4,rfl,.inr ⟨fwp_none hi fun j hj hjl=>by
   rw [← hbq] at hjl ⊢
   rw [List.getD_eq_getElem?_getD,List.getElem?_eq_getElem hjl]; exact hno j hjl hj,rfl,rfl⟩⟩
 have hP:Pure Tryz.prog 54 [.list (aggs (fs.map mp)),.list (ints [(p:Int),(q:Int)]),.fn (.func 55) [] [],.fn (.func 141) [] [.fptr [.fptr [.list (aggs (fs.map mp)),q0,.list (ints (nz la))] 0] 0]] (apV (fwp fs fs la la p q)) :=
  ACall.ret hFW fun v s ⟨x,r,hv,h⟩=>by
   subst hv
   rcases h with ⟨w,e,rfl,ho⟩ | ⟨e,rfl,rfl⟩
   ·rw [e]; exact Kv.Fin.freeze (Imm.tupL (.cons ho.imm (.cons (.int _ _ _) (.nil _)))) ⟨rfl,rfl⟩
   ·rw [e]; exact Kv.Fin.still ⟨rfl,rfl⟩
 have ei:[PV.int .i64 p,.int .i64 q]=ints [(p:Int),(q:Int)]:=rfl
 generalize fwp fs fs la la p q=o at *
 cases o with
 | none =>
  simp only [apV] at hP ⊢
  refine e70 (by simp) fun _ _=>?_
  simp only [k70,argEnv,go_sem]
  try simp only [OpK_eq,HKv,ei,go_sem]
  refine hP.give (id:=0) rfl (.cons Imm.still (.cons (Imm.refn (l:=[(p:Int),(q:Int)]) (solo_get (o:=.arr 0 2 1 (ints [(p:Int),(q:Int)])) rfl) rfl) (.cons Imm.still (.cons Imm.still (.nil _))))) ?_
  try simp only [OpK_eq,HKv,go_sem]
  exact Kv.Fin.still ⟨rfl,rfl⟩
 | some w =>
  simp only [apV] at hP ⊢
  refine e70 (by simp) fun _ _=>?_
  simp only [k70,argEnv,go_sem]
  try simp only [OpK_eq,HKv,ei,go_sem]
  refine hP.give (id:=0) rfl (.cons Imm.still (.cons (Imm.refn (l:=[(p:Int),(q:Int)]) (solo_get (o:=.arr 0 2 1 (ints [(p:Int),(q:Int)])) rfl) rfl) (.cons Imm.still (.cons Imm.still (.nil _))))) ?_
  try simp only [OpK_eq,HKv,go_sem]
  exact Kv.Fin.still ⟨rfl,rfl⟩
theorem p121 (fs:List (List Nat)) (n:Nat) (hf:∀ f∈fs,Ok f n) (h5:n≤5) (hfl:fs.length≤1000) (q0:PV) [Still q0] (la:List Nat) (hL:la.length≤1048576) (od:List Nat) (ho:∀ x∈od,x<n) (hol:od.length≤1000) (i k:Nat) (hi:i<od.length) (hk:k<od.length) :
  Pure Tryz.prog 121 [.int .i64 i,.int .i64 k,.fptr [.fptr [.list (aggs (fs.map mp)),q0,.list (ints (nz la))] 0] 0,.fptr [.list (ints (nz od))] 0] (.bool (smB fs la (od.getD i 0) (od.getD k 0))):=by
 have hgi:(nz od).getD i 0=(od.getD i 0:Int):=by simp [nz,List.getD_eq_getElem?_getD,hi]
 have hgk:(nz od).getD k 0=(od.getD k 0:Int):=by simp [nz,List.getD_eq_getElem?_getD,hk]
 have h1:od.getD i 0<n:=by rw [List.getD_eq_getElem?_getD,List.getElem?_eq_getElem hi]; exact ho _ (List.getElem_mem hi)
 have h2:od.getD k 0<n:=by rw [List.getD_eq_getElem?_getD,List.getElem?_eq_getElem hk]; exact ho _ (List.getElem_mem hk)
 have hnl:=nz_len od
 have hA:=p70 fs n hf h5 hfl q0 la hL _ _ h1 h2
 rw [fwp_smB hf h1 h2 h5]
 generalize fwp fs fs la la (od.getD i 0) (od.getD k 0)=o at *
 refine e121 (by simp) fun _ _=>?_
 simp only [k121,argEnv,go_sem]
 try simp only [OpK_eq,HKv,hgi,hgk,hnl,go_sem]
 refine ⟨by omega,fun _=>⟨by omega,fun _=>?_⟩⟩
 cases o with
 | none =>
  simp only [apV] at hA
  refine hA.fgo ?_
  try simp only [OpK_eq,HKv,go_sem]
  exact Kv.Fin.still ⟨rfl,rfl⟩
 | some w =>
  simp only [apV] at hA
  refine hA.fgo ?_
  try simp only [OpK_eq,HKv,go_sem]
  exact Kv.Fin.still ⟨rfl,rfl⟩
end
end
section
section
set_option maxRecDepth 100000
def k120_b0:KC:=(.seq (.seq (.ops [mV 15 8,mV 16 7,oP 17 (.bin .lss (.t 15) (.t 16)),mV 18 17,⟨(some 19),some (18,true),.mv (.t 1)⟩,⟨(some 20),some (18,true),.mv (.t 8)⟩,⟨(some 21),some (18,true),.mv (.t 7)⟩,⟨(some 22),some (18,true),.call (.t 19) [(.t 20),(.t 21)]⟩,⟨(some 23),some (18,true),.not (.t 22)⟩,oP 24 (.pick (.t 18) (.t 23) (.c (.bool false)))])
 (.cond (.t 24) .skip (.exit 2)))
 (.block 3 (.ops [mV 25 8,oP 26 (.bin .add (.t 25) (iC 1)),mV 8 26])))
def k120_b1:KC:=(.seq (.ops [oP 13 (.bin .lss (.t 12) (.t 11))])
 (.seq (.cond (.t 13) .skip (.exit 0))
 (.seq (.block 1 (.seq (.ops [mV 14 12,mV 7 14])
 (.seq (.ops [oP 8 (.mv (iC 0))])
 (.seq (.block 2 (.loop k120_b0))
 (.seq (.ops [mV 27 8,mV 28 7,oP 29 (.bin .lss (.t 27) (.t 28))])
 (.cond (.t 29) (.ops [mV 30 5,mV 31 7,mV 32 5,mV 33 8,oP 34 (.idxS 1 (.t 32) (.t 33)),oP 35 (.load false 1 (.t 34)),oP 36 (.idxS 1 (.t 30) (.t 31)),⟨none,none,.store 1 (.t 36) (.t 35)⟩]) (.seq (.ops [mV 37 5,mV 38 7,mV 39 6,oP 40 (.idxS 1 (.t 37) (.t 38)),⟨none,none,.store 1 (.t 40) (.t 39)⟩])
 (.ops [mV 41 6,oP 42 (.bin .add (.t 41) (iC 1)),mV 6 42]))))))))
 (.ops [oP 43 (.bin .add (.t 12) (iC 1)),mV 12 43]))))
def k120:KC:=(.seq (.ops [oP 4 (.mv (.c (.nils)))])
 (.seq (.ops [mV 9 0,oP 10 (.mks 2 1 (.int .i64 0) (.t 9) (.t 9)),mV 5 10])
 (.seq (.ops [oP 6 (.mv (iC 0))])
 (.seq (.seq (.ops [mV 11 0,oP 12 (.mv (iC 0))])
 (.block 0 (.loop k120_b1)))
 (.seq (.ops [mV 44 5,mV 4 44])
 .ret)))))
theorem e120:Ent 120 45 [] [.t 4] k120:=ent Tryz.func120
end
section
attribute [local irreducible] ACall PCall KL
theorem nmA_facts (same:Nat→Nat→Bool):∀ i,(nmA same i).1.length=i∧(nmA same i).2≤i
 | 0=>⟨rfl,Nat.le_refl _⟩
 | i+1=>by
  obtain ⟨h1,h2⟩:=nmA_facts same i
  rw [nmA]
  split
  ·exact ⟨by simp [h1],by show (nmA same i).2≤i+1; omega⟩
  ·exact ⟨by simp [h1],by show (nmA same i).2+1≤i+1; omega⟩
theorem nmA_lt (same:Nat→Nat→Bool):∀ i,∀ x∈(nmA same i).1,x≤i
 | 0,x,h=>by simp [nmA] at h
 | i+1,x,h=>by
  have ih:=nmA_lt same i
  rw [nmA] at h
  split at h
  ·rcases List.mem_append.1 h with h | h
   ·have:=ih x h; omega
   ·rw [List.mem_singleton] at h
    subst h
    rename_i k hk
    have hki:k<i:=List.mem_range.1 (List.mem_of_find?_eq_some hk)
    rw [List.getD_eq_getElem?_getD,List.getElem?_eq_getElem (by rw [(nmA_facts same i).1]; exact hki)]
    have:=ih _ (List.getElem_mem (by rw [(nmA_facts same i).1]; exact hki))
    simp only [Option.getD_some]; omega
  ·rcases List.mem_append.1 h with h | h
   ·have:=ih x h; omega
   ·rw [List.mem_singleton] at h
    have:=(nmA_facts same i).2; omega
theorem nmA_some {same:Nat→Nat→Bool} {x k:Nat} (h:(List.range x).find? (fun k=>same k x)=some k):nmA same (x+1)=((nmA same x).1 ++ [(nmA same x).1.getD k 0],(nmA same x).2):=by rw [nmA,h]
theorem nmA_none {same:Nat→Nat→Bool} {x:Nat} (h:(List.range x).find? (fun k=>same k x)=none):nmA same (x+1)=((nmA same x).1 ++ [(nmA same x).2],(nmA same x).2+1):=by rw [nmA,h]
theorem set_next (a:List Nat) (m:Nat) (v:Nat):(nz a ++ List.replicate (m+1) 0).set a.length (v:Int)=nz (a ++ [v]) ++ List.replicate m 0:=by
 rw [List.set_append_right _ _ (by rw [nz_len]; exact Nat.le_refl _),nz_len,Nat.sub_self,List.replicate_succ,List.set_cons_zero]
 simp [nz]
theorem p120 (n:Nat) (hn:n≤1000) (fid:FuncId) (caps:List PV) [hc:StillL caps] (same:Nat→Nat→Bool) (hp:∀ i k,i<n→k<n→Pure Tryz.prog fid (.int .i64 i :: .int .i64 k :: caps) (.bool (same i k))) :
  ACall Tryz.prog 120 [.int .i64 n,.fn (.func fid) [] caps] [] (fun v s=>v = .ref 0 0 0 n∧s = [.arr 0 2 1 (ints (nz (nmA same n).1))]):=by
 have hrep:List.replicate n (PV.int .i64 0)=ints (nz ([]:List Nat) ++ List.replicate n 0):=by simp [ints,nz]
 refine e120 (by simp) fun _ _=>?_
 simp only [k120,argEnv,go_sem]
 try simp only [OpK_eq,HKv,go_sem]
 refine ⟨by omega,?_⟩
 refine KL_ind k120_b1.eq_1 (fun x:Nat=>[(1,.fn (.func fid) [] caps),(5,.ref 0 0 0 n),(6,.int .i64 (nmA same x).2),(11,.int .i64 n),(12,.int .i64 x)]) (fun x=>[.arr 0 2 1 (ints (nz (nmA same x).1 ++ List.replicate (n - x) 0))]) (fun x=>x≤n) (fun x=>n - x) [1,5,6,11,12] 0 (by simp [keep,nmA]) (by simp [nmA,ints,nz]) (Nat.zero_le _) fun x hx ih=>?_
 obtain ⟨hl,h2⟩:=nmA_facts same x
 have hs1:=fun k=>nmA_some (same:=same) (x:=x) (k:=k)
 have hs2:=nmA_none (same:=same) (x:=x)
 have hle:=nmA_lt same x
 have hA:∀ v:Nat,x<n→(nz (nmA same x).1 ++ List.replicate (n - x) 0).set x (v:Int)=nz ((nmA same x).1 ++ [v]) ++ List.replicate (n - (x+1)) 0:=fun v hxn=>by
  have:=set_next (nmA same x).1 (n - (x+1)) v
  rwa [hl,show n - (x+1)+1=n - x by omega] at this
 have hG:∀ k,k<x→(nz (nmA same x).1 ++ List.replicate (n - x) 0).getD k 0=((nmA same x).1.getD k 0:Int):=fun k hk=>by
  rw [List.getD_eq_getElem?_getD,List.getElem?_append_left (by rw [nz_len]; omega),List.getD_eq_getElem?_getD]
  simp [nz,hl,hk]
 have hLn:(nz (nmA same x).1 ++ List.replicate (n - x) 0).length=n:=by rw [List.length_append,nz_len,List.length_replicate]; omega
 generalize hN:nmA same x=N at *
 obtain ⟨a,nx⟩:=N
 simp only at hl h2 hle hs1 hs2 hA hG hLn ⊢
 generalize hH:nz a ++ List.replicate (n - x) 0=H at *
 try simp only [OpK_eq,HKv,go_sem]
 refine ⟨fun h1=>?_,fun h1=>?_⟩
 ·have hxn:x<n:=by omega
  refine KL_ind k120_b0.eq_1 (fun k:Nat=>[(1,.fn (.func fid) [] caps),(5,.ref 0 0 0 n),(6,.int .i64 nx),(7,.int .i64 x),(8,.int .i64 k),(11,.int .i64 n),(12,.int .i64 x)]) (fun _=>[.arr 0 2 1 (ints H)]) (fun k=>k≤x∧∀ j,j<k→same j x=false) (fun k=>x - k) [1,5,6,7,8,11,12] 0 (by simp [keep]) rfl ⟨Nat.zero_le _,fun j h=>by omega⟩ fun k ⟨hk,hno⟩ ihk=>?_
  try simp only [OpK_eq,HKv,go_sem]
  refine ⟨fun h3=>?_,fun h3=>?_⟩
  ·have hkx:k<x:=by omega
   refine (hp k x (by omega) hxn).go ?_
   cases hs:same k x with
   | true =>
    have hfind:(List.range x).find? (fun k=>same k x)=some k:=by
     rw [List.find?_range_eq_some]
     exact ⟨hs,by simpa using hkx,fun j hj=>by simp [hno j hj]⟩
    have hsucc:=hs1 k hfind
    have hgk:=hG k hkx
    have hAk:=hA (a.getD k 0) hxn
    try simp only [OpK_eq,HKv,hLn,hgk,go_sem]
    refine ⟨fun _=>⟨⟨by omega,Nat.le_refl _⟩,by omega,fun _=>⟨⟨by omega,Nat.le_refl _⟩,hxn,fun _=>⟨by omega,ih (x+1) (by omega) (by omega) _ _ (by simp [keep,hsucc]) ?_⟩⟩⟩,fun h=>absurd h (by omega)⟩
    rw [hsucc,hAk]
   | false =>
    try simp only [OpK_eq,HKv,go_sem]
    refine ⟨by omega,ihk (k+1) ⟨by omega,fun j hj=>?_⟩ (by omega) _ _ (by simp [keep]) rfl⟩
    by_cases e:j=k
    ·subst e; exact hs
    ·exact hno j (by omega)
  ·obtain rfl:k=x:=by omega
   have hfind:(List.range k).find? (fun j=>same j k)=none:=by
    rw [List.find?_range_eq_none]
    exact fun j hj=>by simp [hno j hj]
   have hsucc:=hs2 hfind
   have hAk:=hA nx hxn
   try simp only [OpK_eq,HKv,hLn,go_sem]
   refine ⟨fun h=>absurd h (by omega),fun _=>⟨⟨by omega,Nat.le_refl _⟩,hxn,fun _=>⟨by omega,by omega,ih (k+1) (by omega) (by omega) _ _ (by simp [keep,hsucc]) ?_⟩⟩⟩
   rw [hsucc,hAk]
 ·obtain rfl:x=n:=by omega
  have e:H=nz a:=hH.symm.trans (by rw [Nat.sub_self]; simp)
  rw [e]
  exact Kv.Fin.now ⟨rfl,by rw [hN]⟩
end
end
section
section
variable {e:TypeId} {σ:Heap} {lo hi:Nat} {v:PV} {l:List (List Int)}
theorem OwnA.append (h:OwnA e σ 0 σ.length v l) (τ:Heap):OwnA e (σ ++ τ) 0 (σ ++ τ).length v l:=by
 cases h with
 | nil=>exact .nil
 | own id ver l post h h6 h1=>exact .own id ver l post ((List.getElem?_append_left h1.2).trans h) h6 ⟨h1.1,by rw [List.length_append]; omega⟩
theorem Free.boxI (m:List Int):Free [.box (ints m)]:=fun o ho=>by
 simp only [List.mem_singleton] at ho; subst ho
 intro c hc
 exact (Plain.ints m c hc).fr
theorem Free.set {σ:Heap} (h:Free σ) (i:Nat) {o:AObj} (ho:AObj.free o):Free (σ.set i o):=fun p hp=>by
 rcases List.mem_or_eq_of_mem_set hp with hp | rfl
 ·exact h p hp
 ·exact ho
theorem OwnA.push (h:OwnA e σ 0 σ.length v l) (hf:Free σ) (m:List Int) (hm:m.length=6) (hn:l.length<4294967296) {K:PV→Heap→Prop}
  (hK:∀ v' σ',OwnA e σ' 0 σ'.length v' (l ++ [m])→Free σ'→K v' σ'):aApp e 6 v (.list [.agg (ints m)]) σ K:=by
 have hok:okL 6 [.agg (ints m)]=True:=by
  have:=okL_aggs 6 [m]
  simp only [List.mem_singleton,forall_eq,hm] at this
  simpa [aggs] using this
 cases h with
 | nil =>
  simp only [aApp_nils,aNews_list,hok,true_and,AppN_def]
  refine ⟨by simp,hK _ _ ?_ (hf.append (Free.aggs 0 e 6 [m]))⟩
  have:=OwnA.own (e:=e) (σ:=σ ++ [AObj.arr 0 e 6 (aggs [m])]) (lo:=0) (hi:=(σ ++ [AObj.arr 0 e 6 (aggs [m])]).length) σ.length 0 [m] [] (by simp) (by simpa using hm) ⟨Nat.zero_le _,by simp⟩
  exact this
 | own id ver l post h h6 h1 =>
  simp only [aApp_ref,h,AppR_arr,aNews_list,hok,true_and,AppM_def]
  have e1:(aggs (l ++ post)).take l.length ++ [PV.agg (ints m)]=aggs (l ++ [m]):=by
   rw [aggs_take,List.take_left']
   ·simp [aggs]
   ·rfl
  rw [e1]
  refine ⟨⟨by simp [aggs_length],by simp; omega⟩,hK _ _ ?_ (Free.set hf id (free_aggs _))⟩
  have:=OwnA.own (e:=e) (σ:=σ.set id (AObj.arr (ver+1) e 6 (aggs (l ++ [m])))) (lo:=0) (hi:=(σ.set id (AObj.arr (ver+1) e 6 (aggs (l ++ [m])))).length) id (ver+1) (l ++ [m]) [] (by rw [List.append_nil]; exact List.getElem?_set_self h1.2) (fun r hr=>by
   rcases List.mem_append.1 hr with hr | hr
   ·exact h6 r hr
   ·simp only [List.mem_singleton] at hr; rw [hr]; exact hm) ⟨Nat.zero_le _,by simpa using h1.2⟩
  simpa using this
end
end
section
section
set_option maxRecDepth 100000
def k47_b0:KC:=(.seq (.ops [oP 42 (.bin .lss (.t 41) (.t 40))])
 (.seq (.cond (.t 42) .skip (.exit 2))
 (.seq (.block 3 (.seq (.ops [mV 43 41,mV 10 43])
 (.seq (.draw [oP 44 (.load false 1 (.t 3)),mV 45 4,mV 46 10,oP 50 (.fieldA 1 (.t 8)),oP 47 (.pcall (fC 84) [(.t 45),(.t 46)]),oP 48 (.idxS 1 (.t 44) (.t 47)),oP 49 (.load false 1 (.t 48)),oP 51 (.idxA 5 1 (.t 50) (.t 49)),oP 52 (.load false 1 (.t 51)),mV 11 52])
 (.ops [mV 53 10,mV 54 4,oP 55 (.load false 1 (.t 3)),mV 56 11,oP 57 (.call (fC 84) [(.t 55),(.t 56)]),oP 58 (.idxS 1 (.t 54) (.t 57)),oP 59 (.load false 1 (.t 58)),oP 60 (.fieldA 1 (.t 9)),oP 61 (.idxA 5 1 (.t 60) (.t 53)),⟨none,none,.store 1 (.t 61) (.t 59)⟩]))))
 (.ops [oP 62 (.bin .add (.t 41) (iC 1)),mV 41 62]))))
def k47_b1:KC:=(.seq (.ops [oP 35 (.bin .lss (.t 34) (.t 33))])
 (.seq (.cond (.t 35) .skip (.exit 0))
 (.seq (.block 1 (.seq (.ops [oP 36 (.idxS 6 (.t 32) (.t 34)),oP 37 (.load true 6 (.t 36)),oP 8 (.alloc [.int .i64 0,.int .i64 0,.int .i64 0,.int .i64 0,.int .i64 0,.int .i64 0]),⟨none,none,.store 6 (.t 8) (.t 37)⟩])
 (.seq (.ops [mV 38 5,oP 39 (.build [.int .i64 0,.int .i64 0,.int .i64 0,.int .i64 0,.int .i64 0,.int .i64 0] [(0,1,(.t 38))]),oP 9 (.alloc [.int .i64 0,.int .i64 0,.int .i64 0,.int .i64 0,.int .i64 0,.int .i64 0]),⟨none,none,.store 6 (.t 9) (.t 39)⟩])
 (.seq (.seq (.ops [mV 40 5,oP 41 (.mv (iC 0))])
 (.block 2 (.loop k47_b0)))
 (.ops [oP 63 (.fieldA 0 (.t 6)),oP 64 (.load false 1 (.t 63)),oP 65 (.load true 6 (.t 9)),oP 66 (.bsl true 48 6 [(.t 65)]),oP 67 (.app (.t 64) (.t 66) 48 6),oP 68 (.fieldA 0 (.t 6)),⟨none,none,.store 1 (.t 68) (.t 67)⟩])))))
 (.ops [oP 69 (.bin .add (.t 34) (iC 1)),mV 34 69]))))
def k47_b2:KC:=(.seq (.ops [oP 72 (.bin .lss (.t 71) (.t 70))])
 (.seq (.cond (.t 72) .skip (.exit 4))
 (.seq (.block 5 (.seq (.ops [mV 73 71,mV 12 73])
 (.seq (.draw [oP 74 (.load false 1 (.t 1)),oP 75 (.load false 1 (.t 3)),mV 76 4,mV 77 12,oP 78 (.pcall (fC 84) [(.t 76),(.t 77)]),oP 79 (.idxS 1 (.t 75) (.t 78)),oP 80 (.load false 1 (.t 79)),oP 81 (.pcall (fC 50) [(.t 74),(.t 80)])])
 (.cond (.t 81) (.ops [oP 82 (.fieldA 2 (.t 6)),oP 83 (.load false 1 (.t 82)),mV 84 12,oP 85 (.bsl true 2 1 [(.t 84)]),oP 86 (.app (.t 83) (.t 85) 2 1),oP 87 (.fieldA 2 (.t 6)),⟨none,none,.store 1 (.t 87) (.t 86)⟩]) .skip))))
 (.ops [oP 88 (.bin .add (.t 71) (iC 1)),mV 71 88]))))
def k47:KC:=(.seq (.ops [oP 1 (.box true (.t 0)),oP 2 (.alloc [.nils,.int .i64 0,.nils])])
 (.seq (.draw [oP 13 (.load false 1 (.t 1)),oP 14 (.nilck (.t 13)),oP 15 (.fieldA 0 (.t 14)),oP 16 (.load false 1 (.t 15)),oP 17 (.load false 1 (.t 1)),oP 18 (.nilck (.t 17)),oP 19 (.fieldA 1 (.t 18)),oP 20 (.load false 1 (.t 19)),oP 21 (.pcall (fC 74) [(.t 16),(.t 20)]),oP 3 (.alloc [.nils]),⟨none,none,.store 1 (.t 3) (.t 21)⟩])
 (.seq (.ops [oP 22 (.load false 1 (.t 3)),oP 23 (.len false (.t 22)),oP 24 (.mkfn (.func 121) [] [(.t 1),(.t 3)]),oP 25 (.call (fC 120) [(.t 23),(.t 24)]),mV 4 25])
 (.seq (.ops [mV 26 4,oP 27 (.call (fC 83) [(.t 26)]),mV 5 27])
 (.seq (.ops [oP 28 (.build [.nils,.int .i64 0,.nils] []),oP 6 (.alloc [.nils,.int .i64 0,.nils]),⟨none,none,.store 3 (.t 6) (.t 28)⟩])
 (.seq (.seq (.ops [oP 29 (.load false 1 (.t 1)),oP 30 (.nilck (.t 29)),oP 31 (.fieldA 0 (.t 30)),oP 32 (.load false 1 (.t 31)),oP 33 (.len false (.t 32)),oP 34 (.mv (iC 0))])
 (.block 0 (.loop k47_b1)))
 (.seq (.seq (.ops [mV 70 5,oP 71 (.mv (iC 0))])
 (.block 4 (.loop k47_b2)))
 (.seq (.ops [oP 89 (.load true 3 (.t 6)),⟨none,none,.store 3 (.t 2) (.t 89)⟩])
 .ret))))))))
theorem e47:Ent 47 90 [1,66,85] [.cell 2 true 3] k47:=ent Tryz.func47
end
section
attribute [local irreducible] ACall PCall KL
theorem p74P (fs:List (List Nat)) (n:Nat) (hf:∀ f∈fs,Ok f n) (hn5:n≤5) (hfl:fs.length≤1000) (q:Nat) (hq:q<n):Pure Tryz.prog 74 [.list (aggs (fs.map mp)),.int .i64 q] (.list (ints (nz (ord fs q)))) :=
 p74 fs n hf hfl q hq 5 (by omega) (fun i=>Nat.le_trans (bl_len hf hq i) hn5) _ fun i hi=>by
  rw [rch_ord hf hn5 hq hi]
  exact ⟨rfl,rfl⟩
noncomputable def lsL (fs:List (List Nat)) (la:List Nat) (q:Nat):List Nat:=(List.range (kF fs la q).length).filter fun c=>decide ((ord fs q).getD ((kF fs la q).getD c 0) 0∈la)
noncomputable def lsR (fs:List (List Nat)) (la:List Nat) (q:Nat) (f:List Nat):List Nat:=(kF fs la q).map fun i=>(kN fs la q).getD ((ord fs q).idxOf (f.getD ((ord fs q).getD i 0) 0)) 0
def GrM (σ:Heap) (v:PV) (l:List (List Int)):Prop:=(l = []∧v = .nils)∨∃ id ver,v = .ref id ver 0 l.length∧σ[id]? = some (.arr ver 48 6 (aggs l))∧3<id
theorem GrM.keep {σ σ':Heap} {v:PV} {l:List (List Int)} (h:GrM σ v l) (hk:∀ id,id < σ.length→3<id→σ'[id]? = σ[id]?):GrM σ' v l:=by
 rcases h with h | ⟨id,ver,h1,h2,h3⟩
 ·exact .inl h
 ·exact .inr ⟨id,ver,h1,(hk id (List.getElem?_eq_some_iff.1 h2).1 h3).trans h2,h3⟩
theorem GrM.cs {σ:Heap} {v:PV} {l:List (List Int)} (h:GrM σ v l):v.cs = [v]∧v.ok=true:=by
 rcases h with ⟨_,rfl⟩ | ⟨id,ver,rfl,_,_⟩ <;> exact ⟨rfl,rfl⟩
theorem GrM.imm {σ:Heap} {v:PV} {l:List (List Int)} (h:GrM σ v l):Imm σ v (.list (aggs l)):=by
 rcases h with ⟨rfl,rfl⟩ | ⟨id,ver,rfl,h,_⟩
 ·exact .nils
 ·exact .refa h
theorem GrM.push {σ:Heap} {v:PV} {l:List (List Int)} (h:GrM σ v l) (m:List Int) (hm:m.length=6) (hn:l.length≤1000) (h4:3 < σ.length) {K:PV→Heap→Prop}
  (hK:∀ v' σ',GrM σ' v' (l ++ [m])→(∀ id,id<4→σ'[id]? = σ[id]?)→σ.length≤σ'.length→K v' σ'):aApp 48 6 v (.list [.agg (ints m)]) σ K:=by
 have hok:okL 6 [.agg (ints m)]=True:=by
  have:=okL_aggs 6 [m]
  simp only [List.mem_singleton,forall_eq,hm] at this
  simpa [aggs] using this
 rcases h with ⟨rfl,rfl⟩ | ⟨id,ver,rfl,h,h3⟩
 ·simp only [aApp_nils,aNews_list,hok,true_and,AppN_def]
  refine ⟨by simp,hK _ _ (.inr ⟨σ.length,0,rfl,by simp [aggs],h4⟩) (fun id hid=>List.getElem?_append_left (by omega)) (by simp)⟩
 ·have hlt:=(List.getElem?_eq_some_iff.1 h).1
  simp only [aApp_ref,h,AppR_arr,aNews_list,hok,true_and,AppM_def]
  have e1:(aggs l).take l.length ++ [PV.agg (ints m)]=aggs (l ++ [m]):=by
   rw [List.take_of_length_le (Nat.le_of_eq (aggs_length l))]
   simp [aggs]
  rw [e1]
  refine ⟨⟨by simp [aggs_length],by simp; omega⟩,hK _ _ (.inr ⟨id,ver+1,by simp,List.getElem?_set_self hlt,h3⟩) (fun j hj=>List.getElem?_set_ne (by omega)) (by simp)⟩
def GrN (σ:Heap) (lo:Nat) (v:PV) (l:List Int):Prop:=(l = []∧v = .nils)∨∃ id ver,v = .ref id ver 0 l.length∧σ[id]? = some (.arr ver 2 1 (ints l))∧lo≤id
theorem GrN.keep {σ σ':Heap} {lo:Nat} {v:PV} {l:List Int} (h:GrN σ lo v l) (hk:∀ id,id < σ.length→lo≤id→σ'[id]? = σ[id]?):GrN σ' lo v l:=by
 rcases h with h | ⟨id,ver,h1,h2,h3⟩
 ·exact .inl h
 ·exact .inr ⟨id,ver,h1,(hk id (List.getElem?_eq_some_iff.1 h2).1 h3).trans h2,h3⟩
theorem GrN.cs {σ:Heap} {lo:Nat} {v:PV} {l:List Int} (h:GrN σ lo v l):v.cs = [v]∧v.ok=true:=by
 rcases h with ⟨_,rfl⟩ | ⟨id,ver,rfl,_,_⟩ <;> exact ⟨rfl,rfl⟩
theorem GrN.imm {σ:Heap} {lo:Nat} {v:PV} {l:List Int} (h:GrN σ lo v l):Imm σ v (.list (ints l)):=by
 rcases h with ⟨rfl,rfl⟩ | ⟨id,ver,rfl,h,_⟩
 ·exact .nils
 ·exact .refi h
theorem GrN.push {σ:Heap} {lo:Nat} {v:PV} {l:List Int} (h:GrN σ lo v l) (x:Int) (hn:l.length≤1000) (h4:lo≤σ.length) {K:PV→Heap→Prop}
  (hK:∀ v' σ',GrN σ' lo v' (l ++ [x])→(∀ id,id<lo→σ'[id]? = σ[id]?)→σ.length≤σ'.length→K v' σ'):aApp 2 1 v (.list [.int .i64 x]) σ K:=by
 have hok:okL 1 [PV.int .i64 x]=True:=by simp [okL,PV.cs,PV.ok]
 rcases h with ⟨rfl,rfl⟩ | ⟨id,ver,rfl,h,h3⟩
 ·simp only [aApp_nils,aNews_list,hok,true_and,AppN_def]
  refine ⟨by simp,hK _ _ (.inr ⟨σ.length,0,rfl,by simp [ints],h4⟩) (fun id hid=>List.getElem?_append_left (by omega)) (by simp)⟩
 ·have hlt:=(List.getElem?_eq_some_iff.1 h).1
  simp only [aApp_ref,h,AppR_arr,aNews_list,hok,true_and,AppM_def]
  have e1:(ints l).take l.length ++ [PV.int .i64 x]=ints (l ++ [x]):=by
   rw [List.take_of_length_le (Nat.le_of_eq (ints_length l))]
   simp [ints]
  rw [e1]
  refine ⟨⟨by simp [ints_length],by simp; omega⟩,hK _ _ (.inr ⟨id,ver+1,by simp,List.getElem?_set_self hlt,h3⟩) (fun j hj=>List.getElem?_set_ne (by omega)) (by simp)⟩
theorem p47 (fs:List (List Nat)) (n:Nat) (hf:∀ f∈fs,Ok f n) (hn5:n≤5) (h0:0<fs.length) (hfl:fs.length≤1000) (q:Nat) (hq:q<n) (la:List Nat) (hL:la.length≤1048576) :
  Pure Tryz.prog 47 [.fptr [.list (aggs (fs.map mp)),.int .i64 q,.list (ints (nz la))] 0] (.agg [.list (aggs ((lsM fs la q).map mp)),.int .i64 0,.list (ints (nz (lsL fs la q)))]):=by
 obtain ⟨o1,o2,o3,o4,o5,o6⟩:=ord_ok hf hn5 hq
 have hcl:=p121 fs n hf hn5 hfl (.int .i64 q) la hL (ord fs q) o1 (by omega)
 have hnum:=p120 (ord fs q).length (by omega) 121 [.fptr [.fptr [.list (aggs (fs.map mp)),.int .i64 q,.list (ints (nz la))] 0] 0,.fptr [.list (ints (nz (ord fs q)))] 0] (fun i k=>smB fs la ((ord fs q).getD i 0) ((ord fs q).getD k 0)) hcl
 have hke:(nmA (fun i k=>smB fs la ((ord fs q).getD i 0) ((ord fs q).getD k 0)) (ord fs q).length).1=kN fs la q:=(cls_eq fs la (ord fs q)).1
 rw [hke] at hnum
 have hkl:=kN_len fs la q
 have hkF:=kF_le fs la q
 have hkp:=kF_pos (fs:=fs) (la:=la) (q:=q) o5
 have hmx:=kN_max (fs:=fs) (la:=la) (q:=q) o5
 have hon:=nz_len (ord fs q)
 have hkn:=nz_len (kN fs la q)
 have hmany:=p83 (nz (kN fs la q)) (by omega) (by omega) (fun k hk=>by obtain ⟨z,_,rfl⟩:=List.mem_map.1 hk; omega) (by omega)
 rw [hmx] at hmany
 refine e47 (by simp) fun _ _=>?_
 simp only [k47,argEnv,go_sem]
 try simp only [OpK_eq,HKv,go_sem]
 refine (p74P fs n hf hn5 hfl q hq).fgo ?_
 have hput1:∀ v,putC [PV.nils] 0 [v] = [v]:=fun v=>by unfold putC; first | rfl | (split <;> rfl) | simp
 try simp only [OpK_eq,HKv,hput1,hon,go_sem]
 refine ACall.lend hnum (.cons Imm.still (.cons (Imm.fnc _ (.cons Imm.still (.cons (Imm.ptr 1 0 [.list (ints (nz (ord fs q)))] [.list (ints (nz (ord fs q)))] rfl rfl (by simp [PV.ok]) (fun j c d hc hd=>by rw [hc] at hd; cases hd; have:=List.mem_of_getElem? hc; simp only [List.mem_singleton] at this; subst this; exact .still)) (.nil _)))) (.nil _))) fun v s ⟨hv,hs⟩=>?_
 subst hv; subst hs
 refine ⟨⟨free_ref _ _ _ _,Free.ints _ _ _ _⟩,?_⟩
 have hlN:(nz (kN fs la q)).length=(ord fs q).length:=by omega
 try simp only [OpK_eq,HKv,ren_ref,go_sem]
 refine hmany.lend (.cons (Imm.refn (e:=2) (ver:=0) rfl hlN.symm) (.nil _)) ?_
 have hput3:∀ a b c d e f,putC [a,b,c] 0 [d,e,f] = [d,e,f]:=fun a b c d e f=>putC3 a b c d e f
 try simp only [OpK_eq,HKv,hput3,go_sem]
 have hput0:∀ a b c d,putC [a,b,c] 0 [d] = [d,b,c]:=fun a b c d=>by unfold putC; first | rfl | (split <;> rfl) | simp
 have hput2:∀ a b c d,putC [a,b,c] 2 [d] = [a,b,d]:=fun a b c d=>by unfold putC; first | rfl | (split <;> rfl) | simp
 refine KL_ind k47_b1.eq_1 (fun x:Nat × PV × Heap=>[(1,.fptr [.fptr [.list (aggs (fs.map mp)),.int .i64 q,.list (ints (nz la))] 0] 0),(2,.ptr 0 0),(3,.ptr 1 0),(4,.ref 2 0 0 (ord fs q).length),(5,.int .i64 (kF fs la q).length),(6,.ptr 3 0),(32,.list (aggs (fs.map mp))),(33,.int .i64 fs.length),(34,.int .i64 x.1)]) (fun x=>x.2.2)
  (fun x=>x.1≤fs.length∧x.2.2[0]? = some (.box [.nils,.int .i64 0,.nils])∧x.2.2[1]? = some (.box [.list (ints (nz (ord fs q)))])∧x.2.2[2]? = some (.arr 0 2 1 (ints (nz (kN fs la q))))∧x.2.2[3]? = some (.box [x.2.1,.int .i64 0,.nils])∧GrM x.2.2 x.2.1 ((fs.take x.1).map fun f=>mp (lsR fs la q f))) (fun x=>fs.length - x.1) [1,2,3,4,5,6,32,33,34]
  (0,.nils,_) (by simp [keep]) rfl ⟨Nat.zero_le _,rfl,rfl,by simp,rfl,.inl ⟨by simp,rfl⟩⟩ fun ⟨x,mv,σ⟩ ⟨hx,h0',h1',h2',h3',hG⟩ ih=>?_
 simp only at hx h0' h1' h2' h3' hG
 have lt3:=(List.getElem?_eq_some_iff.1 h3').1
 try simp only [OpK_eq,HKv,List.length_map,go_sem]
 refine ⟨fun g1=>?_,fun g1=>?_⟩
 ·have hxl:x<fs.length:=by omega
  have hfx:=hf _ (List.getElem_mem hxl)
  have h6:=hfx.mp_len
  rw [map_getD hxl]
  have ht0:∀ (a:AObj) Y,(σ ++ a :: Y)[σ.length]? = some a:=fun a Y=>by simp
  have ht1:∀ (a b:AObj) Y,(σ ++ a :: b :: Y)[σ.length+1]? = some b:=fun a b Y=>by
   rw [List.getElem?_append_right (by omega)]; simp
  have hs0:∀ (a z:AObj) Y,(σ ++ a :: Y).set σ.length z = σ ++ z :: Y:=fun a z Y=>by
   rw [List.set_append_right _ _ (Nat.le_refl _)]; simp
  have hs1:∀ (a b z:AObj) Y,(σ ++ a :: b :: Y).set (σ.length+1) z = σ ++ a :: z :: Y:=fun a b z Y=>by
   rw [List.set_append_right _ _ (by omega)]; simp
  try simp only [OpK_eq,HKv,h6,ht0,ht1,hs0,hs1,List.append_assoc,List.cons_append,List.nil_append,go_sem]
  refine ⟨g1,fun _=>?_⟩
  have hRl:(lsR fs la q fs[x]).length=(kF fs la q).length:=by simp [lsR]
  have hlt:∀ (Y:Heap) id,id<4→(σ ++ Y)[id]? = σ[id]?:=fun Y id hid=>List.getElem?_append_left (by omega)
  refine KL_ind k47_b0.eq_1 (fun c:Nat=>[(1,.fptr [.fptr [.list (aggs (fs.map mp)),.int .i64 q,.list (ints (nz la))] 0] 0),(2,.ptr 0 0),(3,.ptr 1 0),(4,.ref 2 0 0 (ord fs q).length),(5,.int .i64 (kF fs la q).length),(6,.ptr 3 0),(8,.ptr σ.length 0),(9,.ptr (σ.length+1) 0),(32,.list (aggs (fs.map mp))),(33,.int .i64 fs.length),(34,.int .i64 x),(40,.int .i64 (kF fs la q).length),(41,.int .i64 c)]) (fun c=>σ ++ [.box (ints (mp fs[x])),.box (ints (mpN (kF fs la q).length ((lsR fs la q fs[x]).take c)))])
   (fun c=>c≤(kF fs la q).length) (fun c=>(kF fs la q).length - c) [1,2,3,4,5,6,8,9,32,33,34,40,41] 0 (by simp [keep]) rfl (Nat.zero_le _) fun c hc ihc=>?_
  have e1:∀ Y,(σ ++ Y)[1]? = some (.box [.list (ints (nz (ord fs q)))]):=fun Y=>(hlt Y 1 (by omega)).trans h1'
  have e2:∀ Y,(σ ++ Y)[2]? = some (.arr 0 2 1 (ints (nz (kN fs la q)))):=fun Y=>(hlt Y 2 (by omega)).trans h2'
  have e3:∀ Y,(σ ++ Y)[3]? = some (.box [mv,.int .i64 0,.nils]):=fun Y=>(hlt Y 3 (by omega)).trans h3'
  have h6R:(mpN ((kF fs la q).length:Int) ((lsR fs la q fs[x]).take c)).length=6:=mpN_length (by simp; omega)
  try simp only [OpK_eq,HKv,e1,e2,go_sem]
  refine ⟨fun g3=>?_,fun g3=>?_⟩
  ·have hcl:c<(kF fs la q).length:=by omega
   obtain ⟨k1,k2,k3⟩:=kF_one (fs:=fs) (la:=la) (q:=q) hcl
   obtain ⟨m1,m2⟩:=kN_idx (fs:=fs) (la:=la) (q:=q) hcl
   have hidx:idx (fun y=>decide ((c:Int)=y)) (nz (kN fs la q))=((kF fs la q)[c]:Int):=by rw [idx_nz,if_pos m1,m2]
   have hog:(nz (ord fs q)).getD (kF fs la q)[c] 0=((ord fs q).getD (kF fs la q)[c] 0:Int):=by simp [nz,List.getD_eq_getElem?_getD,k1]
   have hto:fs[x].getD ((ord fs q).getD (kF fs la q)[c] 0) 0∈ord fs q:=o4 _ (List.getElem_mem hxl) _ (by
    rw [List.getD_eq_getElem?_getD,List.getElem?_eq_getElem k1]; exact List.getElem_mem k1)
   have hoo:(ord fs q).getD (kF fs la q)[c] 0<n:=o1 _ (by
    rw [List.getD_eq_getElem?_getD,List.getElem?_eq_getElem k1]; exact List.getElem_mem k1)
   have hRc:(lsR fs la q fs[x]).take (c+1)=(lsR fs la q fs[x]).take c ++ [(kN fs la q).getD ((ord fs q).idxOf (fs[x].getD ((ord fs q).getD (kF fs la q)[c] 0) 0)) 0]:=by
    rw [List.take_succ_eq_append_getElem (by omega)]
    simp [lsR]
   refine (p84 (nz (kN fs la q)) c (by omega)).puse (Plain.int _ _) (.cons (Imm.refn (e2 _) hlN.symm) (.cons Imm.still (.nil _))) ?_
   rw [hidx]
   generalize (kF fs la q)[c]=kc at *
   generalize (ord fs q).getD kc 0=o at *
   have hot:(o:Int).toNat=o:=by omega
   have hkct:(kc:Int).toNat=kc:=by omega
   try simp only [OpK_eq,HKv,e1,e2,ht0,ht1,h6,hon,hog,hot,hkct,go_sem]
   refine ⟨by omega,fun _=>⟨by omega,by omega,fun _=>?_⟩⟩
   generalize fs[x].getD o 0=t at *
   have hit:=List.idxOf_lt_length_iff.2 hto
   have hix2:=p84 (nz (ord fs q)) t (by omega)
   rw [idx_nz,if_pos hto] at hix2
   generalize (ord fs q).idxOf t=d at *
   have hdt:(d:Int).toNat=d:=by omega
   have hkg:(nz (kN fs la q)).getD d 0=((kN fs la q).getD d 0:Int):=by simp [nz,List.getD_eq_getElem?_getD,show d<(kN fs la q).length by omega]
   refine hix2.go ?_
   try simp only [OpK_eq,HKv,e1,e2,ht0,ht1,hs1,h6R,hlN,hdt,hkg,go_sem]
   refine ⟨⟨by omega,Nat.le_refl _⟩,by omega,fun _=>⟨by omega,by omega,by omega,ihc (c+1) (by omega) (by omega) _ _ (by simp [keep]) ?_⟩⟩
   rw [hRc,mpN_pushI (by simp; omega) (by simp; omega)]
  ·have hce:c=(kF fs la q).length:=by omega
   subst hce
   have hRt:(lsR fs la q fs[x]).take (kF fs la q).length=lsR fs la q fs[x]:=List.take_of_length_le (Nat.le_of_eq hRl)
   have hRm:mpN ((kF fs la q).length:Int) (lsR fs la q fs[x])=mp (lsR fs la q fs[x]):=by rw [mp,hRl]
   rw [hRt,hRm] at *
   have h6m:(mp (lsR fs la q fs[x])).length=6:=mpN_length (by omega)
   have h6t:(mp (lsR fs la q fs[x])).take 6=mp (lsR fs la q fs[x]):=List.take_of_length_le (Nat.le_of_eq h6m)
   try simp only [OpK_eq,HKv,e3,ht1,h6R,h6m,h6t,go_sem]
   have hG2:GrM (σ ++ [.box (ints (mp fs[x])),.box (ints (mp (lsR fs la q fs[x])))]) mv ((fs.take x).map fun f=>mp (lsR fs la q f)):=hG.keep fun id hid _=>List.getElem?_append_left hid
   refine hG2.push (mp (lsR fs la q fs[x])) h6m (by simp; omega) (by simp; omega) fun v' σ' q1 q2 q3=>?_
   have r0:=(q2 0 (by omega)).trans ((hlt _ 0 (by omega)).trans h0')
   have r1:=(q2 1 (by omega)).trans (e1 _)
   have r2:=(q2 2 (by omega)).trans (e2 _)
   have r3:=(q2 3 (by omega)).trans (e3 _)
   have rl:=(List.getElem?_eq_some_iff.1 r3).1
   have hcs:=q1.cs
   try simp only [OpK_eq,HKv,r3,hcs.1,hcs.2,hput0,go_sem]
   refine ⟨by omega,ih (x+1,v',σ'.set 3 (.box [v',.int .i64 0,.nils])) ⟨by show x+1≤fs.length; omega,(List.getElem?_set_ne (by decide)).trans r0,(List.getElem?_set_ne (by decide)).trans r1,(List.getElem?_set_ne (by decide)).trans r2,List.getElem?_set_self rl,?_⟩ (by show fs.length - (x+1)<fs.length - x; omega) _ _ (by simp [keep]) rfl⟩
   show GrM _ v' ((fs.take (x+1)).map fun f=>mp (lsR fs la q f))
   rw [List.take_succ_eq_append_getElem hxl,List.map_append]
   exact q1.keep fun id _ h3=>List.getElem?_set_ne (by omega)
 ·obtain rfl:x=fs.length:=by omega
  rw [List.take_length] at hG
  have hMe:(fs.map fun f=>mp (lsR fs la q f))=(lsM fs la q).map mp:=by
   unfold lsM lsR
   rw [List.map_map]; rfl
  rw [hMe] at hG
  have hcsM:=hG.cs
  try simp only [OpK_eq,HKv,go_sem]
  refine KL_ind k47_b2.eq_1 (fun x:Nat × PV × Heap=>[(1,.fptr [.fptr [.list (aggs (fs.map mp)),.int .i64 q,.list (ints (nz la))] 0] 0),(2,.ptr 0 0),(3,.ptr 1 0),(4,.ref 2 0 0 (ord fs q).length),(6,.ptr 3 0),(70,.int .i64 (kF fs la q).length),(71,.int .i64 x.1)]) (fun x=>x.2.2)
   (fun x=>x.1≤(kF fs la q).length∧(∀ id,id < σ.length→id≠3→x.2.2[id]? = σ[id]?)∧x.2.2[3]? = some (.box [mv,.int .i64 0,x.2.1])∧GrN x.2.2 σ.length x.2.1 (nz ((List.range x.1).filter fun c=>decide ((ord fs q).getD ((kF fs la q).getD c 0) 0∈la)))∧σ.length≤x.2.2.length) (fun x=>(kF fs la q).length - x.1) [1,2,3,4,6,70,71]
   (0,.nils,σ) (by simp [keep]) rfl ⟨Nat.zero_le _,fun id _ _=>rfl,h3',.inl ⟨by simp [nz],rfl⟩,Nat.le_refl _⟩ fun ⟨c,lv,τ⟩ ⟨hc,hold,t3',hN,hle⟩ ihc=>?_
  simp only at hc hold t3' hN hle
  have t0':=(hold 0 (by omega) (by decide)).trans h0'
  have t1':=(hold 1 (by omega) (by decide)).trans h1'
  have t2':=(hold 2 (by omega) (by decide)).trans h2'
  have tl:=(List.getElem?_eq_some_iff.1 t3').1
  try simp only [OpK_eq,HKv,t1',go_sem]
  refine ⟨fun g3=>?_,fun g3=>?_⟩
  ·have hcl:c<(kF fs la q).length:=by omega
   obtain ⟨k1,k2,k3⟩:=kF_one (fs:=fs) (la:=la) (q:=q) hcl
   obtain ⟨m1,m2⟩:=kN_idx (fs:=fs) (la:=la) (q:=q) hcl
   have hidx:idx (fun y=>decide ((c:Int)=y)) (nz (kN fs la q))=((kF fs la q)[c]:Int):=by rw [idx_nz,if_pos m1,m2]
   have hog:(nz (ord fs q)).getD (kF fs la q)[c] 0=((ord fs q).getD (kF fs la q)[c] 0:Int):=by simp [nz,List.getD_eq_getElem?_getD,k1]
   have hfl:(List.range (c+1)).filter (fun c=>decide ((ord fs q).getD ((kF fs la q).getD c 0) 0∈la))=(List.range c).filter (fun c=>decide ((ord fs q).getD ((kF fs la q).getD c 0) 0∈la)) ++ if decide ((ord fs q).getD (kF fs la q)[c] 0∈la)=true then [c] else []:=by
    have e:(kF fs la q).getD c 0=(kF fs la q)[c]:=by rw [List.getD_eq_getElem?_getD,List.getElem?_eq_getElem hcl]; rfl
    rw [List.range_succ,List.filter_append,List.filter_cons,e]
    simp only [List.filter_nil]
   refine (p84 (nz (kN fs la q)) c (by omega)).puse (Plain.int _ _) (.cons (Imm.refn t2' hlN.symm) (.cons Imm.still (.nil _))) ?_
   rw [hidx]
   generalize (kF fs la q)[c]=kc at *
   generalize (ord fs q).getD kc 0=o at *
   have hkct:(kc:Int).toNat=kc:=by omega
   try simp only [OpK_eq,HKv,t1',hon,hog,hkct,go_sem]
   refine ⟨by omega,fun _=>?_⟩
   refine (p50 _ _ la hL o).pgo ?_
   have hNl:((List.range c).filter fun c=>decide ((ord fs q).getD ((kF fs la q).getD c 0) 0∈la)).length≤c:=by
    have:=List.length_filter_le (fun c=>decide ((ord fs q).getD ((kF fs la q).getD c 0) 0∈la)) (List.range c)
    simpa using this
   cases hd:decide (o∈la) with
   | false =>
    rw [hd,if_neg (by simp),List.append_nil] at hfl
    try simp only [OpK_eq,HKv,go_sem]
    refine ⟨by omega,ihc (c+1,lv,τ) ⟨by show c+1≤_; omega,hold,t3',?_,hle⟩ (by show _ - (c+1)<_ - c; omega) _ _ (by simp [keep]) rfl⟩
    show GrN τ σ.length lv (nz ((List.range (c+1)).filter _))
    rw [hfl]; exact hN
   | true =>
    rw [hd,if_pos rfl] at hfl
    try simp only [OpK_eq,HKv,t3',go_sem]
    refine hN.push c (by rw [nz_len]; omega) hle fun v' τ' q1 q2 q3=>?_
    have r3:=(q2 3 (by omega)).trans t3'
    have rl:=(List.getElem?_eq_some_iff.1 r3).1
    have hcs:=q1.cs
    try simp only [OpK_eq,HKv,r3,hcs.1,hcs.2,hput2,go_sem]
    refine ⟨by omega,ihc (c+1,v',τ'.set 3 (.box [mv,.int .i64 0,v'])) ⟨by show c+1≤_; omega,fun id hid h3=>?_,List.getElem?_set_self rl,?_,?_⟩ (by show _ - (c+1)<_ - c; omega) _ _ (by simp [keep]) rfl⟩
    ·exact (List.getElem?_set_ne (Ne.symm h3)).trans ((q2 id hid).trans (hold id hid h3))
    ·show GrN _ σ.length v' (nz ((List.range (c+1)).filter _))
     have e:nz ((List.range c).filter (fun c=>decide ((ord fs q).getD ((kF fs la q).getD c 0) 0∈la)) ++ [c])=nz ((List.range c).filter fun c=>decide ((ord fs q).getD ((kF fs la q).getD c 0) 0∈la)) ++ [(c:Int)]:=by simp [nz]
     rw [hfl,e]
     exact q1.keep fun id _ hlo=>List.getElem?_set_ne (by omega)
    ·show σ.length≤(τ'.set 3 _).length
     rw [List.length_set]; omega
  ·have hce:c=(kF fs la q).length:=by omega
   subst hce
   have hcsN:=hN.cs
   have hG2:GrM τ mv ((lsM fs la q).map mp):=hG.keep fun id hid h3=>hold id hid (by omega)
   have t0l:=(List.getElem?_eq_some_iff.1 t0').1
   have hG3:GrM (τ.set 0 (.box [mv,.int .i64 0,lv])) mv ((lsM fs la q).map mp):=hG2.keep fun id _ h3=>List.getElem?_set_ne (by omega)
   have hN3:GrN (τ.set 0 (.box [mv,.int .i64 0,lv])) σ.length lv (nz (lsL fs la q)):=hN.keep fun id _ hlo=>List.getElem?_set_ne (by omega)
   have hself:∀ o,(τ.set 0 o)[0]? = some o:=fun o=>List.getElem?_set_self t0l
   try simp only [OpK_eq,HKv,t3',t0',hself,subC3,hput3,hcsM.2,hcsN.2,go_sem]
   refine Kv.Fin.freeze (v':=.agg [.list (aggs ((lsM fs la q).map mp)),.int .i64 0,.list (ints (nz (lsL fs la q)))]) (.agg _ _ (by simp) (by simp [PV.ok,hcsM.2,hcsN.2]) fun i c d hc hd=>?_) ⟨rfl,rfl⟩
   rcases i with _ | _ | _ | i
   ·simp only [List.getElem?_cons_zero,Option.some.injEq] at hc hd; subst hc; subst hd
    exact hG3.imm
   ·simp only [List.getElem?_cons_succ,List.getElem?_cons_zero,Option.some.injEq] at hc hd; subst hc; subst hd
    exact .int _ _ _
   ·simp only [List.getElem?_cons_succ,List.getElem?_cons_zero,Option.some.injEq] at hc hd; subst hc; subst hd
    exact hN3.imm
   ·simp at hc
end
end
section
section
attribute [local irreducible] ACall PCall KL
def ded:List Nat→List Nat:=fun l=>l.foldl (fun a x=>if x∈a then a else a ++ [x]) []
theorem ded_snoc (l:List Nat) (x:Nat):ded (l ++ [x])=if x∈ded l then ded l else ded l ++ [x]:=by
 unfold ded; rw [List.foldl_append]; rfl
theorem ded_mem (l:List Nat) (x:Nat):x∈ded l↔x∈l:=by
 have h:∀ k,(∀ y,y∈ded (l.take k)↔y∈l.take k):=fun k=>by
  induction k with
  | zero=>intro y; simp [ded]
  | succ k ih =>
   intro y
   by_cases hk:k<l.length
   ·rw [List.take_succ_eq_append_getElem hk,ded_snoc]
    split
    ·rename_i h
     rw [ih,List.mem_append,List.mem_singleton]
     exact ⟨.inl,fun h'=>h'.elim id fun e=>by rw [e]; exact (ih _).1 h⟩
    ·rw [List.mem_append,List.mem_append,ih,List.mem_singleton]
   ·rw [List.take_of_length_le (by omega)]
    have:=ih y
    rwa [List.take_of_length_le (by omega)] at this
 have:=h l.length x
 rwa [List.take_of_length_le (Nat.le_refl _)] at this
theorem ded_pre (a b:List Nat):∃ r,ded (a ++ b)=ded a ++ r:=by
 have h:∀ k,∃ r,ded (a ++ b.take k)=ded a ++ r:=fun k=>by
  induction k with
  | zero=>exact ⟨[],by simp⟩
  | succ k ih =>
   obtain ⟨r,hr⟩:=ih
   by_cases hk:k<b.length
   ·rw [List.take_succ_eq_append_getElem hk,← List.append_assoc,ded_snoc,hr]
    split
    ·exact ⟨r,rfl⟩
    ·exact ⟨r ++ [b[k]],by rw [List.append_assoc]⟩
   ·rw [List.take_of_length_le (by omega)]
    rw [List.take_of_length_le (by omega)] at hr
    exact ⟨r,hr⟩
 have:=h b.length
 rwa [List.take_of_length_le (Nat.le_refl _)] at this
def advP (hs:List (List Nat)) (P:List Nat) (u k:Nat):List Nat:=(List.range k).foldl (fun P k=>if (hs.getD k []).getD u 0∈P then P else P ++ [(hs.getD k []).getD u 0]) P
theorem advP_succ (hs:List (List Nat)) (P:List Nat) (u k:Nat):advP hs P u (k+1)=if (hs.getD k []).getD u 0∈advP hs P u k then advP hs P u k else advP hs P u k ++ [(hs.getD k []).getD u 0]:=by
 unfold advP; rw [List.range_succ,List.foldl_append]; rfl
theorem advP_all {hs:List (List Nat)} {P:List Nat} {u:Nat}:∀ k,(∀ j,j<k→(hs.getD j []).getD u 0∈P)→advP hs P u k=P
 | 0,_=>rfl
 | k+1,h=>by rw [advP_succ,advP_all k fun j hj=>h j (by omega),if_pos (h k (by omega))]
theorem pl_adv {fs:List (List Nat)} {n q:Nat} (hf:∀ f∈fs,Ok f n) {Q:List Met} {m:Met} (hQ:∀ x∈Q,∃ y,Rea fs q y∧y<n∧x.1 = [(y:Int)]) (hd:(Q.map Prod.fst).Nodup) {u:Nat} (hm:Rea fs q u∧u<n∧m.1 = [(u:Int)]):∀ k,k≤fs.length→pl (advN fs ldp Q m k)=advP fs (pl Q) u k
 | 0,_=>rfl
 | k+1,hk=>by
  obtain ⟨h1,_⟩:=adv_one hf hQ hd ⟨u,hm⟩ k (by omega)
  have ih:=pl_adv hf hQ hd hm k (by omega)
  rw [advN_succ,advP_succ,← ih]
  have hl:ldp (fs.getD k []) m.1 = [(((fs.getD k []).getD u 0:Nat):Int)]:=by rw [hm.2.2]; simp only [ldp,List.map_cons,List.map_nil,Int.toNat_natCast]
  have hany:((advN fs ldp Q m k).any fun x=>decide (x.1=ldp (fs.getD k []) m.1))=decide ((fs.getD k []).getD u 0∈pl (advN fs ldp Q m k)):=by
   rw [hl,Bool.eq_iff_iff,List.any_eq_true,decide_eq_true_iff,pl,List.mem_map]
   constructor
   ·rintro ⟨x,hx,e⟩
    exact ⟨x,hx,by rw [of_decide_eq_true e]; rfl⟩
   ·rintro ⟨x,hx,e⟩
    obtain ⟨y,_,_,e2⟩:=h1 x hx
    refine ⟨x,hx,decide_eq_true ?_⟩
    rw [e2] at e ⊢
    have e:y=(fs.getD k []).getD u 0:=by simpa using e
    rw [e]
  rw [hany,hl]
  by_cases hin:(fs.getD k []).getD u 0∈pl (advN fs ldp Q m k)
  ·rw [if_pos (decide_eq_true hin),if_pos hin]
  ·rw [if_neg (by simpa using hin),if_neg hin,pl_snoc]; rfl
def pj (t:Nat) (L:List Met):List Nat:=L.map fun x=>(x.1.getD t 0).toNat
theorem pj_snoc (t:Nat) (L:List Met) (x:Met):pj t (L ++ [x])=pj t L ++ [(x.1.getD t 0).toNat]:=by simp [pj]
theorem pj_len (t:Nat) (L:List Met):(pj t L).length=L.length:=by simp [pj]
theorem pj_adv {fs gs hs:List (List Nat)} {t:Nat} {L:List Met} {m:Met} {u:Nat} (hb:∀ k,k<fs.length→((ld2 fs gs [k] m.1).getD t 0).toNat=(hs.getD k []).getD u 0):∀ k,k≤fs.length→ded (pj t (advN (ixs fs.length) (ld2 fs gs) L m k))=advP hs (ded (pj t L)) u k
 | 0,_=>rfl
 | k+1,hk=>by
  have ih:=pj_adv (L:=L) hb k (by omega)
  have hbk:=hb k (by omega)
  rw [advN_succ,advP_succ,← ih,ixs_get (show k<fs.length by omega)]
  cases hany:(advN (ixs fs.length) (ld2 fs gs) L m k).any fun x=>decide (x.1=ld2 fs gs [k] m.1) with
  | true =>
   rw [if_pos rfl,if_pos]
   obtain ⟨x,hx,e⟩:=List.any_eq_true.1 hany
   rw [ded_mem,pj,List.mem_map]
   exact ⟨x,hx,by rw [of_decide_eq_true e,hbk]⟩
  | false =>
   rw [if_neg (by simp),pj_snoc,ded_snoc]
   show (if ((ld2 fs gs [k] m.1).getD t 0).toNat∈_ then _ else _ ++ [((ld2 fs gs [k] m.1).getD t 0).toNat])=_
   rw [hbk]
theorem pj_ord {fs gs hs:List (List Nat)} {p q r t d:Nat} (hh:∀ f∈hs,Ok f d) (hd5:d≤5) (hr:r<d) (hl:hs.length=fs.length) (h0:(([(p:Int),(q:Int)]:List Int).getD t 0).toNat=r)
  (hb:∀ x:Met,Pm fs gs p q x→∀ k,k<fs.length→((ld2 fs gs [k] x.1).getD t 0).toNat=(hs.getD k []).getD (x.1.getD t 0).toNat 0):∀ i,i≤(pq fs gs p q i).length →
  ∃ j,j=(ded ((pj t (pq fs gs p q i)).take i)).length∧j≤(bl hs ldp [(r:Int)] j).length∧pl (bl hs ldp [(r:Int)] j)=ded (pj t (pq fs gs p q i))
 | 0,_=>by
  refine ⟨0,by simp [ded],Nat.zero_le _,?_⟩
  show pl [([(r:Int)],[])]=ded (pj t [([(p:Int),(q:Int)],[])])
  simp [pl,pj,ded]
  exact h0.symm
 | i+1,hi1=>by
  by_cases hi:i<(pq fs gs p q i).length
  ·obtain ⟨j,hj,hjl,hD⟩:=pj_ord hh hd5 hr hl h0 hb i (by omega)
   have hPm:=(pq_all (fs:=fs) (gs:=gs) (p:=p) (q:=q) i).1 _ (List.getElem_mem hi)
   obtain ⟨rr,hrr⟩:=advN_preE (ixs fs.length) (ld2 fs gs) (pq fs gs p q i) (pq fs gs p q i)[i] fs.length
   have hadv:=pj_adv (hs:=hs) (t:=t) (L:=pq fs gs p q i) (m:=(pq fs gs p q i)[i]) (u:=(((pq fs gs p q i)[i]).1.getD t 0).toNat) (hb _ hPm) fs.length (Nat.le_refl _)
   rw [← pq_succ hi] at hadv
   have htk:(pj t (pq fs gs p q (i+1))).take (i+1)=(pj t (pq fs gs p q i)).take i ++ [(((pq fs gs p q i)[i]).1.getD t 0).toNat]:=by
    rw [pq_succ hi,hrr]
    unfold pj
    rw [List.map_append,List.take_append_of_le_length (by simp; omega),List.take_succ_eq_append_getElem (by simpa using hi)]
    simp
   generalize hu:(((pq fs gs p q i)[i]).1.getD t 0).toNat=u at *
   obtain ⟨b1,b2,b3,b4⟩:=bl_one hh hr j hjl
   have hpl:=pl_len (bl hs ldp [(r:Int)] j)
   -- the order of the first i pairs lies ahead
   have hpre:∃ s,ded (pj t (pq fs gs p q i))=ded ((pj t (pq fs gs p q i)).take i) ++ s:=by
    have:=ded_pre ((pj t (pq fs gs p q i)).take i) ((pj t (pq fs gs p q i)).drop i)
    rwa [List.take_append_drop] at this
   by_cases hin:u∈ded ((pj t (pq fs gs p q i)).take i)
   ·refine ⟨j,by rw [htk,ded_snoc,if_pos hin]; exact hj,hjl,?_⟩
    rw [hadv,advP_all,hD]
    intro k hk
    obtain ⟨s,hs'⟩:=hpre
    obtain ⟨c,hc,hcu⟩:=List.getElem_of_mem hin
    have hcj:c<j:=by omega
    have hcl:c<(bl hs ldp [(r:Int)] j).length:=by omega
    obtain ⟨x,hx,ex⟩:=b4 c hcl hcj k (by omega)
    obtain ⟨y,_,_,ey⟩:=b1 _ (List.getElem_mem hcl)
    have hyu:y=u:=by
     have e1:(pl (bl hs ldp [(r:Int)] j))[c]? = some y:=by
      unfold pl
      rw [List.getElem?_map,List.getElem?_eq_getElem hcl,Option.map_some,ey]; simp
     rw [hD,hs',List.getElem?_append_left hc,List.getElem?_eq_getElem hc,hcu] at e1
     exact (Option.some.inj e1).symm
    subst hyu
    rw [← hD,pl,List.mem_map]
    refine ⟨x,hx,?_⟩
    rw [ex,ey]
    simp [ldp]
   ·have hnew:ded ((pj t (pq fs gs p q (i+1))).take (i+1))=ded ((pj t (pq fs gs p q i)).take i) ++ [u]:=by rw [htk,ded_snoc,if_neg hin]
    -- the next one of the order is u
    have hpre2:∃ s,ded (pj t (pq fs gs p q i))=ded ((pj t (pq fs gs p q i)).take (i+1)) ++ s:=by
     have:=ded_pre ((pj t (pq fs gs p q i)).take (i+1)) ((pj t (pq fs gs p q i)).drop (i+1))
     rwa [List.take_append_drop] at this
    have htk2:(pj t (pq fs gs p q i)).take (i+1)=(pj t (pq fs gs p q i)).take i ++ [u]:=by
     rw [List.take_succ_eq_append_getElem (by rw [pj_len]; exact hi)]
     simp only [pj,List.getElem_map,hu]
    obtain ⟨s,hs'⟩:=hpre2
    rw [htk2,ded_snoc,if_neg hin] at hs'
    have hjD:j<(bl hs ldp [(r:Int)] j).length:=by
     rw [← hpl,hD,hs']; simp; omega
    obtain ⟨y,hy1,hy2,ey⟩:=b1 _ (List.getElem_mem hjD)
    have hyu:y=u:=by
     have e1:(pl (bl hs ldp [(r:Int)] j))[j]? = some y:=by
      unfold pl
      rw [List.getElem?_map,List.getElem?_eq_getElem hjD,Option.map_some,ey]; simp
     rw [hD,hs',List.append_assoc,List.getElem?_append_right (by omega),← hj,Nat.sub_self] at e1
     simpa using e1.symm
    subst hyu
    have hstep:=pl_adv hh b1 b2 ⟨hy1,hy2,ey⟩ hs.length (Nat.le_refl _)
    rw [← bl_succ hjD] at hstep
    have hlen1:=advN_mono hs ldp (bl hs ldp [(r:Int)] j) (bl hs ldp [(r:Int)] j)[j] (Nat.zero_le hs.length)
    rw [← bl_succ hjD] at hlen1
    have e0:advN hs ldp (bl hs ldp [(r:Int)] j) (bl hs ldp [(r:Int)] j)[j] 0=bl hs ldp [(r:Int)] j:=rfl
    rw [e0] at hlen1
    refine ⟨j+1,by rw [hnew,List.length_append,List.length_singleton]; omega,by omega,?_⟩
    rw [hstep,hadv,hD,hl]
  ·have e:=pq_none (fs:=fs) (gs:=gs) (p:=p) (q:=q) hi
   rw [e] at hi1
   omega
theorem pj_end {fs gs hs:List (List Nat)} {p q r t d:Nat} (hh:∀ f∈hs,Ok f d) (hd5:d≤5) (hr:r<d) (hl:hs.length=fs.length) (h0:(([(p:Int),(q:Int)]:List Int).getD t 0).toNat=r)
  (hb:∀ x:Met,Pm fs gs p q x→∀ k,k<fs.length→((ld2 fs gs [k] x.1).getD t 0).toNat=(hs.getD k []).getD (x.1.getD t 0).toNat 0) {i:Nat} (hi:i=(pq fs gs p q i).length):ord hs r=ded (pj t (pq fs gs p q i)):=by
 obtain ⟨j,hj,hjl,hD⟩:=pj_ord hh hd5 hr hl h0 hb i (by omega)
 have htk:(pj t (pq fs gs p q i)).take i=pj t (pq fs gs p q i):=List.take_of_length_le (by rw [pj_len]; omega)
 rw [htk,← hD,pl_len] at hj
 rw [← hD]
 show pl (bl hs ldp [(r:Int)] 5)=_
 rw [ord_at hh hd5 hr hj]
end
end
section
section
attribute [local irreducible] ACall PCall KL
def rp (same:Nat→Nat→Bool) (l:List Nat):List Nat:=l.foldl (fun a x=>if (a.any fun y=>same y x)=true then a else a ++ [x]) []
theorem rp_snoc (same:Nat→Nat→Bool) (l:List Nat) (x:Nat):rp same (l ++ [x])=if ((rp same l).any fun y=>same y x)=true then rp same l else rp same l ++ [x]:=by
 unfold rp; rw [List.foldl_append]; rfl
theorem rp_sub (same:Nat→Nat→Bool) (l:List Nat):∀ x∈rp same l,x∈l:=by
 have h:∀ k,∀ x∈rp same (l.take k),x∈l:=fun k=>by
  induction k with
  | zero=>intro x hx; simp [rp] at hx
  | succ k ih =>
   intro x hx
   by_cases hk:k<l.length
   ·rw [List.take_succ_eq_append_getElem hk,rp_snoc] at hx
    split at hx
    ·exact ih x hx
    ·rcases List.mem_append.1 hx with hx | hx
     ·exact ih x hx
     ·rw [List.mem_singleton] at hx; subst hx; exact List.getElem_mem hk
   ·rw [List.take_of_length_le (by omega)] at hx
    rw [List.take_of_length_le (by omega)] at ih
    exact ih x hx
 have:=h l.length
 rwa [List.take_of_length_le (Nat.le_refl _)] at this
theorem rp_has {same:Nat→Nat→Bool} {l:List Nat} (hr:∀ x∈l,same x x=true):∀ x∈l,((rp same l).any fun y=>same y x)=true:=by
 have h:∀ k,∀ x∈l.take k,((rp same (l.take k)).any fun y=>same y x)=true:=fun k=>by
  induction k with
  | zero=>intro x hx; simp at hx
  | succ k ih =>
   intro x hx
   by_cases hk:k<l.length
   ·rw [List.take_succ_eq_append_getElem hk] at hx ⊢
    rw [rp_snoc]
    split
    ·rename_i h
     rcases List.mem_append.1 hx with hx | hx
     ·exact ih x hx
     ·rw [List.mem_singleton] at hx; subst hx; exact h
    ·rw [List.any_append,Bool.or_eq_true]
     rcases List.mem_append.1 hx with hx | hx
     ·exact .inl (ih x hx)
     ·rw [List.mem_singleton] at hx; subst hx
      exact .inr (by simp [hr _ (List.getElem_mem hk)])
   ·rw [List.take_of_length_le (by omega)] at hx ⊢
    rw [List.take_of_length_le (by omega)] at ih
    exact ih x hx
 have:=h l.length
 rwa [List.take_of_length_le (Nat.le_refl _)] at this
theorem rp_ded {same:Nat→Nat→Bool} {l:List Nat} (hr:∀ x∈l,same x x=true):rp same (ded l)=rp same l:=by
 have h:∀ k,rp same (ded (l.take k))=rp same (l.take k):=fun k=>by
  induction k with
  | zero=>rfl
  | succ k ih =>
   by_cases hk:k<l.length
   ·rw [List.take_succ_eq_append_getElem hk,ded_snoc,rp_snoc]
    by_cases hin:l[k]∈ded (l.take k)
    ·rw [if_pos hin,ih,if_pos]
     exact rp_has (fun x hx=>hr x (List.mem_of_mem_take hx)) _ ((ded_mem _ _).1 hin)
    ·rw [if_neg hin,rp_snoc,ih]
   ·rw [List.take_of_length_le (by omega)]
    rwa [List.take_of_length_le (by omega)] at ih
 have:=h l.length
 rwa [List.take_of_length_le (Nat.le_refl _)] at this
theorem rp_nmB (same:Nat→Nat→Bool) (l:List Nat):∀ i,i≤l.length→((nmB (fun i k=>same (l.getD i 0) (l.getD k 0)) i).1.map fun c=>l.getD c 0)=rp same (l.take i)
 | 0,_=>rfl
 | i+1,hi=>by
  have ih:=rp_nmB same l i (by omega)
  have hil:i<l.length:=by omega
  have hg:l.getD i 0=l[i]:=by rw [List.getD_eq_getElem?_getD,List.getElem?_eq_getElem hil]; rfl
  rw [List.take_succ_eq_append_getElem hil,rp_snoc,← ih]
  generalize hF:(nmB (fun i k=>same (l.getD i 0) (l.getD k 0)) i).1=F at *
  have hany:((F.map fun c=>l.getD c 0).any fun y=>same y l[i])=F.any fun f=>same (l.getD f 0) (l.getD i 0):=by
   rw [List.any_map,hg]; rfl
  rw [hany,nmB,hF]
  cases hf:F.findIdx? fun f=>same (l.getD f 0) (l.getD i 0) with
  | some c =>
   obtain ⟨hc,h1,_⟩:=List.findIdx?_eq_some_iff_getElem.1 hf
   rw [if_pos (List.any_eq_true.2 ⟨_,List.getElem_mem hc,h1⟩)]
  | none =>
   have hno:=List.findIdx?_eq_none_iff.1 hf
   rw [if_neg (by
    rw [List.any_eq_true]
    rintro ⟨x,hx,h⟩
    have:=hno x hx
    rw [h] at this; simp at this)]
   simp only [List.map_append,List.map_cons,List.map_nil,hg]
def cls (same:Nat→Nat→Bool) (R:List Nat) (x:Nat):Nat:=(R.findIdx? fun y=>same y x).getD 0
theorem nmB_num (same:Nat→Nat→Bool) (l:List Nat) (hE:Eqv (fun i k=>same (l.getD i 0) (l.getD k 0)) l.length) (hr:∀ x∈l,same x x=true):∀ i,i≤l.length→∀ j,j<i→(nmB (fun i k=>same (l.getD i 0) (l.getD k 0)) i).2.getD j 0=cls same (rp same (l.take i)) (l.getD j 0)
 | 0,_,j,h=>by omega
 | i+1,hi,j,hj=>by
  have hil:i<l.length:=by omega
  have hN:=nm_eq hE i (by omega)
  have hrp:=rp_nmB same l i (by omega)
  have hrp1:=rp_nmB same l (i+1) hi
  have ih:=nmB_num same l hE hr i (by omega)
  rw [← hrp1]
  rw [← hrp] at ih
  generalize hF:nmB (fun i k=>same (l.getD i 0) (l.getD k 0)) i=FB at *
  obtain ⟨F,B⟩:=FB
  obtain ⟨n1,n2,n3,n4,_⟩:=hN
  have n1':B.length=i:=by rw [hF] at n1; exact n1
  have hmapI:∀ (F':List Nat) x,((F'.map fun c=>l.getD c 0).findIdx? fun y=>same y x)=F'.findIdx? fun f=>same (l.getD f 0) x:=fun F' x=>by rw [List.findIdx?_map]; rfl
  unfold cls at ih ⊢
  simp only [hmapI] at ih ⊢
  rw [nmB,hF]
  cases hf:F.findIdx? fun f=>same (l.getD f 0) (l.getD i 0) with
  | some c =>
   show (B ++ [c]).getD j 0=_
   by_cases e:j=i
   ·subst e
    rw [hf,List.getD_eq_getElem?_getD,List.getElem?_append_right (by omega),n1']; simp
   ·have:=ih j (by omega)
    rw [List.getD_eq_getElem?_getD,List.getElem?_append_left (by omega),← List.getD_eq_getElem?_getD]
    exact this
  | none =>
   show (B ++ [F.length]).getD j 0=((F ++ [i]).findIdx? _).getD 0
   rw [List.findIdx?_append]
   by_cases e:j=i
   ·subst e
    rw [hf,List.getD_eq_getElem?_getD,List.getElem?_append_right (by omega),n1']
    have hrf:same (l.getD j 0) (l.getD j 0)=true:=hr _ (by rw [List.getD_eq_getElem?_getD,List.getElem?_eq_getElem hil]; exact List.getElem_mem hil)
    rw [List.getD_eq_getElem?_getD] at hrf
    simp [hrf]
   ·have h1:=ih j (by omega)
    rw [List.getD_eq_getElem?_getD,List.getElem?_append_left (by omega),← List.getD_eq_getElem?_getD]
    -- it has a class already
    have hji:j<i:=by omega
    rw [hF] at n3
    obtain ⟨f,hf1,hf2⟩:=n3 j hji
    have hfF:f∈F:=List.mem_of_getElem? hf1
    have hsf:same (l.getD f 0) (l.getD j 0)=true:=by
     rcases hf2 with rfl | h
     ·exact hr _ (by rw [List.getD_eq_getElem?_getD,List.getElem?_eq_getElem (by omega:f<l.length)]; exact List.getElem_mem _)
     ·exact h
    cases hfj:F.findIdx? fun f=>same (l.getD f 0) (l.getD j 0) with
    | none =>
     have:=List.findIdx?_eq_none_iff.1 hfj f hfF
     rw [hsf] at this; simp at this
    | some c=>rw [hfj] at h1; exact h1
end
end
section
section
attribute [local irreducible] ACall PCall KL
theorem rnw_app (fs:List (List Nat)) (w w':List Nat) (p:Nat):rnw fs (w ++ w') p=rnw fs w' (rnw fs w p):=by
 unfold rnw; rw [List.foldl_append]
theorem smB_refl (fs:List (List Nat)) (la:List Nat) (x:Nat):smB fs la x x=true:=smB_iff.2 fun _ _=>Iff.rfl
theorem smB_congr {fs:List (List Nat)} {la:List Nat} {x y:Nat} (h:smB fs la x y=true) (z:Nat):smB fs la z x=smB fs la z y:=by
 rw [Bool.eq_iff_iff,smB_iff,smB_iff]
 have h:=smB_iff.1 h
 exact ⟨fun h1 w hw=>(h1 w hw).trans (h w hw),fun h1 w hw=>(h1 w hw).trans (h w hw).symm⟩
theorem smB_step {fs:List (List Nat)} {la:List Nat} {x y k:Nat} (hk:k<fs.length) (h:smB fs la x y=true):smB fs la ((fs.getD k []).getD x 0) ((fs.getD k []).getD y 0)=true:=by
 rw [smB_iff] at h ⊢
 intro w hw
 have:=h (k :: w) fun c hc=>by
  rcases List.mem_cons.1 hc with rfl | hc
  ·exact hk
  ·exact hw c hc
 exact this
theorem rp_pre (same:Nat→Nat→Bool) (a b:List Nat):∃ r,rp same (a ++ b)=rp same a ++ r:=by
 have h:∀ k,∃ r,rp same (a ++ b.take k)=rp same a ++ r:=fun k=>by
  induction k with
  | zero=>exact ⟨[],by simp⟩
  | succ k ih =>
   obtain ⟨r,hr⟩:=ih
   by_cases hk:k<b.length
   ·rw [List.take_succ_eq_append_getElem hk,← List.append_assoc,rp_snoc,hr]
    split
    ·exact ⟨r,rfl⟩
    ·exact ⟨r ++ [b[k]],by rw [List.append_assoc]⟩
   ·rw [List.take_of_length_le (by omega)]
    rw [List.take_of_length_le (by omega)] at hr
    exact ⟨r,hr⟩
 have:=h b.length
 rwa [List.take_of_length_le (Nat.le_refl _)] at this
noncomputable def RR (fs:List (List Nat)) (la:List Nat) (q:Nat):List Nat:=rp (smB fs la) (ord fs q)
theorem RR_kF (fs:List (List Nat)) (la:List Nat) (q:Nat):((kF fs la q).map fun c=>(ord fs q).getD c 0)=RR fs la q:=by
 have:=rp_nmB (smB fs la) (ord fs q) (ord fs q).length (Nat.le_refl _)
 rwa [List.take_of_length_le (Nat.le_refl _)] at this
theorem RR_kN (fs:List (List Nat)) (la:List Nat) (q:Nat) {j:Nat} (hj:j<(ord fs q).length):(kN fs la q).getD j 0=cls (smB fs la) (RR fs la q) ((ord fs q).getD j 0):=by
 have:=nmB_num (smB fs la) (ord fs q) (smB_eqv fs la (ord fs q)) (fun x _=>smB_refl fs la x) (ord fs q).length (Nat.le_refl _) j hj
 rwa [List.take_of_length_le (Nat.le_refl _)] at this
theorem RR_len (fs:List (List Nat)) (la:List Nat) (q:Nat):(RR fs la q).length=(kF fs la q).length:=by rw [← RR_kF,List.length_map]
theorem lsM_RR {fs:List (List Nat)} {n q:Nat} (la:List Nat) (hf:∀ f∈fs,Ok f n) (hn:n≤5) (hq:q<n):lsM fs la q=fs.map fun f=>(RR fs la q).map fun u=>cls (smB fs la) (RR fs la q) (f.getD u 0):=by
 obtain ⟨_,_,_,o4,_,_⟩:=ord_ok hf hn hq
 unfold lsM
 refine List.map_congr_left fun f hff=>?_
 conv=>rhs; rw [← RR_kF]
 rw [List.map_map]
 refine List.map_congr_left fun c hc=>?_
 obtain ⟨i,hi,rfl⟩:=List.getElem_of_mem hc
 have h1:=(kF_one hi).1
 have ho:(ord fs q).getD (kF fs la q)[i] 0∈ord fs q:=by
  rw [List.getD_eq_getElem?_getD,List.getElem?_eq_getElem h1]; exact List.getElem_mem h1
 have ht:=o4 f hff _ ho
 have hix:=List.idxOf_lt_length_iff.2 ht
 rw [RR_kN fs la q hix]
 have e:(ord fs q).getD ((ord fs q).idxOf (f.getD ((ord fs q).getD (kF fs la q)[i] 0) 0)) 0=f.getD ((ord fs q).getD (kF fs la q)[i] 0) 0:=by
  rw [List.getD_eq_getElem?_getD,List.getElem?_eq_getElem hix,List.getElem_idxOf hix]; rfl
 rw [e,RR_kF]
 rfl
theorem lsL_RR (fs:List (List Nat)) (la:List Nat) (q:Nat):lsL fs la q=(List.range (RR fs la q).length).filter fun c=>decide ((RR fs la q).getD c 0∈la):=by
 unfold lsL
 rw [RR_len]
 refine List.filter_congr fun c hc=>?_
 have hc:=List.mem_range.1 hc
 have:(RR fs la q).getD c 0=(ord fs q).getD ((kF fs la q).getD c 0) 0:=by
  rw [← RR_kF]
  simp [List.getD_eq_getElem?_getD,hc]
 rw [this]
theorem cls_some {same:Nat→Nat→Bool} {R:List Nat} {x:Nat} (h:(R.any fun y=>same y x)=true):∃ hc:cls same R x<R.length,same R[cls same R x] x=true:=by
 unfold cls
 cases hf:R.findIdx? fun y=>same y x with
 | none =>
  obtain ⟨y,hy,e⟩:=List.any_eq_true.1 h
  have:=List.findIdx?_eq_none_iff.1 hf y hy
  rw [e] at this; simp at this
 | some c =>
  obtain ⟨h1,h2,_⟩:=List.findIdx?_eq_some_iff_getElem.1 hf
  exact ⟨h1,h2⟩
theorem fx_congr {α:Type} {p q:α→Bool}:∀ {R:List α},(∀ z∈R,p z=q z)→R.findIdx? p=R.findIdx? q
 | [],_=>rfl
 | a :: R,h=>by
  rw [List.findIdx?_cons,List.findIdx?_cons,h a (by simp),fx_congr fun z hz=>h z (by simp [hz])]
theorem cls_congr {same:Nat→Nat→Bool} {R:List Nat} {x y:Nat} (h:∀ z∈R,same z x=same z y):cls same R x=cls same R y:=by
 unfold cls
 rw [fx_congr h]
theorem lang_least {fs:List (List Nat)} {n q:Nat} (la:List Nat) (hf:∀ f∈fs,Ok f n) (hn:n≤5) (hq:q<n) (w:List Nat) (hw:∀ k∈w,k<fs.length):rnw fs w q∈la↔rnw (lsM fs la q) w 0∈lsL fs la q:=by
 obtain ⟨_,_,o3,o4,_,_⟩:=ord_ok hf hn hq
 have hM:=lsM_RR la hf hn hq
 have hhas:∀ t∈ord fs q,((RR fs la q).any fun y=>smB fs la y t)=true:=rp_has fun x _=>smB_refl fs la x
 have hrun:∀ (w:List Nat) (t:Nat),t∈ord fs q→(∀ k∈w,k<fs.length)→rnw (lsM fs la q) w (cls (smB fs la) (RR fs la q) t)=cls (smB fs la) (RR fs la q) (rnw fs w t)∧rnw fs w t∈ord fs q:=fun w=>by
  induction w with
  | nil=>exact fun t ht _=>⟨rfl,ht⟩
  | cons k w ih =>
   intro t ht hw
   have hk:=hw k (by simp)
   have hgf:fs.getD k []=fs[k]:=by simp [List.getD_eq_getElem?_getD,hk]
   have ht':(fs.getD k []).getD t 0∈ord fs q:=by rw [hgf]; exact o4 _ (List.getElem_mem hk) t ht
   have hi:=ih ((fs.getD k []).getD t 0) ht' fun c hc=>hw c (by simp [hc])
   obtain ⟨hc,hs⟩:=cls_some (hhas t ht)
   have e:((lsM fs la q).getD k []).getD (cls (smB fs la) (RR fs la q) t) 0=cls (smB fs la) (RR fs la q) ((fs.getD k []).getD t 0):=by
    have e1:(lsM fs la q).getD k []=(RR fs la q).map fun u=>cls (smB fs la) (RR fs la q) ((fs.getD k []).getD u 0):=by
     rw [hM,hgf,List.getD_eq_getElem?_getD,List.getElem?_map,List.getElem?_eq_getElem hk]; rfl
    rw [e1,List.getD_eq_getElem?_getD,List.getElem?_map,List.getElem?_eq_getElem hc]
    show cls _ _ _=_
    exact cls_congr fun z _=>smB_congr (smB_step hk hs) z
   refine ⟨?_,hi.2⟩
   show rnw (lsM fs la q) w (((lsM fs la q).getD k []).getD _ 0)=_
   rw [e]
   exact hi.1
 -- the first class is that of q
 have h0:cls (smB fs la) (RR fs la q) q=0:=by
  have ho:∃ r,ord fs q=q :: r:=by
   have:∀ i,∃ r,bl fs ldp [(q:Int)] i=([(q:Int)],[]) :: r:=fun i=>by
    induction i with
    | zero=>exact ⟨[],rfl⟩
    | succ i ih =>
     obtain ⟨r,hr⟩:=ih
     by_cases hi:i<(bl fs ldp [(q:Int)] i).length
     ·rw [bl_succ hi]
      obtain ⟨r2,h2⟩:=advN_preE fs ldp (bl fs ldp [(q:Int)] i) (bl fs ldp [(q:Int)] i)[i] fs.length
      rw [h2,hr]; exact ⟨r ++ r2,rfl⟩
     ·have:=bl_none (fs:=fs) (bf:=ldp) (p:=[(q:Int)]) hi 1
      rw [this]; exact ⟨r,hr⟩
   obtain ⟨r,hr⟩:=this 5
   exact ⟨pl r,by unfold ord; rw [hr]; simp [pl]⟩
  obtain ⟨r,hr⟩:=ho
  obtain ⟨s,hs⟩:=rp_pre (smB fs la) [q] r
  have e:RR fs la q=q :: s:=by
   unfold RR
   rw [hr,show q :: r = [q] ++ r from rfl,hs]
   simp [rp]
  rw [e]
  unfold cls
  rw [List.findIdx?_cons,smB_refl]; rfl
 obtain ⟨h1,h2⟩:=hrun w q o3 hw
 rw [h0] at h1
 rw [h1,lsL_RR,List.mem_filter,List.mem_range,decide_eq_true_iff]
 obtain ⟨hc,hs⟩:=cls_some (hhas _ h2)
 have:=smB_iff.1 hs [] (by simp)
 rw [List.getD_eq_getElem?_getD,List.getElem?_eq_getElem hc]
 exact ⟨fun h=>⟨hc,this.2 h⟩,fun h=>this.1 h.2⟩
end
end
section
section
attribute [local irreducible] ACall PCall KL
theorem ord_mem {fs:List (List Nat)} {n q:Nat} (hf:∀ f∈fs,Ok f n) (hn:n≤5) (hq:q<n) (x:Nat):x∈ord fs q↔Rea fs q x:=by
 obtain ⟨i,hi,hi5⟩:=bl_fin hf hn hq
 have h1:=rch_mem hf hq hi (x:Int)
 rw [rch_ord hf hn hq hi,nz,List.mem_map] at h1
 constructor
 ·intro h
  obtain ⟨y,e,hy⟩:=h1.1 ⟨x,h,rfl⟩
  have:x=y:=by omega
  rw [this]; exact hy
 ·intro h
  obtain ⟨y,hy,e⟩:=h1.2 ⟨x,rfl,h⟩
  have:y=x:=by omega
  rw [← this]; exact hy
theorem rea_word {fs:List (List Nat)} {q x:Nat}:Rea fs q x↔∃ w:List Nat,(∀ k∈w,k<fs.length)∧rnw fs w q=x:=by
 constructor
 ·intro h
  induction h with
  | here=>exact ⟨[],by simp,rfl⟩
  | step f y hff _ ih =>
   obtain ⟨w,hw,rfl⟩:=ih
   obtain ⟨k,hk,rfl⟩:=List.getElem_of_mem hff
   refine ⟨w ++ [k],fun c hc=>?_,?_⟩
   ·rcases List.mem_append.1 hc with hc | hc
    ·exact hw c hc
    ·rw [List.mem_singleton] at hc; subst hc; exact hk
   ·rw [rnw_snoc,show fs.getD k []=fs[k] by rw [List.getD_eq_getElem?_getD,List.getElem?_eq_getElem hk]; rfl]
 ·rintro ⟨w,hw,rfl⟩
  have key:∀ (w:List Nat) (y:Nat),(∀ k∈w,k<fs.length)→Rea fs q y→Rea fs q (rnw fs w y):=fun w=>by
   induction w with
   | nil=>exact fun y _ h=>h
   | cons k w ih =>
    intro y hw h
    have hk:=hw k (by simp)
    refine ih _ (fun c hc=>hw c (by simp [hc])) ?_
    show Rea fs q ((fs.getD k []).getD y 0)
    rw [show fs.getD k []=fs[k] by rw [List.getD_eq_getElem?_getD,List.getElem?_eq_getElem hk]; rfl]
    exact .step _ _ (List.getElem_mem hk) h
  exact key w q hw .here
def Acw (fs:List (List Nat)) (la:List Nat) (q:Nat) (w:List Nat):Prop:=(∀ k∈w,k<fs.length)∧rnw fs w q∈la
theorem twice {fs:List (List Nat)} {n q:Nat} (hf:∀ f∈fs,Ok f n) (hq:q<n) {w:List Nat} (hw:∀ k∈w,k<fs.length) (hl:n≤w.length):∃ i j,i<j∧j≤n∧rnw fs (w.take i) q=rnw fs (w.take j) q:=by
 refine Classical.byContradiction fun hno=>?_
 have hnd:((List.range (n+1)).map fun k=>rnw fs (w.take k) q).Nodup:=by
  rw [List.Nodup,List.pairwise_map]
  refine List.Pairwise.imp_of_mem ?_ (List.pairwise_lt_range (n:=n+1))
  intro a b ha hb hab e
  exact hno ⟨a,b,hab,by have:=List.mem_range.1 hb; omega,e⟩
 have:=nodup_len n _ hnd fun x hx=>by
  obtain ⟨k,_,rfl⟩:=List.mem_map.1 hx
  exact rnw_lt hf hq _ fun c hc=>hw c (List.mem_of_mem_take hc)
 simp at this
 omega
theorem shorten {fs:List (List Nat)} {n q:Nat} {la:List Nat} (hf:∀ f∈fs,Ok f n) (hq:q<n):∀ (l:Nat) (w:List Nat),w.length=l→Acw fs la q w→n≤l→∃ w',Acw fs la q w'∧n≤w'.length∧w'.length<2 * n:=fun l=>by
 induction l using Nat.strongRecOn with
 | ind l ih =>
  intro w hwl hA hn
  by_cases h2:l<2 * n
  ·exact ⟨w,hA,by omega,by omega⟩
  ·obtain ⟨i,j,hij,hj,e⟩:=twice hf hq hA.1 (by omega)
   have hlen:(w.take i ++ w.drop j).length=l - (j - i):=by
    rw [List.length_append,List.length_take,List.length_drop]; omega
   refine ih (l - (j - i)) (by omega) (w.take i ++ w.drop j) hlen ⟨fun k hk=>?_,?_⟩ (by omega)
   ·rcases List.mem_append.1 hk with hk | hk
    ·exact hA.1 k (List.mem_of_mem_take hk)
    ·exact hA.1 k (List.mem_of_mem_drop hk)
   ·rw [rnw_app,e,← rnw_app,List.take_append_drop]
    exact hA.2
def Inf (fs:List (List Nat)) (la:List Nat) (q:Nat):Prop:=∃ p,Rea fs q p∧(∃ f∈fs,Rea fs (f.getD p 0) p)∧∃ r,Rea fs p r∧r∈la
theorem rnw_rep {fs:List (List Nat)} {c:List Nat} {p:Nat} (h:rnw fs c p=p):∀ k,rnw fs (List.replicate k c).flatten p=p
 | 0=>rfl
 | k+1=>by rw [List.replicate_succ,List.flatten_cons,rnw_app,h,rnw_rep h k]
theorem inf_iff {fs:List (List Nat)} {n q:Nat} {la:List Nat} (hf:∀ f∈fs,Ok f n) (hq:q<n):Inf fs la q↔∃ w,Acw fs la q w∧n≤w.length∧w.length<2 * n:=by
 constructor
 ·rintro ⟨p,h1,⟨f,hff,h2⟩,r,h3,hr⟩
  obtain ⟨w1,v1,e1⟩:=rea_word.1 h1
  obtain ⟨k,hk,rfl⟩:=List.getElem_of_mem hff
  obtain ⟨w2,v2,e2⟩:=rea_word.1 h2
  obtain ⟨w3,v3,e3⟩:=rea_word.1 h3
  have hc:rnw fs (k :: w2) p=p:=by
   show rnw fs w2 ((fs.getD k []).getD p 0)=p
   rw [show fs.getD k []=fs[k] by rw [List.getD_eq_getElem?_getD,List.getElem?_eq_getElem hk]; rfl]
   exact e2
  have hv:∀ m,∀ c∈(List.replicate m (k :: w2)).flatten,c<fs.length:=fun m c hc=>by
   obtain ⟨l,hl,hcl⟩:=List.mem_flatten.1 hc
   rw [(List.mem_replicate.1 hl).2] at hcl
   rcases List.mem_cons.1 hcl with rfl | hcl
   ·exact hk
   ·exact v2 c hcl
  have hlen:∀ m,m≤(List.replicate m (k :: w2)).flatten.length:=fun m=>by
   induction m with
   | zero=>exact Nat.zero_le _
   | succ m ih=>rw [List.replicate_succ,List.flatten_cons,List.length_append,List.length_cons]; omega
  have hA:Acw fs la q (w1 ++ ((List.replicate n (k :: w2)).flatten ++ w3)):=by
   refine ⟨fun c hc=>?_,?_⟩
   ·rcases List.mem_append.1 hc with hc | hc
    ·exact v1 c hc
    ·rcases List.mem_append.1 hc with hc | hc
     ·exact hv n c hc
     ·exact v3 c hc
   ·rw [rnw_app,rnw_app,e1,rnw_rep hc,e3]; exact hr
  refine shorten hf hq _ _ rfl hA ?_
  have:=hlen n
  simp only [List.length_append]; omega
 ·rintro ⟨w,hA,h1,h2⟩
  obtain ⟨i,j,hij,hj,e⟩:=twice hf hq hA.1 h1
  have hil:i<w.length:=by omega
  have hd:w.drop i=w[i] :: w.drop (i+1):=List.drop_eq_getElem_cons hil
  have hwi:=hA.1 _ (List.getElem_mem hil)
  refine ⟨rnw fs (w.take i) q,rea_word.2 ⟨_,fun c hc=>hA.1 c (List.mem_of_mem_take hc),rfl⟩,⟨fs[w[i]],List.getElem_mem hwi,?_⟩,rnw fs w q,?_,hA.2⟩
  ·refine rea_word.2 ⟨(w.drop (i+1)).take (j - (i+1)),fun c hc=>hA.1 c (List.mem_of_mem_drop (List.mem_of_mem_take hc)),?_⟩
   have e1:w.take j=w.take i ++ (w[i] :: (w.drop (i+1)).take (j - (i+1))):=by
    have:w.take j=w.take i ++ (w.drop i).take (j - i):=by
     rw [show j=i+(j - i) by omega,List.take_add]
     simp
    rw [this,hd,show j - i=(j - (i+1))+1 by omega,List.take_succ_cons]
   rw [e1,rnw_app] at e
   have e2:rnw fs (w[i] :: (w.drop (i+1)).take (j - (i+1))) (rnw fs (w.take i) q)=rnw fs ((w.drop (i+1)).take (j - (i+1))) ((fs.getD w[i] []).getD (rnw fs (w.take i) q) 0):=rfl
   rw [e2] at e
   rw [show fs.getD w[i] []=fs[w[i]] by rw [List.getD_eq_getElem?_getD,List.getElem?_eq_getElem hwi]; rfl] at e
   exact e.symm
  ·refine rea_word.2 ⟨w.drop i,fun c hc=>hA.1 c (List.mem_of_mem_drop hc),?_⟩
   rw [← rnw_app,List.take_append_drop]
end
end
end Go.Proofs.YtcfmmmloeaggmaaGreat
