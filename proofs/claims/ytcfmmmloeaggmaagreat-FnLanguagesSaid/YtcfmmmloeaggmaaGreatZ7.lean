/- Several texts of this session as one, less what the claim does not need. -/
import Derived.Test.YtcfmmmloeaggmaaGreatCb
import Derived.Test.YtcfmmmloeaggmaaGreatZ5
import Derived.Test.YtcfmmmloeaggmaaGreatZ6
import Derived.Test.YtcfmmmloeaggmaaGreatFC
namespace Go.Proofs.YtcfmmmloeaggmaaGreat
open Go.Kv
set_option linter.unusedVariables false
set_option linter.unusedSimpArgs false
section
section
section
set_option maxRecDepth 100000
abbrev k125_b0s0:KT:=(.op (oP 55 (.build [.nils,.nils] [(0,1,(.t 48)),(1,1,(.t 54))])) (.op (oP 56 (.bsl true 138 2 [(.t 55)])) (.op (oP 57 (.app (.t 47) (.t 56) 138 2)) (.op (mV 8 57) .fin))))
abbrev k125_b0s1:KT:=(.op (oP 54 (.app (.t 51) (.t 53) 2 1)) k125_b0s0)
abbrev k125_b0s2:KT:=(.op (oP 53 (.bsl true 2 1 [(.t 52)])) k125_b0s1)
abbrev k125_b0s3:KT:=(.op (oP 51 (.call (fC 115) [(.t 50)])) k125_b0s1)
abbrev k125_b0s4:KT:=(.alt (.op (oP 51 (.call (fC 115) [(.t 50)])) k125_b0s2) (.op (oP 53 (.bsl true 2 1 [(.t 52)])) k125_b0s3))
abbrev k125_b0s5:KT:=(.op (oP 50 (.load false 1 (.t 49))) k125_b0s3)
abbrev k125_b0s6:KT:=(.alt (.op (oP 50 (.load false 1 (.t 49))) k125_b0s4) (.op (oP 53 (.bsl true 2 1 [(.t 52)])) k125_b0s5))
abbrev k125_b0s7:KT:=(.op (oP 49 (.fieldA 1 (.t 10))) k125_b0s5)
abbrev k125_b0s8:KT:=(.alt (.op (oP 48 (.load false 1 (.t 13))) k125_b0s1) (.op (oP 54 (.app (.t 51) (.t 53) 2 1)) (.op (oP 48 (.load false 1 (.t 13))) k125_b0s0)))
abbrev k125_b0s9:KT:=(.alt (.op (oP 48 (.load false 1 (.t 13))) k125_b0s3) (.op (oP 51 (.call (fC 115) [(.t 50)])) k125_b0s8))
abbrev k125_b0s10:KT:=(.alt (.op (oP 48 (.load false 1 (.t 13))) k125_b0s5) (.op (oP 50 (.load false 1 (.t 49))) k125_b0s9))
def k125_b0:KC:=(.seq (.ops [oP 34 (.bin .lss (.t 33) (.t 32))])
 (.seq (.cond (.t 34) .skip (.exit 2))
 (.seq (.block 3 (.seq (.ops [mV 35 33,oP 36 (.idxS 6 (.t 31) (.t 33)),oP 37 (.load true 6 (.t 36)),oP 12 (.alloc [.int .i64 0,.int .i64 0,.int .i64 0,.int .i64 0,.int .i64 0,.int .i64 0]),mV 11 35,⟨none,none,.store 6 (.t 12) (.t 37)⟩])
 (.seq (.ops [mV 38 2,oP 39 (.load true 6 (.t 12)),oP 40 (.fieldA 0 (.t 10)),oP 41 (.load false 1 (.t 40)),oP 42 (.call (.t 38) [(.t 39),(.t 41)]),oP 13 (.alloc [.nils]),⟨none,none,.store 1 (.t 13) (.t 42)⟩])
 (.seq (.ops [mV 43 8,oP 44 (.mkfn (.func 177) [] [(.t 13)]),oP 45 (.call (fC 176) [(.t 43),(.t 44)]),oP 46 (.not (.t 45))])
 (.cond (.t 46) (.tree (.op (mV 47 8) (.op (mV 52 11) (.alt (.op (oP 48 (.load false 1 (.t 13))) (.alt (.op (oP 49 (.fieldA 1 (.t 10))) k125_b0s6) (.op (oP 53 (.bsl true 2 1 [(.t 52)])) k125_b0s7))) (.alt (.op (oP 49 (.fieldA 1 (.t 10))) (.alt (.op (oP 48 (.load false 1 (.t 13))) k125_b0s6) (.alt (.op (oP 50 (.load false 1 (.t 49))) (.alt (.op (oP 48 (.load false 1 (.t 13))) k125_b0s4) (.alt (.op (oP 51 (.call (fC 115) [(.t 50)])) (.alt (.op (oP 48 (.load false 1 (.t 13))) k125_b0s2) (.op (oP 53 (.bsl true 2 1 [(.t 52)])) k125_b0s8))) (.op (oP 53 (.bsl true 2 1 [(.t 52)])) k125_b0s9)))) (.op (oP 53 (.bsl true 2 1 [(.t 52)])) k125_b0s10)))) (.op (oP 53 (.bsl true 2 1 [(.t 52)])) (.alt (.op (oP 48 (.load false 1 (.t 13))) k125_b0s7) (.op (oP 49 (.fieldA 1 (.t 10))) k125_b0s10)))))))) .skip)))))
 (.ops [oP 58 (.bin .add (.t 33) (iC 1)),mV 33 58]))))
def k125_b1:KC:=(.seq (.seq (.ops [mV 17 9,mV 18 8,oP 19 (.len false (.t 18)),oP 20 (.bin .lss (.t 17) (.t 19))])
 (.cond (.t 20) .skip (.exit 0)))
 (.seq (.block 1 (.seq (.ops [mV 23 8,mV 24 9,oP 25 (.idxS 2 (.t 23) (.t 24)),oP 26 (.load true 2 (.t 25)),oP 10 (.alloc [.nils,.nils]),⟨none,none,.store 2 (.t 10) (.t 26)⟩])
 (.seq (.seq (.ops [mV 27 3,oP 28 (.load true 2 (.t 10)),oP 29 (.call (.t 27) [(.t 28)]),oP 30 (.not (.t 29))])
 (.cond (.t 30) .ret .skip))
 (.seq (.ops [mV 31 0,oP 32 (.len false (.t 31)),oP 33 (.mv (iC 0))])
 (.block 2 (.loop k125_b0))))))
 (.ops [mV 21 9,oP 22 (.bin .add (.t 21) (iC 1)),mV 9 22])))
def k125:KC:=(.seq (.ops [mV 14 1,oP 15 (.build [.nils,.nils] [(0,1,(.t 14)),(1,1,(.c (.nils)))]),oP 16 (.bsl false 138 2 [(.t 15)]),mV 8 16])
 (.seq (.ops [oP 9 (.mv (iC 0))])
 (.block 0 (.loop k125_b1))))
theorem e125:Ent 125 59 [53,56] [] k125:=ent Tryz.func125
end
section
attribute [local irreducible] ACall PCall KL
def qcell (w:PV) (m:Met):PV:=.agg [.list (ints m.1),w]
structure QG (σ:Heap) (A:Nat→Prop) (q ver:Nat) (ws:List PV) (L:List Met):Prop where
 out:σ[q]? = some (.arr ver 138 2 (List.zipWith qcell ws L))
 len:ws.length=L.length
 row:∀ (i:Nat) (w:PV) (m:Met),ws[i]? = some w→L[i]? = some m→Wd σ (fun id=>A id∨id=q) w m.2
theorem QG.cell {σ:Heap} {A:Nat→Prop} {q ver:Nat} {ws:List PV} {L:List Met} (h:QG σ A q ver ws L) {i:Nat} (hi:i<L.length):∃ w,ws[i]? = some w∧(List.zipWith qcell ws L)[i]? = some (qcell w L[i])∧Wd σ (fun id=>A id∨id=q) w L[i].2:=by
 have hw:i<ws.length:=by rw [h.len]; exact hi
 refine ⟨ws[i],by simp [hw],by simp [List.getElem?_zipWith,hw,hi],h.row i _ _ (by simp [hw]) (by simp [hi])⟩
theorem QG.imm {σ:Heap} {A:Nat→Prop} {q ver:Nat} {ws:List PV} {L:List Met} (h:QG σ A q ver ws L):Imm σ (.ref q ver 0 L.length) (.list (mets L)):=by
 refine .ref q ver 0 L.length 138 2 _ (mets L) h.out (by simp [h.len]) (mets_length L) (fun i x d hx hd=>?_) (fun i x d j c c' hx hd hc hc'=>?_)
 all_goals
  rw [Nat.zero_add] at hx
  have hi:i<L.length:=by have:=(List.getElem?_eq_some_iff.1 hd).1; simpa using this
  obtain ⟨w,hw,hc0,hW⟩:=h.cell hi
  rw [hc0] at hx; cases hx
  rw [mets_get hi] at hd; cases hd
 ·exact ⟨rfl,by simp [mcell,PV.cs,PV.ok]⟩
 ·rcases j with _ | _ | j
  ·simp only [qcell,mcell,PV.cs,List.getElem?_cons_zero,Option.some.injEq] at hc hc'
   subst hc; subst hc'
   exact .still
  ·simp only [qcell,mcell,PV.cs,List.getElem?_cons_succ,List.getElem?_cons_zero,Option.some.injEq] at hc hc'
   subst hc; subst hc'
   exact hW.imm
  ·simp [qcell,PV.cs] at hc
theorem QG.keep {σ σ':Heap} {A A':Nat→Prop} {q ver:Nat} {ws:List PV} {L:List Met} (h:QG σ A q ver ws L) (hq:¬ A q) (hk:∀ id,id < σ.length→¬ A id→σ'[id]? = σ[id]?∧¬ A' id):QG σ' A' q ver ws L where
 out:=(hk q (List.getElem?_eq_some_iff.1 h.out).1 hq).1.trans h.out
 len:=h.len
 row:=fun i w m hw hm=>(h.row i w m hw hm).keep fun id hid hA=>by
  simp only [not_or] at hA ⊢
  exact ⟨(hk id hid hA.1).1,(hk id hid hA.1).2,hA.2⟩
theorem QG.push {σ:Heap} {A:Nat→Prop} {q ver:Nat} {ws:List PV} {L:List Met} (h:QG σ A q ver ws L) {p l:List Int} {w:PV} (hw:Wd σ (fun id=>A id∨id=q) w l) (hl:L.length≤1000) {K:PV→Heap→Prop}
  (hK:QG (σ.set q (.arr (ver+1) 138 2 (List.zipWith qcell ws L ++ [qcell w (p,l)]))) A q (ver+1) (ws ++ [w]) (L ++ [(p,l)])→K (.ref q (ver+1) 0 (L.length+1)) (σ.set q (.arr (ver+1) 138 2 (List.zipWith qcell ws L ++ [qcell w (p,l)])))) :
  aApp 138 2 (.ref q ver 0 L.length) (.list [.agg [.list (ints p),w]]) σ K:=by
 have hlt:=(List.getElem?_eq_some_iff.1 h.out).1
 have hzl:(List.zipWith qcell ws L).length=L.length:=by simp [h.len]
 have hok:okL 2 [PV.agg [.list (ints p),w]]=True:=by
  rcases hw with ⟨rfl,rfl⟩ | ⟨id,ver,rfl,_,_⟩ <;> simp [okL,PV.cs,PV.ok]
 have hQ:QG (σ.set q (.arr (ver+1) 138 2 (List.zipWith qcell ws L ++ [qcell w (p,l)]))) A q (ver+1) (ws ++ [w]) (L ++ [(p,l)]):=by
  refine ⟨?_,by simp [h.len],fun i w' m hw' hm=>?_⟩
  ·rw [List.getElem?_set_self hlt,List.zipWith_append h.len]
   rfl
  ·have hset:∀ id,id < σ.length→¬ (A id∨id=q)→(σ.set q (.arr (ver+1) 138 2 (List.zipWith qcell ws L ++ [qcell w (p,l)])))[id]? = σ[id]?∧¬ (A id∨id=q):=fun id _ hA=>by
    refine ⟨List.getElem?_set_ne ?_,hA⟩
    rintro rfl; exact hA (.inr rfl)
   rw [List.getElem?_append] at hw' hm
   split at hw'
   ·rename_i hi
    rw [if_pos (by rw [← h.len]; exact hi)] at hm
    exact (h.row i w' m hw' hm).keep hset
   ·rename_i hi
    rw [if_neg (by rw [← h.len]; exact hi)] at hm
    have e1:=List.mem_of_getElem? hw'
    have e2:=List.mem_of_getElem? hm
    simp only [List.mem_singleton] at e1 e2
    subst e1; subst e2
    exact hw.keep hset
 simp only [aApp_ref,h.out,AppR_arr,aNews_list,hok,true_and,AppM_def]
 rw [List.take_of_length_le (by omega)]
 exact ⟨⟨by omega,by simp; omega⟩,hK hQ⟩
theorem putC2 (a b c d:PV):putC [a,b] 0 [c,d] = [c,d]:=by unfold putC; first | rfl | (split <;> rfl) | simp
def advN (fs:List (List Nat)) (bf:List Nat→List Int→List Int) (Q:List Met) (m:Met) (k:Nat):List Met :=
 (List.range k).foldl (fun Q k=>if (Q.any fun x=>decide (x.1=bf (fs.getD k []) m.1))=true then Q else Q ++ [(bf (fs.getD k []) m.1,m.2 ++ [(k:Int)])]) Q
theorem advN_succ (fs:List (List Nat)) (bf:List Nat→List Int→List Int) (Q:List Met) (m:Met) (k:Nat):advN fs bf Q m (k+1)=if ((advN fs bf Q m k).any fun x=>decide (x.1=bf (fs.getD k []) m.1))=true then advN fs bf Q m k else advN fs bf Q m k ++ [(bf (fs.getD k []) m.1,m.2 ++ [(k:Int)])]:=by
 unfold advN
 rw [List.range_succ,List.foldl_append]
 rfl
theorem advN_mono (fs:List (List Nat)) (bf:List Nat→List Int→List Int) (Q:List Met) (m:Met) {k k':Nat} (h:k≤k'):(advN fs bf Q m k).length≤(advN fs bf Q m k').length:=by
  induction k' with
  | zero => obtain rfl : k = 0 := by omega
            exact Nat.le_refl _
  | succ k' ih =>
    by_cases e:k=k'+1
    · subst e; exact Nat.le_refl _
    · refine Nat.le_trans (ih (by omega)) ?_
      rw [advN_succ]
      split
      · exact Nat.le_refl _
      · simp
def bq {α:Type} (fs:List (List Nat)) (bf:List Nat→List Int→List Int) (nx:α→List Int→α) (s0:List Met × α):Nat→List Met × α
 | 0=>s0
 | i+1=>match (bq fs bf nx s0 i).1[i]? with
  | some m=>(advN fs bf (bq fs bf nx s0 i).1 m fs.length,nx (bq fs bf nx s0 i).2 m.1)
  | none=>bq fs bf nx s0 i
theorem bq_succ {α:Type} {fs:List (List Nat)} {bf:List Nat→List Int→List Int} {nx:α→List Int→α} {s0:List Met × α} {i:Nat} (h:i<(bq fs bf nx s0 i).1.length) :
  bq fs bf nx s0 (i+1)=(advN fs bf (bq fs bf nx s0 i).1 (bq fs bf nx s0 i).1[i] fs.length,nx (bq fs bf nx s0 i).2 (bq fs bf nx s0 i).1[i].1):=by
 have:(bq fs bf nx s0 i).1[i]? = some (bq fs bf nx s0 i).1[i]:=List.getElem?_eq_getElem h
 rw [bq,this]
set_option maxHeartbeats 4000000 in
theorem p125 {α:Type} (fs:List (List Nat)) (n:Nat) (hf:∀ f∈fs,Ok f n) (hfl:fs.length≤1000) (bid eid:FuncId) (caps:List PV) (bf:List Nat→List Int→List Int) (okp:List Int→Prop)
  (hokl:∀ p,okp p→p.length≤1000) (hokb:∀ f∈fs,∀ p,okp p→okp (bf f p))
  (hby:∀ f∈fs,∀ p,okp p→Pure Tryz.prog bid [.agg (ints (mp f)),.list (ints p)] (.list (ints (bf f p))))
  (I:α→Heap→Prop) (U:α→Nat→Prop) (nx:α→List Int→α) (go:α→List Int→Bool) (D:α→List Int→List Int→Heap→Prop)
  (hIlt:∀ a σ id,I a σ→U a id→id < σ.length) (hIk:∀ a σ σ',I a σ→(∀ id,U a id→σ'[id]? = σ[id]?)→σ.length≤σ'.length→I a σ')
  (heach:∀ a σ p w l,okp p→I a σ→Wd σ (U a) w l→∀ K:PV→Heap→Prop,
   (go a p=true→∀ σ',I (nx a p) σ'→σ.length≤σ'.length→(∀ id,id < σ.length→¬ U a id→σ'[id]? = σ[id]?∧¬ U (nx a p) id)→K (.bool true) σ') →
   (go a p=false→∀ σ',D a p l σ'→K (.bool false) σ')→ACall Tryz.prog eid (.agg [.list (ints p),w] :: caps) σ K)
  (a0:α) (from0:List Int) (hok0:okp from0) (N:Nat) (hN:N≤1000) (hB:∀ i,(bq fs bf nx ([(from0,[])],a0) i).1.length≤N)
  (σ0:Heap) (hI0:I a0 σ0) (K:PV→Heap→Prop)
  (hK1:∀ i (h:i<(bq fs bf nx ([(from0,[])],a0) i).1.length),go (bq fs bf nx ([(from0,[])],a0) i).2 (bq fs bf nx ([(from0,[])],a0) i).1[i].1=false→(∀ j (h:j<(bq fs bf nx ([(from0,[])],a0) j).1.length),j<i→go (bq fs bf nx ([(from0,[])],a0) j).2 (bq fs bf nx ([(from0,[])],a0) j).1[j].1=true) →
   ∀ σ',D (bq fs bf nx ([(from0,[])],a0) i).2 (bq fs bf nx ([(from0,[])],a0) i).1[i].1 (bq fs bf nx ([(from0,[])],a0) i).1[i].2 σ'→K (.tup []) σ')
  (hK2:∀ i,i=(bq fs bf nx ([(from0,[])],a0) i).1.length→(∀ j (h:j<(bq fs bf nx ([(from0,[])],a0) j).1.length),j<i→go (bq fs bf nx ([(from0,[])],a0) j).2 (bq fs bf nx ([(from0,[])],a0) j).1[j].1=true)→∀ σ',I (bq fs bf nx ([(from0,[])],a0) i).2 σ'→K (.tup []) σ') :
  ACall Tryz.prog 125 [.list (aggs (fs.map mp)),.list (ints from0),.fn (.func bid) [] [],.fn (.func eid) [] caps] σ0 K:=by
 generalize hs:bq fs bf nx ([(from0,[])],a0)=S at *
 have hS0:S 0=([(from0,[])],a0):=by rw [← hs]; rfl
 have hSs:∀ i (h:i<(S i).1.length),S (i+1)=(advN fs bf (S i).1 (S i).1[i] fs.length,nx (S i).2 (S i).1[i].1):=by
  rw [← hs]; exact fun i h=>bq_succ h
 refine e125 (by simp) fun _ _=>?_
 simp only [k125,argEnv,go_sem]
 try simp only [go_sem]
 generalize hq:σ0.length=q at *
 refine KL_ind k125_b1.eq_1 (fun x:Nat × Nat × List PV × Heap=>[(0,.list (aggs (fs.map mp))),(2,.fn (.func bid) [] []),(3,.fn (.func eid) [] caps),(8,.ref q x.2.1 0 (S x.1).1.length),(9,.int .i64 x.1)]) (fun x=>x.2.2.2)
  (fun x=>x.1≤(S x.1).1.length∧(∀ j (h:j<(S j).1.length),j<x.1→go (S j).2 (S j).1[j].1=true)∧I (S x.1).2 x.2.2.2∧¬ U (S x.1).2 q∧QG x.2.2.2 (U (S x.1).2) q x.2.1 x.2.2.1 (S x.1).1∧(∀ m∈(S x.1).1,okp m.1∧m.2.length+1≤(S x.1).1.length)) (fun x=>N+1 - x.1) [0,2,3,8,9]
  (0,0,[.nils],σ0 ++ [.arr 0 138 2 [.agg [.list (ints from0),.nils]]]) ?_ rfl ?_ fun ⟨i,ver,ws,σ⟩ ⟨hi,hgo,hI,hUq,hG,hok⟩ ih=>?_
 ·simp [keep,hS0]
 ·have hlen0:q<(σ0 ++ [AObj.arr 0 138 2 [.agg [.list (ints from0),.nils]]]).length:=by simp [← hq]
  have hU0:¬ U (S 0).2 q:=fun h=>by
   rw [hS0] at h
   have:=hIlt _ _ _ hI0 h
   omega
  refine ⟨Nat.zero_le _,fun j _ h=>by omega,?_,hU0,?_,?_⟩
  ·show I (S 0).2 _
   rw [hS0]
   refine hIk a0 σ0 _ hI0 (fun id hid=>?_) (by simp)
   rw [List.getElem?_append_left (hIlt _ _ _ hI0 hid)]
  ·show QG _ _ q 0 [.nils] (S 0).1
   rw [hS0]
   refine ⟨by simp [← hq,qcell],rfl,fun i w m hw hm=>.inl ⟨?_,?_⟩⟩
   ·have:=List.mem_of_getElem? hw; simpa using this
   ·have:=List.mem_of_getElem? hm
    simp only [List.mem_singleton] at this; rw [this]
  ·intro m hm
   have hm:m∈(S 0).1:=hm
   show okp m.1∧m.2.length+1≤(S 0).1.length
   rw [hS0] at hm ⊢
   simp only [List.mem_singleton] at hm
   subst hm
   exact ⟨hok0,by simp⟩
 ·simp only at hi hgo hI hUq hG hok
  have hBi:=hB i
  have hout:=hG.out
  have hqlt:=(List.getElem?_eq_some_iff.1 hout).1
  have hzl:(List.zipWith qcell ws (S i).1).length=(S i).1.length:=by simp [hG.len]
  try simp only [OpK_eq,hout,hzl,go_sem]
  refine ⟨fun h1=>?_,fun h1=>?_⟩
  ·have hil:i<(S i).1.length:=by omega
   obtain ⟨w,hw,hcell,hW⟩:=hG.cell hil
   have hSi:=hSs i hil
   have hmem:=hok _ (List.getElem_mem hil)
   generalize hm:(S i).1[i]=m at *
   have hsub:subC (qcell w m).cs 0 2 = [.list (ints m.1),w]:=subC2 _ _
   have hput:putC [.nils,.nils] 0 [.list (ints m.1),w] = [PV.list (ints m.1),w]:=putC2 _ _ _ _
   have hwok:[PV.list (ints m.1),w].all PV.ok=true:=by rcases hW with ⟨rfl,_⟩ | ⟨_,_,rfl,_⟩ <;> simp [PV.ok]
   refine ⟨⟨h1,Nat.le_refl _⟩,hil,fun x hx=>?_⟩
   rw [hcell] at hx; cases hx
   rw [hsub,hput,subC2]
   refine ⟨Nat.le_refl _,⟨rfl,hwok⟩,Nat.le_refl _,?_⟩
   have hlt1:∀ id,id < σ.length→(σ ++ [AObj.box [.list (ints m.1),w]])[id]? = σ[id]?:=fun id h=>List.getElem?_append_left h
   have hI1:I (S i).2 (σ ++ [AObj.box [.list (ints m.1),w]]):=hIk _ _ _ hI (fun id hid=>hlt1 id (hIlt _ _ _ hI hid)) (by simp)
   have hW1:Wd (σ ++ [AObj.box [.list (ints m.1),w]]) (U (S i).2) w m.2:=hW.keep fun id hid hA=>⟨hlt1 id hid,fun hu=>hA (.inl hu)⟩
   refine heach _ _ m.1 w m.2 hmem.1 hI1 hW1 _ (fun hgt σ' hI' hle hkeep=>?_) (fun hgf σ' hD=>?_)
   ·have hb10:σ'[σ.length]? = some (.box [.list (ints m.1),w]):=by
     rw [(hkeep σ.length (by simp) (fun hu=>by have:=hIlt _ _ _ hI hu; omega)).1]
     simp
    have hUb:¬ U (nx (S i).2 m.1) σ.length:=(hkeep σ.length (by simp) (fun hu=>by have:=hIlt _ _ _ hI hu; omega)).2
    have hkeep2:∀ id,id < σ.length→¬ U (S i).2 id→σ'[id]? = σ[id]?∧¬ U (nx (S i).2 m.1) id:=fun id hid hu=>by
     obtain ⟨k1,k2⟩:=hkeep id (by simp; omega) hu
     exact ⟨k1.trans (hlt1 id hid),k2⟩
    have hG':=hG.keep hUq hkeep2
    have hUq':=(hkeep2 q hqlt hUq).2
    have hW':Wd σ' (fun id=>U (nx (S i).2 m.1) id∨id=q) w m.2:=hW.keep fun id hid hA=>by
     simp only [not_or] at hA ⊢
     exact ⟨(hkeep2 id hid hA.1).1,(hkeep2 id hid hA.1).2,hA.2⟩
    have hgo':∀ j (h:j<(S j).1.length),j<i+1→go (S j).2 (S j).1[j].1=true:=fun j h hj=>by
     by_cases e:j=i
     ·subst e; rw [hm]; exact hgt
     ·exact hgo j h (by omega)
    have hbq:σ.length≠q:=by omega
    generalize hb:σ.length=b at *
    generalize ha':nx (S i).2 m.1=a' at *
    clear hkeep hkeep2 hI1 hW1 hlt1 hG hI hW hcell hw hout hzl
    clear hb hqlt
    try simp only [OpK_eq,List.length_map,go_sem]
    have hadvB:∀ k,k≤fs.length→(advN fs bf (S i).1 m k).length≤N:=fun k hk=>by
     have h1:=advN_mono fs bf (S i).1 m hk
     have h2:=hB (i+1)
     rw [hSi] at h2
     exact Nat.le_trans h1 h2
    refine KL_ind k125_b0.eq_1 (fun x:Nat × Nat × List PV × Heap=>[(0,.list (aggs (fs.map mp))),(2,.fn (.func bid) [] []),(3,.fn (.func eid) [] caps),(8,.ref q x.2.1 0 (advN fs bf (S i).1 m x.1).length),(9,.int .i64 i),(10,.ptr b 0),(31,.list (aggs (fs.map mp))),(32,.int .i64 fs.length),(33,.int .i64 x.1)]) (fun x=>x.2.2.2)
     (fun x=>x.1≤fs.length∧I a' x.2.2.2∧QG x.2.2.2 (U a') q x.2.1 x.2.2.1 (advN fs bf (S i).1 m x.1)∧x.2.2.2[b]? = some (.box [.list (ints m.1),w])∧Wd x.2.2.2 (fun id=>U a' id∨id=q) w m.2∧(∀ y∈advN fs bf (S i).1 m x.1,okp y.1∧y.2.length+1≤(advN fs bf (S i).1 m x.1).length)) (fun x=>fs.length - x.1) [0,2,3,8,9,10,31,32,33]
     (0,ver,ws,σ') (by rfl) rfl ⟨Nat.zero_le _,hI',hG',hb10,hW',hok⟩ fun ⟨k,ver2,ws2,τ⟩ ⟨hk,hI2,hG2,hb2,hW2,hok2⟩ ihk=>?_
    simp only at hk hI2 hG2 hb2 hW2 hok2
    clear hI' hG' hb10 hW' hok hle
    have hsucc:=advN_succ fs bf (S i).1 m k
    have hlenB:=hadvB k hk
    have hmlen:=hmem.2
    generalize hL:advN fs bf (S i).1 m k=L at *
    have hout:=hG2.out
    have hblt:=(List.getElem?_eq_some_iff.1 hb2).1
    have hqlt:=(List.getElem?_eq_some_iff.1 hout).1
    try simp only [OpK_eq,List.length_map,go_sem]
    refine ⟨fun h3=>?_,fun h3=>?_⟩
    ·have hkl:k<fs.length:=by omega
     have hfk:=hf _ (List.getElem_mem hkl)
     have h6:=hfk.mp_len
     have hgk:(fs.map mp).getD k []=mp fs[k]:=by simp [List.getD_eq_getElem?_getD,hkl]
     rw [hgk]
     try simp only [OpK_eq,h6,go_sem]
     refine ⟨h3,fun _=>?_⟩
     have hbx:∀ X,(τ ++ X)[b]? = some (.box [.list (ints m.1),w]):=fun X=>(List.getElem?_append_left hblt).trans hb2
     have ht0:∀ (x:AObj) X,(τ ++ x :: X)[τ.length]? = some x:=fun x X=>by simp
     have ht1:∀ (x y:AObj) X,(τ ++ x :: y :: X)[τ.length+1]? = some y:=fun x y X=>by
      rw [List.getElem?_append_right (by omega)]; simp
     have hs0:∀ (x z:AObj) X,(τ ++ x :: X).set τ.length z = τ ++ z :: X:=fun x z X=>by
      rw [List.set_append_right _ _ (Nat.le_refl _)]; simp
     have hs1:∀ (x y z:AObj) X,(τ ++ x :: y :: X).set (τ.length+1) z = τ ++ x :: z :: X:=fun x y z X=>by
      rw [List.set_append_right _ _ (by omega)]; simp
     try simp only [OpK_eq,h6,hbx,HKv,List.append_assoc,List.cons_append,List.nil_append,ht0,ht1,hs0,hs1,go_sem]
     refine (hby _ (List.getElem_mem hkl) m.1 hmem.1).go ?_
     have hnx:=hokb _ (List.getElem_mem hkl) m.1 hmem.1
     have hgf:fs.getD k []=fs[k]:=by simp [List.getD_eq_getElem?_getD,hkl]
     rw [hgf] at hsucc
     generalize hnxe:bf fs[k] m.1=nxp at *
     try simp only [OpK_eq,h6,hbx,HKv,List.append_assoc,List.cons_append,List.nil_append,ht0,ht1,hs0,hs1,go_sem]
     have hG3:∀ X,QG (τ ++ X) (U a') q ver2 ws2 L:=fun X=>hG2.keep hUq' fun id hid hu=>⟨List.getElem?_append_left hid,hu⟩
     have hW3:∀ X,Wd (τ ++ X) (fun id=>U a' id∨id=q) w m.2:=fun X=>hW2.keep fun id hid hu=>⟨List.getElem?_append_left hid,hu⟩
     have hI3:∀ X,I a' (τ ++ X):=fun X=>hIk _ _ _ hI2 (fun id hid=>List.getElem?_append_left (hIlt _ _ _ hI2 hid)) (by simp)
     refine (p176 L (by omega) 177 [.fptr [.list (ints nxp)] 0] (fun x=>decide (x.1=nxp)) (fun x hx=>p177 x nxp (by have:=hokl _ hnx; omega) (by have:=hokl _ (hok2 x hx).1; omega))).lend (.cons (hG3 _).imm (.cons (Imm.fnc _ (.cons (Imm.ptr (τ.length+1) 0 [.list (ints nxp)] [.list (ints nxp)] (ht1 _ _ _) rfl (by simp [PV.ok]) (fun j c d hc hd=>by rw [hc] at hd; cases hd; have:=List.mem_of_getElem? hc; simp only [List.mem_singleton] at this; subst this; exact .still)) (.nil _))) (.nil _))) ?_
     cases hany:L.any (fun x=>decide (x.1=nxp)) with
     | true =>
      rw [if_pos hany] at hsucc
      try simp only [OpK_eq,go_sem]
      refine ⟨by omega,ihk (k+1,ver2,ws2,τ ++ _) ⟨by show k+1≤fs.length; omega,hI3 _,?_,hbx _,hW3 _,?_⟩ (by show fs.length - (k+1)<fs.length - k; omega) _ _ ?_ rfl⟩
      ·show QG _ _ q ver2 ws2 (advN fs bf (S i).1 m (k+1))
       rw [hsucc]; exact hG3 _
      ·show ∀ y∈advN fs bf (S i).1 m (k+1),_∧_≤(advN fs bf (S i).1 m (k+1)).length
       rw [hsucc]; exact hok2
      ·simp [keep,hsucc]
     | false =>
      rw [if_neg (by rw [hany]; simp)] at hsucc
      have hlenB1:=hadvB (k+1) (by omega)
      rw [hsucc,List.length_append,List.length_singleton] at hlenB1
      have hnext:∀ ver' w' ρ,I a' ρ→QG ρ (U a') q ver' (ws2 ++ [w']) (L ++ [(nxp,m.2 ++ [(k:Int)])])→ρ[b]? = some (.box [.list (ints m.1),w])→Wd ρ (fun id=>U a' id∨id=q) w m.2→∀ env,keep [0,2,3,8,9,10,31,32,33] env = [(0,.list (aggs (fs.map mp))),(2,.fn (.func bid) [] []),(3,.fn (.func eid) [] caps),(8,.ref q ver' 0 (L.length+1)),(9,.int .i64 i),(10,.ptr b 0),(31,.list (aggs (fs.map mp))),(32,.int .i64 fs.length),(33,.int .i64 (k+1:Nat))]→KL (mkCfg Tryz.prog mixed [53,56] 59 q) k125_b0 _ env ρ:=fun ver' w' ρ q1 q2 q3 q4 env q5 =>
       ihk (k+1,ver',ws2 ++ [w'],ρ) ⟨by show k+1≤fs.length; omega,q1,by show QG ρ _ q ver' _ (advN fs bf (S i).1 m (k+1)); rw [hsucc]; exact q2,q3,q4,by
        show ∀ y∈advN fs bf (S i).1 m (k+1),_∧_≤(advN fs bf (S i).1 m (k+1)).length
        rw [hsucc]
        intro y hy
        rw [List.length_append,List.length_singleton]
        rcases List.mem_append.1 hy with hy | hy
        ·have:=hok2 y hy; exact ⟨this.1,by omega⟩
        ·simp only [List.mem_singleton] at hy; subst hy
         refine ⟨hnx,?_⟩
         simp only [List.length_append,List.length_singleton]
         have hmono:=advN_mono fs bf (S i).1 m (Nat.zero_le k)
         rw [hL] at hmono
         have e:advN fs bf (S i).1 m 0=(S i).1:=rfl
         rw [e] at hmono
         omega⟩ (by show fs.length - (k+1)<fs.length - k; omega) env ρ (by rw [q5,hsucc]; simp) rfl
      clear ih ihk
      have hpush:∀ X w',Wd (τ ++ X) (fun id=>U a' id∨id=q) w' (m.2 ++ [(k:Int)])→∀ K':PV→Heap→Prop,
        (∀ ρ,I a' ρ→QG ρ (U a') q (ver2+1) (ws2 ++ [w']) (L ++ [(nxp,m.2 ++ [(k:Int)])])→ρ[b]? = some (.box [.list (ints m.1),w])→Wd ρ (fun id=>U a' id∨id=q) w m.2→K' (.ref q (ver2+1) 0 (L.length+1)) ρ) →
        aApp 138 2 (.ref q ver2 0 L.length) (.list [.agg [.list (ints nxp),w']]) (τ ++ X) K':=fun X w' hw' K' hK' =>
       (hG3 X).push hw' (by omega) fun hQ=>by
        refine hK' _ ?_ hQ ?_ ?_
        ·refine hIk _ _ _ (hI3 X) (fun id hid=>List.getElem?_set_ne ?_) (by simp)
         rintro rfl; exact hUq' hid
        ·rw [List.getElem?_set_ne (Ne.symm hbq)]; exact hbx X
        ·refine (hW3 X).keep fun id _ hA=>⟨List.getElem?_set_ne ?_,hA⟩
         rintro rfl; exact hA (.inr rfl)
      have ht2:∀ (x y z:AObj) X,(τ ++ x :: y :: z :: X)[τ.length+2]? = some z:=fun x y z X=>by
       rw [List.getElem?_append_right (by omega)]; simp
      have hs2:∀ (x y z u:AObj) X,(τ ++ x :: y :: z :: X).set (τ.length+2) u = τ ++ x :: y :: u :: X:=fun x y z u X=>by
       rw [List.set_append_right _ _ (by omega)]; simp
      have hwd:∀ (x y:AObj) vr l,Wd (τ ++ [x,y,.arr vr 2 1 (ints l)]) (fun id=>U a' id∨id=q) (.ref (τ.length+2) vr 0 l.length) l:=fun x y vr l=>by
       refine .inr ⟨_,vr,rfl,ht2 _ _ _ _,fun h=>?_⟩
       rcases h with h | h
       ·have:=hIlt _ _ _ hI2 h; omega
       ·omega
      have hwd1:∀ (x y:AObj),Wd (τ ++ [x,y,.arr 2 2 1 (ints (m.2 ++ [(k:Int)]))]) (fun id=>U a' id∨id=q) (.ref (τ.length+2) 2 0 (m.2.length+1)) (m.2 ++ [(k:Int)]):=fun x y=>by
       have:=hwd x y 2 (m.2 ++ [(k:Int)])
       rwa [List.length_append,List.length_singleton] at this
      have hwd0:m.2 = []→∀ (x y:AObj),Wd (τ ++ [x,y,.arr 0 2 1 [.int .i64 k]]) (fun id=>U a' id∨id=q) (.ref (τ.length+2) 0 0 1) (m.2 ++ [(k:Int)]):=fun h0 x y=>by
       rw [h0]; exact hwd x y 0 [(k:Int)]
      generalize hvq:PV.ref q ver2 0 L.length=vq at *
      try simp only [OpK_eq,hbx,HKv,ht0,ht1,go_sem]
      iterate 8
       all_goals (try (rw [vT_alt]; refine ⟨?_,?_⟩))
       all_goals (try (try simp only [OpK_eq,hbx,HKv,ht0,ht1,go_sem] ))
      all_goals (refine ACall.lend (p115P m.2 (by omega)) (.cons (hW3 _).imm (.nil _)) fun v s hv=>?_)
      all_goals (rcases hv with ⟨rfl,rfl⟩ | ⟨hl0,rfl,rfl⟩)
      all_goals (first | refine ⟨⟨free_ref _ _ _ _,Free.ints _ _ _ _⟩,?_⟩ | refine ⟨⟨Plain.nils.fr,Free.nil⟩,?_⟩)
      all_goals (try (try simp only [OpK_eq,hbx,HKv,ht0,ht1,ht2,hs2,ren_ref,List.append_assoc,List.cons_append,List.nil_append,go_sem] ))
      iterate 8
       all_goals (try (rw [vT_alt]; refine ⟨?_,?_⟩))
       all_goals (try (try simp only [OpK_eq,hbx,HKv,ht0,ht1,ht2,hs2,ren_ref,List.append_assoc,List.cons_append,List.nil_append,go_sem] ))
      all_goals (first | refine ⟨⟨Nat.le_refl _,by omega⟩,hpush [_,_,_] _ (hwd1 _ _) _ fun ρ q1 q2 q3 q4=>?_⟩ | refine hpush [_,_,_] _ (hwd0 hl0 _ _) _ fun ρ q1 q2 q3 q4=>?_)
      all_goals (try simp only [OpK_eq,go_sem] )
      all_goals exact ⟨by omega,hnext (ver2+1) _ ρ q1 q2 q3 q4 _ (by simp [keep])⟩
    ·have hke:k=fs.length:=by omega
     subst hke
     try simp only [go_sem]
     refine ⟨by omega,ih (i+1,ver2,ws2,τ) ⟨?_,hgo',?_,?_,?_,?_⟩ (by show N+1 - (i+1)<N+1 - i; omega) _ _ ?_ rfl⟩
     ·show i+1≤(S (i+1)).1.length
      rw [hSi]
      have:=advN_mono fs bf (S i).1 m (Nat.zero_le fs.length)
      have e:advN fs bf (S i).1 m 0=(S i).1:=rfl
      rw [e] at this
      show i+1≤(advN fs bf (S i).1 m fs.length).length
      omega
     ·show I (S (i+1)).2 τ
      rw [hSi]; exact hI2
     ·show ¬ U (S (i+1)).2 q
      rw [hSi]; exact hUq'
     ·show QG τ (U (S (i+1)).2) q ver2 ws2 (S (i+1)).1
      rw [hSi,hL]; exact hG2
     ·show ∀ y∈(S (i+1)).1,okp y.1∧y.2.length+1≤(S (i+1)).1.length
      rw [hSi,hL]; exact hok2
     ·rw [hSi,hL]; simp [keep]
   ·try simp only [OpK_eq,go_sem]
    exact Kv.Fin.now (hK1 i hil (by rw [hm]; exact hgf) hgo σ' (by rw [hm]; exact hD))
  ·have hie:i=(S i).1.length:=by omega
   exact Kv.Fin.now (hK2 i hie hgo σ hI)
end
end
section
section
attribute [local irreducible] ACall PCall KL
def bl (fs:List (List Nat)) (bf:List Nat→List Int→List Int) (p:List Int):Nat→List Met
 | 0=>[(p,[])]
 | i+1=>match (bl fs bf p i)[i]? with
  | some m=>advN fs bf (bl fs bf p i) m fs.length
  | none=>bl fs bf p i
theorem bl_succ {fs:List (List Nat)} {bf:List Nat→List Int→List Int} {p:List Int} {i:Nat} (h:i<(bl fs bf p i).length):bl fs bf p (i+1)=advN fs bf (bl fs bf p i) (bl fs bf p i)[i] fs.length:=by
 have:(bl fs bf p i)[i]? = some (bl fs bf p i)[i]:=List.getElem?_eq_getElem h
 rw [bl,this]
set_option maxHeartbeats 4000000 in
theorem p125J {α:Type} (fs:List (List Nat)) (n:Nat) (hf:∀ f∈fs,Ok f n) (hfl:fs.length≤1000) (bid eid:FuncId) (caps:List PV) (bf:List Nat→List Int→List Int) (okp:List Int→Prop)
  (hokl:∀ p,okp p→p.length≤1000) (hokb:∀ f∈fs,∀ p,okp p→okp (bf f p))
  (hby:∀ f∈fs,∀ p,okp p→Pure Tryz.prog bid [.agg (ints (mp f)),.list (ints p)] (.list (ints (bf f p))))
  (I:α→Heap→Prop) (U:α→Nat→Prop) (nx:α→List Int→α→Prop) (go:α→List Int→Bool) (D:α→List Int→List Int→Heap→Prop)
  (hIlt:∀ a σ id,I a σ→U a id→id < σ.length) (hIk:∀ a σ σ',I a σ→(∀ id,U a id→σ'[id]? = σ[id]?)→σ.length≤σ'.length→I a σ')
  (N:Nat) (J:Nat→α→Prop)
  (heach:∀ i a σ p w l,J i a→i≤N→okp p→I a σ→Wd σ (U a) w l→∀ K:PV→Heap→Prop,
   (go a p=true→∀ a' σ',nx a p a'→I a' σ'→σ.length≤σ'.length→(∀ id,id < σ.length→¬ U a id→σ'[id]? = σ[id]?∧¬ U a' id)→K (.bool true) σ') →
   (go a p=false→∀ σ',D a p l σ'→K (.bool false) σ')→ACall Tryz.prog eid (.agg [.list (ints p),w] :: caps) σ K)
  (a0:α) (from0:List Int) (hok0:okp from0) (hN:N≤1000) (hB:∀ i,(bl fs bf from0 i).length≤N) (hJ0:J 0 a0) (hJs:∀ i a a' (h:i<(bl fs bf from0 i).length),J i a→go a (bl fs bf from0 i)[i].1=true→nx a (bl fs bf from0 i)[i].1 a'→J (i+1) a')
  (σ0:Heap) (hI0:I a0 σ0) (K:PV→Heap→Prop)
  (hK1:∀ i a (h:i<(bl fs bf from0 i).length),J i a→go a (bl fs bf from0 i)[i].1=false→∀ σ',D a (bl fs bf from0 i)[i].1 (bl fs bf from0 i)[i].2 σ'→K (.tup []) σ')
  (hK2:∀ i a,i=(bl fs bf from0 i).length→J i a→∀ σ',I a σ'→K (.tup []) σ') :
  ACall Tryz.prog 125 [.list (aggs (fs.map mp)),.list (ints from0),.fn (.func bid) [] [],.fn (.func eid) [] caps] σ0 K:=by
 generalize hs:bl fs bf from0=S at *
 have hS0:S 0 = [(from0,[])]:=by rw [← hs]; rfl
 have hSs:∀ i (h:i<(S i).length),S (i+1)=advN fs bf (S i) (S i)[i] fs.length:=by
  rw [← hs]; exact fun i h=>bl_succ h
 refine e125 (by simp) fun _ _=>?_
 simp only [k125,argEnv,go_sem]
 try simp only [go_sem]
 generalize hq:σ0.length=q at *
 refine KL_ind k125_b1.eq_1 (fun x:Nat × Nat × List PV × α × Heap=>[(0,.list (aggs (fs.map mp))),(2,.fn (.func bid) [] []),(3,.fn (.func eid) [] caps),(8,.ref q x.2.1 0 (S x.1).length),(9,.int .i64 x.1)]) (fun x=>x.2.2.2.2)
  (fun x=>x.1≤(S x.1).length∧J x.1 x.2.2.2.1∧I x.2.2.2.1 x.2.2.2.2∧¬ U x.2.2.2.1 q∧QG x.2.2.2.2 (U x.2.2.2.1) q x.2.1 x.2.2.1 (S x.1)∧(∀ m∈S x.1,okp m.1∧m.2.length+1≤(S x.1).length)) (fun x=>N+1 - x.1) [0,2,3,8,9]
  (0,0,[.nils],a0,σ0 ++ [.arr 0 138 2 [.agg [.list (ints from0),.nils]]]) ?_ rfl ?_ fun ⟨i,ver,ws,a,σ⟩ ⟨hi,hJ,hI,hUq,hG,hok⟩ ih=>?_
 ·simp [keep,hS0]
 ·have hlen0:q<(σ0 ++ [AObj.arr 0 138 2 [.agg [.list (ints from0),.nils]]]).length:=by simp [← hq]
  have hU0:¬ U a0 q:=fun h=>by
   have:=hIlt _ _ _ hI0 h
   omega
  refine ⟨Nat.zero_le _,hJ0,?_,hU0,?_,?_⟩
  ·show I a0 _
   refine hIk a0 σ0 _ hI0 (fun id hid=>?_) (by simp)
   rw [List.getElem?_append_left (hIlt _ _ _ hI0 hid)]
  ·show QG _ _ q 0 [.nils] (S 0)
   rw [hS0]
   refine ⟨by simp [← hq,qcell],rfl,fun i w m hw hm=>.inl ⟨?_,?_⟩⟩
   ·have:=List.mem_of_getElem? hw; simpa using this
   ·have:=List.mem_of_getElem? hm
    simp only [List.mem_singleton] at this; rw [this]
  ·intro m hm
   have hm:m∈S 0:=hm
   show okp m.1∧m.2.length+1≤(S 0).length
   rw [hS0] at hm ⊢
   simp only [List.mem_singleton] at hm
   subst hm
   exact ⟨hok0,by simp⟩
 ·simp only at hi hJ hI hUq hG hok
  have hBi:=hB i
  have hout:=hG.out
  have hqlt:=(List.getElem?_eq_some_iff.1 hout).1
  have hzl:(List.zipWith qcell ws (S i)).length=(S i).length:=by simp [hG.len]
  try simp only [OpK_eq,hout,hzl,go_sem]
  refine ⟨fun h1=>?_,fun h1=>?_⟩
  ·have hil:i<(S i).length:=by omega
   obtain ⟨w,hw,hcell,hW⟩:=hG.cell hil
   have hSi:=hSs i hil
   have hmem:=hok _ (List.getElem_mem hil)
   generalize hm:(S i)[i]=m at *
   have hsub:subC (qcell w m).cs 0 2 = [.list (ints m.1),w]:=subC2 _ _
   have hput:putC [.nils,.nils] 0 [.list (ints m.1),w] = [PV.list (ints m.1),w]:=putC2 _ _ _ _
   have hwok:[PV.list (ints m.1),w].all PV.ok=true:=by rcases hW with ⟨rfl,_⟩ | ⟨_,_,rfl,_⟩ <;> simp [PV.ok]
   refine ⟨⟨h1,Nat.le_refl _⟩,hil,fun x hx=>?_⟩
   rw [hcell] at hx; cases hx
   rw [hsub,hput,subC2]
   refine ⟨Nat.le_refl _,⟨rfl,hwok⟩,Nat.le_refl _,?_⟩
   have hlt1:∀ id,id < σ.length→(σ ++ [AObj.box [.list (ints m.1),w]])[id]? = σ[id]?:=fun id h=>List.getElem?_append_left h
   have hI1:I a (σ ++ [AObj.box [.list (ints m.1),w]]):=hIk _ _ _ hI (fun id hid=>hlt1 id (hIlt _ _ _ hI hid)) (by simp)
   have hW1:Wd (σ ++ [AObj.box [.list (ints m.1),w]]) (U a) w m.2:=hW.keep fun id hid hA=>⟨hlt1 id hid,fun hu=>hA (.inl hu)⟩
   refine heach i _ _ m.1 w m.2 hJ (by omega) hmem.1 hI1 hW1 _ (fun hgt a' σ' hnx hI' hle hkeep=>?_) (fun hgf σ' hD=>?_)
   ·have hb10:σ'[σ.length]? = some (.box [.list (ints m.1),w]):=by
     rw [(hkeep σ.length (by simp) (fun hu=>by have:=hIlt _ _ _ hI hu; omega)).1]
     simp
    have hUb:¬ U (a') σ.length:=(hkeep σ.length (by simp) (fun hu=>by have:=hIlt _ _ _ hI hu; omega)).2
    have hkeep2:∀ id,id < σ.length→¬ U a id→σ'[id]? = σ[id]?∧¬ U (a') id:=fun id hid hu=>by
     obtain ⟨k1,k2⟩:=hkeep id (by simp; omega) hu
     exact ⟨k1.trans (hlt1 id hid),k2⟩
    have hG':=hG.keep hUq hkeep2
    have hUq':=(hkeep2 q hqlt hUq).2
    have hW':Wd σ' (fun id=>U (a') id∨id=q) w m.2:=hW.keep fun id hid hA=>by
     simp only [not_or] at hA ⊢
     exact ⟨(hkeep2 id hid hA.1).1,(hkeep2 id hid hA.1).2,hA.2⟩
    have hJ':J (i+1) a':=hJs i a a' hil hJ (by rw [hm]; exact hgt) (by rw [hm]; exact hnx)
    have hbq:σ.length≠q:=by omega
    generalize hb:σ.length=b at *
    clear hkeep hkeep2 hI1 hW1 hlt1 hG hI hW hcell hw hout hzl
    clear hb hqlt
    try simp only [OpK_eq,List.length_map,go_sem]
    have hadvB:∀ k,k≤fs.length→(advN fs bf (S i) m k).length≤N:=fun k hk=>by
     have h1:=advN_mono fs bf (S i) m hk
     have h2:=hB (i+1)
     rw [hSi] at h2
     exact Nat.le_trans h1 h2
    refine KL_ind k125_b0.eq_1 (fun x:Nat × Nat × List PV × Heap=>[(0,.list (aggs (fs.map mp))),(2,.fn (.func bid) [] []),(3,.fn (.func eid) [] caps),(8,.ref q x.2.1 0 (advN fs bf (S i) m x.1).length),(9,.int .i64 i),(10,.ptr b 0),(31,.list (aggs (fs.map mp))),(32,.int .i64 fs.length),(33,.int .i64 x.1)]) (fun x=>x.2.2.2)
     (fun x=>x.1≤fs.length∧I a' x.2.2.2∧QG x.2.2.2 (U a') q x.2.1 x.2.2.1 (advN fs bf (S i) m x.1)∧x.2.2.2[b]? = some (.box [.list (ints m.1),w])∧Wd x.2.2.2 (fun id=>U a' id∨id=q) w m.2∧(∀ y∈advN fs bf (S i) m x.1,okp y.1∧y.2.length+1≤(advN fs bf (S i) m x.1).length)) (fun x=>fs.length - x.1) [0,2,3,8,9,10,31,32,33]
     (0,ver,ws,σ') (by rfl) rfl ⟨Nat.zero_le _,hI',hG',hb10,hW',hok⟩ fun ⟨k,ver2,ws2,τ⟩ ⟨hk,hI2,hG2,hb2,hW2,hok2⟩ ihk=>?_
    simp only at hk hI2 hG2 hb2 hW2 hok2
    clear hI' hG' hb10 hW' hok hle
    have hsucc:=advN_succ fs bf (S i) m k
    have hlenB:=hadvB k hk
    have hmlen:=hmem.2
    generalize hL:advN fs bf (S i) m k=L at *
    have hout:=hG2.out
    have hblt:=(List.getElem?_eq_some_iff.1 hb2).1
    have hqlt:=(List.getElem?_eq_some_iff.1 hout).1
    try simp only [OpK_eq,List.length_map,go_sem]
    refine ⟨fun h3=>?_,fun h3=>?_⟩
    ·have hkl:k<fs.length:=by omega
     have hfk:=hf _ (List.getElem_mem hkl)
     have h6:=hfk.mp_len
     have hgk:(fs.map mp).getD k []=mp fs[k]:=by simp [List.getD_eq_getElem?_getD,hkl]
     rw [hgk]
     try simp only [OpK_eq,h6,go_sem]
     refine ⟨h3,fun _=>?_⟩
     have hbx:∀ X,(τ ++ X)[b]? = some (.box [.list (ints m.1),w]):=fun X=>(List.getElem?_append_left hblt).trans hb2
     have ht0:∀ (x:AObj) X,(τ ++ x :: X)[τ.length]? = some x:=fun x X=>by simp
     have ht1:∀ (x y:AObj) X,(τ ++ x :: y :: X)[τ.length+1]? = some y:=fun x y X=>by
      rw [List.getElem?_append_right (by omega)]; simp
     have hs0:∀ (x z:AObj) X,(τ ++ x :: X).set τ.length z = τ ++ z :: X:=fun x z X=>by
      rw [List.set_append_right _ _ (Nat.le_refl _)]; simp
     have hs1:∀ (x y z:AObj) X,(τ ++ x :: y :: X).set (τ.length+1) z = τ ++ x :: z :: X:=fun x y z X=>by
      rw [List.set_append_right _ _ (by omega)]; simp
     try simp only [OpK_eq,h6,hbx,HKv,List.append_assoc,List.cons_append,List.nil_append,ht0,ht1,hs0,hs1,go_sem]
     refine (hby _ (List.getElem_mem hkl) m.1 hmem.1).go ?_
     have hnx:=hokb _ (List.getElem_mem hkl) m.1 hmem.1
     have hgf:fs.getD k []=fs[k]:=by simp [List.getD_eq_getElem?_getD,hkl]
     rw [hgf] at hsucc
     generalize hnxe:bf fs[k] m.1=nxp at *
     try simp only [OpK_eq,h6,hbx,HKv,List.append_assoc,List.cons_append,List.nil_append,ht0,ht1,hs0,hs1,go_sem]
     have hG3:∀ X,QG (τ ++ X) (U a') q ver2 ws2 L:=fun X=>hG2.keep hUq' fun id hid hu=>⟨List.getElem?_append_left hid,hu⟩
     have hW3:∀ X,Wd (τ ++ X) (fun id=>U a' id∨id=q) w m.2:=fun X=>hW2.keep fun id hid hu=>⟨List.getElem?_append_left hid,hu⟩
     have hI3:∀ X,I a' (τ ++ X):=fun X=>hIk _ _ _ hI2 (fun id hid=>List.getElem?_append_left (hIlt _ _ _ hI2 hid)) (by simp)
     refine (p176 L (by omega) 177 [.fptr [.list (ints nxp)] 0] (fun x=>decide (x.1=nxp)) (fun x hx=>p177 x nxp (by have:=hokl _ hnx; omega) (by have:=hokl _ (hok2 x hx).1; omega))).lend (.cons (hG3 _).imm (.cons (Imm.fnc _ (.cons (Imm.ptr (τ.length+1) 0 [.list (ints nxp)] [.list (ints nxp)] (ht1 _ _ _) rfl (by simp [PV.ok]) (fun j c d hc hd=>by rw [hc] at hd; cases hd; have:=List.mem_of_getElem? hc; simp only [List.mem_singleton] at this; subst this; exact .still)) (.nil _))) (.nil _))) ?_
     cases hany:L.any (fun x=>decide (x.1=nxp)) with
     | true =>
      rw [if_pos hany] at hsucc
      try simp only [OpK_eq,go_sem]
      refine ⟨by omega,ihk (k+1,ver2,ws2,τ ++ _) ⟨by show k+1≤fs.length; omega,hI3 _,?_,hbx _,hW3 _,?_⟩ (by show fs.length - (k+1)<fs.length - k; omega) _ _ ?_ rfl⟩
      ·show QG _ _ q ver2 ws2 (advN fs bf (S i) m (k+1))
       rw [hsucc]; exact hG3 _
      ·show ∀ y∈advN fs bf (S i) m (k+1),_∧_≤(advN fs bf (S i) m (k+1)).length
       rw [hsucc]; exact hok2
      ·simp [keep,hsucc]
     | false =>
      rw [if_neg (by rw [hany]; simp)] at hsucc
      have hlenB1:=hadvB (k+1) (by omega)
      rw [hsucc,List.length_append,List.length_singleton] at hlenB1
      have hnext:∀ ver' w' ρ,I a' ρ→QG ρ (U a') q ver' (ws2 ++ [w']) (L ++ [(nxp,m.2 ++ [(k:Int)])])→ρ[b]? = some (.box [.list (ints m.1),w])→Wd ρ (fun id=>U a' id∨id=q) w m.2→∀ env,keep [0,2,3,8,9,10,31,32,33] env = [(0,.list (aggs (fs.map mp))),(2,.fn (.func bid) [] []),(3,.fn (.func eid) [] caps),(8,.ref q ver' 0 (L.length+1)),(9,.int .i64 i),(10,.ptr b 0),(31,.list (aggs (fs.map mp))),(32,.int .i64 fs.length),(33,.int .i64 (k+1:Nat))]→KL (mkCfg Tryz.prog mixed [53,56] 59 q) k125_b0 _ env ρ:=fun ver' w' ρ q1 q2 q3 q4 env q5 =>
       ihk (k+1,ver',ws2 ++ [w'],ρ) ⟨by show k+1≤fs.length; omega,q1,by show QG ρ _ q ver' _ (advN fs bf (S i) m (k+1)); rw [hsucc]; exact q2,q3,q4,by
        show ∀ y∈advN fs bf (S i) m (k+1),_∧_≤(advN fs bf (S i) m (k+1)).length
        rw [hsucc]
        intro y hy
        rw [List.length_append,List.length_singleton]
        rcases List.mem_append.1 hy with hy | hy
        ·have:=hok2 y hy; exact ⟨this.1,by omega⟩
        ·simp only [List.mem_singleton] at hy; subst hy
         refine ⟨hnx,?_⟩
         simp only [List.length_append,List.length_singleton]
         have hmono:=advN_mono fs bf (S i) m (Nat.zero_le k)
         rw [hL] at hmono
         have e:advN fs bf (S i) m 0=(S i):=rfl
         rw [e] at hmono
         omega⟩ (by show fs.length - (k+1)<fs.length - k; omega) env ρ (by rw [q5,hsucc]; simp) rfl
      clear ih ihk
      have hpush:∀ X w',Wd (τ ++ X) (fun id=>U a' id∨id=q) w' (m.2 ++ [(k:Int)])→∀ K':PV→Heap→Prop,
        (∀ ρ,I a' ρ→QG ρ (U a') q (ver2+1) (ws2 ++ [w']) (L ++ [(nxp,m.2 ++ [(k:Int)])])→ρ[b]? = some (.box [.list (ints m.1),w])→Wd ρ (fun id=>U a' id∨id=q) w m.2→K' (.ref q (ver2+1) 0 (L.length+1)) ρ) →
        aApp 138 2 (.ref q ver2 0 L.length) (.list [.agg [.list (ints nxp),w']]) (τ ++ X) K':=fun X w' hw' K' hK' =>
       (hG3 X).push hw' (by omega) fun hQ=>by
        refine hK' _ ?_ hQ ?_ ?_
        ·refine hIk _ _ _ (hI3 X) (fun id hid=>List.getElem?_set_ne ?_) (by simp)
         rintro rfl; exact hUq' hid
        ·rw [List.getElem?_set_ne (Ne.symm hbq)]; exact hbx X
        ·refine (hW3 X).keep fun id _ hA=>⟨List.getElem?_set_ne ?_,hA⟩
         rintro rfl; exact hA (.inr rfl)
      have ht2:∀ (x y z:AObj) X,(τ ++ x :: y :: z :: X)[τ.length+2]? = some z:=fun x y z X=>by
       rw [List.getElem?_append_right (by omega)]; simp
      have hs2:∀ (x y z u:AObj) X,(τ ++ x :: y :: z :: X).set (τ.length+2) u = τ ++ x :: y :: u :: X:=fun x y z u X=>by
       rw [List.set_append_right _ _ (by omega)]; simp
      have hwd:∀ (x y:AObj) vr l,Wd (τ ++ [x,y,.arr vr 2 1 (ints l)]) (fun id=>U a' id∨id=q) (.ref (τ.length+2) vr 0 l.length) l:=fun x y vr l=>by
       refine .inr ⟨_,vr,rfl,ht2 _ _ _ _,fun h=>?_⟩
       rcases h with h | h
       ·have:=hIlt _ _ _ hI2 h; omega
       ·omega
      have hwd1:∀ (x y:AObj),Wd (τ ++ [x,y,.arr 2 2 1 (ints (m.2 ++ [(k:Int)]))]) (fun id=>U a' id∨id=q) (.ref (τ.length+2) 2 0 (m.2.length+1)) (m.2 ++ [(k:Int)]):=fun x y=>by
       have:=hwd x y 2 (m.2 ++ [(k:Int)])
       rwa [List.length_append,List.length_singleton] at this
      have hwd0:m.2 = []→∀ (x y:AObj),Wd (τ ++ [x,y,.arr 0 2 1 [.int .i64 k]]) (fun id=>U a' id∨id=q) (.ref (τ.length+2) 0 0 1) (m.2 ++ [(k:Int)]):=fun h0 x y=>by
       rw [h0]; exact hwd x y 0 [(k:Int)]
      generalize hvq:PV.ref q ver2 0 L.length=vq at *
      try simp only [OpK_eq,hbx,HKv,ht0,ht1,go_sem]
      iterate 8
       all_goals (try (rw [vT_alt]; refine ⟨?_,?_⟩))
       all_goals (try (try simp only [OpK_eq,hbx,HKv,ht0,ht1,go_sem] ))
      all_goals (refine ACall.lend (p115P m.2 (by omega)) (.cons (hW3 _).imm (.nil _)) fun v s hv=>?_)
      all_goals (rcases hv with ⟨rfl,rfl⟩ | ⟨hl0,rfl,rfl⟩)
      all_goals (first | refine ⟨⟨free_ref _ _ _ _,Free.ints _ _ _ _⟩,?_⟩ | refine ⟨⟨Plain.nils.fr,Free.nil⟩,?_⟩)
      all_goals (try (try simp only [OpK_eq,hbx,HKv,ht0,ht1,ht2,hs2,ren_ref,List.append_assoc,List.cons_append,List.nil_append,go_sem] ))
      iterate 8
       all_goals (try (rw [vT_alt]; refine ⟨?_,?_⟩))
       all_goals (try (try simp only [OpK_eq,hbx,HKv,ht0,ht1,ht2,hs2,ren_ref,List.append_assoc,List.cons_append,List.nil_append,go_sem] ))
      all_goals (first | refine ⟨⟨Nat.le_refl _,by omega⟩,hpush [_,_,_] _ (hwd1 _ _) _ fun ρ q1 q2 q3 q4=>?_⟩ | refine hpush [_,_,_] _ (hwd0 hl0 _ _) _ fun ρ q1 q2 q3 q4=>?_)
      all_goals (try simp only [OpK_eq,go_sem] )
      all_goals exact ⟨by omega,hnext (ver2+1) _ ρ q1 q2 q3 q4 _ (by simp [keep])⟩
    ·have hke:k=fs.length:=by omega
     subst hke
     try simp only [go_sem]
     refine ⟨by omega,ih (i+1,ver2,ws2,a',τ) ⟨?_,hJ',hI2,hUq',?_,?_⟩ (by show N+1 - (i+1)<N+1 - i; omega) _ _ ?_ rfl⟩
     ·show i+1≤(S (i+1)).length
      rw [hSi]
      have:=advN_mono fs bf (S i) m (Nat.zero_le fs.length)
      have e:advN fs bf (S i) m 0=S i:=rfl
      rw [e] at this
      omega
     ·show QG τ (U a') q ver2 ws2 (S (i+1))
      rw [hSi,hL]; exact hG2
     ·show ∀ y∈S (i+1),okp y.1∧y.2.length+1≤(S (i+1)).length
      rw [hSi,hL]; exact hok2
     ·rw [hSi,hL]; simp [keep]
   ·try simp only [OpK_eq,go_sem]
    exact Kv.Fin.now (hK1 i a hil hJ (by rw [hm]; exact hgf) σ' (by rw [hm]; exact hD))
  ·have hie:i=(S i).length:=by omega
   exact Kv.Fin.now (hK2 i a hie hJ σ hI)
end
end
section
section
set_option maxRecDepth 100000
def k55_b0:KC:=(.seq (.ops [oP 11 (.bin .lss (.t 10) (.t 9))])
 (.seq (.cond (.t 11) .skip (.exit 0))
 (.seq (.block 1 (.seq (.ops [oP 12 (.idxS 1 (.t 8) (.t 10)),oP 13 (.load false 1 (.t 12)),mV 7 13])
 (.ops [mV 14 5,mV 15 7,oP 16 (.fieldA 1 (.t 2)),oP 17 (.idxA 5 1 (.t 16) (.t 15)),oP 18 (.load false 1 (.t 17)),oP 19 (.bsl true 2 1 [(.t 18)]),oP 20 (.app (.t 14) (.t 19) 2 1),mV 5 20])))
 (.ops [oP 21 (.bin .add (.t 10) (iC 1)),mV 10 21]))))
def k55:KC:=(.seq (.ops [oP 2 (.box true (.t 0)),oP 4 (.mv (.c (.nils)))])
 (.seq (.ops [oP 5 (.mv (.c (.nils)))])
 (.seq (.seq (.ops [mV 8 1,oP 9 (.len false (.t 8)),oP 10 (.mv (iC 0))])
 (.block 0 (.loop k55_b0)))
 (.seq (.ops [mV 22 5,mV 4 22])
 .ret))))
theorem e55:Ent 55 23 [2,19] [.t 4] k55:=ent Tryz.func55
def k142:KC:=(.seq (.ops [oP 2 (.box true (.t 0)),oP 3 (.mv (.c (.bool false)))])
 (.seq (.draw [oP 4 (.load false 1 (.t 1)),oP 5 (.fieldA 0 (.t 2)),oP 6 (.load false 1 (.t 5)),oP 7 (.idxS 1 (.t 6) (iC 0)),oP 8 (.load false 1 (.t 7)),oP 9 (.bsl true 2 1 [(.t 8)]),oP 10 (.app (.t 4) (.t 9) 2 1),⟨none,none,.store 1 (.t 1) (.t 10)⟩])
 (.seq (.ops [oP 3 (.mv (.c (.bool true)))])
 .ret)))
theorem e142:Ent 142 11 [2,9] [.t 3] k142:=ent Tryz.func142
end
section
attribute [local irreducible] ACall PCall KL
def ldp (f:List Nat) (p:List Int):List Int:=p.map fun x=>(f.getD x.toNat 0:Int)
def one (n:Nat) (p:List Int):Prop:=∃ q,q<n∧p = [(q:Int)]
theorem ldp_one {f:List Nat} {n:Nat} (hf:Ok f n) {p:List Int} (h:one n p):one n (ldp f p):=by
 obtain ⟨q,hq,rfl⟩:=h
 exact ⟨f.getD q 0,hf.get hq,by simp [ldp]⟩
theorem p55 (f:List Nat) (n:Nat) (hf:Ok f n) (p:List Int) (h:one n p):Pure Tryz.prog 55 [.agg (ints (mp f)),.list (ints p)] (.list (ints (ldp f p))):=by
 obtain ⟨q,hq,rfl⟩:=h
 have hlf:=hf.mp_len
 have h5:=hf.le
 refine e55 (by simp) fun _ _=>?_
 simp only [k55,argEnv,hlf,go_sem]
 refine KL_ind k55_b0.eq_1 (fun x:Nat=>[(2,.fptr (ints (mp f)) 0),(5,nref 0 x),(8,.list (ints [(q:Int)])),(9,.int .i64 1),(10,.int .i64 x)]) (fun x=>nhp [.arr (x - 1) 2 1 (ints ((ldp f [(q:Int)]).take x))] x) (fun x=>x≤1) (fun x=>1 - x) [2,5,8,9,10] 0 (by rfl) (by rfl) (Nat.zero_le _) fun x hx ih=>?_
 try simp only [hlf,go_sem]
 refine ⟨fun h1=>?_,fun h1=>?_⟩
 ·obtain rfl:x=0:=by omega
  have hq0:[(q:Int)].getD 0 0=(q:Int):=rfl
  have hqt:(q:Int).toNat=q:=by omega
  rw [hq0,hqt]
  have e1:(ldp f [(q:Int)]).take 1 = [(f.getD q 0:Int)]:=by simp [ldp]
  try simp only [go_sem]
  refine ⟨by omega,by omega,fun _=>⟨by omega,ih 1 (by omega) (by omega) _ _ (by simp [keep,nref]) ?_⟩⟩
  rw [e1]; rfl
 ·obtain rfl:x=1:=by omega
  have e1:(ldp f [(q:Int)]).take 1=ldp f [(q:Int)]:=by simp [ldp]
  rw [e1]
  exact Kv.Fin.freeze (Imm.refn (l:=ldp f [(q:Int)]) rfl (by simp [ldp])) ⟨rfl,rfl⟩
theorem p142n (σ:Heap) (q:Int) (w:PV) (h0:σ[0]? = some (.box [.nils])) (hw:w.ok=true) (K:PV→Heap→Prop)
  (hK:K (.bool true) ((σ ++ [AObj.arr 0 2 1 (ints [q])]).set 0 (AObj.box [.ref σ.length 0 0 1]))) :
  ACall Tryz.prog 142 [.agg [.list (ints [q]),w],.ptr 0 0] σ K:=by
 have hlt0:=(List.getElem?_eq_some_iff.1 h0).1
 have hwok:[PV.list (ints [q]),w].all PV.ok=true:=by simp [PV.ok]; exact hw
 have hput:∀ v,putC [PV.nils] 0 [v] = [v]:=fun v=>by unfold putC; first | rfl | (split <;> rfl) | simp
 have h1:(σ ++ [AObj.arr 0 2 1 (ints [q])])[0]? = some (.box [.nils]):=(List.getElem?_append_left hlt0).trans h0
 have e:ints [q] = [PV.int .i64 q]:=rfl
 rw [e] at h1 hK
 refine e142 (by simp) fun _ _=>?_
 simp only [k142,argEnv,go_sem]
 try simp only [OpK_eq,hwok,h0,HKv,go_sem]
 refine ⟨hw,?_⟩
 have hq0:[q].getD 0 0=q:=rfl
 rw [hq0]
 try simp only [OpK_eq,h1,hput,HKv,go_sem]
 exact Kv.Fin.now hK
theorem p142r (σ:Heap) (q:Int) (w:PV) (a:List Int) (hl:a.length≤1000) (id ver:Nat) (hid:σ[id]? = some (.arr ver 2 1 (ints a))) (hne:id≠0) (h0:σ[0]? = some (.box [.ref id ver 0 a.length])) (hw:w.ok=true) (K:PV→Heap→Prop)
  (hK:K (.bool true) ((σ.set id (.arr (ver+1) 2 1 (ints (a ++ [q])))).set 0 (.box [.ref id (ver+1) 0 (a.length+1)]))) :
  ACall Tryz.prog 142 [.agg [.list (ints [q]),w],.ptr 0 0] σ K:=by
 have hlt0:=(List.getElem?_eq_some_iff.1 h0).1
 have hwok:[PV.list (ints [q]),w].all PV.ok=true:=by simp [PV.ok]; exact hw
 have hput:∀ v,putC [PV.ref id ver 0 a.length] 0 [v] = [v]:=fun v=>by unfold putC; first | rfl | (split <;> rfl) | simp
 have h1:∀ o,(σ.set id o)[0]? = some (.box [.ref id ver 0 a.length]):=fun o=>(List.getElem?_set_ne hne).trans h0
 refine e142 (by simp) fun _ _=>?_
 simp only [k142,argEnv,go_sem]
 try simp only [OpK_eq,hwok,h0,HKv,go_sem]
 refine ⟨hw,?_⟩
 have hq0:[q].getD 0 0=q:=rfl
 rw [hq0]
 try simp only [OpK_eq,hid,h1,hput,HKv,go_sem]
 exact ⟨⟨Nat.le_refl _,by omega⟩,Kv.Fin.now hK⟩
def rch (fs:List (List Nat)) (q:Nat) (i:Nat):List Int:=((bl fs ldp [(q:Int)] i).take i).flatMap Prod.fst
def RI (x:List Int × Option Nat) (σ:Heap):Prop :=
 match x.2 with
 | none=>σ[0]? = some (.box [.nils])∧x.1 = []
 | some id=>∃ ver,σ[0]? = some (.box [.ref id ver 0 x.1.length])∧σ[id]? = some (.arr ver 2 1 (ints x.1))∧id≠0
theorem advN_preE (fs:List (List Nat)) (bf:List Nat→List Int→List Int) (Q:List Met) (m:Met):∀ k,∃ r,advN fs bf Q m k=Q ++ r
 | 0=>⟨[],by simp [advN]⟩
 | k+1=>by
  obtain ⟨r,h⟩:=advN_preE fs bf Q m k
  rw [advN_succ]
  split
  ·exact ⟨r,h⟩
  ·exact ⟨r ++ [(bf (fs.getD k []) m.1,m.2 ++ [(k:Int)])],by rw [h,List.append_assoc]⟩
theorem rch_succ {fs:List (List Nat)} {q i:Nat} (h:i<(bl fs ldp [(q:Int)] i).length):rch fs q (i+1)=rch fs q i ++ (bl fs ldp [(q:Int)] i)[i].1:=by
 unfold rch
 rw [bl_succ h]
 obtain ⟨r,hr⟩:=advN_preE fs ldp (bl fs ldp [(q:Int)] i) (bl fs ldp [(q:Int)] i)[i] fs.length
 rw [hr,List.take_append_of_le_length (by omega),List.take_succ_eq_append_getElem h,List.flatMap_append]
 simp
end
end
section
section
set_option maxRecDepth 100000
def k74:KC:=(.seq (.ops [oP 4 (.mv (.c (.nils)))])
 (.seq (.ops [oP 5 (.alloc [.nils])])
 (.seq (.ops [mV 6 0,mV 7 1,oP 8 (.bsl false 2 1 [(.t 7)]),oP 9 (.mkfn (.func 142) [] [(.t 5)]),oP 10 (.call (fC 125) [(.t 6),(.t 8),(fC 55),(.t 9)])])
 (.seq (.ops [oP 11 (.load false 1 (.t 5)),mV 4 11])
 .ret))))
theorem e74:Ent 74 12 [] [.t 4] k74:=ent Tryz.func74
end
section
attribute [local irreducible] ACall PCall KL
theorem p74 (fs:List (List Nat)) (n:Nat) (hf:∀ f∈fs,Ok f n) (hfl:fs.length≤1000) (q:Nat) (hq:q<n) (N:Nat) (hN:N≤900) (hB:∀ i,(bl fs ldp [(q:Int)] i).length≤N) (K:PV→Heap→Prop)
  (hK:∀ i,i=(bl fs ldp [(q:Int)] i).length→K (.list (ints (rch fs q i))) []):ACall Tryz.prog 74 [.list (aggs (fs.map mp)),.int .i64 q] [] K:=by
 refine e74 (by simp) fun _ _=>?_
 simp only [k74,argEnv,go_sem]
 try simp only [OpK_eq,go_sem]
 refine ACall.giveAt (id:=1) (args':=[.list (aggs (fs.map mp)),.list (ints [(q:Int)]),.fn (.func 55) [] [],.fn (.func 142) [] [.ptr 0 0]]) rfl ?_ rfl (fun i c d hc hd=>?_)
 rotate_left
 ·rcases i with _ | _ | _ | _ | i
  ·simp only [List.getElem?_cons_zero,Option.some.injEq] at hc hd; subst hc; subst hd
   exact .inl Imm.still
  ·simp only [List.getElem?_cons_succ,List.getElem?_cons_zero,Option.some.injEq] at hc hd; subst hc; subst hd
   exact .inl (Imm.refn (l:=[(q:Int)]) (solo_get (o:=.arr 0 2 1 (ints [(q:Int)])) rfl) rfl)
  ·simp only [List.getElem?_cons_succ,List.getElem?_cons_zero,Option.some.injEq] at hc hd; subst hc; subst hd
   exact .inl Imm.still
  ·simp only [List.getElem?_cons_succ,List.getElem?_cons_zero,Option.some.injEq] at hc hd; subst hc; subst hd
   exact .inr ⟨rfl,Kv.undr_upto (by simp [PV.undr,PV.undrL])⟩
  ·simp at hc
 refine p125J (α:=List Int × Option Nat) fs n hf hfl 55 142 [.ptr 0 0] ldp (one n) (fun p hp=>by obtain ⟨x,_,rfl⟩:=hp; simp) (fun f hf' p hp=>ldp_one (hf f hf') hp) (fun f hf' p hp=>p55 f n (hf f hf') p hp)
  RI (fun x id=>id=0∨x.2=some id) (fun x p y=>y.1=x.1 ++ p∧p.length=1) (fun _ _=>true) (fun _ _ _ _=>False) (fun x σ id hI hU=>?_) (fun x σ σ' hI hk hl=>?_) N (fun i x=>x.1=rch fs q i∧x.1.length≤i) (fun i x σ p w l hJ hi hp hI hw K' k1 k2=>?_) ([],none) [(q:Int)] ⟨q,hq,rfl⟩ (by omega) hB ⟨rfl,by simp⟩ (fun i x y h hJ _ hy=>?_) _ ⟨rfl,rfl⟩ _ (fun i x h hJ hgo=>by cases hgo) (fun i x hi hJ σ hI=>?_)
 ·obtain ⟨l,o⟩:=x
  cases o with
  | none =>
   rcases hU with rfl | hU
   ·exact (List.getElem?_eq_some_iff.1 hI.1).1
   ·cases hU
  | some id' =>
   obtain ⟨ver,h1,h2,h3⟩:=hI
   rcases hU with rfl | hU
   ·exact (List.getElem?_eq_some_iff.1 h1).1
   ·simp only [Option.some.injEq] at hU; subst hU
    exact (List.getElem?_eq_some_iff.1 h2).1
 ·obtain ⟨l,o⟩:=x
  have k0:=hk 0 (.inl rfl)
  cases o with
  | none=>exact ⟨k0.trans hI.1,hI.2⟩
  | some id' =>
   obtain ⟨ver,h1,h2,h3⟩:=hI
   exact ⟨ver,k0.trans h1,(hk id' (.inr rfl)).trans h2,h3⟩
 ·obtain ⟨l0,o⟩:=x
  obtain ⟨y,hy,rfl⟩:=hp
  have hwok:w.ok=true:=hw.cs.2
  cases o with
  | none =>
   obtain ⟨h1,h2⟩:=hI
   have h2:l0 = []:=h2
   subst h2
   have hlt:=(List.getElem?_eq_some_iff.1 h1).1
   refine p142n σ y w h1 hwok K' (k1 rfl ([(y:Int)],some σ.length) _ ⟨rfl,rfl⟩ ⟨0,?_,?_,by omega⟩ (by simp) fun id hid hu=>⟨?_,?_⟩)
   ·exact List.getElem?_set_self (by simp)
   ·show _=some (AObj.arr 0 2 1 (ints [(y:Int)]))
    rw [List.getElem?_set_ne (by omega)]; simp
   ·rw [List.getElem?_set_ne (fun e=>hu (.inl e.symm)),List.getElem?_append_left hid]
   ·rintro (rfl | h)
    ·exact hu (.inl rfl)
    ·simp only [Option.some.injEq] at h; omega
  | some id' =>
   obtain ⟨ver,h1,h2,h3⟩:=hI
   have hlt:=(List.getElem?_eq_some_iff.1 h1).1
   have hlt2:=(List.getElem?_eq_some_iff.1 h2).1
   have hJl:l0.length≤i:=hJ.2
   refine p142r σ y w l0 (by omega) id' ver h2 h3 h1 hwok K' (k1 rfl (l0 ++ [(y:Int)],some id') _ ⟨rfl,rfl⟩ ⟨ver+1,?_,?_,h3⟩ (by simp) fun id hid hu=>⟨?_,?_⟩)
   ·show _=some (AObj.box [.ref id' (ver+1) 0 (l0 ++ [(y:Int)]).length])
    rw [List.length_append,List.length_singleton]
    exact List.getElem?_set_self (by simpa using hlt)
   ·show _=some (AObj.arr (ver+1) 2 1 (ints (l0 ++ [(y:Int)])))
    rw [List.getElem?_set_ne (Ne.symm h3),List.getElem?_set_self hlt2]
   ·rw [List.getElem?_set_ne (fun e=>hu (.inl e.symm)),List.getElem?_set_ne (fun e=>hu (.inr (by rw [e])))]
   ·exact hu
 ·obtain ⟨h1,h2⟩:=hJ
  refine ⟨?_,?_⟩
  ·show y.1=rch fs q (i+1)
   rw [rch_succ h,hy.1,h1]
  ·show y.1.length≤i+1
   rw [hy.1,List.length_append,hy.2]; omega
 ·have hK':=hK i hi
  rw [← hJ.1] at hK'
  clear hK
  obtain ⟨l0,o⟩:=x
  cases o with
  | none =>
   obtain ⟨h1,h2⟩:=hI
   have h2:l0 = []:=h2
   subst h2
   try simp only [OpK_eq,HKv,h1,go_sem]
   exact Kv.Fin.freeze .nils hK'
  | some id' =>
   obtain ⟨ver,h1,h2,h3⟩:=hI
   try simp only [OpK_eq,HKv,h1,go_sem]
   exact Kv.Fin.freeze (.refi h2) hK'
end
end
end
section
section
attribute [local irreducible] ACall PCall KL
def nmA (same:Nat→Nat→Bool):Nat→List Nat × Nat
 | 0=>([],0)
 | i+1=>match (List.range i).find? fun k=>same k i with
  | some k=>((nmA same i).1 ++ [(nmA same i).1.getD k 0],(nmA same i).2)
  | none=>((nmA same i).1 ++ [(nmA same i).2],(nmA same i).2+1)
def nmB (same:Nat→Nat→Bool):Nat→List Nat × List Nat
 | 0=>([],[])
 | i+1=>match (nmB same i).1.findIdx? fun f=>same f i with
  | some c=>((nmB same i).1,(nmB same i).2 ++ [c])
  | none=>((nmB same i).1 ++ [i],(nmB same i).2 ++ [(nmB same i).1.length])
structure Eqv (same:Nat→Nat→Bool) (N:Nat):Prop where
 symm:∀ a b,a<N→b<N→same a b=true→same b a=true
 trans:∀ a b c,a<N→b<N→c<N→same a b=true→same b c=true→same a c=true
structure NmI (same:Nat→Nat→Bool) (i:Nat):Prop where
 len:(nmB same i).2.length=i
 lt:∀ f∈(nmB same i).1,f<i
 own:∀ j,j<i→∃ f,(nmB same i).1[(nmB same i).2.getD j 0]? = some f∧(f=j∨same f j=true)
 dif:∀ (c d f g:Nat),c<d→(nmB same i).1[c]? = some f→(nmB same i).1[d]? = some g→same f g=false
 eqA:(nmA same i).1=(nmB same i).2∧(nmA same i).2=(nmB same i).1.length
theorem nm_step {same:Nat→Nat→Bool} {N i:Nat} (hE:Eqv same N) (hi:i<N) (h:NmI same i):NmI same (i+1):=by
 obtain ⟨h1,h2,h3,h4,h5,h6⟩:=h
 cases hf:(nmB same i).1.findIdx? fun f=>same f i with
 | some c =>
  obtain ⟨c1,c2,c3⟩:=List.findIdx?_eq_some_iff_getElem.1 hf
  have eB:nmB same (i+1)=((nmB same i).1,(nmB same i).2 ++ [c]):=by rw [nmB,hf]
  have hfc:(nmB same i).1[c]<i:=h2 _ (List.getElem_mem c1)
  have hsome:∃ k,(List.range i).find? (fun k=>same k i)=some k:=by
   cases hk:(List.range i).find? fun k=>same k i with
   | some k=>exact ⟨k,rfl⟩
   | none =>
    have:=List.find?_eq_none.1 hk _ (List.mem_range.2 hfc)
    exact absurd c2 this
  obtain ⟨k,hk⟩:=hsome
  have hki:k<i:=List.mem_range.1 (List.mem_of_find?_eq_some hk)
  have hks:same k i=true:=List.find?_some (p:=fun k=>same k i) hk
  have eA:nmA same (i+1)=((nmA same i).1 ++ [(nmA same i).1.getD k 0],(nmA same i).2):=by rw [nmA,hk]
  -- the number of k is c
  have hkc:(nmB same i).2.getD k 0=c:=by
   obtain ⟨f,e1,e2⟩:=h3 k hki
   obtain ⟨d,hd⟩:∃ d,(nmB same i).2.getD k 0=d:=⟨_,rfl⟩
   rw [hd] at e1 ⊢
   have hfl:f<i:=h2 f (List.mem_of_getElem? e1)
   have hfi:same f i=true:=by
    rcases e2 with rfl | e2
    ·exact hks
    ·exact hE.trans f k i (by omega) (by omega) hi e2 hks
   have hcc:(nmB same i).1[c]? = some (nmB same i).1[c]:=List.getElem?_eq_getElem c1
   have hic:=hE.symm _ _ (by omega) hi c2
   rcases Nat.lt_trichotomy d c with hlt | e | hlt
   ·have:=c3 d hlt
    obtain ⟨hdl,e3⟩:=List.getElem?_eq_some_iff.1 e1
    rw [e3] at this
    rw [hfi] at this; simp at this
   ·exact e
   ·have:=h4 c d _ _ hlt hcc e1
    have h7:=hE.trans _ i f (by omega) hi (by omega) c2 (hE.symm f i (by omega) hi hfi)
    rw [h7] at this; cases this
  refine ⟨by rw [eB]; simp [h1],by rw [eB]; exact fun f hf=>by have:=h2 f hf; omega,?_,by rw [eB]; exact h4,?_,?_⟩
  ·rw [eB]
   intro j hj
   by_cases e:j=i
   ·subst e
    refine ⟨(nmB same j).1[c],?_,.inr c2⟩
    have:((nmB same j).2 ++ [c]).getD j 0=c:=by simp [List.getD_eq_getElem?_getD,List.getElem?_append_right,h1]
    show (nmB same j).1[((nmB same j).2 ++ [c]).getD j 0]? = _
    rw [this,List.getElem?_eq_getElem c1]
   ·have:((nmB same i).2 ++ [c]).getD j 0=(nmB same i).2.getD j 0:=by
     rw [List.getD_eq_getElem?_getD,List.getD_eq_getElem?_getD,List.getElem?_append_left (by omega)]
    show ∃ f,(nmB same i).1[((nmB same i).2 ++ [c]).getD j 0]? = some f∧_
    rw [this]
    exact h3 j (by omega)
  ·rw [eA,eB,h5,hkc]
  ·rw [eA,eB]; exact h6
 | none =>
  have hno:=List.findIdx?_eq_none_iff.1 hf
  have eB:nmB same (i+1)=((nmB same i).1 ++ [i],(nmB same i).2 ++ [(nmB same i).1.length]):=by rw [nmB,hf]
  have hk:(List.range i).find? (fun k=>same k i)=none:=by
   rw [List.find?_eq_none]
   intro k hk hks
   have hki:=List.mem_range.1 hk
   obtain ⟨f,e1,e2⟩:=h3 k hki
   have hfm:=List.mem_of_getElem? e1
   have hfl:=h2 f hfm
   have hfi:same f i=true:=by
    rcases e2 with rfl | e2
    ·exact hks
    ·exact hE.trans f k i (by omega) (by omega) hi e2 hks
   have:=hno f hfm
   rw [hfi] at this; simp at this
  have eA:nmA same (i+1)=((nmA same i).1 ++ [(nmA same i).2],(nmA same i).2+1):=by rw [nmA,hk]
  refine ⟨by rw [eB]; simp [h1],by
   rw [eB]
   intro f hf
   rcases List.mem_append.1 hf with hf | hf
   ·have:=h2 f hf; omega
   ·rw [List.mem_singleton] at hf; omega,?_,?_,?_,?_⟩
  ·rw [eB]
   intro j hj
   by_cases e:j=i
   ·subst e
    refine ⟨j,?_,.inl rfl⟩
    have:((nmB same j).2 ++ [(nmB same j).1.length]).getD j 0=(nmB same j).1.length:=by simp [List.getD_eq_getElem?_getD,List.getElem?_append_right,h1]
    show ((nmB same j).1 ++ [j])[((nmB same j).2 ++ [(nmB same j).1.length]).getD j 0]? = _
    rw [this]; simp
   ·have:((nmB same i).2 ++ [(nmB same i).1.length]).getD j 0=(nmB same i).2.getD j 0:=by
     rw [List.getD_eq_getElem?_getD,List.getD_eq_getElem?_getD,List.getElem?_append_left (by omega)]
    obtain ⟨f,e1,e2⟩:=h3 j (by omega)
    refine ⟨f,?_,e2⟩
    show ((nmB same i).1 ++ [i])[((nmB same i).2 ++ [(nmB same i).1.length]).getD j 0]? = _
    rw [this,List.getElem?_append_left (List.getElem?_eq_some_iff.1 e1).1]
    exact e1
  ·rw [eB]
   intro c d f g hcd e1 e2
   have hd:=(List.getElem?_eq_some_iff.1 e2).1
   simp only [List.length_append,List.length_cons,List.length_nil] at hd
   rw [List.getElem?_append_left (by omega)] at e1
   by_cases hdl:d<(nmB same i).1.length
   ·rw [List.getElem?_append_left hdl] at e2
    exact h4 c d f g hcd e1 e2
   ·have e:d=(nmB same i).1.length:=by omega
    subst e
    simp at e2
    subst e2
    have:=hno f (List.mem_of_getElem? e1)
    simpa using this
  ·rw [eA,eB,h5,h6]
  ·rw [eA,eB,h6]; simp
theorem nm_eq {same:Nat→Nat→Bool} {N:Nat} (hE:Eqv same N):∀ i,i≤N→NmI same i
 | 0,_=>⟨rfl,by simp [nmB],fun j hj=>by omega,fun c d f g _ e1=>by simp [nmB] at e1,rfl,rfl⟩
 | i+1,h=>nm_step hE (by omega) (nm_eq hE i (by omega))
end
end
section
section
attribute [local irreducible] ACall PCall KL
def rnw (fs:List (List Nat)) (w:List Nat) (p:Nat):Nat:=w.foldl (fun p k=>(fs.getD k []).getD p 0) p
def Apt (fs:List (List Nat)) (la:List Nat) (p q:Nat):Prop:=∃ w:List Nat,(∀ k∈w,k<fs.length)∧¬ (rnw fs w p∈la↔rnw fs w q∈la)
noncomputable def smB (fs:List (List Nat)) (la:List Nat) (p q:Nat):Bool:=@decide (¬ Apt fs la p q) (Classical.propDecidable _)
theorem smB_iff {fs:List (List Nat)} {la:List Nat} {p q:Nat}:smB fs la p q=true↔∀ w:List Nat,(∀ k∈w,k<fs.length)→(rnw fs w p∈la↔rnw fs w q∈la):=by
 unfold smB
 rw [@decide_eq_true_iff _ (Classical.propDecidable _)]
 constructor
 ·intro h w hw
  exact Classical.byContradiction fun hn=>h ⟨w,hw,hn⟩
 ·rintro h ⟨w,hw,hn⟩
  exact hn (h w hw)
theorem smB_eqv (fs:List (List Nat)) (la ord:List Nat):Eqv (fun i k=>smB fs la (ord.getD i 0) (ord.getD k 0)) ord.length :=
 ⟨fun a b _ _ h=>smB_iff.2 fun w hw=>(smB_iff.1 h w hw).symm,fun a b c _ _ _ h1 h2=>smB_iff.2 fun w hw=>(smB_iff.1 h1 w hw).trans (smB_iff.1 h2 w hw)⟩
theorem rnw_snoc (fs:List (List Nat)) (w:List Nat) (k p:Nat):rnw fs (w ++ [k]) p=(fs.getD k []).getD (rnw fs w p) 0:=by
 unfold rnw; rw [List.foldl_append]; rfl
noncomputable def clsA (fs:List (List Nat)) (la ord:List Nat):List Nat × Nat:=nmA (fun i k=>smB fs la (ord.getD i 0) (ord.getD k 0)) ord.length
noncomputable def clsB (fs:List (List Nat)) (la ord:List Nat):List Nat × List Nat:=nmB (fun i k=>smB fs la (ord.getD i 0) (ord.getD k 0)) ord.length
theorem cls_eq (fs:List (List Nat)) (la ord:List Nat):(clsA fs la ord).1=(clsB fs la ord).2∧(clsA fs la ord).2=(clsB fs la ord).1.length:=(nm_eq (smB_eqv fs la ord) ord.length (Nat.le_refl _)).eqA
end
end
end Go.Proofs.YtcfmmmloeaggmaaGreat
section
section
namespace Go.Kv
set_option linter.unusedVariables false
set_option linter.unusedSimpArgs false
def it (f:List Nat):Nat→Nat→Nat
 | 0,p=>p
 | k+1,p=>f.getD (it f k p) 0
theorem it_add (f:List Nat) (p:Nat) (a:Nat):∀ b,it f (a+b) p=it f b (it f a p)
 | 0=>rfl
 | b+1=>by
  show f.getD (it f (a+b) p) 0=_
  rw [it_add f p a b]; rfl
theorem it_lt {f:List Nat} {n p:Nat} (hf:Ok f n) (hp:p<n):∀ k,it f k p<n
 | 0=>hp
 | k+1=>hf.get' _
theorem it_mul {f:List Nat} {p d:Nat} (h:it f d p=p):∀ k,it f (d * k) p=p
 | 0=>rfl
 | k+1=>by rw [Nat.mul_succ,it_add,it_mul h k,h]
def itM (f:List Nat) (n k:Nat):List Nat:=(List.range n).map (it f k)
theorem itM_get {f:List Nat} {n k p:Nat} (hp:p<n):(itM f n k).getD p 0=it f k p:=by simp [itM,List.getD_eq_getElem?_getD,hp]
theorem itM_ok {f:List Nat} {n:Nat} (hf:Ok f n) (k:Nat):Ok (itM f n k) n:=⟨by simp [itM],hf.pos,hf.le,fun x hx=>by
 simp only [itM,List.mem_map,List.mem_range] at hx
 obtain ⟨p,hp,rfl⟩:=hx
 exact it_lt hf hp k⟩
theorem itM_zero {f:List Nat} {n:Nat}:itM f n 0=List.range n:=by
 unfold itM
 conv=>rhs; rw [← List.map_id (List.range n)]
 exact List.map_congr_left fun x _=>rfl
theorem itM_one {f:List Nat} {n:Nat} (hf:Ok f n):itM f n 1=f:=by
 refine ext_getD (by simp [itM,hf.len]) fun i hi=>?_
 simp only [itM,List.length_map,List.length_range] at hi
 rw [itM_get hi]; rfl
theorem itM_mul {f:List Nat} {n:Nat} (hf:Ok f n) (a b:Nat):mul (itM f n a) (itM f n b)=itM f n (a+b):=by
 refine ext_getD (by simp [itM]) fun i hi=>?_
 simp only [itM,mul_length,List.length_map,List.length_range] at hi
 rw [mul_get (by simpa [itM] using hi),itM_get hi,itM_get (it_lt hf hi a),itM_get hi,it_add]
def cyc (f:List Nat) (n p:Nat):Bool:=(List.range n).any fun k=>decide (it f (k+1) p=p)
theorem cyc_iff {f:List Nat} {n p:Nat}:cyc f n p=true↔∃ d,1≤d∧d≤n∧it f d p=p:=by
 simp only [cyc,List.any_eq_true,List.mem_range,decide_eq_true_eq]
 constructor
 ·rintro ⟨k,hk,h⟩; exact ⟨k+1,by omega,by omega,h⟩
 ·rintro ⟨d,h1,h2,h⟩; exact ⟨d - 1,by omega,by rw [Nat.sub_add_cancel h1]; exact h⟩
theorem nodup_len:∀ (n:Nat) (l:List Nat),l.Nodup→(∀ x∈l,x<n)→l.length≤n
 | 0,l,_,h=>by
  cases l with
  | nil=>simp
  | cons a l=>exact absurd (h a (by simp)) (by omega)
 | n+1,l,hd,h=>by
  by_cases hn:n∈l
  ·have h1:=nodup_len n (l.erase n) (hd.erase n) fun x hx=>by
    have:=(List.Nodup.mem_erase_iff hd).1 hx
    have:=h x this.2
    omega
   rw [List.length_erase_of_mem hn] at h1
   omega
  ·have:=nodup_len n l hd fun x hx=>by
    have:=h x hx
    have:x≠n:=fun e=>hn (e ▸ hx)
    omega
   omega
theorem it_twice {f:List Nat} {n p:Nat} (hf:Ok f n) (hp:p<n):∃ i j,i<j∧j≤n∧it f i p=it f j p:=by
 refine Classical.byContradiction fun hno=>?_
 have hnd:((List.range (n+1)).map fun k=>it f k p).Nodup:=by
  rw [List.Nodup,List.pairwise_map,List.pairwise_iff_getElem]
  intro i j hi hj hij he
  simp only [List.length_range] at hi hj
  simp only [List.getElem_range] at he
  exact hno ⟨i,j,hij,by omega,he⟩
 have:=nodup_len n _ hnd fun x hx=>by
  simp only [List.mem_map,List.mem_range] at hx
  obtain ⟨k,_,rfl⟩:=hx
  exact it_lt hf hp k
 simp at this
 omega
theorem cyc_late {f:List Nat} {n p:Nat} (hf:Ok f n) (hp:p<n) {k:Nat} (hk:n≤k+1):cyc f n (it f k p)=true:=by
 obtain ⟨i,j,hij,hj,he⟩:=it_twice hf hp
 refine cyc_iff.2 ⟨j - i,by omega,by omega,?_⟩
 obtain ⟨r,rfl⟩:∃ r,k=i+r:=⟨k - i,by omega⟩
 rw [it_add f p i r,← it_add f _ r (j - i),Nat.add_comm r,it_add f _ (j - i) r,← it_add f p i (j - i),show i+(j - i)=j by omega,← he]
theorem cyc_step {f:List Nat} {n p:Nat} (h:cyc f n p=true) (k:Nat):cyc f n (it f k p)=true:=by
 obtain ⟨d,h1,h2,h3⟩:=cyc_iff.1 h
 refine cyc_iff.2 ⟨d,h1,h2,?_⟩
 rw [← it_add,Nat.add_comm,it_add,h3]
def hgt (f:List Nat) (n p:Nat):Nat:=(List.range 61).findIdx fun k=>cyc f n (it f k p)
def IsMin (f:List Nat) (p v:Nat):Prop:=(∃ k,v=it f k p)∧∀ k,v≤it f k p
theorem IsMin.move {f:List Nat} {n p j v:Nat} (hc:cyc f n p=true) (h:IsMin f (it f j p) v):IsMin f p v:=by
 obtain ⟨d,h1,h2,h3⟩:=cyc_iff.1 hc
 obtain ⟨⟨a,ha⟩,hb⟩:=h
 refine ⟨⟨j+a,by rw [it_add]; exact ha⟩,fun k=>?_⟩
 have e:it f k p=it f (d * j - j+k) (it f j p):=by
  have hj:j≤d * j:=by
   have:=Nat.mul_le_mul_right j h1
   omega
  rw [← it_add,← Nat.add_assoc,show j+(d * j - j)=d * j by omega,it_add,it_mul h3]
 rw [e]; exact hb _
def lo (f:List Nat) (p:Nat):Nat→Nat
 | 0=>p
 | m+1=>min (lo f p m) (it f (m+1) p)
theorem lo_mem (f:List Nat) (p:Nat):∀ m,∃ k,k≤m∧lo f p m=it f k p
 | 0=>⟨0,Nat.le_refl _,rfl⟩
 | m+1=>by
  obtain ⟨k,hk,h⟩:=lo_mem f p m
  simp only [lo]
  by_cases hle:lo f p m≤it f (m+1) p
  ·exact ⟨k,by omega,by rw [Nat.min_eq_left hle]; exact h⟩
  ·exact ⟨m+1,Nat.le_refl _,by rw [Nat.min_eq_right (by omega)]⟩
def mino (f:List Nat) (p:Nat):Nat:=lo f p 59
def sb:List Nat→Nat
 | []=>0
 | p :: l=>sb l ||| 2 ^ p
theorem sb_snoc:∀ (l:List Nat) (p:Nat),sb (l ++ [p])=sb l ||| 2 ^ p
 | [],p=>by simp [sb]
 | a :: l,p=>by simp only [List.cons_append,sb,sb_snoc l p,Nat.or_assoc,Nat.or_comm (2 ^ p)]
theorem sb_test:∀ (l:List Nat) (q:Nat),(sb l).testBit q=decide (q∈l)
 | [],q=>by simp [sb]
 | a :: l,q=>by
  simp only [sb,Nat.testBit_or,sb_test l q,Nat.testBit_two_pow,List.mem_cons]
  by_cases h:a=q
  ·simp [h]
  ·have:¬ q=a:=fun e=>h e.symm
   simp [h,this]
theorem sb_lt {n:Nat}:∀ {l:List Nat},(∀ x∈l,x<n)→sb l<2 ^ n
 | [],_=>by simp [sb]; exact Nat.pow_pos (by omega)
 | a :: l,h=>Nat.or_lt_two_pow (sb_lt fun x hx=>h x (by simp [hx])) (Nat.pow_lt_pow_right (by omega) (h a (by simp)))
end Go.Kv
end
section
namespace Go.Proofs.YtcfmmmloeaggmaaGreat
open Go.Kv
set_option linter.unusedVariables false
set_option linter.unusedSimpArgs false
attribute [local irreducible] ACall PCall KL
def its (f:List Nat) (p m:Nat):List Int:=(List.range m).map fun k=>(it f k p:Int)
@[simp] theorem its_length (f:List Nat) (p m:Nat):(its f p m).length=m:=by simp [its]
end Go.Proofs.YtcfmmmloeaggmaaGreat
end
section
namespace Go.Proofs.YtcfmmmloeaggmaaGreat
open Go.Kv
set_option linter.unusedVariables false
set_option linter.unusedSimpArgs false
attribute [local irreducible] ACall PCall KL
def Jn (m:List Int) (i j:Nat):Prop:=(∀ x y,x<y→y≤i→x≠j→y≠j→m.getD x 0≤m.getD y 0)∧∀ y,j<y→y≤i→m.getD j 0≤m.getD y 0
def Sn (m:List Int) (i:Nat):Prop:=∀ x y,x<y→y<i→m.getD x 0≤m.getD y 0
theorem getD_setI (m:List Int) (i:Nat) (v:Int) (k:Nat) (h:i<m.length):(m.set i v).getD k 0=if k=i then v else m.getD k 0:=by
 rw [List.getD_eq_getElem?_getD]
 by_cases e:k=i
 ·subst e; rw [List.getElem?_set_self h]; simp
 ·rw [List.getElem?_set_ne (Ne.symm e),if_neg e,List.getD_eq_getElem?_getD]
theorem Jn.zero {m:List Int} {i:Nat} (h:Sn m i):Jn m i i:=⟨fun x y h1 h2 h3 h4=>h x y h1 (by omega),fun y h1 h2=>by omega⟩
def swap1 (m:List Int) (j:Nat):List Int:=(m.set j (m.getD (j - 1) 0)).set (j - 1) (m.getD j 0)
@[simp] theorem swap1_length (m:List Int) (j:Nat):(swap1 m j).length=m.length:=by simp [swap1]
theorem swap1_getD {m:List Int} {j:Nat} (h:j<m.length) (k:Nat):(swap1 m j).getD k 0=if k=j - 1 then m.getD j 0 else if k=j then m.getD (j - 1) 0 else m.getD k 0:=by
 rw [swap1,getD_setI _ _ _ _ (by simp; omega),getD_setI _ _ _ _ h]
theorem Jn.step {m:List Int} {i j:Nat} (h:Jn m i j) (hi:i<m.length) (hj:j≤i) (h0:0<j) (hl:m.getD j 0<m.getD (j - 1) 0):Jn (swap1 m j) i (j - 1):=by
 have hg:=swap1_getD (m:=m) (j:=j) (by omega)
 refine ⟨fun x y h1 h2 h3 h4=>?_,fun y h1 h2=>?_⟩
 ·rw [hg,hg,if_neg h3,if_neg h4]
  by_cases ex:x=j
  ·rw [if_pos ex,if_neg (by omega)]
   exact h.1 (j - 1) y (by omega) h2 (by omega) (by omega)
  ·rw [if_neg ex]
   by_cases ey:y=j
   ·rw [if_pos ey]
    exact h.1 x (j - 1) (by omega) (by omega) ex (by omega)
   ·rw [if_neg ey]; exact h.1 x y h1 h2 ex ey
 ·rw [hg,hg,if_pos rfl,if_neg (by omega)]
  by_cases ey:y=j
  ·rw [if_pos ey]; omega
  ·rw [if_neg ey]; exact h.2 y (by omega) h2
theorem aWrap_u64 {n:Nat} (h:n<9223372036854775808) {K:PV→Prop}:aWrap .u64 (n:Int) K=K (.int .u64 n):=by
 have e:IntKind.u64.wrap (n:Int)=n:=by
  simp only [IntKind.wrap,IntKind.signed,IntKind.bits,Bool.false_and,Bool.false_eq_true,if_false]
  omega
 show K _=_
 rw [e]
end Go.Proofs.YtcfmmmloeaggmaaGreat
end
section
namespace Go.Proofs.YtcfmmmloeaggmaaGreat
open Go.Kv
set_option linter.unusedVariables false
set_option linter.unusedSimpArgs false
attribute [local irreducible] ACall PCall KL
def cpt:List Int→List Int
 | []=>[]
 | a :: l=>match l with
  | []=>[a]
  | b :: _=>if a=b then cpt l else a :: cpt l
end Go.Proofs.YtcfmmmloeaggmaaGreat
end
section
namespace Go.Proofs.YtcfmmmloeaggmaaGreat
open Go.Kv
set_option linter.unusedVariables false
set_option linter.unusedSimpArgs false
attribute [local irreducible] ACall PCall KL
def dg (n:Nat):Nat→Nat→List Nat
 | 0,_=>[]
 | j+1,k=>(k / n ^ j % n) :: dg n j k
@[simp] theorem dg_length (n:Nat):∀ j k,(dg n j k).length=j
 | 0,k=>rfl
 | j+1,k=>by simp [dg,dg_length n j k]
def allM (n:Nat):List (List Nat):=(List.range (n ^ n)).map (dg n n)
def fstM (n x:Nat):List (List Int):=(List.range x).map fun k=>mp (dg n n k)
@[simp] theorem fstM_length (n x:Nat):(fstM n x).length=x:=by simp [fstM]
end Go.Proofs.YtcfmmmloeaggmaaGreat
end
section
namespace Go.Proofs.YtcfmmmloeaggmaaGreat
open Go.Kv
set_option linter.unusedVariables false
set_option linter.unusedSimpArgs false
attribute [local irreducible] ACall PCall KL
def insI (x:Int):List Int→List Int
 | []=>[x]
 | y :: l=>if x≤y then x :: y :: l else y :: insI x l
def srt:List Int→List Int
 | []=>[]
 | x :: l=>insI x (srt l)
theorem insI_perm (x:Int):∀ l,(insI x l).Perm (x :: l)
 | []=>.refl _
 | y :: l=>by
  unfold insI
  split
  ·exact .refl _
  ·exact ((insI_perm x l).cons y).trans (.swap x y l)
theorem srt_perm:∀ l,(srt l).Perm l
 | []=>.refl _
 | x :: l=>(insI_perm x _).trans ((srt_perm l).cons x)
@[simp] theorem srt_length (l:List Int):(srt l).length=l.length:=(srt_perm l).length_eq
def imgs (f:List Nat) (l:List Nat):List Int:=cpt (srt (l.map fun p=>(f.getD p 0:Int)))
end Go.Proofs.YtcfmmmloeaggmaaGreat
end
end
