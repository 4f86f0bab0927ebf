/- Several texts of this session as one, less what the claim does not need. -/
import Derived.Test.YtcfmmmloeaggmaaGreatZ11
import Derived.Test.YtcfmmmloeaggmaaGreatZ7
import Derived.Test.YtcfmmmloeaggmaaGreatCb
import Derived.Test.YtcfmmmloeaggmaaGreatZ8
import Derived.Test.YtcfmmmloeaggmaaGreatZ9
namespace Go.Proofs.YtcfmmmloeaggmaaGreat
open Go.Kv
set_option linter.unusedVariables false
set_option linter.unusedSimpArgs false
section
section
attribute [local irreducible] ACall PCall KL
theorem clOk_dense:∀ {P:List Int} {v:Int},clOk P v=true→∀ x∈P,∀ w,v≤w→w≤x→w∈P
 | [],_,_,x,hx,_,_,_=>by simp at hx
 | k :: r,v,h,x,hx,w,h1,h2=>by
  have hc:(decide (0≤k∧k≤v) && clOk r (if k=v then v+1 else v))=true:=h
  rw [Bool.and_eq_true,decide_eq_true_iff] at hc
  obtain ⟨⟨h3,h4⟩,h5⟩:=hc
  rcases List.mem_cons.1 hx with rfl | hx
  ·obtain rfl:w=x:=by omega
   simp
  ·by_cases e:k=v
   ·rw [if_pos e] at h5
    by_cases e2:w=v
    ·rw [e2,← e]; simp
    ·exact List.mem_cons.2 (.inr (clOk_dense h5 x hx w (by omega) h2))
   ·rw [if_neg e] at h5
    exact List.mem_cons.2 (.inr (clOk_dense h5 x hx w h1 h2))
theorem foldl_max_mem:∀ (P:List Int) (v:Int),P.foldl max v=v∨P.foldl max v∈P
 | [],v=>.inl rfl
 | a :: r,v=>by
  rw [List.foldl_cons]
  rcases foldl_max_mem r (max v a) with h | h
  ·rw [h]
   rcases Int.le_total v a with h1 | h1
   ·exact .inr (by rw [Int.max_eq_right h1]; simp)
   ·exact .inl (Int.max_eq_left h1)
  ·exact .inr (List.mem_cons.2 (.inr h))
def MC (cl:List Int):Nat:=(mxl cl+1).toNat
def rpC (cl:List Int) (a:Nat):Nat:=(idx (fun y=>decide ((a:Int)=y)) cl).toNat
theorem MC_ok {N:Nat} {cl:List Int} (h:CnC N cl) (h0:1≤N):mxl cl∈cl∧1≤MC cl∧MC cl≤N∧mxl cl+1=(MC cl:Int):=by
 have hl:=h.len
 have hpos:0<cl.length:=by omega
 have hm:mxl cl∈cl:=by
  unfold mxl
  rcases foldl_max_mem cl (-1) with e | e
  ·have h1:=(foldl_max_ge cl (-1)).2 _ (List.getElem_mem hpos)
   have h2:=(h.lt _ (List.getElem_mem hpos)).1
   omega
  ·exact e
 have:=h.lt _ hm
 unfold MC
 exact ⟨hm,by omega,by omega,by omega⟩
theorem cl_lt {N:Nat} {cl:List Int} (h:CnC N cl) {i:Nat} (hi:i<N):cl.getD i 0=((cl.getD i 0).toNat:Int)∧(cl.getD i 0).toNat<MC cl:=by
 have hl:=h.len
 have hm:cl.getD i 0∈cl:=getD_mem (by omega) 0
 have h1:=h.lt _ hm
 have h2:=(foldl_max_ge cl (-1)).2 _ hm
 unfold MC mxl
 omega
theorem rp_ok {N:Nat} {cl:List Int} (h:CnC N cl) (h0:1≤N) {a:Nat} (ha:a<MC cl):idx (fun y=>decide ((a:Int)=y)) cl=(rpC cl a:Int)∧rpC cl a<N∧cl.getD (rpC cl a) 0=(a:Int):=by
 obtain ⟨h1,h2,h3,h4⟩:=MC_ok h h0
 have hin:(a:Int)∈cl:=clOk_dense h.ok _ h1 _ (by omega) (by omega)
 obtain ⟨i,hi,e⟩:=List.getElem_of_mem hin
 have e':cl.getD i 0=(a:Int):=by rw [List.getD_eq_getElem?_getD,List.getElem?_eq_getElem hi]; exact e
 obtain ⟨q,hq,hql,hqe⟩:=idx_of hi
 rw [e'] at hq hqe
 have hr:rpC cl a=q:=by unfold rpC; rw [hq]; omega
 rw [hr]
 exact ⟨hq,by have:=h.len; omega,hqe⟩
def quoC (T:List (List Int)) (cl:List Int):List (List Int):=(List.range (MC cl)).map fun a=>(List.range (MC cl)).map fun b=>cl.getD (tgC T (rpC cl a) (rpC cl b)) 0
theorem quo_len (T:List (List Int)) (cl:List Int):(quoC T cl).length=MC cl:=by simp [quoC]
theorem quo_row (T:List (List Int)) {cl:List Int} {a:Nat} (ha:a<MC cl):(quoC T cl).getD a []=(List.range (MC cl)).map fun b=>cl.getD (tgC T (rpC cl a) (rpC cl b)) 0:=by
 simp [quoC,List.getD_eq_getElem?_getD,ha]
theorem quo_at (T:List (List Int)) {cl:List Int} {a b:Nat} (ha:a<MC cl) (hb:b<MC cl):tat (quoC T cl) a b=cl.getD (tgC T (rpC cl a) (rpC cl b)) 0:=by
 rw [tat,quo_row T ha]
 simp [List.getD_eq_getElem?_getD,hb]
theorem quo_of {T:List (List Int)} {N:Nat} {cl:List Int} (hT:TblC T N) (h:CnC N cl) (h0:1≤N) (hc:CloC T N true cl) {i j:Nat} (hi:i<N) (hj:j<N):tat (quoC T cl) (cl.getD i 0).toNat (cl.getD j 0).toNat=cl.getD (tgC T i j) 0:=by
 obtain ⟨a1,a2⟩:=cl_lt h hi
 obtain ⟨b1,b2⟩:=cl_lt h hj
 rw [quo_at T a2 b2]
 obtain ⟨_,r1,r2⟩:=rp_ok h h0 a2
 obtain ⟨_,s1,s2⟩:=rp_ok h h0 b2
 generalize rpC cl (cl.getD i 0).toNat=p at *
 generalize rpC cl (cl.getD j 0).toNat=q at *
 have h1:=(hc p i q r1 hi s1 (by unfold eqC; omega)).1
 have h2:=(hc q j i s1 hj hi (by unfold eqC; omega)).2 rfl
 exact h1.trans h2
theorem quo_tab {T:List (List Int)} {N:Nat} {cl:List Int} (hT:TblC T N) (h:CnC N cl) (h0:1≤N) (h40:N≤40):isTab (quoC T cl)=true:=by
 obtain ⟨_,m1,m2,_⟩:=MC_ok h h0
 unfold isTab
 rw [Bool.and_eq_true,List.all_eq_true]
 refine ⟨decide_eq_true (by rw [quo_len]; omega),fun r hr=>?_⟩
 obtain ⟨a,ha,rfl⟩:=List.mem_map.1 hr
 have ha:=List.mem_range.1 ha
 rw [rowOk,Bool.and_eq_true,List.all_eq_true]
 refine ⟨decide_eq_true (by simp [quo_len]),fun x hx=>decide_eq_true ?_⟩
 obtain ⟨b,hb,rfl⟩:=List.mem_map.1 hx
 have hb:=List.mem_range.1 hb
 obtain ⟨_,r1,_⟩:=rp_ok h h0 ha
 obtain ⟨_,s1,_⟩:=rp_ok h h0 hb
 obtain ⟨c1,c2⟩:=cl_lt h (hT.tg r1 s1).1
 rw [c1,quo_len]; omega
theorem quo_mon {T:List (List Int)} {N:Nat} {cl:List Int} (hT:TblC T N) (h:CnC N cl) (h0:1≤N) (hc:CloC T N true cl) (hm:monB T=true):monB (quoC T cl)=true:=by
 have hTl:=hT.len
 unfold monB at hm ⊢
 rw [Bool.and_eq_true,decide_eq_true_iff] at hm ⊢
 obtain ⟨he,ha⟩:=hm
 have hat:∀ i j,i<N→j<N→tat T i j=(tgC T i j:Int):=fun i j hi hj=>(hT.tg hi hj).2
 constructor
 ·have hany:(List.range T.length).any (fun e=>okE T e T.length)=true:=by
   rw [← idx_nonneg]; exact decide_eq_true he
  obtain ⟨e,hel,hek⟩:=List.any_eq_true.1 hany
  have hel:=List.mem_range.1 hel
  rw [hTl] at hel
  unfold okE at hek
  simp only [List.all_eq_true,List.mem_range,Bool.and_eq_true,decide_eq_true_eq] at hek
  obtain ⟨e1,e2⟩:=cl_lt h hel
  have hg:(List.range (quoC T cl).length).any (fun e=>okE (quoC T cl) e (quoC T cl).length)=true:=by
   refine List.any_eq_true.2 ⟨(cl.getD e 0).toNat,List.mem_range.2 (by rw [quo_len]; exact e2),?_⟩
   unfold okE
   simp only [List.all_eq_true,List.mem_range,Bool.and_eq_true,decide_eq_true_eq,quo_len]
   intro x hx
   obtain ⟨_,r1,r2⟩:=rp_ok h h0 hx
   obtain ⟨k1,k2⟩:=hek (rpC cl x) (by omega)
   rw [hat _ _ hel r1] at k1
   rw [hat _ _ r1 hel] at k2
   have q1:=quo_of hT h h0 hc hel r1
   have q2:=quo_of hT h h0 hc r1 hel
   rw [r2,Int.toNat_natCast] at q1 q2
   rw [q1,q2,show tgC T e (rpC cl x)=rpC cl x by omega,show tgC T (rpC cl x) e=rpC cl x by omega,r2]
   exact ⟨rfl,rfl⟩
  have:=idx_nonneg (fun e=>okE (quoC T cl) e (quoC T cl).length) (List.range (quoC T cl).length)
  rw [hg] at this
  exact of_decide_eq_true this
 ·unfold asso ascA ascB ascC at ha ⊢
  simp only [List.all_eq_true,List.mem_range,quo_len,decide_eq_true_eq] at ha ⊢
  intro a hal b hbl c hcl
  obtain ⟨_,a1,a2⟩:=rp_ok h h0 hal
  obtain ⟨_,b1,b2⟩:=rp_ok h h0 hbl
  obtain ⟨_,c1,c2⟩:=rp_ok h h0 hcl
  have hk:=ha (rpC cl a) (by omega) (rpC cl b) (by omega) (rpC cl c) (by omega)
  rw [hat _ _ a1 b1,hat _ _ b1 c1,Int.toNat_natCast,Int.toNat_natCast,hat _ _ (hT.tg a1 b1).1 c1,hat _ _ a1 (hT.tg b1 c1).1] at hk
  have q1:=quo_of hT h h0 hc a1 b1
  have q2:=quo_of hT h h0 hc b1 c1
  have q3:=quo_of hT h h0 hc (hT.tg a1 b1).1 c1
  have q4:=quo_of hT h h0 hc a1 (hT.tg b1 c1).1
  rw [a2,b2,Int.toNat_natCast,Int.toNat_natCast] at q1
  rw [b2,c2,Int.toNat_natCast,Int.toNat_natCast] at q2
  rw [c2,Int.toNat_natCast] at q3
  rw [a2,Int.toNat_natCast] at q4
  rw [q1,q2,q3,q4,show tgC T (tgC T (rpC cl a) (rpC cl b)) (rpC cl c)=tgC T (rpC cl a) (tgC T (rpC cl b) (rpC cl c)) by omega]
theorem lf_self {T:List (List Int)} {N:Nat} {cl:List Int} (hT:TblC T N) (h:CnC N cl):nz (lfC N (PC T N true (eqC cl)))=cl↔CloC T N true cl:=by
 constructor
 ·intro e
  have:=(lfC_lea hT true (eqC cl)).1.own.1
  rwa [e] at this
 ·intro hc
  rw [lfC_eq (r:=cl) ⟨h.len,⟨hc,fun i j _ _ h=>h⟩,fun s hs i j hi hj he=>hs.2 i j hi hj he⟩,h.nm]
theorem cn_of {N:Nat} {cl:List Int} (h:(clOk cl 0 && decide ((cl.length:Int)=N))=true):CnC N cl:=by
 rw [Bool.and_eq_true,decide_eq_true_iff] at h
 have:=nmC_cn (N:=N) (r:=cl) (by omega)
 rwa [canon h.1] at this
end
end
end Go.Proofs.YtcfmmmloeaggmaaGreat
section
namespace Go.Proofs.YtcfmmmloeaggmaaGreat
open Go.Shelf Go.RowKit Go.Lib Go.Sort
set_option linter.unusedVariables false
set_option linter.unusedSimpArgs false
attribute [local go_sem] Oper.semAt_some
set_option maxRecDepth 100000 in
set_option maxHeartbeats 2000000 in
theorem max_in (F:Fence) (n:Nat) (h:F.fn 152) (hro:F.round=none) (b o c:Nat) (xs:List Int) (h0:0<xs.length) (hx:xs.length≤1000000) (hp:∀ k∈xs,0≤k) (w:World)
  (hc:∀ j,j<xs.length→w.cell? ⟨b,o+j,none⟩=some (.int .i64 (xs[j]?.getD 0))) :
  CallsIn F n Tryz.prog 152 #[.slice (some ⟨b,o,none⟩) xs.length c] w fun e w'=>e = .returned (.int .i64 (mxl xs))∧w'=w:=by
 have hc0:=hc 0 h0
 have e0:mxl (xs.take 1)=xs[0]?.getD 0:=by
  have:=hp _ (List.getElem_mem h0)
  rw [show xs.take 1 = [] ++ [xs[0]] from by rw [List.take_succ_eq_append_getElem h0]; rfl,mxl_snoc,List.getElem?_eq_getElem h0]
  simp [mxl]; omega
 refine callsIn_of_wp Tryz.func152 rfl h ?_ hro
 simp only [Tryz.ntmps152,List.size_toArray,List.length_cons,List.length_nil,Nat.reduceAdd,Nat.reduceSub,Array.replicate_succ,Array.replicate_zero,List.push_toArray,List.append_toArray,List.nil_append,List.cons_append]
 gi_wp2
 gi_loopw [3,4] (fun m i wr=>∃ k:Nat,1≤k∧k≤xs.length∧i = .int .i64 k∧m = .int .i64 (mxl (xs.take k))∧wr=w)
  (fun _ i _=>xs.length - (intOf i).toNat)
 case atStart=>exact ⟨1,Nat.le_refl _,by omega,rfl,by rw [e0,List.getElem?_eq_getElem h0]; rfl,rfl⟩
 case round =>
  obtain ⟨k,hk1,hk,rfl,rfl,rfl⟩:=hrel
  have hx1:k<xs.length→wr.cell? ⟨b,o+k,none⟩=some (.int .i64 (xs[k]?.getD 0)):=hc k
  by_cases hlt:k<xs.length
  ·have hx2:=hx1 hlt
   gi_wp2
   exact ⟨⟨k+1,by omega,by omega,by simp,by rw [List.take_succ_eq_append_getElem hlt,mxl_snoc],trivial⟩,by simp [intOf]; omega⟩
  ·obtain rfl:k=xs.length:=by omega
   rw [List.take_length]
   gi_wp2
   go_ret
   exact ⟨rfl,rfl⟩
set_option maxRecDepth 100000 in
set_option maxHeartbeats 1000000 in
theorem many_in (F:Fence) (n:Nat) (h:F.fn 83) (h1:F.fn 152) (hro:F.round=none) (hn:1≤n) (b o c:Nat) (xs:List Int) (h0:0<xs.length) (hx:xs.length≤1000000) (hp:∀ k∈xs,0≤k) (hm:mxl xs≤1000000) (w:World)
  (hc:∀ j,j<xs.length→w.cell? ⟨b,o+j,none⟩=some (.int .i64 (xs[j]?.getD 0))) :
  CallsIn F n Tryz.prog 83 #[.slice (some ⟨b,o,none⟩) xs.length c] w fun e w'=>e = .returned (.int .i64 (mxl xs+1))∧w'=w:=by
 have hm0:-1≤mxl xs:=(foldl_max_ge xs (-1)).1
 refine callsIn_of_wp Tryz.func83 rfl h ?_ hro
 simp only [Tryz.ntmps83,List.size_toArray,List.length_cons,List.length_nil,Nat.reduceAdd,Nat.reduceSub,Array.replicate_succ,Array.replicate_zero,List.push_toArray,List.append_toArray,List.nil_append,List.cons_append]
 gi_wp2_with (gi_at_call 152; refine (max_in F (n - 1) h1 hro b o c xs h0 hx hp _ hc).mono ?_; rintro e w' ⟨rfl,rfl⟩)
 go_ret
 exact ⟨rfl,rfl⟩
set_option maxRecDepth 100000 in
set_option maxHeartbeats 2000000 in
theorem cgc_in (F:Fence) (n:Nat) (h:F.fn 163) (h1:F.fn 165) (h2:F.fn 195) (h3:F.fn 166) (h4:F.fn 83) (h5:F.fn 152) (h6:F.fn 164) (hro:F.round=none) (hn:3≤n) (b1 o1 c1 b2 o2 c2:Nat) (xs ys:List Int) (hx:xs.length≤1000000) (hy:ys.length≤1000000)
  (x0:0<xs.length) (y0:0<ys.length) (xp:∀ k∈xs,0≤k) (yp:∀ k∈ys,0≤k) (xm:mxl xs≤1000000) (ym:mxl ys≤1000000) (w:World)
  (hc1:∀ j,j<xs.length→w.cell? ⟨b1,o1+j,none⟩=some (.int .i64 (xs[j]?.getD 0))) (hc2:∀ j,j<ys.length→w.cell? ⟨b2,o2+j,none⟩=some (.int .i64 (ys[j]?.getD 0))) :
  CallsIn F n Tryz.prog 163 #[.slice (some ⟨b1,o1,none⟩) xs.length c1,.slice (some ⟨b2,o2,none⟩) ys.length c2] w fun e w'=>e = .returned (.int .i64 (cgc xs ys))∧∃ o,w'=w.alloc o:=by
 have q1:1≤n:=by omega
 have q2:1≤n - 1:=by omega
 have q3:2≤n - 1:=by omega
 refine callsIn_of_wp Tryz.func163 rfl h ?_ hro
 simp only [Tryz.ntmps163,List.size_toArray,List.length_cons,List.length_nil,Nat.reduceAdd,Nat.reduceSub,Array.replicate_succ,Array.replicate_zero,List.push_toArray,List.append_toArray,List.nil_append,List.cons_append]
 gi_wp2_with (first
  | (gi_at_call 165; refine (cmp64_in F (n - 1) h1 h2 hro q2 _ _ _).mono ?_; rintro e w' ⟨rfl,rfl⟩)
  | (gi_at_call 83; refine (many_in F (n - 1) h4 h5 hro q2 b2 o2 c2 ys y0 hy yp ym _ hc2).mono ?_; rintro e w' ⟨rfl,rfl⟩)
  | (gi_at_call 83; refine (many_in F (n - 1) h4 h5 hro q2 b1 o1 c1 xs x0 hx xp xm _ hc1).mono ?_; rintro e w' ⟨rfl,rfl⟩)
  | (gi_at_call 166; refine (slc_in F (n - 1) h3 h1 h2 hro q3 b1 o1 c1 b2 o2 c2 xs ys hx hy _ hc1 hc2).mono ?_; rintro e w' ⟨rfl,rfl⟩))
 refine (or_in F (n - 1) h6 hro _ (cI (mxl ys+1) (mxl xs+1)) (slc xs ys) _ (cell_two _ _ _ _).1 (cell_two _ _ _ _).2).mono ?_
 rintro e w'' ⟨rfl,rfl⟩
 gi_wp2
 go_ret
 exact ⟨rfl,_,rfl⟩
theorem sortC_world {w:World} {g cap:Nat} {e:TypeId} {cur:Array Value} (hb:w.heap[g]? = some (.cells cur e (0,0))) (ys:List Value) (hn:0<ys.length) (hn2:ys.length≤1000) (hcur:cur.toList.take ys.length=ys) (hone:∀ v∈ys,v.oneCell'=true) (ks:List (List Int)) (hpos:∀ i,i<ys.length→0<(ks.getD i []).length∧(∀ v∈ks.getD i [],0≤v)∧mxl (ks.getD i [])≤1000000)
  (hk:∀ i,i<ys.length→∃ b o c,ys.getD i Go.undef = .slice (some ⟨b,o,none⟩) (ks.getD i []).length c∧b≠g∧b<w.heap.size∧(ks.getD i []).length≤1000000∧∀ j,j<(ks.getD i []).length→w.cell? ⟨b,o+j,none⟩=some (.int .i64 ((ks.getD i [])[j]?.getD 0))) :
  Calls Tryz.prog 162 #[.slice (some ⟨g,0,none⟩) ys.length cap,.func (.func 163) #[] #[]] w fun en w'=>en = .returned (.tuple #[])∧∃ p:List Nat,p.Perm (List.range ys.length)∧p.Pairwise (fun a b=>¬ cgc (ks.getD b []) (ks.getD a [])<0) ∧
   (∃ cur',w'.heap[g]? = some (.cells cur' e (0,0))∧cur'.size=cur.size∧cur'.toList.take ys.length=(p.map fun i=>ys.getD i Go.undef)∧cur'.toList.drop ys.length=cur.toList.drop ys.length)∧(∀ k,k<w.heap.size→k≠g→w'.heap[k]? = w.heap[k]?)∧w.heap.size≤w'.heap.size∧w'.os=w.os∧w'.tape=w.tape∧w'.output=w.output:=by
 let ix:Nat→Nat:=fun i=>if i<ys.length then i else 0
 have hix:∀ i,ix i<ys.length:=fun i=>by show (if i<ys.length then i else 0)<_; split <;> omega
 have hix':∀ i,i<ys.length→ix i=i:=fun i hi=>if_pos hi
 let enc:Nat→Value:=fun i=>ys.getD (ix i) Go.undef
 have hds:(List.range ys.length).toArray.size=ys.length:=by simp
 have hcs:ys.length≤cur.size:=by
  have:=congrArg List.length hcur
  rw [List.length_take] at this
  simp at this; omega
 have h1:OneCell enc:=fun i=>by
  refine hone _ ?_
  show ys.getD (ix i) Go.undef∈ys
  rw [List.getD_eq_getElem?_getD,List.getElem?_eq_getElem (hix i)]
  exact List.getElem_mem _
 have hH:Holds enc w g 0 (List.range ys.length).toArray:=fun j hj=>by
  rw [hds] at hj
  refine ⟨?_,by simp [World.frozen?,hb]⟩
  have h3:(cur.toList.take ys.length)[j]? = ys[j]?:=by rw [hcur]
  rw [List.getElem?_take_of_lt hj] at h3
  simp only [World.cell?,hb,Nat.zero_add]
  simp only [Option.isSome_none,Bool.false_eq_true,if_false]
  rw [← Array.getElem?_toList,h3]
  have:((List.range ys.length).toArray)[j]! = j:=by simp [hj]
  rw [this]
  show _=some (ys.getD (ix j) Go.undef)
  rw [hix' j hj,List.getD_eq_getElem?_getD,List.getElem?_eq_getElem hj]; rfl
 have hcmp:CmpLays1 Tryz.prog 163 #[] enc (fun x y=>cgc (ks.getD (ix x) []) (ks.getD (ix y) [])) g 0 (List.range ys.length).toArray.size w:=fun m os dk hdk x y=>by
  obtain ⟨b1,o1,c1,e1,n1,l1,k1,q1⟩:=hk (ix x) (hix x)
  obtain ⟨b2,o2,c2,e2,n2,l2,k2,q2⟩:=hk (ix y) (hix y)
  have hcell:∀ b o v,b≠g→b<w.heap.size→w.cell? ⟨b,o,none⟩=some v→(sortWorld enc w g 0 m dk os).cell? ⟨b,o,none⟩=some v:=fun b o v hne hlt hc=>by
   unfold World.cell? at hc ⊢
   rw [sorted_other enc dk hlt hne]; exact hc
  show Calls Tryz.prog 163 #[ys.getD (ix x) Go.undef,ys.getD (ix y) Go.undef] _ _
  rw [e1,e2]
  refine ((callsIn_wide (n:=3)).1 (cgc_in Fence.wide 3 trivial trivial trivial trivial trivial trivial trivial rfl (by decide) b1 o1 c1 b2 o2 c2 _ _ k1 k2 (hpos _ (hix x)).1 (hpos _ (hix y)).1 (hpos _ (hix x)).2.1 (hpos _ (hix y)).2.1 (hpos _ (hix x)).2.2 (hpos _ (hix y)).2.2 _ (fun j hj=>hcell _ _ _ n1 l1 (q1 j hj)) (fun j hj=>hcell _ _ _ n2 l2 (q2 j hj)))).mono ?_
  rintro en w' ⟨rfl,o,rfl⟩
  exact ⟨rfl,0,#[o],by rw [alloc_eq_grow]; rfl⟩
 have hcon:=Any.slices_SortFunc sortRows enc h1 _ (cgc_swo fun i=>ks.getD (ix i) []) 163 #[] g 0 cap (List.range ys.length).toArray w (enters_of Tryz.func163 (by kernel_rfl) rfl) hcmp hH (Array.getElem?_eq_some_iff.1 hb).1 (by rw [hds]; omega)
 rw [hds] at hcon
 change Calls Tryz.prog 162 _ _ _ at hcon
 refine hcon.mono ?_
 rintro en w' ⟨rfl,d',nn,os,⟨hs,_,hp⟩,hS,rfl⟩
 rw [hds] at hs
 have ed':d'.extract 0 ys.length=d':=by rw [← hs]; simp
 have ed:(List.range ys.length).toArray.extract 0 ys.length=(List.range ys.length).toArray:=by
  have:=Array.extract_size (xs:=(List.range ys.length).toArray)
  rwa [hds] at this
 rw [ed',ed] at hp
 refine ⟨rfl,d'.toList,hp,?_,⟨_,sorted_heap enc d' hb,by simp [putCells],?_,by rw [← hs]; exact sorted_drop enc cur d'⟩,fun k hk hne=>sorted_other enc d' hk hne,sorted_size enc d',rfl,rfl,rfl⟩
 ·have hlt:∀ x∈d'.toList,x<ys.length:=fun x hx=>by simpa using hp.mem_iff.1 hx
  rw [List.pairwise_iff_getElem]
  intro i j hi hj hij
  have hj':j<ys.length:=by rw [← hs]; simpa using hj
  have h4:=hS i j (Nat.zero_le _) hij hj'
  have hgi:d'[i]! = d'.toList[i]:=by rw [getElem!_pos d' i (by omega)]; simp
  have hgj:d'[j]! = d'.toList[j]:=by rw [getElem!_pos d' j (by omega)]; simp
  rw [hgi,hgj] at h4
  unfold ltOf at h4
  have h4:=of_decide_eq_false h4
  dsimp only at h4
  rwa [hix' _ (hlt _ (List.getElem_mem hi)),hix' _ (hlt _ (List.getElem_mem hj))] at h4
 ·have h5:=sorted_take enc cur d' (by omega)
  rw [hs] at h5
  rw [h5]
  refine List.map_congr_left fun x hx=>?_
  show ys.getD (ix x) Go.undef=_
  rw [hix' x (by simpa using hp.mem_iff.1 hx)]
end Go.Proofs.YtcfmmmloeaggmaaGreat
end
namespace Go.Proofs.YtcfmmmloeaggmaaGreat
open Go.Kv
set_option linter.unusedVariables false
set_option linter.unusedSimpArgs false
section
section
attribute [local irreducible] ACall PCall KL
theorem p162C {σ:Heap} {id ver:Nat} {e:TypeId} {xs jk:List PV} {ks:List (List Int)} (hid:σ[id]? = some (.arr ver e 1 (xs ++ jk))) (hln:ks.length=xs.length) (h0:0<xs.length) (hn:xs.length≤1000) (hcs:∀ x∈xs,x.cs = [x]) (hks:∀ k∈ks,(k≠[]∧k.length≤1000000)∧(∀ v∈k,0≤v)∧mxl k≤1000000)
  (hi:∀ (i:Nat) x k,xs[i]? = some x→ks[i]? = some k→Imm (σ.set id .dead) x (.list (ints k))) {K:PV→Heap→Prop}
  (hK:∀ p:List Nat,p.Perm (List.range xs.length)→p.Pairwise (fun a b=>¬ cgc (ks.getD b []) (ks.getD a [])<0)→K (.tup []) (σ.set id (.arr ver e 1 ((p.map fun i=>xs.getD i .undef) ++ jk)))) :
  ACall Tryz.prog 162 [.ref id ver 0 xs.length,.fn (.func 163) [] []] σ K:=by
 unfold ACall
 refine ⟨⟨Tryz.f162,Tryz.func162,by kernel_rfl,by kernel_rfl⟩,fun φ ι w vs hr ho=>?_⟩
 have hlt:=(List.getElem?_eq_some_iff.1 hid).1
 have hltι:id < ι.length:=by rw [ho.len]; exact hlt
 obtain ⟨l,hl⟩:∃ l,ι[id]? = some l:=⟨_,List.getElem?_eq_getElem hltι⟩
 have hobj:=ho.obj id _ l hid hl
 cases l with
 | dead=>exact hobj.elim
 | box b=>exact hobj.elim
 | arr ver' e' esz u =>
  simp only [ObjOK] at hobj
  obtain ⟨rfl,rfl,rfl,_,ys,hrow,hrel,hok,hcl⟩:=hobj
  rw [flat_append,flat_self hcs] at hrel hok
  have hrel0:=hrel
  have hyl0:xs.length≤ys.length:=by have:=hrel.1; rw [List.length_append] at this; omega
  replace hrel:RelL φ ι xs (ys.take xs.length):=by
   have:=hrel.take xs.length
   rwa [List.take_left'] at this
   rfl
  have hrelj:RelL φ ι (flat jk) (ys.drop xs.length):=by
   have:=hrel0.drop xs.length
   rwa [List.drop_left'] at this
   rfl
  have hok0:xs.all PV.ok=true:=by rw [List.all_append,Bool.and_eq_true] at hok; exact hok.1
  obtain ⟨zs,hzs⟩:∃ zs,zs=ys.take xs.length:=⟨_,rfl⟩
  rw [← hzs] at hrel
  obtain ⟨v0,hv0,r0⟩:=hr.get (i:=0) rfl
  obtain ⟨v1,hv1,r1⟩:=hr.get (i:=1) rfl
  obtain ⟨x,y,rfl,hx,hy⟩:=r1.fn_inv
  have ex:x = []:=List.eq_nil_of_length_eq_zero hx.1.symm
  have ey:y = []:=List.eq_nil_of_length_eq_zero hy.1.symm
  subst ex; subst ey
  cases r0 with
  | ref _ _ _ _ _ k e2 esz2 u2 hh ho' hk' hv' =>
   rw [hl] at hh
   cases hh
   rcases hv' rfl with ⟨g,n,cap,o,rfl,q1,q2,q3,q4⟩ | ⟨_,_,hz,_⟩
   rotate_left
   ·omega
   rcases hrow.2 with ⟨hnil,_⟩ | ⟨g2,cap2,cur,heq,hg,hgb,c1,c2,c3,c4⟩
   ·cases hnil
   cases heq
   obtain rfl:=q4 rfl
   rw [Nat.sub_zero] at q2
   subst q2
   have hyl:zs.length=xs.length:=hrel.1.symm
   have htot:ys.length=xs.length+jk.length:=by have:=hrow.1; rw [List.length_append] at this; omega
   have ev:vs = [.slice (some ⟨g,0,none⟩) xs.length cap,.func (.func 163) #[] #[]]:=by
    have hvl:=hr.1
    match vs,hvl,hv0,hv1 with
    | [a,c],_,h0,h1=>simp only [List.getElem?_cons_zero,Option.some.injEq] at h0; simp only [List.getElem?_cons_succ,List.getElem?_cons_zero,Option.some.injEq] at h1; rw [h0,h1]
   subst ev
   let φ1:Frz:=fun b=>if b=g then none else allFrz w b
   have hφ1:∀ b,φ1 b=if b=g then none else allFrz w b:=fun b=>rfl
   have hgφ:φ g=none:=ho.nf id _ g hl rfl
   have hle:FLe φ φ1:=fun b C hb=>by
    rw [hφ1,if_neg (fun hb2=>by rw [hb2,hgφ] at hb; cases hb)]
    exact allFrz_le ho b C hb
   have hd:HOK φ ι (σ.set id .dead) w:=⟨by simp [ho.len],ho.fz,ho.nf,ho.dis,ho.lt,fun j o' l' h1 h2=>by
    by_cases e:id=j
    ·subst e; rw [List.getElem?_set_self hlt] at h1; cases h1; trivial
    ·rw [List.getElem?_set_ne e] at h1; exact ho.obj j o' l' h1 h2⟩
   have hfr:∀ b C,φ1 b=some C→b≠g∧∃ e f,w.heap[b]? = some (.cells C e f):=fun b C hb=>by
    rw [hφ1] at hb
    split at hb
    ·cases hb
    ·rename_i hbg; exact ⟨hbg,(allFrz_hok w).fz b C hb⟩
   have hel:∀ i,i<zs.length→∃ b o c,zs.getD i Go.undef = .slice (some ⟨b,o,none⟩) (ks.getD i []).length c∧b≠g∧b<w.heap.size∧(ks.getD i []).length≤1000000∧∀ j,j<(ks.getD i []).length→w.cell? ⟨b,o+j,none⟩=some (.int .i64 ((ks.getD i [])[j]?.getD 0)):=fun i hiy=>by
    have hix:i<xs.length:=by omega
    have hik:i<ks.length:=by omega
    have e1:zs.getD i Go.undef=zs[i]:=by simp [List.getD_eq_getElem?_getD,hiy]
    have e2:ks.getD i []=ks[i]:=by simp [List.getD_eq_getElem?_getD,hik]
    rw [e1,e2]
    have hR:=hrel.2 i _ _ (List.getElem?_eq_getElem hix) (List.getElem?_eq_getElem hiy)
    have hI:=hi i _ _ (List.getElem?_eq_getElem hix) (List.getElem?_eq_getElem hik)
    have hR2:=hI.rel hd hle (fun j o' l' b C e f h1 h2 h3 h4 h5=>by
     have hj:id≠j:=fun e=>by
      subst e; rw [List.getElem?_set_self hlt] at h1; cases h1; exact h2 rfl
     rw [hφ1,if_neg (fun hb=>hj (ho.dis id j _ l' b hl h3 (by rw [hb]; rfl) h4))]
     exact allFrz_own h5) hR
    obtain ⟨⟨hk0,hk1⟩,_⟩:=hks _ (List.getElem_mem hik)
    obtain ⟨b,o,c,z1,z2,z3,z4⟩:=rel_row hfr hk0 hR2
    exact ⟨b,o,c,z1,z2,z3,hk1,z4⟩
   have hcur:cur.toList.take zs.length=zs:=by
    rw [hyl,hzs,← c4,List.take_take,List.length_append]
    congr 1; omega
   have hone:∀ v∈zs,v.oneCell'=true:=fun v hv=>by
    obtain ⟨i,hiy,rfl⟩:=List.getElem_of_mem hv
    have hix:i<xs.length:=by omega
    refine (hrel.2 i _ _ (List.getElem?_eq_getElem hix) (List.getElem?_eq_getElem hiy)).oneCell ?_
    exact List.all_eq_true.1 hok0 _ (List.getElem_mem hix)
   have hposz:∀ i,i<zs.length→0<(ks.getD i []).length∧(∀ v∈ks.getD i [],0≤v)∧mxl (ks.getD i [])≤1000000:=fun i hiy=>by
    have hik:i<ks.length:=by omega
    have e2:ks.getD i []=ks[i]:=by simp [List.getD_eq_getElem?_getD,hik]
    obtain ⟨⟨z1,z2⟩,z3,z4⟩:=hks _ (List.getElem_mem hik)
    rw [e2]
    exact ⟨List.length_pos_iff.2 z1,z3,z4⟩
   have hmain:=sortC_world (cap:=cap) hgb zs (by omega) (by omega) hcur hone ks hposz hel
   rw [hyl] at hmain
   refine hmain.mono ?_
   rintro en w' ⟨rfl,p,hp,hpw,⟨cur',d1,d2,d3,d4⟩,hoth,hsz,e1,e2,e3⟩
   have hset:ι.set id (.arr ver e 1 (.slice (some ⟨g,0,none⟩) (xs ++ jk).length cap)) = ι:=by
    have:=(List.getElem?_eq_some_iff.1 hl).2
    rw [← this]; exact List.set_getElem_self _
   have d3':cur'.toList.take xs.length=p.map fun i=>zs.getD i Go.undef:=d3
   have d4':cur'.toList.drop xs.length=cur.toList.drop xs.length:=d4
   have hpl:p.length=xs.length:=by simpa using hp.length_eq
   have hpx:∀ i∈p,i<xs.length:=fun i hi=>by simpa using hp.mem_iff.1 hi
   have hxs':∀ x∈p.map (fun i=>xs.getD i .undef),x∈xs:=fun x hx=>by
    obtain ⟨i,hi,rfl⟩:=List.mem_map.1 hx
    rw [List.getD_eq_getElem?_getD,List.getElem?_eq_getElem (hpx i hi)]
    exact List.getElem_mem _
   have hw:∀ b,b<w.heap.size→(KLoc.arr ver e 1 (.slice (some ⟨g,0,none⟩) (xs ++ jk).length cap)).block≠some b→w'.heap[b]? = w.heap[b]?:=fun b hb hne=>hoth b hb (fun e=>hne (by rw [e]; rfl))
   have hob2:ObjOK φ (ι.set id (.arr ver e 1 (.slice (some ⟨g,0,none⟩) (xs ++ jk).length cap))) w' (.arr ver e 1 ((p.map fun i=>xs.getD i .undef) ++ jk)) (.arr ver e 1 (.slice (some ⟨g,0,none⟩) (xs ++ jk).length cap)):=by
    rw [hset]
    have hlen2:((p.map fun i=>xs.getD i PV.undef) ++ jk).length=(xs ++ jk).length:=by simp [hpl]
    refine ⟨rfl,rfl,rfl,by decide,(p.map fun i=>zs.getD i Go.undef) ++ ys.drop xs.length,⟨?_,.inr ⟨g,cap,cur',by rw [hlen2],Nat.zero_le _,d1,by rw [hlen2]; exact c1,c2,by rw [d2]; exact c3,?_⟩⟩,?_,?_,fun x hx=>?_⟩
    ·simp [hpl,htot]
    ·rw [hlen2,List.length_append,Nat.mul_one,List.take_add,d3']
     congr 1
     rw [d4',← c4,List.drop_take,List.length_append]
     congr 1; omega
    ·rw [flat_append,flat_self fun x hx=>hcs x (hxs' x hx)]
     refine RelL.append ⟨by simp,fun i c v hc hv=>?_⟩ hrelj
     rw [List.getElem?_map,Option.map_eq_some_iff] at hc hv
     obtain ⟨j,hj,rfl⟩:=hc
     obtain ⟨j',hj',rfl⟩:=hv
     rw [hj] at hj'; cases hj'
     have hjx:=hpx j (List.mem_of_getElem? hj)
     have hjy:j<zs.length:=by omega
     rw [List.getD_eq_getElem?_getD,List.getD_eq_getElem?_getD,List.getElem?_eq_getElem hjx,List.getElem?_eq_getElem hjy]
     exact hrel.2 j _ _ (List.getElem?_eq_getElem hjx) (List.getElem?_eq_getElem hjy)
    ·rw [flat_append,flat_self fun x hx=>hcs x (hxs' x hx),List.all_append,Bool.and_eq_true]
     rw [List.all_append,Bool.and_eq_true] at hok
     exact ⟨List.all_eq_true.2 fun x hx=>List.all_eq_true.1 hok0 x (hxs' x hx),hok.2⟩
    ·rcases List.mem_append.1 hx with hx | hx
     ·exact hcl x (List.mem_append.2 (.inl (hxs' x hx)))
     ·exact hcl x (List.mem_append.2 (.inr hx))
   obtain ⟨j1,j2⟩:=ho.upd hl (KLoc.le_refl _) hsz hw (fun b hb=>.inl hb) (fun b hb=>Nat.lt_of_lt_of_le (ho.lt id _ b hl hb) hsz) hob2
   exact ⟨.tup [],.tuple #[],φ,_,_,rfl,.tup [] [] rfl (by simp),Tr.upd _ hl j2 hsz hw (fun b hb=>.inl hb) e1 e2 e3,j1,hK p hp hpw⟩
end
end
section
section
set_option maxRecDepth 100000
def k167_b0:KC:=(.seq (.seq (.ops [mV 32 7,mV 33 6,oP 34 (.len false (.t 33)),oP 35 (.bin .lss (.t 32) (.t 34))])
 (.cond (.t 35) .skip (.exit 2)))
 (.seq (.block 3 (.seq (.draw [mV 38 1,mV 39 6,mV 40 7,oP 41 (.idxS 1 (.t 39) (.t 40)),oP 42 (.load false 1 (.t 41)),mV 43 6,mV 44 7,oP 45 (.bin .sub (.t 44) (iC 1)),oP 46 (.idxS 1 (.t 43) (.t 45)),oP 47 (.load false 1 (.t 46)),oP 48 (.call (.t 38) [(.t 42),(.t 47)]),oP 49 (.not (.t 48))])
 (.cond (.t 49) (.seq (.ops [mV 50 0,mV 51 5,mV 52 6,mV 53 7,oP 54 (.idxS 1 (.t 52) (.t 53)),oP 55 (.load false 1 (.t 54)),oP 56 (.idxS 1 (.t 50) (.t 51)),⟨none,none,.store 1 (.t 56) (.t 55)⟩])
 (.ops [mV 57 5,oP 58 (.bin .add (.t 57) (iC 1)),mV 5 58])) .skip)))
 (.ops [mV 36 7,oP 37 (.bin .add (.t 36) (iC 1)),mV 7 37])))
def k167_b1:KC:=(.seq (.seq (.ops [mV 12 5,mV 13 0,oP 14 (.len false (.t 13)),oP 15 (.bin .lss (.t 12) (.t 14))])
 (.cond (.t 15) .skip (.exit 0)))
 (.seq (.block 1 (.seq (.draw [mV 18 1,mV 19 0,mV 20 5,oP 21 (.idxS 1 (.t 19) (.t 20)),oP 22 (.load false 1 (.t 21)),mV 23 0,mV 24 5,oP 25 (.bin .sub (.t 24) (iC 1)),oP 26 (.idxS 1 (.t 23) (.t 25)),oP 27 (.load false 1 (.t 26)),oP 28 (.call (.t 18) [(.t 22),(.t 27)])])
 (.cond (.t 28) (.seq (.ops [mV 29 0,mV 30 5,oP 31 (.sls 1 (.t 29) (some (.t 30)) none),mV 6 31])
 (.seq (.seq (.ops [oP 7 (.mv (iC 1))])
 (.block 2 (.loop k167_b0)))
 (.seq (.ops [mV 59 0,mV 60 5,oP 61 (.sls 1 (.t 59) (some (.t 60)) none),⟨none,none,.clr 1 (.nils) (.t 61)⟩])
 (.seq (.ops [mV 62 0,mV 63 5,oP 64 (.sls 1 (.t 62) none (some (.t 63))),mV 4 64])
 .ret)))) .skip)))
 (.ops [mV 16 5,oP 17 (.bin .add (.t 16) (iC 1)),mV 5 17])))
def k167:KC:=(.seq (.ops [oP 4 (.mv (.c (.nils)))])
 (.seq (.seq (.ops [mV 8 0,oP 9 (.len false (.t 8)),oP 10 (.bin .lss (.t 9) (iC 2))])
 (.cond (.t 10) (.seq (.ops [mV 11 0,mV 4 11])
 .ret) .skip))
 (.seq (.seq (.ops [oP 5 (.mv (iC 1))])
 (.block 0 (.loop k167_b1)))
 (.seq (.ops [mV 65 0,mV 4 65])
 .ret))))
theorem e167:Ent 167 66 [] [.t 4] k167:=ent Tryz.func167
end
section
attribute [local irreducible] ACall PCall KL
attribute [local go_sem] OpK_eq HKv
def cptR:List (List Int)→List (List Int)
 | []=>[]
 | a :: l=>match l with
  | []=>[a]
  | b :: _=>if a=b then cptR l else a :: cptR l
theorem cptR_one (a:List Int):cptR [a] = [a]:=rfl
theorem cptR_two (a b:List Int) (l:List (List Int)):cptR (a :: b :: l)=if a=b then cptR (b :: l) else a :: cptR (b :: l):=rfl
theorem cptR_snoc:∀ (l:List (List Int)) (a b:List Int),cptR (l ++ [a,b])=cptR (l ++ [a]) ++ if a=b then [] else [b]
 | [],a,b=>by
  show cptR [a,b]=cptR [a] ++ _
  rw [cptR_two,cptR_one,cptR_one]
  split
  ·rename_i h; subst h; rfl
  ·rfl
 | [c],a,b=>by
  show cptR (c :: a :: [b])=cptR (c :: a :: []) ++ _
  rw [cptR_two c a,cptR_two c a,cptR_two a b,cptR_one,cptR_one]
  split <;> split <;> rename_i h1 h2
  ·subst h2; rfl
  ·rfl
  ·subst h2; rfl
  ·rfl
 | c :: d :: l,a,b=>by
  show cptR (c :: d :: (l ++ [a,b]))=cptR (c :: d :: (l ++ [a])) ++ _
  have:=cptR_snoc (d :: l) a b
  simp only [List.cons_append] at this
  rw [cptR_two,cptR_two,this]
  split <;> simp
theorem cptR_take {r:List (List Int)} {k:Nat} (h0:0<k) (h:k<r.length):cptR (r.take (k+1))=cptR (r.take k) ++ if r.getD (k - 1) []=r.getD k [] then [] else [r.getD k []]:=by
 obtain ⟨j,rfl⟩:∃ j,k=j+1:=⟨k - 1,by omega⟩
 have e1:r.take (j+1+1)=r.take j ++ [r.getD j [],r.getD (j+1) []]:=by
  rw [List.take_succ_eq_append_getElem h,List.take_succ_eq_append_getElem (by omega:j<r.length),List.append_assoc]
  simp [List.getD_eq_getElem?_getD,h,(by omega:j<r.length)]
 have e2:r.take (j+1)=r.take j ++ [r.getD j []]:=by
  rw [List.take_succ_eq_append_getElem (by omega:j<r.length)]
  simp [List.getD_eq_getElem?_getD,(by omega:j<r.length)]
 rw [e1,e2,cptR_snoc,Nat.add_sub_cancel]
theorem cptR_short {r:List (List Int)} (h:r.length<2):cptR r=r:=by
 rcases r with _ | ⟨a,_ | ⟨b,r⟩⟩
 ·rfl
 ·rfl
 ·simp at h; omega
theorem p167 (σ:Heap) (id ver:Nat) (e:TypeId) (r:List (List Int)) (hid:σ[id]? = some (.arr ver e 1 (rows r))) (hn:r.length≤4294967296) (hb:∀ x∈r,x.length≤4294967296) {K:PV→Heap→Prop} (hK:∀ post:List PV,K (.ref id ver 0 (cptR r).length) (σ.set id (.arr ver e 1 (rows (cptR r) ++ post)))) :
  ACall Tryz.prog 167 [.ref id ver 0 r.length,.fn (.func 96) [] []] σ K:=by
 have hlt:=(List.getElem?_eq_some_iff.1 hid).1
 have hself:∀ o,(σ.set id o)[id]? = some o:=fun o=>List.getElem?_set_self hlt
 have hset:∀ o o',(σ.set id o).set id o' = σ.set id o':=fun o o'=>List.set_set ..
 have h00:σ.set id (.arr ver e 1 (rows r)) = σ:=List.ext_getElem? fun i=>by
  by_cases h:id=i
  ·subst h; rw [hself,hid]
  ·rw [List.getElem?_set_ne h]
 have hEq:=fun (x y:List Int) (hx:x∈r) (hy:y∈r)=>p96 x y (hb y hy) (hb x hx)
 have hKs:cptR r=r→K (.ref id ver 0 r.length) σ:=fun h=>by
  have:=hK []
  rwa [h,List.append_nil,h00] at this
 refine e167 (by simp) fun _ _=>?_
 simp only [k167,argEnv,hid,go_sem]
 refine ⟨fun h=>Kv.Fin.now (hKs (cptR_short (by omega))),fun h=>?_⟩
 refine KL_ind k167_b1.eq_1 (fun k:Nat=>[(0,.ref id ver 0 r.length),(1,.fn (.func 96) [] []),(5,.int .i64 k)]) (fun _=>σ) (fun k=>1≤k∧k≤r.length∧cptR (r.take k)=r.take k) (fun k=>r.length - k) [0,1,5] 1 (by simp [keep]) rfl ⟨Nat.le_refl _,by omega,cptR_short (by simp; omega)⟩ fun k ⟨hk1,hk2,hc⟩ ih=>?_
 have hk1':((k:Int) - 1).toNat=k - 1:=by omega
 try simp only [hid,hk1',go_sem]
 refine ⟨fun h1=>?_,fun h1=>?_⟩
 ·have hkl:k<r.length:=by omega
  have hct:=cptR_take hk1 hkl
  have m1:r.getD k []∈r:=getD_mem hkl []
  have m2:r.getD (k - 1) []∈r:=getD_mem (by omega) []
  refine ⟨⟨by omega,Nat.le_refl _⟩,hkl,fun _=>⟨by omega,⟨by omega,by omega,Nat.le_refl _⟩,by omega,fun _=>(hEq _ _ m1 m2).go ?_⟩⟩
  by_cases h2:r.getD k []=r.getD (k - 1) []
  ·rw [decide_eq_true h2]
   rw [if_pos h2.symm,List.append_nil,hc] at hct
   clear ih
   try simp only [hid,go_sem]
   refine ⟨by omega,?_⟩
   refine KL_ind k167_b0.eq_1 (fun x:Nat × Nat × List (List Int)=>[(0,.ref id ver 0 r.length),(1,.fn (.func 96) [] []),(5,.int .i64 x.2.1),(6,.ref id ver k (r.length - k)),(7,.int .i64 x.1)]) (fun x=>σ.set id (.arr ver e 1 (rows x.2.2))) (fun x=>1≤x.1∧x.1≤r.length - k∧x.2.1≤k+x.1 - 1∧x.2.2.length=r.length∧x.2.1=(cptR (r.take (k+x.1))).length∧x.2.2.take x.2.1=cptR (r.take (k+x.1))∧∀ i,k+x.1 - 1≤i→x.2.2.getD i []=r.getD i []) (fun x=>r.length - k - x.1) [0,1,5,6,7] (1,k,r) (by simp [keep]) h00.symm ⟨Nat.le_refl _,by show 1≤r.length - k; omega,by show k≤k+1 - 1; omega,rfl,by show k=(cptR (r.take (k+1))).length; rw [hct]; simp; omega,hct.symm,fun _ _=>rfl⟩ fun ⟨j,q,m⟩ ⟨hj1,hj2,hq,hml,hql,hmt,hmr⟩ ih=>?_
   simp only at hj1 hj2 hq hml hql hmt hmr
   have hj':((j:Int) - 1).toNat=j - 1:=by omega
   try simp only [hself,hset,hml,hj',go_sem]
   refine ⟨fun h3=>?_,fun h3=>?_⟩
   ·have hjl:k+j<r.length:=by omega
    have hct2:=cptR_take (r:=r) (k:=k+j) (by omega) hjl
    have g1:=hmr (j+k) (by omega)
    have g2:=hmr (j - 1+k) (by omega)
    have g3:=hmr (k+j) (by omega)
    have g4:=hmr (k+(j - 1)) (by omega)
    have e1:j+k=k+j:=by omega
    have e2:j - 1+k=k+j - 1:=by omega
    have e3:k+(j - 1)=k+j - 1:=by omega
    have m3:r.getD (k+j) []∈r:=getD_mem hjl []
    have m4:r.getD (k+j - 1) []∈r:=getD_mem (by omega) []
    refine ⟨⟨by omega,by omega⟩,by omega,fun _=>⟨by omega,⟨by omega,by omega,by omega⟩,by omega,fun _=>?_⟩⟩
    rw [g1,g2,e1,e2]
    refine (hEq _ _ m3 m4).go ?_
    by_cases h4:r.getD (k+j) []=r.getD (k+j - 1) []
    ·rw [decide_eq_true h4]
     rw [if_pos h4.symm,List.append_nil] at hct2
     try simp only [hself,hset,hml,go_sem]
     refine ⟨by omega,ih (j+1,q,m) ⟨by show 1≤j+1; omega,by show j+1≤r.length - k; omega,by show q≤k+(j+1) - 1; omega,hml,?_,?_,fun i hi=>hmr i (by have:k+(j+1) - 1≤i:=hi; omega)⟩ (by show r.length - k - (j+1)<r.length - k - j; omega) _ _ (by simp [keep]) rfl⟩
     ·show q=(cptR (r.take (k+(j+1)))).length
      rw [← Nat.add_assoc,hct2]; exact hql
     ·show m.take q=cptR (r.take (k+(j+1)))
      rw [← Nat.add_assoc,hct2]; exact hmt
    ·rw [decide_eq_false h4]
     rw [if_neg (fun h=>h4 h.symm)] at hct2
     have hqm:q<m.length:=by omega
     try simp only [hself,hset,hml,go_sem]
     refine ⟨⟨by omega,by omega⟩,by omega,fun _=>⟨⟨by omega,Nat.le_refl _⟩,by omega,fun _=>⟨by omega,by omega,ih (j+1,q+1,m.set q (r.getD (k+j) [])) ⟨by show 1≤j+1; omega,by show j+1≤r.length - k; omega,by show q+1≤k+(j+1) - 1; omega,by show (m.set q _).length=r.length; simp [hml],?_,?_,fun i hi=>?_⟩ (by show r.length - k - (j+1)<r.length - k - j; omega) _ _ (by simp [keep]) (by rw [g1,e1]; simp [rows,List.map_set])⟩⟩⟩
     ·show q+1=(cptR (r.take (k+(j+1)))).length
      rw [← Nat.add_assoc,hct2,List.length_append,← hql]; rfl
     ·show (m.set q _).take (q+1)=cptR (r.take (k+(j+1)))
      rw [← Nat.add_assoc,hct2,← hmt,List.take_set,List.take_succ_eq_append_getElem hqm]
      rw [List.set_append_right _ _ (by simp; omega)]
      simp [Nat.min_eq_left (Nat.le_of_lt hqm)]
     ·show (m.set q _).getD i []=r.getD i []
      have hi':k+(j+1) - 1≤i:=hi
      have hne:q≠i:=by omega
      rw [List.getD_eq_getElem?_getD,List.getElem?_set_ne hne,← List.getD_eq_getElem?_getD]
      exact hmr i (by omega)
   ·have e:k+j=r.length:=by omega
    rw [e,List.take_length] at hql hmt
    refine ⟨⟨by omega,Int.le_refl _⟩,by omega,by omega,?_⟩
    have hd:List.drop (q+(r.length - q)) m = []:=List.drop_of_length_le (by omega)
    have e0:r.length=r.length:=rfl
    rw [Nat.sub_zero,hmt,hd,List.append_assoc,hql]
    exact Kv.Fin.now (hK _)
  ·rw [decide_eq_false h2]
   try simp only [go_sem]
   refine ⟨by omega,ih (k+1) ⟨by omega,by omega,?_⟩ (by omega) _ _ (by simp [keep]) rfl⟩
   rw [hct,if_neg (fun h=>h2 h.symm),hc,List.take_succ_eq_append_getElem hkl]
   simp [List.getD_eq_getElem?_getD,hkl]
 ·obtain rfl:k=r.length:=by omega
  rw [List.take_length] at hc
  exact Kv.Fin.now (hKs hc)
end
end
section
section
set_option maxRecDepth 100000
def k201_b0:KC:=(.seq (.seq (.draw [mV 18 9,mV 19 1,oP 20 (.bin .gtr (.t 18) (.t 19)),mV 21 20,⟨(some 22),some (21,true),.mv (.t 3)⟩,⟨(some 23),some (21,true),.mv (.t 0)⟩,⟨(some 24),some (21,true),.mv (.t 9)⟩,⟨(some 25),some (21,true),.idxS 1 (.t 23) (.t 24)⟩,⟨(some 26),some (21,true),.load false 1 (.t 25)⟩,⟨(some 27),some (21,true),.mv (.t 0)⟩,⟨(some 28),some (21,true),.mv (.t 9)⟩,⟨(some 29),some (21,true),.bin .sub (.t 28) (iC 1)⟩,⟨(some 30),some (21,true),.idxS 1 (.t 27) (.t 29)⟩,⟨(some 31),some (21,true),.load false 1 (.t 30)⟩,⟨(some 32),some (21,true),.call (.t 22) [(.t 26),(.t 31)]⟩,⟨(some 33),some (21,true),.bin .lss (.t 32) (iC 0)⟩,oP 34 (.pick (.t 21) (.t 33) (.c (.bool false)))])
 (.cond (.t 34) .skip (.exit 2)))
 (.seq (.block 3 (.draw [mV 37 0,mV 38 9,mV 39 0,mV 40 9,oP 41 (.bin .sub (.t 40) (iC 1)),mV 42 0,mV 43 9,oP 44 (.bin .sub (.t 43) (iC 1)),oP 45 (.idxS 1 (.t 42) (.t 44)),oP 46 (.load false 1 (.t 45)),mV 47 0,mV 48 9,oP 49 (.idxS 1 (.t 47) (.t 48)),oP 50 (.load false 1 (.t 49)),oP 51 (.idxS 1 (.t 37) (.t 38)),⟨none,none,.store 1 (.t 51) (.t 46)⟩,oP 52 (.idxS 1 (.t 39) (.t 41)),⟨none,none,.store 1 (.t 52) (.t 50)⟩]))
 (.ops [mV 35 9,oP 36 (.bin .sub (.t 35) (iC 1)),mV 9 36])))
def k201_b1:KC:=(.seq (.seq (.ops [mV 12 8,mV 13 2,oP 14 (.bin .lss (.t 12) (.t 13))])
 (.cond (.t 14) .skip (.exit 0)))
 (.seq (.block 1 (.seq (.ops [mV 17 8,mV 9 17])
 (.block 2 (.loop k201_b0))))
 (.ops [mV 15 8,oP 16 (.bin .add (.t 15) (iC 1)),mV 8 16])))
def k201:KC:=(.seq (.ops [mV 10 1,oP 11 (.bin .add (.t 10) (iC 1)),mV 8 11])
 (.block 0 (.loop k201_b1)))
theorem e201:Ent 201 53 [] [] k201:=ent Tryz.func201
def k193_b0:KC:=(.block 1 (.seq (.ops [mV 21 2,mV 22 1,oP 23 (.bin .sub (.t 21) (.t 22)),mV 12 23])
 (.seq (.seq (.ops [mV 24 12,oP 25 (.bin .leq (.t 24) (iC 12))])
 (.cond (.t 25) (.seq (.ops [mV 26 0,mV 27 1,mV 28 2,mV 29 4,oP 30 (.call (fC 201) [(.t 26),(.t 27),(.t 28),(.t 29)])])
 .ret) .skip))
 (.seq (.seq (.ops [mV 31 3,oP 32 (.bin .eql (.t 31) (iC 0))])
 (.cond (.t 32) (.seq (.ops [mV 33 0,mV 34 1,mV 35 2,mV 36 4,oP 37 (.call (fC 202) [(.t 33),(.t 34),(.t 35),(.t 36)])])
 .ret) .skip))
 (.seq (.seq (.ops [mV 38 10,oP 39 (.not (.t 38))])
 (.cond (.t 39) (.seq (.ops [mV 40 0,mV 41 1,mV 42 2,mV 43 4,oP 44 (.call (fC 203) [(.t 40),(.t 41),(.t 42),(.t 43)])])
 (.ops [mV 45 3,oP 46 (.bin .sub (.t 45) (iC 1)),mV 3 46])) .skip))
 (.seq (.ops [mV 48 0,mV 49 1,mV 50 2,mV 51 4,oP 52 (.call (fC 204) [(.t 48),(.t 49),(.t 50),(.t 51)]),mV 47 52,oP 53 (.extr 0 (.t 47)),oP 54 (.extr 1 (.t 47)),mV 13 53,mV 14 54])
 (.seq (.seq (.ops [mV 55 14,oP 56 (.bin .eql (.t 55) (iC 2))])
 (.cond (.t 56) (.seq (.ops [mV 57 0,mV 58 1,mV 59 2,mV 60 4,oP 61 (.call (fC 205) [(.t 57),(.t 58),(.t 59),(.t 60)])])
 (.seq (.ops [mV 62 2,oP 63 (.bin .sub (.t 62) (iC 1)),mV 64 13,mV 65 1,oP 66 (.bin .sub (.t 64) (.t 65)),oP 67 (.bin .sub (.t 63) (.t 66)),mV 13 67])
 (.ops [oP 14 (.mv (iC 1))]))) .skip))
 (.seq (.seq (.ops [mV 68 10,mV 69 68,⟨(some 70),some (69,true),.mv (.t 11)⟩,oP 71 (.pick (.t 69) (.t 70) (.c (.bool false))),mV 72 71,⟨(some 73),some (72,true),.mv (.t 14)⟩,⟨(some 74),some (72,true),.bin .eql (.t 73) (iC 1)⟩,oP 75 (.pick (.t 72) (.t 74) (.c (.bool false)))])
 (.cond (.t 75) (.seq (.ops [mV 76 0,mV 77 1,mV 78 2,mV 79 4,oP 80 (.call (fC 206) [(.t 76),(.t 77),(.t 78),(.t 79)])])
 (.cond (.t 80) .ret .skip)) .skip))
 (.seq (.seq (.draw [mV 81 1,oP 82 (.bin .gtr (.t 81) (iC 0)),mV 83 82,⟨(some 84),some (83,true),.mv (.t 4)⟩,⟨(some 85),some (83,true),.mv (.t 0)⟩,⟨(some 86),some (83,true),.mv (.t 1)⟩,⟨(some 87),some (83,true),.bin .sub (.t 86) (iC 1)⟩,⟨(some 88),some (83,true),.idxS 1 (.t 85) (.t 87)⟩,⟨(some 89),some (83,true),.load false 1 (.t 88)⟩,⟨(some 90),some (83,true),.mv (.t 0)⟩,⟨(some 91),some (83,true),.mv (.t 13)⟩,⟨(some 92),some (83,true),.idxS 1 (.t 90) (.t 91)⟩,⟨(some 93),some (83,true),.load false 1 (.t 92)⟩,⟨(some 94),some (83,true),.call (.t 84) [(.t 89),(.t 93)]⟩,⟨(some 95),some (83,true),.bin .lss (.t 94) (iC 0)⟩,⟨(some 96),some (83,true),.not (.t 95)⟩,oP 97 (.pick (.t 83) (.t 96) (.c (.bool false)))])
 (.cond (.t 97) (.seq (.ops [mV 98 0,mV 99 1,mV 100 2,mV 101 13,mV 102 4,oP 103 (.call (fC 207) [(.t 98),(.t 99),(.t 100),(.t 101),(.t 102)]),mV 15 103])
 (.seq (.ops [mV 104 15,mV 1 104])
 (.exit 1))) .skip))
 (.seq (.ops [mV 106 0,mV 107 1,mV 108 2,mV 109 13,mV 110 4,oP 111 (.call (fC 208) [(.t 106),(.t 107),(.t 108),(.t 109),(.t 110)]),mV 105 111,oP 112 (.extr 0 (.t 105)),oP 113 (.extr 1 (.t 105)),mV 16 112,mV 17 113])
 (.seq (.ops [mV 114 17,mV 11 114])
 (.seq (.ops [mV 115 16,mV 116 1,oP 117 (.bin .sub (.t 115) (.t 116)),mV 118 2,mV 119 16,oP 120 (.bin .sub (.t 118) (.t 119)),mV 18 117,mV 19 120])
 (.seq (.ops [mV 121 12,oP 122 (.bin .quo (.t 121) (iC 8)),mV 20 122])
 (.seq (.ops [mV 123 18,mV 124 19,oP 125 (.bin .lss (.t 123) (.t 124))])
 (.cond (.t 125) (.seq (.ops [mV 126 18,mV 127 20,oP 128 (.bin .geq (.t 126) (.t 127)),mV 10 128])
 (.seq (.ops [mV 129 0,mV 130 1,mV 131 16,mV 132 3,mV 133 4,oP 134 (.call (fC 193) [(.t 129),(.t 130),(.t 131),(.t 132),(.t 133)])])
 (.ops [mV 135 16,oP 136 (.bin .add (.t 135) (iC 1)),mV 1 136]))) (.seq (.ops [mV 137 19,mV 138 20,oP 139 (.bin .geq (.t 137) (.t 138)),mV 10 139])
 (.seq (.ops [mV 140 0,mV 141 16,oP 142 (.bin .add (.t 141) (iC 1)),mV 143 2,mV 144 3,mV 145 4,oP 146 (.call (fC 193) [(.t 140),(.t 142),(.t 143),(.t 144),(.t 145)])])
 (.ops [mV 147 16,mV 2 147]))))))))))))))))))
def k193:KC:=(.seq (.ops [oP 10 (.mv (.c (.bool true)))])
 (.seq (.ops [oP 11 (.mv (.c (.bool true)))])
 (.block 0 (.loop k193_b0))))
theorem e193:Ent 193 148 [] [] k193:=ent Tryz.func193
def k162:KC:=(.seq (.ops [mV 5 0,oP 6 (.len false (.t 5)),mV 4 6])
 (.ops [mV 7 0,mV 8 4,mV 9 4,oP 10 (.conv .u64 (.t 9)),oP 11 (.call (fC 194) [(.t 10)]),mV 12 1,oP 13 (.call (fC 193) [(.t 7),(iC 0),(.t 8),(.t 11),(.t 12)])]))
theorem e162:Ent 162 14 [] [] k162:=ent Tryz.func162
def k97:KC:=(.seq (.ops [oP 2 (.mv (.c (.nils)))])
 (.seq (.ops [mV 3 0,oP 4 (.call (fC 162) [(.t 3),(fC 163)])])
 (.seq (.ops [mV 5 0,oP 6 (.call (fC 167) [(.t 5),(fC 96)]),mV 2 6])
 .ret)))
theorem e97:Ent 97 7 [] [.t 2] k97:=ent Tryz.func97
end
section
attribute [local irreducible] ACall PCall KL
attribute [local go_sem] OpK_eq HKv
theorem Imm.refrj {σ:Heap} {id ver n:Nat} {e:TypeId} {t:List (List Int)} {post:List PV} (h:σ[id]? = some (.arr ver e 1 (rows t ++ post))) (hn:n=t.length):Imm σ (.ref id ver 0 n) (.list (rows t)):=by
 subst hn
 have hg:∀ (i:Nat) (x d:PV),(rows t ++ post)[0+i]? = some x→(rows t)[i]? = some d→x=d:=fun i x d hx hd=>by
  have hlt:=(List.getElem?_eq_some_iff.1 hd).1
  rw [Nat.zero_add,List.getElem?_append_left hlt,hd] at hx
  exact (Option.some.inj hx).symm
 refine .ref id ver 0 t.length e 1 (rows t ++ post) (rows t) h (by simp [rows_lenC]) (rows_length t) (fun i x d hx hd=>?_) (fun i x d j c c' hx hd hc hc'=>?_)
 ·obtain rfl:=hg i x d hx hd
  obtain ⟨y,_,rfl⟩:=rows_get hd
  exact ⟨rfl,rfl⟩
 ·obtain rfl:=hg i x d hx hd
  obtain ⟨y,_,rfl⟩:=rows_get hd
  rw [hc] at hc'; cases hc'
  have:=List.mem_of_getElem? hc
  simp only [PV.cs,List.mem_singleton] at this; subst this
  exact .still
theorem cptR_srt:∀ {L:List (List Int)},L.Pairwise (fun a b=>cgc a b≤0)→SrtG (cptR L)∧∀ x,x∈cptR L↔x∈L
 | [],_=>⟨.nil,fun x=>Iff.rfl⟩
 | [a],_=>⟨by simp [SrtG,cptR],fun x=>Iff.rfl⟩
 | a :: b :: l,h=>by
  have h1:=List.pairwise_cons.1 h
  obtain ⟨i1,i2⟩:=cptR_srt h1.2
  rw [cptR_two]
  split
  ·rename_i e
   refine ⟨i1,fun x=>?_⟩
   rw [i2,e]; simp
  ·rename_i e
   refine ⟨?_,fun x=>by simp only [List.mem_cons,i2]⟩
   unfold SrtG
   rw [List.pairwise_cons]
   refine ⟨fun y hy=>?_,i1⟩
   have hy:=(i2 y).1 hy
   have hab:cgc a b<0:=by
    have:=h1.1 b (by simp)
    by_cases h0:cgc a b=0
    ·exact absurd (cgc_eq h0) e
    ·omega
   rcases List.mem_cons.1 hy with rfl | hy
   ·exact hab
   ·have h3:=(List.pairwise_cons.1 h1.2).1 y hy
    by_cases h0:cgc b y=0
    ·rw [← cgc_eq h0]; exact hab
    ·exact cgc_lt_trans hab (by omega)
theorem cptR_srtG {L L':List (List Int)} (hp:L'.Perm L) (hs:L'.Pairwise fun a b=>cgc a b≤0):cptR L'=srtG L:=by
 obtain ⟨h1,h2⟩:=cptR_srt hs
 obtain ⟨h3,h4⟩:=srtG_ok L
 exact h1.uniq h3 fun x=>by rw [h2,h4,hp.mem_iff]
theorem p201n (f:PV) [Still f]:Pure Tryz.prog 201 [.nils,.int .i64 0,.int .i64 0,f] (.tup []):=by
 refine e201 (by simp) fun _ _=>?_
 simp only [k201,argEnv,go_sem]
 refine ⟨by omega,?_⟩
 refine KL_ind k201_b1.eq_1 (fun _:Unit=>[(0,.nils),(1,.int .i64 0),(2,.int .i64 0),(3,f),(8,.int .i64 1)]) (fun _=>[]) (fun _=>True) (fun _=>0) [0,1,2,3,8] () (by simp [keep]) rfl trivial fun _ _ ih=>?_
 try simp only [go_sem]
 exact Kv.Fin.still ⟨rfl,rfl⟩
theorem p193n (f:PV) [Still f] (c:Int):Pure Tryz.prog 193 [.nils,.int .i64 0,.int .i64 0,.int .i64 c,f] (.tup []):=by
 have hI:=p201n f
 refine e193 (by simp) fun _ _=>?_
 simp only [k193,argEnv,go_sem]
 refine KL_round ?_
 rw [k193_b0]
 try simp only [go_sem]
 refine ⟨by omega,fun _=>?_,fun h=>absurd h (by omega)⟩
 refine hI.go ?_
 try simp only [go_sem]
 exact Kv.Fin.still ⟨rfl,rfl⟩
theorem p162n (f:PV) [Still f]:Pure Tryz.prog 162 [.nils,f] (.tup []):=by
 refine e162 (by simp) fun _ _=>?_
 simp only [k162,argEnv,go_sem]
 refine (show _=_ from aWrap_u64 (n:=0) (by omega)).mpr ?_
 try simp only [go_sem]
 refine (p194 0 (by omega)).go fun v s ⟨⟨k,hv⟩,hs⟩=>?_
 subst hv; subst hs
 try simp only [go_sem]
 refine (p193n f k).go ?_
 try simp only [go_sem]
 exact Kv.Fin.still ⟨rfl,rfl⟩
theorem p167n (f:PV) [Still f]:Pure Tryz.prog 167 [.nils,f] .nils:=by
 refine e167 (by simp) fun _ _=>?_
 simp only [k167,argEnv,go_sem]
 exact Kv.Fin.still ⟨rfl,rfl⟩
theorem p97n:Pure Tryz.prog 97 [.nils] .nils:=by
 refine e97 (by simp) fun _ _=>?_
 simp only [k97,argEnv,go_sem]
 refine (p162n _).go ?_
 try simp only [go_sem]
 refine (p167n _).go ?_
 try simp only [go_sem]
 exact Kv.Fin.still ⟨rfl,rfl⟩
theorem p97 {σ:Heap} {id ver N:Nat} (hN:1≤N∧N≤300) (L:List (List Int)) (hL:∀ x∈L,CnC N x) (hid:σ[id]? = some (.arr ver 25 1 (rows L))) (h0:0<L.length) (hn:L.length≤1000) {n:Nat} (hne:n=L.length) {K:PV→Heap→Prop} (hK:K (.list (rows (srtG L))) (σ.set id .dead)):ACall Tryz.prog 97 [.ref id ver 0 n] σ K:=by
 subst hne
 have hlt:=(List.getElem?_eq_some_iff.1 hid).1
 have hself:∀ o,(σ.set id o)[id]? = some o:=fun o=>List.getElem?_set_self hlt
 have hset:∀ o o',(σ.set id o).set id o' = σ.set id o':=fun o o'=>List.set_set ..
 refine e97 (by simp) fun _ _=>?_
 simp only [k97,argEnv,go_sem]
 have hrl:=rows_lenC L
 have hids:σ[id]? = some (.arr ver 25 1 (rows L ++ [])):=by rw [List.append_nil]; exact hid
 rw [← hrl]
 refine p162C (ks:=L) hids hrl.symm (by omega) (by omega) (fun x hx=>?_) (fun k hk=>?_) (fun i x k hx hk=>?_) fun p hp hpw=>?_
 ·obtain ⟨y,_,rfl⟩:=List.mem_map.1 hx
  rfl
 ·have hc:=hL k hk
  have hl:=hc.len
  obtain ⟨b1,b2⟩:=hc.b hN.2
  refine ⟨⟨fun e=>?_,by omega⟩,fun v hv=>(hc.lt v hv).1,?_⟩
  ·rw [e] at hl; simp at hl; omega
  ·rcases hc.mxl with h | h <;> omega
 ·obtain ⟨y,hy,rfl⟩:=rows_get hx
  rw [hy] at hk; cases hk
  exact .still
 ·rw [hrl] at hp
  have hpi:∀ i∈p,i<L.length:=fun i hi=>by simpa using hp.mem_iff.1 hi
  have hplen:p.length=L.length:=by simpa using hp.length_eq
  have ez:(p.map fun i=>(rows L).getD i .undef)=rows (p.map fun i=>L.getD i []):=by
   unfold rows
   rw [List.map_map]
   refine List.map_congr_left fun i hi=>?_
   have h1:=hpi i hi
   simp [List.getD_eq_getElem?_getD,h1]
  have hperm:=perm_map_range L [] hp
  have hpair:(p.map fun i=>L.getD i []).Pairwise fun a b=>cgc a b≤0:=by
   rw [List.pairwise_map]
   exact hpw.imp fun {a b} hab=>by
    have:=cgc_anti (L.getD a []) (L.getD b [])
    omega
  have hfin:=cptR_srtG hperm hpair
  have hl':(p.map fun i=>L.getD i []).length=L.length:=by rw [List.length_map,hplen]
  have hb:∀ x∈p.map (fun i=>L.getD i []),x.length≤4294967296:=fun x hx=>by
   have:=(hL x (hperm.mem_iff.1 hx)).len; omega
  rw [ez,List.append_nil,hrl]
  try simp only [go_sem]
  generalize (p.map fun i=>L.getD i [])=L' at *
  rw [← hl']
  refine p167 _ id ver 25 L' (hself _) (by omega) hb fun post=>?_
  rw [hset]
  try simp only [go_sem]
  refine Kv.Fin.giveAt (hself _) (.inl (Imm.refrj (solo_get (hself _)) rfl)) ?_
  rw [hset,hfin]
  exact hK
end
end
section
section
set_option maxRecDepth 100000
def k191_b0:KC:=(.seq (.ops [oP 25 (.bin .lss (.t 24) (.t 23))])
 (.seq (.cond (.t 25) .skip (.exit 0))
 (.seq (.block 1 (.seq (.ops [mV 26 24,oP 27 (.idxS 1 (.t 22) (.t 24)),oP 28 (.load false 1 (.t 27)),mV 9 26,mV 10 28])
 (.seq (.ops [mV 29 10,mV 30 7,oP 31 (.bin .eql (.t 29) (.t 30))])
 (.cond (.t 31) (.ops [mV 32 0,mV 33 9,mV 34 8,oP 35 (.idxS 1 (.t 32) (.t 33)),⟨none,none,.store 1 (.t 35) (.t 34)⟩]) .skip))))
 (.ops [oP 36 (.bin .add (.t 24) (iC 1)),mV 24 36]))))
def k191:KC:=(.seq (.ops [oP 6 (.mv (.c (.bool false)))])
 (.seq (.draw [mV 11 0,mV 12 1,oP 13 (.idxS 1 (.t 11) (.t 12)),oP 14 (.load false 1 (.t 13)),mV 15 0,mV 16 2,oP 17 (.idxS 1 (.t 15) (.t 16)),oP 18 (.load false 1 (.t 17)),mV 7 14,mV 8 18])
 (.seq (.seq (.ops [mV 19 7,mV 20 8,oP 21 (.bin .eql (.t 19) (.t 20))])
 (.cond (.t 21) (.seq (.ops [oP 6 (.mv (.c (.bool false)))])
 .ret) .skip))
 (.seq (.seq (.ops [mV 22 0,oP 23 (.len false (.t 22)),oP 24 (.mv (iC 0))])
 (.block 0 (.loop k191_b0)))
 (.seq (.ops [oP 6 (.mv (.c (.bool true)))])
 .ret)))))
theorem e191:Ent 191 37 [] [.t 6] k191:=ent Tryz.func191
def k151_b0:KC:=(.seq (.ops [oP 37 (.bin .lss (.t 36) (.t 35))])
 (.seq (.cond (.t 37) .skip (.exit 4))
 (.seq (.block 5 (.seq (.ops [mV 38 36,mV 11 38])
 (.seq (.seq (.draw [mV 39 0,mV 40 9,oP 41 (.idxS 1 (.t 39) (.t 40)),oP 42 (.load false 1 (.t 41)),mV 43 11,oP 44 (.idxS 1 (.t 42) (.t 43)),oP 45 (.load false 1 (.t 44)),mV 46 0,mV 47 10,oP 48 (.idxS 1 (.t 46) (.t 47)),oP 49 (.load false 1 (.t 48)),mV 50 11,oP 51 (.idxS 1 (.t 49) (.t 50)),oP 52 (.load false 1 (.t 51)),mV 12 45,mV 13 52])
 (.seq (.draw [mV 53 1,mV 54 12,oP 55 (.idxS 1 (.t 53) (.t 54)),oP 56 (.load false 1 (.t 55)),mV 57 1,mV 58 13,oP 59 (.idxS 1 (.t 57) (.t 58)),oP 60 (.load false 1 (.t 59)),oP 61 (.bin .neq (.t 56) (.t 60))])
 (.cond (.t 61) (.seq (.ops [mV 62 12,mV 63 13,mV 6 62,mV 7 63,oP 8 (.mv (.c (.bool false)))])
 .ret) .skip)))
 (.seq (.draw [mV 64 0,mV 65 11,oP 66 (.idxS 1 (.t 64) (.t 65)),oP 67 (.load false 1 (.t 66)),mV 68 9,oP 69 (.idxS 1 (.t 67) (.t 68)),oP 70 (.load false 1 (.t 69)),mV 71 0,mV 72 11,oP 73 (.idxS 1 (.t 71) (.t 72)),oP 74 (.load false 1 (.t 73)),mV 75 10,oP 76 (.idxS 1 (.t 74) (.t 75)),oP 77 (.load false 1 (.t 76)),mV 14 70,mV 15 77])
 (.seq (.draw [mV 78 2,mV 79 78,⟨(some 80),some (79,true),.mv (.t 1)⟩,⟨(some 81),some (79,true),.mv (.t 14)⟩,⟨(some 82),some (79,true),.idxS 1 (.t 80) (.t 81)⟩,⟨(some 83),some (79,true),.load false 1 (.t 82)⟩,⟨(some 84),some (79,true),.mv (.t 1)⟩,⟨(some 85),some (79,true),.mv (.t 15)⟩,⟨(some 86),some (79,true),.idxS 1 (.t 84) (.t 85)⟩,⟨(some 87),some (79,true),.load false 1 (.t 86)⟩,⟨(some 88),some (79,true),.bin .neq (.t 83) (.t 87)⟩,oP 89 (.pick (.t 79) (.t 88) (.c (.bool false)))])
 (.cond (.t 89) (.seq (.ops [mV 90 14,mV 91 15,mV 6 90,mV 7 91,oP 8 (.mv (.c (.bool false)))])
 .ret) .skip))))))
 (.ops [oP 92 (.bin .add (.t 36) (iC 1)),mV 36 92]))))
def k151_b1:KC:=(.seq (.ops [oP 23 (.bin .lss (.t 22) (.t 21))])
 (.seq (.cond (.t 23) .skip (.exit 2))
 (.seq (.block 3 (.seq (.ops [mV 24 22,mV 10 24])
 (.seq (.seq (.draw [mV 25 1,mV 26 9,oP 27 (.idxS 1 (.t 25) (.t 26)),oP 28 (.load false 1 (.t 27)),mV 29 1,mV 30 10,oP 31 (.idxS 1 (.t 29) (.t 30)),oP 32 (.load false 1 (.t 31)),oP 33 (.bin .neq (.t 28) (.t 32))])
 (.cond (.t 33) (.exit 3) .skip))
 (.seq (.ops [mV 34 0,oP 35 (.len false (.t 34)),oP 36 (.mv (iC 0))])
 (.block 4 (.loop k151_b0))))))
 (.ops [oP 93 (.bin .add (.t 22) (iC 1)),mV 22 93]))))
def k151_b2:KC:=(.seq (.ops [oP 19 (.bin .lss (.t 18) (.t 17))])
 (.seq (.cond (.t 19) .skip (.exit 0))
 (.seq (.block 1 (.seq (.ops [mV 20 18,mV 9 20])
 (.seq (.ops [mV 21 9,oP 22 (.mv (iC 0))])
 (.block 2 (.loop k151_b1)))))
 (.ops [oP 94 (.bin .add (.t 18) (iC 1)),mV 18 94]))))
def k151:KC:=(.seq (.ops [oP 6 (.mv (iC 0)),oP 7 (.mv (iC 0)),oP 8 (.mv (.c (.bool false)))])
 (.seq (.seq (.ops [mV 16 0,oP 17 (.len false (.t 16)),oP 18 (.mv (iC 0))])
 (.block 0 (.loop k151_b2)))
 (.seq (.ops [oP 6 (.mv (iC 0)),oP 7 (.mv (iC 0)),oP 8 (.mv (.c (.bool true)))])
 .ret)))
theorem e151:Ent 151 95 [] [.t 6,.t 7,.t 8] k151:=ent Tryz.func151
def k192:KC:=(.seq (.ops [oP 5 (.mv (.c (.bool false)))])
 (.seq (.draw [oP 6 (.load false 1 (.t 2)),mV 7 0,oP 8 (.idxS 1 (.t 6) (.t 7)),oP 9 (.load false 1 (.t 8)),oP 10 (.load false 1 (.t 2)),mV 11 1,oP 12 (.idxS 1 (.t 10) (.t 11)),oP 13 (.load false 1 (.t 12)),oP 14 (.bin .eql (.t 9) (.t 13)),mV 5 14])
 .ret))
theorem e192:Ent 192 15 [] [.t 5] k192:=ent Tryz.func192
def k160_b0:KC:=(.seq (.ops [oP 19 (.bin .lss (.t 18) (.t 17))])
 (.seq (.cond (.t 19) .skip (.exit 0))
 (.seq (.block 1 (.seq (.ops [oP 20 (.idxS 1 (.t 16) (.t 18)),oP 21 (.load false 1 (.t 20)),mV 9 21])
 (.draw [oP 22 (.load false 1 (.t 7)),mV 23 9,oP 24 (.idxS 1 (.t 23) (iC 0)),oP 25 (.load false 1 (.t 24)),mV 26 9,oP 27 (.idxS 1 (.t 26) (iC 1)),oP 28 (.load false 1 (.t 27)),oP 29 (.call (fC 191) [(.t 22),(.t 25),(.t 28)])])))
 (.ops [oP 30 (.bin .add (.t 18) (iC 1)),mV 18 30]))))
def k160_b1:KC:=(.block 3 (.seq (.ops [mV 32 0,oP 33 (.load false 1 (.t 7)),mV 34 2,oP 35 (.call (fC 151) [(.t 32),(.t 33),(.t 34)]),mV 31 35,oP 36 (.extr 0 (.t 31)),oP 37 (.extr 1 (.t 31)),oP 38 (.extr 2 (.t 31)),mV 10 36,mV 11 37,mV 12 38])
 (.seq (.seq (.ops [mV 39 12])
 (.cond (.t 39) (.seq (.ops [oP 40 (.load false 1 (.t 7)),oP 41 (.len false (.t 40)),oP 42 (.mkfn (.func 192) [] [(.t 7)]),oP 43 (.call (fC 120) [(.t 41),(.t 42)]),mV 6 43])
 .ret) .skip))
 (.ops [oP 44 (.load false 1 (.t 7)),mV 45 10,mV 46 11,oP 47 (.call (fC 191) [(.t 44),(.t 45),(.t 46)])]))))
def k160:KC:=(.seq (.ops [oP 6 (.mv (.c (.nils)))])
 (.seq (.ops [mV 13 0,oP 14 (.len false (.t 13)),oP 15 (.call (fC 92) [(.t 14)]),oP 7 (.alloc [.nils]),⟨none,none,.store 1 (.t 7) (.t 15)⟩])
 (.seq (.seq (.ops [mV 16 1,oP 17 (.len false (.t 16)),oP 18 (.mv (iC 0))])
 (.block 0 (.loop k160_b0)))
 (.block 2 (.loop k160_b1)))))
theorem e160 {args:List PV} {σ:Heap} {K:PV→Heap→Prop} (hl:args.length≤48) (h:Wf σ→(∀ a∈args,PV.upto σ.length a)→vc (mkCfgR Tryz.prog mixed [] 48 σ.length) k160 (FinK σ.length [.t 6] K) (argEnv 0 args) σ):ACall Tryz.prog 160 args σ K :=
 ACall_enter (C:=mkCfgR Tryz.prog mixed [] 48 σ.length) (c:=Tryz.f160.body.getD .skip) Tryz.func160 (by kernel_rfl) (by kernel_rfl) (by kernel_rfl) rfl hl (by kernel_rfl) (by kernel_rfl) h
end
section
attribute [local irreducible] ACall PCall KL
attribute [local go_sem] OpK_eq HKv
theorem p191 {σ:Heap} {id ver:Nat} (r:List Int) (hid:σ[id]? = some (.arr ver 2 1 (ints r))) (hl:r.length≤1000) {a b:Nat} (ha:a<r.length) (hb:b<r.length) {n:Nat} (hn:n=r.length) {K:PV→Heap→Prop} (hK0:r.getD a 0=r.getD b 0→K (.bool false) σ) (hK1:¬ r.getD a 0=r.getD b 0→K (.bool true) (σ.set id (.arr ver 2 1 (ints (jnC r (r.getD b 0) (r.getD a 0)))))):ACall Tryz.prog 191 [.ref id ver 0 n,.int .i64 a,.int .i64 b] σ K:=by
 subst hn
 have hlt:=(List.getElem?_eq_some_iff.1 hid).1
 have hself:∀ o,(σ.set id o)[id]? = some o:=fun o=>List.getElem?_set_self hlt
 have hset:∀ o o',(σ.set id o).set id o' = σ.set id o':=fun o o'=>List.set_set ..
 refine e191 (by simp) fun _ _=>?_
 simp only [k191,argEnv,hid,ints_length,go_sem]
 refine ⟨⟨by omega,Nat.le_refl _⟩,ha,fun _=>⟨⟨by omega,Nat.le_refl _⟩,hb,fun _=>⟨fun g=>Kv.Fin.now (hK0 g),fun g=>?_⟩⟩⟩
 replace hK1:=hK1 g
 generalize r.getD b 0=p at *
 generalize r.getD a 0=q at *
 have h0:σ = σ.set id (.arr ver 2 1 (ints (jnC (r.take 0) p q ++ r.drop 0))):=by
  have:jnC (r.take 0) p q ++ r.drop 0=r:=by simp [jnC]
  rw [this,← (List.getElem?_eq_some_iff.1 hid).2]; exact (List.set_getElem_self _).symm
 refine KL_ind k191_b0.eq_1 (fun x:Nat=>[(0,.ref id ver 0 r.length),(7,.int .i64 q),(8,.int .i64 p),(22,.ref id ver 0 r.length),(23,.int .i64 r.length),(24,.int .i64 x)]) (fun x=>σ.set id (.arr ver 2 1 (ints (jnC (r.take x) p q ++ r.drop x)))) (fun x=>x≤r.length) (fun x=>r.length - x) [0,7,8,22,23,24] 0 (by simp [keep]) h0 (Nat.zero_le _) fun x hx ih=>?_
 have hll:(jnC (r.take x) p q ++ r.drop x).length=r.length:=by rw [List.length_append,jnC_len,List.length_take,List.length_drop]; omega
 try simp only [hself,hset,ints_setU,ints_length,hll,go_sem]
 refine ⟨fun g1=>?_,fun g1=>?_⟩
 ·have hxl:x<r.length:=by omega
  obtain ⟨j1,j2,j3⟩:=jn_step r p q hxl
  rw [j1]
  refine ⟨⟨by omega,Nat.le_refl _⟩,hxl,fun _=>⟨fun g2=>?_,fun g2=>?_⟩⟩
  ·rw [j2 g2]
   exact ⟨⟨by omega,Nat.le_refl _⟩,hxl,fun _=>⟨by omega,ih (x+1) (by omega) (by omega) _ _ (by simp [keep]) rfl⟩⟩
  ·exact ⟨by omega,ih (x+1) (by omega) (by omega) _ _ (by simp [keep]) (by rw [j3 g2])⟩
 ·obtain rfl:x=r.length:=by omega
  rw [List.take_length,List.drop_length,List.append_nil]
  exact Kv.Fin.now hK1
set_option maxRecDepth 100000 in
set_option maxHeartbeats 4000000 in
theorem p151 (T:List (List Int)) (N:Nat) (hT:TblC T N) (hN:N≤300) (r:List Int) (hr:r.length=N) (both:Bool) {K:PV→Heap→Prop} (hK1:CloC T N both r→K (.tup [.int .i64 0,.int .i64 0,.bool true]) []) (hK2:∀ x y:Nat,x<N→y<N→¬ r.getD x 0=r.getD y 0→(∀ s,CloC T N both s→fnC N r s→eqC s x y)→K (.tup [.int .i64 x,.int .i64 y,.bool false]) []):ACall Tryz.prog 151 [.list (rows T),.list (ints r),.bool both] [] K:=by
 have hTl:=hT.len
 refine e151 (by simp) fun _ _=>?_
 simp only [k151,argEnv,go_sem]
 refine KL_ind k151_b2.eq_1 (fun a:Nat=>[(0,.list (rows T)),(1,.list (ints r)),(2,.bool both),(17,.int .i64 N),(18,.int .i64 a)]) (fun _=>[]) (fun a=>a≤N∧∀ a' b' c',a'<a→b'<a'→c'<N→CkC T both r a' b' c') (fun a=>N - a) [0,1,2,17,18] 0 (by simp [keep,hTl]) rfl ⟨Nat.zero_le _,fun a' b' c' h=>absurd h (Nat.not_lt_zero _)⟩ fun a ⟨ha,hck⟩ ih2=>?_
 try simp only [go_sem]
 refine ⟨fun g1=>?_,fun g1=>?_⟩
 ·have haN:a<N:=by omega
  refine KL_ind k151_b1.eq_1 (fun b:Nat=>[(0,.list (rows T)),(1,.list (ints r)),(2,.bool both),(9,.int .i64 a),(17,.int .i64 N),(18,.int .i64 a),(21,.int .i64 a),(22,.int .i64 b)]) (fun _=>[]) (fun b=>b≤a∧∀ b' c',b'<b→c'<N→CkC T both r a b' c') (fun b=>a - b) [0,1,2,9,17,18,21,22] 0 (by simp [keep]) rfl ⟨Nat.zero_le _,fun b' c' h=>absurd h (Nat.not_lt_zero _)⟩ fun b ⟨hb,hck1⟩ ih1=>?_
  try simp only [hr,go_sem]
  refine ⟨fun g2=>?_,fun g2=>?_⟩
  ·have hbN:b<N:=by omega
   refine ⟨by omega,fun _=>⟨by omega,fun _=>⟨fun g3=>⟨by omega,ih1 (b+1) ⟨by omega,fun b' c' hb' hc'=>?_⟩ (by omega) _ _ (by simp [keep]) rfl⟩,fun g3=>?_⟩⟩⟩
   ·by_cases e:b'=b
    ·subst e
     intro he
     exact absurd he g3
    ·exact hck1 b' c' (by omega) hc'
   ·refine KL_ind k151_b0.eq_1 (fun c:Nat=>[(0,.list (rows T)),(1,.list (ints r)),(2,.bool both),(9,.int .i64 a),(10,.int .i64 b),(17,.int .i64 N),(18,.int .i64 a),(21,.int .i64 a),(22,.int .i64 b),(35,.int .i64 N),(36,.int .i64 c)]) (fun _=>[]) (fun c=>c≤N∧∀ c',c'<c→CkC T both r a b c') (fun c=>N - c) [0,1,2,9,10,17,18,21,22,35,36] 0 (by simp [keep,hTl]) rfl ⟨Nat.zero_le _,fun c' h=>absurd h (Nat.not_lt_zero _)⟩ fun c ⟨hc,hck0⟩ ih0=>?_
    try simp only [hr,go_sem]
    refine ⟨fun g4=>?_,fun g4=>?_⟩
    ·have hcN:c<N:=by omega
     obtain ⟨x1,e1⟩:=hT.tg haN hcN
     obtain ⟨x2,e2⟩:=hT.tg hbN hcN
     obtain ⟨x3,e3⟩:=hT.tg hcN haN
     obtain ⟨x4,e4⟩:=hT.tg hcN hbN
     have w1:=hT.row a haN
     have w2:=hT.row b hbN
     have w3:=hT.row c hcN
     have d1:(a:Int)<(N:Int):=by omega
     have d2:(b:Int)<(N:Int):=by omega
     have d3:(c:Int)<(N:Int):=by omega
     have y1:(tgC T a c:Int)<(N:Int):=by omega
     have y2:(tgC T b c:Int)<(N:Int):=by omega
     have y3:(tgC T c a:Int)<(N:Int):=by omega
     have y4:(tgC T c b:Int)<(N:Int):=by omega
     have hs1:∀ s,CloC T N both s→fnC N r s→eqC s (tgC T a c) (tgC T b c):=fun s hs hf=>(hs a b c haN hbN hcN (hf a b haN hbN g3)).1
     have hs2:both=true→∀ s,CloC T N both s→fnC N r s→eqC s (tgC T c a) (tgC T c b):=fun h s hs hf=>(hs a b c haN hbN hcN (hf a b haN hbN g3)).2 h
     have hst:CkC T both r a b c→∀ c',c'<c+1→CkC T both r a b c':=fun h c' hc'=>by
      by_cases e:c'=c
      ·subst e; exact h
      ·exact hck0 c' (by omega)
     rcases Bool.eq_false_or_eq_true both with hbt | hbt
     all_goals
      try simp only [hTl,hr,e1,e2,e3,e4,w1,w2,w3,haN,hbN,hcN,d1,d2,d3,x1,x2,x3,x4,y1,y2,y3,y4,Nat.le_refl,true_and,and_true,true_implies,hbt,go_sem]
     ·refine ⟨fun g5=>Kv.Fin.now (hK2 _ _ x1 x2 g5 hs1),fun g5=>⟨fun g6=>Kv.Fin.now (hK2 _ _ x3 x4 g6 (hs2 hbt)),fun g6=>⟨by omega,ih0 (c+1) ⟨by omega,hst fun _=>⟨g5,fun _=>g6⟩⟩ (by omega) _ _ (by simp [keep,hbt]) rfl⟩⟩⟩
     ·refine ⟨fun g5=>Kv.Fin.now (hK2 _ _ x1 x2 g5 hs1),fun g5=>⟨by omega,ih0 (c+1) ⟨by omega,hst fun _=>⟨g5,fun h=>by rw [hbt] at h; cases h⟩⟩ (by omega) _ _ (by simp [keep,hbt]) rfl⟩⟩
    ·have hcN:c=N:=by omega
     refine ⟨by omega,ih1 (b+1) ⟨by omega,fun b' c' hb' hc'=>?_⟩ (by omega) _ _ (by simp [keep]) rfl⟩
     by_cases e:b'=b
     ·subst e; exact hck0 c' (by omega)
     ·exact hck1 b' c' (by omega) hc'
  ·have hba:b=a:=by omega
   refine ⟨by omega,ih2 (a+1) ⟨by omega,fun a' b' c' h1 h2 h3=>?_⟩ (by omega) _ _ (by simp [keep]) rfl⟩
   by_cases e:a'=a
   ·subst e; exact hck1 b' c' (by omega) h3
   ·exact hck a' b' c' (by omega) h2 h3
 ·obtain rfl:a=N:=by omega
  exact Kv.Fin.now (hK1 (clo_ck hck))
theorem p192 (r:List Int) {i k:Nat} (hi:i<r.length) (hk:k<r.length):Pure Tryz.prog 192 [.int .i64 i,.int .i64 k,.fptr [.list (ints r)] 0] (.bool (decide (r.getD i 0=r.getD k 0))):=by
 refine e192 (by simp) fun _ _=>?_
 simp only [k192,argEnv,go_sem]
 exact ⟨by omega,fun _=>⟨by omega,fun _=>Kv.Fin.still ⟨rfl,rfl⟩⟩⟩
def pairC (P:List (List Int)) (i j:Nat):Prop:=[(i:Int),(j:Int)]∈P
set_option maxRecDepth 100000 in
theorem p160 (T:List (List Int)) (N:Nat) (hT:TblC T N) (hN:1≤N∧N≤300) (P:List (List Int)) (hP:∀ x∈P,∃ i j:Nat,i<N∧j<N∧x = [(i:Int),(j:Int)]) (hPl:P.length≤1000000) (both:Bool):Pure Tryz.prog 160 [.list (rows T),.list (rows P),.bool both] (.list (ints (nz (lfC N (PC T N both (pairC P)))))):=by
 have hTl:=hT.len
 refine e160 (by simp) fun _ _=>?_
 simp only [k160,argEnv,hTl,go_sem]
 refine (p92 N (by omega)).go fun v s ⟨hv,hs⟩=>?_
 subst hv; subst hs
 have hpl:(pts N).length=N:=by simp [pts]
 have hpg:∀ i,i<N→(pts N).getD i 0=(i:Int):=fun i hi=>by simp [pts,mk,List.getD_eq_getElem?_getD,hi]
 try simp only [ren_ref,ren_arr,ren_ints,hpl,go_sem]
 have hfin:∀ r,LeaC N (PC T N both (pairC P)) r→lfC N (PC T N both (pairC P))=nmC r:=fun r h=>lfC_eq h
 generalize lfC N (PC T N both (pairC P))=V at hfin ⊢
 generalize pts N=R at *
 refine KL_ind k160_b0.eq_1 (fun y:List Int × Nat=>[(0,.list (rows T)),(2,.bool both),(7,.ptr 1 0),(16,.list (rows P)),(17,.int .i64 P.length),(18,.int .i64 y.2)]) (fun y=>[.arr (N - 1) 2 1 (ints y.1),.box [.ref 0 (N - 1) 0 N]]) (fun y=>y.2≤P.length∧y.1.length=N∧(∀ s,PC T N both (pairC P) s→fnC N y.1 s)∧∀ i j:Nat,i<N→j<N→[(i:Int),(j:Int)]∈P.take y.2→eqC y.1 i j) (fun y=>P.length - y.2) [0,2,7,16,17,18] (R,0) (by simp [keep]) rfl ⟨Nat.zero_le _,hpl,fun s _ i j hi hj he=>?_,fun i j _ _ h=>by simp at h⟩ fun ⟨r,x⟩ ⟨hx,hl,hlow,hpr⟩ ih=>?_
 ·unfold eqC at he
  rw [hpg i hi,hpg j hj] at he
  obtain rfl:i=j:=by omega
  rfl
 simp only at hx hl hlow hpr
 try simp only [go_sem]
 refine ⟨fun g1=>?_,fun g1=>?_⟩
 ·have hxl:x<P.length:=by omega
  obtain ⟨i,j,hi,hj,hij⟩:=hP _ (List.getElem_mem hxl)
  have hgx:P.getD x [] = [(i:Int),(j:Int)]:=by rw [List.getD_eq_getElem?_getD,List.getElem?_eq_getElem hxl]; exact hij
  have htk:P.take (x+1)=P.take x ++ [[(i:Int),(j:Int)]]:=by rw [List.take_succ_eq_append_getElem hxl,hij]
  have hmem:pairC P i j:=by unfold pairC; rw [← hij]; exact List.getElem_mem hxl
  rw [hgx]
  have hpair:fnC N r (jnC r (r.getD j 0) (r.getD i 0)):=by have:=jnC_up (r:=r) (r.getD j 0) (r.getD i 0); rwa [hl] at this
  refine ⟨by omega,fun _=>⟨by simp,fun _=>⟨by simp,fun _=>?_⟩⟩⟩
  refine p191 r rfl (by omega) (a:=i) (b:=j) (by omega) (by omega) hl.symm (fun g=>?_) (fun g=>?_)
  ·try simp only [go_sem]
   refine ⟨by omega,ih (r,x+1) ⟨hxl,hl,hlow,fun i' j' hi' hj' hm=>?_⟩ (by show P.length - (x+1)<P.length - x; omega) _ _ (by simp [keep]) rfl⟩
   rw [show (r,x+1).2=x+1 from rfl,htk] at hm
   rcases List.mem_append.1 hm with hm | hm
   ·exact hpr i' j' hi' hj' hm
   ·simp only [List.mem_singleton,List.cons.injEq,and_true] at hm
    obtain ⟨e1,e2⟩:=hm
    obtain rfl:i'=i:=by omega
    obtain rfl:j'=j:=by omega
    exact g
  ·try simp only [go_sem]
   refine ⟨by omega,ih (jnC r (r.getD j 0) (r.getD i 0),x+1) ⟨hxl,(jnC_len _ _ _).trans hl,fun s hs=>?_,fun i' j' hi' hj' hm=>?_⟩ (by show P.length - (x+1)<P.length - x; omega) _ _ (by simp [keep]) rfl⟩
   ·have h1:=hlow s hs
    rw [← hl] at h1
    have:=jnC_min h1 (x:=j) (y:=i) (by omega) (by omega) (Eq.symm (hs.2 i j hi hj hmem))
    rwa [hl] at this
   ·rw [show (jnC r (r.getD j 0) (r.getD i 0),x+1).2=x+1 from rfl,htk] at hm
    rcases List.mem_append.1 hm with hm | hm
    ·exact hpair i' j' hi' hj' (hpr i' j' hi' hj' hm)
    ·simp only [List.mem_singleton,List.cons.injEq,and_true] at hm
     obtain ⟨e1,e2⟩:=hm
     obtain rfl:i'=i:=by omega
     obtain rfl:j'=j:=by omega
     exact Eq.symm (jnC_eq (by omega) (by omega))
 ·obtain rfl:x=P.length:=by omega
  rw [List.take_length] at hpr
  try simp only [go_sem]
  refine KL_ind k160_b1.eq_1 (fun y:List Int=>[(0,.list (rows T)),(2,.bool both),(7,.ptr 1 0)]) (fun y=>[.arr (N - 1) 2 1 (ints y),.box [.ref 0 (N - 1) 0 N]]) (fun y=>y.length=N∧(∀ s,PC T N both (pairC P) s→fnC N y s)∧∀ i j:Nat,i<N→j<N→pairC P i j→eqC y i j) (fun y=>mC N y) [0,2,7] r (by simp [keep]) rfl ⟨hl,hlow,hpr⟩ fun r ⟨hl,hlow,hpr⟩ ih=>?_
  try simp only [go_sem]
  refine ACall.lend (p151 T N hT hN.2 r hl both (K:=fun v s=>s = []∧((CloC T N both r∧v = .tup [.int .i64 0,.int .i64 0,.bool true])∨∃ x y:Nat,x<N∧y<N∧¬ r.getD x 0=r.getD y 0∧(∀ s,CloC T N both s→fnC N r s→eqC s x y)∧v = .tup [.int .i64 x,.int .i64 y,.bool false])) (fun h=>⟨rfl,.inl ⟨h,rfl⟩⟩) (fun x y h1 h2 h3 h4=>⟨rfl,.inr ⟨x,y,h1,h2,h3,h4,rfl⟩⟩)) (.cons Imm.still (.cons (Imm.refn rfl hl.symm) (.cons Imm.still (.nil _)))) fun v s ⟨hs,hv⟩=>?_
  subst hs
  rcases hv with ⟨hc,rfl⟩ | ⟨x,y,hx,hy,hne,hxy,rfl⟩
  ·refine ⟨⟨(inferInstance:PlainC (.tup [.int .i64 0,.int .i64 0,.bool true])).p.fr,by simp⟩,?_⟩
   rw [(inferInstance:PlainC (.tup [.int .i64 0,.int .i64 0,.bool true])).p.rn]
   try simp only [go_sem]
   have hV:=hfin r ⟨hl,⟨hc,hpr⟩,hlow⟩
   have hA:=p120 N (by omega) 192 [.fptr [.list (ints r)] 0] (fun i k=>decide (r.getD i 0=r.getD k 0)) (fun i k hi hk=>p192 r (by omega) (by omega))
   refine ACall.lend hA (.cons Imm.still (.cons (Imm.fnc _ (.cons (Imm.ptr 1 0 [.ref 0 (N - 1) 0 N] [.list (ints r)] rfl rfl (by simp [PV.ok]) (fun j c d hc hd=>?_)) (.nil _))) (.nil _))) fun v s ⟨hv,hs⟩=>?_
   ·cases j with
    | zero=>cases hc; cases hd; exact Imm.refn rfl hl.symm
    | succ j=>cases hc
   ·subst hv; subst hs
    refine ⟨⟨free_ref _ _ _ _,?_⟩,?_⟩
    ·intro o ho
     simp only [List.mem_singleton] at ho; subst ho
     exact fun c hc=>(Plain.ints _ c (by rwa [flat_ints] at hc)).fr
    ·try simp only [ren_ref,ren_arr,ren_ints,go_sem]
     have hVN:V=(nmA (fun i k=>decide (r.getD i 0=r.getD k 0)) N).1:=by rw [hV,nmC,hl]
     have hvl:V.length=N:=by rw [hV,nmC_len,hl]
     rw [← hVN]
     exact Kv.Fin.freeze (Imm.refn rfl (by rw [nz_len]; exact hvl.symm)) ⟨rfl,rfl⟩
  ·refine ⟨⟨(inferInstance:PlainC (.tup [.int .i64 x,.int .i64 y,.bool false])).p.fr,by simp⟩,?_⟩
   rw [(inferInstance:PlainC (.tup [.int .i64 x,.int .i64 y,.bool false])).p.rn]
   try simp only [go_sem]
   refine p191 r rfl (by omega) (a:=x) (b:=y) (by omega) (by omega) hl.symm (fun g=>absurd g hne) (fun g=>?_)
   have hup:=jnC_up (r:=r) (r.getD y 0) (r.getD x 0)
   rw [hl] at hup
   have heq:eqC (jnC r (r.getD y 0) (r.getD x 0)) x y:=Eq.symm (jnC_eq (by omega) (by omega))
   try simp only [go_sem]
   refine ih (jnC r (r.getD y 0) (r.getD x 0)) ⟨(jnC_len _ _ _).trans hl,fun s hs=>?_,fun i j hi hj h=>hup i j hi hj (hpr i j hi hj h)⟩ (mC_lt hup hx hy hne heq) _ _ (by simp [keep]) rfl
   have h1:=hlow s hs
   have h2:=hxy s hs.1 h1
   rw [← hl] at h1
   have:=jnC_min h1 (x:=y) (y:=x) (by omega) (by omega) (Eq.symm h2)
   rwa [hl] at this
end
end
end Go.Proofs.YtcfmmmloeaggmaaGreat
