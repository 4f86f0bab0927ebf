/- Several texts of this session as one, less what the claim does not need. -/
import Derived.Test.YtcfmmmloeaggmaaGreatCb
import Derived.Test.YtcfmmmloeaggmaaGreatZ7
import Derived.Test.YtcfmmmloeaggmaaGreatZ8
namespace Go.Proofs.YtcfmmmloeaggmaaGreat
open Go.Kv
set_option linter.unusedVariables false
set_option linter.unusedSimpArgs false
section
section
set_option maxRecDepth 100000
def k183_b0:KC:=(.seq (.seq (.ops [mV 10 5,mV 11 6,oP 12 (.bin .lss (.t 10) (.t 11))])
 (.cond (.t 12) .skip (.exit 0)))
 (.block 1 (.seq (.ops [mV 13 5,mV 14 6,oP 15 (.bin .add (.t 13) (.t 14)),oP 16 (.bin .quo (.t 15) (iC 2)),mV 7 16])
 (.seq (.draw [mV 17 0,mV 18 7,oP 19 (.idxS 6 (.t 17) (.t 18)),oP 20 (.load true 6 (.t 19)),oP 21 (.load true 6 (.t 3)),oP 22 (.pcall (fC 184) [(.t 20),(.t 21)])])
 (.cond (.t 22) (.ops [mV 23 7,oP 24 (.bin .add (.t 23) (iC 1)),mV 5 24]) (.ops [mV 25 7,mV 6 25]))))))
def k183:KC:=(.seq (.ops [oP 3 (.box true (.t 1)),oP 4 (.mv (iC 0))])
 (.seq (.ops [mV 8 0,oP 9 (.len false (.t 8)),oP 5 (.mv (iC 0)),mV 6 9])
 (.seq (.block 0 (.loop k183_b0))
 (.seq (.seq (.draw [mV 26 5,mV 27 0,oP 28 (.len false (.t 27)),oP 29 (.bin .lss (.t 26) (.t 28)),mV 30 29,⟨(some 31),some (30,true),.mv (.t 0)⟩,⟨(some 32),some (30,true),.mv (.t 5)⟩,⟨(some 33),some (30,true),.idxS 6 (.t 31) (.t 32)⟩,⟨(some 34),some (30,true),.load true 6 (.t 33)⟩,⟨(some 35),some (30,true),.load true 6 (.t 3)⟩,⟨(some 36),some (30,true),.aeq false 6 (.t 34) (.t 35)⟩,oP 37 (.pick (.t 30) (.t 36) (.c (.bool false)))])
 (.cond (.t 37) (.seq (.ops [mV 38 5,mV 4 38])
 .ret) .skip))
 (.seq (.ops [oP 4 (.mv (iC (-1)))])
 .ret)))))
theorem e183:Ent 183 39 [3] [.t 4] k183:=ent Tryz.func183
def k134_b0:KC:=(.seq (.seq (.ops [mV 11 5,mV 12 6,oP 13 (.bin .lss (.t 11) (.t 12))])
 (.cond (.t 13) .skip (.exit 0)))
 (.block 1 (.seq (.ops [mV 14 5,mV 15 6,oP 16 (.bin .add (.t 14) (.t 15)),oP 17 (.bin .quo (.t 16) (iC 2)),mV 7 17])
 (.seq (.draw [mV 18 0,mV 19 7,oP 20 (.idxS 6 (.t 18) (.t 19)),oP 21 (.load true 6 (.t 20)),oP 22 (.load true 6 (.t 3)),oP 23 (.pcall (fC 184) [(.t 21),(.t 22)])])
 (.cond (.t 23) (.ops [mV 24 7,oP 25 (.bin .add (.t 24) (iC 1)),mV 5 25]) (.ops [mV 26 7,mV 6 26]))))))
abbrev k134s0:KT:=(.op (oP 47 (.app (.t 44) (.t 46) 48 6)) (.op (mV 8 47) .fin))
abbrev k134s1:KT:=(.op (oP 46 (.bsl true 48 6 [(.t 45)])) k134s0)
abbrev k134s2:KT:=(.op (oP 44 (.app (.t 40) (.t 43) 48 6)) k134s0)
abbrev k134s3:KT:=(.alt (.op (oP 44 (.app (.t 40) (.t 43) 48 6)) k134s1) (.op (oP 46 (.bsl true 48 6 [(.t 45)])) k134s2))
abbrev k134s4:KT:=(.alt (.op (oP 44 (.app (.t 40) (.t 43) 48 6)) (.op (oP 45 (.load true 6 (.t 3))) k134s1)) (.op (oP 45 (.load true 6 (.t 3))) k134s3))
abbrev k134s5:KT:=(.op (oP 43 (.sls 6 (.t 41) none (some (.t 42)))) k134s2)
abbrev k134s6:KT:=(.alt (.op (oP 43 (.sls 6 (.t 41) none (some (.t 42)))) k134s3) (.op (oP 46 (.bsl true 48 6 [(.t 45)])) k134s5))
abbrev k134s7:KT:=(.op (oP 40 (.bsl false 48 6 [])) k134s2)
abbrev k134s8:KT:=(.alt (.op (oP 40 (.bsl false 48 6 [])) k134s3) (.op (oP 46 (.bsl true 48 6 [(.t 45)])) k134s7))
def k134:KC:=(.seq (.ops [oP 3 (.box true (.t 1)),oP 4 (.mv (.c (.nils)))])
 (.seq (.ops [mV 9 0,oP 10 (.len false (.t 9)),oP 5 (.mv (iC 0)),mV 6 10])
 (.seq (.block 0 (.loop k134_b0))
 (.seq (.seq (.draw [mV 27 5,mV 28 0,oP 29 (.len false (.t 28)),oP 30 (.bin .lss (.t 27) (.t 29)),mV 31 30,⟨(some 32),some (31,true),.mv (.t 0)⟩,⟨(some 33),some (31,true),.mv (.t 5)⟩,⟨(some 34),some (31,true),.idxS 6 (.t 32) (.t 33)⟩,⟨(some 35),some (31,true),.load true 6 (.t 34)⟩,⟨(some 36),some (31,true),.load true 6 (.t 3)⟩,⟨(some 37),some (31,true),.aeq false 6 (.t 35) (.t 36)⟩,oP 38 (.pick (.t 31) (.t 37) (.c (.bool false)))])
 (.cond (.t 38) (.seq (.ops [mV 39 0,mV 4 39])
 .ret) .skip))
 (.seq (.tree (.op (mV 41 0) (.op (mV 42 5) (.alt (.op (oP 40 (.bsl false 48 6 [])) (.alt (.op (oP 43 (.sls 6 (.t 41) none (some (.t 42)))) k134s4) (.op (oP 45 (.load true 6 (.t 3))) k134s6))) (.alt (.op (oP 43 (.sls 6 (.t 41) none (some (.t 42)))) (.alt (.op (oP 40 (.bsl false 48 6 [])) k134s4) (.op (oP 45 (.load true 6 (.t 3))) k134s8))) (.op (oP 45 (.load true 6 (.t 3))) (.alt (.op (oP 40 (.bsl false 48 6 [])) k134s6) (.alt (.op (oP 43 (.sls 6 (.t 41) none (some (.t 42)))) k134s8) (.op (oP 46 (.bsl true 48 6 [(.t 45)])) (.alt (.op (oP 40 (.bsl false 48 6 [])) k134s5) (.op (oP 43 (.sls 6 (.t 41) none (some (.t 42)))) k134s7)))))))))))
 (.seq (.ops [mV 48 8,mV 49 0,mV 50 5,oP 51 (.sls 6 (.t 49) (some (.t 50)) none),oP 52 (.app (.t 48) (.t 51) 48 6),mV 4 52])
 .ret))))))
theorem e134:Ent 134 53 [3,46] [.t 4] k134:=ent Tryz.func134
end
section
attribute [local irreducible] ACall PCall KL
def SrM (n:Nat) (S:List (List Nat)):Prop:=(∀ f∈S,Ok f n)∧S.Pairwise (fun a b=>nbl n a<nbl n b)
def loM (n:Nat) (S:List (List Nat)) (f:List Nat):Nat:=(S.takeWhile fun x=>decide (nbl n x<nbl n f)).length
theorem loM_le (n:Nat) (S:List (List Nat)) (f:List Nat):loM n S f≤S.length:=by
 unfold loM
 exact (List.takeWhile_sublist _).length_le
theorem loM_iff {n:Nat}:∀ {S:List (List Nat)} (f:List Nat),S.Pairwise (fun a b=>nbl n a<nbl n b)→∀ i (h:i<S.length),nbl n S[i]<nbl n f↔i<loM n S f
 | [],f,_,i,h=>by simp at h
 | a :: S,f,hp,i,h=>by
  rw [List.pairwise_cons] at hp
  unfold loM
  rw [List.takeWhile_cons]
  by_cases ha:nbl n a<nbl n f
  ·rw [if_pos (by simpa using ha),List.length_cons]
   cases i with
   | zero=>simp [ha]
   | succ i =>
    have:=loM_iff f hp.2 i (by simpa using h)
    simp only [List.getElem_cons_succ]
    rw [this]; unfold loM; omega
  ·rw [if_neg (by simpa using ha)]
   simp only [List.length_nil,Nat.not_lt_zero,iff_false]
   cases i with
   | zero=>exact ha
   | succ i =>
    have:=hp.1 _ (List.getElem_mem (by simpa using h:i<S.length))
    simp only [List.getElem_cons_succ]
    omega
theorem p183 (n:Nat) (S:List (List Nat)) (hS:SrM n S) (hl:S.length≤100000) (f:List Nat) (hf:Ok f n):Pure Tryz.prog 183 [.list (aggs (S.map mp)),.agg (ints (mp f))] (.int .i64 (if loM n S f<S.length∧S.getD (loM n S f) []=f then loM n S f else -1)):=by
 have hlf:=hf.mp_len
 have hle:=loM_le n S f
 refine e183 (by simp) fun _ _=>?_
 simp only [k183,argEnv,hlf,go_sem]
 try simp only [OpK_eq,HKv,hlf,aggs_length,List.length_map,go_sem]
 have hSl:(S.map mp).length=S.length:=List.length_map _
 refine KL_ind k183_b0.eq_1 (fun y:Nat × Nat=>[(0,.list (aggs (S.map mp))),(3,.fptr (ints (mp f)) 0),(5,.int .i64 y.1),(6,.int .i64 y.2),(31,.undef),(32,.undef),(33,.undef),(34,.undef),(35,.undef),(36,.undef)]) (fun _=>[]) (fun y=>y.1≤loM n S f∧loM n S f≤y.2∧y.2≤S.length) (fun y=>y.2 - y.1) [0,3,5,6,31,32,33,34,35,36] (0,S.length) (by simp [keep]) rfl ⟨Nat.zero_le _,hle,Nat.le_refl _⟩ fun ⟨lw,hg⟩ ⟨h1,h2,h3⟩ ih=>?_
 simp only at h1 h2 h3
 try simp only [OpK_eq,HKv,hlf,aggs_length,List.length_map,go_sem]
 refine ⟨fun g1=>?_,fun g1=>?_⟩
 ·have hm:((lw:Int)+hg) / 2=(((lw+hg) / 2:Nat):Int):=by omega
  rw [hm]
  have hmS:(lw+hg) / 2<S.length:=by omega
  have hgm:(S.map mp).getD ((lw+hg) / 2) []=mp S[(lw+hg) / 2]:=by simp [List.getD_eq_getElem?_getD,hmS]
  have hOk:=hS.1 _ (List.getElem_mem hmS)
  have h6m:=hOk.mp_len
  have hiff:=loM_iff f hS.2 ((lw+hg) / 2) hmS
  have hlt:=ltM_nbl hOk hf
  generalize (lw+hg) / 2=m at *
  try simp only [OpK_eq,HKv,hlf,aggs_length,List.length_map,hgm,h6m,go_sem]
  refine ⟨by omega,by omega,by omega,by omega,fun _=>?_⟩
  refine (p184 S[m] f n hOk hf).pgo ?_
  by_cases hb:nbl n S[m]<nbl n f
  ·have e:ltM S[m] f=true:=hlt.2 hb
   have:=hiff.1 hb
   rw [e]
   try simp only [OpK_eq,HKv,go_sem]
   exact ⟨by omega,ih (m+1,hg) ⟨by show m+1≤loM n S f; omega,h2,h3⟩ (by show hg - (m+1)<hg - lw; omega) _ _ (by simp [keep]) rfl⟩
  ·have e:ltM S[m] f=false:=by
    cases hc:ltM S[m] f with
    | true=>exact absurd (hlt.1 hc) hb
    | false=>rfl
   have:¬ m<loM n S f:=fun h=>hb (hiff.2 h)
   rw [e]
   try simp only [OpK_eq,HKv,go_sem]
   exact ih (lw,m) ⟨h1,by show loM n S f≤m; omega,by show m≤S.length; omega⟩ (by show m - lw<hg - lw; omega) _ _ (by simp [keep]) rfl
 ·obtain rfl:lw=loM n S f:=by omega
  by_cases hlo:loM n S f<S.length
  ·have hgm:(S.map mp).getD (loM n S f) []=mp S[loM n S f]:=by simp [List.getD_eq_getElem?_getD,hlo]
   have hgs:S.getD (loM n S f) []=S[loM n S f]:=by simp [List.getD_eq_getElem?_getD,hlo]
   have hOk:=hS.1 _ (List.getElem_mem hlo)
   have h6m:=hOk.mp_len
   rw [hgm,hgs,take6 h6m]
   refine ⟨fun _=>⟨by omega,fun _=>⟨h6m,by omega,h6m,fun he=>Kv.Fin.still ⟨?_,rfl⟩,fun he=>Kv.Fin.still ⟨?_,rfl⟩⟩⟩,fun h=>absurd hlo (by omega)⟩
   ·rw [if_pos ⟨hlo,mp_inj he⟩]
   ·rw [if_neg (fun h=>he (by rw [h.2]))]
  ·refine ⟨fun h=>absurd (by omega) hlo,fun _=>Kv.Fin.still ⟨by rw [if_neg (fun h=>hlo h.1)],rfl⟩⟩
theorem ok6' {m:List Int} (hm:m.length=6):okL 6 [PV.agg (ints m)]:=by
 have:=okL_aggs 6 [m]
 simp only [List.mem_singleton,forall_eq,hm] at this
 simpa [aggs] using this
def putM (n:Nat) (S:List (List Nat)) (f:List Nat):List (List Nat):=if loM n S f<S.length∧S.getD (loM n S f) []=f then S else S.take (loM n S f) ++ f :: S.drop (loM n S f)
set_option maxHeartbeats 4000000 in
theorem p134 (n:Nat) (S:List (List Nat)) (hS:SrM n S) (hl:S.length≤100000) (f:List Nat) (hf:Ok f n):Pure Tryz.prog 134 [.list (aggs (S.map mp)),.agg (ints (mp f))] (.list (aggs ((putM n S f).map mp))):=by
 have hlf:=hf.mp_len
 have hle:=loM_le n S f
 refine e134 (by simp) fun _ _=>?_
 simp only [k134,argEnv,hlf,go_sem]
 try simp only [OpK_eq,HKv,hlf,aggs_length,List.length_map,go_sem]
 have hSl:(S.map mp).length=S.length:=List.length_map _
 refine KL_ind k134_b0.eq_1 (fun y:Nat × Nat=>[(0,.list (aggs (S.map mp))),(3,.fptr (ints (mp f)) 0),(5,.int .i64 y.1),(6,.int .i64 y.2),(32,.undef),(33,.undef),(34,.undef),(35,.undef),(36,.undef),(37,.undef)]) (fun _=>[]) (fun y=>y.1≤loM n S f∧loM n S f≤y.2∧y.2≤S.length) (fun y=>y.2 - y.1) [0,3,5,6,32,33,34,35,36,37] (0,S.length) (by simp [keep]) rfl ⟨Nat.zero_le _,hle,Nat.le_refl _⟩ fun ⟨lw,hg⟩ ⟨h1,h2,h3⟩ ih=>?_
 simp only at h1 h2 h3
 try simp only [OpK_eq,HKv,hlf,aggs_length,List.length_map,go_sem]
 refine ⟨fun g1=>?_,fun g1=>?_⟩
 ·have hm:((lw:Int)+hg) / 2=(((lw+hg) / 2:Nat):Int):=by omega
  rw [hm]
  have hmS:(lw+hg) / 2<S.length:=by omega
  have hgm:(S.map mp).getD ((lw+hg) / 2) []=mp S[(lw+hg) / 2]:=by simp [List.getD_eq_getElem?_getD,hmS]
  have hOk:=hS.1 _ (List.getElem_mem hmS)
  have h6m:=hOk.mp_len
  have hiff:=loM_iff f hS.2 ((lw+hg) / 2) hmS
  have hlt:=ltM_nbl hOk hf
  generalize (lw+hg) / 2=m at *
  try simp only [OpK_eq,HKv,hlf,aggs_length,List.length_map,hgm,h6m,go_sem]
  refine ⟨by omega,by omega,by omega,by omega,fun _=>?_⟩
  refine (p184 S[m] f n hOk hf).pgo ?_
  by_cases hb:nbl n S[m]<nbl n f
  ·have e:ltM S[m] f=true:=hlt.2 hb
   have:=hiff.1 hb
   rw [e]
   try simp only [OpK_eq,HKv,go_sem]
   exact ⟨by omega,ih (m+1,hg) ⟨by show m+1≤loM n S f; omega,h2,h3⟩ (by show hg - (m+1)<hg - lw; omega) _ _ (by simp [keep]) rfl⟩
  ·have e:ltM S[m] f=false:=by
    cases hc:ltM S[m] f with
    | true=>exact absurd (hlt.1 hc) hb
    | false=>rfl
   have:¬ m<loM n S f:=fun h=>hb (hiff.2 h)
   rw [e]
   try simp only [OpK_eq,HKv,go_sem]
   exact ih (lw,m) ⟨h1,by show loM n S f≤m; omega,by show m≤S.length; omega⟩ (by show m - lw<hg - lw; omega) _ _ (by simp [keep]) rfl
 ·obtain rfl:lw=loM n S f:=by omega
  have hnew:¬ (loM n S f<S.length∧S.getD (loM n S f) []=f)→putM n S f=S.take (loM n S f) ++ f :: S.drop (loM n S f):=fun h=>by unfold putM; rw [if_neg h]
  generalize hlo':loM n S f=lo at *
  by_cases hc:lo<S.length∧S.getD lo []=f
  ·have hgm:(S.map mp).getD lo []=mp f:=by
    have:(S.map mp).getD lo []=mp (S.getD lo []):=by simp [List.getD_eq_getElem?_getD,hc.1]
    rw [this,hc.2]
   have hp:putM n S f=S:=by unfold putM; rw [hlo',if_pos hc]
   rw [hgm,take6 hlf,hp]
   exact ⟨fun _=>⟨by omega,fun _=>⟨hlf,by omega,hlf,fun _=>Kv.Fin.still ⟨rfl,rfl⟩,fun h=>absurd rfl h⟩⟩,fun h=>absurd hc.1 (by omega)⟩
  ·rw [hnew hc]
   have hS6:∀ r∈S.map mp,r.length=6:=fun r hr=>by
    obtain ⟨g,hg',rfl⟩:=List.mem_map.1 hr
    exact (hS.1 g hg').mp_len
   have hget:lo<S.length→(S.map mp).getD lo []=mp (S.getD lo [])∧Ok (S.getD lo []) n:=fun h=>by
    have e:S.getD lo []=S[lo]:=by simp [List.getD_eq_getElem?_getD,h]
    rw [e]
    exact ⟨by simp [List.getD_eq_getElem?_getD,h],hS.1 _ (List.getElem_mem h)⟩
   have hg6:lo<S.length→((S.map mp).getD lo []).length=6:=fun h=>by rw [(hget h).1]; exact (hget h).2.mp_len
   have hne:lo<S.length→List.take 6 ((S.map mp).getD lo [])≠mp f:=fun h e=>by
    rw [take6 (hg6 h),(hget h).1] at e
    exact hc ⟨h,mp_inj e⟩
   obtain ⟨A,hA⟩:∃ A,A=(S.map mp).take lo:=⟨_,rfl⟩
   obtain ⟨B,hB⟩:∃ B,B=(S.map mp).drop lo:=⟨_,rfl⟩
   have a1:List.take (lo - 0) (S.map mp)=A:=by rw [Nat.sub_zero,hA]
   have a2:List.take lo (S.map mp)=A:=hA.symm
   have b1:List.take (S.length - lo) (List.drop lo (S.map mp))=B:=by rw [hB,List.take_of_length_le (by rw [List.length_drop,List.length_map]; exact Nat.le_refl _)]
   have hAl:A.length=lo:=by rw [hA,List.length_take,List.length_map]; omega
   have hBl:B.length=S.length - lo:=by rw [hB,List.length_drop,List.length_map]
   have hokA:okL 6 (aggs A):=by rw [okL_aggs,hA]; exact fun r hr=>hS6 r (List.mem_of_mem_take hr)
   have hokB:okL 6 (aggs B):=by rw [okL_aggs,hB]; exact fun r hr=>hS6 r (List.mem_of_mem_drop hr)
   have hokS:okL 6 (aggs (S.map mp)):=by rw [okL_aggs]; exact hS6
   have hlen4:lo+1+(S.length - lo)=(A ++ mp f :: B).length:=by rw [List.length_append,List.length_cons]; omega
   have t0:(List.take 0 ([]:List PV)) ++ aggs A=aggs A:=rfl
   have t1:(aggs A).take lo ++ [PV.agg (ints (mp f))]=aggs (A ++ [mp f]):=by
    rw [List.take_of_length_le (by rw [aggs_length]; omega)]; simp [aggs]
   have t2:(aggs (A ++ [mp f])).take (lo+1) ++ aggs B=aggs (A ++ mp f :: B):=by
    rw [List.take_of_length_le (by rw [aggs_length,List.length_append,List.length_singleton]; omega)]; simp [aggs]
   have t3:List.take lo A=A:=List.take_of_length_le (by omega)
   have t4:List.take (lo+1) (A ++ [mp f])=A ++ [mp f]:=List.take_of_length_le (by rw [List.length_append,List.length_singleton]; omega)
   have t5:aggs A ++ [PV.agg (ints (mp f))]=aggs (A ++ [mp f]):=by simp [aggs]
   have t6:aggs (A ++ [mp f]) ++ aggs B=aggs (A ++ mp f :: B):=by simp [aggs]
   have hfin:(S.take lo ++ f :: S.drop lo).map mp=A ++ mp f :: B:=by rw [hA,hB,List.map_append,List.map_cons,List.map_take,List.map_drop]
   have hlen3:(A ++ [mp f]).length=lo+1:=by rw [List.length_append,List.length_singleton]; omega
   rw [hfin]
   clear hfin hA hB
   have hok1:=ok6' hlf
   have hil:(ints (mp f)).length=6:=by rw [ints_length,hlf]
   repeat' (first
    | omega
    | (rw [vT_alt]; refine ⟨?_,?_⟩)
    | exact hg6 (by omega)
    | (have h6':=hg6 (by omega); omega)
    | (rw [take6 (hg6 (by omega))]; exact hg6 (by omega))
    | exact hokA
    | exact hokS
    | exact hokB
    | exact hok1
    | (exfalso; exact hne (by omega) (by assumption))
    | (with_reducible refine And.intro ?_ ?_)
    | (with_reducible intro _)
    | (simp only [OpK_eq,HKv,a1,a2,b1,hAl,hBl,hlen3,t0,t1,t2,t3,t4,t5,t6,hlf,hil,aggs_take,aggs_drop,aggs_length,List.length_map,go_sem]))
   all_goals exact Kv.Fin.freeze (Imm.refa' rfl hlen4) ⟨rfl,rfl⟩
end
end
section
section
set_option maxRecDepth 100000
def k168_b0:KC:=(.seq (.seq (.ops [mV 15 6,mV 16 0,oP 17 (.len false (.t 16)),oP 18 (.bin .lss (.t 15) (.t 17))])
 (.cond (.t 18) .skip (.exit 2)))
 (.seq (.block 3 (.draw [mV 21 5,mV 22 0,mV 23 0,mV 24 4,oP 25 (.idxS 6 (.t 23) (.t 24)),oP 26 (.load true 6 (.t 25)),mV 27 0,mV 28 6,oP 29 (.idxS 6 (.t 27) (.t 28)),oP 30 (.load true 6 (.t 29)),oP 31 (.pcall (fC 137) [(.t 26),(.t 30)]),oP 32 (.pcall (fC 183) [(.t 22),(.t 31)]),oP 33 (.bsl true 2 1 [(.t 32)]),oP 34 (.app (.t 21) (.t 33) 2 1),mV 5 34]))
 (.ops [mV 19 6,oP 20 (.bin .add (.t 19) (iC 1)),mV 6 20])))
def k168_b1:KC:=(.seq (.seq (.ops [mV 8 4,mV 9 0,oP 10 (.len false (.t 9)),oP 11 (.bin .lss (.t 8) (.t 10))])
 (.cond (.t 11) .skip (.exit 0)))
 (.seq (.block 1 (.seq (.ops [oP 14 (.bsl false 2 1 []),mV 5 14])
 (.seq (.seq (.ops [oP 6 (.mv (iC 0))])
 (.block 2 (.loop k168_b0)))
 (.ops [mV 35 3,mV 36 5,oP 37 (.bsl true 25 1 [(.t 36)]),oP 38 (.app (.t 35) (.t 37) 25 1),mV 3 38]))))
 (.ops [mV 12 4,oP 13 (.bin .add (.t 12) (iC 1)),mV 4 13])))
def k168:KC:=(.seq (.ops [oP 2 (.mv (.c (.nils)))])
 (.seq (.ops [oP 7 (.bsl false 25 1 []),mV 3 7])
 (.seq (.seq (.ops [oP 4 (.mv (iC 0))])
 (.block 0 (.loop k168_b1)))
 (.seq (.ops [mV 39 3,mV 2 39])
 .ret))))
theorem e168:Ent 168 40 [33,37] [.t 2] k168:=ent Tryz.func168
end
section
attribute [local irreducible] ACall PCall KL
theorem lo_mem {n:Nat} {S:List (List Nat)} (hS:SrM n S) {f:List Nat} (hf:Ok f n):(loM n S f<S.length∧S.getD (loM n S f) []=f)↔f∈S:=by
 constructor
 ·rintro ⟨h1,h2⟩
  rw [← h2,List.getD_eq_getElem?_getD,List.getElem?_eq_getElem h1]
  exact List.getElem_mem _
 ·intro h
  obtain ⟨i,hi,e⟩:=List.getElem_of_mem h
  have hle:=loM_le n S f
  have h1:¬ i<loM n S f:=fun hh=>by
   have:=(loM_iff f hS.2 i hi).2 hh
   rw [e] at this; omega
  have hlo:loM n S f<S.length:=by omega
  have h2:¬ nbl n S[loM n S f]<nbl n f:=fun hh=>by
   have:=(loM_iff f hS.2 _ hlo).1 hh
   omega
  have h3:loM n S f=i:=by
   refine Classical.byContradiction fun hne=>?_
   have:=List.pairwise_iff_getElem.1 hS.2 (loM n S f) i hlo hi (by omega)
   rw [e] at this
   exact h2 this
  refine ⟨hlo,?_⟩
  rw [List.getD_eq_getElem?_getD,List.getElem?_eq_getElem hlo]
  simp only [h3,Option.getD_some]
  exact e
theorem putM_mem {n:Nat} {S:List (List Nat)} (hS:SrM n S) {f:List Nat} (hf:Ok f n) {x:List Nat}:x∈putM n S f↔x=f∨x∈S:=by
 unfold putM
 split
 ·rename_i h
  have:=(lo_mem hS hf).1 h
  exact ⟨fun h=>.inr h,fun h=>by rcases h with rfl | h <;> assumption⟩
 ·rw [List.mem_append,List.mem_cons]
  constructor
  ·rintro (h | h | h)
   ·exact .inr (List.mem_of_mem_take h)
   ·exact .inl h
   ·exact .inr (List.mem_of_mem_drop h)
  ·rintro (h | h)
   ·exact .inr (.inl h)
   ·rw [← List.take_append_drop (loM n S f) S,List.mem_append] at h
    rcases h with h | h
    ·exact .inl h
    ·exact .inr (.inr h)
theorem putM_srm {n:Nat} {S:List (List Nat)} (hS:SrM n S) {f:List Nat} (hf:Ok f n):SrM n (putM n S f):=by
 refine ⟨fun g hg=>?_,?_⟩
 ·rcases (putM_mem hS hf).1 hg with rfl | hg
  ·exact hf
  ·exact hS.1 g hg
 ·unfold putM
  split
  ·exact hS.2
  ·rename_i hno
   have hnm:f ∉ S:=fun h=>hno ((lo_mem hS hf).2 h)
   have hle:=loM_le n S f
   have hfr:∀ x∈S.take (loM n S f),nbl n x<nbl n f:=fun x hx=>by
    obtain ⟨i,hi,rfl⟩:=List.getElem_of_mem hx
    rw [List.length_take] at hi
    rw [List.getElem_take]
    exact (loM_iff f hS.2 i (by omega)).2 (by omega)
   have hbk:∀ x∈S.drop (loM n S f),nbl n f<nbl n x:=fun x hx=>by
    obtain ⟨i,hi,rfl⟩:=List.getElem_of_mem hx
    rw [List.length_drop] at hi
    rw [List.getElem_drop]
    have h1:¬ nbl n S[loM n S f+i]<nbl n f:=fun hh=>by
     have:=(loM_iff f hS.2 _ (by omega)).1 hh
     omega
    have h2:nbl n S[loM n S f+i]≠nbl n f:=fun hh=>hnm (by
     rw [← nbl_inj (hS.1 _ (List.getElem_mem (by omega))) hf hh]
     exact List.getElem_mem _)
    omega
   rw [List.pairwise_append,List.pairwise_cons]
   refine ⟨hS.2.sublist (List.take_sublist _ _),⟨hbk,hS.2.sublist (List.drop_sublist _ _)⟩,fun a ha b hb=>?_⟩
   have h1:=hfr a ha
   rcases List.mem_cons.1 hb with rfl | hb
   ·exact h1
   ·have:=hbk b hb; omega
theorem putM_len {n:Nat} {S:List (List Nat)} (f:List Nat):(putM n S f).length≤S.length+1:=by
 have hle:=loM_le n S f
 unfold putM
 split
 ·omega
 ·rw [List.length_append,List.length_cons,List.length_take,List.length_drop]; omega
def plM (n:Nat) (S:List (List Nat)) (f:List Nat):Int:=if loM n S f<S.length∧S.getD (loM n S f) []=f then loM n S f else -1
def rowM (n:Nat) (S:List (List Nat)) (f:List Nat):List Int:=S.map fun g=>plM n S (mul f g)
def tabM (n:Nat) (S:List (List Nat)):List (List Int):=S.map fun f=>rowM n S f
theorem p168o (n:Nat) (S:List (List Nat)) (hS:SrM n S) (hl:S.length≤1000):ACall Tryz.prog 168 [.list (aggs (S.map mp))] [] fun v s=>TabN 25 2 s v (tabM n S)∧Free s:=by
 refine e168 (by simp) fun _ _=>?_
 simp only [k168,argEnv,go_sem]
 have hS6:∀ i,i<S.length→(S.map mp).getD i []=mp (S.getD i [])∧Ok (S.getD i []) n:=fun i h=>by
  have e:S.getD i []=S[i]:=by simp [List.getD_eq_getElem?_getD,h]
  rw [e]
  exact ⟨by simp [List.getD_eq_getElem?_getD,h],hS.1 _ (List.getElem_mem h)⟩
 refine KL_ind k168_b1.eq_1 (fun y:Nat × PV × Heap=>[(0,.list (aggs (S.map mp))),(3,y.2.1),(4,.int .i64 y.1)]) (fun y=>y.2.2) (fun y=>y.1≤S.length∧TabN 25 2 y.2.2 y.2.1 ((tabM n S).take y.1)∧Free y.2.2) (fun y=>S.length - y.1) [0,3,4] (0,.ref 0 0 0 0,[.arr 0 25 1 []]) (by simp [keep]) rfl ⟨Nat.zero_le _,by rw [List.take_zero]; exact TabN.empty,Free.empty _ _ _⟩ fun ⟨x,v,σ⟩ ⟨hx,hT,hF⟩ ih=>?_
 simp only at hx hT hF
 try simp only [OpK_eq,HKv,aggs_length,List.length_map,go_sem]
 refine ⟨fun g1=>?_,fun g1=>?_⟩
 ·have hxl:x<S.length:=by omega
  obtain ⟨e1,o1⟩:=hS6 x hxl
  have h61:=o1.mp_len
  have hrl:(rowM n S (S.getD x [])).length=S.length:=List.length_map _
  have hself:∀ a:AObj,(σ ++ [a])[σ.length]? = some a:=fun a=>by simp
  have hset:∀ a b:AObj,(σ ++ [a]).set σ.length b = σ ++ [b]:=fun a b=>by simp [List.set_append_right]
  refine KL_ind k168_b0.eq_1 (fun y:Nat=>[(0,.list (aggs (S.map mp))),(3,v),(4,.int .i64 x),(5,.ref σ.length y 0 y),(6,.int .i64 y)]) (fun y=>σ ++ [.arr y 2 1 (ints ((rowM n S (S.getD x [])).take y))]) (fun y=>y≤S.length) (fun y=>S.length - y) [0,3,4,5,6] 0 (by simp [keep]) rfl (Nat.zero_le _) fun y hy ihy=>?_
  have htl:((rowM n S (S.getD x [])).take y).length=y:=by rw [List.length_take]; omega
  try simp only [OpK_eq,HKv,aggs_length,List.length_map,e1,h61,go_sem]
  refine ⟨fun g2=>?_,fun g2=>?_⟩
  ·have hyl:y<S.length:=by omega
   obtain ⟨e2,o2⟩:=hS6 y hyl
   have h62:=o2.mp_len
   try simp only [OpK_eq,HKv,aggs_length,List.length_map,e1,h61,e2,h62,hself,hset,go_sem]
   refine ⟨by omega,fun _=>⟨by omega,fun _=>?_⟩⟩
   refine (p137 _ _ n o1 o2).pgo ?_
   have hFd:=p183 n S hS (by omega) (mul (S.getD x []) (S.getD y [])) (o1.mul o2)
   have hpl:(if loM n S (mul (S.getD x []) (S.getD y []))<S.length∧S.getD (loM n S (mul (S.getD x []) (S.getD y []))) []=mul (S.getD x []) (S.getD y []) then (loM n S (mul (S.getD x []) (S.getD y [])):Int) else -1)=plM n S (mul (S.getD x []) (S.getD y [])):=rfl
   rw [hpl] at hFd
   try simp only [OpK_eq,HKv,go_sem]
   refine hFd.pgo ?_
   have hts:(rowM n S (S.getD x [])).take (y+1)=(rowM n S (S.getD x [])).take y ++ [plM n S (mul (S.getD x []) (S.getD y []))]:=by
    have hyr:y<(rowM n S (S.getD x [])).length:=by omega
    rw [List.take_succ_eq_append_getElem hyr]
    have:(rowM n S (S.getD x []))[y]=plM n S (mul (S.getD x []) S[y]):=by simp [rowM]
    rw [this]
    simp [List.getD_eq_getElem?_getD,hyl]
   have ht2:List.take y ((rowM n S (S.getD x [])).take y)=(rowM n S (S.getD x [])).take y:=List.take_of_length_le (by omega)
   try simp only [OpK_eq,HKv,hself,hset,htl,ht2,go_sem]
   refine ⟨⟨by omega,by omega⟩,by omega,ihy (y+1) (by omega) (by omega) _ _ (by simp [keep]) ?_⟩
   rw [hts]
  ·obtain rfl:y=S.length:=by omega
   have htx:(tabM n S).take (x+1)=(tabM n S).take x ++ [rowM n S (S.getD x [])]:=by
    have hxt:x<(tabM n S).length:=by rw [tabM,List.length_map]; exact hxl
    rw [List.take_succ_eq_append_getElem hxt]
    have:(tabM n S)[x]=rowM n S S[x]:=by simp [tabM]
    rw [this]
    simp [List.getD_eq_getElem?_getD,hxl]
   rw [List.take_of_length_le (by omega:(rowM n S (S.getD x [])).length≤S.length)]
   refine hT.pushRow hF (rowM n S (S.getD x [])) (by omega) (by rw [List.length_take]; omega) fun v' σ' q1 q2=>?_
   try simp only [OpK_eq,HKv,go_sem]
   exact ⟨by omega,ih (x+1,v',σ') ⟨by show x+1≤S.length; omega,by show TabN _ _ σ' v' ((tabM n S).take (x+1)); rw [htx]; exact q1,q2⟩ (by show S.length - (x+1)<S.length - x; omega) _ _ (by simp [keep]) rfl⟩
 ·obtain rfl:x=S.length:=by omega
  rw [List.take_of_length_le (by rw [tabM,List.length_map]; exact Nat.le_refl _)] at hT
  try simp only [OpK_eq,HKv,go_sem]
  exact Kv.Fin.now ⟨hT,hF⟩
theorem p168 (n:Nat) (S:List (List Nat)) (hS:SrM n S) (hl:S.length≤1000):Pure Tryz.prog 168 [.list (aggs (S.map mp))] (.list (rows (tabM n S))) :=
 (p168o n S hS hl).ret fun v s ⟨hT,_⟩=>Kv.Fin.freeze hT.imm ⟨rfl,rfl⟩
end
end
section
section
attribute [local irreducible] ACall PCall KL
structure WG (σ:Heap) (A:Nat→Prop) (q ver:Nat) (ws:List PV) (L:List (List Int)):Prop where
 out:σ[q]? = some (.arr ver 25 1 ws)
 len:ws.length=L.length
 row:∀ (i:Nat) (w:PV) (l:List Int),ws[i]? = some w→L[i]? = some l→Wd σ (fun id=>A id∨id=q) w l
theorem WG.cell {σ:Heap} {A:Nat→Prop} {q ver:Nat} {ws:List PV} {L:List (List Int)} (h:WG σ A q ver ws L) {i:Nat} (hi:i<L.length):∃ w,ws[i]? = some w∧Wd σ (fun id=>A id∨id=q) w L[i]:=by
 have hw:i<ws.length:=by rw [h.len]; exact hi
 exact ⟨ws[i],by simp [hw],h.row i _ _ (by simp [hw]) (by simp [hi])⟩
theorem WG.keep {σ σ':Heap} {A:Nat→Prop} {q ver:Nat} {ws:List PV} {L:List (List Int)} (h:WG σ A q ver ws L) (hk:∀ id,id < σ.length→¬ A id→σ'[id]? = σ[id]?) (hq:¬ A q):WG σ' A q ver ws L where
 out:=(hk q (List.getElem?_eq_some_iff.1 h.out).1 hq).trans h.out
 len:=h.len
 row:=fun i w m hw hm=>(h.row i w m hw hm).keep fun id hid hA=>⟨hk id hid (fun h=>hA (.inl h)),hA⟩
theorem WG.push {σ:Heap} {A:Nat→Prop} {q ver:Nat} {ws:List PV} {L:List (List Int)} (h:WG σ A q ver ws L) {l:List Int} {w:PV} (hw:Wd σ (fun id=>A id∨id=q) w l) (hl:L.length≤1000) {K:PV→Heap→Prop}
  (hK:WG (σ.set q (.arr (ver+1) 25 1 (ws ++ [w]))) A q (ver+1) (ws ++ [w]) (L ++ [l])→K (.ref q (ver+1) 0 (L.length+1)) (σ.set q (.arr (ver+1) 25 1 (ws ++ [w])))) :
  aApp 25 1 (.ref q ver 0 L.length) (.list [w]) σ K:=by
 have hlt:=(List.getElem?_eq_some_iff.1 h.out).1
 have hzl:=h.len
 have hok:okL 1 [w]=True:=by
  rcases hw with ⟨rfl,rfl⟩ | ⟨id,ver,rfl,_,_⟩ <;> simp [okL,PV.cs,PV.ok]
 have hset:∀ id,id < σ.length→¬ (A id∨id=q)→(σ.set q (.arr (ver+1) 25 1 (ws ++ [w])))[id]? = σ[id]?∧¬ (A id∨id=q):=fun id _ hA=>by
  refine ⟨List.getElem?_set_ne ?_,hA⟩
  rintro rfl; exact hA (.inr rfl)
 have hQ:WG (σ.set q (.arr (ver+1) 25 1 (ws ++ [w]))) A q (ver+1) (ws ++ [w]) (L ++ [l]):=by
  refine ⟨List.getElem?_set_self hlt,by simp [h.len],fun i w' m hw' hm=>?_⟩
  rw [List.getElem?_append] at hw' hm
  split at hw'
  ·rename_i hi
   rw [if_pos (by rw [← h.len]; exact hi)] at hm
   exact (h.row i w' m hw' hm).keep hset
  ·rename_i hi
   rw [if_neg (by rw [← h.len]; exact hi)] at hm
   have e1:=List.mem_of_getElem? hw'
   have e2:=List.mem_of_getElem? hm
   simp only [List.mem_singleton] at e1 e2
   subst e1; subst e2
   exact hw.keep hset
 simp only [aApp_ref,h.out,AppR_arr,aNews_list,hok,true_and,AppM_def]
 rw [List.take_of_length_le (by omega)]
 exact ⟨⟨by omega,by simp; omega⟩,hK hQ⟩
end
end
end Go.Proofs.YtcfmmmloeaggmaaGreat
section
namespace Go.Kv
set_option linter.unusedVariables false
def Gv (σ:Heap) (id:Nat) (c d:PV):Prop:=Imm (solo σ id) c d∨(c=d∧∃ j ver off len,j≠id∧c = .ref j ver off len)
theorem give_trN (n:Nat) {φ:Frz} {ι:List KLoc} {σ:Heap} {w:World} (ho:HOK φ ι σ w) {id ver esz:Nat} {e:TypeId} {xs:List PV} (hid:σ[id]? = some (.arr ver e esz xs)) :
  ∃ φ1 ι1,HOK φ1 ι1 (σ.set id .dead) w∧Tr n φ ι w φ1 ι1 w∧∀ c d v,Gv σ id c d→Rel φ ι c v→Rel φ1 ι1 d v:=by
 have hlt:=(List.getElem?_eq_some_iff.1 hid).1
 have hltι:id < ι.length:=by rw [ho.len]; exact hlt
 have hl:ι[id]? = some ι[id]:=List.getElem?_eq_getElem hltι
 have hobj:=ho.obj id _ _ hid hl
 obtain ⟨k,e',s,u,hu⟩:∃ k e' s u,ι[id]=KLoc.arr k e' s u:=by
  cases hx:ι[id] with
  | dead=>rw [hx] at hobj; exact hobj.elim
  | box b=>rw [hx] at hobj; exact hobj.elim
  | arr k e' s u=>exact ⟨k,e',s,u,rfl⟩
 rw [hu] at hl
 obtain ⟨ho1,hLe⟩:=ho.upd (w':=w) (l':=.arr (k+1) e' s (.slice none 0 0)) (o:=.dead) hl (by simp [KLoc.le]) (Nat.le_refl _) (fun _ _ _=>rfl) (fun b hb=>by simp [KLoc.block,Value.ownBlock] at hb) (fun b hb=>by simp [KLoc.block,Value.ownBlock] at hb) trivial
 let φ1:Frz:=fun b=>if u.ownBlock=some b then allFrz w b else φ b
 have hle:FLe φ φ1:=fun b C hb=>by
  show (if u.ownBlock=some b then allFrz w b else φ b)=some C
  split
  ·rename_i hb2
   have:=ho.nf id _ b hl hb2
   rw [this] at hb; cases hb
  ·exact hb
 have hin:∀ (j:Nat) (x:KLoc) (b:Nat),(ι.set id (.arr (k+1) e' s (.slice none 0 0)))[j]? = some x→x.block=some b→id≠j∧ι[j]? = some x:=fun j x b hx hb=>by
  by_cases ej:id=j
  ·subst ej; rw [List.getElem?_set_self hltι] at hx; cases hx
   simp [KLoc.block,Value.ownBlock] at hb
  ·rw [List.getElem?_set_ne ej] at hx; exact ⟨ej,hx⟩
 have ho2:HOK φ1 (ι.set id (.arr (k+1) e' s (.slice none 0 0))) (σ.set id .dead) w:=by
  refine ⟨ho1.len,fun b C hb=>?_,fun j x b hx hb=>?_,ho1.dis,ho1.lt,fun j o x h1 h2=>(ho1.obj j o x h1 h2).keep hle (.refl _) (fun _ _=>rfl)⟩
  ·replace hb:(if u.ownBlock=some b then allFrz w b else φ b)=some C:=hb
   split at hb
   ·exact (allFrz_hok w).fz b C hb
   ·exact ho.fz b C hb
  ·obtain ⟨hj,hx'⟩:=hin j x b hx hb
   show (if u.ownBlock=some b then allFrz w b else φ b)=none
   rw [if_neg fun hb2:u.ownBlock=some b=>hj (ho.dis id j _ x b hl hx' hb2 hb)]
   exact ho.nf j x b hx' hb
 have ht0:Tr n φ ι w φ1 (ι.set id (.arr (k+1) e' s (.slice none 0 0))) w:=⟨hle,hLe.of_take _,fun _ _ _=>rfl,Nat.le_refl _,fun b ⟨j,x,hx,hb⟩=>.inl ⟨j,x,(hin j x b hx hb).2,hb⟩,rfl,rfl,rfl,fun b C hb=>by
  replace hb:(if u.ownBlock=some b then allFrz w b else φ b)=some C:=hb
  split at hb
  ·rename_i hb2; exact .inr (.inl ⟨id,_,hl,hb2⟩)
  ·exact .inl hb⟩
 refine ⟨φ1,_,ho2,ht0,fun c d v hg hr=>?_⟩
 rcases hg with hi | ⟨rfl,j,vj,off,len,hj,rfl⟩
 ·have:=hi.rel (ho.solo id) hle (fun j o l' b C e f h1 h2 h3 h4 h5=>?_) hr
  ·exact this.mono (.refl _) (by simpa using LLe.append [] (ι.set id (KLoc.arr (k+1) e' s (.slice none 0 0))))
  ·by_cases ej:id=j
   ·subst ej; rw [hl] at h3; cases h3
    show (if u.ownBlock=some b then allFrz w b else φ b)=some C
    rw [if_pos (show u.ownBlock=some b from h4)]; exact allFrz_own h5
   ·exact absurd (solo_ne ej h1) h2
 ·cases hr with
  | ref _ _ _ _ _ k e esz u hh ho' hk' hv' =>
   exact .ref j vj off len v k e esz u (by rw [List.getElem?_set_ne (Ne.symm hj)]; exact hh) ho' hk' hv'
theorem KL_freezeAt {C:Cfg} {b:KC} {Q:Exit→Env→Heap→Prop} {env env0 env':Env} {σ:Heap} (live:List Nat) (hn:C.n0=0) (hE:keep live env=env0) {id ver esz:Nat} {e:TypeId} {xs:List PV} (hid:σ[id]? = some (.arr ver e esz xs))
  (he:∀ t,Gv σ id (Kv.look env0 t) (Kv.look env' t)) (h:KL C b Q env' (σ.set id .dead)):KL C b Q env σ:=by
 refine KL_keep live ?_
 rw [hE]
 intro c hc φ ι a w h1 h2
 obtain ⟨φ1,ι1,hok,htr,hrel⟩:=give_trN 0 h1 hid
 have:=h c hc φ1 ι1 a w hok ⟨⟨h2.1.sz,h2.1.df,fun t=>hrel _ _ _ (he t) (h2.1.rel t)⟩,by simp [hn]⟩
 refine this.mono fun e a' w' ⟨φ',ι',env',σ',g1,g2,g3,g4⟩=>⟨φ',ι',env',σ',?_,g2,g3,g4⟩
 rw [hn] at g1 ⊢
 exact htr.trans g1
theorem Fin.giveAt {n0:Nat} {K:PV→Heap→Prop} {v v':PV} {σ:Heap} {id ver esz:Nat} {e:TypeId} {xs:List PV} (hid:σ[id]? = some (.arr ver e esz xs)) (hg:Gv σ id v v') (h:K v' (σ.set id .dead)):Fin n0 K v σ :=
 ⟨v',σ.set id .dead,fun φ ι w x _ ho hr=>by
  obtain ⟨φ1,ι1,h1,h2,h3⟩:=give_trN n0 ho hid
  exact ⟨φ1,ι1,h2,h1,h3 _ _ _ hg hr⟩,h⟩
end Go.Kv
end
namespace Go.Proofs.YtcfmmmloeaggmaaGreat
open Go.Kv
set_option linter.unusedVariables false
set_option linter.unusedSimpArgs false
section
section
set_option maxRecDepth 100000
def k133_b0:KC:=(.seq (.seq (.ops [mV 27 11,mV 28 0,oP 29 (.len false (.t 28)),oP 30 (.bin .lss (.t 27) (.t 29))])
 (.cond (.t 30) .skip (.exit 2)))
 (.seq (.block 3 (.seq (.draw [mV 33 7,mV 34 10,oP 35 (.idxS 6 (.t 33) (.t 34)),oP 36 (.load true 6 (.t 35)),mV 37 0,mV 38 11,oP 39 (.idxS 6 (.t 37) (.t 38)),oP 40 (.load true 6 (.t 39)),oP 41 (.pcall (fC 137) [(.t 36),(.t 40)]),oP 12 (.alloc [.int .i64 0,.int .i64 0,.int .i64 0,.int .i64 0,.int .i64 0,.int .i64 0]),⟨none,none,.store 6 (.t 12) (.t 41)⟩])
 (.seq (.seq (.ops [mV 42 9,oP 43 (.load true 6 (.t 12)),oP 44 (.call (fC 183) [(.t 42),(.t 43)]),oP 45 (.bin .geq (.t 44) (iC 0))])
 (.cond (.t 45) (.exit 3) .skip))
 (.seq (.seq (.ops [mV 46 7,oP 47 (.len false (.t 46)),oP 48 (.bin .eql (.t 47) (iC 300))])
 (.cond (.t 48) (.seq (.ops [oP 4 (.mv (.c (.nils))),oP 5 (.mv (.c (.nils))),oP 6 (.mv (.c (.bool false)))])
 .ret) .skip))
 (.seq (.ops [mV 49 7,oP 50 (.load true 6 (.t 12)),oP 51 (.bsl true 48 6 [(.t 50)]),oP 52 (.app (.t 49) (.t 51) 48 6),mV 7 52])
 (.seq (.ops [mV 53 8,mV 54 8,mV 55 10,oP 56 (.idxS 1 (.t 54) (.t 55)),oP 57 (.load false 1 (.t 56)),oP 58 (.call (fC 117) [(.t 57)]),mV 59 11,oP 60 (.bsl true 2 1 [(.t 59)]),oP 61 (.app (.t 58) (.t 60) 2 1),oP 62 (.bsl true 25 1 [(.t 61)]),oP 63 (.app (.t 53) (.t 62) 25 1),mV 8 63])
 (.ops [mV 64 9,oP 65 (.load true 6 (.t 12)),oP 66 (.call (fC 134) [(.t 64),(.t 65)]),mV 9 66])))))))
 (.ops [mV 31 11,oP 32 (.bin .add (.t 31) (iC 1)),mV 11 32])))
def k133_b1:KC:=(.seq (.seq (.ops [mV 21 10,mV 22 7,oP 23 (.len false (.t 22)),oP 24 (.bin .lss (.t 21) (.t 23))])
 (.cond (.t 24) .skip (.exit 0)))
 (.seq (.block 1 (.seq (.ops [oP 11 (.mv (iC 0))])
 (.block 2 (.loop k133_b0))))
 (.ops [mV 25 10,oP 26 (.bin .add (.t 25) (iC 1)),mV 10 26])))
def k133:KC:=(.seq (.ops [oP 4 (.mv (.c (.nils))),oP 5 (.mv (.c (.nils))),oP 6 (.mv (.c (.bool false)))])
 (.seq (.ops [mV 13 1,oP 14 (.call (fC 136) [(.t 13)]),oP 15 (.bsl false 48 6 [(.t 14)]),oP 16 (.bsl false 2 1 []),oP 17 (.bsl false 25 1 [(.t 16)]),mV 7 15,mV 8 17])
 (.seq (.ops [mV 18 1,oP 19 (.call (fC 136) [(.t 18)]),oP 20 (.bsl false 48 6 [(.t 19)]),mV 9 20])
 (.seq (.seq (.ops [oP 10 (.mv (iC 0))])
 (.block 0 (.loop k133_b1)))
 (.seq (.ops [mV 67 7,mV 68 8,mV 4 67,mV 5 68,oP 6 (.mv (.c (.bool true)))])
 .ret)))))
theorem e133:Ent 133 69 [51,60,62] [.t 4,.t 5,.t 6] k133:=ent Tryz.func133
end
section
attribute [local irreducible] ACall PCall KL
def clA (fs:List (List Nat)) (m:List Nat) (Q:List (List Nat)):Nat→Option (List (List Nat))
 | 0=>some Q
 | k+1=>match clA fs m Q k with
  | none=>none
  | some R=>if mul m (fs.getD k [])∈R then some R else if R.length=300 then none else some (R ++ [mul m (fs.getD k [])])
def clB (fs:List (List Nat)) (n:Nat):Nat→Option (List (List Nat))
 | 0=>some [List.range n]
 | i+1=>match clB fs n i with
  | none=>none
  | some Q=>match Q[i]? with
   | some m=>clA fs m Q fs.length
   | none=>some Q
theorem range_ok {n:Nat} (h1:1≤n) (h5:n≤5):Ok (List.range n) n:=by
 refine ⟨?_,?_,?_,?_⟩ <;> first | exact h1 | exact h5 | simp
theorem clA_pre {fs:List (List Nat)} {m:List Nat} {Q:List (List Nat)}:∀ k R,clA fs m Q k=some R→∃ r,R=Q ++ r
 | 0,R,h=>by
  have:Q=R:=by simpa [clA] using h
  exact ⟨[],by simp [this]⟩
 | k+1,R,h=>by
  unfold clA at h
  cases hc:clA fs m Q k with
  | none=>rw [hc] at h; cases h
  | some R' =>
   obtain ⟨r,hr⟩:=clA_pre k R' hc
   rw [hc] at h
   simp only at h
   split at h
   ·cases h; exact ⟨r,hr⟩
   ·split at h
    ·cases h
    ·cases h; exact ⟨r ++ [mul m (fs.getD k [])],by rw [hr,List.append_assoc]⟩
theorem clA_none {fs:List (List Nat)} {m:List Nat} {Q:List (List Nat)} {k:Nat} (h:clA fs m Q k=none):∀ d,clA fs m Q (k+d)=none
 | 0=>h
 | d+1=>by
  show clA fs m Q (k+d+1)=none
  unfold clA
  rw [clA_none h d]
theorem WG.immN {σ:Heap} {A:Nat→Prop} {q ver k:Nat} {ws:List PV} {L:List (List Int)} (h:WG σ A q ver ws L) (hk:k=L.length):Imm σ (.ref q ver 0 k) (.list (rows L)):=by
 subst hk
 refine .ref q ver 0 L.length _ 1 ws (rows L) h.out (by rw [h.len]; simp) (rows_length L) (fun i x d hx hd=>?_) (fun i x d j c c' hx hd hc hc'=>?_)
 all_goals
  rw [Nat.zero_add] at hx
  have hi:i<L.length:=by have:=(List.getElem?_eq_some_iff.1 hd).1; rwa [rows_length] at this
  obtain ⟨w,hw,hW⟩:=h.cell hi
  obtain ⟨y,hy,rfl⟩:=rows_get hd
  rw [List.getElem?_eq_getElem hi] at hy; cases hy
  rw [hw] at hx; cases hx
 ·have:=hW.cs
  refine ⟨by rw [this.1]; rfl,rfl⟩
 ·have h1:=List.mem_of_getElem? hc
  have h2:=List.mem_of_getElem? hc'
  rw [hW.cs.1] at h1
  simp only [PV.cs,List.mem_singleton] at h1 h2
  subst h1; subst h2
  exact hW.imm
set_option maxHeartbeats 4000000 in
theorem p133 (fs:List (List Nat)) (n:Nat) (h1:1≤n) (h5:n≤5) (hf:∀ f∈fs,Ok f n) (hfl:fs.length≤1000) {K:PV→Heap→Prop}
  (hK1:∀ i Q W,clB fs n i=some Q→i=Q.length→(∀ f∈Q,Ok f n)→Q.length≤300→K (.tup [.list (aggs (Q.map mp)),.list (rows W),.bool true]) [])
  (hK2:∀ i,i≤301→clB fs n i=none→K (.tup [.nils,.nils,.bool false]) []):ACall Tryz.prog 133 [.list (aggs (fs.map mp)),.int .i64 n] [] K:=by
 have h0k:=range_ok h1 h5
 have h06:=h0k.mp_len
 refine e133 (by simp) fun _ _=>?_
 simp only [k133,argEnv,go_sem]
 refine (p136 n h1 h5).go ?_
 try simp only [OpK_eq,HKv,h06,go_sem]
 refine (p136 n h1 h5).go ?_
 try simp only [OpK_eq,HKv,h06,go_sem]
 refine KL_freezeAt (id:=3) [0,7,8,9,10] rfl (env0:=[(0,.list (aggs (fs.map mp))),(7,.ref 0 0 0 1),(8,.ref 2 0 0 1),(9,.ref 3 0 0 1),(10,.int .i64 0)]) (env':=[(0,.list (aggs (fs.map mp))),(7,.ref 0 0 0 1),(8,.ref 2 0 0 1),(9,.list (aggs ([List.range n].map mp))),(10,.int .i64 0)]) (by simp [keep]) (by rfl) (fun t=>?_) ?_
 ·simp only [look_cons,look_nil]
  repeat' split
  ·exact .inl Imm.still
  ·exact .inr ⟨rfl,0,0,0,1,by decide,rfl⟩
  ·exact .inr ⟨rfl,2,0,0,1,by decide,rfl⟩
  ·exact .inl (Imm.refa (l:=[mp (List.range n)]) (solo_get rfl))
  ·exact .inl Imm.still
  ·exact .inl (.refl _ Plain.undef.up)
 refine KL_ind k133_b1.eq_1 (fun y:Nat × Nat × Nat × List PV × List (List Int) × List (List Nat) × List (List Nat) × Heap=>[(0,.list (aggs (fs.map mp))),(7,.ref 0 y.2.1 0 y.2.2.2.2.2.2.1.length),(8,.ref 2 y.2.2.1 0 y.2.2.2.2.2.2.1.length),(9,.list (aggs (y.2.2.2.2.2.1.map mp))),(10,.int .i64 y.1)]) (fun y=>y.2.2.2.2.2.2.2)
  (fun ⟨i,v0,v2,ws,W,S,Q,σ⟩=>i≤Q.length∧clB fs n i=some Q∧(∀ f∈Q,Ok f n)∧Q.length≤300∧SrM n S∧(∀ f,f∈S↔f∈Q)∧S.length≤Q.length∧σ[0]? = some (.arr v0 48 6 (aggs (Q.map mp)))∧WG σ (fun id=>id=0) 2 v2 ws W∧W.length=Q.length∧(∀ w∈W,w.length+1≤W.length)) (fun y=>301 - y.1) [0,7,8,9,10]
  (0,0,0,[.ref 1 0 0 0],[[]],[List.range n],[List.range n],_) (by simp [keep]) rfl ?_ fun ⟨i,v0,v2,ws,W,S,Q,σ⟩ ⟨j1,j2,j3,j4,j5,j6,j7,j8,j9,j10,j11⟩ ih=>?_
 ·refine ⟨Nat.zero_le _,rfl,fun f hf'=>?_,by simp,⟨fun f hf'=>?_,by simp⟩,fun f=>Iff.rfl,Nat.le_refl _,rfl,⟨rfl,rfl,fun j w l hw hl=>?_⟩,rfl,fun w hw=>?_⟩
  ·simp only [List.mem_singleton] at hf'; rw [hf']; exact h0k
  ·simp only [List.mem_singleton] at hf'; rw [hf']; exact h0k
  ·have e1:=List.mem_of_getElem? hw
   have e2:=List.mem_of_getElem? hl
   simp only [List.mem_singleton] at e1 e2
   subst e1; subst e2
   exact .inr ⟨1,0,rfl,rfl,by decide⟩
  ·simp only [List.mem_singleton] at hw; subst hw; simp
 try simp only at j1 j2 j3 j4 j5 j6 j7 j8 j9 j10 j11
 try simp only [OpK_eq,HKv,j8,aggs_length,List.length_map,go_sem]
 refine ⟨fun g1=>?_,fun g1=>?_⟩
 ·have hil:i<Q.length:=by omega
  have hm?:Q[i]? = some Q[i]:=List.getElem?_eq_getElem hil
  have hBs:clB fs n (i+1)=clA fs Q[i] Q fs.length:=by
   rw [clB,j2]
   simp only
   rw [hm?]
  have hmO:=j3 _ (List.getElem_mem hil)
  generalize hm:Q[i]=m at *
  refine KL_ind k133_b0.eq_1 (fun y:Nat × Nat × Nat × List PV × List (List Int) × List (List Nat) × List (List Nat) × Heap=>[(0,.list (aggs (fs.map mp))),(7,.ref 0 y.2.1 0 y.2.2.2.2.2.2.1.length),(8,.ref 2 y.2.2.1 0 y.2.2.2.2.2.2.1.length),(9,.list (aggs (y.2.2.2.2.2.1.map mp))),(10,.int .i64 i),(11,.int .i64 y.1)]) (fun y=>y.2.2.2.2.2.2.2)
   (fun ⟨k,v0,v2,ws,W,S,R,τ⟩=>k≤fs.length∧clA fs m Q k=some R∧(∀ f∈R,Ok f n)∧R.length≤300∧SrM n S∧(∀ f,f∈S↔f∈R)∧S.length≤R.length∧τ[0]? = some (.arr v0 48 6 (aggs (R.map mp)))∧WG τ (fun id=>id=0) 2 v2 ws W∧W.length=R.length∧(∀ w∈W,w.length+1≤W.length)) (fun y=>fs.length - y.1) [0,7,8,9,10,11]
   (0,v0,v2,ws,W,S,Q,σ) (by simp [keep]) rfl ⟨Nat.zero_le _,rfl,j3,j4,j5,j6,j7,j8,j9,j10,j11⟩ fun ⟨k,u0,u2,ws2,W2,S2,R,τ⟩ ⟨l1,l2,l3,l4,l5,l6,l7,l8,l9,l10,l11⟩ ihk=>?_
  obtain ⟨r,hr⟩:=clA_pre k R l2
  have hiR:i<R.length:=by rw [hr,List.length_append]; omega
  have hRi:(R.map mp).getD i []=mp m:=by
   rw [List.getD_eq_getElem?_getD,List.getElem?_map,hr,List.getElem?_append_left hil,hm?]; rfl
  have h6m:=hmO.mp_len
  try simp only [OpK_eq,HKv,l8,aggs_length,List.length_map,go_sem]
  refine ⟨fun g2=>?_,fun g2=>?_⟩
  ·have hkl:k<fs.length:=by omega
   have hfk:=hf _ (List.getElem_mem hkl)
   have h6k:=hfk.mp_len
   have hgk:(fs.map mp).getD k []=mp fs[k]:=by simp [List.getD_eq_getElem?_getD,hkl]
   have hgf:fs.getD k []=fs[k]:=by simp [List.getD_eq_getElem?_getD,hkl]
   try simp only [OpK_eq,HKv,l8,aggs_length,List.length_map,hRi,h6m,hgk,h6k,go_sem]
   refine ⟨⟨by omega,by omega⟩,by omega,fun _=>⟨by omega,fun _=>?_⟩⟩
   refine (p137 m fs[k] n hmO hfk).pgo ?_
   have hgO:=hmO.mul hfk
   have hAs:clA fs m Q (k+1)=if mul m fs[k]∈R then some R else if R.length=300 then none else some (R ++ [mul m fs[k]]):=by
    rw [clA,l2]
    simp only
    rw [hgf]
   generalize hg':mul m fs[k]=g at *
   have h6g:=hgO.mp_len
   have hgb:∀ (s:Heap) (a:AObj),(s ++ [a])[s.length]? = some a:=fun s a=>by simp
   have hsb:∀ (s:Heap) (a b:AObj),(s ++ [a]).set s.length b=s ++ [b]:=fun s a b=>by simp [List.set_append_right]
   have hilg:(ints (mp g)).length=6:=by rw [ints_length,h6g]
   try simp only [OpK_eq,HKv,hgb,hsb,hilg,h6g,go_sem]
   have hFd:=p183 n S2 l5 (by omega) g hgO
   have hlom:=lo_mem l5 hgO
   by_cases hin:g∈R
   ·rw [if_pos hin] at hAs
    rw [if_pos (hlom.2 ((l6 g).2 hin))] at hFd
    refine hFd.go ?_
    try simp only [OpK_eq,HKv,go_sem]
    refine ⟨by omega,ihk (k+1,u0,u2,ws2,W2,S2,R,_) ⟨by omega,hAs,l3,l4,l5,l6,l7,(List.getElem?_append_left (List.getElem?_eq_some_iff.1 l8).1).trans l8,l9.keep (fun id hid _=>List.getElem?_append_left hid) (by decide),l10,l11⟩ (by show fs.length - (k+1)<fs.length - k; omega) _ _ (by simp [keep]) rfl⟩
   ·rw [if_neg hin] at hAs
    rw [if_neg (fun h=>hin ((l6 g).1 (hlom.1 h)))] at hFd
    refine hFd.go ?_
    have h0':∀ X,(τ ++ X)[0]? = some (.arr u0 48 6 (aggs (R.map mp))):=fun X=>(List.getElem?_append_left (List.getElem?_eq_some_iff.1 l8).1).trans l8
    have hok:=ok6' h6g
    have t6:List.take 6 (mp g)=mp g:=take6 h6g
    have tR:List.take R.length (R.map mp)=R.map mp:=List.take_of_length_le (by rw [List.length_map]; exact Nat.le_refl _)
    have tRg:R.map mp ++ [mp g]=(R ++ [g]).map mp:=by simp
    try simp only [OpK_eq,HKv,h0',aggs_length,List.length_map,t6,tR,tRg,go_sem]
    refine ⟨fun h300=>Kv.Fin.still (hK2 (i+1) (by omega) ?_),fun h300=>⟨by omega,h6g,h6g,⟨by omega,by omega⟩,?_⟩⟩
    ·rw [hBs]
     have hN:clA fs m Q (k+1)=none:=by rw [hAs,if_pos (by omega)]
     have:=clA_none hN (fs.length - (k+1))
     rwa [show k+1+(fs.length - (k+1))=fs.length by omega] at this
    ·rw [if_neg (by omega)] at hAs
     have hτ0:=(List.getElem?_eq_some_iff.1 l8).1
     have r0:((τ ++ [AObj.box (ints (mp g))]).set 0 (.arr (u0+1) 48 6 (aggs ((R ++ [g]).map mp))))[0]? = some (.arr (u0+1) 48 6 (aggs ((R ++ [g]).map mp))):=List.getElem?_set_self (by simp)
     have rb:((τ ++ [AObj.box (ints (mp g))]).set 0 (.arr (u0+1) 48 6 (aggs ((R ++ [g]).map mp))))[τ.length]? = some (.box (ints (mp g))):=by
      rw [List.getElem?_set_ne (by omega)]; simp
     have hW:WG ((τ ++ [AObj.box (ints (mp g))]).set 0 (.arr (u0+1) 48 6 (aggs ((R ++ [g]).map mp)))) (fun id=>id=0) 2 u2 ws2 W2:=l9.keep (fun id hid hA=>by
      rw [List.getElem?_set_ne (fun e=>hA e.symm),List.getElem?_append_left hid]) (by decide)
     generalize (τ ++ [AObj.box (ints (mp g))]).set 0 (.arr (u0+1) 48 6 (aggs ((R ++ [g]).map mp))) = ρ at *
     obtain ⟨w,hw,hWd⟩:=hW.cell (i:=i) (by omega)
     have hWo:=hW.out
     have hwl:=hW.len
     have hwcs:=hWd.cs
     try simp only [OpK_eq,HKv,hWo,go_sem]
     refine ⟨⟨by omega,by omega⟩,by omega,fun q hq=>?_⟩
     rw [hw] at hq; cases hq
     rw [hwcs.1]
     refine ⟨by simp,fun q hq=>?_⟩
     simp only [List.getElem?_cons_zero,Option.some.injEq] at hq; subst hq
     have hWi:W2[i].length+1≤W2.length:=l11 _ (List.getElem_mem _)
     generalize W2[i]'(by omega)=wi at hWd hWi
     try simp only [OpK_eq,HKv,go_sem]
     refine ACall.lend (p117 wi (by omega)) (.cons hWd.imm (.nil _)) fun v s hv=>?_
     obtain ⟨rfl,rfl⟩:=hv
     refine ⟨⟨free_ref _ _ _ _,Free.ints _ _ _ _⟩,?_⟩
     try simp only [OpK_eq,HKv,ren_ref,ren_arr,ren_ints,Nat.zero_add,hgb,hsb,go_sem]
     have hW3:WG (ρ ++ [AObj.arr 2 2 1 (ints (wi ++ [(k:Int)]))]) (fun id=>id=0) 2 u2 ws2 W2:=hW.keep (fun id hid _=>List.getElem?_append_left hid) (by decide)
     have hρ2:=(List.getElem?_eq_some_iff.1 hWo).1
     have hwd:Wd (ρ ++ [AObj.arr 2 2 1 (ints (wi ++ [(k:Int)]))]) (fun id=>id=0∨id=2) (.ref ρ.length 2 0 (wi.length+1)) (wi ++ [(k:Int)]):=by
      have e:wi.length+1=(wi ++ [(k:Int)]).length:=by simp
      rw [e]
      exact .inr ⟨_,2,rfl,by simp,fun h=>by rcases h with h | h <;> omega⟩
     have hpush:∀ K':PV→Heap→Prop,(WG ((ρ ++ [AObj.arr 2 2 1 (ints (wi ++ [(k:Int)]))]).set 2 (.arr (u2+1) 25 1 (ws2 ++ [.ref ρ.length 2 0 (wi.length+1)]))) (fun id=>id=0) 2 (u2+1) (ws2 ++ [.ref ρ.length 2 0 (wi.length+1)]) (W2 ++ [wi ++ [(k:Int)]])→K' (.ref 2 (u2+1) 0 (R.length+1)) ((ρ ++ [AObj.arr 2 2 1 (ints (wi ++ [(k:Int)]))]).set 2 (.arr (u2+1) 25 1 (ws2 ++ [.ref ρ.length 2 0 (wi.length+1)]))))→aApp 25 1 (.ref 2 u2 0 R.length) (.list [.ref ρ.length 2 0 (wi.length+1)]) (ρ ++ [AObj.arr 2 2 1 (ints (wi ++ [(k:Int)]))]) K':=fun K' hk=>by
      have:=hW3.push hwd (by omega) (K:=K') (by rw [l10]; exact hk)
      rwa [l10] at this
     refine ⟨⟨by omega,by omega⟩,?_⟩
     rw [← aApp_ref]
     refine hpush _ fun hWn=>?_
     have n0:((ρ ++ [AObj.arr 2 2 1 (ints (wi ++ [(k:Int)]))]).set 2 (.arr (u2+1) 25 1 (ws2 ++ [.ref ρ.length 2 0 (wi.length+1)])))[0]? = some (.arr (u0+1) 48 6 (aggs ((R ++ [g]).map mp))):=by
      rw [List.getElem?_set_ne (by decide),List.getElem?_append_left (by omega)]; exact r0
     have hτ2:=(List.getElem?_eq_some_iff.1 l9.out).1
     have nb:((ρ ++ [AObj.arr 2 2 1 (ints (wi ++ [(k:Int)]))]).set 2 (.arr (u2+1) 25 1 (ws2 ++ [.ref ρ.length 2 0 (wi.length+1)])))[τ.length]? = some (.box (ints (mp g))):=by
      have hb:=(List.getElem?_eq_some_iff.1 rb).1
      rw [List.getElem?_set_ne (by omega),List.getElem?_append_left hb]; exact rb
     generalize (ρ ++ [AObj.arr 2 2 1 (ints (wi ++ [(k:Int)]))]).set 2 (.arr (u2+1) 25 1 (ws2 ++ [.ref ρ.length 2 0 (wi.length+1)])) = ρ2 at *
     try simp only [OpK_eq,HKv,nb,hilg,h6g,go_sem]
     refine (p134 n S2 l5 (by omega) g hgO).go ?_
     have hpm:=fun x=>putM_mem l5 hgO (x:=x)
     have hps:=putM_srm l5 hgO
     have hpl:=putM_len (n:=n) (S:=S2) g
     try simp only [OpK_eq,HKv,go_sem]
     refine ⟨by omega,ihk (k+1,u0+1,u2+1,_,W2 ++ [wi ++ [(k:Int)]],putM n S2 g,R ++ [g],ρ2) ⟨by omega,hAs,fun f hf'=>?_,by simp; omega,hps,fun f=>?_,by simp; omega,n0,hWn,by simp [l10],fun x hx=>?_⟩ (by show fs.length - (k+1)<fs.length - k; omega) _ _ (by simp [keep]) rfl⟩
     ·rcases List.mem_append.1 hf' with hf' | hf'
      ·exact l3 f hf'
      ·simp only [List.mem_singleton] at hf'; rw [hf']; exact hgO
     ·rw [hpm,List.mem_append,List.mem_singleton,l6]
      exact ⟨fun h=>h.elim .inr .inl,fun h=>h.elim .inr .inl⟩
     ·rw [List.length_append,List.length_singleton]
      rcases List.mem_append.1 hx with hx | hx
      ·have:=l11 x hx; omega
      ·simp only [List.mem_singleton] at hx
       rw [hx,List.length_append,List.length_singleton]; omega
  ·have hke:k=fs.length:=by omega
   subst hke
   try simp only [go_sem]
   exact ⟨by omega,ih (i+1,u0,u2,ws2,W2,S2,R,τ) ⟨by omega,by rw [hBs]; exact l2,l3,l4,l5,l6,l7,l8,l9,l10,l11⟩ (by show 301 - (i+1)<301 - i; omega) _ _ (by simp [keep]) rfl⟩
 ·have hiQ:i=Q.length:=by omega
  have hl1:Q.length=(Q.map mp).length:=(List.length_map _).symm
  refine Kv.Fin.freeze (Imm.tupL (.cons (Imm.refa' j8 hl1) (.cons (WG.immN j9 j10.symm) (.cons Imm.still (.nil _))))) (hK1 i Q W j2 hiQ j3 j4)
end
end
section
section
set_option maxRecDepth 100000
def k62_b0:KC:=(.seq (.seq (.ops [mV 31 11,mV 32 7,oP 33 (.len false (.t 32)),oP 34 (.bin .lss (.t 31) (.t 33))])
 (.cond (.t 34) .skip (.exit 0)))
 (.seq (.block 1 (.ops [mV 37 10,mV 38 7,mV 39 11,oP 40 (.idxS 6 (.t 38) (.t 39)),oP 41 (.load true 6 (.t 40)),oP 42 (.call (fC 134) [(.t 37),(.t 41)]),mV 10 42]))
 (.ops [mV 35 11,oP 36 (.bin .add (.t 35) (iC 1)),mV 11 36])))
def k62:KC:=(.seq (.ops [oP 4 (.mv (.c (.nils))),oP 5 (.mv (iC 0))])
 (.seq (.seq (.ops [mV 12 0,mV 13 1,oP 14 (.call (fC 132) [(.t 12),(.t 13)]),mV 6 14])
 (.seq (.ops [mV 15 6,oP 16 (.bin .neq (.t 15) (iC 0))])
 (.cond (.t 16) (.seq (.ops [mV 17 6,oP 4 (.mv (.c (.nils))),mV 5 17])
 .ret) .skip)))
 (.seq (.ops [mV 19 0,mV 20 0,oP 21 (.idxS 6 (.t 20) (iC 0)),oP 22 (.fieldA 0 (.t 21)),oP 23 (.load false 1 (.t 22)),oP 24 (.call (fC 133) [(.t 19),(.t 23)]),mV 18 24,oP 25 (.extr 0 (.t 18)),oP 26 (.extr 1 (.t 18)),oP 27 (.extr 2 (.t 18)),mV 7 25,mV 8 26,mV 9 27])
 (.seq (.seq (.ops [mV 28 9,oP 29 (.not (.t 28))])
 (.cond (.t 29) (.seq (.ops [oP 4 (.mv (.c (.nils))),oP 5 (.mv (iC 3))])
 .ret) .skip))
 (.seq (.ops [oP 30 (.bsl false 48 6 []),mV 10 30])
 (.seq (.seq (.ops [oP 11 (.mv (iC 0))])
 (.block 0 (.loop k62_b0)))
 (.seq (.ops [mV 43 10,mV 4 43,oP 5 (.mv (iC 0))])
 .ret)))))))
theorem e62:Ent 62 44 [] [.t 4,.t 5] k62:=ent Tryz.func62
end
section
attribute [local irreducible] ACall PCall KL
theorem clB_none {fs:List (List Nat)} {n i:Nat} (h:clB fs n i=none):∀ d,clB fs n (i+d)=none
 | 0=>h
 | d+1=>by
  show clB fs n (i+d+1)=none
  rw [clB,clB_none h d]
theorem clB_stop {fs:List (List Nat)} {n i:Nat} {Q:List (List Nat)} (h:clB fs n i=some Q) (hi:Q.length≤i):∀ d,clB fs n (i+d)=some Q
 | 0=>h
 | d+1=>by
  show clB fs n (i+d+1)=some Q
  rw [clB,clB_stop h hi d]
  simp only
  rw [List.getElem?_eq_none (by omega)]
def clR (fs:List (List Nat)) (n:Nat):Option (List (List Nat)):=clB fs n 301
def elS (n:Nat) (Q:List (List Nat)):List (List Nat):=Q.foldl (putM n) []
theorem fold_putM {n:Nat}:∀ (Q S:List (List Nat)),SrM n S→(∀ f∈Q,Ok f n)→SrM n (Q.foldl (putM n) S)∧(∀ f,f∈Q.foldl (putM n) S↔f∈Q∨f∈S)∧(Q.foldl (putM n) S).length≤Q.length+S.length
 | [],S,h,_=>⟨h,fun f=>by simp,by simp⟩
 | a :: Q,S,h,hQ=>by
  have ha:=hQ a (by simp)
  obtain ⟨h1,h2,h3⟩:=fold_putM Q (putM n S a) (putM_srm h ha) fun f hf=>hQ f (by simp [hf])
  refine ⟨h1,fun f=>?_,?_⟩
  ·rw [List.foldl_cons,h2,putM_mem h ha,List.mem_cons]
   constructor
   ·rintro (h | h | h)
    ·exact .inl (.inr h)
    ·exact .inl (.inl h)
    ·exact .inr h
   ·rintro ((h | h) | h)
    ·exact .inr (.inl h)
    ·exact .inl h
    ·exact .inr (.inr h)
  ·have:=putM_len (n:=n) (S:=S) a
   rw [List.foldl_cons,List.length_cons]; omega
theorem p62_in (fs:List (List Nat)) (n:Nat) (h1:1≤n) (h5:n≤5) (hf:∀ f∈fs,Ok f n) (h0:0<fs.length) (hfl:fs.length≤6) (hl:lcode (fs.map mp) []=0) :
  Pure Tryz.prog 62 [.list (aggs (fs.map mp)),.nils] (match clR fs n with | none=>.tup [.nils,.int .i64 3] | some Q=>.tup [.list (aggs ((elS n Q).map mp)),.int .i64 0]):=by
 have hk:=hf _ (List.getElem_mem h0)
 have h6k:=hk.mp_len
 have hn:(mp fs[0]).getD 0 0=(n:Int):=by simp [mp,mpN,hk.len]
 refine e62 (by simp) fun _ _=>?_
 simp only [k62,argEnv,go_sem]
 refine (p132n (fs.map mp) (by simp; omega) (fun r hr=>by obtain ⟨f,hf',rfl⟩:=List.mem_map.1 hr; exact (hf f hf').mp_len)).go ?_
 rw [hl]
 try simp only [OpK_eq,HKv,map_getD h0,h6k,hn,List.length_map,go_sem]
 refine ⟨by omega,fun _=>?_⟩
 refine p133 fs n h1 h5 hf (by omega) (fun i Q W c1 c2 c3 c4=>?_) (fun i c0 c1=>?_)
 ·have hR:clR fs n=some Q:=by
   have:=clB_stop c1 (by omega) (301 - i)
   rwa [show i+(301 - i)=301 by omega] at this
  rw [hR]
  try simp only [OpK_eq,HKv,go_sem]
  refine KL_freeze (env0:=[(7,.list (aggs (Q.map mp))),(10,.ref 0 0 0 0),(11,.int .i64 0)]) (env':=[(7,.list (aggs (Q.map mp))),(10,.list (aggs (([]:List (List Nat)).map mp))),(11,.int .i64 0)]) [7,10,11] rfl (by simp [keep]) (.cons Imm.still (.cons (Imm.refa (l:=[]) rfl) (.cons Imm.still .nil))) ?_
  refine KL_ind k62_b0.eq_1 (fun y:Nat=>[(7,.list (aggs (Q.map mp))),(10,.list (aggs ((elS n (Q.take y)).map mp))),(11,.int .i64 y)]) (fun _=>[]) (fun y=>y≤Q.length) (fun y=>Q.length - y) [7,10,11] 0 (by simp [keep,elS]) rfl (Nat.zero_le _) fun y hy ih=>?_
  try simp only [OpK_eq,HKv,aggs_length,List.length_map,go_sem]
  refine ⟨fun g1=>?_,fun g1=>?_⟩
  ·have hyl:y<Q.length:=by omega
   have hgy:(Q.map mp).getD y []=mp Q[y]:=by simp [List.getD_eq_getElem?_getD,hyl]
   have hOy:=c3 _ (List.getElem_mem hyl)
   have h6y:=hOy.mp_len
   obtain ⟨s1,s2,s3⟩:=fold_putM (n:=n) (Q.take y) [] ⟨by simp,by simp⟩ fun f hf'=>c3 f (List.mem_of_mem_take hf')
   have hes:elS n (Q.take (y+1))=putM n (elS n (Q.take y)) Q[y]:=by
    unfold elS
    rw [List.take_succ_eq_append_getElem hyl,List.foldl_append]; rfl
   have s3':(elS n (Q.take y)).length≤Q.length:=by
    have:(elS n (Q.take y)).length≤(Q.take y).length+0:=s3
    rw [List.length_take] at this; omega
   try simp only [OpK_eq,HKv,aggs_length,List.length_map,hgy,h6y,go_sem]
   refine ⟨by omega,fun _=>?_⟩
   refine (p134 n (elS n (Q.take y)) s1 (by omega) Q[y] hOy).go ?_
   try simp only [OpK_eq,HKv,go_sem]
   exact ⟨by omega,ih (y+1) (by omega) (by omega) _ _ (by simp [keep,hes]) rfl⟩
  ·obtain rfl:y=Q.length:=by omega
   rw [List.take_length]
   try simp only [OpK_eq,HKv,go_sem]
   exact Kv.Fin.still ⟨rfl,rfl⟩
 ·have hR:clR fs n=none:=by
   have:=clB_none c1 (301 - i)
   rwa [show i+(301 - i)=301 by omega] at this
  rw [hR]
  try simp only [OpK_eq,HKv,go_sem]
  exact Kv.Fin.still ⟨rfl,rfl⟩
theorem elS_ok {n:Nat} {Q:List (List Nat)} (hQ:∀ f∈Q,Ok f n):SrM n (elS n Q)∧(∀ f,f∈elS n Q↔f∈Q)∧(elS n Q).length≤Q.length:=by
 obtain ⟨h1,h2,h3⟩:=fold_putM (n:=n) Q [] ⟨by simp,by simp⟩ hQ
 exact ⟨h1,fun f=>by rw [elS,h2]; simp,h3⟩
theorem clA_okQ {fs:List (List Nat)} {n:Nat} (hf:∀ f∈fs,Ok f n) {m:List Nat} (hm:Ok m n) {Q:List (List Nat)} (hQ:∀ f∈Q,Ok f n) (hl:Q.length≤300):∀ k R,k≤fs.length→clA fs m Q k=some R→(∀ f∈R,Ok f n)∧R.length≤300
 | 0,R,_,h=>by
  have:Q=R:=by simpa [clA] using h
  subst this; exact ⟨hQ,hl⟩
 | k+1,R,hk,h=>by
  unfold clA at h
  cases hc:clA fs m Q k with
  | none=>rw [hc] at h; cases h
  | some R' =>
   obtain ⟨h1,h2⟩:=clA_okQ hf hm hQ hl k R' (by omega) hc
   have hgf:fs.getD k []=fs[k]:=by simp [List.getD_eq_getElem?_getD,show k<fs.length by omega]
   rw [hc] at h
   simp only at h
   split at h
   ·cases h; exact ⟨h1,h2⟩
   ·split at h
    ·cases h
    ·cases h
     refine ⟨fun f hf'=>?_,by rw [List.length_append,List.length_singleton]; omega⟩
     rcases List.mem_append.1 hf' with hf' | hf'
     ·exact h1 f hf'
     ·simp only [List.mem_singleton] at hf'
      rw [hf',hgf]
      exact hm.mul (hf _ (List.getElem_mem _))
theorem clB_okQ {fs:List (List Nat)} {n:Nat} (h1:1≤n) (h5:n≤5) (hf:∀ f∈fs,Ok f n):∀ i Q,clB fs n i=some Q→(∀ f∈Q,Ok f n)∧Q.length≤300
 | 0,Q,h=>by
  have:[List.range n]=Q:=by simpa [clB] using h
  subst this
  refine ⟨fun f hf'=>?_,by simp⟩
  simp only [List.mem_singleton] at hf'; rw [hf']; exact range_ok h1 h5
 | i+1,Q,h=>by
  rw [clB] at h
  cases hc:clB fs n i with
  | none=>rw [hc] at h; cases h
  | some R =>
   obtain ⟨h2,h3⟩:=clB_okQ h1 h5 hf i R hc
   rw [hc] at h
   simp only at h
   cases hg:R[i]? with
   | none=>rw [hg] at h; cases h; exact ⟨h2,h3⟩
   | some m=>rw [hg] at h; exact clA_okQ hf (h2 m (List.mem_of_getElem? hg)) h2 h3 fs.length Q (Nat.le_refl _) h
theorem p62_out (a:List (List Int)) (ha:a.length≤1048576) (h6:∀ r∈a,r.length=6) (hc:lcode a []≠0):Pure Tryz.prog 62 [.list (aggs a),.nils] (.tup [.nils,.int .i64 (lcode a [])]):=by
 refine e62 (by simp) fun _ _=>?_
 simp only [k62,argEnv,go_sem]
 refine (p132n a ha h6).go ?_
 try simp only [OpK_eq,HKv,go_sem]
 exact ⟨fun h1=>Kv.Fin.still ⟨rfl,rfl⟩,fun h1=>absurd h1 hc⟩
end
end
section
section
set_option maxRecDepth 100000
def k179_b0:KC:=(.seq (.ops [oP 9 (.bin .lss (.t 8) (iC 5))])
 (.seq (.cond (.t 9) .skip (.exit 0))
 (.seq (.block 1 (.seq (.ops [oP 10 (.idxV 5 1 false (.t 7) (.t 8)),mV 5 10])
 (.ops [mV 11 3,oP 12 (.bin .mul (.t 11) (iC 5)),mV 13 5,oP 14 (.bin .add (.t 12) (.t 13)),mV 3 14])))
 (.ops [oP 15 (.bin .add (.t 8) (iC 1)),mV 8 15]))))
def k179:KC:=(.seq (.ops [oP 1 (.box true (.t 0)),oP 2 (.mv (iC 0))])
 (.seq (.ops [oP 3 (.mv (iC 0))])
 (.seq (.seq (.ops [oP 6 (.fieldA 1 (.t 1)),oP 7 (.load true 5 (.t 6)),oP 8 (.mv (iC 0))])
 (.block 0 (.loop k179_b0)))
 (.seq (.ops [mV 16 3,mV 2 16])
 .ret))))
theorem e179:Ent 179 17 [1] [.t 2] k179:=ent Tryz.func179
end
section
attribute [local irreducible] ACall PCall KL
def numK (f:List Nat):Nat→Nat
 | 0=>0
 | k+1=>numK f k * 5+f.getD k 0
theorem numK_lt {f:List Nat} (h:∀ x∈f,x<5):∀ k,numK f k<5 ^ k
 | 0=>by simp [numK]
 | k+1=>by
  have h1:=numK_lt h k
  have h2:f.getD k 0<5:=by
   rw [List.getD_eq_getElem?_getD]
   cases e:f[k]? with
   | none=>simp
   | some x=>exact h x (List.mem_of_getElem? e)
  rw [numK,Nat.pow_succ]; omega
theorem numK_inj {f g:List Nat} (hf:∀ x∈f,x<5) (hg:∀ x∈g,x<5):∀ k,numK f k=numK g k→∀ i,i<k→f.getD i 0=g.getD i 0
 | 0,_,i,hi=>by omega
 | k+1,h,i,hi=>by
  have h2:∀ {f:List Nat},(∀ x∈f,x<5)→f.getD k 0<5:=fun {f} hf=>by
   rw [List.getD_eq_getElem?_getD]
   cases e:f[k]? with
   | none=>simp
   | some x=>exact hf x (List.mem_of_getElem? e)
  have a:=h2 hf
  have b:=h2 hg
  simp only [numK] at h
  rcases Nat.lt_succ_iff_lt_or_eq.1 hi with c | rfl
  ·exact numK_inj hf hg k (by omega) i c
  ·omega
theorem num_inj {f g:List Nat} {n:Nat} (hf:Ok f n) (hg:Ok g n) (h:numK f 5=numK g 5):f=g:=by
 have h5:=hf.le
 have e:=numK_inj (fun x hx=>by have:=hf.lt x hx; omega) (fun x hx=>by have:=hg.lt x hx; omega) 5 h
 refine List.ext_getElem (by rw [hf.len,hg.len]) fun i h1 h2=>?_
 have:=e i (by have:=hf.len; omega)
 simpa [List.getD_eq_getElem?_getD,h1,h2] using this
theorem p179 (f:List Nat) (n:Nat) (hf:Ok f n):Pure Tryz.prog 179 [.agg (ints (mp f))] (.int .i64 (numK f 5)):=by
 have hlf:=hf.mp_len
 have h5:=hf.le
 refine e179 (by simp) fun _ _=>?_
 simp only [k179,argEnv,hlf,go_sem]
 refine KL_ind k179_b0.eq_1 (fun y:Nat=>[(3,.int .i64 (numK f y)),(7,.agg (ints (List.take 5 (List.drop 1 (mp f))))),(8,.int .i64 y)]) (fun _=>[]) (fun y=>y≤5) (fun y=>5 - y) [3,7,8] 0 (by simp [keep,numK]) rfl (Nat.zero_le _) fun y hy ih=>?_
 have hl5:(List.take 5 (List.drop 1 (mp f))).length=5:=by simp [hlf]
 try simp only [hl5,go_sem]
 refine ⟨fun g1=>?_,fun g1=>?_⟩
 ·have hN:=numK_lt (f:=f) (fun x hx=>by have:=hf.lt x hx; omega) y
  have hN':numK f y<3125:=Nat.lt_of_lt_of_le hN (by
   have:(5:Nat) ^ y≤5 ^ 5:=Nat.pow_le_pow_right (by decide) hy
   omega)
  have hg:(List.take 5 (List.drop 1 (mp f))).getD y 0=(f.getD y 0:Int):=by
   have:(List.take 5 (List.drop 1 (mp f))).getD y 0=(mp f).getD (y+1) 0:=by
    rw [List.take_of_length_le (by simp [hlf])]
    simp [List.getD_eq_getElem?_getD,Nat.add_comm]
   rw [this,mp,mpN_get]
  have hb:f.getD y 0<5:=by
   rw [List.getD_eq_getElem?_getD]
   cases e:f[y]? with
   | none=>simp
   | some x=>have:=hf.lt x (List.mem_of_getElem? e); simp; omega
  rw [hg]
  have g2:y<5:=by omega
  exact ⟨g1,g2,fun _=>⟨by omega,by omega,by omega,ih (y+1) (by omega) (by omega) _ _ (by simp [keep,numK]) rfl⟩⟩
 ·obtain rfl:y=5:=by omega
  try simp only [go_sem]
  exact Kv.Fin.still ⟨rfl,rfl⟩
end
end
section
section
set_option maxRecDepth 100000
def k130:KC:=(.seq (.ops [oP 3 (.box true (.t 1)),oP 4 (.mv (iC 0))])
 (.seq (.draw [mV 5 0,oP 6 (.load true 6 (.t 3)),oP 8 (.nilck (.t 5)),oP 9 (.fieldA 2 (.t 8)),oP 7 (.pcall (fC 179) [(.t 6)]),oP 10 (.idxA 3125 1 (.t 9) (.t 7)),oP 11 (.load false 1 (.t 10)),oP 12 (.bin .sub (.t 11) (iC 1)),mV 4 12])
 .ret))
theorem e130:Ent 130 13 [3] [.t 4] k130:=ent Tryz.func130
def k190:KC:=(.seq (.ops [oP 6 (.mv (iC 0))])
 (.seq (.draw [mV 7 0,mV 8 0,oP 9 (.nilck (.t 8)),oP 10 (.fieldA 0 (.t 9)),oP 11 (.load false 1 (.t 10)),mV 12 1,oP 13 (.idxS 6 (.t 11) (.t 12)),oP 14 (.load true 6 (.t 13)),mV 15 0,oP 16 (.nilck (.t 15)),oP 17 (.fieldA 0 (.t 16)),oP 18 (.load false 1 (.t 17)),mV 19 2,oP 20 (.idxS 6 (.t 18) (.t 19)),oP 21 (.load true 6 (.t 20)),oP 22 (.pcall (fC 124) [(.t 14),(.t 21)]),oP 23 (.pcall (fC 130) [(.t 7),(.t 22)]),mV 6 23])
 .ret))
theorem e190:Ent 190 24 [] [.t 6] k190:=ent Tryz.func190
def k159_b0:KC:=(.seq (.ops [oP 21 (.bin .lss (.t 20) (.t 19))])
 (.seq (.cond (.t 21) .skip (.exit 2))
 (.seq (.block 3 (.seq (.ops [mV 22 20,mV 6 22])
 (.ops [mV 23 5,mV 24 0,mV 25 4,mV 26 6,oP 27 (.call (fC 190) [(.t 24),(.t 25),(.t 26)]),oP 28 (.bsl true 2 1 [(.t 27)]),oP 29 (.app (.t 23) (.t 28) 2 1),mV 5 29])))
 (.ops [oP 30 (.bin .add (.t 20) (iC 1)),mV 20 30]))))
def k159_b1:KC:=(.seq (.ops [oP 13 (.bin .lss (.t 12) (.t 11))])
 (.seq (.cond (.t 13) .skip (.exit 0))
 (.seq (.block 1 (.seq (.ops [mV 14 12,mV 4 14])
 (.seq (.ops [oP 5 (.mv (.c (.nils)))])
 (.seq (.seq (.ops [mV 15 0,oP 16 (.nilck (.t 15)),oP 17 (.fieldA 0 (.t 16)),oP 18 (.load false 1 (.t 17)),oP 19 (.len false (.t 18)),oP 20 (.mv (iC 0))])
 (.block 2 (.loop k159_b0)))
 (.ops [mV 31 3,mV 32 5,oP 33 (.bsl true 25 1 [(.t 32)]),oP 34 (.app (.t 31) (.t 33) 25 1),mV 3 34])))))
 (.ops [oP 35 (.bin .add (.t 12) (iC 1)),mV 12 35]))))
def k159:KC:=(.seq (.ops [oP 2 (.mv (.c (.nils)))])
 (.seq (.ops [oP 3 (.mv (.c (.nils)))])
 (.seq (.seq (.ops [mV 7 0,oP 8 (.nilck (.t 7)),oP 9 (.fieldA 0 (.t 8)),oP 10 (.load false 1 (.t 9)),oP 11 (.len false (.t 10)),oP 12 (.mv (iC 0))])
 (.block 0 (.loop k159_b1)))
 (.seq (.ops [mV 36 3,mV 2 36])
 .ret))))
theorem e159:Ent 159 37 [28,33] [.t 2] k159:=ent Tryz.func159
end
section
attribute [local irreducible] ACall PCall KL
def moV (E W:PV) (P:List Int):List PV:=E :: W :: ints P
instance {E W:PV} {P:List Int} [h:Still E] [h':Still W]:StillL (moV E W P):=inferInstanceAs (StillL (E :: W :: ints P))
theorem p130 (E W:PV) (P:List Int) (hP:P.length=3125) (f:List Nat) (n:Nat) (hf:Ok f n) (hb:∀ x∈P,0≤x∧x≤300):Pure Tryz.prog 130 [.fptr (moV E W P) 0,.agg (ints (mp f))] (.int .i64 (P.getD (numK f 5) 0 - 1)):=by
 have hlf:=hf.mp_len
 have h5:=hf.le
 have hN:numK f 5<3125:=numK_lt (f:=f) (fun x hx=>by have:=hf.lt x hx; omega) 5
 have hx:0≤P.getD (numK f 5) 0∧P.getD (numK f 5) 0≤300:=by
  rw [List.getD_eq_getElem?_getD,List.getElem?_eq_getElem (by omega)]
  exact hb _ (List.getElem_mem _)
 have hml:(moV E W P).length=3127:=by rw [moV,List.length_cons,List.length_cons,ints_length,hP]
 refine e130 (by simp) fun _ _=>?_
 simp only [k130,argEnv,hlf,go_sem]
 refine (p179 f n hf).pgo ?_
 try simp only [hml,go_sem]
 refine ⟨by omega,by omega,fun c hc=>?_⟩
 have hc':(ints P)[numK f 5]? = some c:=hc
 have hP':numK f 5<P.length:=by omega
 have e:c = .int .i64 (P.getD (numK f 5) 0):=by
  simp only [ints,List.getElem?_map,List.getElem?_eq_getElem hP',Option.map_some,Option.some.injEq] at hc'
  rw [← hc',List.getD_eq_getElem?_getD,List.getElem?_eq_getElem hP']; rfl
 subst e
 try simp only [OpK_eq,HKv,go_sem]
 exact ⟨by omega,Kv.Fin.still ⟨rfl,rfl⟩⟩
def plP (P:List Int) (S:List (List Nat)) (i k:Nat):Int:=P.getD (numK (mul (S.getD i []) (S.getD k [])) 5) 0 - 1
def rowP (P:List Int) (S:List (List Nat)) (i y:Nat):List Int:=(List.range y).map fun k=>plP P S i k
def tabP (P:List Int) (S:List (List Nat)) (x:Nat):List (List Int):=(List.range x).map fun i=>rowP P S i S.length
theorem p190 (W:PV) [Still W] (P:List Int) (hP:P.length=3125) (S:List (List Nat)) (n:Nat) (hS:∀ f∈S,Ok f n) (hSl:S.length≤300) (hb:∀ x∈P,0≤x∧x≤300) (i k:Nat) (hi:i<S.length) (hk:k<S.length) :
  Pure Tryz.prog 190 [.fptr (moV (.list (aggs (S.map mp))) W P) 0,.int .i64 i,.int .i64 k] (.int .i64 (plP P S i k)):=by
 have oi:=hS _ (List.getElem_mem hi)
 have ok:=hS _ (List.getElem_mem hk)
 have li:=oi.mp_len
 have lk:=ok.mp_len
 have gi:(S.map mp).getD i []=mp S[i]:=by simp [List.getD_eq_getElem?_getD,hi]
 have gk:(S.map mp).getD k []=mp S[k]:=by simp [List.getD_eq_getElem?_getD,hk]
 have hml:(moV (.list (aggs (S.map mp))) W P).length=3127:=by rw [moV,List.length_cons,List.length_cons,ints_length,hP]
 have hm0:(moV (.list (aggs (S.map mp))) W P)[0]? = some (.list (aggs (S.map mp))):=rfl
 refine e190 (by simp) fun _ _=>?_
 simp only [k190,argEnv,hml,go_sem]
 try simp only [hml,hm0,gi,gk,li,lk,aggs_length,List.length_map,go_sem]
 refine ⟨by omega,fun _=>⟨by omega,fun _=>?_⟩⟩
 refine (p124 S[i] S[k] n oi ok).pgo ?_
 try simp only [OpK_eq,HKv,go_sem]
 refine (p130 (.list (aggs (S.map mp))) W P hP (mul S[i] S[k]) n (oi.mul ok) hb).pgo ?_
 try simp only [OpK_eq,HKv,go_sem]
 refine Kv.Fin.still ⟨?_,rfl⟩
 have si:S.getD i []=S[i]:=by simp [List.getD_eq_getElem?_getD,hi]
 have sk:S.getD k []=S[k]:=by simp [List.getD_eq_getElem?_getD,hk]
 rw [plP,si,sk]
theorem p159N (W:PV) [Still W] (P:List Int) (hP:P.length=3125) (S:List (List Nat)) (n:Nat) (hS:∀ f∈S,Ok f n) (hSl:S.length≤300) (hb:∀ x∈P,0≤x∧x≤300) :
  ACall Tryz.prog 159 [.fptr (moV (.list (aggs (S.map mp))) W P) 0] [] (fun v s=>TabN 25 2 s v (tabP P S S.length)∧Free s):=by
 have hml:(moV (.list (aggs (S.map mp))) W P).length=3127:=by rw [moV,List.length_cons,List.length_cons,ints_length,hP]
 have hm0:(moV (.list (aggs (S.map mp))) W P)[0]? = some (.list (aggs (S.map mp))):=rfl
 refine e159 (by simp) fun _ _=>?_
 simp only [k159,argEnv,hml,go_sem]
 try simp only [hml,hm0,aggs_length,List.length_map,go_sem]
 generalize hV:moV (.list (aggs (S.map mp))) W P=V at *
 have hsV:StillL V:=by rw [← hV]; infer_instance
 refine KL_ind k159_b1.eq_1 (fun y:Nat × PV × Heap=>[(0,.fptr V 0),(3,y.2.1),(11,.int .i64 S.length),(12,.int .i64 y.1)]) (fun y=>y.2.2) (fun y=>y.1≤S.length∧TabN 25 2 y.2.2 y.2.1 (tabP P S y.1)∧Free y.2.2) (fun y=>S.length - y.1) [0,3,11,12] (0,.nils,[]) (by simp [keep]) rfl ⟨Nat.zero_le _,.nil,.nil⟩ fun ⟨x,v,σ⟩ ⟨hx,hT,hF⟩ ih=>?_
 simp only at hx hT hF
 try simp only [hml,hm0,aggs_length,List.length_map,go_sem]
 refine ⟨fun g1=>?_,fun g1=>?_⟩
 ·have hxl:x<S.length:=by omega
  refine KL_ind k159_b0.eq_1 (fun y:Nat=>[(0,.fptr V 0),(3,v),(4,.int .i64 x),(5,nref σ.length y),(11,.int .i64 S.length),(12,.int .i64 x),(19,.int .i64 S.length),(20,.int .i64 y)]) (fun y=>σ ++ nhp [.arr (y - 1) 2 1 (ints (rowP P S x y))] y) (fun y=>y≤S.length) (fun y=>S.length - y) [0,3,4,5,11,12,19,20] 0 (by simp [keep]; try rfl) (by simp [nhp]) (Nat.zero_le _) fun y hy ihy=>?_
  have hnew:=hp_new (rfl:σ.length = σ.length)
  have hset:=hp_setn (rfl:σ.length = σ.length)
  have hps:rowP P S x (y+1)=rowP P S x y ++ [plP P S x y]:=by simp [rowP,List.range_succ]
  have hl:(rowP P S x y).length=y:=by simp [rowP]
  try simp only [List.append_nil,go_sem]
  refine ⟨fun g2=>?_,fun g2=>?_⟩
  ·have hyl:y<S.length:=by omega
   have hpr:=p190 W P hP S n hS hSl hb x y hxl hyl
   rw [hV] at hpr
   refine hpr.go ?_
   rcases y with _ | y
   ·try simp only [List.append_nil,go_sem]
    refine ⟨by omega,ihy 1 (by omega) (by omega) _ _ (by rfl) ?_⟩
    rfl
   ·have hnw:∀ o,(σ ++ [o])[σ.length]? = some o:=hnew
    try simp only [hnew,hset,hl,go_sem]
    repeat' (first | refine And.intro ?_ ?_ | intro _)
    all_goals (try omega)
    refine ihy (y+1+1) (by omega) (by omega) _ _ (by rfl) ?_
    rw [List.take_of_length_le (by omega),hps]
    rfl
  ·obtain rfl:y=S.length:=by omega
   rw [nref_pos (by omega),nhp_pos (by omega)]
   try simp only [OpK_eq,go_sem]
   refine hT.pushRow hF (rowP P S x S.length) (by simp [rowP]) (by simp [tabP]; omega) fun v' σ' hT' hf'=>?_
   try simp only [OpK_eq,go_sem]
   have e:tabP P S (x+1)=tabP P S x ++ [rowP P S x S.length]:=by simp [tabP,List.range_succ]
   exact ⟨by omega,ih (x+1,v',σ') ⟨by show x+1≤S.length; omega,by show TabN _ _ σ' v' (tabP P S (x+1)); rw [e]; exact hT',hf'⟩ (by show S.length - (x+1)<S.length - x; omega) _ _ (by simp [keep]) rfl⟩
 ·obtain rfl:x=S.length:=by omega
  try simp only [OpK_eq,HKv,go_sem]
  exact Kv.Fin.now ⟨hT,hF⟩
theorem p159 (W:PV) [Still W] (P:List Int) (hP:P.length=3125) (S:List (List Nat)) (n:Nat) (hS:∀ f∈S,Ok f n) (hSl:S.length≤300) (hb:∀ x∈P,0≤x∧x≤300) :
  Pure Tryz.prog 159 [.fptr (moV (.list (aggs (S.map mp))) W P) 0] (.list (rows (tabP P S S.length))) :=
 ACall.ret (p159N W P hP S n hS hSl hb) fun v s ⟨hT,_⟩=>Kv.Fin.freeze hT.imm ⟨rfl,rfl⟩
end
end
section
section
attribute [local irreducible] ACall PCall KL
def PlOk (n:Nat) (P:List Int) (S:List (List Nat)):Prop:=P.length=3125∧(∀ x∈P,0≤x∧x≤300)∧∀ f,Ok f n→P.getD (numK f 5) 0 - 1=plM n S f
theorem tabP_eq {n:Nat} {P:List Int} {S:List (List Nat)} (h:PlOk n P S) (hS:∀ f∈S,Ok f n):tabP P S S.length=tabM n S:=by
 have hg:∀ i,(hi:i<S.length)→S.getD i []=S[i]:=fun i hi=>by simp [List.getD_eq_getElem?_getD,hi]
 refine List.ext_getElem (by simp [tabP,tabM]) fun i h1 h2=>?_
 have hi:i<S.length:=by simpa [tabP] using h1
 simp only [tabP,tabM,List.getElem_map,List.getElem_range]
 refine List.ext_getElem (by simp [rowP,rowM]) fun k h3 h4=>?_
 have hk:k<S.length:=by simpa [rowP] using h3
 simp only [rowP,rowM,List.getElem_map,List.getElem_range,plP,hg i hi,hg k hk]
 exact h.2.2 _ ((hS _ (List.getElem_mem hi)).mul (hS _ (List.getElem_mem hk)))
end
end
section
section
set_option maxRecDepth 100000
def k58_b0:KC:=(.seq (.ops [oP 35 (.bin .lss (.t 34) (.t 33))])
 (.seq (.cond (.t 35) .skip (.exit 0))
 (.seq (.block 1 (.seq (.ops [oP 36 (.idxS 6 (.t 32) (.t 34)),oP 37 (.load true 6 (.t 36)),oP 12 (.alloc [.int .i64 0,.int .i64 0,.int .i64 0,.int .i64 0,.int .i64 0,.int .i64 0]),⟨none,none,.store 6 (.t 12) (.t 37)⟩])
 (.seq (.ops [mV 38 8,oP 39 (.load true 6 (.t 12)),oP 40 (.call (fC 130) [(.t 38),(.t 39)]),mV 13 40])
 (.seq (.seq (.ops [mV 41 13,oP 42 (.bin .lss (.t 41) (iC 0))])
 (.cond (.t 42) (.seq (.ops [oP 4 (.mv (.c (.nilptr))),oP 5 (.mv (.c (.nils))),oP 6 (.mv (iC 4))])
 .ret) .skip))
 (.ops [mV 43 10,mV 44 13,oP 45 (.bsl true 3 1 [(.t 44)]),oP 46 (.app (.t 43) (.t 45) 3 1),mV 10 46])))))
 (.ops [oP 47 (.bin .add (.t 34) (iC 1)),mV 34 47]))))
def k58:KC:=(.seq (.ops [oP 4 (.mv (.c (.nilptr))),oP 5 (.mv (.c (.nils))),oP 6 (.mv (iC 0))])
 (.seq (.seq (.ops [mV 14 0,mV 15 1,oP 16 (.call (fC 118) [(.t 14),(.t 15)]),mV 7 16])
 (.seq (.ops [mV 17 7,oP 18 (.bin .neq (.t 17) (iC 0))])
 (.cond (.t 18) (.seq (.ops [mV 19 7,oP 4 (.mv (.c (.nilptr))),oP 5 (.mv (.c (.nils))),mV 6 19])
 .ret) .skip)))
 (.seq (.ops [mV 21 0,mV 22 0,oP 23 (.idxS 6 (.t 22) (iC 0)),oP 24 (.fieldA 0 (.t 23)),oP 25 (.load false 1 (.t 24)),oP 26 (.call (fC 129) [(.t 21),(.t 25)]),mV 20 26,oP 27 (.extr 0 (.t 20)),oP 28 (.extr 1 (.t 20)),mV 8 27,mV 9 28])
 (.seq (.seq (.ops [mV 29 9,oP 30 (.bin .neq (.t 29) (iC 0))])
 (.cond (.t 30) (.seq (.ops [mV 31 9,oP 4 (.mv (.c (.nilptr))),oP 5 (.mv (.c (.nils))),mV 6 31])
 .ret) .skip))
 (.seq (.ops [oP 10 (.mv (.c (.nils)))])
 (.seq (.seq (.ops [mV 32 1,oP 33 (.len false (.t 32)),oP 34 (.mv (iC 0))])
 (.block 0 (.loop k58_b0)))
 (.seq (.ops [mV 48 8,mV 49 10,mV 4 48,mV 5 49,oP 6 (.mv (iC 0))])
 .ret)))))))
theorem e58:Ent 58 50 [45] [.t 4,.t 5,.t 6] k58:=ent Tryz.func58
end
section
attribute [local irreducible] ACall PCall KL
theorem p58_of (fs:List (List Nat)) (n:Nat) (hf:∀ f∈fs,Ok f n) (h0:0<fs.length) (hfl:fs.length≤6) (hl:lcode (fs.map mp) []=0) (m:PV) [Still m] (c:Int)
  (hM:Pure Tryz.prog 129 [.list (aggs (fs.map mp)),.int .i64 n] (.tup [m,.int .i64 c])) :
  Pure Tryz.prog 58 [.list (aggs (fs.map mp)),.nils] (if c=0 then .tup [m,.nils,.int .i64 0] else .tup [.nilptr,.nils,.int .i64 c]):=by
 have hk:=hf _ (List.getElem_mem h0)
 have h6k:=hk.mp_len
 have hn:(mp fs[0]).getD 0 0=(n:Int):=by simp [mp,mpN,hk.len]
 refine e58 (by simp) fun _ _=>?_
 simp only [k58,argEnv,go_sem]
 refine (p118 _ (fs.map mp) [] .nil (by simp; omega) (by simp) (fun r hr=>by obtain ⟨f,hf',rfl⟩:=List.mem_map.1 hr; exact (hf f hf').mp_len) (by simp)).go ?_
 rw [hl]
 try simp only [OpK_eq,HKv,map_getD h0,h6k,hn,List.length_map,go_sem]
 refine ⟨by omega,fun _=>?_⟩
 refine hM.go ?_
 try simp only [OpK_eq,HKv,go_sem]
 refine ⟨fun g1=>?_,fun g1=>?_⟩
 ·rw [if_neg (by omega)]
  exact Kv.Fin.still ⟨rfl,rfl⟩
 ·refine KL_ind k58_b0.eq_1 (fun y:Nat=>[(8,m),(10,.nils),(32,.nils),(33,.int .i64 0),(34,.int .i64 0)]) (fun _=>[]) (fun y=>True) (fun y=>0) [8,10,32,33,34] 0 (by simp [keep]) rfl trivial fun y _ ih=>?_
  try simp only [OpK_eq,HKv,go_sem]
  rw [if_pos (by omega)]
  exact Kv.Fin.still ⟨rfl,rfl⟩
def MonOk (fs:List (List Nat)) (n:Nat):Prop:=match clR fs n with
 | none=>Pure Tryz.prog 129 [.list (aggs (fs.map mp)),.int .i64 n] (.tup [.nilptr,.int .i64 3])
 | some Q=>∃ W P,Still W∧PlOk n P (elS n Q)∧Pure Tryz.prog 129 [.list (aggs (fs.map mp)),.int .i64 n] (.tup [.fptr (moV (.list (aggs ((elS n Q).map mp))) W P) 0,.int .i64 0])
end
end
section
section
attribute [local irreducible] ACall PCall KL
theorem p58_out (a:List (List Int)) (ha:a.length≤1048576) (h6:∀ r∈a,r.length=6) (hc:lcode a []≠0):Pure Tryz.prog 58 [.list (aggs a),.nils] (.tup [.nilptr,.nils,.int .i64 (lcode a [])]):=by
 refine e58 (by simp) fun _ _=>?_
 simp only [k58,argEnv,go_sem]
 refine (p118 _ a [] .nil ha (by simp) h6 (by simp)).go ?_
 try simp only [OpK_eq,HKv,go_sem]
 refine ⟨fun _=>Kv.Fin.still ⟨rfl,rfl⟩,fun h=>absurd h hc⟩
end
end
section
section
attribute [local irreducible] ACall PCall KL
theorem srm_uniq {n:Nat}:∀ {S T:List (List Nat)},SrM n S→SrM n T→(∀ f,f∈S↔f∈T)→S=T
 | [],[],_,_,_=>rfl
 | [],b :: T,_,_,h=>by have:=(h b).2 (by simp); simp at this
 | a :: S,[],_,_,h=>by have:=(h a).1 (by simp); simp at this
 | a :: S,b :: T,hS,hT,h=>by
  have pS:=List.pairwise_cons.1 hS.2
  have pT:=List.pairwise_cons.1 hT.2
  have e:a=b:=by
   rcases List.mem_cons.1 ((h a).1 (by simp)) with e | e
   ·exact e
   ·rcases List.mem_cons.1 ((h b).2 (by simp)) with e' | e'
    ·exact e'.symm
    ·have:=pT.1 _ e; have:=pS.1 _ e'; omega
  subst e
  rw [srm_uniq (S:=S) (T:=T) ⟨fun f hf=>hS.1 f (by simp [hf]),pS.2⟩ ⟨fun f hf=>hT.1 f (by simp [hf]),pT.2⟩ fun f=>?_]
  constructor
  ·intro hf
   rcases List.mem_cons.1 ((h f).1 (by simp [hf])) with e | e
   ·subst e; have:=pS.1 _ hf; omega
   ·exact e
  ·intro hf
   rcases List.mem_cons.1 ((h f).2 (by simp [hf])) with e | e
   ·subst e; have:=pT.1 _ hf; omega
   ·exact e
end
end
section
section
attribute [local irreducible] ACall PCall KL
def setP (S:List (List Nat)) (P:List Int):Nat→List Int
 | 0=>P
 | k+1=>(setP S P k).set (numK (S.getD k []) 5) (k+1)
theorem set_getD {l:List Int} {i j:Nat} {x:Int}:(l.set i x).getD j 0=if i=j∧i<l.length then x else l.getD j 0:=by
 rw [List.getD_eq_getElem?_getD,List.getD_eq_getElem?_getD,List.getElem?_set]
 by_cases h:i=j
 ·subst h
  by_cases h':i<l.length
  ·simp [h']
  ·simp [h',List.getElem?_eq_none (Nat.le_of_not_lt h')]
 ·simp [h]
theorem num_lt {f:List Nat} {n:Nat} (hf:Ok f n):numK f 5<3125 :=
 numK_lt (f:=f) (fun x hx=>by have:=hf.lt x hx; have:=hf.le; omega) 5
theorem setP_spec {n:Nat} {S:List (List Nat)} {P:List Int} (hS:SrM n S) (hP:P.length=3125):∀ k,k≤S.length→(setP S P k).length=3125∧∀ f,Ok f n→(∀ j,j<k→S.getD j []=f→(setP S P k).getD (numK f 5) 0=j+1)∧((∀ j,j<k→S.getD j []≠f)→(setP S P k).getD (numK f 5) 0=P.getD (numK f 5) 0)
 | 0,_=>⟨hP,fun f _=>⟨fun j hj=>by omega,fun _=>rfl⟩⟩
 | k+1,hk=>by
  obtain ⟨i1,i2⟩:=setP_spec hS hP k (by omega)
  have ge:∀ j (hj:j<S.length),S.getD j []=S[j]:=fun j hj=>by simp [List.getD_eq_getElem?_getD,hj]
  have ok:Ok (S.getD k []) n:=by rw [ge k hk]; exact hS.1 _ (List.getElem_mem _)
  have lk:=num_lt ok
  refine ⟨by rw [setP,List.length_set,i1],fun f hf=>⟨fun j hj e=>?_,fun h=>?_⟩⟩
  ·rw [setP,set_getD,i1]
   by_cases hjk:j=k
   ·subst hjk; rw [e,if_pos ⟨rfl,num_lt hf⟩]
   ·have hne:S.getD k []≠f:=fun e'=>by
     have:=List.pairwise_iff_getElem.1 hS.2 j k (by omega) (by omega) (by omega)
     rw [← ge j (by omega),← ge k (by omega),e,e'] at this; omega
    rw [if_neg fun c=>hne (num_inj ok hf c.1)]
    exact (i2 f hf).1 j (by omega) e
  ·rw [setP,set_getD,if_neg fun c=>h k (by omega) (num_inj ok hf c.1)]
   exact (i2 f hf).2 fun j hj=>h j (by omega)
theorem setP_bound {S:List (List Nat)} {P:List Int} (hb:∀ x∈P,0≤x∧x≤300):∀ k,k≤300→∀ x∈setP S P k,0≤x∧x≤300
 | 0,_,x,hx=>hb x hx
 | k+1,hk,x,hx=>by
  rw [setP] at hx
  rcases List.mem_or_eq_of_mem_set hx with h | h
  ·exact setP_bound hb k (by omega) x h
  ·omega
theorem setP_ok {n:Nat} {S:List (List Nat)} {P:List Int} (hS:SrM n S) (hl:S.length≤300) (hP:P.length=3125) (hb:∀ x∈P,0≤x∧x≤300) (h0:∀ f,Ok f n→f ∉ S→P.getD (numK f 5) 0=0):PlOk n (setP S P S.length) S:=by
 obtain ⟨i1,i2⟩:=setP_spec hS hP S.length (Nat.le_refl _)
 refine ⟨i1,setP_bound hb _ hl,fun f hf=>?_⟩
 unfold plM
 by_cases h:f∈S
 ·obtain ⟨h1,h2⟩:=(lo_mem hS hf).2 h
  rw [if_pos ⟨h1,h2⟩,(i2 f hf).1 _ h1 h2]; omega
 ·rw [if_neg fun c=>h ((lo_mem hS hf).1 c),(i2 f hf).2 fun j hj e=>h ?_,h0 f hf h]
  ·rfl
  ·rw [← e,List.getD_eq_getElem?_getD,List.getElem?_eq_getElem hj]; exact List.getElem_mem _
end
end
section
section
attribute [local irreducible] ACall PCall KL
def FdOk (n:Nat) (P:List Int) (Q:List (List Nat)):Prop:=P.length=3125∧(∀ x∈P,0≤x∧x≤300)∧∀ f,Ok f n→(∀ j:Nat,Q[j]? = some f→P.getD (numK f 5) 0=j+1)∧(f ∉ Q→P.getD (numK f 5) 0=0)
theorem FdOk.pos {n:Nat} {P:List Int} {Q:List (List Nat)} (h:FdOk n P Q) {f:List Nat} (hf:Ok f n):0<P.getD (numK f 5) 0↔f∈Q:=by
 constructor
 ·intro h1
  apply Classical.byContradiction
  intro h2
  have:=(h.2.2 f hf).2 h2; omega
 ·intro h1
  obtain ⟨j,hj,e⟩:=List.getElem_of_mem h1
  have:=(h.2.2 f hf).1 j (by rw [List.getElem?_eq_getElem hj,e]); omega
theorem FdOk.push {n:Nat} {P:List Int} {Q:List (List Nat)} (h:FdOk n P Q) {g:List Nat} (hg:Ok g n) (hn:g ∉ Q) (hl:Q.length<300):FdOk n (P.set (numK g 5) (Q.length+1)) (Q ++ [g]):=by
 refine ⟨by rw [List.length_set,h.1],fun x hx=>?_,fun f hf=>⟨fun j hj=>?_,fun hm=>?_⟩⟩
 ·rcases List.mem_or_eq_of_mem_set hx with h' | h'
  ·exact h.2.1 x h'
  ·omega
 ·rw [set_getD,h.1]
  by_cases e:f=g
  ·subst e
   rw [if_pos ⟨rfl,num_lt hf⟩]
   by_cases hjl:j<Q.length
   ·rw [List.getElem?_append_left hjl] at hj
    exact absurd (List.mem_of_getElem? hj) hn
   ·have:=(List.getElem?_eq_some_iff.1 hj).1
    simp at this
    omega
  ·rw [if_neg fun c=>e (num_inj hf hg c.1.symm)]
   by_cases hjl:j<Q.length
   ·rw [List.getElem?_append_left hjl] at hj
    exact (h.2.2 f hf).1 j hj
   ·rw [List.getElem?_append_right (by omega)] at hj
    have:=List.mem_of_getElem? hj
    simp at this
    exact absurd this e
 ·simp at hm
  rw [set_getD,if_neg fun c=>hm.2 (num_inj hf hg c.1.symm)]
  exact (h.2.2 f hf).2 hm.1
end
end
end Go.Proofs.YtcfmmmloeaggmaaGreat
