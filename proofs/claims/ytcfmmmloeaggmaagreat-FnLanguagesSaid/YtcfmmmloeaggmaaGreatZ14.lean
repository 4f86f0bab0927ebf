/- Several texts of this session as one, less what the claim does not need. -/
import Derived.Test.YtcfmmmloeaggmaaGreatCb
import Derived.Test.YtcfmmmloeaggmaaGreatZ12
import Derived.Test.YtcfmmmloeaggmaaGreatZ13
import Derived.Test.YtcfmmmloeaggmaaGreatZ11
import Derived.Test.YtcfmmmloeaggmaaGreatFB
namespace Go.Proofs.YtcfmmmloeaggmaaGreat
open Go.Kv
set_option linter.unusedVariables false
set_option linter.unusedSimpArgs false
section
section
set_option maxRecDepth 100000
def k19:KC:=(.seq (.ops [oP 1 (.box true (.t 0)),oP 2 (.mv (.c (.bool false))),oP 3 (.mv (iC 0))])
 (.seq (.seq (.ops [oP 7 (.load true 3 (.t 1)),oP 8 (.call (fC 46) [(.t 7)]),oP 9 (.not (.t 8))])
 (.cond (.t 9) (.seq (.ops [oP 2 (.mv (.c (.bool false))),oP 3 (.mv (iC 1))])
 .ret) .skip))
 (.seq (.ops [oP 11 (.call (fC 47) [(.t 1)]),oP 12 (.fieldV false 1 0 (.t 11)),oP 13 (.call (fC 58) [(.t 12),(.c (.nils))]),mV 10 13,oP 14 (.extr 0 (.t 10)),oP 15 (.extr 1 (.t 10)),oP 16 (.extr 2 (.t 10)),oP 4 (.alloc [.nilptr]),⟨none,none,.store 1 (.t 4) (.t 14)⟩,mV 5 15,mV 6 16])
 (.seq (.seq (.ops [mV 17 6,oP 18 (.bin .neq (.t 17) (iC 0))])
 (.cond (.t 18) (.seq (.ops [mV 19 6,oP 2 (.mv (.c (.bool false))),mV 3 19])
 .ret) .skip))
 (.seq (.ops [oP 20 (.load false 1 (.t 4)),oP 21 (.mkfn (.func 60) [] [(.t 4)]),oP 22 (.call (fC 59) [(.t 20),(.t 21)]),mV 2 22,oP 3 (.mv (iC 0))])
 .ret)))))
theorem e19:Ent 19 23 [1] [.t 2,.t 3] k19:=ent Tryz.func19
def k20_b0:KC:=(.seq (.seq (.ops [mV 22 6,mV 23 4,oP 24 (.len false (.t 23)),oP 25 (.bin .lss (.t 22) (.t 24))])
 (.cond (.t 25) .skip (.exit 0)))
 (.seq (.block 1 (.seq (.ops [mV 29 4,mV 30 6,oP 31 (.idxS 6 (.t 29) (.t 30)),oP 32 (.load true 6 (.t 31)),oP 33 (.call (fC 64) [(.t 32)]),mV 28 33,oP 34 (.extr 0 (.t 28)),oP 35 (.extr 1 (.t 28)),mV 7 34,mV 8 35])
 (.seq (.ops [mV 36 8,oP 37 (.bin .neq (.t 36) (iC 1))])
 (.cond (.t 37) (.seq (.ops [oP 2 (.mv (.c (.bool false))),oP 3 (.mv (iC 0))])
 .ret) .skip))))
 (.ops [mV 26 6,oP 27 (.bin .add (.t 26) (iC 1)),mV 6 27])))
def k20:KC:=(.seq (.ops [oP 1 (.box true (.t 0)),oP 2 (.mv (.c (.bool false))),oP 3 (.mv (iC 0))])
 (.seq (.seq (.ops [oP 9 (.load true 3 (.t 1)),oP 10 (.call (fC 57) [(.t 9)]),oP 11 (.not (.t 10))])
 (.cond (.t 11) (.seq (.ops [oP 2 (.mv (.c (.bool false))),oP 3 (.mv (iC 1))])
 .ret) .skip))
 (.seq (.ops [oP 13 (.load true 3 (.t 1)),oP 14 (.call (fC 63) [(.t 13)]),oP 15 (.fieldV false 1 0 (.t 14)),oP 16 (.call (fC 62) [(.t 15),(.c (.nils))]),mV 12 16,oP 17 (.extr 0 (.t 12)),oP 18 (.extr 1 (.t 12)),mV 4 17,mV 5 18])
 (.seq (.seq (.ops [mV 19 5,oP 20 (.bin .neq (.t 19) (iC 0))])
 (.cond (.t 20) (.seq (.ops [mV 21 5,oP 2 (.mv (.c (.bool false))),mV 3 21])
 .ret) .skip))
 (.seq (.seq (.ops [oP 6 (.mv (iC 0))])
 (.block 0 (.loop k20_b0)))
 (.seq (.ops [oP 2 (.mv (.c (.bool true))),oP 3 (.mv (iC 0))])
 .ret))))))
theorem e20:Ent 20 38 [1] [.t 2,.t 3] k20:=ent Tryz.func20
end
section
attribute [local irreducible] ACall PCall KL
theorem lc_ok {fs:List (List Nat)} {n:Nat} (hf:∀ f∈fs,Ok f n) (h0:0<fs.length) (hfl:fs.length≤6):lcode (fs.map mp) []=0:=by
 have hs:same (fs.map mp)=true:=by
  unfold same
  rw [Bool.and_eq_true,decide_eq_true_iff,List.all_eq_true]
  refine ⟨by simp; omega,fun r hr=>?_⟩
  obtain ⟨f,hff,rfl⟩:=List.mem_map.1 hr
  rw [isM_mp (hf f hff),map_getD h0,mp_get0,mp_get0,(hf f hff).len,(hf _ (List.getElem_mem h0)).len]
  simp
 rw [same_lcode] at hs
 exact of_decide_eq_true hs
noncomputable def wgV (fs:List (List Nat)) (la:List Nat) (q:Nat):PV:=match clR (lsM fs la q) (kF fs la q).length with
 | none=>.tup [.bool false,.int .i64 3]
 | some Q=>.tup [.bool ((elS (kF fs la q).length Q).all (per1 (kF fs la q).length)),.int .i64 0]
theorem all_range {α:Type} [Inhabited α] (p:α→Bool) (S:List α):(List.range S.length).all (fun i=>p (S.getD i default))=S.all p:=by
 rw [Bool.eq_iff_iff,List.all_eq_true,List.all_eq_true]
 constructor
 ·intro h x hx
  obtain ⟨i,hi,rfl⟩:=List.getElem_of_mem hx
  have:=h i (List.mem_range.2 hi)
  rwa [List.getD_eq_getElem?_getD,List.getElem?_eq_getElem hi] at this
 ·intro h i hi
  have hi:=List.mem_range.1 hi
  rw [List.getD_eq_getElem?_getD,List.getElem?_eq_getElem hi]
  exact h _ (List.getElem_mem hi)
attribute [local irreducible] clR
set_option maxRecDepth 8000 in
theorem p19_in (fs:List (List Nat)) (n:Nat) (hf:∀ f∈fs,Ok f n) (hn5:n≤5) (h0:0<fs.length) (hfl:fs.length≤6) (q:Nat) (hq:q<n) (la:List Nat) (hst:stB (nz la) n=true) (hL:la.length≤1048576) :
  Pure Tryz.prog 19 [.agg [.list (aggs (fs.map mp)),.int .i64 q,.list (ints (nz la))]] (wgV fs la q):=by
 have hIs:=p46 fs n hf h0 hfl (lc_ok hf h0 hfl) q (nz la) (by rw [nz_len]; exact hL)
 rw [hst,decide_eq_true (by omega:0≤(q:Int)∧(q:Int)≤(n:Int) - 1)] at hIs
 have hLs:=p47 fs n hf hn5 h0 (by omega) q hq la hL
 have hO:=lsM_ok la hf hn5 hq
 have hml0:(lsM fs la q).length=fs.length:=by simp [lsM]
 have o5:=(ord_ok hf hn5 hq).len
 have hk1:=kF_pos (fs:=fs) (la:=la) (q:=q) o5.1
 have hk5:=kF_le fs la q
 have hlc:=lc_ok hO (by omega) (by omega)
 have hM:=monOk (lsM fs la q) (kF fs la q).length hk1 (by omega) hO (by omega)
 unfold MonOk at hM
 unfold wgV
 cases hR:clR (lsM fs la q) (kF fs la q).length with
 | none =>
  rw [hR] at hM
  simp only at hM ⊢
  have hE:=p58_of (lsM fs la q) _ hO (by omega) (by omega) hlc _ _ hM
  rw [if_neg (by decide)] at hE
  generalize lsM fs la q=gs at *
  refine e19 (by simp) fun _ _=>?_
  simp only [k19,argEnv,go_sem]
  try simp only [OpK_eq,HKv,subC3,go_sem]
  refine hIs.go ?_
  try simp only [OpK_eq,HKv,go_sem]
  refine hLs.go ?_
  try simp only [OpK_eq,HKv,subC3,go_sem]
  refine hE.go ?_
  try simp only [OpK_eq,HKv,go_sem]
  refine ⟨rfl,⟨rfl,rfl⟩,fun _=>Kv.Fin.still ⟨rfl,rfl⟩,fun h=>absurd h (by decide)⟩
 | some Q =>
  rw [hR] at hM
  simp only at hM ⊢
  obtain ⟨W,P,hW,hP,hM⟩:=hM
  have hE:=p58_of (lsM fs la q) _ hO (by omega) (by omega) hlc _ _ hM
  rw [if_pos rfl] at hE
  obtain ⟨c3,c4⟩:=clR_okQ hk1 (by omega) hO hR
  obtain ⟨s1,s2,s3⟩:=elS_ok c3
  generalize hS:elS (kF fs la q).length Q=S at *
  have hml:(moV (.list (aggs (S.map mp))) W P).length=3127:=by rw [moV,List.length_cons,List.length_cons,ints_length,hP.1]
  have hm0:(moV (.list (aggs (S.map mp))) W P)[0]? = some (.list (aggs (S.map mp))):=rfl
  have hSl:(S.map mp).length=S.length:=List.length_map _
  have hAll:=p59 (moV (.list (aggs (S.map mp))) W P) (S.map mp) (by omega) hml hm0 60 [.fptr [.fptr (moV (.list (aggs (S.map mp))) W P) 0] 0] (fun i=>per1 (kF fs la q).length (S.getD i [])) (fun i hi=>p60 (moV (.list (aggs (S.map mp))) W P) S (kF fs la q).length s1.1 (by omega) hml hm0 i (by omega))
  rw [hSl,show (fun i=>per1 (kF fs la q).length (S.getD i []))=(fun i=>per1 (kF fs la q).length (S.getD i default)) from rfl,all_range] at hAll
  have hstl:StillL (moV (.list (aggs (S.map mp))) W P):=inferInstance
  generalize moV (.list (aggs (S.map mp))) W P=mv at *
  have hputp:∀ v,putC [PV.nilptr] 0 [v] = [v]:=fun v=>by unfold putC; first | rfl | (split <;> rfl) | simp
  have hfcs:(PV.fptr mv 0).cs = [PV.fptr mv 0]:=rfl
  have hfok:(PV.fptr mv 0).ok=true:=rfl
  generalize lsM fs la q=gs at *
  refine e19 (by simp) fun _ _=>?_
  simp only [k19,argEnv,go_sem]
  try simp only [OpK_eq,HKv,subC3,go_sem]
  refine hIs.go ?_
  try simp only [OpK_eq,HKv,go_sem]
  refine hLs.go ?_
  try simp only [OpK_eq,HKv,subC3,go_sem]
  refine hE.go ?_
  try simp only [OpK_eq,HKv,hfcs,hfok,hputp,go_sem]
  refine ⟨rfl,?_⟩
  refine hAll.lend (.cons Imm.still (.cons (Imm.fnc _ (.cons (Imm.ptr 0 0 [.fptr mv 0] [.fptr mv 0] rfl rfl (by simp [PV.ok]) (fun j c d hc hd=>by rw [hc] at hd; cases hd; have:=List.mem_of_getElem? hc; simp only [List.mem_singleton] at this; subst this; exact .still)) (.nil _))) (.nil _))) ?_
  try simp only [OpK_eq,HKv,go_sem]
  exact Kv.Fin.still ⟨rfl,rfl⟩
theorem p20_in (fs:List (List Nat)) (n:Nat) (hf:∀ f∈fs,Ok f n) (hn5:n≤5) (h0:0<fs.length) (hfl:fs.length≤6) (q:Nat) (hq:q<n) (la:List Nat) (hla:∀ x∈la,x<5) (hst:stB (nz la) n=true) (hL:la.length≤1048576) :
  Pure Tryz.prog 20 [.agg [.list (aggs (fs.map mp)),.int .i64 q,.list (ints (nz la))]] (wgV fs la q):=by
 have hIs:=p57 fs n hf h0 hfl (lc_ok hf h0 hfl) q (nz la) (by rw [nz_len]; exact hL)
 rw [hst,decide_eq_true (by omega:0≤(q:Int)∧(q:Int)≤(n:Int) - 1)] at hIs
 have hLs:=p63 fs n hf hn5 h0 (by omega) q hq la hla hL
 have hO:=lsM_ok la hf hn5 hq
 have hml0:(lsM fs la q).length=fs.length:=by simp [lsM]
 have o5:=(ord_ok hf hn5 hq).len
 have hk1:=kF_pos (fs:=fs) (la:=la) (q:=q) o5.1
 have hk5:=kF_le fs la q
 have hlc:=lc_ok hO (by omega) (by omega)
 have hE:=p62_in (lsM fs la q) _ hk1 (by omega) hO (by omega) (by omega) hlc
 unfold wgV
 cases hR:clR (lsM fs la q) (kF fs la q).length with
 | none =>
  rw [hR] at hE
  simp only at hE ⊢
  generalize lsM fs la q=gs at *
  refine e20 (by simp) fun _ _=>?_
  simp only [k20,argEnv,go_sem]
  try simp only [OpK_eq,HKv,subC3,go_sem]
  refine hIs.go ?_
  try simp only [OpK_eq,HKv,subC3,go_sem]
  refine hLs.go ?_
  try simp only [OpK_eq,HKv,subC3,go_sem]
  refine hE.go ?_
  try simp only [OpK_eq,HKv,go_sem]
  exact ⟨fun _=>Kv.Fin.still ⟨rfl,rfl⟩,fun h=>absurd h (by decide)⟩
 | some Q =>
  rw [hR] at hE
  simp only at hE ⊢
  obtain ⟨c3,c4⟩:=clR_okQ hk1 (by omega) hO hR
  obtain ⟨s1,s2,s3⟩:=elS_ok c3
  generalize hS:elS (kF fs la q).length Q=S at *
  generalize lsM fs la q=gs at *
  have hSO:=s1.1
  generalize (kF fs la q).length=k at *
  refine e20 (by simp) fun _ _=>?_
  simp only [k20,argEnv,go_sem]
  try simp only [OpK_eq,HKv,subC3,go_sem]
  refine hIs.go ?_
  try simp only [OpK_eq,HKv,subC3,go_sem]
  refine hLs.go ?_
  try simp only [OpK_eq,HKv,subC3,go_sem]
  refine hE.go ?_
  try simp only [OpK_eq,HKv,go_sem]
  refine KL_ind k20_b0.eq_1 (fun x:Nat=>[(4,.list (aggs (S.map mp))),(6,.int .i64 x)]) (fun _=>[]) (fun x=>x≤S.length∧(S.take x).all (per1 k)=true) (fun x=>S.length - x) [4,6] 0 (by simp [keep]) rfl ⟨Nat.zero_le _,by simp⟩ fun x ⟨hx,hall⟩ ih=>?_
  try simp only [OpK_eq,HKv,aggs_length,List.length_map,go_sem]
  refine ⟨fun g1=>?_,fun g1=>?_⟩
  ·have hxl:x<S.length:=by omega
   have hO':=hSO _ (List.getElem_mem hxl)
   have h6:=hO'.mp_len
   have hg:(S.map mp).getD x []=mp S[x]:=by simp [List.getD_eq_getElem?_getD,hxl]
   try simp only [OpK_eq,HKv,aggs_length,List.length_map,hg,h6,go_sem]
   refine ⟨by omega,fun _=>?_⟩
   refine p64 S[x] k hO' fun a L hR hL=>?_
   have hp:=per1_eq hR
   try simp only [OpK_eq,HKv,go_sem]
   refine ⟨fun h=>?_,fun h=>⟨by omega,ih (x+1) ⟨by omega,?_⟩ (by omega) _ _ (by simp [keep]) rfl⟩⟩
   ·refine Kv.Fin.still ⟨?_,rfl⟩
    rw [List.all_eq_false.2 ⟨S[x],List.getElem_mem hxl,by rw [hp,decide_eq_false h]; simp⟩]
   ·rw [List.take_succ_eq_append_getElem hxl,List.all_append,hall,Bool.true_and,List.all_cons,hp,decide_eq_true h]; rfl
  ·obtain rfl:x=S.length:=by omega
   rw [List.take_length] at hall
   exact Kv.Fin.still ⟨by rw [hall],rfl⟩
theorem p19_bad (a:PV) [Still a] (h:∀ M q L,a = .agg [.list M,.int .i64 q,.list L]→Pure Tryz.prog 46 [a] (.bool false)) (M:List PV) (q:Int) (L:List PV) (e:a = .agg [.list M,.int .i64 q,.list L]) (hM:Still (.list M)) (hL:Still (.list L)):Pure Tryz.prog 19 [a] (.tup [.bool false,.int .i64 1]):=by
 have h:=h M q L e
 subst e
 refine e19 (by simp) fun _ _=>?_
 simp only [k19,argEnv,go_sem]
 try simp only [OpK_eq,HKv,subC3,go_sem]
 refine h.go ?_
 try simp only [OpK_eq,HKv,go_sem]
 exact Kv.Fin.still ⟨rfl,rfl⟩
theorem p20_bad (a:PV) [Still a] (h:∀ M q L,a = .agg [.list M,.int .i64 q,.list L]→Pure Tryz.prog 57 [a] (.bool false)) (M:List PV) (q:Int) (L:List PV) (e:a = .agg [.list M,.int .i64 q,.list L]) (hM:Still (.list M)) (hL:Still (.list L)):Pure Tryz.prog 20 [a] (.tup [.bool false,.int .i64 1]):=by
 have h:=h M q L e
 subst e
 refine e20 (by simp) fun _ _=>?_
 simp only [k20,argEnv,go_sem]
 try simp only [OpK_eq,HKv,subC3,go_sem]
 refine h.go ?_
 try simp only [OpK_eq,HKv,go_sem]
 exact Kv.Fin.still ⟨rfl,rfl⟩
end
end
section
section
set_option maxRecDepth 100000
def k12:KC:=(.seq (.ops [oP 1 (.box true (.t 0)),oP 2 (.alloc [.nils,.int .i64 0,.nils]),oP 3 (.mv (iC 0))])
 (.seq (.seq (.ops [oP 4 (.load true 3 (.t 1)),oP 5 (.call (fC 46) [(.t 4)]),oP 6 (.not (.t 5))])
 (.cond (.t 6) (.seq (.ops [oP 7 (.build [.nils,.int .i64 0,.nils] []),⟨none,none,.store 3 (.t 2) (.t 7)⟩,oP 3 (.mv (iC 1))])
 .ret) .skip))
 (.seq (.ops [oP 8 (.call (fC 47) [(.t 1)]),⟨none,none,.store 3 (.t 2) (.t 8)⟩,oP 3 (.mv (iC 0))])
 .ret)))
theorem e12:Ent 12 9 [1] [.cell 2 true 3,.t 3] k12:=ent Tryz.func12
def k24:KC:=(.seq (.ops [oP 3 (.box true (.t 0)),oP 6 (.mv (.c (.nils))),oP 7 (.mv (iC 0))])
 (.seq (.seq (.ops [oP 8 (.load true 3 (.t 3)),oP 9 (.call (fC 46) [(.t 8)]),oP 10 (.not (.t 9))])
 (.cond (.t 10) (.seq (.ops [oP 6 (.mv (.c (.nils))),oP 7 (.mv (iC 1))])
 .ret) .skip))
 (.seq (.seq (.ops [oP 11 (.fieldA 0 (.t 3)),oP 12 (.load false 1 (.t 11)),mV 13 1,oP 14 (.call (fC 69) [(.t 12),(.t 13)]),oP 15 (.not (.t 14)),mV 16 15,⟨(some 17),some (16,false),.fieldA 0 (.t 3)⟩,⟨(some 18),some (16,false),.load false 1 (.t 17)⟩,⟨(some 19),some (16,false),.mv (.t 2)⟩,⟨(some 20),some (16,false),.call (fC 69) [(.t 18),(.t 19)]⟩,⟨(some 21),some (16,false),.not (.t 20)⟩,oP 22 (.pick (.t 16) (.c (.bool true)) (.t 21))])
 (.cond (.t 22) (.seq (.ops [oP 6 (.mv (.c (.nils))),oP 7 (.mv (iC 2))])
 .ret) .skip))
 (.seq (.ops [mV 23 1,mV 24 2,oP 25 (.call (fC 70) [(.t 3),(.t 23),(.t 24)]),oP 26 (.extr 0 (.t 25)),oP 27 (.extr 1 (.t 25)),mV 6 26,mV 7 27])
 .ret))))
theorem e24:Ent 24 28 [3] [.t 6,.t 7] k24:=ent Tryz.func24
def k25:KC:=(.seq (.ops [oP 3 (.box true (.t 0)),oP 6 (.mv (.c (.nils))),oP 7 (.mv (iC 0))])
 (.seq (.block 0 (.seq (.ops [oP 11 (.load true 3 (.t 3)),oP 12 (.call (fC 57) [(.t 11)]),oP 13 (.not (.t 12)),mV 10 13])
 (.cond (.t 10) (.seq (.ops [oP 6 (.mv (.c (.nils))),oP 7 (.mv (iC 1))])
 .ret) (.seq (.ops [mV 15 1,oP 16 (.fieldA 0 (.t 3)),oP 17 (.load false 1 (.t 16)),oP 18 (.idxS 6 (.t 17) (iC 0)),oP 19 (.fieldA 0 (.t 18)),oP 20 (.load false 1 (.t 19)),oP 21 (.bin .sub (.t 20) (iC 1)),oP 22 (.call (fC 71) [(.t 15),(iC 0),(.t 21)]),oP 23 (.not (.t 22)),mV 24 23,⟨(some 25),some (24,false),.mv (.t 2)⟩,⟨(some 26),some (24,false),.fieldA 0 (.t 3)⟩,⟨(some 27),some (24,false),.load false 1 (.t 26)⟩,⟨(some 28),some (24,false),.idxS 6 (.t 27) (iC 0)⟩,⟨(some 29),some (24,false),.fieldA 0 (.t 28)⟩,⟨(some 30),some (24,false),.load false 1 (.t 29)⟩,⟨(some 31),some (24,false),.bin .sub (.t 30) (iC 1)⟩,⟨(some 32),some (24,false),.call (fC 71) [(.t 25),(iC 0),(.t 31)]⟩,⟨(some 33),some (24,false),.not (.t 32)⟩,oP 34 (.pick (.t 24) (.c (.bool true)) (.t 33)),mV 14 34])
 (.cond (.t 14) (.seq (.ops [oP 6 (.mv (.c (.nils))),oP 7 (.mv (iC 2))])
 .ret) .skip)))))
 (.seq (.ops [oP 36 (.load true 3 (.t 3)),oP 37 (.load true 3 (.t 3)),mV 38 1,mV 39 2,oP 40 (.call (fC 45) [(.t 36),(.t 37),(.t 38),(.t 39)]),mV 35 40,oP 41 (.extr 0 (.t 35)),oP 42 (.extr 1 (.t 35)),mV 8 41,mV 9 42])
 (.seq (.seq (.ops [mV 43 9,oP 44 (.not (.t 43))])
 (.cond (.t 44) (.seq (.ops [oP 6 (.mv (.c (.nils))),oP 7 (.mv (iC 4))])
 .ret) .skip))
 (.seq (.ops [mV 45 8,mV 6 45,oP 7 (.mv (iC 0))])
 .ret)))))
theorem e25:Ent 25 46 [3] [.t 6,.t 7] k25:=ent Tryz.func25
end
section
attribute [local irreducible] ACall PCall KL
structure GoodA (fs:List (List Nat)) (n q:Nat) (la:List Nat):Prop where
 ok:∀ f∈fs,Ok f n
 h0:0<fs.length
 fl:fs.length≤6
 n5:n≤5
 qn:q<n
 st:stB (nz la) n=true
 lt:∀ x∈la,x<n
 ll:la.length≤1048576
abbrev acv (M:List (List Int)) (q:Int) (L:List Int):PV:=.agg [.list (aggs M),.int .i64 q,.list (ints L)]
abbrev gav (fs:List (List Nat)) (q:Nat) (la:List Nat):PV:=acv (fs.map mp) q (nz la)
theorem stB_points {L:List Int} {n:Nat} (h:stB L n=true):∃ la:List Nat,L=nz la∧∀ x∈la,x<n:=by
 by_cases h0:L = []
 ·exact ⟨[],h0,by simp⟩
 ·obtain ⟨l,e,_,hl,_⟩:=stB_asc h h0
  exact ⟨l,e,hl⟩
theorem GoodA.i {fs:List (List Nat)} {n q:Nat} {la:List Nat} (h:GoodA fs n q la):Pure Tryz.prog 46 [gav fs q la] (.bool true):=by
 have:=p46 fs n h.ok h.h0 h.fl (lc_ok h.ok h.h0 h.fl) q (nz la) (by rw [nz_len]; exact h.ll)
 have hq:=h.qn
 rwa [h.st,decide_eq_true (by omega:0≤(q:Int)∧(q:Int)≤(n:Int) - 1)] at this
theorem GoodA.s {fs:List (List Nat)} {n q:Nat} {la:List Nat} (h:GoodA fs n q la):Pure Tryz.prog 57 [gav fs q la] (.bool true):=by
 have:=p57 fs n h.ok h.h0 h.fl (lc_ok h.ok h.h0 h.fl) q (nz la) (by rw [nz_len]; exact h.ll)
 have hq:=h.qn
 rwa [h.st,decide_eq_true (by omega:0≤(q:Int)∧(q:Int)≤(n:Int) - 1)] at this
theorem GoodA.l5 {fs:List (List Nat)} {n q:Nat} {la:List Nat} (h:GoodA fs n q la):∀ x∈la,x<5:=fun x hx=>by
 have:=h.lt x hx; have:=h.n5; omega
theorem acc_cases (M:List (List Int)) (q:Int) (L:List Int) (hM:M.length≤1048576) (h6:∀ r∈M,r.length=6) (hL:L.length≤1048576) :
  (Pure Tryz.prog 46 [acv M q L] (.bool false)∧Pure Tryz.prog 57 [acv M q L] (.bool false))∨∃ fs n q' la,M=fs.map mp∧q=((q':Nat):Int)∧L=nz la∧GoodA fs n q' la:=by
 by_cases hc:lcode M []=0
 ·obtain ⟨fs,n,rfl,hf,hl1,hl2,hn,hn1,hn5⟩:=lcode_maps h6 hc
  have h0:0<fs.length:=by omega
  have e1:=p46 fs n hf h0 hl2 hc q L hL
  have e2:=p57 fs n hf h0 hl2 hc q L hL
  cases hb:(decide (0≤q∧q≤(n:Int) - 1) && stB L n) with
  | false=>rw [hb] at e1 e2; exact .inl ⟨e1,e2⟩
  | true =>
   rw [Bool.and_eq_true,decide_eq_true_iff] at hb
   obtain ⟨hq,hst⟩:=hb
   obtain ⟨la,rfl,hla⟩:=stB_points hst
   exact .inr ⟨fs,n,q.toNat,la,rfl,by omega,rfl,hf,h0,hl2,hn5,by omega,hst,hla,by rw [nz_len] at hL; exact hL⟩
 ·exact .inl ⟨p46_no M q L hM h6 hc,p57_no M q L hM h6 hc⟩
theorem p12_in {fs:List (List Nat)} {n q:Nat} {la:List Nat} (h:GoodA fs n q la):Pure Tryz.prog 12 [gav fs q la] (.tup [gav (lsM fs la q) 0 (lsL fs la q),.int .i64 0]):=by
 have hL:=p47 fs n h.ok h.n5 h.h0 (by have:=h.fl; omega) q h.qn la h.ll
 have hi:=h.i
 refine e12 (by simp) fun _ _=>?_
 simp only [k12,argEnv,go_sem]
 try simp only [OpK_eq,HKv,subC3,go_sem]
 refine hi.go ?_
 try simp only [OpK_eq,HKv,subC3,go_sem]
 refine hL.go ?_
 try simp only [OpK_eq,HKv,subC3,putC3,go_sem]
 exact Kv.Fin.still ⟨rfl,rfl⟩
theorem p24_bad (M:List (List Int)) (q:Int) (L:List Int) (a b:Int) (h:Pure Tryz.prog 46 [acv M q L] (.bool false)):Pure Tryz.prog 24 [acv M q L,.int .i64 a,.int .i64 b] (.tup [.nils,.int .i64 1]):=by
 refine e24 (by simp) fun _ _=>?_
 simp only [k24,argEnv,go_sem]
 try simp only [OpK_eq,HKv,subC3,go_sem]
 refine h.go ?_
 try simp only [OpK_eq,HKv,subC3,go_sem]
 exact Kv.Fin.still ⟨rfl,rfl⟩
theorem p25_bad (M:List (List Int)) (q:Int) (L:List Int) (a b:Int) (h:Pure Tryz.prog 57 [acv M q L] (.bool false)):Pure Tryz.prog 25 [acv M q L,.int .i64 a,.int .i64 b] (.tup [.nils,.int .i64 1]):=by
 refine e25 (by simp) fun _ _=>?_
 simp only [k25,argEnv,go_sem]
 try simp only [OpK_eq,HKv,subC3,go_sem]
 refine h.go ?_
 try simp only [OpK_eq,HKv,subC3,go_sem]
 exact Kv.Fin.still ⟨rfl,rfl⟩
noncomputable def faV (fs:List (List Nat)) (n:Nat) (la:List Nat) (a b:Int):PV:=if (0≤a∧a≤(n:Int) - 1)∧(0≤b∧b≤(n:Int) - 1) then apV (fwp fs fs la la a.toNat b.toNat) else .tup [.nils,.int .i64 2]
theorem p24_in {fs:List (List Nat)} {n q:Nat} {la:List Nat} (h:GoodA fs n q la) (a b:Int):Pure Tryz.prog 24 [gav fs q la,.int .i64 a,.int .i64 b] (faV fs n la a b):=by
 have hi:=h.i
 have hA:=p69 fs n h.ok h.h0 a
 have hB:=p69 fs n h.ok h.h0 b
 by_cases ha:0≤a∧a≤(n:Int) - 1
 ·rw [decide_eq_true ha] at hA
  by_cases hb:0≤b∧b≤(n:Int) - 1
  ·rw [decide_eq_true hb] at hB
   have hap:=p70 fs n h.ok h.n5 (by have:=h.fl; omega) (.int .i64 q) la h.ll a.toNat b.toNat (by omega) (by omega)
   have ea:((a.toNat:Nat):Int)=a:=by omega
   have eb:((b.toNat:Nat):Int)=b:=by omega
   rw [ea,eb] at hap
   rw [faV,if_pos ⟨ha,hb⟩]
   generalize fwp fs fs la la a.toNat b.toNat=o at *
   cases o with
   | none =>
    simp only [apV] at hap ⊢
    refine e24 (by simp) fun _ _=>?_
    simp only [k24,argEnv,go_sem]
    try simp only [OpK_eq,HKv,subC3,go_sem]
    refine hi.go ?_
    try simp only [OpK_eq,HKv,subC3,go_sem]
    refine hA.go ?_
    try simp only [OpK_eq,HKv,subC3,go_sem]
    refine hB.go ?_
    try simp only [OpK_eq,HKv,subC3,go_sem]
    refine hap.go ?_
    try simp only [OpK_eq,HKv,go_sem]
    exact Kv.Fin.still ⟨rfl,rfl⟩
   | some w =>
    simp only [apV] at hap ⊢
    refine e24 (by simp) fun _ _=>?_
    simp only [k24,argEnv,go_sem]
    try simp only [OpK_eq,HKv,subC3,go_sem]
    refine hi.go ?_
    try simp only [OpK_eq,HKv,subC3,go_sem]
    refine hA.go ?_
    try simp only [OpK_eq,HKv,subC3,go_sem]
    refine hB.go ?_
    try simp only [OpK_eq,HKv,subC3,go_sem]
    refine hap.go ?_
    try simp only [OpK_eq,HKv,go_sem]
    exact Kv.Fin.still ⟨rfl,rfl⟩
  ·rw [decide_eq_false hb] at hB
   rw [faV,if_neg (fun h=>hb h.2)]
   refine e24 (by simp) fun _ _=>?_
   simp only [k24,argEnv,go_sem]
   try simp only [OpK_eq,HKv,subC3,go_sem]
   refine hi.go ?_
   try simp only [OpK_eq,HKv,subC3,go_sem]
   refine hA.go ?_
   try simp only [OpK_eq,HKv,subC3,go_sem]
   refine hB.go ?_
   try simp only [OpK_eq,HKv,subC3,go_sem]
   exact Kv.Fin.still ⟨rfl,rfl⟩
 ·rw [decide_eq_false ha] at hA
  rw [faV,if_neg (fun h=>ha h.1)]
  refine e24 (by simp) fun _ _=>?_
  simp only [k24,argEnv,go_sem]
  try simp only [OpK_eq,HKv,subC3,go_sem]
  refine hi.go ?_
  try simp only [OpK_eq,HKv,subC3,go_sem]
  refine hA.go ?_
  try simp only [OpK_eq,HKv,subC3,go_sem]
  exact Kv.Fin.still ⟨rfl,rfl⟩
theorem p25_in {fs:List (List Nat)} {n q:Nat} {la:List Nat} (h:GoodA fs n q la) (a b:Int):Pure Tryz.prog 25 [gav fs q la,.int .i64 a,.int .i64 b] (faV fs n la a b):=by
 have hi:=h.s
 have hA:=p71 a 0 ((n:Int) - 1)
 have hB:=p71 b 0 ((n:Int) - 1)
 obtain ⟨e1,e2,e3⟩:=mpD0 h.ok h.h0
 have h0:=h.h0
 have hn5:=h.n5
 by_cases ha:0≤a∧a≤(n:Int) - 1
 ·rw [decide_eq_true ha] at hA
  by_cases hb:0≤b∧b≤(n:Int) - 1
  ·rw [decide_eq_true hb] at hB
   have hap:=p45 fs fs n n h.ok h.ok h.h0 rfl (by have:=h.fl; omega) h.n5 h.n5 la la h.l5 h.l5 h.ll h.ll q q a.toNat b.toNat (by omega) (by omega)
   have ea:((a.toNat:Nat):Int)=a:=by omega
   have eb:((b.toNat:Nat):Int)=b:=by omega
   rw [ea,eb] at hap
   rw [faV,if_pos ⟨ha,hb⟩]
   generalize fwp fs fs la la a.toNat b.toNat=o at *
   refine e25 (by simp) fun _ _=>?_
   simp only [k25,argEnv,go_sem]
   try simp only [OpK_eq,HKv,subC3,go_sem]
   refine hi.go ?_
   try simp only [OpK_eq,HKv,subC3,e1,e2,e3,List.length_map,go_sem]
   refine ⟨by omega,fun _=>⟨by omega,?_⟩⟩
   refine hA.go ?_
   try simp only [OpK_eq,HKv,subC3,e1,e2,e3,List.length_map,go_sem]
   refine ⟨by omega,fun _=>⟨by omega,?_⟩⟩
   refine hB.go ?_
   try simp only [OpK_eq,HKv,subC3,go_sem]
   cases o with
   | none =>
    simp only [apV,apW] at hap ⊢
    refine hap.go ?_
    try simp only [OpK_eq,HKv,go_sem]
    exact Kv.Fin.still ⟨rfl,rfl⟩
   | some w =>
    simp only [apV,apW] at hap ⊢
    refine hap.go ?_
    try simp only [OpK_eq,HKv,go_sem]
    exact Kv.Fin.still ⟨rfl,rfl⟩
  ·rw [decide_eq_false hb] at hB
   rw [faV,if_neg (fun h=>hb h.2)]
   refine e25 (by simp) fun _ _=>?_
   simp only [k25,argEnv,go_sem]
   try simp only [OpK_eq,HKv,subC3,go_sem]
   refine hi.go ?_
   try simp only [OpK_eq,HKv,subC3,e1,e2,e3,List.length_map,go_sem]
   refine ⟨by omega,fun _=>⟨by omega,?_⟩⟩
   refine hA.go ?_
   try simp only [OpK_eq,HKv,subC3,e1,e2,e3,List.length_map,go_sem]
   refine ⟨by omega,fun _=>⟨by omega,?_⟩⟩
   refine hB.go ?_
   try simp only [OpK_eq,HKv,subC3,go_sem]
   exact Kv.Fin.still ⟨rfl,rfl⟩
 ·rw [decide_eq_false ha] at hA
  rw [faV,if_neg (fun h=>ha h.1)]
  refine e25 (by simp) fun _ _=>?_
  simp only [k25,argEnv,go_sem]
  try simp only [OpK_eq,HKv,subC3,go_sem]
  refine hi.go ?_
  try simp only [OpK_eq,HKv,subC3,e1,e2,e3,List.length_map,go_sem]
  refine ⟨by omega,fun _=>⟨by omega,?_⟩⟩
  refine hA.go ?_
  try simp only [OpK_eq,HKv,subC3,go_sem]
  exact Kv.Fin.still ⟨rfl,rfl⟩
end
end
section
section
set_option maxRecDepth 100000
def k14:KC:=(.seq (.ops [oP 2 (.box true (.t 0)),oP 4 (.mv (.c (.bool false))),oP 5 (.mv (iC 0))])
 (.seq (.seq (.ops [oP 6 (.load true 3 (.t 2)),oP 7 (.call (fC 46) [(.t 6)]),oP 8 (.not (.t 7))])
 (.cond (.t 8) (.seq (.ops [oP 4 (.mv (.c (.bool false))),oP 5 (.mv (iC 1))])
 .ret) .skip))
 (.seq (.seq (.ops [oP 9 (.fieldA 0 (.t 2)),oP 10 (.load false 1 (.t 9)),mV 11 1,oP 12 (.call (fC 49) [(.t 10),(.t 11),(iC 40)]),oP 13 (.not (.t 12))])
 (.cond (.t 13) (.seq (.ops [oP 4 (.mv (.c (.bool false))),oP 5 (.mv (iC 2))])
 .ret) .skip))
 (.seq (.draw [oP 14 (.fieldA 0 (.t 2)),oP 15 (.load false 1 (.t 14)),mV 16 1,oP 19 (.fieldA 1 (.t 2)),oP 20 (.load false 1 (.t 19)),oP 17 (.pcall (fC 51) [(.t 15),(.t 16)]),oP 18 (.fieldV true 5 1 (.t 17)),oP 21 (.idxV 5 1 false (.t 18) (.t 20)),oP 22 (.pcall (fC 50) [(.t 2),(.t 21)]),mV 4 22,oP 5 (.mv (iC 0))])
 .ret))))
theorem e14:Ent 14 23 [2] [.t 4,.t 5] k14:=ent Tryz.func14
end
section
attribute [local irreducible] ACall PCall KL
theorem mw_rnw {fs:List (List Nat)} {n q:Nat} (hf:∀ f∈fs,Ok f n) (h1:1≤n) (h5:n≤5) (hq:q<n) (w:List Nat) (hw:∀ k∈w,k<fs.length):(mw fs (List.range n) (nz w)).getD q 0=rnw fs w q:=by
 have key:∀ (w:List Nat) (f0:List Nat),Ok f0 n→(∀ k∈w,k<fs.length)→(mw fs f0 (nz w)).getD q 0=rnw fs w (f0.getD q 0):=fun w=>by
  induction w with
  | nil=>exact fun f0 _ _=>rfl
  | cons k w ih =>
   intro f0 h0 hw
   have hk:=hw k (by simp)
   have hm:fs.getD k []∈fs:=by rw [List.getD_eq_getElem?_getD,List.getElem?_eq_getElem hk]; exact List.getElem_mem _
   have e:mw fs f0 (nz (k :: w))=mw fs (mul f0 (fs.getD k [])) (nz w):=by
    show mw fs (mul f0 (fs.getD ((k:Int)).toNat [])) (nz w)=_
    rw [Int.toNat_natCast]
   rw [e,ih _ (h0.mul (hf _ hm)) fun c hc=>hw c (by simp [hc])]
   have e2:(mul f0 (fs.getD k [])).getD q 0=(fs.getD k []).getD (f0.getD q 0) 0:=by
    have:q<f0.length:=by rw [h0.len]; exact hq
    simp [mul,List.getD_eq_getElem?_getD,this]
   rw [e2]; rfl
 rw [key w _ (range_ok h1 h5) hw]
 congr 1
 simp [List.getD_eq_getElem?_getD,hq]
theorem p14_in {fs:List (List Nat)} {n q:Nat} {la:List Nat} (h:GoodA fs n q la) (w:List Nat) (hw:∀ k∈w,k<fs.length) (hl:w.length≤40):Pure Tryz.prog 14 [gav fs q la,.list (ints (nz w))] (.tup [.bool (decide (rnw fs w q∈la)),.int .i64 0]):=by
 have hfl:=h.fl
 have hn5:=h.n5
 have hqn:=h.qn
 have hn1:1≤n:=(h.ok _ (List.getElem_mem h.h0)).pos
 have hwi:∀ k∈nz w,0≤k∧k≤(fs.length:Int) - 1:=fun k hk=>by
  obtain ⟨z,hz,rfl⟩:=List.mem_map.1 hk
  have:=hw z hz; omega
 have hW:=p49m (fs.map mp) (by simp; omega) (nz w) (by rw [List.length_map]; exact hwi) 40 (by omega) (by rw [nz_len]; exact hl)
 have hM:=p51 fs n hn1 hn5 h.ok h.h0 (by omega) (nz w) hwi (by rw [nz_len]; omega)
 have hi:=h.i
 have hmw:(mw fs (List.range n) (nz w)).getD q 0=rnw fs w q:=mw_rnw h.ok hn1 hn5 hqn w hw
 have hmo:Ok (mw fs (List.range n) (nz w)) n:=mw_ok h.ok _ _ (range_ok hn1 hn5) hwi
 have h6:=hmo.mp_len
 generalize mw fs (List.range n) (nz w)=g at *
 have hqt:(q:Int).toNat=q:=by omega
 have hLs:=p50 (.list (aggs (fs.map mp))) (.int .i64 q) la h.ll (rnw fs w q)
 refine e14 (by simp) fun _ _=>?_
 simp only [k14,argEnv,go_sem]
 try simp only [OpK_eq,HKv,subC3,go_sem]
 refine hi.go ?_
 try simp only [OpK_eq,HKv,subC3,go_sem]
 refine hW.go ?_
 try simp only [OpK_eq,HKv,subC3,go_sem]
 refine hM.pgo ?_
 try simp only [OpK_eq,HKv,h6,hqt,hmw,go_sem]
 refine ⟨by omega,?_⟩
 have hL5:(List.take 5 (List.drop 1 (mp g))).length=5:=by
  rw [List.length_take,List.length_drop]; omega
 have hG5:(List.take 5 (List.drop 1 (mp g))).getD q 0=(rnw fs w q:Int):=by
  have e:(List.take 5 (List.drop 1 (mp g))).getD q 0=(mp g).getD (q+1) 0:=by
   rw [List.getD_eq_getElem?_getD,List.getElem?_take,if_pos (by omega),List.getElem?_drop,List.getD_eq_getElem?_getD,Nat.add_comm]
  rw [e,mp_get,hmw]
 refine ⟨by omega,fun _=>?_⟩
 rw [hG5]
 refine hLs.pgo ?_
 try simp only [OpK_eq,HKv,go_sem]
 exact Kv.Fin.still ⟨rfl,rfl⟩
end
end
end Go.Proofs.YtcfmmmloeaggmaaGreat
section
section
namespace Go.Kv
set_option linter.unusedVariables false
set_option linter.unusedSimpArgs false
variable {P:Program} {N n0:Nat}

def okW (ops:Array Oper) (F:List Nat) (i:Nat):Option (List Nat) :=
 match ops[i]? with
 | none=>none
 | some o=>if o.guard.isSome=true then none else
  match o.op with
  | .alloc _=>(match o.dst with | some d=>some (d :: F) | none=>none)
  | .store _ x _=>(match trX x,o.dst with | some (.t s),none=>if F.contains s=true then some F else none | _,_=>none)
  | _=>none
def trTreeW (ops:Array Oper) (kos:List KO):Nat→Array Bool→List Nat→Option KT
 | 0,listed,_=>if Region.ready .any ops listed = [] then some .fin else none
 | n+1,listed,F =>
  if Region.ready .any ops listed = [] then some .fin else
  altsT (fun i=>match okW ops F i with
   | some F'=>(match kos[i]? with | some k=>(trTreeW ops kos n (listed.setIfInBounds i true) F').map (.op k) | none=>none)
   | none=>none) (Region.ready .any ops listed)
def trTreeS (ops:Array Oper) (kos:List KO):Nat→Array Bool→Option KT
 | 0,listed=>trTreeW ops kos 0 listed []
 | n+1,listed =>
  match (Region.ready .any ops listed).find? (fun i=>(match kos[i]? with | some k=>quietP k.p | none=>false) && Region.free .any ops listed i) with
  | some i=>(match kos[i]? with | some k=>(trTreeS ops kos n (listed.setIfInBounds i true)).map (.op k) | none=>none)
  | none=>trTreeW ops kos (n+1) listed []
def trDrawS (P:Program) (fz:List Nat) (N:Nat) (ops:Array Oper):Option KT :=
 if ops.size<20 then trDrawT P fz N ops else do
 let kos ← ops.toList.mapM (trOper P fz N ops)
 if guardsOK N kos && Region.noSelect ops then trTreeS ops kos ops.size (Array.replicate ops.size false) else none

def FreshF (F:List Nat) (env:Env) (ι:List KLoc) (wS:World):Prop:=∀ t∈F,∃ id b,look env t = .ptr id 0∧ι[id]? = some (.box b)∧wS.heap.size≤b

theorem alloc_step {fz:List Nat} {o:Oper} {t:TypeId} (hop:o.op = .alloc t) {d:Option Nat} {p:KP} (h:trOp P fz d o.op=some p) {K:PV→Heap→Prop} {env:Env} {σ:Heap} {φ:Frz} {ι:List KLoc} {w:World} {a:Act} (ha:aOp P p env σ K) (h1:HOK φ ι σ w) :
  ∃ C zs,(execOp a.eval o).run P w = .ok (.value (.pointer (some ⟨w.heap.size,0,none⟩))) (w.alloc (.cells C t))∧HOK φ (ι ++ [.box w.heap.size]) (σ ++ [.box zs]) (w.alloc (.cells C t))∧Tr σ.length φ ι w φ (ι ++ [.box w.heap.size]) (w.alloc (.cells C t))∧Rel φ (ι ++ [.box w.heap.size]) (.ptr σ.length 0) (.pointer (some ⟨w.heap.size,0,none⟩))∧K (.ptr σ.length 0) (σ ++ [.box zs]):=by
 rw [hop] at h
 simp only [trOp,Option.bind_eq_bind,Option.bind_eq_some_iff,Option.some.injEq] at h
 obtain ⟨z,⟨i,hi,hz⟩,zs,hzs,rfl⟩:=h
 obtain ⟨hok,hK⟩:=ha
 obtain ⟨g1,g2,g3⟩:=new_box (e:=t) h1 (cvs_rel φ ι hzs) hok
 exact ⟨z.cells,zs,by simp [execOp,hop,Instr.alloc,zeroValue,typeInfo,hi,hz,newVar,newRow],g1,g2,g3,hK⟩

theorem store_step {fz:List Nat} {o:Oper} {t:TypeId} {x y:Operand} (hop:o.op = .store t x y) {s id b:Nat} (hx:trX x=some (.t s)) {d:Option Nat} {p:KP} (h:trOp P fz d o.op=some p) {K:PV→Heap→Prop} {env:Env} {σ:Heap} {φ:Frz} {ι:List KLoc} {w wS:World} {a:Act} (ha:aOp P p env σ K) (h1:HOK φ ι σ w) (h2:EOK N φ ι env a) (hl:look env s = .ptr id 0) (hb:ι[id]? = some (.box b)) (hbS:wS.heap.size≤b) (ho:Old wS w) :
  ∃ w',(execOp a.eval o).run P w = .ok .skip w'∧Old wS w':=by
 rw [hop] at h
 simp only [trOp,Option.bind_eq_bind,Option.bind_eq_some_iff] at h
 obtain ⟨n,hn,h⟩:=h
 split at h
 ·cases h
 rename_i hpos
 simp only [Option.bind_eq_some_iff,Option.some.injEq] at h
 obtain ⟨x',hx',y',hy',rfl⟩:=h
 rw [hx] at hx'; cases hx'
 have hr:=trX_rel (φ:=φ) (ι:=ι) h2 hx
 have hy:=trX_rel (φ:=φ) (ι:=ι) h2 hy'
 simp only [aOp] at ha
 have hk:kx env (.t s) = .ptr id 0:=hl
 rw [hk] at hr ha
 obtain ⟨cs,hos,q1,q2,q3⟩:∃ cs,σ[id]? = some (.box cs)∧(kx env y').cs.length=n∧(kx env y').cs.all PV.ok=true∧0+n≤cs.length:=by
  simp only [aStore] at ha
  split at ha
  ·rename_i cs hos
   exact ⟨cs,hos,ha.1.1,ha.1.2.1,ha.1.2.2⟩
  ·exact ha.elim
 obtain ⟨b1,hb1,hev⟩:=hr.ptr_inv
 rw [hb] at hb1; cases hb1
 obtain ⟨b',hb',C,e,hC,hR,hok⟩:=box_open h1 hos
 rw [hb] at hb'; cases hb'
 have hyc:=hy.cells q2
 have hlen:(a.eval y).cells.toList.length=n:=by rw [← hyc.1,q1]
 have hCl:cs.length=C.size:=by simpa using hR.1
 have hone:=oneCells hyc q2
 have hst:=run_storeCells_at P b 0 e (a.eval y).cells.toList 0 C w hC (by rw [hlen]; omega) hone
 simp only [Nat.add_zero] at hst
 have hrun:(Instr.storeAt t (a.eval x) (a.eval y)).run P w = .ok () (w.setRow b (C.toList.take 0 ++ (a.eval y).cells.toList ++ C.toList.drop (0+(a.eval y).cells.toList.length)).toArray):=by
  have:(a.eval y).cells.size=n:=by simpa using hlen
  rw [hev]
  simp only [Instr.storeAt,Instr.sureAddr,Sem.run_bind,Sem.run_pure,Result.andThen_ok,storeVar,szT_run hn,this]
  simpa using hst
 have hold:Old wS (w.setRow b (C.toList.take 0 ++ (a.eval y).cells.toList ++ C.toList.drop (0+(a.eval y).cells.toList.length)).toArray):=by
  refine ⟨fun k hk=>?_,?_,ho.os,ho.tp,ho.out⟩
  ·rw [setRow_other _ _ _ _ (by omega)]; exact ho.same k hk
  ·have:=ho.sz; simpa using this
 generalize w.setRow b (C.toList.take 0 ++ (a.eval y).cells.toList ++ C.toList.drop (0+(a.eval y).cells.toList.length)).toArray=w1 at hrun hold
 exact ⟨w1,by simp [execOp,hop,hrun],hold⟩

section
variable {ops:Array Oper} {kos:List KO} {fz:List Nat} {φ0:Frz} {ι0:List KLoc} {w0:World} {Q:Exit→Env→Heap→Prop}
theorem treeW_sound (hm:ops.toList.mapM (trOper P fz N ops)=some kos) {wS:World}:∀ (n:Nat) (listed:Array Bool) (F:List Nat) (t:KT) (env:Env) (σ:Heap) (φ:Frz) (ι:List KLoc) (a:Act) (w:World),
  trTreeW ops kos n listed F=some t→Old wS w→FreshF F env ι wS→Tr n0 φ0 ι0 w0 φ ι w→HOK φ ι σ w→EOK N φ ι env a→n0≤σ.length→vT P t Q env σ →
  wpH P .any ops (AWR N n0 φ0 ι0 w0 (NP Q)) (fun _=>false) (Old wS) n listed a w
 | 0,listed,F,t,env,σ,φ,ι,a,w,h,ho,hF,ht,h1,h2,hs,hv=>by
  unfold trTreeW at h
  split at h
  ·rename_i hr
   cases h
   exact ⟨hr,φ,ι,env,σ,ht,h1,⟨h2,hs⟩,hv⟩
  ·cases h
 | n+1,listed,F,t,env,σ,φ,ι,a,w,h,ho,hF,ht,h1,h2,hs,hv=>by
  unfold trTreeW at h
  split at h
  ·rename_i hr
   cases h
   exact wpH_done hr ⟨φ,ι,env,σ,ht,h1,⟨h2,hs⟩,hv⟩ (n+1)
  rename_i hne
  refine ⟨fun h0=>absurd h0 hne,fun i hi=>?_⟩
  obtain ⟨u',hu',hv'⟩:=altsT_spec h hv i hi
  split at hu'
  ·rename_i F' hF'
   split at hu'
   ·rename_i k hki
    simp only [Option.map_eq_some_iff] at hu'
    obtain ⟨u,hu,rfl⟩:=hu'
    obtain ⟨o,hoi,htr⟩:=mapM_get hm hki
    obtain ⟨p,g,hp,hg,hd,rfl⟩:=trOper_dst htr
    simp only [okW,hoi] at hF'
    split at hF'
    ·cases hF'
    rename_i hgn
    have hgn':o.guard=none:=by cases hq:o.guard <;> simp_all
    have hgn2:g=none:=by simp [trGuard,hgn'] at hg; exact hg.symm
    subst hgn2
    rw [vT_op'] at hv'
    unfold vOps at hv'
    simp only at hv'
    have hw:Region.wanted o (yielded ops a.tmps)=true:=by simp [Region.wanted,hgn']
    unfold wpOp
    simp only [hoi,hw,if_true]
    split at hF'
    ·-- a new box
     rename_i t hop
     split at hF'
     ·rename_i d hdst
      cases hF'
      obtain ⟨C,zs,g1,g2,g3,g4,g5⟩:=alloc_step (a:=a) hop hp hv' h1
      have hold:Old w (w.alloc (.cells C t)):=⟨fun b hb=>alloc_old w _ hb,by rw [alloc_size]; omega,rfl,rfl,rfl⟩
      have hle:=Tr.le h1 g3
      refine .inl (wp_val g1 ⟨fun _=>.inl (ho.trans hold),?_⟩)
      refine treeW_sound hm n _ _ u _ _ φ _ _ _ hu (ho.trans hold) ?_ (ht.trans (g3.weaken hs)) g2 ((h2.mono g3.f hle).putD hd g4) (by simp; omega) g5
      have hlen:=h1.len
      intro t' ht'
      rcases List.mem_cons.1 ht' with rfl | ht'
      ·exact ⟨σ.length,w.heap.size,by simp [Kv.putD,hdst,look_cons],by rw [List.getElem?_append_right (by omega)]; simp [hlen],ho.sz⟩
      ·by_cases e:d=t'
       ·subst e; exact ⟨σ.length,w.heap.size,by simp [Kv.putD,hdst,look_cons],by rw [List.getElem?_append_right (by omega)]; simp [hlen],ho.sz⟩
       ·obtain ⟨id,b,q1,q2,q3⟩:=hF t' ht'
        exact ⟨id,b,by simp [Kv.putD,hdst,look_cons,e,q1],hle.box q2,q3⟩
     ·cases hF'
    ·-- into such a box
     rename_i t x y hop
     split at hF'
     ·rename_i s hx hdst
      split at hF'
      ·rename_i hc
       cases hF'
       obtain ⟨id,b,q1,q2,q3⟩:=hF s (by simpa using hc)
       obtain ⟨w1,hrun,hold1⟩:=store_step hop hx hp hv' h1 h2 q1 q2 q3 ho
       have hwp:=op_sound (N:=N) hp hv' h1 h2 (next:=fun a' w'=>Old wS w'→((fun _=>false) i=false→Old wS w'∨w'=w)∧wpH P .any ops (AWR N n0 φ0 ι0 w0 (NP Q)) (fun _=>false) (Old wS) n (listed.setIfInBounds i true) a' w') (Q:=AWR N n0 φ0 ι0 w0 (NP Q)) (fun v' v φ' ι' σ' w' hr htr h1' hk' hold'=>by
        have hle:=Tr.le h1 htr
        refine ⟨fun _=>.inl hold',treeW_sound hm n _ _ u _ σ' φ' ι' _ w' hu hold' ?_ (ht.trans (htr.weaken hs)) h1' ((h2.mono htr.f hle).putD hd hr) (size_mono h1 h1' htr hs) hk'⟩
        intro t' ht'
        obtain ⟨id,b,r1,r2,r3⟩:=hF t' ht'
        exact ⟨id,b,by simpa [Kv.putD,hdst] using r1,hle.box r2,r3⟩)
       unfold Oper.wp at hwp
       rw [hrun] at hwp
       have hwp:=hwp hold1
       exact .inl (wp_skp hrun ⟨fun _=>hwp.1 rfl,hwp.2⟩)
      ·cases hF'
     ·cases hF'
    ·cases hF'
   ·cases hu'
  ·cases hu'
theorem treeS_sound (hm:ops.toList.mapM (trOper P fz N ops)=some kos) (hgs:guardsOK N kos=true) (hsel:Region.noSelect ops=true) {σ:Heap} {φ:Frz} {ι:List KLoc} {w:World} (ht:Tr n0 φ0 ι0 w0 φ ι w) (h1:HOK φ ι σ w) (hs:n0≤σ.length):∀ (n:Nat) (listed:Array Bool) (t:KT) (env:Env) (a:Act),
  trTreeS ops kos n listed=some t→EOK N φ ι env a→Closed .any ops listed→vT P t Q env σ →
  wpH P .any ops (AWR N n0 φ0 ι0 w0 (NP Q)) (fun _=>false) (Old w) n listed a w
 | 0,listed,t,env,a,h,h2,hc,hv=>treeW_sound hm 0 listed [] t env σ φ ι a w (by unfold trTreeS at h; exact h) (.refl w) (fun _ h=>by cases h) ht h1 h2 hs hv
 | n+1,listed,t,env,a,h,h2,hc,hv=>by
  unfold trTreeS at h
  split at h
  ·rename_i i hfi
   have hri:=List.mem_of_find?_eq_some hfi
   have hpi:=List.find?_some hfi
   simp only [Bool.and_eq_true] at hpi
   obtain ⟨hq,hfree⟩:=hpi
   split at h
   ·rename_i k hki
    rw [hki] at hq
    simp only [Option.map_eq_some_iff] at h
    obtain ⟨u,hu,rfl⟩:=h
    obtain ⟨o,ho,htr⟩:=mapM_get hm hki
    obtain ⟨p,g,hp,hg,hd,rfl⟩:=trOper_dst htr
    have hgk:guardsOK N [⟨o.dst,g,p⟩]=true:=by
     have:=List.mem_of_getElem? hki
     simp only [guardsOK,List.all_eq_true] at hgs ⊢
     intro x hx
     simp at hx; subst hx
     exact hgs _ this
    rw [vT_op'] at hv
    have key:∀ v:Value,YieldsIf P ops (Old w) o v a→(∃ env',EOK N φ ι env' (a.put o.dst v)∧vOps P [] (TK P u Q) env' σ)→wpH P .any ops (AWR N n0 φ0 ι0 w0 (NP Q)) (fun _=>false) (Old w) (n+1) listed a w:=fun v hy ⟨env',he,hv'⟩ =>
     wpH_first ho (Region.noSelect_spec hsel) (fun c a w ⟨_,_,_,_,_,_,_,h⟩=>h.elim) rfl (fun b hb=>by cases hb) n listed a w hc (Region.free_spec ho hfree) hri hy (.refl w) (treeS_sound hm hgs hsel ht h1 hs n _ u env' _ hu he (hc.set hri) hv')
    rcases step_split hg hgk h2 hv with ⟨hwt,env1,he1,ha⟩ | ⟨hwt,env1,he1,hv1⟩
    ·obtain ⟨v,c,g1,g2,g3⟩:=op_calm hp hq ha h1 he1
     exact key v (.inl ⟨hwt,fun w' hw'=>calm_run hw'.same g1⟩) ⟨_,he1.putD hd g2,g3⟩
    ·exact key _ (.inr ⟨hwt,rfl⟩) ⟨_,he1.putD hd (tup0_rel φ ι),hv1⟩
   ·cases h
  ·exact treeW_sound hm (n+1) listed [] t env σ φ ι a w h (.refl w) (fun _ h=>by cases h) ht h1 h2 hs hv
end
theorem AW_drawS {id:Nat} {fz:List Nat} {ops:Array Oper} {t:KT} {Q:Exit→Env→Heap→Prop} {env:Env} {σ:Heap} (hf:P.follows .mixedOrders=true) (hm:trDrawS P fz N ops=some t) (hv:vT P t Q env σ):AW P N n0 (.region id ops true) Q env σ:=by
 unfold trDrawS at hm
 split at hm
 ·exact AW_drawT hf hm hv
 simp only [Option.bind_eq_bind,Option.bind_eq_some_iff] at hm
 obtain ⟨ks,hks,hm⟩:=hm
 split at hm
 ·rename_i hc
  simp only [Bool.and_eq_true] at hc
  exact AW.mono (Q:=NP Q) (fun φ ι a w h1 h2=>wp_region_any hf (wpH_any _ _ _ _ (treeS_sound hks hc.1 hc.2 (Tr.drew n0 φ ι w) h1.drew h2.2 _ _ t env a hm h2.1 closed_none hv))) fun e env σ q=>by
    cases e <;> first | exact q | exact q.elim
 ·cases hm

def mkCfgS (P:Program) (hf:P.follows .mixedOrders=true) (fz:List Nat) (N n0:Nat):Cfg where
 P:=P
 fz:=fz
 N:=N
 n0:=n0
 D:=vOps P
 dr:=trDraw P fz N
 ok:=fun _ _ _ _ _ _ h hv=>AW_draw hf h hv
 drT:=trDrawS P fz N
 okT:=fun _ _ _ _ _ _ h hv=>AW_drawS hf h hv

section code
variable {hf:P.follows .mixedOrders=true} {fz:List Nat} {Q:Exit→Env→Heap→Prop} {env:Env} {σ:Heap}
@[go_sem] theorem vcS_ops (l:List KO):vc (mkCfgS P hf fz N n0) (.ops l) Q env σ = vOps P l Q env σ:=Eq.trans rfl rfl
@[go_sem] theorem vcS_draw (l:List KO):vc (mkCfgS P hf fz N n0) (.draw l) Q env σ = vOps P l Q env σ:=Eq.trans rfl rfl
@[go_sem] theorem vcS_tree (t:KT):vc (mkCfgS P hf fz N n0) (.tree t) Q env σ = vT P t Q env σ:=Eq.trans rfl rfl
end code
end Go.Kv
end
end
namespace Go.Proofs.YtcfmmmloeaggmaaGreat
open Go.Kv
set_option linter.unusedVariables false
set_option linter.unusedSimpArgs false
section
section
set_option maxRecDepth 100000
def k174_b0:KC:=(.seq (.ops [oP 9 (.bin .lss (.t 8) (.t 7))])
 (.seq (.cond (.t 9) .skip (.exit 0))
 (.seq (.block 1 (.seq (.ops [mV 10 8,mV 5 10])
 (.seq (.ops [mV 11 1,mV 12 0,mV 13 5,oP 14 (.idxS 3 (.t 12) (.t 13)),oP 15 (.load true 3 (.t 14)),oP 16 (.call (.t 11) [(.t 15)])])
 (.cond (.t 16) (.seq (.ops [mV 17 5,mV 4 17])
 .ret) .skip))))
 (.ops [oP 18 (.bin .add (.t 8) (iC 1)),mV 8 18]))))
def k174:KC:=(.seq (.ops [oP 4 (.mv (iC 0))])
 (.seq (.seq (.ops [mV 6 0,oP 7 (.len false (.t 6)),oP 8 (.mv (iC 0))])
 (.block 0 (.loop k174_b0)))
 (.seq (.ops [oP 4 (.mv (iC (-1)))])
 .ret)))
theorem e174:Ent 174 19 [] [.t 4] k174:=ent Tryz.func174
def k113:KC:=(.seq (.ops [oP 4 (.mv (.c (.bool false)))])
 (.seq (.ops [mV 5 0,mV 6 1,oP 7 (.call (fC 174) [(.t 5),(.t 6)]),oP 8 (.bin .geq (.t 7) (iC 0)),mV 4 8])
 .ret))
theorem e113:Ent 113 9 [] [.t 4] k113:=ent Tryz.func113
def k114:KC:=(.seq (.ops [oP 3 (.box true (.t 0)),oP 4 (.mv (.c (.bool false)))])
 (.seq (.ops [oP 5 (.fieldA 0 (.t 3)),oP 6 (.load false 1 (.t 5)),oP 7 (.load false 1 (.t 1)),oP 8 (.bin .eql (.t 6) (.t 7)),mV 9 8,⟨(some 10),some (9,true),.fieldA 1 (.t 3)⟩,⟨(some 11),some (9,true),.load false 1 (.t 10)⟩,⟨(some 12),some (9,true),.load false 1 (.t 2)⟩,⟨(some 13),some (9,true),.bin .eql (.t 11) (.t 12)⟩,oP 14 (.pick (.t 9) (.t 13) (.c (.bool false))),mV 4 14])
 .ret))
theorem e114:Ent 114 15 [3] [.t 4] k114:=ent Tryz.func114
end
section
attribute [local irreducible] ACall PCall KL
def pcell (m:Met):PV:=.agg [.int .i64 (m.1.getD 0 0),.int .i64 (m.1.getD 1 0),.list (ints m.2)]
def pcs (l:List Met):List PV:=l.map pcell
theorem pcell_sub (m:Met):PV.agg (subC (pcell m).cs 0 3)=pcell m:=by
 show PV.agg (subC [_,_,_] 0 3)=_
 rw [subC3]; rfl
@[simp] theorem pcs_length (l:List Met):(pcs l).length=l.length:=by simp [pcs]
theorem pcs_get {l:List Met} {i:Nat} (h:i<l.length):(pcs l)[i]? = some (pcell l[i]):=by simp [pcs,h]
instance (m:Met):Still (pcell m):=by unfold pcell; infer_instance
instance (l:List Met):Still (.list (pcs l)):=Still.list fun x hx=>by
 obtain ⟨m,_,rfl⟩:=List.mem_map.1 hx
 refine ⟨inferInstance,fun c hc=>?_⟩
 simp only [pcell,PV.cs,List.mem_cons,List.mem_singleton,List.not_mem_nil,or_false] at hc
 rcases hc with rfl | rfl | rfl
 ·exact fun φ ι v hr=>by cases hr; exact .int _ _
 ·exact fun φ ι v hr=>by cases hr; exact .int _ _
 ·exact upto_ints 0 _
theorem p114 (u v X Y:Int) (w:List Int):Pure Tryz.prog 114 [pcell ([u,v],w),.fptr [.int .i64 X] 0,.fptr [.int .i64 Y] 0] (.bool (decide ([u,v] = [X,Y]))):=by
 have e:decide ([u,v] = [X,Y])=(decide (u=X) && decide (v=Y)):=by
  rw [Bool.eq_iff_iff]; simp
 rw [e]
 unfold pcell
 have g0:([u,v]:List Int).getD 0 0=u:=rfl
 have g1:([u,v]:List Int).getD 1 0=v:=rfl
 rw [g0,g1]
 refine e114 (by simp) fun _ _=>?_
 simp only [k114,argEnv,go_sem]
 try simp only [OpK_eq,HKv,go_sem]
 refine ⟨fun h=>Kv.Fin.still ⟨?_,rfl⟩,fun h=>Kv.Fin.still ⟨?_,rfl⟩⟩
 ·rw [decide_eq_true h]; rfl
 ·rw [decide_eq_false h]; rfl
theorem p174 (l:List Met) (hl:l.length≤4294967296) (fid:FuncId) (caps:List PV) [hc:StillL caps] (p:Met→Bool) (hp:∀ x∈l,Pure Tryz.prog fid (pcell x :: caps) (.bool (p x))) :
  Pure Tryz.prog 174 [.list (pcs l),.fn (.func fid) [] caps] (.int .i64 (idx p l)):=by
 have hlen:=pcs_length l
 refine e174 (by simp) fun _ _=>?_
 simp only [k174,argEnv,hlen,go_sem]
 refine KL_ind k174_b0.eq_1 (fun x:Nat=>[(0,.list (pcs l)),(1,.fn (.func fid) [] caps),(7,.int .i64 l.length),(8,.int .i64 x)]) (fun _=>[]) (fun x=>x≤l.length∧(l.take x).any p=false) (fun x=>l.length - x) [0,1,7,8] 0 rfl rfl ⟨Nat.zero_le _,by simp⟩ fun x ⟨hx,hall⟩ ih=>?_
 try simp only [hlen,go_sem]
 refine ⟨fun h1=>?_,fun h1=>?_⟩
 ·have h2:x<l.length:=by omega
  have hg:=pcs_get h2
  have hpx:=hp _ (List.getElem_mem h2)
  refine ⟨h1,fun y hy=>?_⟩
  rw [hg] at hy; cases hy
  refine ⟨rfl,Nat.le_refl _,?_⟩
  rw [pcell_sub]
  refine hpx.go ?_
  try simp only [go_sem]
  refine ⟨fun h3=>?_,fun h3=>⟨by omega,?_⟩⟩
  ·exact Kv.Fin.now ⟨by rw [idx_some h2 hall h3],rfl⟩
  ·refine ih (x+1) ⟨by omega,?_⟩ (by omega) _ _ rfl rfl
   rw [any_take_succ _ h2,hall,h3]; rfl
 ·obtain rfl:x=l.length:=by omega
  rw [List.take_length] at hall
  exact Kv.Fin.now ⟨by rw [idx_none hall],rfl⟩
theorem p113 (l:List Met) (hl:l.length≤4294967296) (fid:FuncId) (caps:List PV) [hc:StillL caps] (p:Met→Bool) (hp:∀ x∈l,Pure Tryz.prog fid (pcell x :: caps) (.bool (p x))) :
  Pure Tryz.prog 113 [.list (pcs l),.fn (.func fid) [] caps] (.bool (l.any p)):=by
 refine e113 (by simp) fun _ _=>?_
 simp only [k113,argEnv,go_sem]
 refine (p174 l hl fid caps p hp).go ?_
 try simp only [go_sem]
 exact Kv.Fin.still ⟨by rw [idx_nonneg],rfl⟩
end
end
end Go.Proofs.YtcfmmmloeaggmaaGreat
