/- Several texts of this session as one, less what the claim does not need. -/
import Derived.Test.YtcfmmmloeaggmaaGreatCb
import Derived.Test.YtcfmmmloeaggmaaGreatZ11
import Derived.Test.YtcfmmmloeaggmaaGreatZ8
namespace Go.Proofs.YtcfmmmloeaggmaaGreat
open Go.Kv
set_option linter.unusedVariables false
set_option linter.unusedSimpArgs false
section
section
set_option maxRecDepth 100000
def k189_b0:KC:=(.seq (.seq (.ops [mV 29 7,mV 30 1,oP 31 (.bin .lss (.t 29) (.t 30))])
 (.cond (.t 31) .skip (.exit 1)))
 (.seq (.block 2 (.seq (.ops [mV 34 0,oP 35 (.call (fC 72) [(.t 34),(iC 2)]),oP 36 (.bin .eql (.t 35) (iC 0))])
 (.cond (.t 36) (.ops [mV 37 7,mV 38 6,oP 39 (.fieldA 1 (.t 5)),oP 40 (.idxA 5 1 (.t 39) (.t 37)),⟨none,none,.store 1 (.t 40) (.t 38)⟩]) .skip)))
 (.ops [mV 32 7,oP 33 (.bin .add (.t 32) (iC 1)),mV 7 33])))
def k189_b1:KC:=(.seq (.seq (.ops [mV 54 10,mV 55 1,oP 56 (.bin .lss (.t 54) (.t 55))])
 (.cond (.t 56) .skip (.exit 3)))
 (.seq (.block 4 (.ops [mV 59 10,mV 60 0,mV 61 8,mV 62 9,oP 63 (.bsl false 2 1 [(.t 61),(.t 62)]),oP 64 (.call (fC 139) [(.t 60),(.t 63)]),oP 65 (.fieldA 1 (.t 5)),oP 66 (.idxA 5 1 (.t 65) (.t 59)),⟨none,none,.store 1 (.t 66) (.t 64)⟩]))
 (.ops [mV 57 10,oP 58 (.bin .add (.t 57) (iC 1)),mV 10 58])))
def k189_b2:KC:=(.seq (.seq (.ops [mV 68 11,mV 69 1,oP 70 (.bin .lss (.t 68) (.t 69))])
 (.cond (.t 70) .skip (.exit 5)))
 (.seq (.block 6 (.ops [mV 73 11,mV 74 0,mV 75 1,oP 76 (.call (fC 72) [(.t 74),(.t 75)]),oP 77 (.fieldA 1 (.t 5)),oP 78 (.idxA 5 1 (.t 77) (.t 73)),⟨none,none,.store 1 (.t 78) (.t 76)⟩]))
 (.ops [mV 71 11,oP 72 (.bin .add (.t 71) (iC 1)),mV 11 72])))
def k189:KC:=(.seq (.ops [oP 4 (.alloc [.int .i64 0,.int .i64 0,.int .i64 0,.int .i64 0,.int .i64 0,.int .i64 0])])
 (.seq (.ops [mV 12 1,oP 13 (.build [.int .i64 0,.int .i64 0,.int .i64 0,.int .i64 0,.int .i64 0,.int .i64 0] [(0,1,(.t 12))]),oP 5 (.alloc [.int .i64 0,.int .i64 0,.int .i64 0,.int .i64 0,.int .i64 0,.int .i64 0]),⟨none,none,.store 6 (.t 5) (.t 13)⟩])
 (.seq (.seq (.ops [mV 14 0,oP 15 (.call (fC 72) [(.t 14),(iC 6)])])
 (.block 0 (.seq (.ops [oP 17 (.bin .eql (.t 15) (iC 0)),mV 16 17])
 (.cond (.t 16) (.seq (.ops [mV 18 0,mV 19 1,oP 20 (.call (fC 109) [(.t 18),(.t 19)]),oP 21 (.call (fC 108) [(.t 20)]),⟨none,none,.store 6 (.t 4) (.t 21)⟩])
 .ret) (.seq (.ops [oP 23 (.bin .eql (.t 15) (iC 1)),mV 22 23])
 (.cond (.t 22) (.seq (.ops [mV 24 1,oP 25 (.call (fC 136) [(.t 24)]),⟨none,none,.store 6 (.t 5) (.t 25)⟩])
 (.seq (.ops [mV 26 0,mV 27 1,oP 28 (.call (fC 72) [(.t 26),(.t 27)]),mV 6 28])
 (.seq (.seq (.ops [oP 7 (.mv (iC 0))])
 (.block 1 (.loop k189_b0)))
 (.seq (.ops [mV 41 6,mV 42 6,oP 43 (.fieldA 1 (.t 5)),oP 44 (.idxA 5 1 (.t 43) (.t 41)),⟨none,none,.store 1 (.t 44) (.t 42)⟩])
 (.seq (.ops [oP 45 (.load true 6 (.t 5)),⟨none,none,.store 6 (.t 4) (.t 45)⟩])
 .ret))))) (.seq (.ops [oP 47 (.bin .eql (.t 15) (iC 2)),mV 46 47])
 (.cond (.t 46) (.seq (.ops [mV 48 0,mV 49 1,oP 50 (.call (fC 72) [(.t 48),(.t 49)]),mV 51 0,mV 52 1,oP 53 (.call (fC 72) [(.t 51),(.t 52)]),mV 8 50,mV 9 53])
 (.seq (.seq (.ops [oP 10 (.mv (iC 0))])
 (.block 3 (.loop k189_b1)))
 (.seq (.ops [oP 67 (.load true 6 (.t 5)),⟨none,none,.store 6 (.t 4) (.t 67)⟩])
 .ret))) .skip))))))))
 (.seq (.seq (.ops [oP 11 (.mv (iC 0))])
 (.block 5 (.loop k189_b2)))
 (.seq (.ops [oP 79 (.load true 6 (.t 5)),⟨none,none,.store 6 (.t 4) (.t 79)⟩])
 .ret)))))
theorem e189:Ent 189 80 [] [.cell 4 true 6] k189:=ent Tryz.func189
end
section
attribute [local irreducible] ACall PCall KL
structure DI (n:Nat) (σ τ:Heap) (b:Nat) (l m:List Int):Prop where
 src:Src τ b l
 kept:Kept σ τ b
 a:τ[σ.length]? = some (.box [PV.int .i64 0,PV.int .i64 0,PV.int .i64 0,PV.int .i64 0,PV.int .i64 0,PV.int .i64 0])
 c:τ[σ.length+1]? = some (.box (ints m))
 len:m.length=6
 pt:∃ f,Ok f n∧m=mp f
 lt:b < σ.length
theorem DI.step {n:Nat} {σ τ τ':Heap} {b:Nat} {l m:List Int} (h:DI n σ τ b l m) (hS:Src τ' b l) (hK:Kept τ τ' b):DI n σ τ' b l m :=
 have h1:=(List.getElem?_eq_some_iff.1 h.a).1
 have h2:=(List.getElem?_eq_some_iff.1 h.c).1
 have h3:=h.lt
 ⟨hS,h.kept.trans hK,(hK.2 _ h1 (by omega)).trans h.a,(hK.2 _ h2 (by omega)).trans h.c,h.len,h.pt,h.lt⟩
theorem DI.app {n:Nat} {σ τ:Heap} {b:Nat} {l m:List Int} (h:DI n σ τ b l m) (X:Heap):DI n σ (τ ++ X) b l m:=h.step (h.src.app X) (Kept.app _ _ _)
theorem DI.set {n:Nat} {σ τ:Heap} {b:Nat} {l m:List Int} (h:DI n σ τ b l m) {m':List Int} (h6:m'.length=6) (hp:∃ f,Ok f n∧m'=mp f):DI n σ (τ.set (σ.length+1) (.box (ints m'))) b l m' :=
 have h2:=(List.getElem?_eq_some_iff.1 h.c).1
 have h3:=h.lt
 ⟨h.src.keep (List.getElem?_set_ne (by omega)),⟨by rw [List.length_set]; exact h.kept.1,fun j hj hb=>(List.getElem?_set_ne (by omega)).trans (h.kept.2 j hj hb)⟩,(List.getElem?_set_ne (by omega)).trans h.a,List.getElem?_set_self h2,h6,hp,h.lt⟩
theorem DI.fin {n:Nat} {σ τ:Heap} {b:Nat} {l m:List Int} (h:DI n σ τ b l m) (o:AObj):Src (τ.set σ.length o) b l∧Kept σ (τ.set σ.length o) b :=
 have h3:=h.lt
 ⟨h.src.keep (List.getElem?_set_ne (by omega)),by rw [List.length_set]; exact h.kept.1,fun j hj hb=>(List.getElem?_set_ne (by omega)).trans (h.kept.2 j hj hb)⟩
theorem set_pt {n:Nat} {m:List Int} {k:Nat} {v:Int} (h:∃ f,Ok f n∧m=mp f) (hk:k<n) (hv:0≤v∧v<n):∃ f,Ok f n∧m.set (k+1) v=mp f:=by
 obtain ⟨f,hf,rfl⟩:=h
 have hvn:v.toNat<n:=by omega
 have hkl:k<f.length:=by rw [hf.len]; exact hk
 refine ⟨f.set k v.toNat,⟨by rw [List.length_set,hf.len],hf.pos,hf.le,fun x hx=>?_⟩,?_⟩
 ·rcases List.mem_or_eq_of_mem_set hx with h | h
  ·exact hf.lt x h
  ·omega
 ·have hv2:((v.toNat:Nat):Int)=v:=by omega
  have:=mpN_set (n:=(f.length:Int)) (l:=f) (i:=k) (v:=v.toNat) hkl
  rw [hv2] at this
  rw [mp,mp,List.length_set,this]
theorem ints_set1 (m:List Int) (o:Nat) (v:Int):(ints m).set o (.int .i64 v)=ints (m.set o v):=by simp [ints,List.map_set]
theorem p189S {l:List Int} (hl:Byt l) {σ:Heap} {b:Nat} (hS:Src σ b l) (n:Nat) (hn1:1≤n) (hn:n≤5) {K:PV→Heap→Prop}
  (hK:∀ (m:List Int) σ',m.length=6→(∃ f,Ok f n∧m=mp f)→Src σ' b l→Kept σ σ' b→K (.agg (ints m)) σ'):ACall Tryz.prog 189 [.ptr b 0,.int .i64 n] σ K:=by
 have hlt:=hS.lt
 have hg1:∀ a c:AObj,(σ ++ [a] ++ [c])[σ.length+1]? = some c:=fun a c=>by
  rw [List.getElem?_append_right (by simp)]; simp
 have hs1:∀ a c d:AObj,(σ ++ [a] ++ [c]).set (σ.length+1) d = σ ++ [a] ++ [d]:=fun a c d=>by
  rw [List.set_append_right _ _ (by simp)]; simp
 have hg0:∀ a c:AObj,(σ ++ [a] ++ [c])[σ.length]? = some a:=fun a c=>by
  rw [List.getElem?_append_left (by simp)]; simp
 refine e189 (by simp) fun _ _=>?_
 simp only [k189,argEnv,go_sem]
 try simp only [OpK_eq,HKv,hg1,hs1,go_sem]
 have hD0:∀ (a:AObj),DI n σ (σ ++ [AObj.box [PV.int .i64 0,PV.int .i64 0,PV.int .i64 0,PV.int .i64 0,PV.int .i64 0,PV.int .i64 0]] ++ [.box (ints [(n:Int),0,0,0,0,0])]) b l [(n:Int),0,0,0,0,0]:=fun _=>⟨(hS.app _).app _,(Kept.app _ _ _).trans (Kept.app _ _ _),hg0 _ _,hg1 _ _,rfl,⟨List.replicate n 0,⟨by simp,hn1,hn,fun x hx=>by rw [List.eq_of_mem_replicate hx]; omega⟩,by rw [mp,List.length_replicate,mpN_rep hn]⟩,hlt⟩
 have hD0:=hD0 .dead
 refine p72 hl hD0.src _ fun r τ h2 h3 h4 h5 h6=>?_
 have hD:=hD0.step h4 h5
 clear h4 h5 h6 hD0 hg1 hs1 hg0
 generalize hm0:[(n:Int),0,0,0,0,0]=m0 at hD
 clear hm0
 have hA:=hD.a
 have hC:=hD.c
 try simp only [OpK_eq,HKv,go_sem]
 have hself:∀ (ρ:Heap) (m:List Int) (o:AObj),DI n σ ρ b l m→(ρ.set σ.length o)[σ.length]? = some o:=fun ρ m o h=>List.getElem?_set_self (List.getElem?_eq_some_iff.1 h.a).1
 have hself5:∀ (ρ:Heap) (m:List Int) (o:AObj),DI n σ ρ b l m→(ρ.set (σ.length+1) o)[σ.length+1]? = some o:=fun ρ m o h=>List.getElem?_set_self (List.getElem?_eq_some_iff.1 h.c).1
 refine ⟨fun _=>?_,fun hr0=>⟨fun _=>?_,fun hr1=>⟨fun _=>?_,fun hr2=>?_⟩⟩⟩
 ·refine p109 hl hD.src n hn fun L id ver τ' q1 q2 q3 q4 q5 q6=>?_
  have hX:=hD.step q3 q4
  have eL:(L.map Int.toNat).map (fun x:Nat=>(x:Int))=L:=by
   rw [List.map_map]
   conv=>rhs; rw [← List.map_id L]
   exact List.map_congr_left fun x hx=>by have:=(q2 x hx).1; simp only [Function.comp_apply,id_eq]; omega
  have hM:=p108 (L.map Int.toNat) (by rw [List.length_map]; omega)
  rw [eL] at hM
  have h62:(mp (L.map Int.toNat)).length=6:=mpN_length (by rw [List.length_map]; omega)
  have hpt:∃ f,Ok f n∧mp (L.map Int.toNat)=mp f:=⟨_,⟨by rw [List.length_map,q1],hn1,hn,fun x hx=>by
   obtain ⟨y,hy,rfl⟩:=List.mem_map.1 hx
   have:=q2 y hy; omega⟩,rfl⟩
  try simp only [OpK_eq,HKv,go_sem]
  refine hM.use (Plain.aggi _) (.cons (Imm.refn q6 q1.symm) (.nil _)) ?_
  have hA2:=hX.a
  have hs2:=fun o=>hself _ _ o hX
  generalize mp (L.map Int.toNat)=m at *
  have hil:(ints m).length=6:=by rw [ints_length,h62]
  try simp only [OpK_eq,HKv,hA2,hs2,hil,h62,go_sem]
  exact Kv.Fin.now (hK _ _ h62 hpt (hX.fin _).1 (hX.fin _).2)
 ·refine (p136 n hn1 hn).go ?_
  have h6m:(mp (List.range n)).length=6:=mpN_length (by rw [List.length_range]; omega)
  have hpt:∃ f,Ok f n∧mp (List.range n)=mp f:=⟨_,⟨by simp,hn1,hn,fun x hx=>List.mem_range.1 hx⟩,rfl⟩
  generalize mp (List.range n)=m1 at *
  have hil1:(ints m1).length=6:=by rw [ints_length,h6m]
  have hil0:(ints m0).length=6:=by rw [ints_length,hD.len]
  try simp only [OpK_eq,HKv,hC,hil1,hil0,go_sem]
  have hD1:=hD.set h6m hpt
  refine p72 hl hD1.src _ fun r1 τ1 h2 h3 h4 h5 h6=>?_
  have h3:=h3 (by omega)
  have hD2:=hD1.step h4 h5
  have hr1b:0≤r1∧r1<n:=⟨h2,h3⟩
  clear h4 h5 h6 hD1 hA hC hD
  try simp only [OpK_eq,HKv,go_sem]
  refine KL_ind k189_b0.eq_1 (fun y:Nat × List Int × Heap=>[(0,.ptr b 0),(1,.int .i64 n),(4,.ptr σ.length 0),(5,.ptr (σ.length+1) 0),(6,.int .i64 r1),(7,.int .i64 y.1)]) (fun y=>y.2.2) (fun y=>y.1≤n∧DI n σ y.2.2 b l y.2.1) (fun y=>n - y.1) [0,1,4,5,6,7] (0,m1,τ1) (by simp [keep]) rfl ⟨Nat.zero_le _,hD2⟩ fun ⟨k,m,ρ⟩ ⟨hk,hX⟩ ih=>?_
  simp only at hk hX
  try simp only [OpK_eq,HKv,go_sem]
  refine ⟨fun g1=>?_,fun g1=>?_⟩
  ·refine p72 hl hX.src _ fun r2 ρ' h2 h3' h4 h5 h6=>?_
   have hY:=hX.step h4 h5
   have hC2:=hY.c
   have hil:(ints m).length=6:=by rw [ints_length,hY.len]
   try simp only [OpK_eq,HKv,hC2,hil,ints_set1,go_sem]
   refine ⟨fun _=>⟨by omega,by omega,by omega,ih (k+1,m.set (k+1) r1,_) ⟨by show k+1≤n; omega,hY.set (by rw [List.length_set]; exact hY.len) (set_pt hY.pt (by omega) hr1b)⟩ (by show n - (k+1)<n - k; omega) _ _ (by simp [keep]) rfl⟩,fun _=>⟨by omega,ih (k+1,m,_) ⟨by show k+1≤n; omega,hY⟩ (by show n - (k+1)<n - k; omega) _ _ (by simp [keep]) rfl⟩⟩
  ·obtain rfl:k=n:=by omega
   have hC2:=hX.c
   have h62:=hX.len
   have hil:(ints m).length=6:=by rw [ints_length,h62]
   have hZ:=hX.set (m':=m.set (r1.toNat+1) r1) (by rw [List.length_set]; exact h62) (set_pt hX.pt (by omega) hr1b)
   have hA3:=hZ.a
   have hC3:=hZ.c
   have h63:=hZ.len
   have hs2:=fun o=>hself _ _ o hZ
   have hil3:(ints (m.set (r1.toNat+1) r1)).length=6:=by rw [ints_length,h63]
   try simp only [OpK_eq,HKv,hC2,hil,ints_set1,hA3,hC3,hs2,hil3,h63,go_sem]
   refine ⟨by omega,by omega,Kv.Fin.now (hK _ _ h63 hZ.pt (hZ.fin _).1 (hZ.fin _).2)⟩
 ·refine p72 hl hD.src _ fun ra τ1 h2 h3 h4 h5 h6=>?_
  have hD1:=hD.step h4 h5
  clear h4 h5 h6 hA hC hD
  try simp only [OpK_eq,HKv,go_sem]
  refine p72 hl hD1.src _ fun rb τ2 h2' h3' h4 h5 h6=>?_
  have hD2:=hD1.step h4 h5
  have hra:0≤ra∧ra<n:=⟨h2,h3 (by omega)⟩
  have hrb:0≤rb∧rb<n:=⟨h2',h3' (by omega)⟩
  clear h4 h5 h6 hD1
  try simp only [OpK_eq,HKv,go_sem]
  refine KL_ind k189_b1.eq_1 (fun y:Nat × List Int × Heap=>[(0,.ptr b 0),(1,.int .i64 n),(4,.ptr σ.length 0),(5,.ptr (σ.length+1) 0),(8,.int .i64 ra),(9,.int .i64 rb),(10,.int .i64 y.1)]) (fun y=>y.2.2) (fun y=>y.1≤n∧DI n σ y.2.2 b l y.2.1) (fun y=>n - y.1) [0,1,4,5,8,9,10] (0,m0,τ2) (by simp [keep]) rfl ⟨Nat.zero_le _,hD2⟩ fun ⟨k,m,ρ⟩ ⟨hk,hX⟩ ih=>?_
  simp only at hk hX
  try simp only [OpK_eq,HKv,go_sem]
  refine ⟨fun g1=>?_,fun g1=>?_⟩
  ·have hX1:=hX.app [.arr 0 2 1 (ints [ra,rb])]
   refine p139 hl hX1.src [ra,rb] (by simp) (id:=ρ.length) (by simp; rfl) (by have:=hX.src.lt; omega) 2 rfl fun r2 ρ' h2 h4 h5 h6=>?_
   have hY:=hX1.step h4 h5
   have hC2:=hY.c
   have hil:(ints m).length=6:=by rw [ints_length,hY.len]
   try simp only [OpK_eq,HKv,hC2,hil,ints_set1,go_sem]
   have hr2b:0≤r2∧r2<n:=by
    simp only [List.mem_cons,List.not_mem_nil,or_false] at h2
    rcases h2 with rfl | rfl
    ·exact hra
    ·exact hrb
   exact ⟨by omega,by omega,by omega,ih (k+1,m.set (k+1) r2,_) ⟨by show k+1≤n; omega,hY.set (by rw [List.length_set]; exact hY.len) (set_pt hY.pt (by omega) hr2b)⟩ (by show n - (k+1)<n - k; omega) _ _ (by simp [keep]) rfl⟩
  ·obtain rfl:k=n:=by omega
   have hA2:=hX.a
   have hC2:=hX.c
   have h62:=hX.len
   have hs2:=fun o=>hself _ _ o hX
   have hil:(ints m).length=6:=by rw [ints_length,h62]
   try simp only [OpK_eq,HKv,hA2,hC2,hs2,hil,h62,go_sem]
   exact Kv.Fin.now (hK _ _ h62 hX.pt (hX.fin _).1 (hX.fin _).2)
 ·refine KL_ind k189_b2.eq_1 (fun y:Nat × List Int × Heap=>[(0,.ptr b 0),(1,.int .i64 n),(4,.ptr σ.length 0),(5,.ptr (σ.length+1) 0),(11,.int .i64 y.1)]) (fun y=>y.2.2) (fun y=>y.1≤n∧DI n σ y.2.2 b l y.2.1) (fun y=>n - y.1) [0,1,4,5,11] (0,m0,τ) (by simp [keep]) rfl ⟨Nat.zero_le _,hD⟩ fun ⟨k,m,ρ⟩ ⟨hk,hX⟩ ih=>?_
  simp only at hk hX
  try simp only [OpK_eq,HKv,go_sem]
  refine ⟨fun g1=>?_,fun g1=>?_⟩
  ·refine p72 hl hX.src _ fun r2 ρ' h2 h3 h4 h5 h6=>?_
   have hY:=hX.step h4 h5
   have hC2:=hY.c
   have hil:(ints m).length=6:=by rw [ints_length,hY.len]
   try simp only [OpK_eq,HKv,hC2,hil,ints_set1,go_sem]
   have hr2b:0≤r2∧r2<n:=⟨h2,h3 (by omega)⟩
   exact ⟨by omega,by omega,by omega,ih (k+1,m.set (k+1) r2,_) ⟨by show k+1≤n; omega,hY.set (by rw [List.length_set]; exact hY.len) (set_pt hY.pt (by omega) hr2b)⟩ (by show n - (k+1)<n - k; omega) _ _ (by simp [keep]) rfl⟩
  ·obtain rfl:k=n:=by omega
   have hA2:=hX.a
   have hC2:=hX.c
   have h62:=hX.len
   have hs2:=fun o=>hself _ _ o hX
   have hil:(ints m).length=6:=by rw [ints_length,h62]
   try simp only [OpK_eq,HKv,hA2,hC2,hs2,hil,h62,go_sem]
   exact Kv.Fin.now (hK _ _ h62 hX.pt (hX.fin _).1 (hX.fin _).2)
theorem p189 {l:List Int} (hl:Byt l) {σ:Heap} {b:Nat} (hS:Src σ b l) (n:Nat) (hn1:1≤n) (hn:n≤5) {K:PV→Heap→Prop}
  (hK:∀ (m:List Int) σ',m.length=6→(0≤m.getD 0 0∧m.getD 0 0≤5)→Src σ' b l→Kept σ σ' b→K (.agg (ints m)) σ'):ACall Tryz.prog 189 [.ptr b 0,.int .i64 n] σ K :=
 p189S hl hS n hn1 hn fun m σ' h1 h2 h3 h4=>hK m σ' h1 (by
  obtain ⟨f,hf,rfl⟩:=h2
  have:(mp f).getD 0 0=(f.length:Int):=rfl
  rw [this,hf.len]; omega) h3 h4
end
end
section
section
set_option maxRecDepth 100000
def k199:KC:=(.seq (.ops [oP 2 (.alloc [.int .i64 0,.int .i64 0,.int .i64 0,.int .i64 0,.int .i64 0,.int .i64 0])])
 (.seq (.ops [mV 3 0,mV 4 0,oP 5 (.bsl false 2 1 [(iC 1),(iC 2),(iC 3),(iC 3),(iC 4),(iC 4),(iC 5),(iC 5)]),oP 6 (.call (fC 139) [(.t 4),(.t 5)]),oP 7 (.call (fC 189) [(.t 3),(.t 6)]),⟨none,none,.store 6 (.t 2) (.t 7)⟩])
 .ret))
theorem e199:Ent 199 8 [] [.cell 2 true 6] k199:=ent Tryz.func199
abbrev k186s0:KT:=(.op (oP 26 (.idxA 5 1 (.t 25) (.t 19))) (.op ⟨none,none,.store 1 (.t 26) (.t 24)⟩ .fin))
abbrev k186s1:KT:=(.op (oP 24 (.call (fC 139) [(.t 20),(.t 23)])) k186s0)
abbrev k186s2:KT:=(.alt (.op (oP 24 (.call (fC 139) [(.t 20),(.t 23)])) (.op (oP 25 (.fieldA 1 (.t 3))) k186s0)) (.op (oP 25 (.fieldA 1 (.t 3))) k186s1))
abbrev k186s3:KT:=(.op (oP 23 (.bsl false 2 1 [(iC (-1)),(.t 22),(iC 1099511627776)])) k186s1)
abbrev k186s4:KT:=(.alt (.op (oP 23 (.bsl false 2 1 [(iC (-1)),(.t 22),(iC 1099511627776)])) k186s2) (.op (oP 25 (.fieldA 1 (.t 3))) k186s3))
abbrev k186s5:KT:=(.op (oP 22 (.load false 1 (.t 21))) k186s3)
abbrev k186s6:KT:=(.alt (.op (oP 22 (.load false 1 (.t 21))) k186s4) (.op (oP 25 (.fieldA 1 (.t 3))) k186s5))
abbrev k186s7:KT:=(.op (oP 19 (.call (fC 72) [(.t 18),(iC 5)])) k186s1)
abbrev k186s8:KT:=(.alt (.op (oP 19 (.call (fC 72) [(.t 18),(iC 5)])) k186s3) (.op (oP 23 (.bsl false 2 1 [(iC (-1)),(.t 22),(iC 1099511627776)])) k186s7))
abbrev k186s9:KT:=(.alt (.op (oP 19 (.call (fC 72) [(.t 18),(iC 5)])) k186s5) (.op (oP 22 (.load false 1 (.t 21))) k186s8))
def k186:KC:=(.seq (.ops [oP 3 (.box false (.t 1)),oP 4 (.alloc [.int .i64 0,.int .i64 0,.int .i64 0,.int .i64 0,.int .i64 0,.int .i64 0])])
 (.seq (.seq (.ops [mV 5 0,oP 6 (.call (fC 72) [(.t 5),(iC 40)])])
 (.block 0 (.seq (.ops [oP 8 (.bin .eql (.t 6) (iC 0)),mV 7 8])
 (.cond (.t 7) (.ops [mV 9 0,oP 10 (.fieldA 0 (.t 3)),oP 11 (.load false 1 (.t 10)),oP 12 (.bin .add (.t 11) (iC 1)),oP 13 (.bsl false 2 1 [(iC 0),(iC 6),(iC (-1)),(.t 12)]),oP 14 (.call (fC 139) [(.t 9),(.t 13)]),oP 15 (.fieldA 0 (.t 3)),⟨none,none,.store 1 (.t 15) (.t 14)⟩]) (.seq (.ops [oP 17 (.bin .eql (.t 6) (iC 1)),mV 16 17])
 (.cond (.t 16) (.tree (.op (mV 18 0) (.op (mV 20 0) (.alt (.op (oP 19 (.call (fC 72) [(.t 18),(iC 5)])) (.alt (.op (oP 21 (.fieldA 0 (.t 3))) k186s6) (.op (oP 25 (.fieldA 1 (.t 3))) (.op (oP 21 (.fieldA 0 (.t 3))) k186s5)))) (.alt (.op (oP 21 (.fieldA 0 (.t 3))) (.alt (.op (oP 19 (.call (fC 72) [(.t 18),(iC 5)])) k186s6) (.alt (.op (oP 22 (.load false 1 (.t 21))) (.alt (.op (oP 19 (.call (fC 72) [(.t 18),(iC 5)])) k186s4) (.alt (.op (oP 23 (.bsl false 2 1 [(iC (-1)),(.t 22),(iC 1099511627776)])) (.alt (.op (oP 19 (.call (fC 72) [(.t 18),(iC 5)])) k186s2) (.op (oP 25 (.fieldA 1 (.t 3))) k186s7))) (.op (oP 25 (.fieldA 1 (.t 3))) k186s8)))) (.op (oP 25 (.fieldA 1 (.t 3))) k186s9)))) (.op (oP 25 (.fieldA 1 (.t 3))) (.alt (.op (oP 19 (.call (fC 72) [(.t 18),(iC 5)])) (.op (oP 21 (.fieldA 0 (.t 3))) k186s5)) (.op (oP 21 (.fieldA 0 (.t 3))) k186s9)))))))) .skip))))))
 (.seq (.ops [oP 27 (.load true 6 (.t 3)),⟨none,none,.store 6 (.t 4) (.t 27)⟩])
 .ret)))
theorem e186:Ent 186 28 [] [.cell 4 true 6] k186:=ent Tryz.func186
def k185:KC:=(.seq (.ops [oP 2 (.alloc [.int .i64 0,.int .i64 0,.int .i64 0,.int .i64 0,.int .i64 0,.int .i64 0])])
 (.seq (.ops [mV 3 0,mV 4 0,oP 5 (.call (fC 199) [(.t 4)]),oP 6 (.call (fC 186) [(.t 3),(.t 5)]),⟨none,none,.store 6 (.t 2) (.t 6)⟩])
 .ret))
theorem e185:Ent 185 7 [] [.cell 2 true 6] k185:=ent Tryz.func185
end
section
attribute [local irreducible] ACall PCall KL
theorem p199S {l:List Int} (hl:Byt l) {σ:Heap} {b:Nat} (hS:Src σ b l) {K:PV→Heap→Prop}
  (hK:∀ (m:List Int) σ',m.length=6→(∃ f n,Ok f n∧m=mp f)→Src σ' b l→Kept σ σ' b→K (.agg (ints m)) σ'):ACall Tryz.prog 199 [.ptr b 0] σ K:=by
 have hlt:=hS.lt
 refine e199 (by simp) fun _ _=>?_
 simp only [k199,argEnv,go_sem]
 try simp only [OpK_eq,HKv,go_sem]
 generalize hz:AObj.box [PV.int .i64 0,PV.int .i64 0,PV.int .i64 0,PV.int .i64 0,PV.int .i64 0,PV.int .i64 0]=z
 refine p139 hl ((hS.app _).app _) [1,2,3,3,4,4,5,5] (by simp) (id:=σ.length+1) (ver:=0) (e:=2) (by rw [List.getElem?_append_right (by simp)]; simp [ints]) (by omega) 8 rfl fun r τ h2 h4 h5 h6=>?_
 have hr:∃ n:Nat,r=n∧1≤n∧n≤5:=by
  simp only [List.mem_cons,List.not_mem_nil,or_false] at h2
  exact ⟨r.toNat,by omega,by omega,by omega⟩
 obtain ⟨n,rfl,hn1,hn5⟩:=hr
 have hz1:τ[σ.length]? = some z:=by
  rw [h5.2 _ (by simp) (by omega),List.getElem?_append_left (by simp)]; simp
 have hk1:Kept σ τ b:=((Kept.app _ _ _).trans (Kept.app _ _ _)).trans h5
 clear h5 h6
 try simp only [OpK_eq,HKv,go_sem]
 refine p189S hl h4 n hn1 hn5 fun m ρ q1 q2' q3 q4=>?_
 have q2:∃ f n,Ok f n∧m=mp f:=by obtain ⟨f,h1,h2⟩:=q2'; exact ⟨f,n,h1,h2⟩
 have hzl:=(List.getElem?_eq_some_iff.1 hz1).1
 have hz2:ρ[σ.length]? = some z:=(q4.2 _ hzl (by omega)).trans hz1
 have hself:∀ o,(ρ.set σ.length o)[σ.length]? = some o:=fun o=>List.getElem?_set_self (List.getElem?_eq_some_iff.1 hz2).1
 have hil:(ints m).length=6:=by rw [ints_length,q1]
 subst hz
 try simp only [OpK_eq,HKv,hz2,hself,hil,go_sem]
 have hk2:=hk1.trans q4
 exact Kv.Fin.now (hK m _ q1 q2 (q3.keep (List.getElem?_set_ne (by omega))) ⟨by rw [List.length_set]; exact hk2.1,fun j hj hb=>(List.getElem?_set_ne (by omega)).trans (hk2.2 j hj hb)⟩)
theorem p199 {l:List Int} (hl:Byt l) {σ:Heap} {b:Nat} (hS:Src σ b l) {K:PV→Heap→Prop}
  (hK:∀ (m:List Int) σ',m.length=6→(0≤m.getD 0 0∧m.getD 0 0≤5)→Src σ' b l→Kept σ σ' b→K (.agg (ints m)) σ'):ACall Tryz.prog 199 [.ptr b 0] σ K :=
 p199S hl hS fun m σ' h1 h2 h3 h4=>hK m σ' h1 (by
  obtain ⟨f,n,hf,rfl⟩:=h2
  have:(mp f).getD 0 0=(f.length:Int):=rfl
  have:=hf.le
  have:=hf.len
  omega) h3 h4
structure BI (σ τ:Heap) (b:Nat) (l m:List Int):Prop where
 src:Src τ b l
 kept:Kept σ τ b
 a:τ[σ.length+1]? = some (.box [PV.int .i64 0,PV.int .i64 0,PV.int .i64 0,PV.int .i64 0,PV.int .i64 0,PV.int .i64 0])
 c:τ[σ.length]? = some (.box (ints m))
 len:m.length=6
 lt:b < σ.length
theorem BI.step {σ τ τ':Heap} {b:Nat} {l m:List Int} (h:BI σ τ b l m) (hS:Src τ' b l) (hK:Kept τ τ' b):BI σ τ' b l m :=
 have h1:=(List.getElem?_eq_some_iff.1 h.a).1
 have h2:=(List.getElem?_eq_some_iff.1 h.c).1
 have h3:=h.lt
 ⟨hS,h.kept.trans hK,(hK.2 _ h1 (by omega)).trans h.a,(hK.2 _ h2 (by omega)).trans h.c,h.len,h.lt⟩
theorem BI.app {σ τ:Heap} {b:Nat} {l m:List Int} (h:BI σ τ b l m) (X:Heap):BI σ (τ ++ X) b l m:=h.step (h.src.app X) (Kept.app _ _ _)
theorem BI.set {σ τ:Heap} {b:Nat} {l m:List Int} (h:BI σ τ b l m) {m':List Int} (h6:m'.length=6):BI σ (τ.set σ.length (.box (ints m'))) b l m' :=
 have h2:=(List.getElem?_eq_some_iff.1 h.c).1
 have h3:=h.lt
 ⟨h.src.keep (List.getElem?_set_ne (by omega)),⟨by rw [List.length_set]; exact h.kept.1,fun j hj hb=>(List.getElem?_set_ne (by omega)).trans (h.kept.2 j hj hb)⟩,(List.getElem?_set_ne (by omega)).trans h.a,List.getElem?_set_self h2,h6,h.lt⟩
theorem BI.fin {σ τ:Heap} {b:Nat} {l m:List Int} (h:BI σ τ b l m) (o:AObj):Src (τ.set (σ.length+1) o) b l∧Kept σ (τ.set (σ.length+1) o) b :=
 have h3:=h.lt
 ⟨h.src.keep (List.getElem?_set_ne (by omega)),by rw [List.length_set]; exact h.kept.1,fun j hj hb=>(List.getElem?_set_ne (by omega)).trans (h.kept.2 j hj hb)⟩
theorem BI.self {σ τ:Heap} {b:Nat} {l m:List Int} (h:BI σ τ b l m) (o:AObj):(τ.set (σ.length+1) o)[σ.length+1]? = some o:=List.getElem?_set_self (List.getElem?_eq_some_iff.1 h.a).1
structure BJ (σ τ:Heap) (b:Nat) (l m:List Int) (id:Nat) (L:List Int):Prop where
 bi:BI σ τ b l m
 arr:τ[id]? = some (.arr 0 2 1 (ints L))
 ne:id≠b
theorem BI.bj {σ τ:Heap} {b:Nat} {l m:List Int} (h:BI σ τ b l m) (L:List Int):BJ σ (τ ++ [.arr 0 2 1 (ints L)]) b l m τ.length L :=
 ⟨h.app _,by simp,by have:=h.src.lt; omega⟩
theorem BJ.step {σ τ τ':Heap} {b:Nat} {l m:List Int} {id:Nat} {L:List Int} (h:BJ σ τ b l m id L) (hS:Src τ' b l) (hK:Kept τ τ' b):BJ σ τ' b l m id L :=
 ⟨h.bi.step hS hK,(hK.2 _ (List.getElem?_eq_some_iff.1 h.arr).1 h.ne).trans h.arr,h.ne⟩
theorem nextI {l:List Int} (hl:Byt l) {σ ρ:Heap} {b:Nat} {m:List Int} (h:BI σ ρ b l m) (n:Int) {K:PV→Heap→Prop} (hK:∀ (r:Int) ρ',0≤r→(1≤n→r<n)→BI σ ρ' b l m→K (.int .i64 r) ρ'):ACall Tryz.prog 72 [.ptr b 0,.int .i64 n] ρ K :=
 p72 hl h.src n fun r ρ' h1 h2 h3 h4 _=>hK r ρ' h1 h2 (h.step h3 h4)
theorem nextJ {l:List Int} (hl:Byt l) {σ ρ:Heap} {b:Nat} {m:List Int} {id:Nat} {L:List Int} (h:BJ σ ρ b l m id L) (n:Int) {K:PV→Heap→Prop} (hK:∀ (r:Int) ρ',0≤r→(1≤n→r<n)→BJ σ ρ' b l m id L→K (.int .i64 r) ρ'):ACall Tryz.prog 72 [.ptr b 0,.int .i64 n] ρ K :=
 p72 hl h.bi.src n fun r ρ' h1 h2 h3 h4 _=>hK r ρ' h1 h2 (h.step h3 h4)
theorem pickJ {l:List Int} (hl:Byt l) {σ ρ:Heap} {b:Nat} {m:List Int} {id:Nat} {L:List Int} (h:BJ σ ρ b l m id L) (h0:1≤L.length∧L.length≤1000) (k:Nat) (hk:k=L.length) {K:PV→Heap→Prop} (hK:∀ (r:Int) ρ',r∈L→BI σ ρ' b l m→K (.int .i64 r) ρ'):ACall Tryz.prog 139 [.ptr b 0,.ref id 0 0 k] ρ K :=
 p139 hl h.bi.src L h0 h.arr h.ne k hk fun r ρ' h1 h2 h3 _=>hK r ρ' h1 (h.bi.step h2 h3)
theorem p186 {l:List Int} (hl:Byt l) {σ:Heap} {b:Nat} (hS:Src σ b l) (f:List Int) (h6:f.length=6) (hp:0≤f.getD 0 0∧f.getD 0 0≤5) {K:PV→Heap→Prop}
  (hK:∀ (m:List Int) σ',m.length=6→Src σ' b l→Kept σ σ' b→K (.agg (ints m)) σ'):ACall Tryz.prog 186 [.ptr b 0,.agg (ints f)] σ K:=by
 have hlt:=hS.lt
 have hil:(ints f).length=6:=by rw [ints_length,h6]
 refine e186 (by simp) fun _ _=>?_
 simp only [k186,argEnv,go_sem]
 try simp only [OpK_eq,HKv,hil,go_sem]
 have hB0:BI σ (σ ++ [AObj.box (ints f)] ++ [AObj.box [PV.int .i64 0,PV.int .i64 0,PV.int .i64 0,PV.int .i64 0,PV.int .i64 0,PV.int .i64 0]]) b l f:=by
  refine ⟨(hS.app _).app _,(Kept.app _ _ _).trans (Kept.app _ _ _),?_,?_,h6,hlt⟩
  ·rw [List.getElem?_append_right (by simp)]; simp
  ·rw [List.getElem?_append_left (by simp)]; simp
 refine nextI hl hB0 _ fun r τ h2 h3 hB=>?_
 clear hB0
 have hend:∀ (m:List Int) (ρ:Heap),BI σ ρ b l m→K (.agg (ints m)) (ρ.set (σ.length+1) (.box (ints m))):=fun m ρ h=>hK m _ h.len (h.fin _).1 (h.fin _).2
 have hC:=hB.c
 have hA:=hB.a
 have hs:=hB.self
 try simp only [OpK_eq,HKv,hC,hA,hs,hil,h6,go_sem]
 have fin:∀ (m:List Int) (ρ:Heap),BI σ ρ b l m→∀ o,(ρ.set σ.length o)[σ.length]? = some o:=fun m ρ h o=>List.getElem?_set_self (List.getElem?_eq_some_iff.1 h.c).1
 refine ⟨fun _=>?_,fun _=>⟨fun _=>?_,fun _=>?_⟩⟩
 ·refine ⟨by omega,?_⟩
  refine pickJ hl (hB.bj [0,6,-1,f.getD 0 0+1]) (by simp) 4 rfl fun r2 ρ h4 hB2=>?_
  have h7:(f.set 0 r2).length=6:=by rw [List.length_set]; exact h6
  have hB3:=hB2.set h7
  have hC2:=hB2.c
  have hC3:=hB3.c
  have hA3:=hB3.a
  have hs3:=hB3.self
  have hil3:(ints (f.set 0 r2)).length=6:=by rw [ints_length,h7]
  try simp only [OpK_eq,HKv,hC2,ints_set1,hil,hC3,hA3,hs3,hil3,h7,go_sem]
  exact Kv.Fin.now (hend _ _ hB3)
 ·have hcI:∀ ρ,BI σ ρ b l f→ρ[σ.length]? = some (.box (ints f)):=fun ρ h=>h.c
  clear hC hA hs
  have g1:∀ ρ k v,BI σ ρ b l f→(ρ.set σ.length (.box (ints (f.set k v))))[σ.length]? = some (.box (ints (f.set k v))):=fun ρ k v h=>fin f ρ h _
  have g2:∀ ρ k v,BI σ ρ b l f→(ρ.set σ.length (.box (ints (f.set k v))))[σ.length+1]? = some (.box [PV.int .i64 0,PV.int .i64 0,PV.int .i64 0,PV.int .i64 0,PV.int .i64 0,PV.int .i64 0]):=fun ρ k v h=>(h.set (m':=f.set k v) (by rw [List.length_set]; exact h6)).a
  have g3:∀ ρ k v o,BI σ ρ b l f→((ρ.set σ.length (.box (ints (f.set k v)))).set (σ.length+1) o)[σ.length+1]? = some o:=fun ρ k v o h=>(h.set (m':=f.set k v) (by rw [List.length_set]; exact h6)).self o
  have g5:∀ ρ k v,BI σ ρ b l f→K (.agg (ints (f.set k v))) ((ρ.set σ.length (.box (ints (f.set k v)))).set (σ.length+1) (.box (ints (f.set k v)))):=fun ρ k v h=>hend _ _ (h.set (by rw [List.length_set]; exact h6))
  have g6:∀ k v,List.take 6 (f.set k v)=f.set k v:=fun k v=>take6 (by rw [List.length_set,h6])
  have g7:∀ k v,subC (ints (f.set k v)) 0 6=ints (f.set k v):=fun k v=>sub6 (by rw [ints_length,List.length_set,h6])
  have g8:∀ k v,putC [PV.int .i64 0,PV.int .i64 0,PV.int .i64 0,PV.int .i64 0,PV.int .i64 0,PV.int .i64 0] 0 (ints (f.set k v))=ints (f.set k v):=fun k v=>put6 (by rw [ints_length,List.length_set,h6]) rfl
  have g9:∀ k v,(f.set k v).length=6:=fun k v=>by rw [List.length_set,h6]
  have g4:∀ k v,(ints (f.set k v)).length=6:=fun k v=>by rw [ints_length,List.length_set,h6]
  repeat' (first
   | omega
   | (rw [vT_alt]; refine ⟨?_,?_⟩)
   | (refine nextJ hl (σ:=σ) (m:=f) (L:=[-1,f.getD 0 0,1099511627776]) (by assumption) _ fun r2 ρ h4 h5 hB2=>?_)
   | (refine nextJ hl (σ:=σ) (m:=f) (L:=[-1,f.getD 0 0,1099511627776]) (BI.bj (by assumption) [-1,f.getD 0 0,1099511627776]) _ fun r2 ρ h4 h5 hB2=>?_)
   | (refine nextI hl (σ:=σ) (m:=f) (by assumption) _ fun r2 ρ h4 h5 hB2=>?_)
   | (refine pickJ hl (σ:=σ) (m:=f) (L:=[-1,f.getD 0 0,1099511627776]) (by assumption) (by simp) 3 rfl fun r3 ρ3 h4 hB3=>?_)
   | (refine pickJ hl (σ:=σ) (m:=f) (L:=[-1,f.getD 0 0,1099511627776]) (BI.bj (by assumption) [-1,f.getD 0 0,1099511627776]) (by simp) 3 rfl fun r3 ρ3 h4 hB3=>?_)
   | (with_reducible refine And.intro ?_ ?_)
   | (with_reducible intro _)
   | (simp (disch:=assumption) only [hcI,OpK_eq,HKv,hil,ints_set1,go_sem]))
  all_goals (simp (disch:=assumption) only [g1,g2,g3,g4,g6,g7,g8,g9,OpK_eq,HKv,hil,ints_set1,go_sem])
  all_goals exact Kv.Fin.now (g5 _ _ _ (by assumption))
 ·exact Kv.Fin.now (hend f τ hB)
theorem p185 {l:List Int} (hl:Byt l) {σ:Heap} {b:Nat} (hS:Src σ b l) {K:PV→Heap→Prop}
  (hK:∀ (m:List Int) σ',m.length=6→Src σ' b l→Kept σ σ' b→K (.agg (ints m)) σ'):ACall Tryz.prog 185 [.ptr b 0] σ K:=by
 have hlt:=hS.lt
 refine e185 (by simp) fun _ _=>?_
 simp only [k185,argEnv,go_sem]
 try simp only [OpK_eq,HKv,go_sem]
 generalize hz:AObj.box [PV.int .i64 0,PV.int .i64 0,PV.int .i64 0,PV.int .i64 0,PV.int .i64 0,PV.int .i64 0]=z
 refine p199 hl (hS.app _) fun m τ q1 q2 q3 q4=>?_
 have hk1:Kept σ τ b:=(Kept.app _ _ _).trans q4
 have hz1:τ[σ.length]? = some z:=by
  rw [q4.2 _ (by simp) (by omega)]; simp
 try simp only [OpK_eq,HKv,go_sem]
 refine p186 hl q3 m q1 q2 fun m2 ρ q5 q6 q7=>?_
 have hzl:=(List.getElem?_eq_some_iff.1 hz1).1
 have hz2:ρ[σ.length]? = some z:=(q7.2 _ hzl (by omega)).trans hz1
 have hself:∀ o,(ρ.set σ.length o)[σ.length]? = some o:=fun o=>List.getElem?_set_self (List.getElem?_eq_some_iff.1 hz2).1
 have hil:(ints m2).length=6:=by rw [ints_length,q5]
 subst hz
 try simp only [OpK_eq,HKv,hz2,hself,hil,go_sem]
 have hk2:=hk1.trans q7
 exact Kv.Fin.now (hK m2 _ q5 (q6.keep (List.getElem?_set_ne (by omega))) ⟨by rw [List.length_set]; exact hk2.1,fun j hj hb=>(List.getElem?_set_ne (by omega)).trans (hk2.2 j hj hb)⟩)
end
end
section
section
set_option maxRecDepth 100000
def k157_b0:KC:=(.seq (.seq (.ops [mV 30 8,mV 31 1,oP 32 (.bin .lss (.t 30) (.t 31))])
 (.cond (.t 32) .skip (.exit 2)))
 (.seq (.block 3 (.ops [mV 35 8,mV 36 8,oP 37 (.fieldA 1 (.t 7)),oP 38 (.idxA 5 1 (.t 37) (.t 36)),oP 39 (.load false 1 (.t 38)),mV 40 8,oP 41 (.mnmx false (.t 39) [(.t 40)]),oP 42 (.fieldA 1 (.t 7)),oP 43 (.idxA 5 1 (.t 42) (.t 35)),⟨none,none,.store 1 (.t 43) (.t 41)⟩]))
 (.ops [mV 33 8,oP 34 (.bin .add (.t 33) (iC 1)),mV 8 34])))
def k157_b1:KC:=(.seq (.seq (.ops [mV 16 6,oP 17 (.bin .gtr (.t 16) (iC 0))])
 (.cond (.t 17) .skip (.exit 0)))
 (.seq (.block 1 (.seq (.ops [mV 20 0,mV 21 1,oP 22 (.call (fC 189) [(.t 20),(.t 21)]),oP 7 (.alloc [.int .i64 0,.int .i64 0,.int .i64 0,.int .i64 0,.int .i64 0,.int .i64 0]),⟨none,none,.store 6 (.t 7) (.t 22)⟩])
 (.seq (.seq (.ops [mV 23 1,oP 24 (.bin .eql (.t 23) (iC 5)),mV 25 24,⟨(some 26),some (25,true),.mv (.t 0)⟩,⟨(some 27),some (25,true),.call (fC 72) [(.t 26),(iC 3)]⟩,⟨(some 28),some (25,true),.bin .gtr (.t 27) (iC 0)⟩,oP 29 (.pick (.t 25) (.t 28) (.c (.bool false)))])
 (.cond (.t 29) (.seq (.ops [oP 8 (.mv (iC 0))])
 (.block 2 (.loop k157_b0))) .skip))
 (.ops [mV 44 5,oP 45 (.load true 6 (.t 7)),oP 46 (.bsl true 48 6 [(.t 45)]),oP 47 (.app (.t 44) (.t 46) 48 6),mV 5 47]))))
 (.ops [mV 18 6,oP 19 (.bin .sub (.t 18) (iC 1)),mV 6 19])))
def k157:KC:=(.seq (.ops [oP 4 (.mv (.c (.nils)))])
 (.seq (.ops [oP 9 (.bsl false 48 6 []),mV 5 9])
 (.seq (.seq (.ops [mV 10 0,mV 11 0,oP 12 (.bsl false 2 1 [(iC 1),(iC 2),(iC 3),(iC 6)]),oP 13 (.call (fC 139) [(.t 11),(.t 12)]),oP 14 (.call (fC 72) [(.t 10),(.t 13)]),oP 15 (.bin .add (iC 1) (.t 14)),mV 6 15])
 (.block 0 (.loop k157_b1)))
 (.seq (.ops [mV 48 5,mV 4 48])
 .ret))))
theorem e157:Ent 157 49 [46] [.t 4] k157:=ent Tryz.func157
end
section
attribute [local irreducible] ACall PCall KL
def Mps (t:List (List Int)):Prop:=∀ r∈t,r.length=6∧0≤r.getD 0 0∧r.getD 0 0≤5
def Mp6 (t:List (List Int)):Prop:=∀ r∈t,r.length=6
theorem ok6 {m:List Int} (hm:m.length=6):okL 6 [PV.agg (ints m)]=True:=by
 have:=okL_aggs 6 [m]
 simp only [List.mem_singleton,forall_eq,hm] at this
 simpa [aggs] using this
theorem take_aggs (t:List (List Int)) (m:List Int):(aggs t).take t.length ++ [PV.agg (ints m)]=aggs (t ++ [m]):=by
 rw [List.take_of_length_le (by rw [aggs_length]; exact Nat.le_refl _)]; simp [aggs]
theorem Kept.set2 {σ τ:Heap} {b id:Nat} (h:Kept σ τ b) (hid:σ.length≤id) (o:AObj):Kept σ (τ.set id o) b :=
 ⟨by rw [List.length_set]; exact h.1,fun j hj hb=>(List.getElem?_set_ne (by omega)).trans (h.2 j hj hb)⟩
theorem Src.set2 {τ:Heap} {b id:Nat} {l:List Int} (h:Src τ b l) (hid:id≠b) (o:AObj):Src (τ.set id o) b l:=h.keep (List.getElem?_set_ne hid)
theorem set_pt5 {m:List Int} {k:Nat} {v:Int} (h:0≤m.getD 0 0∧m.getD 0 0≤5):0≤(m.set (k+1) v).getD 0 0∧(m.set (k+1) v).getD 0 0≤5:=by
 cases m with
 | nil=>exact h
 | cons a m=>exact h
theorem p157 {l:List Int} (hl:Byt l) {σ:Heap} {b:Nat} (hS:Src σ b l) (n:Nat) (hn1:1≤n) (hn:n≤5) {K:PV→Heap→Prop}
  (hK:∀ (t:List (List Int)) σ',1≤t.length→t.length≤6→Mps t→Src σ' b l→Kept σ σ' b→K (.list (aggs t)) σ'):ACall Tryz.prog 157 [.ptr b 0,.int .i64 n] σ K:=by
 have hlt:=hS.lt
 refine e157 (by simp) fun _ _=>?_
 simp only [k157,argEnv,go_sem]
 try simp only [OpK_eq,HKv,go_sem]
 refine p139 hl ((hS.app _).app _) [1,2,3,6] (by simp) (id:=σ.length+1) (ver:=0) (e:=2) (by rw [List.getElem?_append_right (by simp)]; simp [ints]) (by omega) 4 rfl fun r1 τ1 h2 h4 h5 h6=>?_
 have ho1:τ1[σ.length]? = some (.arr 0 48 6 []):=by
  rw [h5.2 _ (by simp) (by omega),List.getElem?_append_left (by simp)]; simp
 have hk1:Kept σ τ1 b:=((Kept.app _ _ _).trans (Kept.app _ _ _)).trans h5
 have hr1:1≤r1∧r1≤6:=by
  simp only [List.mem_cons,List.not_mem_nil,or_false] at h2
  omega
 clear h2 h5 h6
 try simp only [OpK_eq,HKv,go_sem]
 refine p72 hl h4 _ fun r2 τ2 h2 h3 h4' h5 h6=>?_
 have h3:=h3 (by omega)
 have ho2:τ2[σ.length]? = some (.arr 0 48 6 []):=(h5.2 _ (List.getElem?_eq_some_iff.1 ho1).1 (by omega)).trans ho1
 have hk2:=hk1.trans h5
 obtain ⟨c,hc,hc1⟩:∃ c:Nat,(1:Int)+r2=(c:Int)∧(1≤c∧c≤6):=⟨(1+r2).toNat,by omega,by omega⟩
 clear h5 h6 ho1 hk1 h4
 try simp only [OpK_eq,HKv,go_sem]
 rw [hc]
 refine ⟨by omega,?_⟩
 refine KL_ind k157_b1.eq_1 (fun y:Nat × List (List Int) × Nat × Heap × PV × PV × PV=>[(0,.ptr b 0),(1,.int .i64 n),(5,.ref σ.length y.2.2.1 0 y.2.1.length),(6,.int .i64 y.1),(26,y.2.2.2.2.1),(27,y.2.2.2.2.2.1),(28,y.2.2.2.2.2.2)]) (fun y=>y.2.2.2.1)
  (fun y=>y.2.1.length+y.1=c∧Mps y.2.1∧y.2.2.2.1[σ.length]? = some (.arr y.2.2.1 48 6 (aggs y.2.1))∧Src y.2.2.2.1 b l∧Kept σ y.2.2.2.1 b) (fun y=>y.1) [0,1,5,6,26,27,28] (c,[],0,τ2,.undef,.undef,.undef) (by simp [keep]) rfl ⟨by simp,fun r hr=>(by cases hr),ho2,h4',hk2⟩ fun ⟨j,t,ver,τ,v1,v2,v3⟩ ⟨hj,ht,ho,hS1,hK1⟩ ih=>?_
 simp only at hj ht ho hS1 hK1
 try simp only [OpK_eq,HKv,go_sem]
 refine ⟨fun g1=>?_,fun g1=>?_⟩
 ·refine p189 hl hS1 n hn1 hn fun m ρ q1 q2 q3 q4=>?_
  have hm:=q1
  have hil:(ints m).length=6:=by rw [ints_length,q1]
  have ho3:ρ[σ.length]? = some (.arr ver 48 6 (aggs t)):=(q4.2 _ (List.getElem?_eq_some_iff.1 ho).1 (by omega)).trans ho
  have hK3:=hK1.trans q4
  have hgb:∀ (s:Heap) (a:AObj),(s ++ [a])[s.length]? = some a:=fun s a=>by simp
  have hsb:∀ (s:Heap) (a b:AObj),(s ++ [a]).set s.length b=s ++ [b]:=fun s a b=>by simp [List.set_append_right]
  have hap:∀ X,(ρ ++ X)[σ.length]? = some (.arr ver 48 6 (aggs t)):=fun X=>(List.getElem?_append_left (List.getElem?_eq_some_iff.1 ho3).1).trans ho3
  have hnext:∀ (m:List Int) (ρ':Heap) w1 w2 w3,m.length=6→(0≤m.getD 0 0∧m.getD 0 0≤5)→Src ρ' b l→Kept σ ρ' b→ρ'[σ.length]? = some (.arr ver 48 6 (aggs t))→∀ env,keep [0,1,5,6,26,27,28] env = [(0,.ptr b 0),(1,.int .i64 n),(5,.ref σ.length (ver+1) 0 (t.length+1)),(6,.int .i64 ((j:Int) - 1)),(26,w1),(27,w2),(28,w3)]→KL (mkCfg Tryz.prog mixed [46] 49 σ.length) k157_b1 _ env (ρ'.set σ.length (.arr (ver+1) 48 6 (aggs (t ++ [m])))):=fun m ρ' w1 w2 w3 a1 a2 a3 a4 a5 env a6 =>
   ih (j - 1,t ++ [m],ver+1,_,w1,w2,w3) ⟨by show (t ++ [m]).length+(j - 1)=c; rw [List.length_append,List.length_singleton]; omega,fun r hr=>by
    rcases List.mem_append.1 hr with hr | hr
    ·exact ht r hr
    ·simp only [List.mem_singleton] at hr; subst hr; exact ⟨a1,a2⟩,List.getElem?_set_self (List.getElem?_eq_some_iff.1 a5).1,a3.set2 (by omega) _,a4.set2 (Nat.le_refl _) _⟩ (by show j - 1<j; omega) env _ (by
     rw [a6,List.length_append,List.length_singleton]
     have:((j - 1:Nat):Int)=(j:Int) - 1:=by omega
     show _ = [(0,PV.ptr b 0),(1,PV.int .i64 n),(5,PV.ref σ.length (ver+1) 0 (t.length+1)),(6,PV.int .i64 ((j - 1:Nat):Int)),(26,w1),(27,w2),(28,w3)]
     rw [this]) rfl
  clear ih
  have hok:=ok6 q1
  try simp only [OpK_eq,HKv,hgb,hsb,hil,q1,hap,hok,take_aggs,aggs_length,go_sem]
  refine ⟨fun h5n=>?_,fun h5n=>?_⟩
  ·have hql:σ.length < ρ.length:=(List.getElem?_eq_some_iff.1 ho3).1
   refine p72 hl (q3.app _) _ fun r3 ρ2 p2 p3 p4 p5 p6=>?_
   have hqb:ρ2[ρ.length]? = some (.box (ints m)):=by rw [p5.2 _ (by simp) (by omega)]; simp
   have hob:ρ2[σ.length]? = some (.arr ver 48 6 (aggs t)):=(p5.2 _ (by simp; omega) (by omega)).trans (hap _)
   have hK4:=(hK3.trans (Kept.app ρ _ b)).trans p5
   generalize hq:ρ.length=q at *
   clear hap hgb hsb p5 p6 ho3 hK3 q3 q4 hK1 hS1 ho ho2 h4' hk2 hq
   try simp only [OpK_eq,HKv,hil,q1,hqb,hob,hok,take_aggs,aggs_length,go_sem]
   refine ⟨fun g2=>?_,fun g2=>?_⟩
   ·refine KL_ind k157_b0.eq_1 (fun y:Nat × List Int × Heap=>[(0,.ptr b 0),(1,.int .i64 n),(5,.ref σ.length ver 0 t.length),(6,.int .i64 j),(7,.ptr q 0),(8,.int .i64 y.1),(26,.ptr b 0),(27,.int .i64 r3),(28,.bool (decide (0<r3)))]) (fun y=>y.2.2) (fun y=>y.1≤n∧y.2.1.length=6∧(0≤y.2.1.getD 0 0∧y.2.1.getD 0 0≤5)∧y.2.2[q]? = some (.box (ints y.2.1))∧y.2.2[σ.length]? = some (.arr ver 48 6 (aggs t))∧Src y.2.2 b l∧Kept σ y.2.2 b) (fun y=>n - y.1) [0,1,5,6,7,8,26,27,28] (0,m,ρ2) (by simp [keep]) rfl ⟨Nat.zero_le _,q1,q2,hqb,hob,p4,hK4⟩ fun ⟨k,m2,ρ3⟩ ⟨hk,s1,s2,s3,s4,s5,s6⟩ ihk=>?_
    simp only at hk s1 s2 s3 s4 s5 s6
    have hil2:(ints m2).length=6:=by rw [ints_length,s1]
    have hok2:=ok6 s1
    try simp only [OpK_eq,HKv,s3,s4,hil2,s1,hok2,take_aggs,aggs_length,ints_set1,go_sem]
    refine ⟨fun g3=>?_,fun g3=>?_⟩
    ·have hql3:=(List.getElem?_eq_some_iff.1 s3).1
     exact ⟨by omega,by omega,fun _=>⟨by omega,by omega,by omega,ihk (k+1,m2.set (k+1) _,_) ⟨by show k+1≤n; omega,by rw [List.length_set]; exact s1,set_pt5 s2,List.getElem?_set_self hql3,(List.getElem?_set_ne (by omega)).trans s4,s5.set2 (by omega) _,s6.set2 (by omega) _⟩ (by show n - (k+1)<n - k; omega) _ _ (by simp [keep]) rfl⟩⟩
    ·exact ⟨⟨by omega,by omega⟩,by omega,hnext m2 _ _ _ _ s1 s2 s5 s6 s4 _ (by simp [keep]; exact ⟨rfl,rfl,rfl⟩)⟩
   ·exact ⟨⟨by omega,by omega⟩,by omega,hnext m _ _ _ _ q1 q2 p4 hK4 hob _ (by simp [keep]; exact ⟨rfl,rfl,rfl⟩)⟩
  ·exact ⟨⟨by omega,by omega⟩,by omega,hnext m _ _ _ _ q1 q2 (q3.app _) (hK3.trans (Kept.app _ _ _)) (hap _) _ (by simp [keep]; exact ⟨rfl,rfl,rfl⟩)⟩
 ·obtain rfl:j=0:=by omega
  exact Kv.Fin.giveAt ho (.inl (Imm.refa (solo_get ho))) (hK t _ (by omega) (by omega) ht (hS1.set2 (by omega) _) (hK1.set2 (Nat.le_refl _) _))
end
end
section
section
set_option maxRecDepth 100000
def k188:KC:=(.seq (.ops [oP 2 (.mv (.c (.nils)))])
 (.seq (.ops [mV 3 0,mV 4 0,oP 5 (.bsl false 2 1 [(iC 1),(iC 2),(iC 2),(iC 3),(iC 3),(iC 3),(iC 4),(iC 4),(iC 5)]),oP 6 (.call (fC 139) [(.t 4),(.t 5)]),oP 7 (.call (fC 157) [(.t 3),(.t 6)]),mV 2 7])
 .ret))
theorem e188:Ent 188 8 [] [.t 2] k188:=ent Tryz.func188
def k140_b0:KC:=(.seq (.seq (.ops [mV 23 5,oP 24 (.len false (.t 23)),oP 25 (.bin .leq (.t 24) (iC 6))])
 (.cond (.t 25) .skip (.exit 1)))
 (.block 2 (.ops [mV 26 5,mV 27 1,oP 28 (.idxS 6 (.t 27) (iC 0)),oP 29 (.load true 6 (.t 28)),oP 30 (.bsl true 48 6 [(.t 29)]),oP 31 (.app (.t 26) (.t 30) 48 6),mV 5 31])))
abbrev k140s0:KT:=(.op (oP 44 (.call (fC 186) [(.t 40),(.t 43)])) (.op (oP 45 (.idxS 6 (.t 35) (.t 39))) (.op ⟨none,none,.store 6 (.t 45) (.t 44)⟩ .fin)))
abbrev k140s1:KT:=(.op (oP 43 (.load true 6 (.t 42))) k140s0)
abbrev k140s2:KT:=(.op (oP 39 (.call (fC 72) [(.t 36),(.t 38)])) k140s0)
abbrev k140s3:KT:=(.alt (.op (oP 39 (.call (fC 72) [(.t 36),(.t 38)])) k140s1) (.op (oP 43 (.load true 6 (.t 42))) k140s2))
def k140:KC:=(.seq (.ops [oP 4 (.mv (.c (.nils)))])
 (.seq (.ops [oP 6 (.bsl false 48 6 []),mV 7 1,oP 8 (.app (.t 6) (.t 7) 48 6),mV 5 8])
 (.seq (.seq (.ops [mV 9 0,oP 10 (.call (fC 72) [(.t 9),(iC 40)])])
 (.block 0 (.seq (.ops [oP 12 (.bin .eql (.t 10) (iC 0)),mV 11 12])
 (.cond (.t 11) (.seq (.ops [oP 13 (.bsl false 48 6 []),mV 4 13])
 .ret) (.seq (.ops [oP 15 (.bin .eql (.t 10) (iC 1)),mV 14 15])
 (.cond (.t 14) (.seq (.ops [mV 16 5,mV 17 0,oP 18 (.call (fC 185) [(.t 17)]),oP 19 (.bsl true 48 6 [(.t 18)]),oP 20 (.app (.t 16) (.t 19) 48 6),mV 4 20])
 .ret) (.seq (.ops [oP 22 (.bin .eql (.t 10) (iC 2)),mV 21 22])
 (.cond (.t 21) (.seq (.block 1 (.loop k140_b0))
 (.seq (.ops [mV 32 5,mV 4 32])
 .ret)) (.seq (.ops [oP 34 (.bin .eql (.t 10) (iC 3)),mV 33 34])
 (.cond (.t 33) (.seq (.tree (.op (mV 35 5) (.op (mV 36 0) (.op (mV 37 5) (.op (mV 40 0) (.op (mV 41 1) (.alt (.op (oP 38 (.len false (.t 37))) (.alt (.op (oP 39 (.call (fC 72) [(.t 36),(.t 38)])) (.op (oP 42 (.idxS 6 (.t 41) (iC 0))) k140s1)) (.op (oP 42 (.idxS 6 (.t 41) (iC 0))) k140s3))) (.op (oP 42 (.idxS 6 (.t 41) (iC 0))) (.alt (.op (oP 38 (.len false (.t 37))) k140s3) (.op (oP 43 (.load true 6 (.t 42))) (.op (oP 38 (.len false (.t 37))) k140s2)))))))))))
 (.seq (.ops [mV 46 5,mV 4 46])
 .ret)) .skip))))))))))
 (.seq (.ops [mV 47 1,mV 4 47])
 .ret))))
theorem e140:Ent 140 48 [19,30,1000000] [.t 4] k140:=ent Tryz.func140
def k156:KC:=(.seq (.ops [oP 2 (.mv (.c (.nils)))])
 (.seq (.ops [mV 3 0,mV 4 0,oP 5 (.call (fC 188) [(.t 4)]),oP 6 (.call (fC 140) [(.t 3),(.t 5)]),mV 2 6])
 .ret))
theorem e156:Ent 156 7 [] [.t 2] k156:=ent Tryz.func156
end
section
attribute [local irreducible] ACall PCall KL
theorem p188 {l:List Int} (hl:Byt l) {σ:Heap} {b:Nat} (hS:Src σ b l) {K:PV→Heap→Prop}
  (hK:∀ (t:List (List Int)) σ',1≤t.length→t.length≤6→Mps t→Src σ' b l→Kept σ σ' b→K (.list (aggs t)) σ'):ACall Tryz.prog 188 [.ptr b 0] σ K:=by
 have hlt:=hS.lt
 refine e188 (by simp) fun _ _=>?_
 simp only [k188,argEnv,go_sem]
 try simp only [OpK_eq,HKv,go_sem]
 refine p139 hl (hS.app _) [1,2,2,3,3,3,4,4,5] (by simp) (id:=σ.length) (ver:=0) (e:=2) (by simp [ints]) (by omega) 9 rfl fun r τ h2 h4 h5 h6=>?_
 have hr:∃ n:Nat,r=n∧1≤n∧n≤5:=by
  simp only [List.mem_cons,List.not_mem_nil,or_false] at h2
  exact ⟨r.toNat,by omega,by omega,by omega⟩
 obtain ⟨n,rfl,hn1,hn5⟩:=hr
 have hk1:Kept σ τ b:=(Kept.app _ _ _).trans h5
 try simp only [OpK_eq,HKv,go_sem]
 refine p157 hl h4 n hn1 hn5 fun t ρ q1 q2 q3 q4 q5=>?_
 try simp only [OpK_eq,HKv,go_sem]
 exact Kv.Fin.now (hK t _ q1 q2 q3 q4 (hk1.trans q5))
structure LT (σ τ:Heap) (b:Nat) (l:List Int) (t:List (List Int)):Prop where
 src:Src τ b l
 kept:Kept σ τ b
 arr:τ[σ.length]? = some (.arr 1 48 6 (aggs t))
 lt:b < σ.length
theorem LT.step {σ τ τ':Heap} {b:Nat} {l:List Int} {t:List (List Int)} (h:LT σ τ b l t) (hS:Src τ' b l) (hK:Kept τ τ' b):LT σ τ' b l t :=
 have h3:=h.lt
 ⟨hS,h.kept.trans hK,(hK.2 _ (List.getElem?_eq_some_iff.1 h.arr).1 (by omega)).trans h.arr,h.lt⟩
theorem nextL {l:List Int} (hl:Byt l) {σ ρ:Heap} {b:Nat} {t:List (List Int)} (h:LT σ ρ b l t) (n:Int) {K:PV→Heap→Prop} (hK:∀ (r:Int) ρ',0≤r→(1≤n→r<n)→LT σ ρ' b l t→K (.int .i64 r) ρ'):ACall Tryz.prog 72 [.ptr b 0,.int .i64 n] ρ K :=
 p72 hl h.src n fun r ρ' h1 h2 h3 h4 _=>hK r ρ' h1 h2 (h.step h3 h4)
theorem badL {l:List Int} (hl:Byt l) {σ ρ:Heap} {b:Nat} {t:List (List Int)} (h:LT σ ρ b l t) {f:List Int} (h6:f.length=6) (hp:0≤f.getD 0 0∧f.getD 0 0≤5) {K:PV→Heap→Prop} (hK:∀ (m:List Int) ρ',m.length=6→LT σ ρ' b l t→K (.agg (ints m)) ρ'):ACall Tryz.prog 186 [.ptr b 0,.agg (ints f)] ρ K :=
 p186 hl h.src f h6 hp fun m ρ' h1 h2 h3=>hK m ρ' h1 (h.step h2 h3)
theorem p140 {l:List Int} (hl:Byt l) {σ:Heap} {b:Nat} (hS:Src σ b l) (t:List (List Int)) (h1:1≤t.length) (h6:t.length≤6) (ht:Mps t) {K:PV→Heap→Prop}
  (hK:∀ (t':List (List Int)) σ',t'.length≤7→Mp6 t'→Src σ' b l→Kept σ σ' b→K (.list (aggs t')) σ'):ACall Tryz.prog 140 [.ptr b 0,.list (aggs t)] σ K:=by
 have hlt:=hS.lt
 have ht6:∀ r∈t,r.length=6:=fun r hr=>(ht r hr).1
 have hgb:∀ (s:Heap) (a:AObj),(s ++ [a])[s.length]? = some a:=fun s a=>by simp
 have hsb:∀ (s:Heap) (a b:AObj),(s ++ [a]).set s.length b=s ++ [b]:=fun s a b=>by simp [List.set_append_right]
 refine e140 (by simp) fun _ _=>?_
 simp only [k140,argEnv,go_sem]
 try simp only [OpK_eq,HKv,hgb,hsb,go_sem]
 refine ⟨by rw [okL_aggs]; exact ht6,by omega,?_⟩
 refine p72 hl (hS.app _) _ fun r τ h2 h3 h4 h5 h7=>?_
 have h3:=h3 (by omega)
 have ho:τ[σ.length]? = some (.arr 1 48 6 (aggs t)):=by
  rw [h5.2 _ (by simp) (by omega)]; simp
 have hk1:Kept σ τ b:=(Kept.app _ _ _).trans h5
 have hol:=(List.getElem?_eq_some_iff.1 ho).1
 clear h5 h7
 try simp only [OpK_eq,HKv,go_sem]
 refine ⟨fun _=>?_,fun _=>⟨fun _=>?_,fun _=>⟨fun _=>?_,fun _=>⟨fun _=>?_,fun _=>?_⟩⟩⟩⟩
 ·have hid:(τ ++ [AObj.arr 0 48 6 []])[τ.length]? = some (.arr 0 48 6 (aggs [])):=by simp [aggs]
  exact Kv.Fin.giveAt hid (.inl (Imm.refa (solo_get hid))) (hK [] _ (by simp) (fun r hr=>by cases hr) ((h4.app _).set2 (by omega) _) ((hk1.trans (Kept.app _ _ _)).set2 (by omega) _))
 ·refine p185 hl h4 fun m ρ q1 q2 q3=>?_
  have ho2:ρ[σ.length]? = some (.arr 1 48 6 (aggs t)):=(q3.2 _ hol (by omega)).trans ho
  have hol2:=(List.getElem?_eq_some_iff.1 ho2).1
  have hok:=ok6 q1
  try simp only [OpK_eq,HKv,ho2,hok,take_aggs,aggs_length,go_sem]
  refine ⟨⟨by omega,by omega⟩,?_⟩
  have hid:(ρ.set σ.length (.arr 2 48 6 (aggs (t ++ [m]))))[σ.length]? = some (.arr 2 48 6 (aggs (t ++ [m]))):=List.getElem?_set_self hol2
  have hl7:t.length+1=(t ++ [m]).length:=by simp
  rw [hl7]
  exact Kv.Fin.giveAt hid (.inl (Imm.refa (solo_get hid))) (hK (t ++ [m]) _ (by simp; omega) (fun r hr=>by
   rcases List.mem_append.1 hr with hr | hr
   ·exact ht6 r hr
   ·simp only [List.mem_singleton] at hr; rw [hr]; exact q1) ((q2.set2 (by omega) _).set2 (by omega) _) (((hk1.trans q3).set2 (by omega) _).set2 (by omega) _))
 ·refine KL_ind k140_b0.eq_1 (fun y:List (List Int) × Nat × Heap=>[(1,.list (aggs t)),(5,.ref σ.length y.2.1 0 y.1.length)]) (fun y=>y.2.2) (fun y=>y.1.length≤7∧Mp6 y.1∧y.2.2[σ.length]? = some (.arr y.2.1 48 6 (aggs y.1))∧Src y.2.2 b l∧Kept σ y.2.2 b) (fun y=>7 - y.1.length) [1,5] (t,1,τ) (by simp [keep]) rfl ⟨by show t.length≤7; omega,ht6,ho,h4,hk1⟩ fun ⟨t2,ver,ρ⟩ ⟨s1,s2,s3,s4,s5⟩ ih=>?_
  simp only at s1 s2 s3 s4 s5
  have h0:t[0]? = some (t.getD 0 []):=by
   rw [List.getD_eq_getElem?_getD,List.getElem?_eq_getElem (by omega)]; rfl
  have h06:(t.getD 0 []).length=6:=ht6 _ (List.mem_of_getElem? h0)
  have hok:=ok6 h06
  have hol3:=(List.getElem?_eq_some_iff.1 s3).1
  try simp only [OpK_eq,HKv,s3,hok,take_aggs,aggs_length,h06,go_sem]
  refine ⟨fun g1=>?_,fun g1=>?_⟩
  ·refine ⟨by omega,fun _=>⟨⟨by omega,by omega⟩,ih (t2 ++ [t.getD 0 []],ver+1,_) ⟨by show (t2 ++ [t.getD 0 []]).length≤7; simp; omega,fun r hr=>?_,List.getElem?_set_self hol3,s4.set2 (by omega) _,s5.set2 (Nat.le_refl _) _⟩ (by show 7 - (t2 ++ [t.getD 0 []]).length<7 - t2.length; simp; omega) _ _ (by simp [keep]) rfl⟩⟩
   rcases List.mem_append.1 hr with hr | hr
   ·exact s2 r hr
   ·simp only [List.mem_singleton] at hr; rw [hr]; exact h06
  ·exact Kv.Fin.giveAt s3 (.inl (Imm.refa (solo_get s3))) (hK t2 _ s1 s2 (s4.set2 (by omega) _) (s5.set2 (by omega) _))
 ·have hL:LT σ τ b l t:=⟨h4,hk1,ho,hlt⟩
  have hc:∀ ρ,LT σ ρ b l t→ρ[σ.length]? = some (.arr 1 48 6 (aggs t)):=fun ρ h=>h.arr
  have h0:t[0]? = some (t.getD 0 []):=by
   rw [List.getD_eq_getElem?_getD,List.getElem?_eq_getElem (by omega)]; rfl
  have h06:=ht _ (List.mem_of_getElem? h0)
  have h066:=h06.1
  have hil0:(ints (t.getD 0 [])).length=6:=by rw [ints_length,h066]
  have hs6:subC (ints (t.getD 0 [])) 0 6=ints (t.getD 0 []):=sub6 hil0
  have ht66:List.take 6 (t.getD 0 [])=t.getD 0 []:=take6 h066
  have hg6:∀ i:Nat,i<t.length→(t.getD i []).length=6:=fun i hi=>by
   rw [List.getD_eq_getElem?_getD,List.getElem?_eq_getElem hi]
   exact ht6 _ (List.getElem_mem hi)
  have hlen:∀ i:Nat,i<t.length→6≤(t.getD i []).length:=fun i hi=>by rw [hg6 i hi]; exact Nat.le_refl _
  have hfin:∀ (i:Nat) (m:List Int) ρ,i<t.length→m.length=6→LT σ ρ b l t→Kv.Fin σ.length K (.ref σ.length 1 0 t.length) (ρ.set σ.length (.arr 1 48 6 ((aggs t).set i (.agg (putC (ints (t.getD i [])) 0 (ints m)))))):=fun i m ρ hi hm hLT=>by
   have e1:putC (ints (t.getD i [])) 0 (ints m)=ints m:=put6 (by rw [ints_length,hm]) (by rw [ints_length,hg6 i hi])
   have e2:(aggs t).set i (.agg (ints m))=aggs (t.set i m):=by simp [aggs,List.map_set]
   have e3:t.length=(t.set i m).length:=by simp
   rw [e1,e2,e3]
   have hid:(ρ.set σ.length (AObj.arr 1 48 6 (aggs (t.set i m))))[σ.length]? = some (.arr 1 48 6 (aggs (t.set i m))):=List.getElem?_set_self (List.getElem?_eq_some_iff.1 hLT.arr).1
   exact Kv.Fin.giveAt hid (.inl (Imm.refa (solo_get hid))) (hK (t.set i m) _ (by simp; omega) (fun r hr=>by
    rcases List.mem_or_eq_of_mem_set hr with hr | rfl
    ·exact ht6 r hr
    ·exact hm) ((hLT.src.set2 (by omega) _).set2 (by omega) _) ((hLT.kept.set2 (Nat.le_refl _) _).set2 (Nat.le_refl _) _))
  clear ho hol
  repeat' (first
   | omega
   | (rw [vT_alt]; refine ⟨?_,?_⟩)
   | (refine nextL hl (σ:=σ) (t:=t) (by assumption) _ fun r2 ρ h4 h5 hB2=>?_)
   | (refine badL hl (σ:=σ) (t:=t) (by assumption) h066 h06.2 fun m ρ h7 hB3=>?_)
   | (with_reducible refine And.intro ?_ ?_)
   | (with_reducible intro _)
   | (simp (disch:=assumption) only [hc,OpK_eq,HKv,hil0,hs6,ht66,h066,aggs_length,go_sem]))
  all_goals (first | exact hlen _ (by omega) | exact hfin _ _ _ (by omega) (by assumption) (by assumption))
 ·exact Kv.Fin.now (hK t _ (by omega) ht6 h4 hk1)
theorem p156 {l:List Int} (hl:Byt l) {σ:Heap} {b:Nat} (hS:Src σ b l) {K:PV→Heap→Prop}
  (hK:∀ (t':List (List Int)) σ',t'.length≤7→Mp6 t'→Src σ' b l→Kept σ σ' b→K (.list (aggs t')) σ'):ACall Tryz.prog 156 [.ptr b 0] σ K:=by
 refine e156 (by simp) fun _ _=>?_
 simp only [k156,argEnv,go_sem]
 try simp only [OpK_eq,HKv,go_sem]
 refine p188 hl hS fun t τ q1 q2 q3 q4 q5=>?_
 try simp only [OpK_eq,HKv,go_sem]
 refine p140 hl q4 t q1 q2 q3 fun t' ρ p1 p2 p3 p4=>?_
 try simp only [OpK_eq,HKv,go_sem]
 exact Kv.Fin.now (hK t' _ p1 p2 p3 (q5.trans p4))
end
end
section
section
set_option maxRecDepth 100000
def k158:KC:=(.seq (.ops [oP 2 (.mv (iC 0)),oP 3 (.mv (iC 0))])
 (.seq (.ops [mV 7 0,oP 8 (.call (fC 62) [(.t 7),(.c (.nils))]),mV 6 8,oP 9 (.extr 0 (.t 6)),oP 10 (.extr 1 (.t 6)),mV 4 9,mV 5 10])
 (.seq (.seq (.ops [mV 11 5,oP 12 (.bin .neq (.t 11) (iC 0))])
 (.cond (.t 12) (.seq (.ops [mV 13 5,oP 2 (.mv (iC 0)),mV 3 13])
 .ret) .skip))
 (.seq (.ops [mV 14 4,oP 15 (.len false (.t 14)),mV 2 15,oP 3 (.mv (iC 0))])
 .ret))))
theorem e158:Ent 158 16 [] [.t 2,.t 3] k158:=ent Tryz.func158
end
section
attribute [local irreducible] ACall PCall KL
theorem p158 (t:List (List Int)) (h7:t.length≤1000) (h6:∀ r∈t,r.length=6):∃ a c:Int,Pure Tryz.prog 158 [.list (aggs t)] (.tup [.int .i64 a,.int .i64 c]):=by
 by_cases hl:lcode t []=0
 ·obtain ⟨fs,n,e,hf,h0,hfl,hn,h1,h5⟩:=lcode_maps h6 hl
  subst e
  have hE:=p62_in fs n h1 h5 hf h0 hfl hl
  cases hR:clR fs n with
  | none =>
   rw [hR] at hE
   simp only at hE
   refine ⟨0,3,?_⟩
   refine e158 (by simp) fun _ _=>?_
   simp only [k158,argEnv,go_sem]
   refine hE.go ?_
   try simp only [OpK_eq,HKv,go_sem]
   exact ⟨fun _=>Kv.Fin.still ⟨rfl,rfl⟩,fun h=>absurd h (by decide)⟩
  | some Q =>
   rw [hR] at hE
   simp only at hE
   refine ⟨(elS n Q).length,0,?_⟩
   refine e158 (by simp) fun _ _=>?_
   simp only [k158,argEnv,go_sem]
   refine hE.go ?_
   try simp only [OpK_eq,HKv,aggs_length,List.length_map,go_sem]
   exact Kv.Fin.still ⟨rfl,rfl⟩
 ·refine ⟨0,lcode t [],?_⟩
  refine e158 (by simp) fun _ _=>?_
  simp only [k158,argEnv,go_sem]
  refine (p62_out t (by omega) h6 hl).go ?_
  try simp only [OpK_eq,HKv,go_sem]
  exact ⟨fun _=>Kv.Fin.still ⟨rfl,rfl⟩,fun h=>absurd h hl⟩
end
end
end Go.Proofs.YtcfmmmloeaggmaaGreat
section

end
namespace Go.Proofs.YtcfmmmloeaggmaaGreat
open Go.Kv
set_option linter.unusedVariables false
set_option linter.unusedSimpArgs false
section
section
set_option maxRecDepth 100000
def k89_b0:KC:=(.seq (.seq (.ops [mV 17 4,oP 18 (.bin .lss (.t 17) (iC 8))])
 (.cond (.t 18) .skip (.exit 0)))
 (.seq (.block 1 (.seq (.seq (.ops [mV 22 3,oP 23 (.call (fC 158) [(.t 22)]),mV 21 23,oP 24 (.extr 0 (.t 21)),oP 25 (.extr 1 (.t 21)),mV 5 24,mV 6 25])
 (.seq (.ops [mV 26 6,oP 27 (.bin .eql (.t 26) (iC 0)),mV 28 27,⟨(some 29),some (28,true),.mv (.t 5)⟩,⟨(some 30),some (28,true),.bin .leq (.t 29) (iC 14)⟩,oP 31 (.pick (.t 28) (.t 30) (.c (.bool false)))])
 (.cond (.t 31) (.exit 0) .skip)))
 (.ops [mV 32 0,mV 33 0,oP 34 (.bsl false 2 1 [(iC 2),(iC 2),(iC 3)]),oP 35 (.call (fC 139) [(.t 33),(.t 34)]),oP 36 (.call (fC 157) [(.t 32),(.t 35)]),mV 3 36])))
 (.ops [mV 19 4,oP 20 (.bin .add (.t 19) (iC 1)),mV 4 20])))
def k89:KC:=(.seq (.ops [oP 2 (.mv (.c (.nils)))])
 (.seq (.seq (.ops [mV 7 0,oP 8 (.call (fC 72) [(.t 7),(iC 16)]),oP 9 (.bin .eql (.t 8) (iC 0))])
 (.cond (.t 9) (.seq (.ops [mV 10 0,oP 11 (.call (fC 156) [(.t 10)]),mV 2 11])
 .ret) .skip))
 (.seq (.ops [mV 12 0,mV 13 0,oP 14 (.bsl false 2 1 [(iC 1),(iC 2),(iC 2),(iC 3)]),oP 15 (.call (fC 139) [(.t 13),(.t 14)]),oP 16 (.call (fC 157) [(.t 12),(.t 15)]),mV 3 16])
 (.seq (.seq (.ops [oP 4 (.mv (iC 0))])
 (.block 0 (.loop k89_b0)))
 (.seq (.ops [mV 37 3,mV 2 37])
 .ret)))))
theorem e89:Ent 89 38 [] [.t 2] k89:=ent Tryz.func89
end
section
attribute [local irreducible] ACall PCall KL
structure TT (σ τ:Heap) (b:Nat) (l:List Int) (id ver:Nat) (rs:List Rw) (t:List (List Int)):Prop where
 src:Src τ b l
 kept:Kept σ τ b
 tab:TabG 25 2 τ id ver rs t
 ge:σ.length≤id∧∀ r∈rs,r.nil=false→σ.length≤r.id
 lt:b < σ.length
theorem TT.step {σ τ τ':Heap} {b:Nat} {l:List Int} {id ver:Nat} {rs:List Rw} {t:List (List Int)} (h:TT σ τ b l id ver rs t) (hS:Src τ' b l) (hK:Kept τ τ' b):TT σ τ' b l id ver rs t:=by
 have h3:=h.lt
 have h4:=h.tab.lt
 refine ⟨hS,h.kept.trans hK,h.tab.keep (hK.2 _ h4.1 (by have:=h.ge.1; omega)) (fun r hr hn=>hK.2 _ (h4.2 r hr hn) (by have:=h.ge.2 r hr hn; omega)),h.ge,h.lt⟩
theorem p89 {l:List Int} (hl:Byt l) {σ:Heap} {b:Nat} (hS:Src σ b l) {K:PV→Heap→Prop}
  (hK:∀ (t':List (List Int)) σ',t'.length≤7→Mp6 t'→Src σ' b l→Kept σ σ' b→K (.list (aggs t')) σ'):ACall Tryz.prog 89 [.ptr b 0] σ K:=by
 have hlt:=hS.lt
 refine e89 (by simp) fun _ _=>?_
 simp only [k89,argEnv,go_sem]
 try simp only [OpK_eq,HKv,go_sem]
 refine p72 hl hS _ fun r0 τ0 a2 a3 a4 a5 a6=>?_
 have hlt0:=a4.lt
 clear a6
 try simp only [OpK_eq,HKv,go_sem]
 refine ⟨fun _=>?_,fun _=>?_⟩
 ·refine p156 hl a4 fun t' σ' b1 b2 b3 b4=>?_
  try simp only [OpK_eq,HKv,go_sem]
  exact Kv.Fin.now (hK t' _ b1 b2 b3 (a5.trans b4))
 ·refine p139 hl (a4.app _) [1,2,2,3] (by simp) (id:=τ0.length) (ver:=0) (e:=2) (by simp [ints]) (by omega) 4 rfl fun r ρ h2 h4 h5 h6=>?_
  obtain ⟨n,rfl,hn1,hn5⟩:∃ n:Nat,r=n∧1≤n∧n≤5:=by
   simp only [List.mem_cons,List.not_mem_nil,or_false] at h2
   exact ⟨r.toNat,by omega,by omega,by omega⟩
  have hK2:=(a5.trans (Kept.app _ _ _)).trans h5
  clear h2 h5 h6
  try simp only [OpK_eq,HKv,go_sem]
  refine p157 hl h4 n hn1 hn5 fun t ρ2 q1 q2 q3 q4 q5=>?_
  have hK3:=hK2.trans q5
  try simp only [OpK_eq,HKv,go_sem]
  refine KL_ind k89_b0.eq_1 (fun y:Nat × Heap × List (List Int) × PV × PV=>[(0,.ptr b 0),(3,.list (aggs y.2.2.1)),(4,.int .i64 y.1),(29,y.2.2.2.1),(30,y.2.2.2.2)]) (fun y=>y.2.1) (fun y=>y.1≤8∧(y.2.2.1.length≤6∧Mp6 y.2.2.1)∧Src y.2.1 b l∧Kept σ y.2.1 b) (fun y=>8 - y.1) [0,3,4,29,30] (0,ρ2,t,.undef,.undef) (by simp [keep]) rfl ⟨Nat.zero_le _,⟨q2,fun r hr=>(q3 r hr).1⟩,q4,hK3⟩ fun ⟨k,τ,u,v1,v2⟩ ⟨hk,⟨u1,u2⟩,hS1,hK1⟩ ih=>?_
  clear q4 hK3 hK2 h4 q5
  simp only at hk u1 u2 hS1 hK1
  have hlt1:=hS1.lt
  try simp only [OpK_eq,HKv,go_sem]
  refine ⟨fun g1=>?_,fun g1=>?_⟩
  ·obtain ⟨x,c,hZ⟩:=p158 u (by omega) u2
   refine hZ.go ?_
   try simp only [OpK_eq,HKv,go_sem]
   refine ⟨fun _=>⟨fun _=>Kv.Fin.now (hK u _ (by omega) u2 hS1 hK1),fun _=>?_⟩,fun _=>?_⟩
   all_goals
    refine p139 hl (hS1.app _) [2,2,3] (by simp) (id:=τ.length) (ver:=0) (e:=2) (by simp [ints]) (by omega) 3 rfl fun r ρ3 h2 h4 h5 h6=>?_
    obtain ⟨n2,rfl,hm1,hm5⟩:∃ n2:Nat,r=n2∧1≤n2∧n2≤5:=by
     simp only [List.mem_cons,List.not_mem_nil,or_false] at h2
     exact ⟨r.toNat,by omega,by omega,by omega⟩
    have hK4:=(hK1.trans (Kept.app _ _ _)).trans h5
    clear h2 h5 h6
    try simp only [OpK_eq,HKv,go_sem]
    refine p157 hl h4 n2 hm1 hm5 fun t2 ρ4 c1 c2 c3 c4 c5=>?_
    try simp only [OpK_eq,HKv,go_sem]
    exact ⟨by omega,ih (k+1,ρ4,t2,_,_) ⟨by show k+1≤8; omega,⟨c2,fun r hr=>(c3 r hr).1⟩,c4,hK4.trans c5⟩ (by show 8 - (k+1)<8 - k; omega) _ _ (by simp [keep]; exact ⟨rfl,rfl⟩) rfl⟩
  ·exact Kv.Fin.now (hK u _ (by omega) u2 hS1 hK1)
end
end
section
section
set_option maxRecDepth 100000
def k145_b0:KC:=(.seq (.seq (.ops [mV 29 9,oP 30 (.bin .gtr (.t 29) (iC 0))])
 (.cond (.t 30) .skip (.exit 0)))
 (.seq (.block 1 (.ops [mV 33 6,mV 34 4,mV 35 7,oP 36 (.call (fC 72) [(.t 34),(.t 35)]),mV 37 4,mV 38 7,oP 39 (.call (fC 72) [(.t 37),(.t 38)]),oP 40 (.bsl true 2 1 [(.t 36),(.t 39)]),oP 41 (.bsl true 25 1 [(.t 40)]),oP 42 (.app (.t 33) (.t 41) 25 1),mV 6 42]))
 (.ops [mV 31 9,oP 32 (.bin .sub (.t 31) (iC 1)),mV 9 32])))
def k145:KC:=(.seq (.ops [oP 2 (.mv (.c (.nils))),oP 3 (.mv (.c (.nils)))])
 (.seq (.ops [mV 10 0,oP 11 (.call (fC 53) [(.t 10)]),mV 4 11])
 (.seq (.ops [mV 12 4,oP 13 (.call (fC 89) [(.t 12)]),oP 14 (.bsl false 25 1 []),mV 5 13,mV 6 14])
 (.seq (.ops [mV 16 5,oP 17 (.call (fC 158) [(.t 16)]),mV 15 17,oP 18 (.extr 0 (.t 15)),oP 19 (.extr 1 (.t 15)),mV 7 18,mV 8 19])
 (.seq (.seq (.ops [mV 20 8,oP 21 (.bin .neq (.t 20) (iC 0))])
 (.cond (.t 21) (.ops [oP 7 (.mv (iC 4))]) .skip))
 (.seq (.seq (.ops [mV 22 4,oP 23 (.call (fC 72) [(.t 22),(iC 3)]),mV 24 4,oP 25 (.call (fC 72) [(.t 24),(iC 24)]),oP 26 (.bin .quo (.t 25) (iC 23)),oP 27 (.bin .mul (.t 26) (iC 9)),oP 28 (.bin .add (.t 23) (.t 27)),mV 9 28])
 (.block 0 (.loop k145_b0)))
 (.seq (.seq (.ops [mV 43 4,oP 44 (.call (fC 72) [(.t 43),(iC 24)])])
 (.block 2 (.seq (.ops [oP 46 (.bin .eql (.t 44) (iC 0)),mV 45 46])
 (.cond (.t 45) (.ops [mV 47 6,mV 48 7,oP 49 (.bsl true 2 1 [(iC 0),(.t 48)]),oP 50 (.bsl true 25 1 [(.t 49)]),oP 51 (.app (.t 47) (.t 50) 25 1),mV 6 51]) (.seq (.ops [oP 53 (.bin .eql (.t 44) (iC 1)),mV 52 53])
 (.cond (.t 52) (.ops [mV 54 6,oP 55 (.bsl true 2 1 [(iC 0)]),oP 56 (.bsl true 25 1 [(.t 55)]),oP 57 (.app (.t 54) (.t 56) 25 1),mV 6 57]) .skip))))))
 (.seq (.ops [mV 58 5,mV 59 6,mV 2 58,mV 3 59])
 .ret))))))))
theorem e145:Ent 145 60 [40,41,49,50,55,56] [.t 2,.t 3] k145:=ent Tryz.func145
def k81:KC:=(.seq (.ops [oP 2 (.mv (.c (.nils))),oP 3 (.mv (.c (.nils)))])
 (.seq (.ops [mV 9 0,oP 10 (.call (fC 53) [(.t 9)]),mV 4 10])
 (.seq (.ops [mV 12 0,oP 13 (.call (fC 145) [(.t 12)]),mV 11 13,oP 14 (.extr 0 (.t 11)),oP 15 (.extr 1 (.t 11)),mV 5 14,mV 6 15])
 (.seq (.ops [mV 17 5,mV 18 6,oP 19 (.call (fC 146) [(.t 17),(.t 18)]),mV 16 19,oP 20 (.extr 0 (.t 16)),oP 21 (.extr 1 (.t 16)),mV 7 20,mV 8 21])
 (.seq (.seq (.ops [mV 22 8,oP 23 (.bin .neq (.t 22) (iC 0)),mV 24 23,⟨(some 25),some (24,false),.mv (.t 4)⟩,⟨(some 26),some (24,false),.call (fC 72) [(.t 25),(iC 4)]⟩,⟨(some 27),some (24,false),.bin .eql (.t 26) (iC 0)⟩,oP 28 (.pick (.t 24) (.c (.bool true)) (.t 27))])
 (.cond (.t 28) (.ops [mV 30 5,mV 31 6,oP 32 (.call (fC 147) [(.t 30),(.t 31)]),mV 29 32,oP 33 (.extr 0 (.t 29)),oP 34 (.extr 1 (.t 29)),mV 7 33,mV 8 34]) .skip))
 (.seq (.seq (.ops [mV 35 8,oP 36 (.bin .neq (.t 35) (iC 0))])
 (.cond (.t 36) (.ops [oP 37 (.bsl true 2 1 [(iC 0),(iC 1)]),mV 7 37]) .skip))
 (.seq (.ops [mV 38 7,oP 39 (.call (fC 117) [(.t 38)]),mV 7 39])
 (.seq (.seq (.ops [mV 40 4,oP 41 (.call (fC 72) [(.t 40),(iC 12)])])
 (.block 0 (.seq (.ops [oP 43 (.bin .eql (.t 41) (iC 0)),mV 42 43])
 (.cond (.t 42) (.seq (.ops [mV 44 7,oP 45 (.len false (.t 44)),oP 46 (.bin .gtr (.t 45) (iC 0))])
 (.cond (.t 46) (.ops [mV 47 7,mV 48 4,mV 49 7,oP 50 (.len false (.t 49)),oP 51 (.call (fC 72) [(.t 48),(.t 50)]),mV 52 4,oP 53 (.call (fC 72) [(.t 52),(iC 4)]),oP 54 (.idxS 1 (.t 47) (.t 51)),⟨none,none,.store 1 (.t 54) (.t 53)⟩]) .skip)) (.seq (.ops [oP 56 (.bin .eql (.t 41) (iC 1)),mV 55 56])
 (.cond (.t 55) (.ops [mV 57 7,oP 58 (.bsl true 2 1 [(iC 0)]),oP 59 (.app (.t 57) (.t 58) 2 1),mV 7 59]) .skip))))))
 (.seq (.ops [mV 60 5,mV 61 7,mV 2 60,mV 3 61])
 .ret)))))))))
theorem e81:Ent 81 62 [37,58] [.t 2,.t 3] k81:=ent Tryz.func81
def k30:KC:=(.seq (.ops [oP 2 (.mv (.c (.nils))),oP 3 (.mv (.c (.nils)))])
 (.seq (.ops [mV 4 0,oP 5 (.call (fC 81) [(.t 4)]),oP 6 (.extr 0 (.t 5)),oP 7 (.extr 1 (.t 5)),mV 2 6,mV 3 7])
 .ret))
theorem e30:Ent 30 8 [] [.t 2,.t 3] k30:=ent Tryz.func30
def k34:KC:=(.seq (.ops [oP 2 (.mv (.c (.nils)))])
 (.seq (.ops [mV 3 0,oP 4 (.call (fC 53) [(.t 3)]),oP 5 (.call (fC 89) [(.t 4)]),mV 2 5])
 .ret))
theorem e34:Ent 34 6 [] [.t 2] k34:=ent Tryz.func34
end
section
attribute [local irreducible] ACall PCall KL
attribute [local go_sem] OpK_eq HKv
theorem p34 {l:List Int} (hl:Byt l) {K:PV→Heap→Prop} (hK:∀ t':List (List Int),t'.length≤7→Mp6 t'→K (.list (aggs t')) []):ACall Tryz.prog 34 [.list (u8s l)] [] K:=by
 refine e34 (by simp) fun _ _=>?_
 simp only [k34,argEnv,go_sem]
 refine p53 hl fun h=>?_
 have hS0:Src [srcO l 0 h] 0 l:=⟨0,h,rfl,Nat.zero_le _⟩
 try simp only [go_sem]
 refine p89 hl hS0 fun t' σ' h1 h2 h3 h4=>?_
 try simp only [go_sem]
 exact Kv.Fin.still (hK t' h1 h2)
theorem p145 {l:List Int} (hl:Byt l) {K:PV→Heap→Prop} (hK:∀ t' P:List (List Int),t'.length≤7→Mp6 t'→P.length≤20→K (.tup [.list (aggs t'),.list (rows P)]) []):ACall Tryz.prog 145 [.list (u8s l)] [] K:=by
 refine e145 (by simp) fun _ _=>?_
 simp only [k145,argEnv,go_sem]
 refine p53 hl fun h=>?_
 have hS0:Src [srcO l 0 h] 0 l:=⟨0,h,rfl,Nat.zero_le _⟩
 try simp only [go_sem]
 refine p89 hl hS0 fun t' σ' h1 h2 h3 h4=>?_
 have hlt:=h3.lt
 try simp only [go_sem]
 obtain ⟨x,c,hZ⟩:=p158 t' (by omega) h2
 refine hZ.go ?_
 try simp only [go_sem]
 have hid0:(σ' ++ [AObj.arr 0 25 1 []])[σ'.length]? = some (.arr 0 25 1 []):=by simp
 refine ⟨fun _=>?_,fun _=>?_⟩
 all_goals
  refine p72 hl (h3.app _) _ fun r1 τ1 a1 a2 a3 a4 a5=>?_
  have a2:=a2 (by decide)
  have hl1:=a3.lt
  try simp only [go_sem]
  refine p72 hl a3 _ fun r2 τ2 b1 b2 b3 b4 b5=>?_
  have b2:=b2 (by decide)
  have hl2:=b3.lt
  have hid:τ2[σ'.length]? = some (.arr 0 25 1 []):=((b4.2 _ (by rw [a5]; simp) (by omega)).trans (a4.2 _ (by simp) (by omega))).trans hid0
  try simp only [go_sem]
  obtain ⟨k0,hk0,hk11⟩:∃ k0:Nat,r1+r2 / 23 * 9=k0∧k0≤11:=⟨(r1+r2 / 23 * 9).toNat,by omega,by omega⟩
  refine ⟨b1,by omega,by omega,by omega,?_⟩
  rw [hk0]
  refine KL_ind k145_b0.eq_1 (fun y:List (List Int) × Nat × Heap × Nat × Int=>[(4,.ptr 0 0),(5,.list (aggs t')),(6,.ref σ'.length y.2.1 0 y.1.length),(7,.int .i64 y.2.2.2.2),(9,.int .i64 y.2.2.2.1)]) (fun y=>y.2.2.1) (fun y=>y.1.length+y.2.2.2.1≤11∧y.2.1≤y.1.length∧Src y.2.2.1 0 l∧y.2.2.1[σ'.length]? = some (.arr y.2.1 25 1 (rows y.1))) (fun y=>y.2.2.2.1) [4,5,6,7,9] ([],0,τ2,k0,_) (by simp [keep]; exact rfl) rfl ⟨by simpa using hk11,Nat.le_refl _,b3,hid⟩ fun ⟨Z,ver,τ,k,m⟩ ⟨hZk,hvz,hS,hO⟩ ih=>?_
  simp only at hZk hvz hS hO
  have hltt:=hS.lt
  have hidlt:=(List.getElem?_eq_some_iff.1 hO).1
  try simp only [go_sem]
  refine ⟨fun g1=>?_,fun g1=>?_⟩
  ·refine p72 hl hS _ fun e1 ρ1 c1 c2 c3 c4 c5=>?_
   have hlc:=c3.lt
   try simp only [go_sem]
   refine p72 hl c3 _ fun e2 ρ2 d1 d2 d3 d4 d5=>?_
   have hld:=d3.lt
   have hO2:ρ2[σ'.length]? = some (.arr ver 25 1 (rows Z)):=((d4.2 _ (by omega) (by omega)).trans (c4.2 _ (by omega) (by omega))).trans hO
   have htk:List.take Z.length (rows Z)=rows Z:=List.take_of_length_le (by rw [rows_lenC]; exact Nat.le_refl _)
   have hself:∀ o,(ρ2.set σ'.length o)[σ'.length]? = some o:=fun o=>List.getElem?_set_self (by omega)
   try simp only [hO2,htk,rows_lenC,go_sem]
   have hrw:rows Z ++ [PV.list [PV.int .i64 e1,PV.int .i64 e2]]=rows (Z ++ [[e1,e2]]):=by simp [rows,ints]
   have hl3:(Z ++ [[e1,e2]]).length=Z.length+1:=by simp
   rw [hrw]
   refine ⟨⟨Nat.le_refl _,by omega⟩,by omega,ih (Z ++ [[e1,e2]],ver+1,ρ2.set σ'.length (.arr (ver+1) 25 1 (rows (Z ++ [[e1,e2]]))),k - 1,m) ⟨by show (Z ++ [[e1,e2]]).length+(k - 1)≤11; rw [hl3]; omega,by show ver+1≤(Z ++ [[e1,e2]]).length; rw [hl3]; omega,d3.set2 (by omega) _,hself _⟩ (by show k - 1<k; omega) _ _ (by simp [keep]; omega) rfl⟩
  ·refine p72 hl hS _ fun e1 ρ1 c1 c2 c3 c4 c5=>?_
   have hlc:=c3.lt
   have hO2:ρ1[σ'.length]? = some (.arr ver 25 1 (rows Z)):=(c4.2 _ (by omega) (by omega)).trans hO
   have htk:List.take Z.length (rows Z)=rows Z:=List.take_of_length_le (by rw [rows_lenC]; exact Nat.le_refl _)
   have hself:∀ o,(ρ1.set σ'.length o)[σ'.length]? = some o:=fun o=>List.getElem?_set_self (by omega)
   try simp only [hO2,htk,rows_lenC,go_sem]
   have hrw:∀ a:List Int,rows Z ++ [PV.list (ints a)]=rows (Z ++ [a]):=fun a=>by simp [rows]
   refine ⟨fun _=>⟨⟨Nat.le_refl _,by omega⟩,?_⟩,fun _=>⟨fun _=>⟨⟨Nat.le_refl _,by omega⟩,?_⟩,fun _=>?_⟩⟩
   ·rw [show [PV.list [PV.int .i64 0,PV.int .i64 m]] = [PV.list (ints [0,m])] from rfl,hrw]
    exact Kv.Fin.freeze (Imm.tupL (.cons .still (.cons (Imm.refr (hself _) (by simp)) (.nil _)))) (hK t' _ h1 h2 (by simp; omega))
   ·rw [show [PV.list [PV.int .i64 0]] = [PV.list (ints [0])] from rfl,hrw]
    exact Kv.Fin.freeze (Imm.tupL (.cons .still (.cons (Imm.refr (hself _) (by simp)) (.nil _)))) (hK t' _ h1 h2 (by simp; omega))
   ·exact Kv.Fin.freeze (Imm.tupL (.cons .still (.cons (Imm.refr hO2 rfl) (.nil _)))) (hK t' _ h1 h2 (by omega))
theorem p81 {l:List Int} (hl:Byt l) {K:PV→Heap→Prop} (hK:∀ (t':List (List Int)) (cl:List Int),t'.length≤7→Mp6 t'→cl.length≤301→K (.tup [.list (aggs t'),.list (ints cl)]) []):ACall Tryz.prog 81 [.list (u8s l)] [] K:=by
 refine e81 (by simp) fun _ _=>?_
 simp only [k81,argEnv,go_sem]
 refine p53 hl fun h=>?_
 have hS0:Src [srcO l 0 h] 0 l:=⟨0,h,rfl,Nat.zero_le _⟩
 try simp only [go_sem]
 refine (p145 hl (K:=fun v s=>s = []∧∃ t' P:List (List Int),t'.length≤7∧Mp6 t'∧P.length≤20∧v = .tup [.list (aggs t'),.list (rows P)]) fun t' P h1 h2 h3=>⟨rfl,t',P,h1,h2,h3,rfl⟩).go fun v s ⟨hs,t',P,h1,h2,h3,hv⟩=>?_
 subst hs; subst hv
 try simp only [go_sem]
 have hm6:∀ r∈t',r.length=6:=h2
 have hC:=p146 t' (by omega) hm6 P (by omega)
 have hR:=p147 t' (by omega) hm6 P (by omega)
 have h01:([0,1]:List Int).length≤300:=by decide
 have hlt0:=hS0.lt
 generalize [srcO l 0 h] = τ0 at *
 refine hC.go fun v s ⟨hv,hs⟩=>?_
 subst hs
 cases hv with
 | bad c hc =>
  try simp only [go_sem]
  refine ⟨fun e=>absurd e hc,fun _=>?_⟩
  refine hR.go fun v s ⟨hv,hs⟩=>?_
  subst hs
  cases hv with
  | bad c hc =>
   try simp only [go_sem]
   refine ⟨fun _=>?_,fun e=>absurd e hc⟩
   obtain ⟨Y,hYe,hY⟩:∃ Y:List Int,PV.list [.int .i64 0,.int .i64 1] = .list (ints Y)∧Y.length≤300:=⟨[0,1],rfl,h01⟩
   rw [hYe]
   refine (p117 Y (by have:=hY; omega)).go fun v s ⟨hv,hs⟩=>?_
   subst hv; subst hs
   have hlt9:=hS0.lt
   have hid9:(τ0 ++ [AObj.arr 1 2 1 (ints Y)])[τ0.length]? = some (.arr 1 2 1 (ints Y)):=by simp
   have hS9:=hS0.app [AObj.arr 1 2 1 (ints Y)]
   have hI9:τ0.length≠0:=by omega
   have hL9:(τ0 ++ [AObj.arr 1 2 1 (ints Y)]).length = τ0.length+1:=by simp
   have hY9:=hY
   try simp only [ren_ref,ren_arr,ren_ints,sh_def,Nat.zero_add,go_sem]
   refine p72 hl hS9 _ fun r ρ c1 c2 c3 c4 c5=>?_
   have hO:=(c4.2 _ (by omega) hI9).trans hid9
   have hl8:=c3.lt
   have htk:List.take Y.length (ints Y)=ints Y:=List.take_of_length_le (by rw [ints_length]; exact Nat.le_refl _)
   have hself:∀ o,(ρ.set τ0.length o)[τ0.length]? = some o:=fun o=>List.getElem?_set_self (by omega)
   try simp only [hO,ints_length,htk,go_sem]
   refine ⟨fun _=>⟨fun g=>?_,fun g=>?_⟩,fun _=>⟨fun _=>?_,fun _=>?_⟩⟩
   ·refine p72 hl c3 _ fun j ρ2 d1 d2 d3 d4 d5=>?_
    have hl7:=d3.lt
    have d2:=d2 (by omega)
    try simp only [go_sem]
    refine p72 hl d3 _ fun v2 ρ3 e1 e2 e3 e4 e5=>?_
    have hO3:=((e4.2 _ (by omega) hI9).trans (d4.2 _ (by omega) hI9)).trans hO
    have hs3:∀ o,(ρ3.set τ0.length o)[τ0.length]? = some o:=fun o=>List.getElem?_set_self (by omega)
    obtain ⟨jn,rfl⟩:∃ jn:Nat,j=jn:=⟨j.toNat,by omega⟩
    try simp only [hO3,ints_length,ints_setU,go_sem]
    have hjn:jn<Y.length:=by omega
    refine ⟨⟨by omega,Nat.le_refl _⟩,hjn,fun _=>?_⟩
    exact Kv.Fin.freeze (Imm.tupL (.cons .still (.cons (Imm.refn (hs3 _) (by simp)) (.nil _)))) (hK t' _ h1 h2 (by simp; omega))
   ·exact Kv.Fin.freeze (Imm.tupL (.cons .still (.cons (Imm.refn hO rfl) (.nil _)))) (hK t' _ h1 h2 (by omega))
   ·refine ⟨⟨Nat.le_refl _,by omega⟩,?_⟩
    exact Kv.Fin.freeze (Imm.tupL (.cons .still (.cons (Imm.refn (hself _) (by simp)) (.nil _)))) (hK t' _ h1 h2 (by simp; omega))
   ·exact Kv.Fin.freeze (Imm.tupL (.cons .still (.cons (Imm.refn hO rfl) (.nil _)))) (hK t' _ h1 h2 (by omega))
  | ok Y hY =>
   try simp only [go_sem]
   refine (p117 Y (by have:=hY; omega)).go fun v s ⟨hv,hs⟩=>?_
   subst hv; subst hs
   have hlt9:=hS0.lt
   have hid9:(τ0 ++ [AObj.arr 1 2 1 (ints Y)])[τ0.length]? = some (.arr 1 2 1 (ints Y)):=by simp
   have hS9:=hS0.app [AObj.arr 1 2 1 (ints Y)]
   have hI9:τ0.length≠0:=by omega
   have hL9:(τ0 ++ [AObj.arr 1 2 1 (ints Y)]).length = τ0.length+1:=by simp
   have hY9:=hY
   try simp only [ren_ref,ren_arr,ren_ints,sh_def,Nat.zero_add,go_sem]
   refine p72 hl hS9 _ fun r ρ c1 c2 c3 c4 c5=>?_
   have hO:=(c4.2 _ (by omega) hI9).trans hid9
   have hl8:=c3.lt
   have htk:List.take Y.length (ints Y)=ints Y:=List.take_of_length_le (by rw [ints_length]; exact Nat.le_refl _)
   have hself:∀ o,(ρ.set τ0.length o)[τ0.length]? = some o:=fun o=>List.getElem?_set_self (by omega)
   try simp only [hO,ints_length,htk,go_sem]
   refine ⟨fun _=>⟨fun g=>?_,fun g=>?_⟩,fun _=>⟨fun _=>?_,fun _=>?_⟩⟩
   ·refine p72 hl c3 _ fun j ρ2 d1 d2 d3 d4 d5=>?_
    have hl7:=d3.lt
    have d2:=d2 (by omega)
    try simp only [go_sem]
    refine p72 hl d3 _ fun v2 ρ3 e1 e2 e3 e4 e5=>?_
    have hO3:=((e4.2 _ (by omega) hI9).trans (d4.2 _ (by omega) hI9)).trans hO
    have hs3:∀ o,(ρ3.set τ0.length o)[τ0.length]? = some o:=fun o=>List.getElem?_set_self (by omega)
    obtain ⟨jn,rfl⟩:∃ jn:Nat,j=jn:=⟨j.toNat,by omega⟩
    try simp only [hO3,ints_length,ints_setU,go_sem]
    have hjn:jn<Y.length:=by omega
    refine ⟨⟨by omega,Nat.le_refl _⟩,hjn,fun _=>?_⟩
    exact Kv.Fin.freeze (Imm.tupL (.cons .still (.cons (Imm.refn (hs3 _) (by simp)) (.nil _)))) (hK t' _ h1 h2 (by simp; omega))
   ·exact Kv.Fin.freeze (Imm.tupL (.cons .still (.cons (Imm.refn hO rfl) (.nil _)))) (hK t' _ h1 h2 (by omega))
   ·refine ⟨⟨Nat.le_refl _,by omega⟩,?_⟩
    exact Kv.Fin.freeze (Imm.tupL (.cons .still (.cons (Imm.refn (hself _) (by simp)) (.nil _)))) (hK t' _ h1 h2 (by simp; omega))
   ·exact Kv.Fin.freeze (Imm.tupL (.cons .still (.cons (Imm.refn hO rfl) (.nil _)))) (hK t' _ h1 h2 (by omega))
 | ok Y hY =>
  try simp only [go_sem]
  refine p72 hl hS0 _ fun r1 τ1 a1 a2 a3 a4 a5=>?_
  have hlt1:=a3.lt
  try simp only [go_sem]
  refine ⟨fun _=>?_,fun _=>?_⟩
  ·skip
   refine hR.go fun v s ⟨hv,hs⟩=>?_
   subst hs
   cases hv with
   | bad c hc =>
    try simp only [go_sem]
    refine ⟨fun _=>?_,fun e=>absurd e hc⟩
    obtain ⟨Y,hYe,hY⟩:∃ Y:List Int,PV.list [.int .i64 0,.int .i64 1] = .list (ints Y)∧Y.length≤300:=⟨[0,1],rfl,h01⟩
    rw [hYe]
    refine (p117 Y (by have:=hY; omega)).go fun v s ⟨hv,hs⟩=>?_
    subst hv; subst hs
    have hlt9:=a3.lt
    have hid9:(τ1 ++ [AObj.arr 1 2 1 (ints Y)])[(τ1).length]? = some (.arr 1 2 1 (ints Y)):=by simp
    have hS9:=a3.app [AObj.arr 1 2 1 (ints Y)]
    have hI9:(τ1).length≠0:=by omega
    have hL9:(τ1 ++ [AObj.arr 1 2 1 (ints Y)]).length=(τ1).length+1:=by simp
    have hY9:=hY
    try simp only [ren_ref,ren_arr,ren_ints,sh_def,Nat.zero_add,go_sem]
    refine p72 hl hS9 _ fun r ρ c1 c2 c3 c4 c5=>?_
    have hO:=(c4.2 _ (by omega) hI9).trans hid9
    have hl8:=c3.lt
    have htk:List.take Y.length (ints Y)=ints Y:=List.take_of_length_le (by rw [ints_length]; exact Nat.le_refl _)
    have hself:∀ o,(ρ.set τ1.length o)[τ1.length]? = some o:=fun o=>List.getElem?_set_self (by omega)
    try simp only [hO,ints_length,htk,go_sem]
    refine ⟨fun _=>⟨fun g=>?_,fun g=>?_⟩,fun _=>⟨fun _=>?_,fun _=>?_⟩⟩
    ·refine p72 hl c3 _ fun j ρ2 d1 d2 d3 d4 d5=>?_
     have hl7:=d3.lt
     have d2:=d2 (by omega)
     try simp only [go_sem]
     refine p72 hl d3 _ fun v2 ρ3 e1 e2 e3 e4 e5=>?_
     have hO3:=((e4.2 _ (by omega) hI9).trans (d4.2 _ (by omega) hI9)).trans hO
     have hs3:∀ o,(ρ3.set τ1.length o)[τ1.length]? = some o:=fun o=>List.getElem?_set_self (by omega)
     obtain ⟨jn,rfl⟩:∃ jn:Nat,j=jn:=⟨j.toNat,by omega⟩
     try simp only [hO3,ints_length,ints_setU,go_sem]
     have hjn:jn<Y.length:=by omega
     refine ⟨⟨by omega,Nat.le_refl _⟩,hjn,fun _=>?_⟩
     exact Kv.Fin.freeze (Imm.tupL (.cons .still (.cons (Imm.refn (hs3 _) (by simp)) (.nil _)))) (hK t' _ h1 h2 (by simp; omega))
    ·exact Kv.Fin.freeze (Imm.tupL (.cons .still (.cons (Imm.refn hO rfl) (.nil _)))) (hK t' _ h1 h2 (by omega))
    ·refine ⟨⟨Nat.le_refl _,by omega⟩,?_⟩
     exact Kv.Fin.freeze (Imm.tupL (.cons .still (.cons (Imm.refn (hself _) (by simp)) (.nil _)))) (hK t' _ h1 h2 (by simp; omega))
    ·exact Kv.Fin.freeze (Imm.tupL (.cons .still (.cons (Imm.refn hO rfl) (.nil _)))) (hK t' _ h1 h2 (by omega))
   | ok Y hY =>
    try simp only [go_sem]
    refine (p117 Y (by have:=hY; omega)).go fun v s ⟨hv,hs⟩=>?_
    subst hv; subst hs
    have hlt9:=a3.lt
    have hid9:(τ1 ++ [AObj.arr 1 2 1 (ints Y)])[(τ1).length]? = some (.arr 1 2 1 (ints Y)):=by simp
    have hS9:=a3.app [AObj.arr 1 2 1 (ints Y)]
    have hI9:(τ1).length≠0:=by omega
    have hL9:(τ1 ++ [AObj.arr 1 2 1 (ints Y)]).length=(τ1).length+1:=by simp
    have hY9:=hY
    try simp only [ren_ref,ren_arr,ren_ints,sh_def,Nat.zero_add,go_sem]
    refine p72 hl hS9 _ fun r ρ c1 c2 c3 c4 c5=>?_
    have hO:=(c4.2 _ (by omega) hI9).trans hid9
    have hl8:=c3.lt
    have htk:List.take Y.length (ints Y)=ints Y:=List.take_of_length_le (by rw [ints_length]; exact Nat.le_refl _)
    have hself:∀ o,(ρ.set τ1.length o)[τ1.length]? = some o:=fun o=>List.getElem?_set_self (by omega)
    try simp only [hO,ints_length,htk,go_sem]
    refine ⟨fun _=>⟨fun g=>?_,fun g=>?_⟩,fun _=>⟨fun _=>?_,fun _=>?_⟩⟩
    ·refine p72 hl c3 _ fun j ρ2 d1 d2 d3 d4 d5=>?_
     have hl7:=d3.lt
     have d2:=d2 (by omega)
     try simp only [go_sem]
     refine p72 hl d3 _ fun v2 ρ3 e1 e2 e3 e4 e5=>?_
     have hO3:=((e4.2 _ (by omega) hI9).trans (d4.2 _ (by omega) hI9)).trans hO
     have hs3:∀ o,(ρ3.set τ1.length o)[τ1.length]? = some o:=fun o=>List.getElem?_set_self (by omega)
     obtain ⟨jn,rfl⟩:∃ jn:Nat,j=jn:=⟨j.toNat,by omega⟩
     try simp only [hO3,ints_length,ints_setU,go_sem]
     have hjn:jn<Y.length:=by omega
     refine ⟨⟨by omega,Nat.le_refl _⟩,hjn,fun _=>?_⟩
     exact Kv.Fin.freeze (Imm.tupL (.cons .still (.cons (Imm.refn (hs3 _) (by simp)) (.nil _)))) (hK t' _ h1 h2 (by simp; omega))
    ·exact Kv.Fin.freeze (Imm.tupL (.cons .still (.cons (Imm.refn hO rfl) (.nil _)))) (hK t' _ h1 h2 (by omega))
    ·refine ⟨⟨Nat.le_refl _,by omega⟩,?_⟩
     exact Kv.Fin.freeze (Imm.tupL (.cons .still (.cons (Imm.refn (hself _) (by simp)) (.nil _)))) (hK t' _ h1 h2 (by simp; omega))
    ·exact Kv.Fin.freeze (Imm.tupL (.cons .still (.cons (Imm.refn hO rfl) (.nil _)))) (hK t' _ h1 h2 (by omega))
  ·skip
   refine (p117 Y (by have:=hY; omega)).go fun v s ⟨hv,hs⟩=>?_
   subst hv; subst hs
   have hlt9:=a3.lt
   have hid9:(τ1 ++ [AObj.arr 1 2 1 (ints Y)])[(τ1).length]? = some (.arr 1 2 1 (ints Y)):=by simp
   have hS9:=a3.app [AObj.arr 1 2 1 (ints Y)]
   have hI9:(τ1).length≠0:=by omega
   have hL9:(τ1 ++ [AObj.arr 1 2 1 (ints Y)]).length=(τ1).length+1:=by simp
   have hY9:=hY
   try simp only [ren_ref,ren_arr,ren_ints,sh_def,Nat.zero_add,go_sem]
   refine p72 hl hS9 _ fun r ρ c1 c2 c3 c4 c5=>?_
   have hO:=(c4.2 _ (by omega) hI9).trans hid9
   have hl8:=c3.lt
   have htk:List.take Y.length (ints Y)=ints Y:=List.take_of_length_le (by rw [ints_length]; exact Nat.le_refl _)
   have hself:∀ o,(ρ.set τ1.length o)[τ1.length]? = some o:=fun o=>List.getElem?_set_self (by omega)
   try simp only [hO,ints_length,htk,go_sem]
   refine ⟨fun _=>⟨fun g=>?_,fun g=>?_⟩,fun _=>⟨fun _=>?_,fun _=>?_⟩⟩
   ·refine p72 hl c3 _ fun j ρ2 d1 d2 d3 d4 d5=>?_
    have hl7:=d3.lt
    have d2:=d2 (by omega)
    try simp only [go_sem]
    refine p72 hl d3 _ fun v2 ρ3 e1 e2 e3 e4 e5=>?_
    have hO3:=((e4.2 _ (by omega) hI9).trans (d4.2 _ (by omega) hI9)).trans hO
    have hs3:∀ o,(ρ3.set τ1.length o)[τ1.length]? = some o:=fun o=>List.getElem?_set_self (by omega)
    obtain ⟨jn,rfl⟩:∃ jn:Nat,j=jn:=⟨j.toNat,by omega⟩
    try simp only [hO3,ints_length,ints_setU,go_sem]
    have hjn:jn<Y.length:=by omega
    refine ⟨⟨by omega,Nat.le_refl _⟩,hjn,fun _=>?_⟩
    exact Kv.Fin.freeze (Imm.tupL (.cons .still (.cons (Imm.refn (hs3 _) (by simp)) (.nil _)))) (hK t' _ h1 h2 (by simp; omega))
   ·exact Kv.Fin.freeze (Imm.tupL (.cons .still (.cons (Imm.refn hO rfl) (.nil _)))) (hK t' _ h1 h2 (by omega))
   ·refine ⟨⟨Nat.le_refl _,by omega⟩,?_⟩
    exact Kv.Fin.freeze (Imm.tupL (.cons .still (.cons (Imm.refn (hself _) (by simp)) (.nil _)))) (hK t' _ h1 h2 (by simp; omega))
   ·exact Kv.Fin.freeze (Imm.tupL (.cons .still (.cons (Imm.refn hO rfl) (.nil _)))) (hK t' _ h1 h2 (by omega))
end
end
end Go.Proofs.YtcfmmmloeaggmaaGreat
