/- Several texts of this session as one, less what the claim does not need. -/
import Derived.Test.YtcfmmmloeaggmaaGreatZ5
import Derived.Test.YtcfmmmloeaggmaaGreatCb
import Derived.Test.YtcfmmmloeaggmaaGreatFC
import Derived.Test.YtcfmmmloeaggmaaGreatZ6
import Derived.RangeFuncBox
import Derived.RangeFuncLeaves
import Derived.Shelf.Abstract
import Derived.WalkKit
import Derived.OwnWalkIn
import Derived.TacticsInMore
import Derived.LoopNIn
import Derived.LoopIn
import Derived.Maps.AppendAt
import Derived.Test.YtcfmmmloeaggmaaGreatProg
import Derived.Shelf.SlSortCmp.NoneTotal
import Derived.Shelf.SlGeneric
import Derived.Ground.SlsfProg
import Derived.Test.YtcfmmmloeaggmaaGreatFB
section
section
namespace Go.Kv
set_option linter.unusedVariables false
set_option linter.unusedSimpArgs false
def it (f:List Nat):Nat→Nat→Nat
 | 0,p=>p
 | k+1,p=>f.getD (it f k p) 0
theorem it_add (f:List Nat) (p:Nat) (a:Nat):∀ b,it f (a+b) p=it f b (it f a p)
 | 0=>rfl
 | b+1=>by
  show f.getD (it f (a+b) p) 0=_
  rw [it_add f p a b]; rfl
theorem it_lt {f:List Nat} {n p:Nat} (hf:Ok f n) (hp:p<n):∀ k,it f k p<n
 | 0=>hp
 | k+1=>hf.get' _
theorem it_mul {f:List Nat} {p d:Nat} (h:it f d p=p):∀ k,it f (d * k) p=p
 | 0=>rfl
 | k+1=>by rw [Nat.mul_succ,it_add,it_mul h k,h]
def itM (f:List Nat) (n k:Nat):List Nat:=(List.range n).map (it f k)
theorem itM_ok {f:List Nat} {n:Nat} (hf:Ok f n) (k:Nat):Ok (itM f n k) n:=⟨by simp [itM],hf.pos,hf.le,fun x hx=>by
 simp only [itM,List.mem_map,List.mem_range] at hx
 obtain ⟨p,hp,rfl⟩:=hx
 exact it_lt hf hp k⟩
def cyc (f:List Nat) (n p:Nat):Bool:=(List.range n).any fun k=>decide (it f (k+1) p=p)
theorem cyc_iff {f:List Nat} {n p:Nat}:cyc f n p=true↔∃ d,1≤d∧d≤n∧it f d p=p:=by
 simp only [cyc,List.any_eq_true,List.mem_range,decide_eq_true_eq]
 constructor
 ·rintro ⟨k,hk,h⟩; exact ⟨k+1,by omega,by omega,h⟩
 ·rintro ⟨d,h1,h2,h⟩; exact ⟨d - 1,by omega,by rw [Nat.sub_add_cancel h1]; exact h⟩
def hgt (f:List Nat) (n p:Nat):Nat:=(List.range 61).findIdx fun k=>cyc f n (it f k p)
def IsMin (f:List Nat) (p v:Nat):Prop:=(∃ k,v=it f k p)∧∀ k,v≤it f k p
theorem IsMin.uniq {f:List Nat} {p v w:Nat} (h:IsMin f p v) (h':IsMin f p w):v=w:=by
 obtain ⟨⟨a,ha⟩,hb⟩:=h
 obtain ⟨⟨c,hc⟩,hd⟩:=h'
 have:=hb c
 have:=hd a
 omega
theorem IsMin.move {f:List Nat} {n p j v:Nat} (hc:cyc f n p=true) (h:IsMin f (it f j p) v):IsMin f p v:=by
 obtain ⟨d,h1,h2,h3⟩:=cyc_iff.1 hc
 obtain ⟨⟨a,ha⟩,hb⟩:=h
 refine ⟨⟨j+a,by rw [it_add]; exact ha⟩,fun k=>?_⟩
 have e:it f k p=it f (d * j - j+k) (it f j p):=by
  have hj:j≤d * j:=by
   have:=Nat.mul_le_mul_right j h1
   omega
  rw [← it_add,← Nat.add_assoc,show j+(d * j - j)=d * j by omega,it_add,it_mul h3]
 rw [e]; exact hb _
def lo (f:List Nat) (p:Nat):Nat→Nat
 | 0=>p
 | m+1=>min (lo f p m) (it f (m+1) p)
theorem lo_mem (f:List Nat) (p:Nat):∀ m,∃ k,k≤m∧lo f p m=it f k p
 | 0=>⟨0,Nat.le_refl _,rfl⟩
 | m+1=>by
  obtain ⟨k,hk,h⟩:=lo_mem f p m
  simp only [lo]
  by_cases hle:lo f p m≤it f (m+1) p
  ·exact ⟨k,by omega,by rw [Nat.min_eq_left hle]; exact h⟩
  ·exact ⟨m+1,Nat.le_refl _,by rw [Nat.min_eq_right (by omega)]⟩
def sb:List Nat→Nat
 | []=>0
 | p :: l=>sb l ||| 2 ^ p
end Go.Kv
end
section
namespace Go.Proofs.YtcfmmmloeaggmaaGreat
open Go.Kv
set_option linter.unusedVariables false
set_option linter.unusedSimpArgs false
attribute [local irreducible] ACall PCall KL
def its (f:List Nat) (p m:Nat):List Int:=(List.range m).map fun k=>(it f k p:Int)
@[simp] theorem its_length (f:List Nat) (p m:Nat):(its f p m).length=m:=by simp [its]
end Go.Proofs.YtcfmmmloeaggmaaGreat
end
section
namespace Go.Proofs.YtcfmmmloeaggmaaGreat
open Go.Kv
set_option maxRecDepth 100000
def k194:KC:=(.seq (.ops [oP 2 (.mv (iC 0))])
 (.seq (.cond (.c (.bool false)) (.seq (.ops [mV 3 0,oP 4 (.conv .u32 (.t 3)),oP 5 (.call (fC 209) [(.t 4)]),mV 2 5])
 .ret) .skip)
 (.seq (.ops [mV 6 0,oP 7 (.call (fC 210) [(.t 6)]),mV 2 7])
 .ret)))
theorem e194:Ent 194 8 [] [.t 2] k194:=ent Tryz.func194
def k210:KC:=(.seq (.ops [oP 2 (.mv (iC 0))])
 (.seq (.seq (.ops [mV 3 0,oP 4 (.bin .geq (.t 3) (.c (.int .u64 4294967296)))])
 (.cond (.t 4) (.seq (.ops [mV 5 0,oP 6 (.bin .shr (.t 5) (.c (.int .u64 32))),mV 0 6])
 (.ops [oP 2 (.mv (iC 32))])) .skip))
 (.seq (.seq (.ops [mV 7 0,oP 8 (.bin .geq (.t 7) (.c (.int .u64 65536)))])
 (.cond (.t 8) (.seq (.ops [mV 9 0,oP 10 (.bin .shr (.t 9) (.c (.int .u64 16))),mV 0 10])
 (.ops [mV 11 2,oP 12 (.bin .add (.t 11) (iC 16)),mV 2 12])) .skip))
 (.seq (.seq (.ops [mV 13 0,oP 14 (.bin .geq (.t 13) (.c (.int .u64 256)))])
 (.cond (.t 14) (.seq (.ops [mV 15 0,oP 16 (.bin .shr (.t 15) (.c (.int .u64 8))),mV 0 16])
 (.ops [mV 17 2,oP 18 (.bin .add (.t 17) (iC 8)),mV 2 18])) .skip))
 (.seq (.ops [mV 19 2,mV 20 0,oP 21 (.conv .u8 (.t 20)),oP 22 (.idxStr (.c (.str ([0,1,2,2,3,3,3,3,4,4,4,4,4,4,4,4,5,5,5,5,5,5,5,5,5,5,5,5,5,5,5,5] ++ List.replicate 32 (6) ++ List.replicate 64 (7) ++ List.replicate 128 (8)))) (.t 21)),oP 23 (.conv .i64 (.t 22)),oP 24 (.bin .add (.t 19) (.t 23)),mV 2 24])
 .ret)))))
theorem e210:Ent 210 25 [] [.t 2] k210:=ent Tryz.func210
end Go.Proofs.YtcfmmmloeaggmaaGreat
namespace Go.Proofs.YtcfmmmloeaggmaaGreat
open Go.Kv
set_option linter.unusedVariables false
set_option linter.unusedSimpArgs false
attribute [local irreducible] ACall PCall KL
def Jn (m:List Int) (i j:Nat):Prop:=(∀ x y,x<y→y≤i→x≠j→y≠j→m.getD x 0≤m.getD y 0)∧∀ y,j<y→y≤i→m.getD j 0≤m.getD y 0
def Sn (m:List Int) (i:Nat):Prop:=∀ x y,x<y→y<i→m.getD x 0≤m.getD y 0
theorem getD_setI (m:List Int) (i:Nat) (v:Int) (k:Nat) (h:i<m.length):(m.set i v).getD k 0=if k=i then v else m.getD k 0:=by
 rw [List.getD_eq_getElem?_getD]
 by_cases e:k=i
 ·subst e; rw [List.getElem?_set_self h]; simp
 ·rw [List.getElem?_set_ne (Ne.symm e),if_neg e,List.getD_eq_getElem?_getD]
theorem Jn.zero {m:List Int} {i:Nat} (h:Sn m i):Jn m i i:=⟨fun x y h1 h2 h3 h4=>h x y h1 (by omega),fun y h1 h2=>by omega⟩
theorem Jn.done {m:List Int} {i j:Nat} (h:Jn m i j) (hj:j≤i) (hs:j=0∨m.getD (j - 1) 0≤m.getD j 0):Sn m (i+1):=fun x y h1 h2=>by
 by_cases ex:x=j
 ·subst ex; exact h.2 y h1 (by omega)
 ·by_cases ey:y=j
  ·subst ey
   rcases hs with hs | hs
   ·omega
   ·by_cases e:x=y - 1
    ·rw [e]; exact hs
    ·exact Int.le_trans (h.1 x (y - 1) (by omega) (by omega) ex (by omega)) hs
  ·exact h.1 x y h1 (by omega) ex ey
def swap1 (m:List Int) (j:Nat):List Int:=(m.set j (m.getD (j - 1) 0)).set (j - 1) (m.getD j 0)
@[simp] theorem swap1_length (m:List Int) (j:Nat):(swap1 m j).length=m.length:=by simp [swap1]
theorem swap1_getD {m:List Int} {j:Nat} (h:j<m.length) (k:Nat):(swap1 m j).getD k 0=if k=j - 1 then m.getD j 0 else if k=j then m.getD (j - 1) 0 else m.getD k 0:=by
 rw [swap1,getD_setI _ _ _ _ (by simp; omega),getD_setI _ _ _ _ h]
theorem Jn.step {m:List Int} {i j:Nat} (h:Jn m i j) (hi:i<m.length) (hj:j≤i) (h0:0<j) (hl:m.getD j 0<m.getD (j - 1) 0):Jn (swap1 m j) i (j - 1):=by
 have hg:=swap1_getD (m:=m) (j:=j) (by omega)
 refine ⟨fun x y h1 h2 h3 h4=>?_,fun y h1 h2=>?_⟩
 ·rw [hg,hg,if_neg h3,if_neg h4]
  by_cases ex:x=j
  ·rw [if_pos ex,if_neg (by omega)]
   exact h.1 (j - 1) y (by omega) h2 (by omega) (by omega)
  ·rw [if_neg ex]
   by_cases ey:y=j
   ·rw [if_pos ey]
    exact h.1 x (j - 1) (by omega) (by omega) ex (by omega)
   ·rw [if_neg ey]; exact h.1 x y h1 h2 ex ey
 ·rw [hg,hg,if_pos rfl,if_neg (by omega)]
  by_cases ey:y=j
  ·rw [if_pos ey]; omega
  ·rw [if_neg ey]; exact h.2 y (by omega) h2
theorem aWrap_u8 {n:Nat} (h:n<256) {K:PV→Prop}:aWrap .u8 (n:Int) K=K (.int .u8 n):=by
 have e:IntKind.u8.wrap (n:Int)=n:=by
  simp only [IntKind.wrap,IntKind.signed,IntKind.bits,Bool.false_and,Bool.false_eq_true,if_false]
  omega
 show K _=_
 rw [e]
theorem aWrap_u64 {n:Nat} (h:n<9223372036854775808) {K:PV→Prop}:aWrap .u64 (n:Int) K=K (.int .u64 n):=by
 have e:IntKind.u64.wrap (n:Int)=n:=by
  simp only [IntKind.wrap,IntKind.signed,IntKind.bits,Bool.false_and,Bool.false_eq_true,if_false]
  omega
 show K _=_
 rw [e]
theorem aOp_idxStr {P:Program} {env:Env} {σ:Heap} {K:PV→Heap→Prop} (s:List UInt8) (t:Nat) {k:IntKind} {n:Int} (h:Kv.look env t = .int k n):aOp P (.idxStr (.c (.str s)) (.t t)) env σ K=((0≤n∧n<s.length)∧K (.int .u8 (s.getD n.toNat 0).toNat) σ):=by
 simp only [aOp,kx,h,intOf?]
set_option maxRecDepth 100000 in
theorem p210 (n:Nat) (hn:n≤12):ACall Tryz.prog 210 [.int .u64 n] [] (fun v s=>(∃ k:Int,v = .int .i64 k)∧s = []):=by
 refine e210 (by simp) fun _ _=>?_
 simp only [k210,argEnv,go_sem]
 refine ⟨fun h=>absurd h (by omega),fun _=>⟨fun h=>absurd h (by omega),fun _=>⟨fun h=>absurd h (by omega),fun _=>?_⟩⟩⟩
 rw [aWrap_u8 (by omega)]
 try simp only [go_sem]
 rw [aOp_idxStr _ 21 (k:=.u8) (n:=n) rfl]
 generalize hg:(List.getD _ (Int.toNat (n:Int)) (0:UInt8))=g
 have hlt:=g.toNat_lt
 try simp only [go_sem]
 exact ⟨by omega,by omega,by omega,Kv.Fin.still ⟨⟨_,rfl⟩,rfl⟩⟩
theorem p194 (n:Nat) (hn:n≤12):ACall Tryz.prog 194 [.int .u64 n] [] (fun v s=>(∃ k:Int,v = .int .i64 k)∧s = []):=by
 refine e194 (by simp) fun _ _=>?_
 simp only [k194,argEnv,go_sem]
 refine (p210 n hn).go fun v s ⟨⟨k,hv⟩,hs⟩=>?_
 subst hv; subst hs
 try simp only [go_sem]
 exact Kv.Fin.still ⟨⟨_,rfl⟩,rfl⟩
end Go.Proofs.YtcfmmmloeaggmaaGreat
end
section
namespace Go.Proofs.YtcfmmmloeaggmaaGreat
open Go.Kv
set_option linter.unusedVariables false
set_option linter.unusedSimpArgs false
attribute [local irreducible] ACall PCall KL
def cpt:List Int→List Int
 | []=>[]
 | a :: l=>match l with
  | []=>[a]
  | b :: _=>if a=b then cpt l else a :: cpt l
end Go.Proofs.YtcfmmmloeaggmaaGreat
end
section
namespace Go.Proofs.YtcfmmmloeaggmaaGreat
open Go.Kv
set_option maxRecDepth 100000
def k92_b0:KC:=(.seq (.ops [oP 7 (.bin .lss (.t 6) (.t 5))])
 (.seq (.cond (.t 7) .skip (.exit 0))
 (.seq (.block 1 (.seq (.ops [mV 8 6,mV 4 8])
 (.ops [mV 9 3,mV 10 4,oP 11 (.bsl true 2 1 [(.t 10)]),oP 12 (.app (.t 9) (.t 11) 2 1),mV 3 12])))
 (.ops [oP 13 (.bin .add (.t 6) (iC 1)),mV 6 13]))))
def k92:KC:=(.seq (.ops [oP 2 (.mv (.c (.nils)))])
 (.seq (.ops [oP 3 (.mv (.c (.nils)))])
 (.seq (.seq (.ops [mV 5 0,oP 6 (.mv (iC 0))])
 (.block 0 (.loop k92_b0)))
 (.seq (.ops [mV 14 3,mV 2 14])
 .ret))))
theorem e92:Ent 92 15 [11] [.t 2] k92:=ent Tryz.func92
end Go.Proofs.YtcfmmmloeaggmaaGreat
namespace Go.Proofs.YtcfmmmloeaggmaaGreat
open Go.Kv
set_option linter.unusedVariables false
set_option linter.unusedSimpArgs false
attribute [local irreducible] ACall PCall KL
def pts (n:Nat):List Int:=mk n fun i=>(i:Int)
theorem p92 (n:Nat) (hn:1≤n∧n≤4294967296):ACall Tryz.prog 92 [.int .i64 n] [] (fun v s=>v = .ref 0 (n - 1) 0 (pts n).length∧s = [.arr (n - 1) 2 1 (ints (pts n))]):=by
 refine e92 (by simp) fun _ _=>?_
 simp only [k92,argEnv,go_sem,↓reduceIte,Nat.reduceEqDiff,Nat.reduceAdd,reduceCtorEq]
 refine KL_ind k92_b0.eq_1 (fun x:Nat=>[(6,.int .i64 x),(5,.int .i64 n),(3,if x=0 then .nils else .ref 0 (x - 1) 0 x)]) (fun x=>if x=0 then [] else [.arr (x - 1) 2 1 (ints (pts x))]) (fun x=>x≤n) (fun x=>n - x) [6,5,3] 0 rfl (by simp) (Nat.zero_le _) fun x hi ih=>?_
 simp only [go_sem,↓reduceIte,Nat.reduceEqDiff,Nat.reduceAdd,reduceCtorEq]
 refine ⟨fun hx=>?_,fun hx=>?_⟩
 ·rcases x with _ | x
  ·simp only [go_sem,↓reduceIte,Nat.reduceEqDiff,Nat.reduceAdd,reduceCtorEq]
   repeat' (first | refine And.intro ?_ ?_ | intro _)
   all_goals (try omega)
   refine ih 1 (by omega) (by omega) _ _ ?_ ?_
   ·simp [keep]
   ·simp [pts,mk,ints]
  ·have hne:¬ (x+1=0):=by omega
   simp only [hne,if_false,Nat.add_sub_cancel]
   simp only [go_sem,↓reduceIte,Nat.reduceEqDiff,Nat.reduceAdd,reduceCtorEq]
   have hl:(pts (x+1)).length=x+1:=by simp [pts]
   repeat' (first | refine And.intro ?_ ?_ | intro _)
   all_goals (try omega)
   refine ih (x+1+1) (by omega) (by omega) _ _ ?_ ?_
   ·simp [keep]
   ·rw [List.take_of_length_le (by omega)]
    have:=mk_succ (x+1) fun i=>(i:Int)
    simp only [pts] at this ⊢
    rw [this]
    rfl
 ·obtain rfl:x=n:=by omega
  have hne:¬ (x=0):=by omega
  simp only [hne,if_false]
  simp only [go_sem,↓reduceIte,Nat.reduceEqDiff,Nat.reduceAdd,reduceCtorEq]
  refine Kv.Fin.now ⟨?_,rfl⟩
  simp [pts]
end Go.Proofs.YtcfmmmloeaggmaaGreat
end
section
namespace Go.Proofs.YtcfmmmloeaggmaaGreat
open Go.Kv
set_option linter.unusedVariables false
set_option linter.unusedSimpArgs false
attribute [local irreducible] ACall PCall KL
def dg (n:Nat):Nat→Nat→List Nat
 | 0,_=>[]
 | j+1,k=>(k / n ^ j % n) :: dg n j k
@[simp] theorem dg_length (n:Nat):∀ j k,(dg n j k).length=j
 | 0,k=>rfl
 | j+1,k=>by simp [dg,dg_length n j k]
def allM (n:Nat):List (List Nat):=(List.range (n ^ n)).map (dg n n)
def fstM (n x:Nat):List (List Int):=(List.range x).map fun k=>mp (dg n n k)
@[simp] theorem fstM_length (n x:Nat):(fstM n x).length=x:=by simp [fstM]
end Go.Proofs.YtcfmmmloeaggmaaGreat
end
section
namespace Go.Proofs.YtcfmmmloeaggmaaGreat
open Go.Kv
set_option linter.unusedVariables false
set_option linter.unusedSimpArgs false
attribute [local irreducible] ACall PCall KL
def insI (x:Int):List Int→List Int
 | []=>[x]
 | y :: l=>if x≤y then x :: y :: l else y :: insI x l
def srt:List Int→List Int
 | []=>[]
 | x :: l=>insI x (srt l)
theorem insI_perm (x:Int):∀ l,(insI x l).Perm (x :: l)
 | []=>.refl _
 | y :: l=>by
  unfold insI
  split
  ·exact .refl _
  ·exact ((insI_perm x l).cons y).trans (.swap x y l)
theorem srt_perm:∀ l,(srt l).Perm l
 | []=>.refl _
 | x :: l=>(insI_perm x _).trans ((srt_perm l).cons x)
@[simp] theorem srt_length (l:List Int):(srt l).length=l.length:=(srt_perm l).length_eq
end Go.Proofs.YtcfmmmloeaggmaaGreat
end
end
namespace Go.Proofs.YtcfmmmloeaggmaaGreat
open Go.Kv
set_option linter.unusedVariables false
set_option linter.unusedSimpArgs false
section
section
attribute [local irreducible] ACall PCall KL
def bits (p:List Int):Nat:=sb (p.map Int.toNat)
end
end
section
section
set_option maxRecDepth 100000
def k96_b0:KC:=(.seq (.ops [oP 14 (.bin .lss (.t 13) (.t 12))])
 (.seq (.cond (.t 14) .skip (.exit 0))
 (.seq (.block 1 (.seq (.ops [mV 15 13,mV 5 15])
 (.seq (.draw [mV 16 0,mV 17 5,oP 18 (.idxS 1 (.t 16) (.t 17)),oP 19 (.load false 1 (.t 18)),mV 20 1,mV 21 5,oP 22 (.idxS 1 (.t 20) (.t 21)),oP 23 (.load false 1 (.t 22)),oP 24 (.bin .neq (.t 19) (.t 23))])
 (.cond (.t 24) (.seq (.ops [oP 4 (.mv (.c (.bool false)))])
 .ret) .skip))))
 (.ops [oP 25 (.bin .add (.t 13) (iC 1)),mV 13 25]))))
def k96:KC:=(.seq (.ops [oP 4 (.mv (.c (.bool false)))])
 (.seq (.seq (.ops [mV 6 0,oP 7 (.len false (.t 6)),mV 8 1,oP 9 (.len false (.t 8)),oP 10 (.bin .neq (.t 7) (.t 9))])
 (.cond (.t 10) (.seq (.ops [oP 4 (.mv (.c (.bool false)))])
 .ret) .skip))
 (.seq (.seq (.ops [mV 11 0,oP 12 (.len false (.t 11)),oP 13 (.mv (iC 0))])
 (.block 0 (.loop k96_b0)))
 (.seq (.ops [oP 4 (.mv (.c (.bool true)))])
 .ret))))
theorem e96:Ent 96 26 [] [.t 4] k96:=ent Tryz.func96
end
section
attribute [local irreducible] ACall PCall KL
abbrev Met:=List Int × List Int
def mcell (m:Met):PV:=.agg [.list (ints m.1),.list (ints m.2)]
def mets (l:List Met):List PV:=l.map mcell
@[simp] theorem mets_length (l:List Met):(mets l).length=l.length:=by simp [mets]
theorem mets_get {l:List Met} {i:Nat} (h:i<l.length):(mets l)[i]? = some (mcell l[i]):=by simp [mets,h]
instance (m:Met):Still (mcell m):=by unfold mcell; infer_instance
instance (l:List Met):Still (.list (mets l)):=Still.list fun x hx=>by
 obtain ⟨m,_,rfl⟩:=List.mem_map.1 hx
 refine ⟨inferInstance,fun c hc=>?_⟩
 simp only [mcell,PV.cs,List.mem_cons,List.mem_singleton,List.not_mem_nil,or_false] at hc
 rcases hc with rfl | rfl <;> exact upto_ints 0 _
theorem p96 (xs ys:List Int) (hl:ys.length≤4294967296) (hl':xs.length≤4294967296):Pure Tryz.prog 96 [.list (ints xs),.list (ints ys)] (.bool (decide (xs=ys))):=by
 refine e96 (by simp) fun _ _=>?_
 simp only [k96,argEnv,go_sem]
 refine ⟨fun h=>?_,fun h=>?_⟩
 ·exact Kv.Fin.still ⟨by rw [decide_eq_false (fun e=>h (by rw [e]))],rfl⟩
 ·have hxy:xs.length=ys.length:=by omega
  refine KL_ind k96_b0.eq_1 (fun x:Nat=>[(0,.list (ints xs)),(1,.list (ints ys)),(12,.int .i64 xs.length),(13,.int .i64 x)]) (fun _=>[]) (fun x=>x≤xs.length∧xs.take x=ys.take x) (fun x=>xs.length - x) [0,1,12,13] 0 (by rfl) rfl ⟨Nat.zero_le _,by simp⟩ fun x ⟨hx,he⟩ ih=>?_
  try simp only [go_sem]
  refine ⟨fun h1=>?_,fun h1=>?_⟩
  ·have h2:x<xs.length:=by omega
   have h3:x<ys.length:=by omega
   refine ⟨by omega,fun _=>⟨by omega,fun _=>⟨fun h4=>?_,fun h4=>⟨by omega,?_⟩⟩⟩⟩
   ·rw [getD_eq h2,getD_eq h3] at h4
    exact Kv.Fin.still ⟨by rw [decide_eq_false]; rintro rfl; exact h4 rfl,rfl⟩
   ·rw [getD_eq h2,getD_eq h3] at h4
    refine ih (x+1) ⟨by omega,?_⟩ (by omega) _ _ (by rfl) rfl
    rw [List.take_succ_eq_append_getElem h2,List.take_succ_eq_append_getElem h3,he,h4]
  ·obtain rfl:x=xs.length:=by omega
   rw [List.take_length,hxy,List.take_length] at he
   exact Kv.Fin.still ⟨by rw [decide_eq_true he],rfl⟩
end
end
section
section
set_option maxRecDepth 100000
def k115:KC:=(.seq (.ops [oP 2 (.mv (.c (.nils)))])
 (.seq (.seq (.ops [mV 3 0,oP 4 (.isn false (.t 3))])
 (.cond (.t 4) (.seq (.ops [oP 2 (.mv (.c (.nils)))])
 .ret) .skip))
 (.seq (.ops [oP 5 (.bsl false 2 1 []),mV 6 0,oP 7 (.app (.t 5) (.t 6) 2 1),mV 2 7])
 .ret)))
theorem e115:Ent 115 8 [] [.t 2] k115:=ent Tryz.func115
end
section
attribute [local irreducible] ACall PCall KL
def ext (P:List Int) (k:Nat):List (List Int):=(List.range k).map fun c:Nat=>P ++ [(c:Int)]
@[simp] theorem ext_length (P:List Int) (k:Nat):(ext P k).length=k:=by simp [ext]
def okP (n:Nat) (P:List Int):Bool:=decide (P.length=n) && P.all (fun k=>decide (0≤k∧k≤4)) && decide (P.length=0∨0≤mxl P) && decide (mxl P≤4)
theorem HKv (σ:Heap) (K:PV→Heap→Prop) (v:PV):HK σ K v=K v σ:=Eq.trans rfl rfl
theorem p115P (l:List Int) (hl:l.length≤4294967296):ACall Tryz.prog 115 [.list (ints l)] [] (fun v s=>(v = .ref 0 1 0 l.length∧s = [.arr 1 2 1 (ints l)])∨(l = []∧v = .nils∧s = [])):=by
 cases l with
 | nil =>
  refine e115 (by simp) fun _ _=>?_
  simp only [k115,argEnv,go_sem]
  have e:∀ K:Bool→Prop,aIsn (.list (ints [])) K=(K true∧K false):=fun _=>rfl
  rw [e]
  exact ⟨⟨fun _=>Kv.Fin.now (.inr ⟨rfl,rfl⟩),fun h=>by cases h⟩,⟨fun h=>(by cases h),fun _=>Kv.Fin.now (.inl ⟨rfl,rfl⟩)⟩⟩
 | cons x l =>
  refine e115 (by simp) fun _ _=>?_
  simp only [k115,argEnv,go_sem]
  have e:∀ K:Bool→Prop,aIsn (.list (ints (x :: l))) K=K false:=fun _=>rfl
  rw [e]
  try simp only [go_sem]
  refine ⟨by simp at hl; omega,Kv.Fin.now (.inl ⟨rfl,?_⟩)⟩
  simp
end
end
section
section
attribute [local irreducible] ACall PCall KL
def Wd (σ:Heap) (A:Nat→Prop) (w:PV) (l:List Int):Prop:=(w = .nils∧l = [])∨∃ id ver,w = .ref id ver 0 l.length∧σ[id]? = some (.arr ver 2 1 (ints l))∧¬ A id
theorem Wd.imm {σ:Heap} {A:Nat→Prop} {w:PV} {l:List Int} (h:Wd σ A w l):Imm σ w (.list (ints l)):=by
 rcases h with ⟨rfl,rfl⟩ | ⟨id,ver,rfl,h,_⟩
 ·exact .nils
 ·exact .refi h
theorem Wd.keep {σ σ':Heap} {A A':Nat→Prop} {w:PV} {l:List Int} (h:Wd σ A w l) (hk:∀ id,id < σ.length→¬ A id→σ'[id]? = σ[id]?∧¬ A' id):Wd σ' A' w l:=by
 rcases h with ⟨rfl,rfl⟩ | ⟨id,ver,rfl,h,ha⟩
 ·exact .inl ⟨rfl,rfl⟩
 ·have:=hk id (List.getElem?_eq_some_iff.1 h).1 ha
  exact .inr ⟨id,ver,rfl,this.1.trans h,this.2⟩
theorem Wd.cs {σ:Heap} {A:Nat→Prop} {w:PV} {l:List Int} (h:Wd σ A w l):w.cs = [w]∧w.ok=true:=by
 rcases h with ⟨rfl,rfl⟩ | ⟨id,ver,rfl,h,ha⟩ <;> exact ⟨rfl,rfl⟩
end
end
section
section
section
attribute [local irreducible] ACall PCall KL
def qcell (w:PV) (m:Met):PV:=.agg [.list (ints m.1),w]
structure QG (σ:Heap) (A:Nat→Prop) (q ver:Nat) (ws:List PV) (L:List Met):Prop where
 out:σ[q]? = some (.arr ver 138 2 (List.zipWith qcell ws L))
 len:ws.length=L.length
 row:∀ (i:Nat) (w:PV) (m:Met),ws[i]? = some w→L[i]? = some m→Wd σ (fun id=>A id∨id=q) w m.2
theorem QG.cell {σ:Heap} {A:Nat→Prop} {q ver:Nat} {ws:List PV} {L:List Met} (h:QG σ A q ver ws L) {i:Nat} (hi:i<L.length):∃ w,ws[i]? = some w∧(List.zipWith qcell ws L)[i]? = some (qcell w L[i])∧Wd σ (fun id=>A id∨id=q) w L[i].2:=by
 have hw:i<ws.length:=by rw [h.len]; exact hi
 refine ⟨ws[i],by simp [hw],by simp [List.getElem?_zipWith,hw,hi],h.row i _ _ (by simp [hw]) (by simp [hi])⟩
theorem QG.imm {σ:Heap} {A:Nat→Prop} {q ver:Nat} {ws:List PV} {L:List Met} (h:QG σ A q ver ws L):Imm σ (.ref q ver 0 L.length) (.list (mets L)):=by
 refine .ref q ver 0 L.length 138 2 _ (mets L) h.out (by simp [h.len]) (mets_length L) (fun i x d hx hd=>?_) (fun i x d j c c' hx hd hc hc'=>?_)
 all_goals
  rw [Nat.zero_add] at hx
  have hi:i<L.length:=by have:=(List.getElem?_eq_some_iff.1 hd).1; simpa using this
  obtain ⟨w,hw,hc0,hW⟩:=h.cell hi
  rw [hc0] at hx; cases hx
  rw [mets_get hi] at hd; cases hd
 ·exact ⟨rfl,by simp [mcell,PV.cs,PV.ok]⟩
 ·rcases j with _ | _ | j
  ·simp only [qcell,mcell,PV.cs,List.getElem?_cons_zero,Option.some.injEq] at hc hc'
   subst hc; subst hc'
   exact .still
  ·simp only [qcell,mcell,PV.cs,List.getElem?_cons_succ,List.getElem?_cons_zero,Option.some.injEq] at hc hc'
   subst hc; subst hc'
   exact hW.imm
  ·simp [qcell,PV.cs] at hc
theorem QG.keep {σ σ':Heap} {A A':Nat→Prop} {q ver:Nat} {ws:List PV} {L:List Met} (h:QG σ A q ver ws L) (hq:¬ A q) (hk:∀ id,id < σ.length→¬ A id→σ'[id]? = σ[id]?∧¬ A' id):QG σ' A' q ver ws L where
 out:=(hk q (List.getElem?_eq_some_iff.1 h.out).1 hq).1.trans h.out
 len:=h.len
 row:=fun i w m hw hm=>(h.row i w m hw hm).keep fun id hid hA=>by
  simp only [not_or] at hA ⊢
  exact ⟨(hk id hid hA.1).1,(hk id hid hA.1).2,hA.2⟩
end
end
section
section
attribute [local irreducible] ACall PCall KL
def one (n:Nat) (p:List Int):Prop:=∃ q,q<n∧p = [(q:Int)]
end
end
end
end Go.Proofs.YtcfmmmloeaggmaaGreat
section
namespace Go.Proofs.YtcfmmmloeaggmaaGreat
open Go.RowKit Go.Shelf
set_option linter.unusedVariables false
set_option linter.unusedSimpArgs false
attribute [local go_sem] Oper.semAt_some
def IntsAt (n₀:Nat) (W:World) (sv:Value) (zs:List Int):Prop :=
 (zs = []∧∃ a cap,sv = .slice a 0 cap)∨∃ b off cap,sv = .slice (some ⟨b,off,none⟩) zs.length cap∧b<n₀∧∀ j,j<zs.length→W.cell? ⟨b,off+j,none⟩=some (.int .i64 (zs[j]?.getD 0))
theorem IntsAt.below {n₀:Nat} {A B:World} (h:Below n₀ A B) {sv:Value} {zs:List Int}:IntsAt n₀ A sv zs→IntsAt n₀ B sv zs
 | .inl e=>.inl e
 | .inr ⟨b,off,cap,e,hb,hc⟩=>.inr ⟨b,off,cap,e,hb,fun j hj=>(h.cell (p:=⟨b,off+j,none⟩) hb).trans (hc j hj)⟩
end Go.Proofs.YtcfmmmloeaggmaaGreat
end
section

end
namespace Go.Proofs.YtcfmmmloeaggmaaGreat
open Go.Kv
set_option linter.unusedVariables false
set_option linter.unusedSimpArgs false
section
section
section
attribute [local irreducible] ACall PCall KL
def nz (l:List Nat):List Int:=l.map fun x:Nat=>(x:Int)
theorem nz_len (l:List Nat):(nz l).length=l.length:=List.length_map _
end
end
end
end Go.Proofs.YtcfmmmloeaggmaaGreat
section
namespace Go.Proofs.YtcfmmmloeaggmaaGreat
open Go.RowKit Go.Shelf
set_option linter.unusedVariables false
set_option linter.unusedSimpArgs false
attribute [local go_sem] Oper.semAt_some
def cI (x y:Int):Int:=if x<y then -1 else if y<x then 1 else 0
def slc:List Int→List Int→Int
 | [],[]=>0
 | [],_ :: _=>-1
 | _ :: _,[]=>1
 | x :: xs,y :: ys=>if x<y then -1 else if y<x then 1 else slc xs ys
theorem slc_drop {xs ys:List Int} {k:Nat} (h1:k<xs.length) (h2:k<ys.length):slc (xs.drop k) (ys.drop k)=if (xs[k]?.getD 0)<(ys[k]?.getD 0) then -1 else if (ys[k]?.getD 0)<(xs[k]?.getD 0) then 1 else slc (xs.drop (k+1)) (ys.drop (k+1)):=by
 rw [List.drop_eq_getElem_cons h1,List.drop_eq_getElem_cons h2,slc]
 simp [h1,h2]
theorem slc_short {xs ys:List Int} {k:Nat} (h1:k<xs.length) (h2:ys.length≤k):slc (xs.drop k) (ys.drop k)=1:=by
 rw [List.drop_eq_getElem_cons h1,List.drop_of_length_le h2,slc]
theorem slc_end (xs ys:List Int):slc (xs.drop xs.length) (ys.drop xs.length)=if xs.length<ys.length then -1 else 0:=by
 rw [List.drop_length]
 split
 ·rename_i h; rw [List.drop_eq_getElem_cons h,slc]
 ·rename_i h; rw [List.drop_of_length_le (by omega),slc]
def orV (u v:Int):Int:=if u=0 then v else u
theorem orV_ne {u v:Int} (h:u≠0):orV u v=u:=if_neg h
theorem orV_zero (v:Int):orV 0 v=v:=rfl
set_option maxHeartbeats 1000000 in
theorem nan64_in (F:Fence) (n:Nat) (h:F.fn 195) (hro:F.round=none) (x:Int) (w:World):CallsIn F n Tryz.prog 195 #[.int .i64 x] w fun e w'=>e = .returned (.bool false)∧w'=w:=by
 refine callsIn_of_wp Tryz.func195 rfl h ?_ hro
 simp only [Tryz.ntmps195,List.size_toArray,List.length_cons,List.length_nil,Nat.reduceAdd,Nat.reduceSub,Array.replicate_succ,Array.replicate_zero,List.push_toArray,List.append_toArray,List.nil_append,List.cons_append]
 gi_wp2
 go_ret
 exact ⟨by simp,rfl⟩
set_option maxHeartbeats 1000000 in
theorem cmp64_in (F:Fence) (n:Nat) (h:F.fn 165) (h2:F.fn 195) (hro:F.round=none) (hn:1≤n) (x y:Int) (w:World):CallsIn F n Tryz.prog 165 #[.int .i64 x,.int .i64 y] w fun e w'=>e = .returned (.int .i64 (cI x y))∧w'=w:=by
 refine callsIn_of_wp Tryz.func165 rfl h ?_ hro
 simp only [Tryz.ntmps165,List.size_toArray,List.length_cons,List.length_nil,Nat.reduceAdd,Nat.reduceSub,Array.replicate_succ,Array.replicate_zero,List.push_toArray,List.append_toArray,List.nil_append,List.cons_append]
 gi_wp2_with (gi_at_call 195; refine (nan64_in F (n - 1) h2 hro _ _).mono ?_; rintro e w' ⟨rfl,rfl⟩)
 all_goals go_ret
 all_goals (refine ⟨?_,rfl⟩; unfold cI; (repeat' split) <;> first | rfl | omega)
set_option maxRecDepth 100000 in
set_option maxHeartbeats 2000000 in
theorem slc_in (F:Fence) (n:Nat) (h:F.fn 166) (h1:F.fn 165) (h2:F.fn 195) (hro:F.round=none) (hn:2≤n) (b1 o1 c1 b2 o2 c2:Nat) (xs ys:List Int) (hx:xs.length≤1000000) (hy:ys.length≤1000000) (w:World)
  (hc1:∀ j,j<xs.length→w.cell? ⟨b1,o1+j,none⟩=some (.int .i64 (xs[j]?.getD 0))) (hc2:∀ j,j<ys.length→w.cell? ⟨b2,o2+j,none⟩=some (.int .i64 (ys[j]?.getD 0))) :
  CallsIn F n Tryz.prog 166 #[.slice (some ⟨b1,o1,none⟩) xs.length c1,.slice (some ⟨b2,o2,none⟩) ys.length c2] w fun e w'=>e = .returned (.int .i64 (slc xs ys))∧w'=w:=by
 have h3:1≤n - 1:=by omega
 have h4:1≤n:=by omega
 refine callsIn_of_wp Tryz.func166 rfl h ?_ hro
 simp only [Tryz.ntmps166,List.size_toArray,List.length_cons,List.length_nil,Nat.reduceAdd,Nat.reduceSub,Array.replicate_succ,Array.replicate_zero,List.push_toArray,List.append_toArray,List.nil_append,List.cons_append]
 gi_wp2
 gi_loopw [11] (fun i wr=>∃ k:Nat,k≤xs.length∧i = .int .i64 k∧slc (xs.drop k) (ys.drop k)=slc xs ys∧wr=w)
  (fun i _=>xs.length - (intOf i).toNat)
 case atStart=>exact ⟨0,Nat.zero_le _,rfl,rfl,rfl⟩
 case round =>
  obtain ⟨k,hk,rfl,hs,rfl⟩:=hrel
  have hx1:k<xs.length→wr.cell? ⟨b1,o1+k,none⟩=some (.int .i64 (xs[k]?.getD 0)):=hc1 k
  have hy1:k<ys.length→wr.cell? ⟨b2,o2+k,none⟩=some (.int .i64 (ys[k]?.getD 0)):=hc2 k
  by_cases hlt:k<xs.length
  ·have hx2:=hx1 hlt
   by_cases hlt2:k<ys.length
   ·have hy2:=hy1 hlt2
    have hd:=slc_drop hlt hlt2
    rw [hs] at hd
    clear hs
    gi_wp2_with (gi_at_call 165; refine (cmp64_in F (n - 1) h1 h2 hro h3 _ _ _).mono ?_; rintro e w' ⟨rfl,rfl⟩)
    ·have hb:(cI xs[k] ys[k] != 0)=true:=by assumption
     have hne:¬ cI xs[k] ys[k]=0:=by simpa using hb
     go_ret
     refine ⟨?_,rfl⟩
     show Ending.returned (Value.int .i64 (cI xs[k] ys[k]))=_
     rw [hd]
     simp only [List.getElem?_eq_getElem hlt,List.getElem?_eq_getElem hlt2,Option.getD_some]
     unfold cI at hne ⊢
     (repeat' split) <;> first | rfl | omega | (simp_all)
    ·have hb:(cI xs[k] ys[k] != 0)=false:=by assumption
     have he:cI xs[k] ys[k]=0:=by simpa using hb
     refine ⟨⟨k+1,by omega,by simp,?_,trivial⟩,by simp [intOf]; omega⟩
     rw [hd]
     simp only [List.getElem?_eq_getElem hlt,List.getElem?_eq_getElem hlt2,Option.getD_some]
     unfold cI at he
     split at he
     ·cases he
     ·split at he
      ·cases he
      ·rename_i q1 q2
       rw [if_neg q1,if_neg q2]
   ·have hd:=slc_short hlt (Nat.le_of_not_lt hlt2)
    rw [hs] at hd
    clear hs
    gi_wp2
    go_ret
    exact ⟨by show Ending.returned (Value.int .i64 1)=_; rw [hd],rfl⟩
  ·obtain rfl:k=xs.length:=by omega
   rw [slc_end] at hs
   gi_wp2
   all_goals go_ret
   all_goals (refine ⟨?_,rfl⟩; rw [← hs]; split <;> first | rfl | omega)
set_option maxHeartbeats 2000000 in
theorem or_in (F:Fence) (n:Nat) (h:F.fn 164) (hro:F.round=none) (b:Nat) (u v:Int) (w:World) (hu:w.cell? ⟨b,0,none⟩=some (.int .i64 u)) (hv:w.cell? ⟨b,1,none⟩=some (.int .i64 v)) :
  CallsIn F n Tryz.prog 164 #[.slice (some ⟨b,0,none⟩) 2 2] w fun e w'=>e = .returned (.int .i64 (orV u v))∧w'=w:=by
 refine callsIn_of_wp Tryz.func164 rfl h ?_ hro
 simp only [Tryz.ntmps164,List.size_toArray,List.length_cons,List.length_nil,Nat.reduceAdd,Nat.reduceSub,Array.replicate_succ,Array.replicate_zero,List.push_toArray,List.append_toArray,List.nil_append,List.cons_append]
 gi_wp2
 gi_loopw [8] (fun i wr=>∃ k:Nat,k≤2∧i = .int .i64 k∧(1≤k→u=0)∧(2≤k→v=0)∧wr=w)
  (fun i _=>2 - (intOf i).toNat)
 case atStart=>exact ⟨0,Nat.zero_le _,rfl,fun h=>by omega,fun h=>by omega,rfl⟩
 case round =>
  obtain ⟨k,hk,rfl,hk1,hk2,rfl⟩:=hrel
  have h012:k=0∨k=1∨k=2:=by omega
  rcases h012 with rfl | rfl | rfl
  ·gi_wp2
   ·have hb:(u != 0)=true:=by assumption
    have hne:u≠0:=by simpa using hb
    go_ret
    exact ⟨by show Ending.returned (Value.int .i64 u)=_; rw [orV_ne hne],rfl⟩
   ·have hb:(u != 0)=false:=by assumption
    have he:u=0:=by simpa using hb
    exact ⟨⟨1,by omega,by simp,fun _=>he,fun h=>by omega,trivial⟩,by simp [intOf]⟩
  ·have h0:=hk1 (Nat.le_refl _)
   subst h0
   gi_wp2
   ·go_ret
    exact ⟨by show Ending.returned (Value.int .i64 v)=_; rw [orV_zero],rfl⟩
   ·have hb:(v != 0)=false:=by assumption
    have he:v=0:=by simpa using hb
    exact ⟨⟨2,by omega,by simp,fun _=>by trivial,fun _=>he,trivial⟩,by simp [intOf]⟩
  ·have h0:=hk1 (by omega)
   have h1:=hk2 (by omega)
   subst h0; subst h1
   gi_wp2
   go_ret
   exact ⟨rfl,rfl⟩
theorem cell_two (w:World) (a b:Value) (t:TypeId):(w.alloc (.cells #[a,b] t)).cell? ⟨w.heap.size,0,none⟩=some a∧(w.alloc (.cells #[a,b] t)).cell? ⟨w.heap.size,1,none⟩=some b:=by
 have h:=World.alloc_heap_new w (.cells #[a,b] t)
 constructor <;> (unfold World.cell?; rw [h]; rfl)
end Go.Proofs.YtcfmmmloeaggmaaGreat
end
section
namespace Go.Proofs
open Go.Shelf Go.RowKit Go.Lib Go.Sort
shelf_lay_g SlLaysF.n6 Slsf 6 at Tryz 162 as YtcfmmmloeaggmaaGreat.sortRows
end Go.Proofs
namespace Go.Proofs.YtcfmmmloeaggmaaGreat
open Go.Shelf Go.RowKit Go.Lib Go.Sort
set_option linter.unusedVariables false
set_option linter.unusedSimpArgs false
theorem slc_self:∀ xs,slc xs xs=0
 | []=>rfl
 | x :: xs=>by rw [slc,if_neg (by omega),if_neg (by omega)]; exact slc_self xs
theorem slc_anti:∀ xs ys,slc ys xs = - slc xs ys
 | [],[]=>rfl
 | [],_ :: _=>rfl
 | _ :: _,[]=>rfl
 | x :: xs,y :: ys=>by
  have:=slc_anti xs ys
  rw [slc,slc]
  (repeat' split) <;> omega
theorem slc_eq:∀ {xs ys},slc xs ys=0→xs=ys
 | [],[],_=>rfl
 | [],_ :: _,h=>by cases h
 | _ :: _,[],h=>by cases h
 | x :: xs,y :: ys,h=>by
  rw [slc] at h
  split at h
  ·cases h
  ·split at h
   ·cases h
   ·rw [slc_eq h,show x=y by omega]
theorem slc_trans:∀ {xs ys zs},slc xs ys≤0→slc ys zs≤0→slc xs zs≤0
 | [],_,[],_,_=>by simp [slc]
 | [],_,_ :: _,_,_=>by simp [slc]
 | _ :: _,[],_,h,_=>by simp [slc] at h
 | _ :: _,_ :: _,[],_,h=>by simp [slc] at h
 | x :: xs,y :: ys,z :: zs,h1,h2=>by
  rw [slc] at h1 h2 ⊢
  split at h1
  ·split at h2
   ·rw [if_pos (by omega)]; omega
   ·split at h2
    ·omega
    ·rw [if_pos (by omega)]; omega
  ·split at h1
   ·omega
   ·split at h2
    ·rw [if_pos (by omega)]; omega
    ·split at h2
     ·omega
     ·rw [if_neg (by omega),if_neg (by omega)]
      exact slc_trans h1 h2
theorem cI_anti (x y:Int):cI y x = - cI x y:=by
 unfold cI
 (repeat' split) <;> omega
section
variable {α:Type} [Inhabited α] (enc:α→Value) {w:World} {g n:Nat} {os:Array Obj}
theorem sorted_heap {cur:Array Value} {e:TypeId} {fr:Nat × Nat} (d:Array α) (hb:w.heap[g]? = some (.cells cur e fr)):(sortWorld enc w g 0 n d os).heap[g]? = some (.cells (putCells enc 0 d cur) e fr):=by
 have hg:g<w.heap.size:=(Array.getElem?_eq_some_iff.1 hb).1
 unfold sortWorld
 rw [heap_grow_old _ _ (by simpa using hg)]
 simp [putRow,mapBlock,Sort.ahead,Array.getElem?_modify,hb,onCells]
theorem sorted_other (d:Array α) {k:Nat} (hk:k<w.heap.size) (hne:k≠g):(sortWorld enc w g 0 n d os).heap[k]? = w.heap[k]?:=by
 unfold sortWorld
 rw [heap_grow_old _ _ (by simpa using hk)]
 have:g≠k:=fun e=>hne e.symm
 simp [putRow,mapBlock,Sort.ahead,Array.getElem?_modify,this]
theorem sorted_size (d:Array α):w.heap.size≤(sortWorld enc w g 0 n d os).heap.size:=by
 unfold sortWorld; simp
theorem sorted_take (cur:Array Value) (d:Array α) (h:d.size≤cur.size):(putCells enc 0 d cur).toList.take d.size=d.toList.map enc:=by
 apply List.ext_getElem?
 intro j
 by_cases hj:j<d.size
 ·rw [List.getElem?_take_of_lt hj,Array.getElem?_toList]
  simp [putCells,hj,show j<cur.size by omega]
 ·rw [List.getElem?_take_eq_none (by omega),List.getElem?_eq_none (by simp; omega)]
end
theorem sorted_drop {α:Type} [Inhabited α] (enc:α→Value) (cur:Array Value) (d:Array α):(putCells enc 0 d cur).toList.drop d.size=cur.toList.drop d.size:=by
 apply List.ext_getElem?
 intro j
 rw [List.getElem?_drop,List.getElem?_drop,Array.getElem?_toList,Array.getElem?_toList]
 have h:¬ d.size+j<d.size:=by omega
 simp [putCells,h]
end Go.Proofs.YtcfmmmloeaggmaaGreat
end
section
namespace Go.Kv
set_option linter.unusedVariables false
def AObj.plain:AObj→Prop
 | .dead=>True
 | .box cs=>∀ c∈cs,Plain c
 | .arr _ _ _ xs=>∀ c∈flat xs,Plain c
theorem Plain.rel {c:PV} (h:Plain c) {φ φ':Frz} {ι ι':List KLoc} {v:Value} (hr:Rel φ ι c v):Rel φ' ι' c v:=by
 have h1:=h.up _ _ _ hr
 have h2:=h.fr φ φ' _ _ h1
 exact h2.mono (.refl _) (fun id l hl=>by simp at hl)
theorem RelL.plain {cs:List PV} (h:∀ c∈cs,Plain c) {φ φ':Frz} {ι ι':List KLoc} {vs:List Value} (hr:RelL φ ι cs vs):RelL φ' ι' cs vs :=
 ⟨hr.1,fun i c v hc hv=>(h c (List.mem_of_getElem? hc)).rel (hr.2 i c v hc hv)⟩
theorem ObjOK.plain {φ φ':Frz} {ι ι':List KLoc} {w:World} {o:AObj} {l:KLoc} (hp:o.plain) (h:ObjOK φ ι w o l):ObjOK φ' ι' w o l:=by
 cases o with
 | dead=>cases l <;> simp [ObjOK]
 | box cs =>
  cases l <;> simp only [ObjOK] at h ⊢
  obtain ⟨C,e,h1,h2,h3⟩:=h
  exact ⟨C,e,h1,h2.plain hp,h3⟩
 | arr v e s xs =>
  cases l <;> simp only [ObjOK] at h ⊢
  obtain ⟨h1,h2,h2',h3,ys,h4,h5,h6⟩:=h
  exact ⟨h1,h2,h2',h3,ys,h4,h5.plain hp,h6⟩
end Go.Kv
end
namespace Go.Proofs.YtcfmmmloeaggmaaGreat
open Go.Kv
set_option linter.unusedVariables false
set_option linter.unusedSimpArgs false
section
section
attribute [local irreducible] ACall PCall KL
theorem flat_self {xs:List PV} (h:∀ x∈xs,x.cs = [x]):flat xs=xs:=by
 induction xs with
 | nil=>rfl
 | cons a l ih =>
  show a.cs ++ flat l=_
  rw [h a (by simp),ih fun x hx=>h x (by simp [hx])]; rfl
theorem rel_row {φ:Frz} {w:World} {g:Nat} (hφ:∀ b C,φ b=some C→b≠g∧∃ e f,w.heap[b]? = some (.cells C e f)) {l:List Int} (h0:l≠[]) {v:Value} (h:Rel φ [] (.list (ints l)) v) :
  ∃ b o c,v = .slice (some ⟨b,o,none⟩) l.length c∧b≠g∧b<w.heap.size∧∀ j,j<l.length→w.cell? ⟨b,o+j,none⟩=some (.int .i64 (l[j]?.getD 0)):=by
 generalize hx:ints l=xs at h
 cases h with
 | list0 cap a=>exact absurd (by cases l with | nil=>rfl | cons=>simp [ints] at hx) h0
 | listn=>exact absurd (by cases l with | nil=>rfl | cons=>simp [ints] at hx) h0
 | list _ esz b o len cap C hl hc hb hsz g' hg h =>
  subst hx
  have hl:len=l.length:=by rw [← hl]; simp [ints]
  subst hl
  obtain ⟨hbg,e,f,hw⟩:=hφ b C hb
  refine ⟨b,o,cap,rfl,hbg,heap_lt hw,fun j hj=>?_⟩
  have hj':(ints l)[j]? = some (.int .i64 l[j]):=by simp [ints,hj]
  have he:esz=1:=(hsz j _ hj').1.symm
  subst he
  have h1:=hg j _ 0 (.int .i64 l[j]) hj' rfl
  have h2:=(h j _ 0 (.int .i64 l[j]) hj' rfl).int_inv
  rw [h2] at h1
  simp only [World.cell?,hw]
  simpa [hj] using h1
end
end
section
section
attribute [local irreducible] ACall PCall KL
theorem getD_mem {α:Type} {l:List α} {i:Nat} (h:i<l.length) (d:α):l.getD i d∈l:=by
 rw [List.getD_eq_getElem?_getD,List.getElem?_eq_getElem h]; exact List.getElem_mem _
theorem perm_map_range {α:Type} (l:List α) (d:α) {p:List Nat} (hp:p.Perm (List.range l.length)):(p.map fun i=>l.getD i d).Perm l:=by
 refine (hp.map _).trans ?_
 have:(List.range l.length).map (fun i=>l.getD i d)=l:=by
  apply List.ext_getElem?
  intro i
  rw [List.getElem?_map]
  by_cases h:i<l.length
  ·rw [List.getElem?_range h]
   simp [h]
  ·rw [List.getElem?_eq_none (by simpa using h),List.getElem?_eq_none (by simpa using h)]; rfl
 rw [this]
end
end
section
section
attribute [local irreducible] ACall PCall KL
theorem perm_uniq {α:Type} {le:α→α→Prop} (anti:∀ a b,le a b→le b a→a=b):∀ {r s:List α},r.Perm s→r.Pairwise le→s.Pairwise le→r=s
 | [],s,h,_,_=>h.nil_eq
 | x :: r,[],h,_,_=>by have:=h.length_eq; simp at this
 | x :: r,y :: s,h,hr,hs=>by
  rw [List.pairwise_cons] at hr hs
  have e:x=y:=by
   rcases List.mem_cons.1 (h.mem_iff.1 (List.mem_cons_self ..)) with e | hx
   ·exact e
   ·rcases List.mem_cons.1 (h.mem_iff.2 (List.mem_cons_self ..)) with e | hy
    ·exact e.symm
    ·exact anti _ _ (hr.1 y hy) (hs.1 x hx)
  subst e
  rw [perm_uniq anti h.cons_inv hr.2 hs.2]
theorem nzD (S:List Nat) (i:Nat):(nz S).getD i 0=(S.getD i 0:Int):=by
 unfold nz
 simp only [List.getD_eq_getElem?_getD,List.getElem?_map]
 cases S[i]? <;> rfl
end
end
section
section
set_option maxRecDepth 100000
def k120_b0:KC:=(.seq (.seq (.ops [mV 15 8,mV 16 7,oP 17 (.bin .lss (.t 15) (.t 16)),mV 18 17,⟨(some 19),some (18,true),.mv (.t 1)⟩,⟨(some 20),some (18,true),.mv (.t 8)⟩,⟨(some 21),some (18,true),.mv (.t 7)⟩,⟨(some 22),some (18,true),.call (.t 19) [(.t 20),(.t 21)]⟩,⟨(some 23),some (18,true),.not (.t 22)⟩,oP 24 (.pick (.t 18) (.t 23) (.c (.bool false)))])
 (.cond (.t 24) .skip (.exit 2)))
 (.block 3 (.ops [mV 25 8,oP 26 (.bin .add (.t 25) (iC 1)),mV 8 26])))
def k120_b1:KC:=(.seq (.ops [oP 13 (.bin .lss (.t 12) (.t 11))])
 (.seq (.cond (.t 13) .skip (.exit 0))
 (.seq (.block 1 (.seq (.ops [mV 14 12,mV 7 14])
 (.seq (.ops [oP 8 (.mv (iC 0))])
 (.seq (.block 2 (.loop k120_b0))
 (.seq (.ops [mV 27 8,mV 28 7,oP 29 (.bin .lss (.t 27) (.t 28))])
 (.cond (.t 29) (.ops [mV 30 5,mV 31 7,mV 32 5,mV 33 8,oP 34 (.idxS 1 (.t 32) (.t 33)),oP 35 (.load false 1 (.t 34)),oP 36 (.idxS 1 (.t 30) (.t 31)),⟨none,none,.store 1 (.t 36) (.t 35)⟩]) (.seq (.ops [mV 37 5,mV 38 7,mV 39 6,oP 40 (.idxS 1 (.t 37) (.t 38)),⟨none,none,.store 1 (.t 40) (.t 39)⟩])
 (.ops [mV 41 6,oP 42 (.bin .add (.t 41) (iC 1)),mV 6 42]))))))))
 (.ops [oP 43 (.bin .add (.t 12) (iC 1)),mV 12 43]))))
def k120:KC:=(.seq (.ops [oP 4 (.mv (.c (.nils)))])
 (.seq (.ops [mV 9 0,oP 10 (.mks 2 1 (.int .i64 0) (.t 9) (.t 9)),mV 5 10])
 (.seq (.ops [oP 6 (.mv (iC 0))])
 (.seq (.seq (.ops [mV 11 0,oP 12 (.mv (iC 0))])
 (.block 0 (.loop k120_b1)))
 (.seq (.ops [mV 44 5,mV 4 44])
 .ret)))))
theorem e120:Ent 120 45 [] [.t 4] k120:=ent Tryz.func120
end
section
attribute [local irreducible] ACall PCall KL
theorem nmA_facts (same:Nat→Nat→Bool):∀ i,(nmA same i).1.length=i∧(nmA same i).2≤i
 | 0=>⟨rfl,Nat.le_refl _⟩
 | i+1=>by
  obtain ⟨h1,h2⟩:=nmA_facts same i
  rw [nmA]
  split
  ·exact ⟨by simp [h1],by show (nmA same i).2≤i+1; omega⟩
  ·exact ⟨by simp [h1],by show (nmA same i).2+1≤i+1; omega⟩
theorem nmA_lt (same:Nat→Nat→Bool):∀ i,∀ x∈(nmA same i).1,x≤i
 | 0,x,h=>by simp [nmA] at h
 | i+1,x,h=>by
  have ih:=nmA_lt same i
  rw [nmA] at h
  split at h
  ·rcases List.mem_append.1 h with h | h
   ·have:=ih x h; omega
   ·rw [List.mem_singleton] at h
    subst h
    rename_i k hk
    have hki:k<i:=List.mem_range.1 (List.mem_of_find?_eq_some hk)
    rw [List.getD_eq_getElem?_getD,List.getElem?_eq_getElem (by rw [(nmA_facts same i).1]; exact hki)]
    have:=ih _ (List.getElem_mem (by rw [(nmA_facts same i).1]; exact hki))
    simp only [Option.getD_some]; omega
  ·rcases List.mem_append.1 h with h | h
   ·have:=ih x h; omega
   ·rw [List.mem_singleton] at h
    have:=(nmA_facts same i).2; omega
theorem nmA_some {same:Nat→Nat→Bool} {x k:Nat} (h:(List.range x).find? (fun k=>same k x)=some k):nmA same (x+1)=((nmA same x).1 ++ [(nmA same x).1.getD k 0],(nmA same x).2):=by rw [nmA,h]
theorem nmA_none {same:Nat→Nat→Bool} {x:Nat} (h:(List.range x).find? (fun k=>same k x)=none):nmA same (x+1)=((nmA same x).1 ++ [(nmA same x).2],(nmA same x).2+1):=by rw [nmA,h]
theorem set_next (a:List Nat) (m:Nat) (v:Nat):(nz a ++ List.replicate (m+1) 0).set a.length (v:Int)=nz (a ++ [v]) ++ List.replicate m 0:=by
 rw [List.set_append_right _ _ (by rw [nz_len]; exact Nat.le_refl _),nz_len,Nat.sub_self,List.replicate_succ,List.set_cons_zero]
 simp [nz]
theorem p120 (n:Nat) (hn:n≤1000) (fid:FuncId) (caps:List PV) [hc:StillL caps] (same:Nat→Nat→Bool) (hp:∀ i k,i<n→k<n→Pure Tryz.prog fid (.int .i64 i :: .int .i64 k :: caps) (.bool (same i k))) :
  ACall Tryz.prog 120 [.int .i64 n,.fn (.func fid) [] caps] [] (fun v s=>v = .ref 0 0 0 n∧s = [.arr 0 2 1 (ints (nz (nmA same n).1))]):=by
 have hrep:List.replicate n (PV.int .i64 0)=ints (nz ([]:List Nat) ++ List.replicate n 0):=by simp [ints,nz]
 refine e120 (by simp) fun _ _=>?_
 simp only [k120,argEnv,go_sem]
 try simp only [OpK_eq,HKv,go_sem]
 refine ⟨by omega,?_⟩
 refine KL_ind k120_b1.eq_1 (fun x:Nat=>[(1,.fn (.func fid) [] caps),(5,.ref 0 0 0 n),(6,.int .i64 (nmA same x).2),(11,.int .i64 n),(12,.int .i64 x)]) (fun x=>[.arr 0 2 1 (ints (nz (nmA same x).1 ++ List.replicate (n - x) 0))]) (fun x=>x≤n) (fun x=>n - x) [1,5,6,11,12] 0 (by simp [keep,nmA]) (by simp [nmA,ints,nz]) (Nat.zero_le _) fun x hx ih=>?_
 obtain ⟨hl,h2⟩:=nmA_facts same x
 have hs1:=fun k=>nmA_some (same:=same) (x:=x) (k:=k)
 have hs2:=nmA_none (same:=same) (x:=x)
 have hle:=nmA_lt same x
 have hA:∀ v:Nat,x<n→(nz (nmA same x).1 ++ List.replicate (n - x) 0).set x (v:Int)=nz ((nmA same x).1 ++ [v]) ++ List.replicate (n - (x+1)) 0:=fun v hxn=>by
  have:=set_next (nmA same x).1 (n - (x+1)) v
  rwa [hl,show n - (x+1)+1=n - x by omega] at this
 have hG:∀ k,k<x→(nz (nmA same x).1 ++ List.replicate (n - x) 0).getD k 0=((nmA same x).1.getD k 0:Int):=fun k hk=>by
  rw [List.getD_eq_getElem?_getD,List.getElem?_append_left (by rw [nz_len]; omega),List.getD_eq_getElem?_getD]
  simp [nz,hl,hk]
 have hLn:(nz (nmA same x).1 ++ List.replicate (n - x) 0).length=n:=by rw [List.length_append,nz_len,List.length_replicate]; omega
 generalize hN:nmA same x=N at *
 obtain ⟨a,nx⟩:=N
 simp only at hl h2 hle hs1 hs2 hA hG hLn ⊢
 generalize hH:nz a ++ List.replicate (n - x) 0=H at *
 try simp only [OpK_eq,HKv,go_sem]
 refine ⟨fun h1=>?_,fun h1=>?_⟩
 ·have hxn:x<n:=by omega
  refine KL_ind k120_b0.eq_1 (fun k:Nat=>[(1,.fn (.func fid) [] caps),(5,.ref 0 0 0 n),(6,.int .i64 nx),(7,.int .i64 x),(8,.int .i64 k),(11,.int .i64 n),(12,.int .i64 x)]) (fun _=>[.arr 0 2 1 (ints H)]) (fun k=>k≤x∧∀ j,j<k→same j x=false) (fun k=>x - k) [1,5,6,7,8,11,12] 0 (by simp [keep]) rfl ⟨Nat.zero_le _,fun j h=>by omega⟩ fun k ⟨hk,hno⟩ ihk=>?_
  try simp only [OpK_eq,HKv,go_sem]
  refine ⟨fun h3=>?_,fun h3=>?_⟩
  ·have hkx:k<x:=by omega
   refine (hp k x (by omega) hxn).go ?_
   cases hs:same k x with
   | true =>
    have hfind:(List.range x).find? (fun k=>same k x)=some k:=by
     rw [List.find?_range_eq_some]
     exact ⟨hs,by simpa using hkx,fun j hj=>by simp [hno j hj]⟩
    have hsucc:=hs1 k hfind
    have hgk:=hG k hkx
    have hAk:=hA (a.getD k 0) hxn
    try simp only [OpK_eq,HKv,hLn,hgk,go_sem]
    refine ⟨fun _=>⟨⟨by omega,Nat.le_refl _⟩,by omega,fun _=>⟨⟨by omega,Nat.le_refl _⟩,hxn,fun _=>⟨by omega,ih (x+1) (by omega) (by omega) _ _ (by simp [keep,hsucc]) ?_⟩⟩⟩,fun h=>absurd h (by omega)⟩
    rw [hsucc,hAk]
   | false =>
    try simp only [OpK_eq,HKv,go_sem]
    refine ⟨by omega,ihk (k+1) ⟨by omega,fun j hj=>?_⟩ (by omega) _ _ (by simp [keep]) rfl⟩
    by_cases e:j=k
    ·subst e; exact hs
    ·exact hno j (by omega)
  ·obtain rfl:k=x:=by omega
   have hfind:(List.range k).find? (fun j=>same j k)=none:=by
    rw [List.find?_range_eq_none]
    exact fun j hj=>by simp [hno j hj]
   have hsucc:=hs2 hfind
   have hAk:=hA nx hxn
   try simp only [OpK_eq,HKv,hLn,go_sem]
   refine ⟨fun h=>absurd h (by omega),fun _=>⟨⟨by omega,Nat.le_refl _⟩,hxn,fun _=>⟨by omega,by omega,ih (k+1) (by omega) (by omega) _ _ (by simp [keep,hsucc]) ?_⟩⟩⟩
   rw [hsucc,hAk]
 ·obtain rfl:x=n:=by omega
  have e:H=nz a:=hH.symm.trans (by rw [Nat.sub_self]; simp)
  rw [e]
  exact Kv.Fin.now ⟨rfl,by rw [hN]⟩
end
end
section
section
attribute [local irreducible] ACall PCall KL
theorem canon {P:List Int} (h:clOk P 0=true):nz (nmC P)=P:=by
 have key:∀ x,x≤P.length→nz (nmA (fun i k=>decide (P.getD i 0=P.getD k 0)) x).1=P.take x∧clOk (P.drop x) (nmA (fun i k=>decide (P.getD i 0=P.getD k 0)) x).2=true∧(∀ w:Nat,w<(nmA (fun i k=>decide (P.getD i 0=P.getD k 0)) x).2→∃ k,k<x∧P.getD k 0=w)∧∀ k,k<x→P.getD k 0<(nmA (fun i k=>decide (P.getD i 0=P.getD k 0)) x).2:=fun x=>by
  induction x with
  | zero=>exact fun _=>⟨rfl,h,fun w hw=>absurd hw (Nat.not_lt_zero _),fun k hk=>by omega⟩
  | succ x ih =>
   intro hx
   obtain ⟨h1,h2,h3,h4⟩:=ih (by omega)
   have hxl:x<P.length:=by omega
   have hgx:P.getD x 0=P[x]:=getD_eq hxl 0
   rw [clOk_step hxl,Bool.and_eq_true,decide_eq_true_iff] at h2
   obtain ⟨⟨b1,b2⟩,h2⟩:=h2
   cases hf:(List.range x).find? (fun k=>decide (P.getD k 0=P.getD x 0)) with
   | some k =>
    have hkx:k<x:=List.mem_range.1 (List.mem_of_find?_eq_some hf)
    have hke:P.getD k 0=P.getD x 0:=by simpa using List.find?_some hf
    have hlt:=h4 k hkx
    rw [nmA_some hf]
    have e1:((nmA (fun i k=>decide (P.getD i 0=P.getD k 0)) x).1.getD k 0:Int)=P[x]:=by
     have:=congrArg (fun l=>l.getD k 0) h1
     simp only [nzD] at this
     rw [this,← hgx,← hke]
     simp [List.getD_eq_getElem?_getD,hkx]
    rw [if_neg (by omega)] at h2
    refine ⟨?_,h2,fun w hw=>?_,fun j hj=>?_⟩
    ·rw [List.take_succ_eq_append_getElem hxl,← h1,← e1]; simp [nz]
    ·obtain ⟨j,hj,e⟩:=h3 w hw
     exact ⟨j,by omega,e⟩
    ·by_cases e:j=x
     ·subst e; show P.getD j 0<_; omega
     ·exact h4 j (by omega)
   | none =>
    have hno:=List.find?_eq_none.1 hf
    have hv:P[x]=((nmA (fun i k=>decide (P.getD i 0=P.getD k 0)) x).2:Int):=by
     refine Classical.byContradiction fun hne=>?_
     obtain ⟨k,hk,e⟩:=h3 (P[x]).toNat (by omega)
     exact hno k (List.mem_range.2 hk) (decide_eq_true (by rw [e,hgx]; omega))
    rw [nmA_none hf]
    rw [if_pos hv] at h2
    refine ⟨?_,by simpa using h2,fun w hw=>?_,fun j hj=>?_⟩
    ·rw [List.take_succ_eq_append_getElem hxl,← h1,hv]; simp [nz]
    ·have hw:w<(nmA (fun i k=>decide (P.getD i 0=P.getD k 0)) x).2+1:=hw
     by_cases e:w=(nmA (fun i k=>decide (P.getD i 0=P.getD k 0)) x).2
     ·exact ⟨x,by omega,by rw [hgx,hv,e]⟩
     ·obtain ⟨j,hj,e⟩:=h3 w (by omega)
      exact ⟨j,by omega,e⟩
    ·show P.getD j 0<(((nmA (fun i k=>decide (P.getD i 0=P.getD k 0)) x).2+1:Nat):Int)
     by_cases e:j=x
     ·subst e; omega
     ·have:=h4 j (by omega); omega
 have:=(key P.length (Nat.le_refl _)).1
 rwa [List.take_length] at this
theorem nmC_clOk (r:List Int):clOk (nz (nmC r)) 0=true:=by
 have key:∀ x,x≤r.length→clOk (nz (nmC r)) 0=clOk ((nz (nmC r)).drop x) (nmA (fun i k=>decide (r.getD i 0=r.getD k 0)) x).2:=fun x=>by
  induction x with
  | zero=>exact fun _=>rfl
  | succ x ih =>
   intro hx
   have hxl:x<(nz (nmC r)).length:=by rw [nz_len,nmC_len]; omega
   rw [ih (by omega),clOk_step hxl]
   have hpre:∀ d,(nmA (fun i k=>decide (r.getD i 0=r.getD k 0)) (x+d)).1.take x=(nmA (fun i k=>decide (r.getD i 0=r.getD k 0)) x).1∧∀ i,i<x+d→(nmA (fun i k=>decide (r.getD i 0=r.getD k 0)) (x+d)).1.length=x+d:=fun d=>by
    induction d with
    | zero=>exact ⟨List.take_of_length_le (Nat.le_of_eq (nmA_facts _ x).1),fun i _=>(nmA_facts _ _).1⟩
    | succ d ih =>
     refine ⟨?_,fun i _=>(nmA_facts _ _).1⟩
     rw [← Nat.add_assoc,nmA]
     have hl:=(nmA_facts (fun i k=>decide (r.getD i 0=r.getD k 0)) (x+d)).1
     split <;> (show List.take x (_ ++ _)=_; rw [List.take_append_of_le_length (by omega)]; exact ih.1)
   have hget:∀ y,y<r.length→(nmC r).getD y 0=(nmA (fun i k=>decide (r.getD i 0=r.getD k 0)) (y+1)).1.getD y 0:=fun y hy=>by
    have gen:∀ d,(nmA (fun i k=>decide (r.getD i 0=r.getD k 0)) (y+1+d)).1.getD y 0=(nmA (fun i k=>decide (r.getD i 0=r.getD k 0)) (y+1)).1.getD y 0:=fun d=>by
     induction d with
     | zero=>rfl
     | succ d ih =>
      rw [← ih,← Nat.add_assoc,nmA]
      have hl:=(nmA_facts (fun i k=>decide (r.getD i 0=r.getD k 0)) (y+1+d)).1
      split <;> (show List.getD (_ ++ _) y 0=_; rw [List.getD_eq_getElem?_getD,List.getElem?_append_left (by omega),← List.getD_eq_getElem?_getD])
    have:=gen (r.length - (y+1))
    rw [show y+1+(r.length - (y+1))=r.length by omega] at this
    exact this
   have hgx:(nz (nmC r))[x]=((nmA (fun i k=>decide (r.getD i 0=r.getD k 0)) (x+1)).1.getD x 0:Int):=by
    rw [← getD_eq hxl 0,nzD,hget x (by omega)]
   have hf:=nmA_facts (fun i k=>decide (r.getD i 0=r.getD k 0)) x
   rw [hgx]
   cases hc:(List.range x).find? (fun k=>decide (r.getD k 0=r.getD x 0)) with
   | some k =>
    have hkx:k<x:=List.mem_range.1 (List.mem_of_find?_eq_some hc)
    rw [nmA_some hc]
    have hv:(nmA (fun i k=>decide (r.getD i 0=r.getD k 0)) x).1.getD k 0<(nmA (fun i k=>decide (r.getD i 0=r.getD k 0)) x).2:=by
     have all:∀ i,∀ z∈(nmA (fun i k=>decide (r.getD i 0=r.getD k 0)) i).1,z<(nmA (fun i k=>decide (r.getD i 0=r.getD k 0)) i).2:=fun i=>by
      induction i with
      | zero=>simp [nmA]
      | succ i ih =>
       rw [nmA]
       split
       ·rename_i k hk
        have hki:k<i:=List.mem_range.1 (List.mem_of_find?_eq_some hk)
        intro z hz
        rcases List.mem_append.1 hz with hz | hz
        ·exact ih z hz
        ·rw [List.mem_singleton] at hz; subst hz
         exact ih _ (by rw [List.getD_eq_getElem?_getD,List.getElem?_eq_getElem (by rw [(nmA_facts _ i).1]; exact hki)]; exact List.getElem_mem _)
       ·intro z hz
        rcases List.mem_append.1 hz with hz | hz
        ·have:=ih z hz; show z<_+1; omega
        ·rw [List.mem_singleton] at hz; subst hz; exact Nat.lt_succ_self _
     exact all x _ (by rw [List.getD_eq_getElem?_getD,List.getElem?_eq_getElem (by rw [hf.1]; exact hkx)]; exact List.getElem_mem _)
    have e1:((nmA (fun i k=>decide (r.getD i 0=r.getD k 0)) x).1 ++ [(nmA (fun i k=>decide (r.getD i 0=r.getD k 0)) x).1.getD k 0]).getD x 0=(nmA (fun i k=>decide (r.getD i 0=r.getD k 0)) x).1.getD k 0:=by
     rw [List.getD_eq_getElem?_getD,List.getElem?_append_right (by omega),hf.1]; simp
    show (decide (0≤(((nmA (fun i k=>decide (r.getD i 0=r.getD k 0)) x).1 ++ [(nmA (fun i k=>decide (r.getD i 0=r.getD k 0)) x).1.getD k 0]).getD x 0:Int)∧_) && _)=_
    rw [e1,decide_eq_true (by omega),if_neg (by omega),Bool.true_and]
   | none =>
    rw [nmA_none hc]
    have e1:((nmA (fun i k=>decide (r.getD i 0=r.getD k 0)) x).1 ++ [(nmA (fun i k=>decide (r.getD i 0=r.getD k 0)) x).2]).getD x 0=(nmA (fun i k=>decide (r.getD i 0=r.getD k 0)) x).2:=by
     rw [List.getD_eq_getElem?_getD,List.getElem?_append_right (by omega),hf.1]; simp
    show (decide (0≤(((nmA (fun i k=>decide (r.getD i 0=r.getD k 0)) x).1 ++ [(nmA (fun i k=>decide (r.getD i 0=r.getD k 0)) x).2]).getD x 0:Int)∧_) && _)=_
    rw [e1,decide_eq_true (by omega),if_pos rfl,Bool.true_and]
    rfl
 rw [key r.length (Nat.le_refl _),List.drop_of_length_le (by rw [nz_len,nmC_len]; exact Nat.le_refl _)]
 rfl
def cgc (a b:List Int):Int:=orV (cI (mxl b+1) (mxl a+1)) (slc a b)
theorem cgc_le {a b:List Int}:cgc a b≤0↔mxl b<mxl a∨(mxl a=mxl b∧slc a b≤0):=by
 unfold cgc cI
 by_cases h1:mxl b<mxl a
 ·rw [if_pos (show mxl b+1<mxl a+1 by omega),orV_ne (by decide)]
  exact ⟨fun _=>.inl h1,fun _=>by decide⟩
 ·by_cases h2:mxl a<mxl b
  ·rw [if_neg (show ¬ mxl b+1<mxl a+1 by omega),if_pos (show mxl a+1<mxl b+1 by omega),orV_ne (by decide)]
   exact ⟨fun h=>absurd h (by decide),fun h=>by omega⟩
  ·rw [if_neg (show ¬ mxl b+1<mxl a+1 by omega),if_neg (show ¬ mxl a+1<mxl b+1 by omega),orV_zero]
   exact ⟨fun h=>.inr ⟨by omega,h⟩,fun h=>h.elim (fun h=>absurd h h1) fun h=>h.2⟩
theorem cgc_anti (a b:List Int):cgc b a = - cgc a b:=by
 unfold cgc orV
 have h1:=cI_anti (mxl b+1) (mxl a+1)
 have h2:=slc_anti a b
 (repeat' split) <;> omega
theorem cgc_trans {a b c:List Int} (h1:cgc a b≤0) (h2:cgc b c≤0):cgc a c≤0:=by
 rw [cgc_le] at *
 rcases h1 with h1 | ⟨e1,h1⟩ <;> rcases h2 with h2 | ⟨e2,h2⟩
 ·exact .inl (by omega)
 ·exact .inl (by omega)
 ·exact .inl (by omega)
 ·exact .inr ⟨by omega,slc_trans h1 h2⟩
theorem cgc_eq {a b:List Int} (h:cgc a b=0):a=b:=by
 have h1:=cgc_anti a b
 have h2:=(cgc_le (a:=a) (b:=b)).1 (by omega)
 have h3:=(cgc_le (a:=b) (b:=a)).1 (by omega)
 rcases h2 with h2 | ⟨e2,h2⟩
 ·rcases h3 with h3 | ⟨e3,h3⟩ <;> omega
 ·rcases h3 with h3 | ⟨e3,h3⟩
  ·omega
  ·have:=slc_anti a b
   exact slc_eq (by omega)
theorem cgc_lt_trans {a b c:List Int} (h1:cgc a b<0) (h2:cgc b c<0):cgc a c<0:=by
 have h3:=cgc_trans (a:=a) (b:=b) (c:=c) (by omega) (by omega)
 by_cases h0:cgc a c=0
 ·have:=cgc_eq h0
  subst this
  have:=cgc_anti a b
  omega
 ·omega
theorem cgc_swo {α:Type} (f:α→List Int):Go.Sort.SWO (Go.Proofs.ltOf fun x y=>cgc (f x) (f y)) where
 irrefl x:=by
  dsimp only [Go.Proofs.ltOf]
  have:=cgc_anti (f x) (f x)
  exact decide_eq_false (by omega)
 trans x y z h1 h2:=by
  dsimp only [Go.Proofs.ltOf] at *
  rw [decide_eq_true_iff] at *
  exact cgc_lt_trans h1 h2
 ntrans x y z h1 h2:=by
  dsimp only [Go.Proofs.ltOf] at *
  rw [decide_eq_false_iff_not] at *
  have a1:=cgc_anti (f x) (f y)
  have a2:=cgc_anti (f y) (f z)
  have a3:=cgc_anti (f x) (f z)
  have h3:=cgc_trans (a:=f z) (b:=f y) (c:=f x) (by omega) (by omega)
  omega
def atG (S:List (List Int)) (own:List Int):Nat→Nat
 | 0=>0
 | k+1=>if cgc own (S.getD k [])<0 then atG S own k else k+1
theorem atG_le (S:List (List Int)) (own:List Int):∀ k,atG S own k≤k
 | 0=>Nat.le_refl _
 | k+1=>by
  unfold atG
  split
  ·have:=atG_le S own k; omega
  ·exact Nat.le_refl _
theorem atG_bef (S:List (List Int)) (own:List Int):∀ k i,atG S own k≤i→i<k→cgc own (S.getD i [])<0
 | 0,i,_,h=>by omega
 | k+1,i,h,hi=>by
  unfold atG at h
  split at h
  ·rename_i hb
   by_cases e:i=k
   ·subst e; exact hb
   ·exact atG_bef S own k i h (by omega)
  ·omega
theorem atG_not (S:List (List Int)) (own:List Int):∀ k,0<atG S own k→¬ cgc own (S.getD (atG S own k - 1) [])<0
 | 0,h=>by simp [atG] at h
 | k+1,h=>by
  unfold atG at h ⊢
  split
  ·rename_i hb
   rw [if_pos hb] at h
   exact atG_not S own k h
  ·rename_i hb
   simpa using hb
def hasG (S:List (List Int)) (own:List Int):Prop:=0<atG S own S.length∧S.getD (atG S own S.length - 1) []=own
instance (S:List (List Int)) (own:List Int):Decidable (hasG S own):=inferInstanceAs (Decidable (_∧_))
def putG (S:List (List Int)) (own:List Int):List (List Int) :=
 if hasG S own then S else S.take (atG S own S.length) ++ own :: S.drop (atG S own S.length)
def SrtG (S:List (List Int)):Prop:=S.Pairwise fun a b=>cgc a b<0
theorem hasG_mem {S:List (List Int)} {own:List Int} (h:hasG S own):own∈S:=by
 have hl:=atG_le S own S.length
 obtain ⟨h1,h2⟩:=h
 have:=getD_mem (l:=S) (i:=atG S own S.length - 1) (by omega) []
 rwa [h2] at this
theorem putG_mem {S:List (List Int)} {own x:List Int}:x∈putG S own↔x=own∨x∈S:=by
 unfold putG
 split
 ·rename_i h
  exact ⟨fun hx=>.inr hx,fun hx=>hx.elim (fun e=>by rw [e]; exact hasG_mem h) id⟩
 ·rw [List.mem_append,List.mem_cons]
  constructor
  ·rintro (h | h | h)
   ·exact .inr (List.mem_of_mem_take h)
   ·exact .inl h
   ·exact .inr (List.mem_of_mem_drop h)
  ·rintro (h | h)
   ·exact .inr (.inl h)
   ·rw [← List.take_append_drop (atG S own S.length) S,List.mem_append] at h
    rcases h with h | h
    ·exact .inl h
    ·exact .inr (.inr h)
theorem cgc_irr (a:List Int):¬ cgc a a<0:=by
 have:=cgc_anti a a; omega
theorem putG_srt {S:List (List Int)} (h:SrtG S) (own:List Int):SrtG (putG S own):=by
 unfold putG
 split
 ·exact h
 ·rename_i hno
  have hle:=atG_le S own S.length
  have hbef:=atG_bef S own S.length
  have hnot:=atG_not S own S.length
  unfold hasG at hno
  generalize atG S own S.length=j at *
  have hget:∀ i,(hi:i<S.length)→S.getD i []=S[i]:=fun i hi=>by simp [List.getD_eq_getElem?_getD,hi]
  have hfront:∀ x∈S.take j,cgc x own<0:=fun x hx=>by
   obtain ⟨i,hi,rfl⟩:=List.getElem_of_mem hx
   rw [List.length_take] at hi
   rw [List.getElem_take]
   have h0:0<j:=by omega
   have hj1:j - 1<S.length:=by omega
   have hb:=hnot h0
   rw [hget _ hj1] at hb
   have hne:cgc own S[j - 1]≠0:=fun e=>hno ⟨h0,by rw [hget _ hj1]; exact (cgc_eq e).symm⟩
   have hb2:cgc S[j - 1] own<0:=by have:=cgc_anti own S[j - 1]; omega
   by_cases e:i=j - 1
   ·subst e; exact hb2
   ·exact cgc_lt_trans (List.pairwise_iff_getElem.1 h i (j - 1) (by omega) hj1 (by omega)) hb2
  have hback:∀ x∈S.drop j,cgc own x<0:=fun x hx=>by
   obtain ⟨i,hi,rfl⟩:=List.getElem_of_mem hx
   rw [List.length_drop] at hi
   rw [List.getElem_drop,← hget _ (by omega)]
   exact hbef _ (by omega) (by omega)
  unfold SrtG
  rw [List.pairwise_append,List.pairwise_cons]
  refine ⟨h.sublist (List.take_sublist _ _),⟨hback,h.sublist (List.drop_sublist _ _)⟩,fun a ha b hb=>?_⟩
  rcases List.mem_cons.1 hb with rfl | hb
  ·exact hfront a ha
  ·exact cgc_lt_trans (hfront a ha) (hback b hb)
theorem SrtG.nodup {S:List (List Int)} (h:SrtG S):S.Nodup:=by
 rw [List.nodup_iff_pairwise_ne]
 exact h.imp fun {a b} hab e=>by rw [e] at hab; exact cgc_irr _ hab
theorem hasG_iff {S:List (List Int)} (h:SrtG S) (own:List Int):hasG S own↔own∈S:=by
 refine ⟨hasG_mem,fun hm=>Classical.byContradiction fun hno=>?_⟩
 have h2:=(putG_srt h own).nodup
 unfold putG at h2
 rw [if_neg hno] at h2
 rw [← List.take_append_drop (atG S own S.length) S,List.mem_append] at hm
 rw [List.nodup_append,List.nodup_cons] at h2
 rcases hm with hm | hm
 ·exact h2.2.2 own hm own (by simp) rfl
 ·exact h2.2.1.1 hm
theorem putG_len {S:List (List Int)} (own:List Int):(putG S own).length=if hasG S own then S.length else S.length+1:=by
 have hle:=atG_le S own S.length
 unfold putG
 split
 ·rfl
 ·rw [List.length_append,List.length_cons,List.length_take,List.length_drop]; omega
theorem SrtG.uniq {S S':List (List Int)} (h:SrtG S) (h':SrtG S') (hm:∀ x,x∈S↔x∈S'):S=S' :=
 perm_uniq (le:=fun a b=>cgc a b<0) (fun a b h1 h2=>by have:=cgc_anti a b; omega) ((List.perm_ext_iff_of_nodup h.nodup h'.nodup).2 hm) h h'
def srtG (L:List (List Int)):List (List Int):=L.foldl putG []
theorem srtG_snoc (L:List (List Int)) (x:List Int):srtG (L ++ [x])=putG (srtG L) x:=by simp [srtG]
theorem srtG_ok (L:List (List Int)):SrtG (srtG L)∧∀ x,x∈srtG L↔x∈L:=by
 have key:∀ (L S:List (List Int)),SrtG S→SrtG (L.foldl putG S)∧∀ x,x∈L.foldl putG S↔x∈S∨x∈L:=fun L=>by
  induction L with
  | nil=>exact fun S h=>⟨h,fun x=>by simp⟩
  | cons a L ih =>
   intro S h
   obtain ⟨h1,h2⟩:=ih (putG S a) (putG_srt h a)
   refine ⟨h1,fun x=>?_⟩
   show x∈L.foldl putG (putG S a)↔_
   rw [h2,putG_mem,List.mem_cons]
   constructor
   ·rintro ((h | h) | h)
    ·exact .inr (.inl h)
    ·exact .inl h
    ·exact .inr (.inr h)
   ·rintro (h | h | h)
    ·exact .inl (.inr h)
    ·exact .inl (.inl h)
    ·exact .inr h
 obtain ⟨h1,h2⟩:=key L [] .nil
 exact ⟨h1,fun x=>by rw [srtG,h2]; simp⟩
theorem nodup_subV {α:Type} [DecidableEq α]:∀ (A B:List α),A.Nodup→(∀ a∈A,a∈B)→A.length≤B.length
 | [],_,_,_=>Nat.zero_le _
 | a :: A,B,hd,h=>by
  have ha:=h a (by simp)
  have hd:=List.nodup_cons.1 hd
  have:=nodup_subV A (B.erase a) hd.2 fun b hb=>by
   have hne:b≠a:=fun e=>hd.1 (by rw [← e]; exact hb)
   exact (List.mem_erase_of_ne hne).2 (h b (by simp [hb]))
  rw [List.length_erase_of_mem ha] at this
  have hp:=List.length_pos_of_mem ha
  rw [List.length_cons]; omega
inductive Cj (J:List Int→List Int→List Int) (z:List Int) (ps:List (List Int)):List Int→Prop
 | base:Cj J z ps z
 | step (a p:List Int) (ha:Cj J z ps a) (hp:p∈ps):Cj J z ps (J a p)
structure AllG (J:List Int→List Int→List Int) (z:List Int) (ps S:List (List Int)):Prop where
 srt:SrtG S
 mem:∀ x,x∈S↔Cj J z ps x
 few:S.length≤300
theorem AllG.uniq {J:List Int→List Int→List Int} {z:List Int} {ps S S':List (List Int)} (h:AllG J z ps S) (h':AllG J z ps S'):S=S' :=
 h.srt.uniq h'.srt fun x=>(h.mem x).trans (h'.mem x).symm
open Classical in
noncomputable def allG (J:List Int→List Int→List Int) (z:List Int) (ps:List (List Int)):Option (List (List Int)):=if h:∃ S,AllG J z ps S then some (Classical.choose h) else none
theorem allG_some {J:List Int→List Int→List Int} {z:List Int} {ps S:List (List Int)} (h:AllG J z ps S):allG J z ps=some S:=by
 unfold allG
 rw [dif_pos ⟨S,h⟩]
 exact congrArg some ((Classical.choose_spec (⟨S,h⟩:∃ S,AllG J z ps S)).uniq h)
theorem allG_none {J:List Int→List Int→List Int} {z:List Int} {ps L:List (List Int)} (hn:L.Nodup) (hL:∀ x∈L,Cj J z ps x) (hl:300<L.length):allG J z ps=none:=by
 unfold allG
 rw [dif_neg]
 rintro ⟨S,h⟩
 have:=nodup_subV L S hn fun x hx=>(h.mem x).2 (hL x hx)
 have:=h.few
 omega
theorem allG_ok {J:List Int→List Int→List Int} {z:List Int} {ps S:List (List Int)} (h:allG J z ps=some S):AllG J z ps S:=by
 unfold allG at h
 split at h
 ·rename_i hex
  cases h
  exact Classical.choose_spec hex
 ·cases h
theorem cj_all {J:List Int→List Int→List Int} {z:List Int} {ps S:List (List Int)} (hz:z∈S) (hS:∀ a∈S,∀ p∈ps,J a p∈S):∀ x,Cj J z ps x→x∈S:=fun x h=>by
 induction h with
 | base=>exact hz
 | step a p _ hp ih=>exact hS a ih p hp
end
end
end Go.Proofs.YtcfmmmloeaggmaaGreat
section
section
namespace Go.Kv
set_option linter.unusedVariables false
set_option linter.unusedSimpArgs false
variable {P:Program} {N n0:Nat}
def planQ (ops:Array Oper) (kos:List KO):Nat→Array Bool→List Nat
 | 0,_=>[]
 | n+1,listed =>
  match (Region.ready .any ops listed).find? (fun i=>(match kos[i]? with | some k=>quietP k.p | none=>false) && Region.free .any ops listed i) with
  | some i=>i :: planQ ops kos n (listed.setIfInBounds i true)
  | none=>[]
def trDrawQ (P:Program) (fz:List Nat) (N:Nat) (ops:Array Oper):Option (List KO):=do
 let kos ← ops.toList.mapM (trOper P fz N ops)
 let no:=Array.replicate ops.size false
 let l1:=planQ ops kos ops.size no
 let l2:=planB ops .any (ops.size - l1.length) (listUp no l1)
 if guardsOK N kos && Region.noSelect ops && decide (l1.length+(([]:List Nat).length+l2.length)≤ops.size) && okA ops kos .any (ancF .any ops.toList []) (l2) l1 no && okM ops .any kos.length l2 [] (listUp no l1) && okB ops .any kos.length l2 (listUp (listUp no l1) []) then some (pickA kos l1 ++ (pickB kos [] ++ pickB kos l2)) else none
def trDrawR (P:Program) (fz:List Nat) (N:Nat) (ops:Array Oper):Option (List KO) :=
 match trDrawQ P fz N ops with
 | some k=>some k
 | none=>trDraw P fz N ops
theorem AW_drawQ {id:Nat} {fz:List Nat} {ops:Array Oper} {kos:List KO} {Q:Exit→Env→Heap→Prop} {env:Env} {σ:Heap} (hf:P.follows .mixedOrders=true) (hm:trDrawQ P fz N ops=some kos) (hv:vOps P kos Q env σ):AW P N n0 (.region id ops true) Q env σ:=by
 unfold trDrawQ at hm
 simp only [Option.bind_eq_bind,Option.bind_eq_some_iff] at hm
 obtain ⟨ks,hks,hm⟩:=hm
 split at hm
 ·rename_i hc
  simp only [Option.some.injEq] at hm; subst hm
  simp only [Bool.and_eq_true,decide_eq_true_eq] at hc
  obtain ⟨⟨⟨⟨⟨c1,c2⟩,c3⟩,c4⟩,c5⟩,c6⟩:=hc
  generalize planQ ops ks ops.size (Array.replicate ops.size false)=l1 at *
  generalize planB ops .any (ops.size - l1.length) (listUp (Array.replicate ops.size false) l1)=l2 at *
  refine AW.mono (Q:=NP Q) (fun φ ι a w h1 h2=>wp_region_any hf (wpH_any (B:=fun i=>l2.contains i) (S:=Old w) _ _ _ _ ?_)) fun e env σ q=>by
   cases e <;> first | exact q | exact q.elim
  have hcl:Closed .any ops (Array.replicate ops.size false):=fun j o ho hj=>by
   rw [Array.getD_eq_getD_getElem?] at hj
   by_cases h:j<ops.size
   ·simp [h] at hj
   ·simp [h] at hj
  exact drawA hks c1 c2 (ancF_spec ops.toList [] (fun j=>by simp) (fun j i h=>by simp at h)) h2.2 _ _ _ env a _ φ w (Tr.refl n0 φ ι w) h1 c3 c4 c5 c6 hcl ⟨fun _ _=>rfl,Nat.le_refl _,rfl,rfl,rfl⟩ h2.1 hv
 ·cases hm
theorem AW_drawR {id:Nat} {fz:List Nat} {ops:Array Oper} {kos:List KO} {Q:Exit→Env→Heap→Prop} {env:Env} {σ:Heap} (hf:P.follows .mixedOrders=true) (hm:trDrawR P fz N ops=some kos) (hv:vOps P kos Q env σ):AW P N n0 (.region id ops true) Q env σ:=by
 unfold trDrawR at hm
 split at hm
 ·rename_i k hk
  cases hm
  exact AW_drawQ hf hk hv
 ·exact AW_draw hf hm hv
def mkCfgR (P:Program) (hf:P.follows .mixedOrders=true) (fz:List Nat) (N n0:Nat):Cfg where
 P:=P
 fz:=fz
 N:=N
 n0:=n0
 D:=vOps P
 dr:=trDrawR P fz N
 ok:=fun _ _ _ _ _ _ h hv=>AW_drawR hf h hv
 drT:=trDrawT P fz N
 okT:=fun _ _ _ _ _ _ h hv=>AW_drawT hf h hv
section code
variable {hf:P.follows .mixedOrders=true} {fz:List Nat} {Q:Exit→Env→Heap→Prop} {env:Env} {σ:Heap}
@[go_sem] theorem vcR_ops (l:List KO):vc (mkCfgR P hf fz N n0) (.ops l) Q env σ = vOps P l Q env σ:=Eq.trans rfl rfl
@[go_sem] theorem vcR_draw (l:List KO):vc (mkCfgR P hf fz N n0) (.draw l) Q env σ = vOps P l Q env σ:=Eq.trans rfl rfl
end code
end Go.Kv
end
end
