/- Several texts of this session as one, less what the claim does not need. -/
import Derived.Test.YtcfmmmloeaggmaaGreatZ12
import Derived.RangeFuncBox
import Derived.RangeFuncLeaves
import Derived.Shelf.Abstract
import Derived.WalkKit
import Derived.OwnWalkIn
import Derived.TacticsInMore
import Derived.LoopNIn
import Derived.LoopIn
import Derived.Maps.AppendAt
import Derived.Test.YtcfmmmloeaggmaaGreatProg
import Derived.Shelf.SlSortCmp.NoneTotal
import Derived.Shelf.SlGeneric
import Derived.Ground.SlsfProg
import Derived.StillTailTactics
import Derived.KernelRfl
import Derived.Test.YtcfmmmloeaggmaaGreatCb
import Derived.Test.YtcfmmmloeaggmaaGreatZ10
import Derived.Test.YtcfmmmloeaggmaaGreatZ9
import Derived.Test.YtcfmmmloeaggmaaGreatZ11
import Derived.Test.YtcfmmmloeaggmaaGreatZ5
namespace Go.Proofs.YtcfmmmloeaggmaaGreat
open Go.Kv
set_option linter.unusedVariables false
set_option linter.unusedSimpArgs false
section
section
attribute [local irreducible] ACall PCall KL
set_option maxHeartbeats 8000000 in
theorem nm_tree {R:List (List Nat)} {g:List Nat} {τ:Heap} {u1 u2:Nat} {ws:List PV} {W:List (List Int)} {bb i k:Nat}
  (h1:τ[1]? = some (.arr u1 48 6 (aggs (R.map mp)))) (hW:WG τ (fun id=>id=0∨id=1) 2 u2 ws W) (hWl:W.length=R.length) (hb:τ[bb]? = some (.box (ints (mp g)))) (hbb:2<bb) (h6g:(mp g).length=6) (hRl:R.length<300) (hi:i<R.length) (hk:k≤1000) (hw:∀ w∈W,w.length+1≤W.length)
  {Q:Exit→Env→Heap→Prop} {v0 v6 v37 v38 v39:PV} {env:Env} (e0:Kv.look env 0=v0) (e6:Kv.look env 6=v6) (e7:Kv.look env 7 = .ref 1 u1 0 R.length) (e8:Kv.look env 8 = .ref 2 u2 0 W.length) (e9:Kv.look env 9 = .int .i64 i) (e10:Kv.look env 10 = .int .i64 k) (e12:Kv.look env 12 = .ptr bb 0) (e37:Kv.look env 37=v37) (e38:Kv.look env 38=v38) (e39:Kv.look env 39=v39)
  (hQ:∀ env' ρ w',keep [0,6,7,8,9,12,37,38,39] env' = [(0,v0),(6,v6),(7,.ref 1 (u1+1) 0 (R.length+1)),(8,.ref 2 (u2+1) 0 (W.length+1)),(9,.int .i64 i),(12,.ptr bb 0),(37,v37),(38,v38),(39,v39)]→ρ[1]? = some (.arr (u1+1) 48 6 (aggs ((R ++ [g]).map mp)))→WG ρ (fun id=>id=0∨id=1) 2 (u2+1) (ws ++ [w']) (W ++ [W.getD i [] ++ [(k:Int)]])→(∀ id,id < τ.length→id≠1→id≠2→ρ[id]? = τ[id]?)→Q .normal env' ρ) :
  vT Tryz.prog k129_t0 Q env τ:=by
 have hτ1:=(List.getElem?_eq_some_iff.1 h1).1
 have hτ2:=(List.getElem?_eq_some_iff.1 hW.out).1
 have hτb:=(List.getElem?_eq_some_iff.1 hb).1
 obtain ⟨σ,hσ⟩:∃ σ,σ = τ.set 1 (.arr (u1+1) 48 6 (aggs ((R ++ [g]).map mp))):=⟨_,rfl⟩
 have hl:σ.length = τ.length:=by rw [hσ,List.length_set]
 have s1:σ[1]? = some (.arr (u1+1) 48 6 (aggs ((R ++ [g]).map mp))):=by rw [hσ]; exact List.getElem?_set_self hτ1
 have sk:∀ id,id≠1→σ[id]? = τ[id]?:=fun id h=>by rw [hσ,List.getElem?_set_ne (Ne.symm h)]
 have sb:σ[bb]? = some (.box (ints (mp g))):=by rw [sk bb (by omega)]; exact hb
 have hWs:WG σ (fun id=>id=0∨id=1) 2 u2 ws W:=hW.keep (fun id _ hA=>sk id fun e=>hA (.inr e)) (by simp)
 have hWo:=hW.out
 have hWso:=hWs.out
 have hwl:=hW.len
 obtain ⟨w,hwi,hWd⟩:=hWs.cell (i:=i) (by omega)
 have hwcs:=hWd.cs
 have hWi:W[i].length+1≤W.length:=hw _ (List.getElem_mem _)
 have hgd:W.getD i []=W[i]:=by rw [List.getD_eq_getElem?_getD,List.getElem?_eq_getElem (by omega)]; rfl
 rw [hgd] at hQ
 clear hgd
 generalize W[i]'(by omega)=wi at hWd hWi hQ
 have t6:List.take 6 (mp g)=mp g:=take6 h6g
 have tR:List.take R.length (R.map mp)=R.map mp:=List.take_of_length_le (by rw [List.length_map]; exact Nat.le_refl _)
 have tRg:R.map mp ++ [mp g]=(R ++ [g]).map mp:=by simp
 have hilg:(ints (mp g)).length=6:=by rw [ints_length,h6g]
 have hp1:∀ K:PV→Heap→Prop,K (.ref 1 (u1+1) 0 (R.length+1)) σ→aApp 48 6 (.ref 1 u1 0 R.length) (.list [.agg (ints (mp g))]) τ K:=fun K hK=>by
  try simp only [h1,aggs_length,List.length_map,t6,tR,tRg,OpK_eq,HKv,h6g,go_sem]
  exact ⟨⟨Nat.le_refl _,by omega⟩,by rw [← hσ]; exact hK⟩
 have hpush:∀ (c:AObj) (w':PV),Wd (σ ++ [c]) (fun id=>(id=0∨id=1)∨id=2) w' (wi ++ [(k:Int)])→∀ K':PV→Heap→Prop,
   (∀ ρ,ρ[1]? = some (.arr (u1+1) 48 6 (aggs ((R ++ [g]).map mp)))→WG ρ (fun id=>id=0∨id=1) 2 (u2+1) (ws ++ [w']) (W ++ [wi ++ [(k:Int)]])→(∀ id,id < τ.length→id≠1→id≠2→ρ[id]? = τ[id]?)→K' (.ref 2 (u2+1) 0 (W.length+1)) ρ) →
   aApp 25 1 (.ref 2 u2 0 W.length) (.list [w']) (σ ++ [c]) K':=fun c w' hw' K' hK'=>by
  have hG:WG (σ ++ [c]) (fun id=>id=0∨id=1) 2 u2 ws W:=hWs.keep (fun id hid _=>List.getElem?_append_left hid) (by simp)
  refine hG.push hw' (by omega) fun hQ=>hK' _ ?_ hQ fun id hid n1 n2=>?_
  ·rw [List.getElem?_set_ne (by decide),List.getElem?_append_left (by omega)]; exact s1
  ·rw [List.getElem?_set_ne (Ne.symm n2),List.getElem?_append_left (by omega)]; exact sk id n1
 have hwd1:Wd (σ ++ [.arr 2 2 1 (ints (wi ++ [(k:Int)]))]) (fun id=>(id=0∨id=1)∨id=2) (.ref σ.length 2 0 (wi.length+1)) (wi ++ [(k:Int)]):=by
  have e:wi.length+1=(wi ++ [(k:Int)]).length:=by simp
  rw [e]
  exact .inr ⟨_,2,rfl,by simp,fun h=>by rcases h with (h | h) | h <;> omega⟩
 have hwd0:wi = []→Wd (σ ++ [.arr 0 2 1 [.int .i64 k]]) (fun id=>(id=0∨id=1)∨id=2) (.ref σ.length 0 0 1) (wi ++ [(k:Int)]):=fun h0=>by
  rw [h0]
  exact .inr ⟨_,0,rfl,by simp [ints],fun h=>by rcases h with (h | h) | h <;> omega⟩
 have hgb:∀ (s:Heap) (a:AObj),(s ++ [a])[s.length]? = some a:=fun s a=>by simp
 have hsb:∀ (s:Heap) (a b:AObj),(s ++ [a]).set s.length b=s ++ [b]:=fun s a b=>by simp [List.set_append_right]
 have hpR:∀ (c:AObj) (w':PV),Wd (σ ++ [c]) (fun id=>(id=0∨id=1)∨id=2) w' (wi ++ [(k:Int)])→∀ K':PV→Heap→Prop,
   (∀ ρ,ρ[1]? = some (.arr (u1+1) 48 6 (aggs ((R ++ [g]).map mp)))→WG ρ (fun id=>id=0∨id=1) 2 (u2+1) (ws ++ [w']) (W ++ [wi ++ [(k:Int)]])→(∀ id,id < τ.length→id≠1→id≠2→ρ[id]? = τ[id]?)→K' (.ref 2 (u2+1) 0 (W.length+1)) ρ) →
   AppR 25 1 2 u2 0 W.length (.list [w']) (σ ++ [c]) K' (σ ++ [c])[2]?:=fun c w' hw' K' hK'=>by
  rw [← aApp_ref]
  exact hpush c w' hw' K' hK'
 have hld:∀ P:PV→Prop,P w→(i<ws.length∧∀ x,ws[i]? = some x→0<x.cs.length∧∀ c,x.cs[0]? = some c→P c):=fun P hP=>by
  refine ⟨by omega,fun x hx=>?_⟩
  rw [hwi] at hx; cases hx
  rw [hwcs.1]
  exact ⟨by simp,fun q hq=>by simp only [List.getElem?_cons_zero,Option.some.injEq] at hq; subst hq; exact hP⟩
 generalize hv7:PV.ref 1 u1 0 R.length=v7 at *
 unfold k129_t0
 repeat' (first
  | refine Eq.mpr (vT_alt _ _) ⟨?_,?_⟩
  | refine hp1 _ ?_
  | refine hld _ ?_
  | (refine ⟨⟨by omega,by omega⟩,?_⟩)
  | simp only [e7,e8,e9,e10,e12,hb,sb,hilg,h6g,t6,hWso,hWo,OpK_eq,HKv,go_sem])
 all_goals (refine ACall.lend (p115P wi (by omega)) (.cons hWd.imm (.nil _)) fun v s hv=>?_)
 all_goals (rcases hv with ⟨rfl,rfl⟩ | ⟨hl0,rfl,rfl⟩)
 all_goals (first | refine ⟨⟨free_ref _ _ _ _,Free.ints _ _ _ _⟩,?_⟩ | refine ⟨⟨Plain.nils.fr,Free.nil⟩,?_⟩)
 all_goals (try simp only [OpK_eq,HKv,ren_ref,ren_arr,ren_ints,Nat.zero_add,hgb,hsb,go_sem] )
 all_goals (first | refine ⟨⟨Nat.le_refl _,by omega⟩,hpR _ _ hwd1 _ fun ρ q1 q2 q3=>?_⟩ | refine hpR _ _ (hwd0 hl0) _ fun ρ q1 q2 q3=>?_)
 all_goals (try simp only [OpK_eq,HKv,go_sem] )
 all_goals exact hQ _ _ _ (by simp [keep,e0,e6,e9,e12,e37,e38,e39]) q1 q2 q3
end
end
end Go.Proofs.YtcfmmmloeaggmaaGreat
section
namespace Go.Proofs.YtcfmmmloeaggmaaGreat
open Go.RowKit Go.Shelf
set_option linter.unusedVariables false
set_option linter.unusedSimpArgs false
attribute [local go_sem] Oper.semAt_some
def cI (x y:Int):Int:=if x<y then -1 else if y<x then 1 else 0
def slc:List Int→List Int→Int
 | [],[]=>0
 | [],_ :: _=>-1
 | _ :: _,[]=>1
 | x :: xs,y :: ys=>if x<y then -1 else if y<x then 1 else slc xs ys
theorem slc_drop {xs ys:List Int} {k:Nat} (h1:k<xs.length) (h2:k<ys.length):slc (xs.drop k) (ys.drop k)=if (xs[k]?.getD 0)<(ys[k]?.getD 0) then -1 else if (ys[k]?.getD 0)<(xs[k]?.getD 0) then 1 else slc (xs.drop (k+1)) (ys.drop (k+1)):=by
 rw [List.drop_eq_getElem_cons h1,List.drop_eq_getElem_cons h2,slc]
 simp [h1,h2]
theorem slc_short {xs ys:List Int} {k:Nat} (h1:k<xs.length) (h2:ys.length≤k):slc (xs.drop k) (ys.drop k)=1:=by
 rw [List.drop_eq_getElem_cons h1,List.drop_of_length_le h2,slc]
theorem slc_end (xs ys:List Int):slc (xs.drop xs.length) (ys.drop xs.length)=if xs.length<ys.length then -1 else 0:=by
 rw [List.drop_length]
 split
 ·rename_i h; rw [List.drop_eq_getElem_cons h,slc]
 ·rename_i h; rw [List.drop_of_length_le (by omega),slc]
def orV (u v:Int):Int:=if u=0 then v else u
theorem orV_ne {u v:Int} (h:u≠0):orV u v=u:=if_neg h
theorem orV_zero (v:Int):orV 0 v=v:=rfl
set_option maxHeartbeats 1000000 in
theorem nan64_in (F:Fence) (n:Nat) (h:F.fn 195) (hro:F.round=none) (x:Int) (w:World):CallsIn F n Tryz.prog 195 #[.int .i64 x] w fun e w'=>e = .returned (.bool false)∧w'=w:=by
 refine callsIn_of_wp Tryz.func195 rfl h ?_ hro
 simp only [Tryz.ntmps195,List.size_toArray,List.length_cons,List.length_nil,Nat.reduceAdd,Nat.reduceSub,Array.replicate_succ,Array.replicate_zero,List.push_toArray,List.append_toArray,List.nil_append,List.cons_append]
 gi_wp2
 go_ret
 exact ⟨by simp,rfl⟩
set_option maxHeartbeats 1000000 in
theorem cmp64_in (F:Fence) (n:Nat) (h:F.fn 165) (h2:F.fn 195) (hro:F.round=none) (hn:1≤n) (x y:Int) (w:World):CallsIn F n Tryz.prog 165 #[.int .i64 x,.int .i64 y] w fun e w'=>e = .returned (.int .i64 (cI x y))∧w'=w:=by
 refine callsIn_of_wp Tryz.func165 rfl h ?_ hro
 simp only [Tryz.ntmps165,List.size_toArray,List.length_cons,List.length_nil,Nat.reduceAdd,Nat.reduceSub,Array.replicate_succ,Array.replicate_zero,List.push_toArray,List.append_toArray,List.nil_append,List.cons_append]
 gi_wp2_with (gi_at_call 195; refine (nan64_in F (n - 1) h2 hro _ _).mono ?_; rintro e w' ⟨rfl,rfl⟩)
 all_goals go_ret
 all_goals (refine ⟨?_,rfl⟩; unfold cI; (repeat' split) <;> first | rfl | omega)
set_option maxRecDepth 100000 in
set_option maxHeartbeats 2000000 in
theorem slc_in (F:Fence) (n:Nat) (h:F.fn 166) (h1:F.fn 165) (h2:F.fn 195) (hro:F.round=none) (hn:2≤n) (b1 o1 c1 b2 o2 c2:Nat) (xs ys:List Int) (hx:xs.length≤1000000) (hy:ys.length≤1000000) (w:World)
  (hc1:∀ j,j<xs.length→w.cell? ⟨b1,o1+j,none⟩=some (.int .i64 (xs[j]?.getD 0))) (hc2:∀ j,j<ys.length→w.cell? ⟨b2,o2+j,none⟩=some (.int .i64 (ys[j]?.getD 0))) :
  CallsIn F n Tryz.prog 166 #[.slice (some ⟨b1,o1,none⟩) xs.length c1,.slice (some ⟨b2,o2,none⟩) ys.length c2] w fun e w'=>e = .returned (.int .i64 (slc xs ys))∧w'=w:=by
 have h3:1≤n - 1:=by omega
 have h4:1≤n:=by omega
 refine callsIn_of_wp Tryz.func166 rfl h ?_ hro
 simp only [Tryz.ntmps166,List.size_toArray,List.length_cons,List.length_nil,Nat.reduceAdd,Nat.reduceSub,Array.replicate_succ,Array.replicate_zero,List.push_toArray,List.append_toArray,List.nil_append,List.cons_append]
 gi_wp2
 gi_loopw [11] (fun i wr=>∃ k:Nat,k≤xs.length∧i = .int .i64 k∧slc (xs.drop k) (ys.drop k)=slc xs ys∧wr=w)
  (fun i _=>xs.length - (intOf i).toNat)
 case atStart=>exact ⟨0,Nat.zero_le _,rfl,rfl,rfl⟩
 case round =>
  obtain ⟨k,hk,rfl,hs,rfl⟩:=hrel
  have hx1:k<xs.length→wr.cell? ⟨b1,o1+k,none⟩=some (.int .i64 (xs[k]?.getD 0)):=hc1 k
  have hy1:k<ys.length→wr.cell? ⟨b2,o2+k,none⟩=some (.int .i64 (ys[k]?.getD 0)):=hc2 k
  by_cases hlt:k<xs.length
  ·have hx2:=hx1 hlt
   by_cases hlt2:k<ys.length
   ·have hy2:=hy1 hlt2
    have hd:=slc_drop hlt hlt2
    rw [hs] at hd
    clear hs
    gi_wp2_with (gi_at_call 165; refine (cmp64_in F (n - 1) h1 h2 hro h3 _ _ _).mono ?_; rintro e w' ⟨rfl,rfl⟩)
    ·have hb:(cI xs[k] ys[k] != 0)=true:=by assumption
     have hne:¬ cI xs[k] ys[k]=0:=by simpa using hb
     go_ret
     refine ⟨?_,rfl⟩
     show Ending.returned (Value.int .i64 (cI xs[k] ys[k]))=_
     rw [hd]
     simp only [List.getElem?_eq_getElem hlt,List.getElem?_eq_getElem hlt2,Option.getD_some]
     unfold cI at hne ⊢
     (repeat' split) <;> first | rfl | omega | (simp_all)
    ·have hb:(cI xs[k] ys[k] != 0)=false:=by assumption
     have he:cI xs[k] ys[k]=0:=by simpa using hb
     refine ⟨⟨k+1,by omega,by simp,?_,trivial⟩,by simp [intOf]; omega⟩
     rw [hd]
     simp only [List.getElem?_eq_getElem hlt,List.getElem?_eq_getElem hlt2,Option.getD_some]
     unfold cI at he
     split at he
     ·cases he
     ·split at he
      ·cases he
      ·rename_i q1 q2
       rw [if_neg q1,if_neg q2]
   ·have hd:=slc_short hlt (Nat.le_of_not_lt hlt2)
    rw [hs] at hd
    clear hs
    gi_wp2
    go_ret
    exact ⟨by show Ending.returned (Value.int .i64 1)=_; rw [hd],rfl⟩
  ·obtain rfl:k=xs.length:=by omega
   rw [slc_end] at hs
   gi_wp2
   all_goals go_ret
   all_goals (refine ⟨?_,rfl⟩; rw [← hs]; split <;> first | rfl | omega)
set_option maxHeartbeats 2000000 in
theorem or_in (F:Fence) (n:Nat) (h:F.fn 164) (hro:F.round=none) (b:Nat) (u v:Int) (w:World) (hu:w.cell? ⟨b,0,none⟩=some (.int .i64 u)) (hv:w.cell? ⟨b,1,none⟩=some (.int .i64 v)) :
  CallsIn F n Tryz.prog 164 #[.slice (some ⟨b,0,none⟩) 2 2] w fun e w'=>e = .returned (.int .i64 (orV u v))∧w'=w:=by
 refine callsIn_of_wp Tryz.func164 rfl h ?_ hro
 simp only [Tryz.ntmps164,List.size_toArray,List.length_cons,List.length_nil,Nat.reduceAdd,Nat.reduceSub,Array.replicate_succ,Array.replicate_zero,List.push_toArray,List.append_toArray,List.nil_append,List.cons_append]
 gi_wp2
 gi_loopw [8] (fun i wr=>∃ k:Nat,k≤2∧i = .int .i64 k∧(1≤k→u=0)∧(2≤k→v=0)∧wr=w)
  (fun i _=>2 - (intOf i).toNat)
 case atStart=>exact ⟨0,Nat.zero_le _,rfl,fun h=>by omega,fun h=>by omega,rfl⟩
 case round =>
  obtain ⟨k,hk,rfl,hk1,hk2,rfl⟩:=hrel
  have h012:k=0∨k=1∨k=2:=by omega
  rcases h012 with rfl | rfl | rfl
  ·gi_wp2
   ·have hb:(u != 0)=true:=by assumption
    have hne:u≠0:=by simpa using hb
    go_ret
    exact ⟨by show Ending.returned (Value.int .i64 u)=_; rw [orV_ne hne],rfl⟩
   ·have hb:(u != 0)=false:=by assumption
    have he:u=0:=by simpa using hb
    exact ⟨⟨1,by omega,by simp,fun _=>he,fun h=>by omega,trivial⟩,by simp [intOf]⟩
  ·have h0:=hk1 (Nat.le_refl _)
   subst h0
   gi_wp2
   ·go_ret
    exact ⟨by show Ending.returned (Value.int .i64 v)=_; rw [orV_zero],rfl⟩
   ·have hb:(v != 0)=false:=by assumption
    have he:v=0:=by simpa using hb
    exact ⟨⟨2,by omega,by simp,fun _=>by trivial,fun _=>he,trivial⟩,by simp [intOf]⟩
  ·have h0:=hk1 (by omega)
   have h1:=hk2 (by omega)
   subst h0; subst h1
   gi_wp2
   go_ret
   exact ⟨rfl,rfl⟩
theorem cell_two (w:World) (a b:Value) (t:TypeId):(w.alloc (.cells #[a,b] t)).cell? ⟨w.heap.size,0,none⟩=some a∧(w.alloc (.cells #[a,b] t)).cell? ⟨w.heap.size,1,none⟩=some b:=by
 have h:=World.alloc_heap_new w (.cells #[a,b] t)
 constructor <;> (unfold World.cell?; rw [h]; rfl)
end Go.Proofs.YtcfmmmloeaggmaaGreat
end
section
namespace Go.Proofs
open Go.Shelf Go.RowKit Go.Lib Go.Sort
shelf_lay_g SlLaysF.n6 Slsf 6 at Tryz 162 as YtcfmmmloeaggmaaGreat.sortRows
end Go.Proofs
namespace Go.Proofs.YtcfmmmloeaggmaaGreat
open Go.Shelf Go.RowKit Go.Lib Go.Sort
set_option linter.unusedVariables false
set_option linter.unusedSimpArgs false
theorem slc_self:∀ xs,slc xs xs=0
 | []=>rfl
 | x :: xs=>by rw [slc,if_neg (by omega),if_neg (by omega)]; exact slc_self xs
theorem slc_anti:∀ xs ys,slc ys xs = - slc xs ys
 | [],[]=>rfl
 | [],_ :: _=>rfl
 | _ :: _,[]=>rfl
 | x :: xs,y :: ys=>by
  have:=slc_anti xs ys
  rw [slc,slc]
  (repeat' split) <;> omega
theorem slc_trans:∀ {xs ys zs},slc xs ys≤0→slc ys zs≤0→slc xs zs≤0
 | [],_,[],_,_=>by simp [slc]
 | [],_,_ :: _,_,_=>by simp [slc]
 | _ :: _,[],_,h,_=>by simp [slc] at h
 | _ :: _,_ :: _,[],_,h=>by simp [slc] at h
 | x :: xs,y :: ys,z :: zs,h1,h2=>by
  rw [slc] at h1 h2 ⊢
  split at h1
  ·split at h2
   ·rw [if_pos (by omega)]; omega
   ·split at h2
    ·omega
    ·rw [if_pos (by omega)]; omega
  ·split at h1
   ·omega
   ·split at h2
    ·rw [if_pos (by omega)]; omega
    ·split at h2
     ·omega
     ·rw [if_neg (by omega),if_neg (by omega)]
      exact slc_trans h1 h2
section
variable {α:Type} [Inhabited α] (enc:α→Value) {w:World} {g n:Nat} {os:Array Obj}
theorem sorted_heap {cur:Array Value} {e:TypeId} {fr:Nat × Nat} (d:Array α) (hb:w.heap[g]? = some (.cells cur e fr)):(sortWorld enc w g 0 n d os).heap[g]? = some (.cells (putCells enc 0 d cur) e fr):=by
 have hg:g<w.heap.size:=(Array.getElem?_eq_some_iff.1 hb).1
 unfold sortWorld
 rw [heap_grow_old _ _ (by simpa using hg)]
 simp [putRow,mapBlock,Sort.ahead,Array.getElem?_modify,hb,onCells]
theorem sorted_other (d:Array α) {k:Nat} (hk:k<w.heap.size) (hne:k≠g):(sortWorld enc w g 0 n d os).heap[k]? = w.heap[k]?:=by
 unfold sortWorld
 rw [heap_grow_old _ _ (by simpa using hk)]
 have:g≠k:=fun e=>hne e.symm
 simp [putRow,mapBlock,Sort.ahead,Array.getElem?_modify,this]
theorem sorted_size (d:Array α):w.heap.size≤(sortWorld enc w g 0 n d os).heap.size:=by
 unfold sortWorld; simp
theorem sorted_take (cur:Array Value) (d:Array α) (h:d.size≤cur.size):(putCells enc 0 d cur).toList.take d.size=d.toList.map enc:=by
 apply List.ext_getElem?
 intro j
 by_cases hj:j<d.size
 ·rw [List.getElem?_take_of_lt hj,Array.getElem?_toList]
  simp [putCells,hj,show j<cur.size by omega]
 ·rw [List.getElem?_take_eq_none (by omega),List.getElem?_eq_none (by simp; omega)]
end
theorem sorted_drop {α:Type} [Inhabited α] (enc:α→Value) (cur:Array Value) (d:Array α):(putCells enc 0 d cur).toList.drop d.size=cur.toList.drop d.size:=by
 apply List.ext_getElem?
 intro j
 rw [List.getElem?_drop,List.getElem?_drop,Array.getElem?_toList,Array.getElem?_toList]
 have h:¬ d.size+j<d.size:=by omega
 simp [putCells,h]
end Go.Proofs.YtcfmmmloeaggmaaGreat
end
section
namespace Go.Proofs
open Go.Shelf Go.RowKit Go.Lib Go.Sort
shelf_lay_g SlLaysF0.n6 Slsf 6 at Tryz 181 as YtcfmmmloeaggmaaGreat.sortMaps
end Go.Proofs
namespace Go.Proofs.YtcfmmmloeaggmaaGreat
open Go.Shelf Go.RowKit Go.Lib Go.Sort
set_option linter.unusedVariables false
set_option linter.unusedSimpArgs false
attribute [local go_sem] Oper.semAt_some
theorem slc_or (x y:Int) (xs ys:List Int):orV (cI x y) (slc xs ys)=slc (x :: xs) (y :: ys):=by
 rw [slc]
 unfold orV cI
 (repeat' split) <;> first | rfl | omega
theorem slc_swo {α:Type} (f:α→List Int):SWO (ltOf fun x y=>slc (f x) (f y)) where
 irrefl x:=by
  dsimp only [ltOf]
  exact decide_eq_false (by rw [slc_self]; decide)
 trans x y z h1 h2:=by
  dsimp only [ltOf] at *
  rw [decide_eq_true_iff] at *
  have a1:=slc_anti (f y) (f z)
  have a2:=slc_anti (f x) (f z)
  refine Classical.byContradiction fun hn=>?_
  have h3:=slc_trans (xs:=f z) (ys:=f x) (zs:=f y) (by omega) (by omega)
  omega
 ntrans x y z h1 h2:=by
  dsimp only [ltOf] at *
  rw [decide_eq_false_iff_not] at *
  have a1:=slc_anti (f x) (f y)
  have a2:=slc_anti (f y) (f z)
  have a3:=slc_anti (f x) (f z)
  have h3:=slc_trans (xs:=f z) (ys:=f y) (zs:=f x) (by omega) (by omega)
  omega
theorem fm_idx {α:Type} {enc:α→List Value} {k:Nat} (hk:0<k) (he:∀ x,(enc x).length=k):∀ (L:List α) (t:Nat),(L.flatMap enc)[t]? = (L[t / k]?).bind fun x=>(enc x)[t % k]?
 | [],t=>by simp
 | a :: L,t=>by
  rw [List.flatMap_cons]
  by_cases h:t<k
  ·rw [List.getElem?_append_left (by rw [he]; exact h),Nat.div_eq_of_lt h,Nat.mod_eq_of_lt h]; rfl
  ·rw [List.getElem?_append_right (by rw [he]; omega),he,fm_idx hk he L (t - k)]
   have e1:t / k=(t - k) / k+1:=Nat.div_eq_sub_div hk (by omega)
   have e2:t % k=(t - k) % k:=Nat.mod_eq_sub_mod (by omega)
   rw [e1,e2]; rfl
theorem fm_flatK {α:Type} [Inhabited α] {enc:α→List Value} {k:Nat} (hk:0<k) (he:∀ x,(enc x).length=k) (d:Array α):(flatK enc k d).toList=d.toList.flatMap enc:=by
 apply List.ext_getElem?
 intro t
 rw [fm_idx hk he]
 by_cases h:t<d.size * k
 ·have h1:t / k<d.size:=(Nat.div_lt_iff_lt_mul hk).2 h
  have h2:t % k<k:=Nat.mod_lt _ hk
  have h3:t<(flatK enc k d).size:=by simpa using h
  have hg:=get_flatK enc k d t h
  rw [getElem!_pos _ t h3] at hg
  have e1:d.toList[t / k]? = some d[t / k]:=by rw [Array.getElem?_toList,Array.getElem?_eq_getElem h1]
  rw [Array.getElem?_toList,Array.getElem?_eq_getElem h3,hg,e1]
  have e2:d[t / k]! = d[t / k]:=getElem!_pos d (t / k) h1
  rw [e2]
  show _=(enc d[t / k])[t % k]?
  have h4:t % k<(enc d[t / k]).length:=by rw [he]; exact h2
  rw [List.getElem?_eq_getElem h4,getElem!_pos (enc d[t / k]) (t % k) h4]
 ·have h1:¬ t / k<d.size:=fun c=>h ((Nat.div_lt_iff_lt_mul hk).1 c)
  rw [List.getElem?_eq_none (by simp; omega),List.getElem?_eq_none (by simp; omega)]; rfl
abbrev M6:={l:List Int // l.length=6}
instance:Inhabited M6:=⟨⟨[0,0,0,0,0,0],rfl⟩⟩
def enc6 (x:M6):List Value:=x.1.map (Value.int .i64)
theorem enc6_len (x:M6):(enc6 x).length=6:=by rw [enc6,List.length_map,x.2]
theorem m6_out (x:M6):∃ a0 a1 a2 a3 a4 a5,x.1 = [a0,a1,a2,a3,a4,a5]:=by
 obtain ⟨l,h⟩:=x
 match l,h with
 | [a0,a1,a2,a3,a4,a5],_=>exact ⟨a0,a1,a2,a3,a4,a5,rfl⟩
theorem cell_six (w w':World) (a0 a1 a2 a3 a4 a5:Int) (t:TypeId) (b:Nat) (h:w'.heap[b]? = some (.cells #[.int .i64 a0,.int .i64 a1,.int .i64 a2,.int .i64 a3,.int .i64 a4,.int .i64 a5] t (0,0))):∀ j,j<5→w'.cell? ⟨b,1+j,none⟩=some (.int .i64 (([a1,a2,a3,a4,a5]:List Int)[j]?.getD 0)):=fun j hj=>by
 unfold World.cell?; rw [h]
 match j,hj with
 | 0,_=>rfl
 | 1,_=>rfl
 | 2,_=>rfl
 | 3,_=>rfl
 | 4,_=>rfl
theorem mixedW:Tryz.prog.follows .mixedOrders=true:=by kernel_rfl
theorem heap_two1 (w:World) (x y:Obj):((w.alloc x).alloc y).heap[w.heap.size]? = some x:=by
 rw [alloc_eq_grow,alloc_eq_grow,grow_grow]; show (w.heap ++ (#[x] ++ #[y]))[_]? = _; simp
theorem heap_two2 (w:World) (x y:Obj):((w.alloc x).alloc y).heap[w.heap.size+1]? = some y:=by
 rw [alloc_eq_grow,alloc_eq_grow,grow_grow]; show (w.heap ++ (#[x] ++ #[y]))[_]? = _; simp
set_option maxRecDepth 100000 in
set_option maxHeartbeats 2000000 in
theorem mcmp_calls (a0 a1 a2 a3 a4 a5 b0 b1 b2 b3 b4 b5:Int) (w:World) :
  Calls Tryz.prog 182 #[.agg #[.int .i64 a0,.int .i64 a1,.int .i64 a2,.int .i64 a3,.int .i64 a4,.int .i64 a5],.agg #[.int .i64 b0,.int .i64 b1,.int .i64 b2,.int .i64 b3,.int .i64 b4,.int .i64 b5]] w fun e w'=>e = .returned (.int .i64 (slc [a0,a1,a2,a3,a4,a5] [b0,b1,b2,b3,b4,b5]))∧∃ q os,w'=grow (w.drewN q) os:=by
 have c1:∀ w',Calls Tryz.prog 165 #[.int .i64 a0,.int .i64 b0] w' fun e w''=>e = .returned (.int .i64 (cI a0 b0))∧w''=w':=fun w'=>(callsIn_wide (n:=1)).1 (cmp64_in Fence.wide 1 trivial trivial rfl (by decide) a0 b0 w')
 rw [← slc_or]
 go_enter Tryz.func182,Tryz.ntmps182
 go_wp2_with fail
 have g1:=heap_two1 w (Obj.cells #[.int .i64 a0,.int .i64 a1,.int .i64 a2,.int .i64 a3,.int .i64 a4,.int .i64 a5] 48) (Obj.cells #[.int .i64 b0,.int .i64 b1,.int .i64 b2,.int .i64 b3,.int .i64 b4,.int .i64 b5] 48)
 have g2:=heap_two2 w (Obj.cells #[.int .i64 a0,.int .i64 a1,.int .i64 a2,.int .i64 a3,.int .i64 a4,.int .i64 a5] 48) (Obj.cells #[.int .i64 b0,.int .i64 b1,.int .i64 b2,.int .i64 b3,.int .i64 b4,.int .i64 b5] 48)
 have gW:∃ os,((w.alloc (.cells #[.int .i64 a0,.int .i64 a1,.int .i64 a2,.int .i64 a3,.int .i64 a4,.int .i64 a5] 48)).alloc (.cells #[.int .i64 b0,.int .i64 b1,.int .i64 b2,.int .i64 b3,.int .i64 b4,.int .i64 b5] 48))=grow w os:=⟨_,by rw [alloc_eq_grow,alloc_eq_grow,grow_grow]⟩
 generalize ((w.alloc (.cells #[.int .i64 a0,.int .i64 a1,.int .i64 a2,.int .i64 a3,.int .i64 a4,.int .i64 a5] 48)).alloc (.cells #[.int .i64 b0,.int .i64 b1,.int .i64 b2,.int .i64 b3,.int .i64 b4,.int .i64 b5] 48))=wq at *
 obtain ⟨osq,hq⟩:=gW
 refine wp_region_still_tail 10 mixedW (by kernel_rfl) ?_
 simp only [List.take_succ_cons,List.take_zero,List.drop_succ_cons,List.drop_zero]
 change wpStill _ _ wq.drew _ _ _
 have g1':wq.drew.heap[w.heap.size]? = _:=g1
 have g2':wq.drew.heap[w.heap.size+1]? = _:=g2
 have f1:wq.drew.cell? ⟨w.heap.size,0,none⟩=some (.int .i64 a0):=by unfold World.cell?; rw [g1']; rfl
 have f2:wq.drew.cell? ⟨w.heap.size+1,0,none⟩=some (.int .i64 b0):=by unfold World.cell?; rw [g2']; rfl
 have c2:=(callsIn_wide (n:=2)).1 (slc_in Fence.wide 2 trivial trivial trivial rfl (by decide) w.heap.size 1 5 (w.heap.size+1) 1 5 [a1,a2,a3,a4,a5] [b1,b2,b3,b4,b5] (by simp) (by simp) wq.drew (cell_six wq wq.drew a0 a1 a2 a3 a4 a5 48 _ g1') (cell_six wq wq.drew b0 b1 b2 b3 b4 b5 48 _ g2'))
 have hq':∃ os,wq=grow w os:=⟨osq,hq⟩
 clear hq g1 g2
 generalize wq.drew=wd at *
 repeat still_step
 still_call (c1 _)
 repeat still_step
 still_call c2
 refine wpStill_nil ?_
 go_wp2_with fail
 refine ((callsIn_wide (n:=1)).1 (or_in Fence.wide 1 trivial rfl wq.heap.size (cI a0 b0) (slc [a1,a2,a3,a4,a5] [b1,b2,b3,b4,b5]) (wq.alloc (.cells #[.int .i64 (cI a0 b0),.int .i64 (slc [a1,a2,a3,a4,a5] [b1,b2,b3,b4,b5])] 3)).drew (cell_two wq _ _ _).1 (cell_two wq _ _ _).2)).mono ?_
 rintro e w' ⟨rfl,rfl⟩
 go_wp2_with fail
 go_ret
 obtain ⟨os,rfl⟩:=hq'
 exact ⟨rfl,1,_,by rw [alloc_eq_grow,grow_grow]; rfl⟩
theorem sortMaps_world {w:World} {g cap:Nat} {e:TypeId} {cur:Array Value} (hb:w.heap[g]? = some (.cells cur e (0,0))) (ds:List M6) (hn:ds.length≤1000) (hcur:cur.toList.take (ds.length * 6)=ds.flatMap enc6) :
  Calls Tryz.prog 181 #[.slice (some ⟨g,0,none⟩) ds.length cap,.func (.func 182) #[] #[]] w fun en w'=>en = .returned (.tuple #[])∧∃ r:List M6,r.Perm ds∧r.Pairwise (fun a b=>slc a.1 b.1≤0) ∧
   (∃ cur',w'.heap[g]? = some (.cells cur' e (0,0))∧cur'.size=cur.size∧cur'.toList.take (ds.length * 6)=r.flatMap enc6∧cur'.toList.drop (ds.length * 6)=cur.toList.drop (ds.length * 6))∧(∀ k,k<w.heap.size→k≠g→w'.heap[k]? = w.heap[k]?)∧w.heap.size≤w'.heap.size∧w'.os=w.os∧w'.tape=w.tape∧w'.output=w.output:=by
 have hds:ds.toArray.size=ds.length:=by simp
 have hfm:(ds.flatMap enc6).length=ds.length * 6:=by
  clear hcur hds
  induction ds with
  | nil=>rfl
  | cons a l ih =>
   have:=ih (by simp at hn; omega) 
   rw [List.flatMap_cons,List.length_append,enc6_len,this,List.length_cons]; omega
 have hcs:ds.length * 6≤cur.size:=by
  have:=congrArg List.length hcur
  rw [List.length_take,hfm] at this
  simp at this; omega
 have hfl:(flatK enc6 6 ds.toArray).toList=ds.flatMap enc6:=fm_flatK (by decide) enc6_len ds.toArray
 have hone:∀ x,∀ v∈enc6 x,v.oneCell'=true:=fun x v hv=>by
  simp only [enc6,List.mem_map] at hv
  obtain ⟨y,_,rfl⟩:=hv; rfl
 have hH:HoldsK enc6 6 w g 0 ds.toArray:=fun j hj=>by
  rw [size_flatK,hds] at hj
  refine ⟨?_,by simp [World.frozen?,hb]⟩
  have h3:(cur.toList.take (ds.length * 6))[j]? = (flatK enc6 6 ds.toArray).toList[j]?:=by rw [hcur,hfl]
  rw [List.getElem?_take_of_lt hj,Array.getElem?_toList,Array.getElem?_toList] at h3
  have hj2:j<(flatK enc6 6 ds.toArray).size:=by rw [size_flatK,hds]; exact hj
  simp only [World.cell?,hb,Nat.zero_add]
  simp only [Option.isSome_none,Bool.false_eq_true,if_false]
  rw [h3,Array.getElem?_eq_getElem hj2]
  show _=some (flatK enc6 6 ds.toArray)[j]!
  rw [getElem!_pos (flatK enc6 6 ds.toArray) j hj2]
 have hcmp:CmpLays Tryz.prog 182 #[] enc6 6 (fun x y=>slc x.1 y.1) g 0 ds.toArray.size w:=fun m os dk hdk x y=>by
  obtain ⟨a0,a1,a2,a3,a4,a5,ex⟩:=m6_out x
  obtain ⟨b0,b1,b2,b3,b4,b5,ey⟩:=m6_out y
  have e1:enc6 x = [.int .i64 a0,.int .i64 a1,.int .i64 a2,.int .i64 a3,.int .i64 a4,.int .i64 a5]:=by rw [enc6,ex]; rfl
  have e2:enc6 y = [.int .i64 b0,.int .i64 b1,.int .i64 b2,.int .i64 b3,.int .i64 b4,.int .i64 b5]:=by rw [enc6,ey]; rfl
  show Calls Tryz.prog 182 #[.agg (enc6 x).toArray,.agg (enc6 y).toArray] _ _
  rw [e1,e2]
  refine (mcmp_calls a0 a1 a2 a3 a4 a5 b0 b1 b2 b3 b4 b5 _).mono ?_
  rintro en w' ⟨rfl,q,os',rfl⟩
  exact ⟨by show _=Ending.returned (Value.int .i64 (slc x.1 y.1)); rw [ex,ey],q,os',rfl⟩
 have hcon:=AnyQ.slices_SortFunc sortMaps 6 Tryz.isAgg48 Tryz.sizeOf48 enc6 enc6_len hone _ (slc_swo fun x:M6=>x.1) 182 #[] g 0 cap ds.toArray w (enters_of Tryz.func182 (by kernel_rfl) rfl) hcmp hH (Array.getElem?_eq_some_iff.1 hb).1 (by rw [hds]; omega)
 rw [hds] at hcon
 change Calls Tryz.prog 181 _ _ _ at hcon
 refine hcon.mono ?_
 rintro en w' ⟨rfl,d',nn,os,⟨hs,_,hp⟩,hS,rfl⟩
 rw [hds] at hs
 have ed':d'.extract 0 ds.length=d':=by rw [← hs]; simp
 have ed:ds.toArray.extract 0 ds.length=ds.toArray:=by
  have:=Array.extract_size (xs:=ds.toArray)
  rwa [hds] at this
 rw [ed',ed] at hp
 have hfs:(flatK enc6 6 d').size=ds.length * 6:=by rw [size_flatK,hs]
 have hfl':(flatK enc6 6 d').toList=d'.toList.flatMap enc6:=fm_flatK (by decide) enc6_len d'
 have hcv:sortWorldK enc6 6 w g 0 nn d' os=sortWorld id w g 0 nn (flatK enc6 6 d') os:=rfl
 rw [hcv]
 refine ⟨rfl,d'.toList,by simpa using hp,?_,⟨_,sorted_heap id (flatK enc6 6 d') hb,by simp [putCells],?_,by rw [← hfs]; exact sorted_drop id cur _⟩,fun k hk hne=>sorted_other id _ hk hne,sorted_size id _,rfl,rfl,rfl⟩
 ·rw [List.pairwise_iff_getElem]
  intro i j hi hj hij
  have hj':j<ds.length:=by rw [← hs]; simpa using hj
  have h4:=hS i j (Nat.zero_le _) hij hj'
  have hgi:d'[i]! = d'.toList[i]:=by rw [getElem!_pos d' i (by simpa using hi)]; simp
  have hgj:d'[j]! = d'.toList[j]:=by rw [getElem!_pos d' j (by simpa using hj)]; simp
  rw [hgi,hgj] at h4
  have h5:=slc_anti d'.toList[i].1 d'.toList[j].1
  simp only [ltOf,decide_eq_false_iff_not] at h4
  omega
 ·have:=sorted_take id cur (flatK enc6 6 d') (by rw [hfs]; exact hcs)
  rw [hfs,hfl'] at this
  simpa using this
end Go.Proofs.YtcfmmmloeaggmaaGreat
end
section

end
namespace Go.Proofs.YtcfmmmloeaggmaaGreat
open Go.Kv
set_option linter.unusedVariables false
set_option linter.unusedSimpArgs false
section
section
attribute [local irreducible] ACall PCall KL
theorem rel_intsV {φ:Frz} {ι:List KLoc} {L:List Int} {ys:List Value} (h:RelL φ ι (ints L) ys):ys=L.map (Value.int .i64):=by
 apply List.ext_getElem?
 intro i
 rw [List.getElem?_map]
 by_cases hi:i<L.length
 ·have h1:(ints L)[i]? = some (.int .i64 L[i]):=by simp [ints,hi]
  obtain ⟨v,hv,hR⟩:=h.get h1
  rw [hv,hR.int_inv]; simp [hi]
 ·have:=h.1
  rw [List.getElem?_eq_none (by rw [← this]; simpa [ints] using hi),List.getElem?_eq_none (by omega)]; rfl
theorem intsV_rel {φ:Frz} {ι:List KLoc} (L:List Int):RelL φ ι (ints L) (L.map (Value.int .i64)) :=
 ⟨by simp [ints],fun i c v hc hv=>by
  obtain ⟨x,hx,rfl⟩:=ints_get hc
  rw [List.getElem?_map,hx] at hv
  simp only [Option.map_some,Option.some.injEq] at hv
  subst hv; exact .int _ _⟩
theorem flat_aggsI:∀ ms:List (List Int),flat (aggs ms)=ints ms.flatten
 | []=>rfl
 | m :: ms=>by
  have:=flat_aggsI ms
  simp only [aggs,List.map_cons,flat_cons,PV.cs,List.flatten_cons,ints,List.map_append] at this ⊢
  rw [this]
theorem enc6_flat:∀ ds:List M6,ds.flatMap enc6=((ds.map Subtype.val).flatten).map (Value.int .i64)
 | []=>rfl
 | d :: ds=>by
  rw [List.flatMap_cons,enc6_flat ds,List.map_cons,List.flatten_cons,List.map_append]; rfl
theorem m6_of:∀ ms:List (List Int),(∀ m∈ms,m.length=6)→∃ ds:List M6,ds.map Subtype.val=ms
 | [],_=>⟨[],rfl⟩
 | m :: ms,h=>by
  obtain ⟨ds,hd⟩:=m6_of ms fun x hx=>h x (List.mem_cons_of_mem _ hx)
  exact ⟨⟨m,h m (by simp)⟩ :: ds,by rw [List.map_cons,hd]⟩
theorem sort_maps {σ:Heap} {id ver:Nat} {e:TypeId} {ms:List (List Int)} (h6:∀ m∈ms,m.length=6) (h0:0<ms.length) (hn:ms.length≤1000) (hid:σ[id]? = some (.arr ver e 6 (aggs ms))) {K:PV→Heap→Prop}
  (hK:∀ r:List (List Int),r.Perm ms→r.Pairwise (fun a b=>slc a b≤0)→K (.tup []) (σ.set id (.arr ver e 6 (aggs r)))) :
  ACall Tryz.prog 181 [.ref id ver 0 ms.length,.fn (.func 182) [] []] σ K:=by
 unfold ACall
 refine ⟨⟨Tryz.f181,Tryz.func181,by kernel_rfl,by kernel_rfl⟩,fun φ ι w vs hr ho=>?_⟩
 obtain ⟨ds,hds⟩:=m6_of ms h6
 have hdl:ds.length=ms.length:=by rw [← hds,List.length_map]
 have hlt:=(List.getElem?_eq_some_iff.1 hid).1
 have hltι:id < ι.length:=by rw [ho.len]; exact hlt
 obtain ⟨l,hl⟩:∃ l,ι[id]? = some l:=⟨_,List.getElem?_eq_getElem hltι⟩
 have hobj:=ho.obj id _ l hid hl
 have hal:(aggs ms).length=ms.length:=aggs_length ms
 cases l with
 | dead=>exact hobj.elim
 | box b=>exact hobj.elim
 | arr ver' e' esz u =>
  simp only [ObjOK] at hobj
  obtain ⟨rfl,rfl,rfl,_,ys,hrow,hrel,hok,hcl⟩:=hobj
  rw [flat_aggsI] at hrel hok
  have hys:=rel_intsV hrel
  rw [← hds,← enc6_flat] at hys
  subst hys
  rw [hal] at hrow
  obtain ⟨v0,hv0,r0⟩:=hr.get (i:=0) rfl
  obtain ⟨v1,hv1,r1⟩:=hr.get (i:=1) rfl
  obtain ⟨x,y,rfl,hx,hy⟩:=r1.fn_inv
  have ex:x = []:=List.eq_nil_of_length_eq_zero hx.1.symm
  have ey:y = []:=List.eq_nil_of_length_eq_zero hy.1.symm
  subst ex; subst ey
  have hset:∀ u',u'=u→ι.set id (.arr ver e 6 u') = ι:=fun u' hu=>by
   subst hu
   have:=(List.getElem?_eq_some_iff.1 hl).2
   rw [← this]; exact List.set_getElem_self _
  cases r0 with
  | ref _ _ _ _ _ k e2 esz2 u2 hh ho' hk' hv' =>
   rw [hl] at hh
   cases hh
   rcases hv' rfl with ⟨g,n,cap,o,rfl,q1,q2,q3,q4⟩ | ⟨_,_,hz,_⟩
   rotate_left
   ·omega
   rcases hrow.2 with ⟨hnil,_⟩ | ⟨g2,cap2,cur,heq,hg,hgb,c1,c2,c3,c4⟩
   ·cases hnil
   cases heq
   obtain rfl:=q4 rfl
   rw [Nat.sub_zero] at q2
   subst q2
   have ev:vs = [.slice (some ⟨g,0,none⟩) ms.length cap,.func (.func 182) #[] #[]]:=by
    have hvl:=hr.1
    match vs,hvl,hv0,hv1 with
    | [a,c],_,h0,h1=>simp only [List.getElem?_cons_zero,Option.some.injEq] at h0; simp only [List.getElem?_cons_succ,List.getElem?_cons_zero,Option.some.injEq] at h1; rw [h0,h1]
   subst ev
   have hmain:=sortMaps_world (cap:=cap) hgb ds (by omega) (by rw [hdl]; exact c4)
   rw [hdl] at hmain
   refine hmain.mono ?_
   rintro en w' ⟨rfl,r,hp,hpw,⟨cur',d1,d2,d3,d4⟩,hoth,hsz,e1,e2,e3⟩
   have hrl:(r.map Subtype.val).length=ms.length:=by rw [List.length_map,hp.length_eq,hdl]
   have hr6:∀ m∈r.map Subtype.val,m.length=6:=fun m hm=>by
    obtain ⟨x,_,rfl⟩:=List.mem_map.1 hm
    exact x.2
   have hw:∀ b,b<w.heap.size→(KLoc.arr ver e 6 (.slice (some ⟨g,0,none⟩) ms.length cap)).block≠some b→w'.heap[b]? = w.heap[b]?:=fun b hb hne=>hoth b hb (fun e=>hne (by rw [e]; rfl))
   have hob2:ObjOK φ (ι.set id (.arr ver e 6 (.slice (some ⟨g,0,none⟩) ms.length cap))) w' (.arr ver e 6 (aggs (r.map Subtype.val))) (.arr ver e 6 (.slice (some ⟨g,0,none⟩) ms.length cap)):=by
    rw [hset _ rfl]
    refine ⟨rfl,rfl,rfl,by decide,r.flatMap enc6,⟨?_,.inr ⟨g,cap,cur',by rw [aggs_length,hrl],Nat.zero_le _,d1,by rw [aggs_length,hrl]; exact c1,c2,by rw [d2]; exact c3,by rw [aggs_length,hrl]; exact d3⟩⟩,?_,?_,fun x hx=>?_⟩
    ·rw [aggs_length,hrl,← d3,List.length_take]
     have:ms.length * 6≤cur'.size:=by rw [d2,c3]; exact Nat.mul_le_mul_right 6 c1
     simp only [Array.length_toList]; omega
    ·rw [flat_aggsI,enc6_flat]
     exact intsV_rel _
    ·rw [flat_aggsI]; simp [ints,PV.ok]
    ·simp only [aggs,List.mem_map] at hx
     obtain ⟨y,⟨z,_,rfl⟩,rfl⟩:=hx
     show (ints z.1).length=6
     rw [ints_length,z.2]
   obtain ⟨j1,j2⟩:=ho.upd hl (KLoc.le_refl _) hsz hw (fun b hb=>.inl hb) (fun b hb=>Nat.lt_of_lt_of_le (ho.lt id _ b hl hb) hsz) hob2
   refine ⟨.tup [],.tuple #[],φ,_,_,rfl,.tup [] [] rfl (by simp),Tr.upd _ hl j2 hsz hw (fun b hb=>.inl hb) e1 e2 e3,j1,hK _ ?_ ?_⟩
   ·rw [← hds]; exact hp.map _
   ·exact List.pairwise_map.2 hpw
end
end
section
section
attribute [local irreducible] ACall PCall KL
theorem slc_cmpL:∀ (xs ys:List Int),xs.length=ys.length→slc xs ys=cmpL xs ys
 | [],[],_=>rfl
 | [],_ :: _,h=>by simp at h
 | _ :: _,[],h=>by simp at h
 | x :: xs,y :: ys,h=>by
  rw [slc,cmpL,slc_cmpL xs ys (by simpa using h)]
theorem slc_mp {a b:List Nat} {n:Nat} (ha:Ok a n) (hb:Ok b n) (h:slc (mp a) (mp b)≤0):nbl n a≤nbl n b:=by
 apply Classical.byContradiction
 intro hn
 have h1:=(ltM_nbl hb ha).2 (by omega)
 have e:slc (mp b) (mp a)=cmpL (b.map fun x:Nat=>(x:Int)) (a.map fun x:Nat=>(x:Int)):=by
  rw [slc_cmpL _ _ (by rw [ha.mp_len,hb.mp_len])]
  simp only [mp,mpN,cmpL,ha.len,hb.len,Int.lt_irrefl,if_false]
  exact cmpL_app _ _ _ (by simp [ha.len,hb.len])
 have h2:=of_decide_eq_true h1
 rw [← e] at h2
 have:=slc_anti (mp a) (mp b)
 omega
theorem sorted_elS {n:Nat} {Q:List (List Nat)} {r:List (List Int)} (hQ:∀ f∈Q,Ok f n) (hd:Q.Nodup) (hp:r.Perm (Q.map mp)) (hs:r.Pairwise fun a b=>slc a b≤0):r=(elS n Q).map mp:=by
 have hr:r=(r.map um).map mp:=by
  rw [List.map_map]
  conv=>lhs; rw [← List.map_id r]
  refine List.map_congr_left fun x hx=>?_
  obtain ⟨f,hf,rfl⟩:=List.mem_map.1 (hp.mem_iff.1 hx)
  show id (mp f)=mp (um (mp f))
  rw [um_mp]; rfl
 have hS:(r.map um).Perm Q:=by
  have:=hp.map um
  rw [List.map_map] at this
  have e:Q.map (um ∘ mp)=Q:=by
   conv=>rhs; rw [← List.map_id Q]
   exact List.map_congr_left fun f _=>um_mp f
  rwa [e] at this
 generalize r.map um=S at hr hS
 subst hr
 have hSO:∀ f∈S,Ok f n:=fun f hf=>hQ f (hS.mem_iff.1 hf)
 have hSd:S.Nodup:=hS.nodup_iff.2 hd
 have hSr:SrM n S:=by
  refine ⟨hSO,?_⟩
  rw [List.pairwise_map] at hs
  rw [List.nodup_iff_pairwise_ne] at hSd
  rw [List.pairwise_iff_getElem] at hs hSd ⊢
  intro i j hi hj hij
  have h1:=hSO _ (List.getElem_mem hi)
  have h2:=hSO _ (List.getElem_mem hj)
  have h3:=slc_mp h1 h2 (hs i j hi hj hij)
  have h4:=hSd i j hi hj hij
  have:nbl n S[i]≠nbl n S[j]:=fun e=>h4 (nbl_inj h1 h2 e)
  omega
 obtain ⟨e1,e2,e3⟩:=elS_ok hQ
 rw [srm_uniq hSr e1 fun f=>by rw [hS.mem_iff,e2]]
theorem FdOk.nodup {n:Nat} {P:List Int} {Q:List (List Nat)} (h:FdOk n P Q) (hQ:∀ f∈Q,Ok f n):Q.Nodup:=by
 rw [List.nodup_iff_pairwise_ne,List.pairwise_iff_getElem]
 intro i j hi hj hij e
 have h1:=(h.2.2 _ (hQ _ (List.getElem_mem hi))).1 i (List.getElem?_eq_getElem hi)
 have h2:=(h.2.2 _ (hQ _ (List.getElem_mem hi))).1 j (by rw [List.getElem?_eq_getElem hj,e])
 omega
def clW (fs:List (List Nat)) (m:List Nat) (Q:List (List Nat)) (V:List (List Int)) (i:Nat):Nat→List (List Int)
 | 0=>V
 | k+1=>match clA fs m Q k with
  | none=>clW fs m Q V i k
  | some R=>if mul m (fs.getD k [])∈R then clW fs m Q V i k else clW fs m Q V i k ++ [(clW fs m Q V i k).getD i [] ++ [(k:Int)]]
def clV (fs:List (List Nat)) (n:Nat):Nat→List (List Int)
 | 0=>[[]]
 | i+1=>match clB fs n i with
  | none=>[]
  | some Q=>match Q[i]? with
   | some m=>clW fs m Q (clV fs n i) i fs.length
   | none=>clV fs n i
def fdP (Q:List (List Nat)) (P0:List Int):List Int:=setP Q P0 Q.length
theorem setP_app {Q:List (List Nat)} {g:List Nat} {P:List Int}:∀ k,k≤Q.length→setP (Q ++ [g]) P k=setP Q P k
 | 0,_=>rfl
 | k+1,h=>by
  rw [setP,setP,setP_app k (by omega)]
  congr 2
  rw [List.getD_eq_getElem?_getD,List.getD_eq_getElem?_getD,List.getElem?_append_left (by omega)]
theorem fdP_push (Q:List (List Nat)) (g:List Nat) (P0:List Int):(fdP Q P0).set (numK g 5) ((Q.length:Int)+1)=fdP (Q ++ [g]) P0:=by
 unfold fdP
 rw [List.length_append,List.length_singleton,setP,setP_app _ (Nat.le_refl _)]
 congr 2
 rw [List.getD_eq_getElem?_getD,List.getElem?_append_right (Nat.le_refl _)]; simp
def P00:List Int:=List.replicate 3125 0
def wdS (S:List (List Nat)) (P:List Int) (W:List (List Int)) (y:Nat):List (List Int):=(S.take y).map fun f=>W.getD (P.getD (numK f 5) 0 - 1).toNat []
theorem wdS_succ {S:List (List Nat)} {P:List Int} {W:List (List Int)} {y:Nat} (h:y<S.length):wdS S P W (y+1)=wdS S P W y ++ [W.getD (P.getD (numK (S.getD y []) 5) 0 - 1).toNat []]:=by
 unfold wdS
 rw [List.take_succ_eq_append_getElem h,List.map_append]
 simp [List.getD_eq_getElem?_getD,h]
def monV (fs:List (List Nat)) (n:Nat) (Q:List (List Nat)):List PV:=moV (.list (aggs ((elS n Q).map mp))) (.list (rows (wdS (elS n Q) (fdP Q P00) (clV fs n Q.length) (elS n Q).length))) (setP (elS n Q) (fdP Q P00) (elS n Q).length)
end
end
section
section
attribute [local irreducible] ACall PCall KL
theorem p180P (l:List (List Int)) (h6:∀ m∈l,m.length=6) (h0:0<l.length) (hl:l.length≤4294967296):ACall Tryz.prog 180 [.list (aggs l)] [] (fun v s=>v = .ref 0 1 0 l.length∧s = [.arr 1 48 6 (aggs l)]):=by
 cases l with
 | nil=>simp at h0
 | cons x l =>
  refine e180 (by simp) fun _ _=>?_
  simp only [k180,argEnv,go_sem]
  have e:∀ K:Bool→Prop,aIsn (.list (aggs (x :: l))) K=K false:=fun _=>rfl
  rw [e]
  try simp only [go_sem]
  refine ⟨?_,by simp at hl; omega,Kv.Fin.now ⟨rfl,rfl⟩⟩
  rw [okL_aggs]
  exact h6
theorem WG.keepQ {σ σ':Heap} {A:Nat→Prop} {q ver:Nat} {ws:List PV} {L:List (List Int)} (h:WG σ A q ver ws L) (hk:∀ id,id < σ.length→(¬ A id∨id=q)→σ'[id]? = σ[id]?):WG σ' A q ver ws L :=
 ⟨(hk q (List.getElem?_eq_some_iff.1 h.out).1 (.inr rfl)).trans h.out,h.len,fun i w l hw hl=>(h.row i w l hw hl).keep fun id hid hA=>⟨hk id hid (.inl fun h=>hA (.inl h)),hA⟩⟩
theorem clB_ne {fs:List (List Nat)} {n:Nat}:∀ {i:Nat} {Q:List (List Nat)},clB fs n i=some Q→Q≠[]
 | 0,Q,h=>by
  have:[List.range n]=Q:=by simpa [clB] using h
  subst this; simp
 | i+1,Q,h=>by
  rw [clB] at h
  cases hc:clB fs n i with
  | none=>rw [hc] at h; cases h
  | some Q' =>
   have:=clB_ne hc
   rw [hc] at h
   simp only at h
   split at h
   ·obtain ⟨r,hr⟩:=clA_pre _ _ h
    rw [hr]; simp [this]
   ·cases h; exact this
theorem fd_nil {n N:Nat} {P:List Int} (hN:N=3125) (hP:P=List.replicate N 0):FdOk n P []:=by
 have hm:∀ x∈P,x=0:=fun x hx=>by rw [hP] at hx; exact List.eq_of_mem_replicate hx
 refine ⟨by rw [hP,List.length_replicate,hN],fun x hx=>by rw [hm x hx]; omega,fun f hf=>⟨fun j hj=>(by rw [List.getElem?_nil] at hj; cases hj),fun _=>?_⟩⟩
 rw [List.getD_eq_getElem?_getD]
 cases h:P[numK f 5]? with
 | none=>rfl
 | some x=>exact hm x (List.mem_of_getElem? h)
theorem fd_start {n:Nat} {P:List Int} (h1:1≤n) (h5:n≤5) (h:FdOk n P []):FdOk n (P.set (numK (List.range n) 5) 1) [List.range n]:=by
 have:=h.push (range_ok h1 h5) (fun h=>nomatch h) (by decide)
 exact this
set_option maxHeartbeats 4000000 in
theorem p129_in (fs:List (List Nat)) (n:Nat) (h1:1≤n) (h5:n≤5) (hf:∀ f∈fs,Ok f n) (hfl:fs.length≤1000) {K:PV→Heap→Prop}
  (hK1:∀ Q,clB fs n Q.length=some Q→(∀ f∈Q,Ok f n)→Q.length≤300→FdOk n (fdP Q P00) Q→K (.tup [.fptr (monV fs n Q) 0,.int .i64 0]) [])
  (hK2:∀ i,i≤301→clB fs n i=none→K (.tup [.nilptr,.int .i64 3]) []):ACall Tryz.prog 129 [.list (aggs (fs.map mp)),.int .i64 n] [] K:=by
 have h0k:=range_ok h1 h5
 have h06:=h0k.mp_len
 have hN0:=num_lt h0k
 refine e129 (by simp) fun _ _=>?_
 simp only [k129,argEnv,go_sem]
 generalize hP0:List.replicate 3125 (0:Int)=P0
 have hPl:P0.length=3125:=by rw [← hP0]; exact List.length_replicate
 have hFd:FdOk n P0 []:=fd_nil rfl hP0.symm
 have hP1:P0.set (numK (List.range n) 5) 1=fdP [List.range n] P00:=by rw [← hP0]; rfl
 clear hP0
 refine (p123 n h1 h5).go ?_
 try simp only [OpK_eq,HKv,h06,go_sem]
 refine (p179 _ n h0k).pgo ?_
 try simp only [OpK_eq,HKv,h06,hPl,go_sem]
 refine ⟨by omega,by omega,?_⟩
 refine KL_ind k129_b1.eq_1 (fun y:Nat × Nat × Nat × List PV × List (List Int) × List Int × List (List Nat) × Heap=>[(0,.list (aggs (fs.map mp))),(6,.ptr 0 0),(7,.ref 1 y.2.1 0 y.2.2.2.2.2.2.1.length),(8,.ref 2 y.2.2.1 0 y.2.2.2.2.1.length),(9,.int .i64 y.1)]) (fun y=>y.2.2.2.2.2.2.2)
  (fun ⟨i,u1,u2,ws,W,P,Q,σ⟩=>i≤Q.length∧clB fs n i=some Q∧(∀ f∈Q,Ok f n)∧Q.length≤300∧FdOk n P Q∧σ[0]? = some (.box (.nils :: .nils :: ints P))∧σ[1]? = some (.arr u1 48 6 (aggs (Q.map mp)))∧WG σ (fun id=>id=0∨id=1) 2 u2 ws W∧W.length=Q.length∧(∀ w∈W,w.length+1≤W.length)∧P=fdP Q P00∧W=clV fs n i) (fun y=>301 - y.1) [0,6,7,8,9]
  (0,0,0,[.nils],[[]],P0.set (numK (List.range n) 5) 1,[List.range n],_) (by simp [keep]) rfl ?_ fun ⟨i,u1,u2,ws,W,P,Q,σ⟩ ⟨j1,j2,j3,j4,j5,j6,j7,j8,j9,j10,j11,j12⟩ ih=>?_
 ·refine ⟨Nat.zero_le _,rfl,fun f hf'=>?_,by simp,fd_start h1 h5 hFd,rfl,rfl,⟨rfl,rfl,fun j w l hw hl=>?_⟩,rfl,fun w hw=>?_,hP1,rfl⟩
  ·simp only [List.mem_singleton] at hf'; rw [hf']; exact h0k
  ·have e1:=List.mem_of_getElem? hw
   have e2:=List.mem_of_getElem? hl
   simp only [List.mem_singleton] at e1 e2
   subst e1; subst e2
   exact .inl ⟨rfl,rfl⟩
  ·simp only [List.mem_singleton] at hw; subst hw; simp
 try simp only at j1 j2 j3 j4 j5 j6 j7 j8 j9 j10 j11 j12
 try simp only [OpK_eq,HKv,j7,aggs_length,List.length_map,go_sem]
 refine ⟨fun g1=>?_,fun g1=>?_⟩
 ·have hil:i<Q.length:=by omega
  have hm?:Q[i]? = some Q[i]:=List.getElem?_eq_getElem hil
  have hBs:clB fs n (i+1)=clA fs Q[i] Q fs.length:=by
   rw [clB,j2]
   simp only
   rw [hm?]
  have hVs:clV fs n (i+1)=clW fs Q[i] Q (clV fs n i) i fs.length:=by
   rw [clV,j2]
   simp only
   rw [hm?]
  have hmO:=j3 _ (List.getElem_mem hil)
  generalize hm:Q[i]=m at *
  refine KL_ind k129_b0.eq_1 (fun y:Nat × Nat × Nat × List PV × List (List Int) × List Int × List (List Nat) × Heap=>[(0,.list (aggs (fs.map mp))),(6,.ptr 0 0),(7,.ref 1 y.2.1 0 y.2.2.2.2.2.2.1.length),(8,.ref 2 y.2.2.1 0 y.2.2.2.2.1.length),(9,.int .i64 i),(37,.list (aggs (fs.map mp))),(38,.int .i64 fs.length),(39,.int .i64 y.1)]) (fun y=>y.2.2.2.2.2.2.2)
   (fun ⟨k,u1,u2,ws,W,P,R,τ⟩=>k≤fs.length∧clA fs m Q k=some R∧(∀ f∈R,Ok f n)∧R.length≤300∧FdOk n P R∧τ[0]? = some (.box (.nils :: .nils :: ints P))∧τ[1]? = some (.arr u1 48 6 (aggs (R.map mp)))∧WG τ (fun id=>id=0∨id=1) 2 u2 ws W∧W.length=R.length∧(∀ w∈W,w.length+1≤W.length)∧P=fdP R P00∧W=clW fs m Q (clV fs n i) i k) (fun y=>fs.length - y.1) [0,6,7,8,9,37,38,39]
   (0,u1,u2,ws,W,P,Q,σ) (by simp [keep]) rfl ⟨Nat.zero_le _,rfl,j3,j4,j5,j6,j7,j8,j9,j10,j11,j12⟩ fun ⟨k,t1,t2,ws2,W2,P2,R,τ⟩ ⟨l2,l3,l4,l5,l6,l7,l8,l9,l10,l11,l12,l13⟩ ihk=>?_
  try simp only at l2 l3 l4 l5 l6 l7 l8 l9 l10 l11 l12 l13
  obtain ⟨r,hr⟩:=clA_pre k R l3
  have hiR:i<R.length:=by rw [hr,List.length_append]; omega
  have hRi:(R.map mp).getD i []=mp m:=by
   rw [List.getD_eq_getElem?_getD,List.getElem?_map,hr,List.getElem?_append_left hil,hm?]; rfl
  have h6m:=hmO.mp_len
  try simp only [OpK_eq,HKv,l8,aggs_length,List.length_map,go_sem]
  refine ⟨fun g2=>?_,fun g2=>?_⟩
  ·have hkl:k<fs.length:=by omega
   have hfk:=hf _ (List.getElem_mem hkl)
   have h6k:=hfk.mp_len
   have hgk:(fs.map mp).getD k []=mp fs[k]:=by simp [List.getD_eq_getElem?_getD,hkl]
   have hgf:fs.getD k []=fs[k]:=by simp [List.getD_eq_getElem?_getD,hkl]
   have hτ1:=(List.getElem?_eq_some_iff.1 l8).1
   have hτ2:=(List.getElem?_eq_some_iff.1 l9.out).1
   have hx0:∀ X,(τ ++ X)[0]? = some (.box (.nils :: .nils :: ints P2)):=fun X=>(List.getElem?_append_left (by omega)).trans l7
   have hx1:∀ X,(τ ++ X)[1]? = some (.arr t1 48 6 (aggs (R.map mp))):=fun X=>(List.getElem?_append_left hτ1).trans l8
   have hgb:∀ (s:Heap) (a:AObj),(s ++ [a])[s.length]? = some a:=fun s a=>by simp
   have hsb:∀ (s:Heap) (a b:AObj),(s ++ [a]).set s.length b=s ++ [b]:=fun s a b=>by simp [List.set_append_right]
   try simp only [OpK_eq,HKv,l8,hx1,aggs_length,List.length_map,hRi,h6m,hgk,h6k,hgb,hsb,ints_length,hfl,go_sem]
   refine ⟨by omega,fun _=>⟨⟨by omega,Nat.le_refl _⟩,by omega,fun _=>?_⟩⟩
   refine (p124 m fs[k] n hmO hfk).pgo ?_
   have hgO:=hmO.mul hfk
   have hAs:clA fs m Q (k+1)=if mul m fs[k]∈R then some R else if R.length=300 then none else some (R ++ [mul m fs[k]]):=by
    rw [clA,l3]
    simp only
    rw [hgf]
   have hWs:clW fs m Q (clV fs n i) i (k+1)=if mul m fs[k]∈R then W2 else W2 ++ [W2.getD i [] ++ [(k:Int)]]:=by
    rw [clW,l3]
    simp only
    rw [hgf,← l13]
   generalize hg':mul m fs[k]=g at *
   have h6g:=hgO.mp_len
   have hgN:=num_lt hgO
   have hPl2:=l6.1
   have hilg:(ints (mp g)).length=6:=by rw [ints_length,h6g]
   have hτ0:0 < τ.length:=by omega
   generalize hτk:τ ++ [AObj.box (ints (mp fs[k]))] = ρ at *
   have hρ:ρ.length = τ.length+1:=by rw [← hτk,List.length_append]; rfl
   have hρk:∀ id,id < τ.length→ρ[id]? = τ[id]?:=fun id hid=>by rw [← hτk]; exact List.getElem?_append_left hid
   try simp only [OpK_eq,HKv,hgb,hsb,hilg,h6g,go_sem]
   refine (p179 g n hgO).pgo ?_
   have hy0:∀ X,(ρ ++ X)[0]? = some (.box (.nils :: .nils :: ints P2)):=fun X=>(List.getElem?_append_left (by omega)).trans ((hρk 0 (by omega)).trans l7)
   try simp only [OpK_eq,HKv,hgb,hsb,hilg,h6g,hy0,hPl2,ints_length,go_sem]
   have hWρ:∀ X,WG (ρ ++ X) (fun id=>id=0∨id=1) 2 t2 ws2 W2:=fun X=>l9.keep (fun id hid _=>(List.getElem?_append_left (by omega)).trans (hρk id hid)) (by simp)
   have hy1:∀ X,(ρ ++ X)[1]? = some (.arr t1 48 6 (aggs (R.map mp))):=fun X=>(List.getElem?_append_left (by omega)).trans ((hρk 1 (by omega)).trans l8)
   refine ⟨by omega,by omega,fun _=>⟨fun p1=>?_,fun p1=>?_⟩⟩
   ·have hin:=(l6.pos hgO).1 p1
    rw [if_pos hin] at hAs hWs
    exact ⟨by omega,ihk (k+1,t1,t2,ws2,W2,P2,R,_) ⟨by omega,hAs,l4,l5,l6,hy0 _,hy1 _,hWρ _,l10,l11,l12,hWs.symm⟩ (by show fs.length - (k+1)<fs.length - k; omega) _ _ (by simp [keep]) rfl⟩
   ·have hin:g ∉ R:=fun h=>p1 ((l6.pos hgO).2 h)
    rw [if_neg hin] at hAs hWs
    try simp only [OpK_eq,HKv,hy1,aggs_length,List.length_map,go_sem]
    refine ⟨fun h300=>Kv.Fin.still (hK2 (i+1) (by omega) ?_),fun h300=>?_⟩
    ·rw [hBs]
     have hN:clA fs m Q (k+1)=none:=by rw [hAs,if_pos (by omega)]
     have:=clA_none hN (fs.length - (k+1))
     rwa [show k+1+(fs.length - (k+1))=fs.length by omega] at this
    rw [if_neg (by omega)] at hAs
    have hbb:(ρ ++ [AObj.box (ints (mp g))])[ρ.length]? = some (.box (ints (mp g))):=hgb _ _
    refine nm_tree (bb:=ρ.length) (v0:=.list (aggs (fs.map mp))) (v6:=.ptr 0 0) (v37:=.list (aggs (fs.map mp))) (v38:=.int .i64 fs.length) (v39:=.int .i64 k) (hy1 _) (hWρ _) l10 hbb (by omega) h6g (by omega) hiR (by omega) l11 rfl rfl rfl rfl rfl rfl rfl rfl rfl rfl fun env' ρ' w' q1 q2 q3 q4=>?_
    simp only [keep,List.map_cons,List.map_nil,List.cons.injEq,Prod.mk.injEq,true_and,and_true] at q1
    obtain ⟨a0,a6,a7,a8,a9,a12,a37,a38,a39⟩:=q1
    have r0:ρ'[0]? = some (.box (.nils :: .nils :: ints P2)):=(q4 0 (by simp) (by decide) (by decide)).trans (hy0 _)
    have rb:ρ'[ρ.length]? = some (.box (ints (mp g))):=(q4 ρ.length (by simp) (by omega) (by omega)).trans hbb
    try simp only [OpK_eq,HKv,a0,a6,a7,a8,a9,a12,a37,a38,a39,q2,rb,hilg,h6g,aggs_length,List.length_map,go_sem]
    refine (p179 g n hgO).pgo ?_
    try simp only [OpK_eq,HKv,a0,a6,a7,a8,a9,a12,a37,a38,a39,r0,hPl2,ints_length,go_sem]
    have hFn:=l6.push hgO hin (by omega)
    have hc:((R.length+1:Nat):Int)=(R.length:Int)+1:=by omega
    rw [hc]
    have hρ'0:0 < ρ'.length:=(List.getElem?_eq_some_iff.1 r0).1
    have hWgd:(W2.getD i []).length+1≤W2.length:=by
     rw [List.getD_eq_getElem?_getD,List.getElem?_eq_getElem (by omega)]; exact l11 _ (List.getElem_mem _)
    refine ⟨by omega,by omega,by omega,ihk (k+1,t1+1,t2+1,ws2 ++ [w'],W2 ++ [W2.getD i [] ++ [(k:Int)]],_,R ++ [g],_) ⟨by omega,hAs,fun f hf'=>?_,by simp; omega,hFn,List.getElem?_set_self hρ'0,(List.getElem?_set_ne (by decide)).trans q2,q3.keep (fun id hid hA=>List.getElem?_set_ne fun e=>hA (.inl e.symm)) (by simp),by simp [l10],fun x hx=>?_,by rw [l12]; exact fdP_push R g P00,hWs.symm⟩ (by show fs.length - (k+1)<fs.length - k; omega) _ _ (by simp [keep,a0,a6,a7,a8,a9,a37,a38,a39]) rfl⟩
    ·rcases List.mem_append.1 hf' with hf' | hf'
     ·exact l4 f hf'
     ·simp only [List.mem_singleton] at hf'; rw [hf']; exact hgO
    ·rw [List.length_append,List.length_singleton]
     rcases List.mem_append.1 hx with hx | hx
     ·have:=l11 x hx; omega
     ·simp only [List.mem_singleton] at hx
      rw [hx,List.length_append,List.length_singleton]; omega
  ·have hke:k=fs.length:=by omega
   subst hke
   try simp only [go_sem]
   exact ⟨by omega,ih (i+1,t1,t2,ws2,W2,P2,R,τ) ⟨by show i+1≤R.length; omega,by rw [hBs]; exact l3,l4,l5,l6,l7,l8,l9,l10,l11,l12,by rw [hVs]; exact l13⟩ (by show 301 - (i+1)<301 - i; omega) _ _ (by simp [keep]) rfl⟩
 ·obtain rfl:i=Q.length:=by omega
  clear ih
  have hd:=j5.nodup j3
  subst j11; subst j12
  generalize hP:fdP Q P00=P at *
  generalize hW:clV fs n Q.length=W at *
  have hQl:(Q.map mp).length=Q.length:=List.length_map _
  have hσ1:=(List.getElem?_eq_some_iff.1 j7).1
  have hσ2:=(List.getElem?_eq_some_iff.1 j8.out).1
  have hQ0:0<Q.length:=by
   cases Q with
   | nil=>have:=clB_ne j2; exact absurd rfl this
   | cons a l=>simp
  have hcl:=p180P (Q.map mp) (fun x hx=>by obtain ⟨f,hf',rfl⟩:=List.mem_map.1 hx; exact (j3 f hf').mp_len) (by omega) (by omega)
  refine ACall.lend hcl (.cons (Imm.refa' j7 hQl.symm) (.nil _)) fun v s hv=>?_
  obtain ⟨rfl,rfl⟩:=hv
  refine ⟨⟨free_ref _ _ _ _,Free.aggs _ _ _ _⟩,?_⟩
  have k0:(σ ++ [AObj.arr 1 48 6 (aggs (Q.map mp))])[0]? = some (.box (.nils :: .nils :: ints P)):=(List.getElem?_append_left (by omega)).trans j6
  try simp only [OpK_eq,HKv,ren_ref,ren_arr,ren_aggs,Nat.zero_add,k0,hQl,sh_def,go_sem]
  obtain ⟨τ,hτ⟩:∃ τ,τ = List.set (σ ++ [AObj.arr 1 48 6 (aggs (Q.map mp))]) 0 (AObj.box (.ref σ.length 1 0 Q.length :: .nils :: ints P)):=⟨_,rfl⟩
  have hτl:τ.length = σ.length+1:=by rw [hτ,List.length_set,List.length_append]; rfl
  have m0:τ[0]? = some (.box (.ref σ.length 1 0 Q.length :: .nils :: ints P)):=by rw [hτ]; exact List.getElem?_set_self (by simp)
  have mE:τ[σ.length]? = some (.arr 1 48 6 (aggs (Q.map mp))):=by rw [hτ,List.getElem?_set_ne (by omega)]; simp
  have mk:∀ id,id < σ.length→id≠0→τ[id]? = σ[id]?:=fun id h1 h2=>by rw [hτ,List.getElem?_set_ne (Ne.symm h2),List.getElem?_append_left h1]
  rw [← hτ]
  clear hτ
  try simp only [OpK_eq,HKv,m0,go_sem]
  have hsm:=fun (K':PV→Heap→Prop)=>sort_maps (K:=K') (σ:=τ) (ms:=Q.map mp) (e:=48) (ver:=1) (id:=σ.length) (fun x hx=>by obtain ⟨f,hf',rfl⟩:=List.mem_map.1 hx; exact (j3 f hf').mp_len) (by omega) (by omega) mE
  rw [hQl] at hsm
  refine ⟨by omega,hsm _ fun r hr hs=>?_⟩
  obtain rfl:=sorted_elS j3 hd hr hs
  obtain ⟨s1,s2,s3⟩:=elS_ok j3
  have hSl:(elS n Q).length=Q.length:=by
   have:=hr.length_eq
   rw [List.length_map,List.length_map] at this; exact this
  generalize hSE:elS n Q=S at *
  obtain ⟨ρ,hρ⟩:∃ ρ,ρ = τ.set σ.length (.arr 1 48 6 (aggs (S.map mp))):=⟨_,rfl⟩
  have hρl:ρ.length = σ.length+1:=by rw [hρ,List.length_set,hτl]
  have n0:ρ[0]? = some (.box (.ref σ.length 1 0 Q.length :: .nils :: ints P)):=by rw [hρ,List.getElem?_set_ne (by omega)]; exact m0
  have nE:ρ[σ.length]? = some (.arr 1 48 6 (aggs (S.map mp))):=by rw [hρ]; exact List.getElem?_set_self (by omega)
  have nk:∀ id,id < σ.length→id≠0→ρ[id]? = σ[id]?:=fun id h1 h2=>by rw [hρ,List.getElem?_set_ne (by omega)]; exact mk id h1 h2
  rw [← hρ]
  clear hρ
  have nW:WG ρ (fun id=>id=0∨id=1∨σ.length≤id) 2 u2 ws W:=⟨(nk 2 hσ2 (by decide)).trans j8.out,j8.len,fun a w l hw hl=>(j8.row a w l hw hl).keep fun id hid hA=>⟨nk id hid fun e=>hA (.inl (.inl e)),fun h=>by
   rcases h with (h | h | h) | h
   ·exact hA (.inl (.inl h))
   ·exact hA (.inl (.inr h))
   ·omega
   ·exact hA (.inr h)⟩⟩
  have hPl:P.length=3125:=j5.1
  have hSm:∀ f∈S,f∈Q:=fun f hf=>(s2 f).1 hf
  try simp only [OpK_eq,HKv,n0,nE,aggs_length,List.length_map,go_sem]
  refine ⟨by omega,?_⟩
  refine KL_ind k129_b2.eq_1 (fun y:Nat × PV × Heap=>[(6,.ptr 0 0),(8,.ref 2 u2 0 W.length),(98,.ref σ.length 1 0 Q.length),(99,.int .i64 Q.length),(100,.int .i64 y.1)]) (fun y=>y.2.2)
   (fun ⟨y,wv,ω⟩=>y≤S.length∧σ.length < ω.length∧ω[0]? = some (.box (.ref σ.length 1 0 Q.length :: wv :: ints P))∧ω[σ.length]? = some (.arr 1 48 6 (aggs (S.map mp)))∧WG ω (fun id=>id=0∨id=1∨σ.length≤id) 2 u2 ws W∧(y=0∧wv = .nils∨∃ q v ws',wv = .ref q v 0 y∧σ.length<q∧WG ω (fun id=>id=0∨id=1∨id=2∨σ.length≤id) q v ws' (wdS S P W y))) (fun y=>S.length - y.1) [6,8,98,99,100]
   (0,.nils,ρ) (by simp [keep]) rfl ⟨Nat.zero_le _,by omega,n0,nE,nW,.inl ⟨rfl,rfl⟩⟩ fun ⟨y,wv,ω⟩ ⟨o1,o2,o3,o4,o5,o6⟩ ihy=>?_
  ·try simp only at o1 o2 o3 o4 o5 o6
   try simp only [OpK_eq,HKv,o3,o4,aggs_length,List.length_map,hSl,go_sem]
   refine ⟨fun g3=>?_,fun g3=>?_⟩
   ·have hyl:y<S.length:=by omega
    have hgy:(S.map mp).getD y []=mp S[y]:=by simp [List.getD_eq_getElem?_getD,hyl]
    have hgs:S.getD y []=S[y]:=by simp [List.getD_eq_getElem?_getD,hyl]
    have hfO:=s1.1 _ (List.getElem_mem hyl)
    have hfQ:=hSm _ (List.getElem_mem hyl)
    have h6y:=hfO.mp_len
    have hwd:=wdS_succ (P:=P) (W:=W) hyl
    rw [hgs] at hwd
    generalize S[y]=f at *
    have hN:=num_lt hfO
    obtain ⟨jj,hjj,hje⟩:=List.getElem_of_mem hfQ
    have hpl:=(j5.2.2 f hfO).1 jj (by rw [List.getElem?_eq_getElem hjj,hje])
    have hgb:∀ (s:Heap) (a:AObj),(s ++ [a])[s.length]? = some a:=fun s a=>by simp
    have hsb:∀ (s:Heap) (a b:AObj),(s ++ [a]).set s.length b=s ++ [b]:=fun s a b=>by simp [List.set_append_right]
    have hilg:(ints (mp f)).length=6:=by rw [ints_length,h6y]
    have hz0:∀ X,(ω ++ X)[0]? = some (.box (.ref σ.length 1 0 Q.length :: wv :: ints P)):=fun X=>(List.getElem?_append_left (by omega)).trans o3
    have hz2:∀ X,(ω ++ X)[2]? = some (.arr u2 25 1 ws):=fun X=>(List.getElem?_append_left (by omega)).trans o5.out
    try simp only [OpK_eq,HKv,o4,aggs_length,List.length_map,hSl,hgy,h6y,hgb,hsb,hilg,hz0,hz2,go_sem]
    refine ⟨⟨by omega,Nat.le_refl _⟩,by omega,fun _=>⟨by omega,?_⟩⟩
    refine (p179 f n hfO).pgo ?_
    try simp only [OpK_eq,HKv,o4,aggs_length,List.length_map,hSl,hgy,h6y,hgb,hsb,hilg,hz0,hz2,hPl,ints_length,hpl,go_sem]
    have hjt:((jj:Int)+1 - 1).toNat=jj:=by omega
    rw [hjt]
    have hwl:=o5.len
    have hjW:jj<W.length:=by omega
    obtain ⟨w,hw,hWd⟩:=o5.cell (i:=jj) hjW
    have hwc:=hWd.cs
    have hWj:W.getD ((jj:Int)+1 - 1).toNat []=W[jj]:=by rw [hjt,List.getD_eq_getElem?_getD,List.getElem?_eq_getElem hjW]; rfl
    rw [hpl,hWj] at hwd
    generalize W[jj]=wj at hWd hwd
    refine ⟨by omega,by omega,fun _=>⟨⟨by omega,by omega⟩,⟨by omega,by omega,by omega⟩,by omega,fun x hx=>?_⟩⟩
    rw [hw] at hx; cases hx
    rw [hwc.1]
    refine ⟨by simp,fun c hc=>?_⟩
    simp only [List.getElem?_cons_zero,Option.some.injEq] at hc; subst hc
    refine ⟨by rw [hwc.1]; simp [hwc.2],?_⟩
    have hz2W:∀ X,WG (ω ++ X) (fun id=>id=0∨id=1∨σ.length≤id) 2 u2 ws W:=fun X=>o5.keepQ fun id hid _=>List.getElem?_append_left hid
    have hzE:∀ X,(ω ++ X)[σ.length]? = some (.arr 1 48 6 (aggs (S.map mp))):=fun X=>(List.getElem?_append_left o2).trans o4
    have hWdB:∀ X (B:Nat→Prop),(∀ id,id < σ.length→id≠0→id≠1→id≠2→¬ B id)→Wd (ω ++ X) B w wj:=fun X B hB=>hWd.keep fun id hid hA=>⟨List.getElem?_append_left hid,hB id (Nat.lt_of_not_le fun h=>hA (.inl (.inr (.inr h)))) (fun h=>hA (.inl (.inl h))) (fun h=>hA (.inl (.inr (.inl h)))) (fun h=>hA (.inr h))⟩
    have hap:∀ (b:AObj) (K':PV→Heap→Prop),(∀ wv' χ,σ.length < χ.length→χ[0]? = some (.box (.ref σ.length 1 0 Q.length :: wv :: ints P))→χ[σ.length]? = some (.arr 1 48 6 (aggs (S.map mp)))→WG χ (fun id=>id=0∨id=1∨σ.length≤id) 2 u2 ws W→(∃ q v ws',wv' = .ref q v 0 (y+1)∧σ.length<q∧WG χ (fun id=>id=0∨id=1∨id=2∨σ.length≤id) q v ws' (wdS S P W (y+1)))→K' wv' χ)→aApp 25 1 wv (.list [w]) (ω ++ [b]) K':=fun b K' hK'=>by
     rcases o6 with ⟨rfl,rfl⟩ | ⟨q,v,ws',rfl,hq,hG⟩
     ·have hok:okL 1 [w]=True:=by simp [okL,hwc.1,hwc.2]
      simp only [aApp_nils,aNews_list,hok,true_and,AppN_def]
      have h0:∀ id,id < ω.length→(ω ++ [b] ++ [AObj.arr 0 25 1 [w]])[id]? = ω[id]?:=fun id hid=>by rw [List.append_assoc]; exact List.getElem?_append_left hid
      refine ⟨by simp,hK' _ _ (by simp; omega) ((h0 0 (by omega)).trans o3) ((h0 _ o2).trans o4) (by rw [List.append_assoc]; exact hz2W _) ⟨_,0,[w],rfl,by simp; omega,?_⟩⟩
      rw [hwd,show wdS S P W 0 = [] by rfl,List.nil_append]
      refine ⟨by simp,rfl,fun a w' l' hw' hl'=>?_⟩
      have e1:=List.mem_of_getElem? hw'
      have e2:=List.mem_of_getElem? hl'
      simp only [List.mem_singleton] at e1 e2
      subst e1; subst e2
      rw [List.append_assoc]
      exact hWdB _ _ fun id h1 h2 h3 h4 h=>by
       simp only [List.length_append] at h
       omega
     ·have hwl':(wdS S P W y).length=y:=by simp [wdS]; omega
      have hG':WG (ω ++ [b]) (fun id=>id=0∨id=1∨id=2∨σ.length≤id) q v ws' (wdS S P W y):=hG.keepQ fun id hid _=>List.getElem?_append_left hid
      have hpu:=hG'.push (l:=wj) (w:=w) (hWdB _ _ fun id h1 h2 h3 h4 h=>by omega) (by omega) (K:=K') fun hn=>hK' _ _ (by simp; omega) ((List.getElem?_set_ne (by omega)).trans (hz0 _)) ((List.getElem?_set_ne (by omega)).trans (hzE _)) ((hz2W [b]).keepQ fun id hid h=>List.getElem?_set_ne fun e=>by rcases h with h | h <;> omega) ⟨q,v+1,_,by rw [hwl'],hq,by rw [hwd]; exact hn⟩
      rwa [hwl'] at hpu
    refine hap _ _ fun wv' χ x1 x2 x3 x4 x5=>?_
    try simp only [OpK_eq,HKv,x2,hPl,ints_length,go_sem]
    obtain ⟨q,v,ws',rfl,hq,hG⟩:=x5
    refine ⟨⟨rfl,rfl⟩,by omega,ihy (y+1,.ref q v 0 (y+1),_) ⟨by omega,by rw [List.length_set]; exact x1,List.getElem?_set_self (by omega),(List.getElem?_set_ne (by omega)).trans x3,x4.keepQ fun id hid h=>List.getElem?_set_ne fun e=>?_,.inr ⟨q,v,ws',rfl,hq,hG.keepQ fun id hid h=>List.getElem?_set_ne fun e=>?_⟩⟩ (by show S.length - (y+1)<S.length - y; omega) _ _ (by simp [keep]) rfl⟩
    ·rcases h with h | h
     ·exact h (.inl e.symm)
     ·omega
    ·rcases h with h | h
     ·exact h (.inl e.symm)
     ·omega
   ·have hyS:y=S.length:=by omega
    subst hyS
    rcases o6 with ⟨e0,_⟩ | ⟨q,v,ws',rfl,hq,hG⟩
    ·omega
    refine ⟨by omega,?_⟩
    have hl0:(setP S P 0)=P:=rfl
    refine KL_ind k129_b3.eq_1 (fun y:Nat × Heap=>[(6,.ptr 0 0),(128,.ref σ.length 1 0 Q.length),(129,.int .i64 Q.length),(130,.int .i64 y.1)]) (fun y=>y.2)
     (fun ⟨y,ξ⟩=>y≤S.length∧σ.length < ξ.length∧ξ[0]? = some (.box (.ref σ.length 1 0 Q.length :: .ref q v 0 S.length :: ints (setP S P y)))∧ξ[σ.length]? = some (.arr 1 48 6 (aggs (S.map mp)))∧WG ξ (fun id=>id=0∨id=1∨id=2∨σ.length≤id) q v ws' (wdS S P W S.length)) (fun y=>S.length - y.1) [6,128,129,130]
     (0,ω) (by simp [keep]) rfl ⟨Nat.zero_le _,o2,o3,o4,hG⟩ fun ⟨y,ξ⟩ ⟨z1,z2,z3,z4,z5⟩ ihz=>?_
    try simp only at z1 z2 z3 z4 z5
    obtain ⟨hsl,_⟩:=setP_spec s1 hPl y z1
    try simp only [OpK_eq,HKv,z3,z4,aggs_length,List.length_map,hSl,go_sem]
    refine ⟨fun g4=>?_,fun g4=>?_⟩
    ·have hyl:y<S.length:=by omega
     have hgy:(S.map mp).getD y []=mp S[y]:=by simp [List.getD_eq_getElem?_getD,hyl]
     have hgs:S.getD y []=S[y]:=by simp [List.getD_eq_getElem?_getD,hyl]
     have hfO:=s1.1 _ (List.getElem_mem hyl)
     have h6y:=hfO.mp_len
     have hsp:setP S P (y+1)=(setP S P y).set (numK S[y] 5) ((y:Int)+1):=by rw [setP,hgs]
     generalize S[y]=f at *
     have hN:=num_lt hfO
     have hgb:∀ (s:Heap) (a:AObj),(s ++ [a])[s.length]? = some a:=fun s a=>by simp
     have hsb:∀ (s:Heap) (a b:AObj),(s ++ [a]).set s.length b=s ++ [b]:=fun s a b=>by simp [List.set_append_right]
     have hilg:(ints (mp f)).length=6:=by rw [ints_length,h6y]
     have hz0:∀ X,(ξ ++ X)[0]? = some (.box (.ref σ.length 1 0 Q.length :: .ref q v 0 S.length :: ints (setP S P y))):=fun X=>(List.getElem?_append_left (by omega)).trans z3
     try simp only [OpK_eq,HKv,z4,aggs_length,List.length_map,hSl,hgy,h6y,hgb,hsb,hilg,hz0,go_sem]
     refine ⟨⟨by omega,Nat.le_refl _⟩,by omega,fun _=>⟨by omega,?_⟩⟩
     refine (p179 f n hfO).pgo ?_
     try simp only [OpK_eq,HKv,hgb,hsb,hilg,hz0,hsl,ints_length,go_sem]
     refine ⟨by omega,by omega,by omega,ihz (y+1,_) ⟨by omega,by simp; omega,by rw [hsp]; exact List.getElem?_set_self (by simp),(List.getElem?_set_ne (by omega)).trans ((List.getElem?_append_left z2).trans z4),(z5.keepQ fun id hid _=>List.getElem?_append_left hid:WG (ξ ++ [AObj.box (ints (mp f))]) _ _ _ _ _).keepQ fun id hid h=>List.getElem?_set_ne fun e=>?_⟩ (by show S.length - (y+1)<S.length - y; omega) _ _ (by simp [keep]) rfl⟩
     rcases h with h | h
     ·exact h (.inl e.symm)
     ·omega
    ·obtain rfl:y=S.length:=by omega
     have hwl':(wdS S P W S.length).length=S.length:=by simp [wdS]
     have hsl':(S.map mp).length=S.length:=List.length_map _
     have hK:=hK1 Q j2 j3 j4 (by rw [hP]; exact j5)
     unfold monV moV at hK
     rw [hSE,hP,hW] at hK
     refine Kv.Fin.freeze (Imm.tupL (.cons (.ptr 0 0 _ _ z3 (by simp only [List.length_cons]) ?_ fun a c d hc hd=>?_) (.cons Imm.still (.nil _)))) hK
     ·simp [ints,PV.ok]
     ·match a,hc,hd with
      | 0,hc,hd =>
       simp only [List.getElem?_cons_zero,Option.some.injEq] at hc hd
       subst hc; subst hd
       exact Imm.refa' z4 (by omega)
      | 1,hc,hd =>
       simp only [List.getElem?_cons_succ,List.getElem?_cons_zero,Option.some.injEq] at hc hd
       subst hc; subst hd
       exact z5.immN hwl'.symm
      | a+2,hc,hd =>
       simp only [List.getElem?_cons_succ] at hc hd
       rw [hc] at hd; cases hd
       obtain ⟨x,_,rfl⟩:=ints_get hc
       exact Imm.still
theorem p129 (fs:List (List Nat)) (n:Nat) (h1:1≤n) (h5:n≤5) (hf:∀ f∈fs,Ok f n) (hfl:fs.length≤1000) :
  Pure Tryz.prog 129 [.list (aggs (fs.map mp)),.int .i64 n] (match clR fs n with | none=>.tup [.nilptr,.int .i64 3] | some Q=>.tup [.fptr (monV fs n Q) 0,.int .i64 0]):=by
 refine p129_in fs n h1 h5 hf hfl (fun Q c1 c2 c3 c4=>?_) (fun i c0 c1=>?_)
 ·have hR:clR fs n=some Q:=by
   have:=clB_stop c1 (Nat.le_refl _) (301 - Q.length)
   rwa [show Q.length+(301 - Q.length)=301 by omega] at this
  rw [hR]
  exact ⟨rfl,rfl⟩
 ·have hR:clR fs n=none:=by
   have:=clB_none c1 (301 - i)
   rwa [show i+(301 - i)=301 by omega] at this
  rw [hR]
  exact ⟨rfl,rfl⟩
end
end
section
section
attribute [local irreducible] ACall PCall KL
theorem clA_nd {fs:List (List Nat)} {m:List Nat} {Q:List (List Nat)} (hQ:Q.Nodup):∀ k R,clA fs m Q k=some R→R.Nodup
 | 0,R,h=>by
  have:Q=R:=by simpa [clA] using h
  rw [← this]; exact hQ
 | k+1,R,h=>by
  unfold clA at h
  cases hc:clA fs m Q k with
  | none=>rw [hc] at h; cases h
  | some R' =>
   have hr:=clA_nd hQ k R' hc
   rw [hc] at h
   simp only at h
   split at h
   ·cases h; exact hr
   ·rename_i hn
    split at h
    ·cases h
    ·cases h
     rw [List.nodup_append]
     exact ⟨hr,by simp,fun a ha b hb e=>by simp only [List.mem_singleton] at hb; subst hb; subst e; exact hn ha⟩
theorem clB_nd {fs:List (List Nat)} {n:Nat}:∀ i Q,clB fs n i=some Q→Q.Nodup
 | 0,Q,h=>by
  have:[List.range n]=Q:=by simpa [clB] using h
  rw [← this]; simp
 | i+1,Q,h=>by
  rw [clB] at h
  cases hc:clB fs n i with
  | none=>rw [hc] at h; cases h
  | some Q' =>
   have hr:=clB_nd i Q' hc
   rw [hc] at h
   simp only at h
   split at h
   ·exact clA_nd hr _ _ h
   ·cases h; exact hr
theorem fd_of {n:Nat}:∀ (k:Nat) (Q:List (List Nat)),Q.length=k→k≤300→Q.Nodup→(∀ f∈Q,Ok f n)→FdOk n (fdP Q P00) Q
 | 0,Q,hk,_,_,_=>by
  obtain rfl:=List.eq_nil_of_length_eq_zero hk
  exact fd_nil (N:=3125) rfl (show P00=List.replicate 3125 0 by unfold P00; rfl)
 | k+1,Q,hk,h3,hd,hO=>by
  have hne:Q≠[]:=fun e=>by rw [e] at hk; simp at hk
  have e:=List.dropLast_concat_getLast hne
  generalize Q.dropLast=R at e
  generalize Q.getLast hne=g at e
  subst e
  rw [List.nodup_append] at hd
  have hR:R.length=k:=by simpa using hk
  have:=fd_of k R hR (by omega) hd.1 fun f hf=>hO f (by simp [hf])
  rw [← fdP_push]
  exact this.push (hO g (by simp)) (fun h=>hd.2.2 g h g (by simp) rfl) (by omega)
theorem monOk (fs:List (List Nat)) (n:Nat) (h1:1≤n) (h5:n≤5) (hf:∀ f∈fs,Ok f n) (hfl:fs.length≤1000):MonOk fs n:=by
 have hM:=p129 fs n h1 h5 hf hfl
 unfold MonOk
 cases hR:clR fs n with
 | none=>rw [hR] at hM; exact hM
 | some Q =>
  rw [hR] at hM
  obtain ⟨c3,c4⟩:=clB_okQ h1 h5 hf _ _ hR
  obtain ⟨s1,s2,s3⟩:=elS_ok c3
  have hF:=fd_of Q.length Q rfl (by omega) (clB_nd _ _ hR) c3
  exact ⟨_,_,inferInstance,setP_ok s1 (by omega) hF.1 hF.2.1 fun f h4 h5=>(hF.2.2 f h4).2 fun h=>h5 ((s2 f).2 h),hM⟩
theorem clR_okQ {fs:List (List Nat)} {n:Nat} (h1:1≤n) (h5:n≤5) (hf:∀ f∈fs,Ok f n) {Q:List (List Nat)} (hR:clR fs n=some Q):(∀ f∈Q,Ok f n)∧Q.length≤300:=clB_okQ h1 h5 hf _ _ hR
attribute [local irreducible] clR
end
end
section
section
set_option maxRecDepth 100000
def k64_b0:KC:=(.seq (.seq (.ops [mV 19 6,mV 20 4,oP 21 (.len false (.t 20)),oP 22 (.bin .lss (.t 19) (.t 21))])
 (.cond (.t 22) .skip (.exit 2)))
 (.seq (.block 3 (.seq (.draw [mV 25 4,mV 26 6,oP 27 (.idxS 6 (.t 25) (.t 26)),oP 28 (.load true 6 (.t 27)),oP 29 (.load true 6 (.t 5)),oP 30 (.aeq false 6 (.t 28) (.t 29))])
 (.cond (.t 30) (.seq (.ops [mV 31 6,mV 32 4,oP 33 (.len false (.t 32)),mV 34 6,oP 35 (.bin .sub (.t 33) (.t 34)),mV 2 31,mV 3 35])
 .ret) .skip)))
 (.ops [mV 23 6,oP 24 (.bin .add (.t 23) (iC 1)),mV 6 24])))
def k64_b1:KC:=(.block 1 (.seq (.draw [mV 11 4,mV 12 4,oP 13 (.len false (.t 12)),oP 14 (.bin .sub (.t 13) (iC 1)),oP 15 (.idxS 6 (.t 11) (.t 14)),oP 16 (.load true 6 (.t 15)),oP 17 (.load true 6 (.t 1)),oP 18 (.pcall (fC 137) [(.t 16),(.t 17)]),oP 5 (.alloc [.int .i64 0,.int .i64 0,.int .i64 0,.int .i64 0,.int .i64 0,.int .i64 0]),⟨none,none,.store 6 (.t 5) (.t 18)⟩])
 (.seq (.seq (.ops [oP 6 (.mv (iC 0))])
 (.block 2 (.loop k64_b0)))
 (.ops [mV 36 4,oP 37 (.load true 6 (.t 5)),oP 38 (.bsl true 48 6 [(.t 37)]),oP 39 (.app (.t 36) (.t 38) 48 6),mV 4 39]))))
def k64:KC:=(.seq (.ops [oP 1 (.box true (.t 0)),oP 2 (.mv (iC 0)),oP 3 (.mv (iC 0))])
 (.seq (.ops [oP 7 (.fieldA 0 (.t 1)),oP 8 (.load false 1 (.t 7)),oP 9 (.call (fC 136) [(.t 8)]),oP 10 (.bsl false 48 6 [(.t 9)]),mV 4 10])
 (.block 0 (.loop k64_b1))))
theorem e64:Ent 64 40 [1,38] [.t 2,.t 3] k64:=ent Tryz.func64
def k59_b0:KC:=(.seq (.ops [oP 12 (.bin .lss (.t 11) (.t 10))])
 (.seq (.cond (.t 12) .skip (.exit 0))
 (.seq (.block 1 (.seq (.ops [mV 13 11,mV 5 13])
 (.seq (.ops [mV 14 1,mV 15 5,oP 16 (.call (.t 14) [(.t 15)]),oP 17 (.not (.t 16))])
 (.cond (.t 17) (.seq (.ops [oP 4 (.mv (.c (.bool false)))])
 .ret) .skip))))
 (.ops [oP 18 (.bin .add (.t 11) (iC 1)),mV 11 18]))))
def k59:KC:=(.seq (.ops [oP 4 (.mv (.c (.bool false)))])
 (.seq (.seq (.ops [mV 6 0,oP 7 (.nilck (.t 6)),oP 8 (.fieldA 0 (.t 7)),oP 9 (.load false 1 (.t 8)),oP 10 (.len false (.t 9)),oP 11 (.mv (iC 0))])
 (.block 0 (.loop k59_b0)))
 (.seq (.ops [oP 4 (.mv (.c (.bool true)))])
 .ret)))
theorem e59:Ent 59 19 [] [.t 4] k59:=ent Tryz.func59
def k60:KC:=(.seq (.ops [oP 3 (.mv (.c (.bool false)))])
 (.seq (.ops [oP 7 (.load false 1 (.t 1)),oP 8 (.nilck (.t 7)),oP 9 (.fieldA 0 (.t 8)),oP 10 (.load false 1 (.t 9)),mV 11 0,oP 12 (.idxS 6 (.t 10) (.t 11)),oP 13 (.load true 6 (.t 12)),oP 14 (.call (fC 61) [(.t 13)]),mV 6 14,oP 15 (.extr 0 (.t 6)),oP 16 (.extr 1 (.t 6)),mV 4 15,mV 5 16])
 (.seq (.ops [mV 17 5,oP 18 (.bin .eql (.t 17) (iC 1)),mV 3 18])
 .ret)))
theorem e60:Ent 60 19 [] [.t 3] k60:=ent Tryz.func60
end
section
attribute [local irreducible] ACall PCall KL
theorem Rnd.uniq {f:List Nat} {n a L b M:Nat} (h:Rnd f n a L) (h':Rnd f n b M):a=b∧L=M:=by
 have hLM:L=M:=by
  rcases Nat.lt_trichotomy L M with hlt | e | hlt
  ·exact absurd h.eq.symm (h'.nd a L h.lt hlt)
  ·exact e
  ·exact absurd h'.eq.symm (h.nd b M h'.lt hlt)
 subst hLM
 refine ⟨?_,rfl⟩
 rcases Nat.lt_trichotomy a b with hlt | e | hlt
 ·exact absurd (h.eq.symm.trans h'.eq) (h.nd a b hlt h'.lt)
 ·exact e
 ·exact absurd (h'.eq.symm.trans h.eq) (h.nd b a hlt h.lt)
noncomputable def per1 (n:Nat) (f:List Nat):Bool:=@decide (∃ a,Rnd f n a (a+1)) (Classical.propDecidable _)
theorem per1_eq {f:List Nat} {n a L:Nat} (h:Rnd f n a L):per1 n f=decide ((L:Int) - a=1):=by
 unfold per1
 by_cases e:L=a+1
 ·subst e
  rw [@decide_eq_true _ (Classical.propDecidable _) ⟨a,h⟩,decide_eq_true (by omega)]
 ·have hn:¬ ∃ b,Rnd f n b (b+1):=fun ⟨b,hb⟩=>by
   obtain ⟨e1,e2⟩:=h.uniq hb
   omega
  rw [@decide_eq_false _ (Classical.propDecidable _) hn,decide_eq_false (by omega)]
theorem p64 (f:List Nat) (n:Nat) (hf:Ok f n) {K:PV→Heap→Prop} (hK:∀ a L,Rnd f n a L→L≤3125→K (.tup [.int .i64 a,.int .i64 ((L:Int) - a)]) []):ACall Tryz.prog 64 [.agg (ints (mp f))] [] K:=by
 have h6f:=hf.mp_len
 have h1:=hf.pos
 have h5:=hf.le
 have h06:=(range_okR h1 h5).mp_len
 have hp0:(mp f).getD 0 0=(n:Int):=by rw [mp,hf.len]; rfl
 refine e64 (by simp) fun _ _=>?_
 simp only [k64,argEnv,h6f,hp0,go_sem]
 try simp only [OpK_eq,HKv,h6f,hp0,mp_get0,hf.len,go_sem]
 refine (p136 n h1 h5).go ?_
 try simp only [OpK_eq,HKv,h06,go_sem]
 refine KL_ind k64_b1.eq_1 (fun x:Nat × Nat × Heap=>[(1,.fptr (ints (mp f)) 0),(4,.ref 0 x.2.1 0 x.1)]) (fun x=>.arr x.2.1 48 6 (aggs ((List.range x.1).map fun k=>mp (itM f n k))) :: x.2.2) (fun x=>1≤x.1∧∀ i j,i<j→j<x.1→itM f n i≠itM f n j) (fun x=>3126 - x.1) [1,4] (1,0,[]) (by simp [keep]) (by try rw [show (List.range 1).map (fun k=>mp (itM f n k)) = [mp (List.range n)] by simp [itM_zero]]; rfl) ⟨Nat.le_refl _,fun i j h1 h2=>by omega⟩ fun ⟨L,ver,X⟩ ⟨hL,hnd⟩ ih=>?_
 simp only at hL hnd
 have hfew:=pow_few hf hnd
 have hgl:((List.range L).map fun k=>mp (itM f n k)).getD (L - 1) []=mp (itM f n (L - 1)):=by
  rw [List.getD_eq_getElem?_getD,List.getElem?_map,List.getElem?_range (by omega)]; rfl
 have hO:=itM_ok hf (L - 1)
 have hOL:=itM_ok hf L
 have h6O:=hO.mp_len
 have h6L:=hOL.mp_len
 have hnat:((L:Int) - 1).toNat=L - 1:=by omega
 have hal:((List.range L).map fun k=>mp (itM f n k)).length=L:=by simp
 have h00:∀ (a:AObj) (Y:Heap),(a :: Y)[0]? = some a:=fun a Y=>rfl
 try simp only [OpK_eq,HKv,h00,aggs_length,hal,hnat,hgl,h6O,h6f,go_sem]
 refine ⟨by omega,⟨by omega,by omega,Nat.le_refl _⟩,by omega,fun _=>?_⟩
 refine (p137 _ f n hO hf).pgo ?_
 have hmul:mul (itM f n (L - 1)) f=itM f n L:=by
  have:=itM_mul hf (L - 1) 1
  rwa [itM_one hf,Nat.sub_add_cancel hL] at this
 rw [hmul]
 have hil:(ints (mp (itM f n L))).length=6:=by rw [ints_length,h6L]
 have hgb:∀ (a:AObj) (Y:Heap) (z:AObj),(a :: (Y ++ [z]))[Y.length+1]? = some z:=fun a Y z=>by simp
 have hsb:∀ (a:AObj) (Y:Heap) (z z':AObj),(a :: (Y ++ [z])).set (Y.length+1) z'=a :: (Y ++ [z']):=fun a Y z z'=>by simp [List.set_append_right]
 try simp only [OpK_eq,HKv,h00,hil,List.length_cons,List.cons_append,hgb,hsb,h6L,go_sem]
 refine KL_ind k64_b0.eq_1 (fun k:Nat=>[(1,.fptr (ints (mp f)) 0),(4,.ref 0 ver 0 L),(5,.ptr (X.length+1) 0),(6,.int .i64 k)]) (fun _=>.arr ver 48 6 (aggs ((List.range L).map fun k=>mp (itM f n k))) :: (X ++ [.box (ints (mp (itM f n L)))])) (fun k=>k≤L∧∀ j,j<k→itM f n j≠itM f n L) (fun k=>L - k) [1,4,5,6] 0 (by simp [keep]) rfl ⟨Nat.zero_le _,fun j h=>by omega⟩ fun k ⟨hk,hne⟩ ihk=>?_
 try simp only [OpK_eq,HKv,h00,aggs_length,hal,go_sem]
 refine ⟨fun g1=>?_,fun g1=>?_⟩
 ·have hkL:k<L:=by omega
  have hgk:((List.range L).map fun k=>mp (itM f n k)).getD k []=mp (itM f n k):=by
   rw [List.getD_eq_getElem?_getD,List.getElem?_map,List.getElem?_range hkL]; rfl
  have h6k:=(itM_ok hf k).mp_len
  have hcd:decide (mp (itM f n k)=mp (itM f n L))=decide (itM f n k=itM f n L):=decide_eq_decide.2 ⟨mp_inj,fun h=>by rw [h]⟩
  try simp only [OpK_eq,HKv,h00,aggs_length,hal,hgk,h6k,h6L,hgb,hcd,go_sem]
  refine ⟨⟨by omega,Nat.le_refl _⟩,hkL,fun _=>⟨fun h=>⟨by omega,Kv.Fin.still (hK k L ⟨hkL,(mp_inj h).symm,hnd⟩ hfew)⟩,fun h=>⟨by omega,ihk (k+1) ⟨by omega,fun j hj e=>?_⟩ (by omega) _ _ (by simp [keep]) rfl⟩⟩⟩
  by_cases hjk:j=k
  ·subst hjk; exact h (by rw [e])
  ·exact hne j (by omega) e
 ·obtain rfl:k=L:=by omega
  try simp only [OpK_eq,HKv,h00,aggs_length,hal,hgb,h6L,go_sem]
  refine ⟨⟨Nat.le_refl _,by omega⟩,ih (k+1,ver+1,X ++ [.box (ints (mp (itM f n k)))]) ⟨by show 1≤k+1; omega,fun i j h1 h2 e=>?_⟩ (by show 3126 - (k+1)<3126 - k; omega) _ _ (by simp [keep]) ?_⟩
  ·by_cases hj:j=k
   ·subst hj; exact hne i h1 e
   ·exact hnd i j h1 (by have:j<k+1:=h2; omega) e
  ·simp [aggs,List.range_succ]
   exact List.take_of_length_le (by simp)
theorem p59 (m:List PV) [StillL m] (S:List (List Int)) (hS:S.length≤1048576) (hml:m.length=3127) (hm0:m[0]? = some (.list (aggs S))) (fid:FuncId) (caps:List PV) [hc:StillL caps] (p:Nat→Bool) (hp:∀ i,i<S.length→Pure Tryz.prog fid (.int .i64 i :: caps) (.bool (p i))) :
  Pure Tryz.prog 59 [.fptr m 0,.fn (.func fid) [] caps] (.bool ((List.range S.length).all p)):=by
 refine e59 (by simp) fun _ _=>?_
 simp only [k59,argEnv,go_sem]
 try simp only [OpK_eq,HKv,hml,hm0,aggs_length,go_sem]
 refine KL_ind k59_b0.eq_1 (fun x:Nat=>[(1,.fn (.func fid) [] caps),(10,.int .i64 S.length),(11,.int .i64 x)]) (fun _=>[]) (fun x=>x≤S.length∧(List.range x).all p=true) (fun x=>S.length - x) [1,10,11] 0 (by simp [keep]) rfl ⟨Nat.zero_le _,rfl⟩ fun x ⟨hx,hall⟩ ih=>?_
 try simp only [OpK_eq,HKv,go_sem]
 refine ⟨fun g1=>?_,fun g1=>?_⟩
 ·have hxl:x<S.length:=by omega
  refine (hp x hxl).go ?_
  cases hpx:p x with
  | false =>
   try simp only [OpK_eq,HKv,go_sem]
   refine Kv.Fin.still ⟨?_,rfl⟩
   rw [List.all_eq_false.2 ⟨x,List.mem_range.2 hxl,by simp [hpx]⟩]
  | true =>
   try simp only [OpK_eq,HKv,go_sem]
   refine ⟨by omega,ih (x+1) ⟨by omega,?_⟩ (by omega) _ _ (by simp [keep]) rfl⟩
   rw [List.range_succ,List.all_append,hall]; simp [hpx]
 ·obtain rfl:x=S.length:=by omega
  exact Kv.Fin.still ⟨by rw [hall],rfl⟩
theorem p60 (m:List PV) [StillL m] (S:List (List Nat)) (n:Nat) (hS:∀ f∈S,Ok f n) (hSl:S.length≤1048576) (hml:m.length=3127) (hm0:m[0]? = some (.list (aggs (S.map mp)))) (i:Nat) (hi:i<S.length) :
  Pure Tryz.prog 60 [.int .i64 i,.fptr [.fptr m 0] 0] (.bool (per1 n (S.getD i []))):=by
 have hg:(S.map mp).getD i []=mp S[i]:=by simp [List.getD_eq_getElem?_getD,hi]
 have hg2:S.getD i []=S[i]:=by simp [List.getD_eq_getElem?_getD,hi]
 have hO:=hS _ (List.getElem_mem hi)
 have h6:=hO.mp_len
 rw [hg2]
 refine e60 (by simp) fun _ _=>?_
 simp only [k60,argEnv,go_sem]
 try simp only [OpK_eq,HKv,hml,hm0,aggs_length,List.length_map,hg,h6,go_sem]
 refine ⟨by omega,fun _=>?_⟩
 refine p61 S[i] n hO fun a L hR hL=>?_
 rw [per1_eq hR]
 try simp only [OpK_eq,HKv,go_sem]
 exact Kv.Fin.still ⟨rfl,rfl⟩
end
end
end Go.Proofs.YtcfmmmloeaggmaaGreat
